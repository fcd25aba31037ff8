/- Append to a slice that is full: what comes of it lies in a block of its own. -/
import Derived.ArgAppend
import Derived.Test.YtdbnfhpgmcjngabMa
namespace Go.Proofs.Ytdbnfhpgmcjngab
open Go Go.RowKit

theorem grown_none {w w' : World} (h : w.grownBy w' none) : Pr w w' := ⟨h.os, h.tape, h.output, h.size, fun k hk => h.block k hk (by simp)⟩

section
variable {P : Program} {w : World}
theorem run_append_full (t ty e : TypeId) (i : TypeInfo) (z : Value) (size bytes : Nat) (ht : P.underlying t = some (.slice e)) (hi : P.info? e = some i) (hz : i.zero = some z)
    (hsize : i.size = size) (hby : i.bytes = bytes) (hzs : z.cells.size = size) (hsz : 0 < size)
    (ao : Option Addr) (n : Nat) (olds : List Value) (hlo : olds.length = n * size) (holds : 0 < n → ∃ b, ao = some b ∧ ∀ j u, olds[j]? = some u → w.cell? (b.add j) = some u)
    (ad : Addr) (m c : Nat) (news : List Value) (hl : news.length = m * size) (hnews : ∀ j u, news[j]? = some u → w.cell? (ad.add j) = some u) (h1 : ∀ u ∈ news, u.oneCell' = true)
    (hm : 0 < m) (h63 : n + m ≤ maxLen) (hbytes : (n + m) * bytes ≤ 140737488355328) :
    ∃ g cap w', (Builtin.append_ #[t, t] ty #[.slice ao n n, .slice (some ad) m c]).run P w = .ok (.slice (some ⟨g, 0, none⟩) (n + m) cap) w' ∧
      w'.ownsRow w.heap.size e size (.slice (some ⟨g, 0, none⟩) (n + m) cap) (n + m) (olds ++ news) ∧ Pr w w' := by
  cases ao with
  | some b =>
    obtain ⟨v', w', hr, ho, hg⟩ := run_append_arg_grows (P := P) w t ty e i z size bytes ht hi hz hsize hby hzs hsz b n n olds hlo (by
      intro j u hu
      by_cases hn : 0 < n
      · obtain ⟨b', hb', hc⟩ := holds hn
        cases hb'; exact hc j u hu
      · obtain rfl : n = 0 := by omega
        obtain rfl : olds = [] := List.eq_nil_of_length_eq_zero (by simpa using hlo)
        simp at hu) ad m c news hl hnews (by omega) h63 hbytes
    obtain ⟨g, cap, rfl, _, _⟩ := ho.form (by omega)
    exact ⟨g, cap, w', hr, ho, grown_none hg⟩
  | none =>
    obtain rfl : n = 0 := by
      by_cases hn : 0 < n
      · obtain ⟨b, hb, _⟩ := holds hn; cases hb
      · omega
    obtain rfl : olds = [] := List.eq_nil_of_length_eq_zero (by simpa using hlo)
    obtain ⟨g, cap, w', hr, ho, hg, _, _⟩ := run_append_lies (P := P) w t ty w.heap.size e i z size bytes ht hi hz hsize hby hzs hsz (.slice none 0 0) 0 [] (World.ownsRow_nil w _ e size) ad m c news hl hnews h1 hm h63 hbytes (Nat.le_refl _) _ rfl
    exact ⟨g, cap, w', hr, ho, grown_none hg⟩

theorem step_append_full {ops : Array Oper} {o : Oper} {a : Act} {K : Act → World → Prop} {Q : Exit → Act → World → Prop} {E : Prop} (hgd : o.guard = none) (s x : Operand) (t : TypeId)
    (ho : o.op = .call { callee := .builtin .append, args := #[s, x], argTypes := #[t, t] })
    (e : TypeId) (i : TypeInfo) (z : Value) (size bytes : Nat) (ht : P.underlying t = some (.slice e)) (hi : P.info? e = some i) (hz : i.zero = some z)
    (hsize : i.size = size) (hby : i.bytes = bytes) (hzs : z.cells.size = size) (hsz : 0 < size)
    (ao : Option Addr) (n : Nat) (olds : List Value) (hs : a.eval s = .slice ao n n) (hlo : olds.length = n * size) (holds : 0 < n → ∃ b, ao = some b ∧ ∀ j u, olds[j]? = some u → w.cell? (b.add j) = some u)
    (ad : Addr) (m c : Nat) (news : List Value) (hx : a.eval x = .slice (some ad) m c) (hl : news.length = m * size) (hnews : ∀ j u, news[j]? = some u → w.cell? (ad.add j) = some u) (h1 : ∀ u ∈ news, u.oneCell' = true)
    (hm : 0 < m) (h63 : n + m ≤ maxLen) (hbytes : (n + m) * bytes ≤ 140737488355328)
    (h : ∀ g cap w', w'.ownsRow w.heap.size e size (.slice (some ⟨g, 0, none⟩) (n + m) cap) (n + m) (olds ++ news) → Pr w w' → K (a.put o.dst (.slice (some ⟨g, 0, none⟩) (n + m) cap)) w') :
    if Region.wanted o (yielded ops a.tmps) = true then Oper.wp P o a w K Q else E := by
  have hw : Region.wanted o (yielded ops a.tmps) = true := by simp [Region.wanted, hgd]
  rw [if_pos hw]
  obtain ⟨g, cap, w', hr, h2, h3⟩ := run_append_full (P := P) t o.type e i z size bytes ht hi hz hsize hby hzs hsz ao n olds hlo holds ad m c news hl hnews h1 hm h63 hbytes
  unfold Oper.wp execOp
  simp only [ho, resolve, invoke, builtin, Sem.run_bind, Sem.run_pure, Result.andThen_ok, List.map_toArray, List.map_cons, List.map_nil, hs, hx, hr]
  exact h g cap w' h2 h3

/-- Append to nil, of some or none, at a step of a region that draws its order. -/
theorem step_append_nil {ops : Array Oper} {o : Oper} {a : Act} {K : Act → World → Prop} {Q : Exit → Act → World → Prop} {E : Prop} (hgd : o.guard = none) (s x : Operand) (t : TypeId)
    (ho : o.op = .call { callee := .builtin .append, args := #[s, x], argTypes := #[t, t] })
    (e : TypeId) (i : TypeInfo) (z : Value) (size bytes : Nat) (ht : P.underlying t = some (.slice e)) (hi : P.info? e = some i) (hz : i.zero = some z)
    (hsize : i.size = size) (hby : i.bytes = bytes) (hzs : z.cells.size = size) (hsz : 0 < size) (hs : a.eval s = .slice none 0 0)
    (ao : Option Addr) (m c : Nat) (news : List Value) (hx : a.eval x = .slice ao m c) (hl : news.length = m * size) (hnews : 0 < m → ∃ ad, ao = some ad ∧ ∀ j u, news[j]? = some u → w.cell? (ad.add j) = some u) (h1 : ∀ u ∈ news, u.oneCell' = true)
    (h63 : m ≤ maxLen) (hbytes : m * bytes ≤ 140737488355328)
    (h : ∀ v' w', w'.ownsRow w.heap.size e size v' m news → Pr w w' → K (a.put o.dst v') w') :
    if Region.wanted o (yielded ops a.tmps) = true then Oper.wp P o a w K Q else E := by
  by_cases hm : 0 < m
  · obtain ⟨ad, rfl, hc⟩ := hnews hm
    refine step_append_full hgd s x t ho e i z size bytes ht hi hz hsize hby hzs hsz none 0 [] hs (by simp) (fun h => absurd h (Nat.lt_irrefl 0)) ad m c news hx hl hc h1 hm (by omega) (by simpa using hbytes) ?_
    intro g cap w' h2 h3
    rw [Nat.zero_add, List.nil_append] at h2
    rw [Nat.zero_add]
    exact h _ w' h2 h3
  · obtain rfl : m = 0 := by omega
    have hn0 : news = [] := List.eq_nil_of_length_eq_zero (by simpa using hl)
    subst hn0
    have hw : Region.wanted o (yielded ops a.tmps) = true := by simp [Region.wanted, hgd]
    rw [if_pos hw]
    have hrun := run_append_zero (P := P) (w := w) 0 t o.type e i size ht hi (.slice none 0 0) 0 [] (World.ownsRow_nil w _ e size) ao c
    unfold Oper.wp execOp
    simp only [ho, resolve, invoke, builtin, Sem.run_bind, Sem.run_pure, Result.andThen_ok, List.map_toArray, List.map_cons, List.map_nil, hs, hx, hrun]
    exact h _ w (World.ownsRow_nil w _ e size) (Pr.refl w)
end

theorem KidsAt.vals {S : Nat → Prop} {w : World} : ∀ {ts : List Tr} {b o : Nat}, KidsAt S w ts b o → ∃ xs, Tvals S w ts xs ∧ ∀ j u, xs[j]? = some u → w.cell? ⟨b, o + j, none⟩ = some u
  | [], _, _, _ => ⟨[], rfl, by simp⟩
  | k :: ks, b, o, ⟨vl, vk, h1, h2, h3, h4⟩ => by
    obtain ⟨xs, hx, hc⟩ := h4.vals
    refine ⟨vl :: vk :: xs, ⟨vl, vk, xs, rfl, h3, hx⟩, fun j u hu => ?_⟩
    match j with
    | 0 => simp at hu; subst hu; exact h1
    | 1 => simp at hu; subst hu; exact h2
    | j + 2 => simp at hu; rw [show o + (j + 2) = o + 2 + j by omega]; exact hc j u hu
theorem Tvals.one {S : Nat → Prop} {w : World} : ∀ {ts : List Tr} {xs}, Tvals S w ts xs → ∀ u ∈ xs, u.oneCell' = true
  | [], xs, h, u, hu => by cases (show xs = [] from h); cases hu
  | t :: ts, xs, ⟨vl, vk, ys, e, h1, h2⟩, u, hu => by
    subst e
    simp only [List.mem_cons] at hu
    rcases hu with rfl | rfl | hu
    · exact h1.one.1
    · exact h1.one.2
    · exact Tvals.one h2 u hu
theorem Kids.vals {S : Nat → Prop} {w : World} {ts : List Tr} {oa : Option Addr} {cap : Nat} (h : Kids S w ts oa cap) : ∃ xs, Tvals S w ts xs ∧ (0 < ts.length → ∃ ad, oa = some ad ∧ ∀ j u, xs[j]? = some u → w.cell? (ad.add j) = some u) := by
  obtain ⟨_, b, o, h1, h2⟩ := h
  obtain ⟨xs, hx, hc⟩ := h2.vals
  refine ⟨xs, hx, fun hp => ⟨_, (h1 (by intro e; subst e; simp at hp)).1, fun j u hu => ?_⟩⟩
  rw [Addr.add_lit]; exact hc j u hu

theorem Kids.cutL {S : Nat → Prop} {w : World} {ts : List Tr} {oa : Option Addr} {cap : Nat} (h : Kids S w ts oa cap) (n : Nat) (hn : n ≤ ts.length) : Kids S w (ts.drop n) (Option.map (fun x => x.add (n * 2)) oa) (cap - n) := by
  obtain ⟨⟨h1, h2⟩, b, o, h3, h4⟩ := h
  refine ⟨⟨by rw [List.length_drop]; omega, by omega⟩, b, o + n * 2, fun hne => ?_, h4.drop n⟩
  have hne' : ts ≠ [] := by intro e; subst e; simp at hne
  rw [(h3 hne').1]
  exact ⟨by simp [Addr.add_lit], (h3 hne').2⟩
theorem Kids.cutR {S : Nat → Prop} {w : World} {ts : List Tr} {oa : Option Addr} {cap : Nat} (h : Kids S w ts oa cap) (n : Nat) (hn : n ≤ ts.length) : Kids S w (ts.take n) oa n := by
  obtain ⟨⟨h1, h2⟩, b, o, h3, h4⟩ := h
  refine ⟨⟨by rw [List.length_take]; omega, by omega⟩, b, o, fun hne => ?_, h4.take n⟩
  exact h3 (by intro e; subst e; simp at hne)
theorem Ints.cutR {S : Nat → Prop} {w : World} {xs : List Int} {oa : Option Addr} {cap : Nat} (h : Ints S w xs oa cap) (n : Nat) (hn : n ≤ xs.length) : Ints S w (xs.take n) oa n := by
  obtain ⟨⟨h1, h2⟩, b, o, h3, h4⟩ := h
  simp only [ints, List.length_map] at h1 h4
  refine ⟨⟨by simp only [ints, List.length_map, List.length_take]; omega, by omega⟩, b, o, fun hne => ?_, fun i hi => ?_⟩
  · exact h3 (by intro e; simp [ints] at e hne; exact hne.2 e)
  · simp only [ints, List.length_map, List.length_take] at hi
    have := h4 i (by omega)
    simpa [ints] using this
section
variable {ops : Array Oper} {o : Oper} {a : Act} {w : World} {Q : Exit → Act → World → Prop} {K : Act → World → Prop} {E : Prop}
/-- 'append(ts[:n:n], t)': a new block. -/
theorem step_tree_full (hgd : o.guard = none) (s x : Operand) (ho : o.op = .call { callee := .builtin .append, args := #[s, x], argTypes := #[22, 22] })
    (S : Nat → Prop) (ts : List Tr) (m : Nat) (hm : ts.length = m) (ao : Option Addr) (hs : a.eval s = .slice ao m m) (hk : Kids S w ts ao m) (B : Nat) (hx : a.eval x = .slice (some ⟨B, 0, none⟩) 1 1) (t : Tr) (vl vk : Value)
    (hB : w.heap[B]? = some (.cells #[vl, vk] 24 (0, 0))) (ht : TreeV S w t vl vk) (hlen : ts.length ≤ 1000000000)
    (h : ∀ g cap w', Kids (fun k => S k ∨ w.heap.size ≤ k) w' (ts ++ [t]) (some ⟨g, 0, none⟩) cap → Pr w w' → K (a.put o.dst (.slice (some ⟨g, 0, none⟩) (m + 1) cap)) w') :
    if Region.wanted o (yielded ops a.tmps) = true then Oper.wp Try.prog o a w K Q else E := by
  subst hm
  obtain ⟨i0, hi, hz0, hz1, hz2⟩ := info_parts info_tree
  obtain ⟨xs, h1, h2⟩ := hk.vals
  refine step_append_full hgd s x _ ho _ i0 _ 2 40 under_trees hi hz0 hz1 hz2 rfl (by omega) ao ts.length xs hs h1.length h2 ⟨B, 0, none⟩ 1 1 [vl, vk] hx rfl (World.news_of_block (cs := #[vl, vk]) hB)
    (by intro u hu; simp at hu; rcases hu with rfl | rfl; exact ht.one.1; exact ht.one.2) (by omega) (by unfold maxLen; omega) (by omega) ?_
  intro g cap w' g1 g2
  refine h g cap w' ?_ g2
  have hv : Tvals (fun k => S k ∨ w.heap.size ≤ k) w' (ts ++ [t]) (xs ++ [vl, vk]) := (h1.snoc ht).carry fun k hS hl => ⟨Below.block g2 k hl, .inl hS⟩
  obtain ⟨oa, cp, e, hk2⟩ := hv.kids (by rw [List.length_append]; exact g1) (fun k hk => .inr (g1.lt k hk).1)
  rw [Value.slice.injEq] at e; obtain ⟨e1, _, e3⟩ := e; rw [e1, e3]; exact hk2
/-- 'append(nil, ts...)'. -/
theorem step_trees_nil (hgd : o.guard = none) (s x : Operand) (ho : o.op = .call { callee := .builtin .append, args := #[s, x], argTypes := #[22, 22] })
    (hs : a.eval s = .slice none 0 0) (S : Nat → Prop) (ts : List Tr) (m : Nat) (hm : ts.length = m) (ao : Option Addr) (c : Nat) (hx : a.eval x = .slice ao m c) (hk : Kids S w ts ao c) (hlen : ts.length ≤ 1000000000)
    (h : ∀ ob cap w', Kids (fun k => S k ∨ w.heap.size ≤ k) w' ts ob cap → Pr w w' → K (a.put o.dst (.slice ob m cap)) w') :
    if Region.wanted o (yielded ops a.tmps) = true then Oper.wp Try.prog o a w K Q else E := by
  subst hm
  obtain ⟨i0, hi, hz0, hz1, hz2⟩ := info_parts info_tree
  obtain ⟨xs, h1, h2⟩ := hk.vals
  refine step_append_nil hgd s x _ ho _ i0 _ 2 40 under_trees hi hz0 hz1 hz2 rfl (by omega) hs ao ts.length c xs hx h1.length h2 h1.one (by unfold maxLen; omega) (by omega) ?_
  intro v' w' g1 g2
  have hv : Tvals (fun k => S k ∨ w.heap.size ≤ k) w' ts xs := h1.carry fun k hS hl => ⟨Below.block g2 k hl, .inl hS⟩
  obtain ⟨oa, cp, rfl, hk2⟩ := hv.kids g1 (fun k hk => .inr (g1.lt k hk).1)
  exact h oa cp w' hk2 g2
/-- 'append(ns[:n:n], n)': a new block. -/
theorem step_int_full (hgd : o.guard = none) (s x : Operand) (ho : o.op = .call { callee := .builtin .append, args := #[s, x], argTypes := #[38, 38] })
    (S : Nat → Prop) (xs : List Int) (m : Nat) (hm : xs.length = m) (ao : Option Addr) (hs : a.eval s = .slice ao m m) (hk : Ints S w xs ao m) (B : Nat) (hx : a.eval x = .slice (some ⟨B, 0, none⟩) 1 1) (y : Int)
    (hB : w.heap[B]? = some (.cells #[.int .i64 y] 3 (0, 0))) (hlen : xs.length ≤ 1000000000)
    (h : ∀ g cap w', Ints (fun k => w.heap.size ≤ k) w' (xs ++ [y]) (some ⟨g, 0, none⟩) cap → Pr w w' → K (a.put o.dst (.slice (some ⟨g, 0, none⟩) (m + 1) cap)) w') :
    if Region.wanted o (yielded ops a.tmps) = true then Oper.wp Try.prog o a w K Q else E := by
  subst hm
  obtain ⟨i0, hi, hz0, hz1, hz2⟩ := info_parts info_int
  refine step_append_full hgd s x _ ho _ i0 _ 1 8 under_intsT hi hz0 hz1 hz2 rfl (by omega) ao xs.length (ints xs) hs (by simp) ?_ ⟨B, 0, none⟩ 1 1 [.int .i64 y] hx rfl (World.news_of_block (cs := #[.int .i64 y]) hB)
    (by intro u hu; simp at hu; subst hu; rfl) (by omega) (by unfold maxLen; omega) (by omega) ?_
  · intro hp
    obtain ⟨_, b', o', h1, h2⟩ := hk
    have hne : ints xs ≠ [] := by intro e; have := congrArg List.length e; simp at this; subst this; simp at hp
    refine ⟨_, (h1 hne).1, fun j u hu => ?_⟩
    obtain ⟨hj, rfl⟩ := List.getElem?_eq_some_iff.1 hu
    rw [Addr.add_lit]; exact h2 j hj
  · intro g cap w' g1 g2
    refine h g cap w' ?_ g2
    have hv : OwnsIs w.heap.size w' (.slice (some ⟨g, 0, none⟩) (xs.length + 1) cap) (xs ++ [y]) := by
      unfold OwnsIs
      rw [List.length_append, List.length_singleton]
      have : ints (xs ++ [y]) = ints xs ++ [.int .i64 y] := by simp
      rw [this]; exact g1
    obtain ⟨oa, cp, e, hk2⟩ := hv.ints
    rw [Value.slice.injEq] at e; obtain ⟨e1, _, e3⟩ := e; rw [e1, e3]; exact hk2
end
end Go.Proofs.Ytdbnfhpgmcjngab
