/- The document's mixing of lists, part by part; its list in memory. -/
import Derived.Test.YtdbnfhpgmcjngabJc
import Derived.Test.YtdbnfhpgmcjngabMq
namespace Go.Proofs.Ytdbnfhpgmcjngab
open Go Go.RowKit

theorem at_len0 {p : List Int} {t u : Tr} (h : t.at? p = some u) : p.length + u.sz ≤ t.sz := by
  induction p generalizing t with
  | nil => cases h; simp
  | cons k p ih =>
    simp only [Tr.at?] at h
    cases hk : t.kid? k with
    | none => rw [hk] at h; cases h
    | some v => rw [hk] at h; have := ih h; have := Tr.kid?_sz hk; simp only [List.length_cons]; omega
/-- A deed that can be done has a short path. -/
theorem at_len {p : List Int} {t u : Tr} (h : t.at? p = some u) : p.length ≤ t.sz := by have := at_len0 h; omega
/-- The triples between which the parts stand. -/
def docT (o a b : List Tr) (H : List (Nat × Nat × Nat)) : List T3 := ((-1, -1, -1) :: tz H) ++ [((o.length : Int), (a.length : Int), (b.length : Int))]
theorem docT_length (o a b : List Tr) (H : List (Nat × Nat × Nat)) : (docT o a b H).length = H.length + 2 := by simp [docT, tz_length]
theorem docT_zero (o a b : List Tr) (H : List (Nat × Nat × Nat)) : (docT o a b H)[0]? = some (-1, -1, -1) := by simp [docT]
theorem docT_in (o a b : List Tr) (H : List (Nat × Nat × Nat)) (m : Nat) (h : m < H.length) : (docT o a b H)[m + 1]? = some ((H[m].1 : Int), (H[m].2.1 : Int), (H[m].2.2 : Int)) := by
  unfold docT
  rw [List.cons_append, List.getElem?_cons_succ, List.getElem?_append_left (by rw [tz_length]; exact h)]
  simp [tz, h]
theorem docT_last (o a b : List Tr) (H : List (Nat × Nat × Nat)) : (docT o a b H)[H.length + 1]? = some ((o.length : Int), (a.length : Int), (b.length : Int)) := by
  unfold docT
  rw [List.cons_append, List.getElem?_cons_succ, List.getElem?_append_right (by rw [tz_length]; exact Nat.le_refl _), tz_length]
  simp
theorem exMap_nil' (x : Ex (List Tr)) : exMap (fun rs => [] ++ rs) x = x := by cases x <;> rfl
/-- How far the lists are gone through: m of those that all have are behind; the next part begins at i, j, k. -/
structure DocRel (f : Tr → Tr → Tr → Ex Tr) (o a b : List Tr) (H : List (Nat × Nat × Nat)) (r : Ex (List Tr)) (m i j k : Nat) (ts : List Tr) : Prop where
  few : m ≤ H.length
  ok : HeldOk o a b i j k (H.drop m)
  at' : (docT o a b H)[m]? = some ((i : Int) - 1, (j : Int) - 1, (k : Int) - 1)
  io : i ≤ o.length
  ja : j ≤ a.length
  kb : k ≤ b.length
  sz : Tr.szL ts + Tr.szL (o.drop i) + Tr.szL (a.drop j) + Tr.szL (b.drop k) ≤ 3000
  res : r = exMap (fun rs => ts ++ rs) (segM f o a b (H.drop m) i j k)
section
variable {f : Tr → Tr → Tr → Ex Tr} {o a b : List Tr} {H : List (Nat × Nat × Nat)} {r : Ex (List Tr)} {m i j k : Nat} {ts : List Tr}
theorem DocRel.start (hH : HeldOk o a b 0 0 0 H) (hs : Tr.szL o + Tr.szL a + Tr.szL b ≤ 3000) : DocRel f o a b H (segM f o a b H 0 0 0) 0 0 0 0 [] :=
  ⟨Nat.zero_le _, hH, docT_zero o a b H, Nat.zero_le _, Nat.zero_le _, Nat.zero_le _, by simp [Tr.szL]; omega, by rw [exMap_nil']; rfl⟩
/-- One part, between the triples m and m + 1. -/
theorem DocRel.step (h : DocRel f o a b H r m i j k ts) (hf : ∀ o a b t, f o a b = .ok t → t.sz ≤ o.sz + a.sz + b.sz) : ∃ n p q : Nat, (docT o a b H)[m + 1]? = some ((n : Int), (p : Int), (q : Int)) ∧
    (i ≤ n ∧ n ≤ o.length ∧ j ≤ p ∧ p ≤ a.length ∧ k ≤ q ∧ q ≤ b.length) ∧
    (∀ e, partM f ((o.drop i).take (n - i)) ((a.drop j).take (p - j)) ((b.drop k).take (q - k)) i = .error e → r = .error e) ∧
    ∀ s, partM f ((o.drop i).take (n - i)) ((a.drop j).take (p - j)) ((b.drop k).take (q - k)) i = .ok s → Tr.szL (ts ++ s) ≤ 3000 ∧
      (m < H.length → n < o.length ∧ Tr.szL (ts ++ s ++ [kidN o n]) ≤ 3000 ∧ DocRel f o a b H r (m + 1) (n + 1) (p + 1) (q + 1) (ts ++ s ++ [kidN o n])) ∧ (m = H.length → r = .ok (ts ++ s)) := by
  obtain ⟨h1, h2, h3, h4, h5, h6, h7, h8⟩ := h
  by_cases hm : m < H.length
  · have hd := List.drop_eq_getElem_cons hm
    obtain ⟨g, hg⟩ : ∃ g, H[m] = g := ⟨_, rfl⟩
    obtain ⟨n, p, q⟩ := g
    rw [hg] at hd
    rw [hd] at h2 h8
    have hmem := h2.2 (n, p, q) (by simp)
    simp only [] at hmem
    refine ⟨n, p, q, ?_, ⟨hmem.1.1, by omega, hmem.2.1.1, by omega, hmem.2.2.1, by omega⟩, fun e he => ?_, fun s hs => ?_⟩
    · rw [docT_in o a b H m hm, hg]
    · rw [h8, segM]; simp only [he]; rfl
    · have z := partM_sz hf _ _ _ _ _ hs
      have z1 := szL_seg o hmem.1.1 hmem.1.2
      have z2 := szL_seg a hmem.2.1.1 hmem.2.1.2
      have z3 := szL_seg b hmem.2.2.1 hmem.2.2.2
      have hsz : Tr.szL (ts ++ s ++ [kidN o n]) ≤ 3000 := by
        rw [Tr.szL_append, Tr.szL_append]; simp only [Tr.szL]; omega
      refine ⟨by rw [Tr.szL_append]; omega, fun _ => ⟨hmem.1.2, hsz, ⟨hm, h2.tail, ?_, hmem.1.2, hmem.2.1.2, hmem.2.2.2, ?_, ?_⟩⟩, fun e => by omega⟩
      · rw [docT_in o a b H m hm, hg]; simp
      · rw [Tr.szL_append, Tr.szL_append]
        simp only [Tr.szL]; omega
      · rw [h8, segM]
        simp only [hs]
        cases segM f o a b (H.drop (m + 1)) (n + 1) (p + 1) (q + 1) with
        | error e => rfl
        | ok rs => simp [exMap]
  · have hme : m = H.length := by omega
    have e : H.drop m = [] := by rw [hme, List.drop_length]
    rw [e, segM] at h8
    have t1 : (o.drop i).take (o.length - i) = o.drop i := by rw [List.take_of_length_le]; rw [List.length_drop]; omega
    have t2 : (a.drop j).take (a.length - j) = a.drop j := by rw [List.take_of_length_le]; rw [List.length_drop]; omega
    have t3 : (b.drop k).take (b.length - k) = b.drop k := by rw [List.take_of_length_le]; rw [List.length_drop]; omega
    refine ⟨o.length, a.length, b.length, by rw [hme]; exact docT_last o a b H, ⟨h4, Nat.le_refl _, h5, Nat.le_refl _, h6, Nat.le_refl _⟩, fun e he => ?_, fun s hs => ?_⟩
    · rw [t1, t2, t3] at he; rw [h8, he]; rfl
    · rw [t1, t2, t3] at hs
      have z := partM_sz hf _ _ _ _ _ hs
      exact ⟨by rw [Tr.szL_append]; omega, fun h => by omega, fun _ => by rw [h8, hs]; rfl⟩
end

theorem two_new (w : World) (x y : Obj) : ((w.alloc x).alloc y).drew.heap[w.heap.size]? = some x ∧ ((w.alloc x).alloc y).drew.heap[w.heap.size + 1]? = some y ∧ Pr w ((w.alloc x).alloc y).drew := by
  have h1 := heap_alloc_new w x
  have h2 := heap_alloc_new (w.alloc x) y
  have hs : (w.alloc x).heap.size = w.heap.size + 1 := by simp
  rw [hs] at h2
  exact ⟨(Pr.drew _).blk ((Pr.alloc _ _).blk h1), (Pr.drew _).blk h2, ((Pr.alloc _ _).alloc' _).drew'⟩
/-- The document's list, in its variable's block Bo: trees that lie low, or behind the call's beginning; in a slice of one's own, made behind the world wl. -/
structure MixInv (wl : World) (Bo : Nat) (l : ByteArray) (M base : Nat) (wr : World) (v : Value) (ts : List Tr) : Prop where
  chg : Chg (fun k => k = Bo) wl wr
  blk : wr.heap[Bo]? = some (.cells #[.string l, v] 24 (0, 0))
  row : OwnsX (fun k => (k < M ∨ base ≤ k) ∧ k ≠ Bo ∧ v.ownBlock ≠ some k) wr wl.heap.size wr v ts
section
variable {wl wr w' : World} {Bo : Nat} {l : ByteArray} {M base : Nat} {v : Value} {ts : List Tr}
theorem MixInv.pr (h : MixInv wl Bo l M base wr v ts) (hp : Pr wr w') : MixInv wl Bo l M base w' v ts := by
  obtain ⟨xs, h1, h2⟩ := h.row
  exact ⟨h.chg.pr hp, hp.blk h.blk, xs, ownsRow_kept h1 (fun k hk => Below.block hp k (h1.lt k hk).2), h2.carry fun k hS hl => ⟨Below.block hp k hl, hS⟩⟩
theorem MixInv.start (hb : wl.heap[Bo]? = some (.cells #[.string l, .slice none 0 0] 24 (0, 0))) : MixInv wl Bo l M base wl (.slice none 0 0) [] :=
  ⟨Chg.refl _ _, hb, OwnsX.nil _ _ _ _⟩
/-- Trees were appended; the variable holds the slice now. -/
theorem MixInv.app (h : MixInv wl Bo l M base wr v ts) (hB : Bo < wl.heap.size) {v' : Value} {ts' : List Tr} (ho : OwnsX (fun k => (k < M ∨ base ≤ k) ∧ k ≠ Bo ∧ v.ownBlock ≠ some k) wr wl.heap.size w' v' ts') (hg : wr.grownBy w' v.ownBlock)
    (hd : ∀ k, v'.ownBlock = some k → v.ownBlock = some k ∨ k = wr.heap.size) : MixInv wl Bo l M base (w'.setCell ⟨Bo, 1, none⟩ v') v' ts' := by
  obtain ⟨xs, g1, g2⟩ := ho
  have hvb : ∀ k, v.ownBlock = some k → wl.heap.size ≤ k ∧ k < wr.heap.size := fun k hk => h.row.block k hk
  have hw := h.chg.size
  have hne : ∀ k, v'.ownBlock = some k → k ≠ Bo := fun k hk => by
    rcases hd k hk with e | e
    · have := hvb k e; omega
    · omega
  have hnb : v.ownBlock ≠ some Bo := fun e => by have := hvb Bo e; omega
  refine ⟨?_, ?_, xs, ownsRow_kept g1 (fun k hk => Below.heap_setCell _ _ _ _ (fun e => hne k hk e)), g2.carry fun k hS hl => ⟨?_, hS.1, hS.2.1, fun e => ?_⟩⟩
  · refine (h.chg.trans (chg_grown hg) (fun k hk => .inr (hvb k hk).1)).setCell _ _ (.inl rfl)
  · exact blk_set (o := 1) (grown_blk hg h.blk hnb) v'
  · rw [Below.heap_setCell _ _ _ _ (fun e => hS.2.1 e)]
    exact hg.block k hl (fun e => hS.2.2 e.symm)
  · rcases hd k e with e' | e'
    · exact hS.2.2 e'
    · omega
/-- The list, as it is told. -/
theorem MixInv.kids (h : MixInv wl Bo l M base wr v ts) (hb : base ≤ wl.heap.size) (hB : Bo < wl.heap.size) : ∃ oa cap, v = .slice oa ts.length cap ∧ Kids (fun k => (k < M ∨ base ≤ k) ∧ k ≠ Bo) wr ts oa cap := by
  obtain ⟨xs, h1, h2⟩ := h.row
  refine Tvals.kids (h2.carry fun k hS hl => ⟨rfl, hS.1, hS.2.1⟩) h1 fun k hk => ⟨.inr (by have := (h1.lt k hk).1; omega), fun e => by have := (h1.lt k hk).1; omega⟩
end
section
variable {ops : Array Oper} {o : Oper} {a : Act} {w : World} {rest : List Oper} {Q : Exit → Act → World → Prop} {K : Act → World → Prop} {E : Prop}
/-- 'append(trees, t)'; what stands beneath the trees lies apart. -/
theorem app_treeM (hgd : o.guard = none) (s x : Operand) (ho : o.op = .call { callee := .builtin .append, args := #[s, x], argTypes := #[22, 22] })
    (S : Nat → Prop) (w0 : World) (b : Nat) (v : Value) (ts : List Tr) (hs : a.eval s = v) (hown : OwnsX S w0 b w v ts) (B : Nat) (hx : a.eval x = .slice (some ⟨B, 0, none⟩) 1 1) (t : Tr) (vl vk : Value)
    (hB : w.heap[B]? = some (.cells #[vl, vk] 24 (0, 0))) (ht : TreeV S w0 t vl vk) (hlen : ts.length ≤ 1000000000) (hbase : b ≤ w.heap.size)
    (h : ∀ g cap w', OwnsX S w0 b w' (.slice (some ⟨g, 0, none⟩) (ts.length + 1) cap) (ts ++ [t]) → w.grownBy w' v.ownBlock → (v.ownBlock = some g ∨ g = w.heap.size) → wpList Try.prog ops Q rest (a.put o.dst (.slice (some ⟨g, 0, none⟩) (ts.length + 1) cap)) w') :
    wpList Try.prog ops Q (o :: rest) a w := by
  obtain ⟨i0, hi, hz0, hz1, hz2⟩ := info_parts info_tree
  obtain ⟨xs, h1, h2⟩ := hown
  refine wpList_append_lies w hgd s x _ ho b _ i0 _ 2 40 under_trees hi hz0 hz1 hz2 rfl (by omega) v ts.length xs hs h1 ⟨B, 0, none⟩ 1 1 [vl, vk] hx rfl (World.news_of_block (cs := #[vl, vk]) hB)
    (by intro u hu; simp at hu; rcases hu with rfl | rfl; exact ht.one.1; exact ht.one.2) (by omega) (by unfold maxLen; omega) (by omega) hbase w.heap.size rfl ?_
  intro g cap w' g1 g2 g3 _
  refine h g cap w' ⟨xs ++ [vl, vk], ?_, h2.snoc ht⟩ g2 g3
  rw [List.length_append, List.length_singleton]; exact g1
/-- The same, at a step of a region that draws its order. -/
theorem step_treeM (hgd : o.guard = none) (s x : Operand) (ho : o.op = .call { callee := .builtin .append, args := #[s, x], argTypes := #[22, 22] })
    (S : Nat → Prop) (w0 : World) (b : Nat) (v : Value) (ts : List Tr) (hs : a.eval s = v) (hown : OwnsX S w0 b w v ts) (B : Nat) (hx : a.eval x = .slice (some ⟨B, 0, none⟩) 1 1) (t : Tr) (vl vk : Value)
    (hB : w.heap[B]? = some (.cells #[vl, vk] 24 (0, 0))) (ht : TreeV S w0 t vl vk) (hlen : ts.length ≤ 1000000000) (hbase : b ≤ w.heap.size)
    (h : ∀ g cap w', OwnsX S w0 b w' (.slice (some ⟨g, 0, none⟩) (ts.length + 1) cap) (ts ++ [t]) → w.grownBy w' v.ownBlock → (v.ownBlock = some g ∨ g = w.heap.size) → K (a.put o.dst (.slice (some ⟨g, 0, none⟩) (ts.length + 1) cap)) w') :
    if Region.wanted o (yielded ops a.tmps) = true then Oper.wp Try.prog o a w K Q else E := by
  obtain ⟨i0, hi, hz0, hz1, hz2⟩ := info_parts info_tree
  obtain ⟨xs, h1, h2⟩ := hown
  refine step_append_lies w hgd s x _ ho b _ i0 _ 2 40 under_trees hi hz0 hz1 hz2 rfl (by omega) v ts.length xs hs h1 ⟨B, 0, none⟩ 1 1 [vl, vk] hx rfl (World.news_of_block (cs := #[vl, vk]) hB)
    (by intro u hu; simp at hu; rcases hu with rfl | rfl; exact ht.one.1; exact ht.one.2) (by omega) (by unfold maxLen; omega) (by omega) hbase w.heap.size rfl ?_
  intro g cap w' g1 g2 g3 _
  refine h g cap w' ⟨xs ++ [vl, vk], ?_, h2.snoc ht⟩ g2 g3
  rw [List.length_append, List.length_singleton]; exact g1
end
theorem Chg.to_prM {X : Nat → Prop} {w w1 w2 : World} (h : Chg X w1 w2) (hp : Pr w w1) (hX : ∀ k, X k → w.heap.size ≤ k) : Pr w w2 := ((hp.chg X).trans h (fun _ h => .inl h)).to_pr hX
theorem Chg.cell9 {X : Nat → Prop} {w w1 : World} (h : Chg X w w1) {b o : Nat} {v : Value} (hc : w.cell? ⟨b, o, none⟩ = some v) (hX : ¬ X b) : w1.cell? ⟨b, o, none⟩ = some v := by
  rw [World.cell?_of_block (h.block b (lt_of_cell hc) hX)]; exact hc
theorem OwnsX.isSlice {S : Nat → Prop} {w0 w : World} {b : Nat} {v : Value} {ts : List Tr} (h : OwnsX S w0 b w v ts) : ∃ o n c, v = .slice o n c := by
  obtain ⟨xs, h1, _⟩ := h
  obtain ⟨o, c, e, _⟩ := ownsRow_slice h1
  exact ⟨o, _, c, e⟩
/-- What an append to the list leaves: the variable's two cells, and it is not shut. -/
theorem MixInv.grownB {wl wr w' : World} {Bo : Nat} {l : ByteArray} {M base : Nat} {v : Value} {ts : List Tr} (h : MixInv wl Bo l M base wr v ts) (hB : Bo < wl.heap.size) (hg : wr.grownBy w' v.ownBlock) :
    w'.cell? ⟨Bo, 1, none⟩ = some v ∧ w'.frozen? ⟨Bo, 1, none⟩ = false := by
  have hnb : v.ownBlock ≠ some Bo := fun e => by have := h.row.block Bo e; omega
  have hb := grown_blk hg h.blk hnb
  exact ⟨blk_cell (o := 1) hb, blk_frozen hb⟩
/-- Another block of one's own is as it was. -/
theorem MixInv.other {wl wr w' : World} {Bo : Nat} {l : ByteArray} {M base : Nat} {v : Value} {ts : List Tr} (h : MixInv wl Bo l M base wr v ts) (hg : wr.grownBy w' v.ownBlock) (u : Value) {b : Nat} {x : Obj} (hx : wr.heap[b]? = some x) (h1 : b ≠ Bo) (h2 : v.ownBlock ≠ some b) : (w'.setCell ⟨Bo, 1, none⟩ u).heap[b]? = some x := by
  have := h.blk
  rw [Below.heap_setCell _ _ _ _ (fun e => h1 e)]
  exact grown_blk hg hx h2
section
variable {f : Tr → Tr → Tr → Ex Tr} {g1 g2 g3 ds : List Tr} {i kk : Nat} {rt : Ex (List Tr)}
theorem zip_at (h1 : kk < g1.length) (h2 : kk < g2.length) (h3 : kk < g3.length) (n : Nat) : zipM f (g1.drop kk) (g2.drop kk) (g3.drop kk) n = match f g1[kk] g2[kk] g3[kk] with
    | .error p => .error ((n : Int) :: p)
    | .ok t => match zipM f (g1.drop (kk + 1)) (g2.drop (kk + 1)) (g3.drop (kk + 1)) (n + 1) with
      | .error p => .error p
      | .ok ts => .ok (t :: ts) := by
  rw [List.drop_eq_getElem_cons h1, List.drop_eq_getElem_cons h2, List.drop_eq_getElem_cons h3, zipM]
  cases f g1[kk] g2[kk] g3[kk] with
  | error p => rfl
  | ok t =>
    simp only []
    cases zipM f (g1.drop (kk + 1)) (g2.drop (kk + 1)) (g3.drop (kk + 1)) (n + 1) <;> rfl
theorem zip_err (hr : rt = exMap (fun rs => ds ++ rs) (zipM f (g1.drop kk) (g2.drop kk) (g3.drop kk) (i + kk))) (h1 : kk < g1.length) (h2 : kk < g2.length) (h3 : kk < g3.length) {p : List Int} (hf : f g1[kk] g2[kk] g3[kk] = .error p) : rt = .error (((i + kk : Nat) : Int) :: p) := by
  rw [hr, zip_at h1 h2 h3, hf]; rfl
theorem zip_ok (hr : rt = exMap (fun rs => ds ++ rs) (zipM f (g1.drop kk) (g2.drop kk) (g3.drop kk) (i + kk))) (h1 : kk < g1.length) (h2 : kk < g2.length) (h3 : kk < g3.length) {t : Tr} (hf : f g1[kk] g2[kk] g3[kk] = .ok t) :
    rt = exMap (fun rs => (ds ++ [t]) ++ rs) (zipM f (g1.drop (kk + 1)) (g2.drop (kk + 1)) (g3.drop (kk + 1)) (i + (kk + 1))) := by
  rw [hr, zip_at h1 h2 h3, hf, ← Nat.add_assoc]
  simp only []
  cases zipM f (g1.drop (kk + 1)) (g2.drop (kk + 1)) (g3.drop (kk + 1)) (i + kk + 1) with
  | error p => rfl
  | ok ts => simp [exMap]
theorem zip_end (hr : rt = exMap (fun rs => ds ++ rs) (zipM f (g1.drop kk) (g2.drop kk) (g3.drop kk) (i + kk))) (h1 : kk = g1.length) : rt = .ok ds := by
  rw [hr, h1, List.drop_length]
  have : ∀ (a b : List Tr) (n : Nat), zipM f [] a b n = .ok [] := fun a b n => by simp [zipM]
  rw [this]; simp [exMap]
end
section
variable {ops : Array Oper} {o : Oper} {a : Act} {w : World} {Q : Exit → Act → World → Prop} {K : Act → World → Prop} {E : Prop}
theorem OwnsIs.made (w : World) (x : Int) : OwnsIs w.heap.size (w.alloc (.cells #[.int .i64 x] 3)) (.slice (some ⟨w.heap.size, 0, none⟩) 1 1) [x] :=
  ⟨by simp, .inr ⟨w.heap.size, 1, #[.int .i64 x], rfl, Nat.le_refl _, heap_alloc_new w _, Nat.le_refl _, by unfold maxLen; omega, rfl, by simp⟩⟩
/-- 'append(numbers, others...)', at a step of a region that draws its order. -/
theorem step_intsM (hgd : o.guard = none) (s x : Operand) (ho : o.op = .call { callee := .builtin .append, args := #[s, x], argTypes := #[38, 38] })
    (b : Nat) (v : Value) (xs : List Int) (hs : a.eval s = v) (hown : OwnsIs b w v xs) (S : Nat → Prop) (ys : List Int) (ao : Option Addr) (c : Nat) (hx : a.eval x = .slice ao ys.length c) (hy : Ints S w ys ao c)
    (hlen : xs.length + ys.length ≤ 1000000000) (hbase : b ≤ w.heap.size)
    (h : ∀ v' w', OwnsIs b w' v' (xs ++ ys) → w.grownBy w' v.ownBlock → K (a.put o.dst v') w') :
    if Region.wanted o (yielded ops a.tmps) = true then Oper.wp Try.prog o a w K Q else E := by
  obtain ⟨i0, hi, hz0, hz1, hz2⟩ := info_parts info_int
  by_cases hm : 0 < ys.length
  · obtain ⟨_, b', o', h1, h2⟩ := hy
    have hne : ints ys ≠ [] := by intro e; have := congrArg List.length e; simp at this; subst this; simp at hm
    obtain ⟨rfl, -⟩ := h1 hne
    refine step_append_lies w hgd s x _ ho b _ i0 _ 1 8 under_intsT hi hz0 hz1 hz2 rfl (by omega) v xs.length (ints xs) hs hown ⟨b', o', none⟩ ys.length c (ints ys) hx (by simp) (fun j u hu => by
      obtain ⟨hj, rfl⟩ := List.getElem?_eq_some_iff.1 hu
      rw [Addr.add_lit]; exact h2 j hj) (by intro u hu; obtain ⟨y, _, rfl⟩ := List.mem_map.1 hu; rfl) hm (by unfold maxLen; omega) (by omega) hbase w.heap.size rfl ?_
    intro g cap w' k1 k2 k3 _
    refine h _ w' ?_ k2
    unfold OwnsIs
    rw [List.length_append]
    have : ints (xs ++ ys) = ints xs ++ ints ys := by simp
    rw [this]; exact k1
  · have hys : ys = [] := List.eq_nil_of_length_eq_zero (by omega)
    subst hys
    have hw : Region.wanted o (yielded ops a.tmps) = true := by simp [Region.wanted, hgd]
    rw [if_pos hw]
    have hrun := run_append_zero (P := Try.prog) (w := w) b 38 o.type _ i0 1 under_intsT hi v xs.length (ints xs) hown ao c
    unfold Oper.wp execOp
    simp only [ho, resolve, invoke, builtin, Sem.run_bind, Sem.run_pure, Result.andThen_ok, List.map_toArray, List.map_cons, List.map_nil, hs, hx, List.length_nil, hrun]
    exact h v w (by rw [List.append_nil]; exact hown) (World.grownBy.refl _ _)
end
end Go.Proofs.Ytdbnfhpgmcjngab
