/- Append of a whole slice, of whatever length. -/
import Derived.Test.YtdbnfhpgmcjngabMn
namespace Go.Proofs.Ytdbnfhpgmcjngab
open Go Go.RowKit

section
variable {P : Program} {w : World}
/-- Nothing is appended. -/
theorem run_append_zero (base : Nat) (t ty e : TypeId) (i : TypeInfo) (size : Nat) (ht : P.underlying t = some (.slice e)) (hi : P.info? e = some i)
    (v : Value) (n : Nat) (xs : List Value) (hown : w.ownsRow base e size v n xs) (ao : Option Addr) (c : Nat) :
    (Builtin.append_ #[t, t] ty #[v, .slice ao 0 c]).run P w = .ok v w := by
  rcases hown.2 with ⟨rfl, rfl⟩ | ⟨g, cap, cur, rfl, hbg, hg, hnc, hcm, hcs, htake⟩
  · cases ao <;> simp [Builtin.append_, run_underlying ht, sizeOf, typeInfo, hi, Builtin.lenOf, Builtin.firstCells, loadCells, loadCellsFrom]
  · cases ao <;> simp [Builtin.append_, run_underlying ht, sizeOf, typeInfo, hi, Builtin.lenOf, Builtin.firstCells, loadCells, loadCellsFrom, hnc, storeCells]

/-- 'append(own, others...)': nothing, or some. -/
theorem wp_app_rows {ops : Array Oper} {rest : List Oper} {o : Oper} {a : Act} {Q : Exit → Act → World → Prop} (hgd : o.guard = none) (s x : Operand) (t : TypeId)
    (ho : o.op = .call { callee := .builtin .append, args := #[s, x], argTypes := #[t, t] })
    (base : Nat) (e : TypeId) (i : TypeInfo) (z : Value) (size bytes : Nat) (ht : P.underlying t = some (.slice e)) (hi : P.info? e = some i) (hz : i.zero = some z)
    (hsize : i.size = size) (hby : i.bytes = bytes) (hzs : z.cells.size = size) (hsz : 0 < size)
    (v : Value) (n : Nat) (xs : List Value) (hs : a.eval s = v) (hown : w.ownsRow base e size v n xs)
    (ao : Option Addr) (m c : Nat) (news : List Value) (hx : a.eval x = .slice ao m c) (hl : news.length = m * size) (hnews : 0 < m → ∃ ad, ao = some ad ∧ ∀ j u, news[j]? = some u → w.cell? (ad.add j) = some u) (h1 : ∀ u ∈ news, u.oneCell' = true)
    (h63 : n + m ≤ maxLen) (hbytes : (n + m) * bytes ≤ 140737488355328) (hbase : base ≤ w.heap.size)
    (h : ∀ v' w', w'.ownsRow base e size v' (n + m) (xs ++ news) → w.grownBy w' v.ownBlock → (∀ k, v'.ownBlock = some k → v.ownBlock = some k ∨ k = w.heap.size) → wpList P ops Q rest (a.put o.dst v') w') : wpList P ops Q (o :: rest) a w := by
  by_cases hm : 0 < m
  · obtain ⟨ad, rfl, hc⟩ := hnews hm
    refine wpList_append_lies w hgd s x t ho base e i z size bytes ht hi hz hsize hby hzs hsz v n xs hs hown ad m c news hx hl hc h1 hm h63 hbytes hbase w.heap.size rfl ?_
    intro g cap w' g1 g2 g3 _
    exact h _ w' g1 g2 (fun k hk => by cases hk; exact g3)
  · obtain rfl : m = 0 := by omega
    have hn0 : news = [] := List.eq_nil_of_length_eq_zero (by simpa using hl)
    subst hn0
    refine wpList_plain hgd fun K hK' => ?_
    have hrun := run_append_zero (P := P) base t o.type e i size ht hi v n xs hown ao c
    unfold Oper.wp
    simp [execOp, ho, resolve, invoke, builtin, hs, hx, hrun, Result.andThen]
    exact hK' _ _ (h v w (by simpa using hown) (World.grownBy.refl _ _) (fun k hk => .inl hk))
end

section
variable {ops : Array Oper} {o : Oper} {a : Act} {w : World} {rest : List Oper} {Q : Exit → Act → World → Prop}
/-- 'append(numbers, others...)'. -/
theorem app_ints (hgd : o.guard = none) (s x : Operand) (ho : o.op = .call { callee := .builtin .append, args := #[s, x], argTypes := #[38, 38] })
    (b : Nat) (v : Value) (xs : List Int) (hs : a.eval s = v) (hown : OwnsIs b w v xs) (S : Nat → Prop) (ys : List Int) (ao : Option Addr) (c : Nat) (hx : a.eval x = .slice ao ys.length c) (hy : Ints S w ys ao c)
    (hlen : xs.length + ys.length ≤ 1000000000) (hbase : b ≤ w.heap.size)
    (h : ∀ v' w', OwnsIs b w' v' (xs ++ ys) → w.grownBy w' v.ownBlock → (∀ k, v'.ownBlock = some k → v.ownBlock = some k ∨ k = w.heap.size) → wpList Try.prog ops Q rest (a.put o.dst v') w') :
    wpList Try.prog ops Q (o :: rest) a w := by
  obtain ⟨i0, hi, hz0, hz1, hz2⟩ := info_parts info_int
  refine wp_app_rows hgd s x _ ho b _ i0 _ 1 8 under_intsT hi hz0 hz1 hz2 rfl (by omega) v xs.length (ints xs) hs hown ao ys.length c (ints ys) hx (by simp) ?_
    (by intro u hu; obtain ⟨y, _, rfl⟩ := List.mem_map.1 hu; rfl) (by unfold maxLen; omega) (by omega) hbase ?_
  · intro hm
    obtain ⟨_, b', o', h1, h2⟩ := hy
    have hne : ints ys ≠ [] := by intro e; have := congrArg List.length e; simp at this; subst this; simp at hm
    refine ⟨_, (h1 hne).1, fun j u hu => ?_⟩
    obtain ⟨hj, rfl⟩ := List.getElem?_eq_some_iff.1 hu
    rw [Addr.add_lit]; exact h2 j hj
  · intro v' w' g1 g2 g3
    refine h v' w' ?_ g2 g3
    unfold OwnsIs
    rw [List.length_append]
    have : ints (xs ++ ys) = ints xs ++ ints ys := by simp
    rw [this]; exact g1
end
end Go.Proofs.Ytdbnfhpgmcjngab
