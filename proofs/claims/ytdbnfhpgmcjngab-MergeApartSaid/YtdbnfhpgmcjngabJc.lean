/- Triples of numbers in memory: slices of one's own; and what stands in front of pleachingref.mixed. -/
import Derived.Test.YtdbnfhpgmcjngabJb
import Derived.Test.YtdbnfhpgmcjngabMo
namespace Go.Proofs.Ytdbnfhpgmcjngab
open Go Go.RowKit

abbrev T3 := Int × Int × Int
def trCells (ps : List T3) : List Value := ps.flatMap fun p => [.int .i64 p.1, .int .i64 p.2.1, .int .i64 p.2.2]
theorem trCells_append (a b : List T3) : trCells (a ++ b) = trCells a ++ trCells b := by simp [trCells]
theorem trCells_length (l : List T3) : (trCells l).length = l.length * 3 := by
  induction l with
  | nil => rfl
  | cons x l ih => simp [trCells] at ih ⊢; omega
theorem trCells_get : ∀ (l : List T3) (i : Nat) (h : i < l.length), (trCells l)[i * 3]? = some (.int .i64 l[i].1) ∧ (trCells l)[i * 3 + 1]? = some (.int .i64 l[i].2.1) ∧ (trCells l)[i * 3 + 2]? = some (.int .i64 l[i].2.2)
  | x :: l, 0, _ => by simp [trCells]
  | x :: l, i + 1, h => by
    have := trCells_get l i (by simpa using h)
    rw [show (i + 1) * 3 = i * 3 + 3 by omega]
    simpa [trCells] using this
theorem trCells_one (l : List T3) : ∀ u ∈ trCells l, u.oneCell' = true := by
  intro u hu
  simp only [trCells, List.mem_flatMap] at hu
  obtain ⟨p, _, hu⟩ := hu
  simp at hu
  rcases hu with rfl | rfl | rfl <;> rfl
theorem under_tris : Try.prog.underlying 125 = some (.slice 124) := by kernel_rfl
theorem info_tri : (Try.prog.info? 124).map (fun i => (i.zero, i.size, i.bytes)) = some (some (.agg #[.int .i64 0, .int .i64 0, .int .i64 0]), 3, 24) := by kernel_rfl
/-- v is a slice of these triples, of one's own. -/
def OwnsQs (base : Nat) (w : World) (v : Value) (ps : List T3) : Prop := w.ownsRow base 124 3 v ps.length (trCells ps)
theorem OwnsQs.block {b : Nat} {w : World} {v : Value} {xs : List T3} (h : OwnsQs b w v xs) : ∀ k, v.ownBlock = some k → b ≤ k ∧ k < w.heap.size := World.ownsRow.lt h
theorem OwnsQs.kept {b : Nat} {w w' : World} {v : Value} {xs : List T3} (h : OwnsQs b w v xs) (hk : ∀ k, v.ownBlock = some k → w'.heap[k]? = w.heap[k]?) : OwnsQs b w' v xs := ownsRow_kept h hk
theorem OwnsQs.pr {b : Nat} {w w' : World} {v : Value} {xs : List T3} (h : OwnsQs b w v xs) (hp : Pr w w') : OwnsQs b w' v xs := h.kept fun k hk => Below.block hp k (h.block k hk).2
theorem OwnsQs.mono {b b' : Nat} {w : World} {v : Value} {xs : List T3} (h : OwnsQs b w v xs) (hb : b' ≤ b) : OwnsQs b' w v xs := ownsRow_mono h hb
/-- One triple, laid as a slice. -/
theorem OwnsQs.made (w : World) (x : T3) : OwnsQs w.heap.size (w.alloc (.cells #[.int .i64 x.1, .int .i64 x.2.1, .int .i64 x.2.2] 124)) (.slice (some ⟨w.heap.size, 0, none⟩) 1 1) [x] :=
  ⟨by simp [trCells], .inr ⟨w.heap.size, 1, #[.int .i64 x.1, .int .i64 x.2.1, .int .i64 x.2.2], rfl, Nat.le_refl _, heap_alloc_new w _, Nat.le_refl _, by unfold maxLen; omega, rfl, by simp [trCells]⟩⟩
/-- The triples, as they are read. -/
theorem OwnsQs.get {b : Nat} {w : World} {v : Value} {xs : List T3} (h : OwnsQs b w v xs) (hne : xs ≠ []) : ∃ g cap, v = .slice (some ⟨g, 0, none⟩) xs.length cap ∧ (xs.length ≤ cap ∧ cap ≤ maxLen) ∧ b ≤ g ∧ g < w.heap.size ∧
    ∀ (i : Nat) (_ : i < xs.length), w.cell? ⟨g, i * 3, none⟩ = some (.int .i64 xs[i].1) ∧ w.cell? ⟨g, i * 3 + 1, none⟩ = some (.int .i64 xs[i].2.1) ∧ w.cell? ⟨g, i * 3 + 2, none⟩ = some (.int .i64 xs[i].2.2) := by
  rcases h.2 with ⟨rfl, hn⟩ | ⟨g, cap, cur, rfl, hb, hg, hnc, hcm, _⟩
  · exact absurd (List.eq_nil_of_length_eq_zero hn) hne
  · have hc : ∀ j u, (trCells xs)[j]? = some u → w.cell? ⟨g, j, none⟩ = some u := fun j u hu => by
      have := World.ownsRow.cells h (g := g) rfl j u hu
      simpa [Addr.add_lit] using this
    refine ⟨g, cap, rfl, ⟨hnc, hcm⟩, hb, blk_lt hg, fun i hi => ?_⟩
    obtain ⟨g1, g2, g3⟩ := trCells_get xs i hi
    exact ⟨hc _ _ g1, hc _ _ g2, hc _ _ g3⟩
section
variable {ops : Array Oper} {o : Oper} {a : Act} {w : World} {rest : List Oper} {Q : Exit → Act → World → Prop}
/-- 'append(triples, x)'. -/
theorem app_tri (hgd : o.guard = none) (s x : Operand) (ho : o.op = .call { callee := .builtin .append, args := #[s, x], argTypes := #[125, 125] })
    (b : Nat) (v : Value) (xs : List T3) (hs : a.eval s = v) (hown : OwnsQs b w v xs) (B : Nat) (hx : a.eval x = .slice (some ⟨B, 0, none⟩) 1 1) (y : T3)
    (hB : w.heap[B]? = some (.cells #[.int .i64 y.1, .int .i64 y.2.1, .int .i64 y.2.2] 124 (0, 0))) (hlen : xs.length ≤ 1000000000) (hbase : b ≤ w.heap.size)
    (h : ∀ v' w', OwnsQs b w' v' (xs ++ [y]) → w.grownBy w' v.ownBlock → (∀ k, v'.ownBlock = some k → v.ownBlock = some k ∨ k = w.heap.size) → wpList Try.prog ops Q rest (a.put o.dst v') w') :
    wpList Try.prog ops Q (o :: rest) a w := by
  obtain ⟨i0, hi, hz0, hz1, hz2⟩ := info_parts info_tri
  refine wp_app_rows hgd s x _ ho b _ i0 _ 3 24 under_tris hi hz0 hz1 hz2 rfl (by omega) v xs.length (trCells xs) hs hown _ 1 1 (trCells [y]) hx (by simp [trCells_length]) (fun _ => ⟨_, rfl, World.news_of_block (cs := #[.int .i64 y.1, .int .i64 y.2.1, .int .i64 y.2.2]) hB⟩)
    (trCells_one _) (by unfold maxLen; omega) (by omega) hbase ?_
  intro v' w' g1 g2 g3
  refine h v' w' ?_ g2 g3
  unfold OwnsQs
  rw [List.length_append, trCells_append]; exact g1
end
def tz (H : List (Nat × Nat × Nat)) : List T3 := H.map fun h => ((h.1 : Int), (h.2.1 : Int), (h.2.2 : Int))
theorem tz_append (a b : List (Nat × Nat × Nat)) : tz (a ++ b) = tz a ++ tz b := by simp [tz]
theorem tz_length (a : List (Nat × Nat × Nat)) : (tz a).length = a.length := by simp [tz]
theorem held_take_succ (x y : List (Nat × Nat)) (i : Nat) (h : i < x.length) : held (x.take (i + 1)) y = held (x.take i) y ++ held [x[i]] y := by
  unfold held; rw [List.take_succ_eq_append_getElem h, List.flatMap_append]
theorem held_one_nil (p : Nat × Nat) : held [p] [] = [] := by simp [held]
theorem held_snoc_hit (p q : Nat × Nat) (z : List (Nat × Nat)) (he : p.1 = q.1) : held [p] (z ++ [q]) = held [p] z ++ [(p.1, p.2, q.2)] := by
  simp [held, he]
theorem held_snoc_miss (p q : Nat × Nat) (z : List (Nat × Nat)) (he : p.1 ≠ q.1) : held [p] (z ++ [q]) = held [p] z := by
  have e : (p.1 == q.1) = false := by rw [beq_eq_false_iff_ne]; exact he
  simp [held, e]
theorem held_one_hit (p : Nat × Nat) (y : List (Nat × Nat)) (k : Nat) (h : k < y.length) (he : p.1 = y[k].1) : held [p] (y.take (k + 1)) = held [p] (y.take k) ++ [(p.1, p.2, y[k].2)] := by
  rw [List.take_succ_eq_append_getElem h]; exact held_snoc_hit _ _ _ he
theorem held_one_miss (p : Nat × Nat) (y : List (Nat × Nat)) (k : Nat) (h : k < y.length) (he : p.1 ≠ y[k].1) : held [p] (y.take (k + 1)) = held [p] (y.take k) := by
  rw [List.take_succ_eq_append_getElem h]; exact held_snoc_miss _ _ _ he
theorem held_length {x y : List (Nat × Nat)} (hx : Rise x) (hy : Rise y) (n : Nat) (h : ∀ p ∈ x, p.1 < n) : (held x y).length ≤ n := by
  have h1 : ((held x y).map (·.1)).Pairwise (fun a b => a < b) := by rw [List.pairwise_map]; exact (held_rise hx hy).imp fun h => h.1
  have h2 : ∀ a ∈ (held x y).map (·.1), a < n := by
    intro a ha
    obtain ⟨⟨p, q, r⟩, hm, rfl⟩ := List.mem_map.1 ha
    exact h _ (mem_held.1 hm).1
  have h3 : ∀ (l : List Nat) (m : Nat), l.Pairwise (fun a b => a < b) → (∀ a ∈ l, m ≤ a ∧ a < n) → l.length ≤ n - m := by
    intro l
    induction l with
    | nil => intro m _ _; simp
    | cons a l ih =>
      intro m hp hm
      rw [List.pairwise_cons] at hp
      have h4 := hm a (by simp)
      have := ih (a + 1) hp.2 (fun b hb => ⟨hp.1 b hb, (hm b (by simp [hb])).2⟩)
      simp only [List.length_cons]; omega
  have := h3 _ 0 h1 (fun a ha => ⟨Nat.zero_le _, h2 a ha⟩)
  simpa using this

theorem held_mul (x y : List (Nat × Nat)) : (held x y).length ≤ x.length * y.length := by
  induction x with
  | nil => simp [held]
  | cons p x ih =>
    have : held (p :: x) y = held [p] y ++ held x y := by simp [held]
    rw [this, List.length_append, List.length_cons]
    have h1 : (held [p] y).length ≤ y.length := by
      simp only [held, List.flatMap_cons, List.flatMap_nil, List.append_nil, List.length_map]
      exact List.length_filter_le _ _
    have : (x.length + 1) * y.length = x.length * y.length + y.length := by rw [Nat.add_mul]; simp
    omega
/-- What the document's mixing tells. -/
def MixedPost (M : Nat) (r : Ex Tr) (w : World) (e : Ending) (w' : World) : Prop := Pr w w' ∧ match r with
  | .ok t => ∃ l ks oa cap, t = .node l ks ∧ l.size ≤ maxLen ∧ e = .returned (.tuple #[.agg #[.string l, .slice oa ks.length cap], .slice none 0 0, .bool true]) ∧ Kids (fun k => k < M ∨ w.heap.size ≤ k) w' ks oa cap
  | .error p => ∃ l kv kn kc oa cap, e = .returned (.tuple #[.agg #[.string l, .slice kv kn kc], .slice oa p.length cap, .bool false]) ∧ Ints (From w.heap.size) w' p oa cap
def RMixC (N : Nat) : Prop := ∀ (l1 l2 l3 : ByteArray) (k1 k2 k3 : List Tr) (o1 o2 o3 : Option Addr) (c1 c2 c3 M : Nat) (w : World),
  Tr.szL k1 < N → Tr.szL k1 ≤ 1000 → Tr.szL k2 ≤ 1000 → Tr.szL k3 ≤ 1000 → l1.size ≤ maxLen → l2.size ≤ maxLen → l3.size ≤ maxLen → M ≤ w.heap.size →
  Kids (fun k => k < M) w k1 o1 c1 → Kids (fun k => k < M) w k2 o2 c2 → Kids (fun k => k < M) w k3 o3 c3 →
  Calls Try.prog 74 #[.agg #[.string l1, .slice o1 k1.length c1], .agg #[.string l2, .slice o2 k2.length c2], .agg #[.string l3, .slice o3 k3.length c3]] w (MixedPost M (mixT N (.node l1 k1) (.node l2 k2) (.node l3 k3)) w)
end Go.Proofs.Ytdbnfhpgmcjngab
