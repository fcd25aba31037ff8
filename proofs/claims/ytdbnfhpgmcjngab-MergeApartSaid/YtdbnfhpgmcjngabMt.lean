/- A slice of trees of one's own: it grows by append; what stands beneath its trees is elsewhere. -/
import Derived.Test.YtdbnfhpgmcjngabMem
import Derived.Test.YtdbnfhpgmcjngabProg
namespace Go.Proofs.Ytdbnfhpgmcjngab
open Go Go.RowKit

theorem under_trees : Try.prog.underlying 22 = some (.slice 24) := by kernel_rfl
theorem info_tree : (Try.prog.info? 24).map (fun i => (i.zero, i.size, i.bytes)) = some (some (.agg #[.string ⟨#[]⟩, .slice none 0 0]), 2, 40) := by kernel_rfl

/-- From base on, but not the slice's own block. -/
abbrev Apart (base : Nat) (v : Value) : Nat → Prop := fun k => base ≤ k ∧ v.ownBlock ≠ some k
/-- v is a slice of these trees, of one's own. -/
def OwnsTs (base : Nat) (w : World) (v : Value) (ts : List Tr) : Prop := ∃ xs, w.ownsRow base 24 2 v ts.length xs ∧ Tvals (Apart base v) w ts xs

theorem ownsRow_mono {w : World} {b b' e size : Nat} {v : Value} {n : Nat} {xs : List Value} (h : w.ownsRow b e size v n xs) (hb : b' ≤ b) : w.ownsRow b' e size v n xs := by
  refine ⟨h.1, ?_⟩
  rcases h.2 with h | ⟨g, cap, cur, h1, h2, h3⟩
  · exact .inl h
  · exact .inr ⟨g, cap, cur, h1, by omega, h3⟩
theorem OwnsTs.nil (base : Nat) (w : World) : OwnsTs base w (.slice none 0 0) [] := ⟨[], World.ownsRow_nil _ _ _ _, rfl⟩
theorem OwnsTs.mono {b b' : Nat} {w : World} {v : Value} {ts : List Tr} (h : OwnsTs b w v ts) (hb : b' ≤ b) : OwnsTs b' w v ts := by
  obtain ⟨xs, h1, h2⟩ := h
  exact ⟨xs, ownsRow_mono h1 hb, h2.carry fun k hk _ => ⟨rfl, by omega, hk.2⟩⟩
/-- Nothing from base on has turned. -/
theorem OwnsTs.kept {b : Nat} {w w' : World} {v : Value} {ts : List Tr} (h : OwnsTs b w v ts) (hk : Kept (From b) w w') : OwnsTs b w' v ts := by
  obtain ⟨xs, h1, h2⟩ := h
  refine ⟨xs, ⟨h1.1, ?_⟩, h2.carry fun k hS hl => ⟨hk k hS.1 hl, hS⟩⟩
  rcases h1.2 with h | ⟨g, cap, cur, e1, e2, e3, e4⟩
  · exact .inl h
  · refine .inr ⟨g, cap, cur, e1, e2, ?_, e4⟩
    rw [hk g e2 (Array.getElem?_eq_some_iff.1 e3).1]; exact e3
theorem OwnsTs.pr {b : Nat} {w w' : World} {v : Value} {ts : List Tr} (h : OwnsTs b w v ts) (hk : Pr w w') : OwnsTs b w' v ts := h.kept (hk.kept _)
theorem OwnsTs.block {b : Nat} {w : World} {v : Value} {ts : List Tr} (h : OwnsTs b w v ts) : ∀ k, v.ownBlock = some k → b ≤ k ∧ k < w.heap.size := by
  obtain ⟨xs, h1, _⟩ := h; exact h1.lt
theorem OwnsTs.setCell {b : Nat} {w : World} {v : Value} {ts : List Tr} (h : OwnsTs b w v ts) (a : Addr) (u : Value) (ha : a.block < b) : OwnsTs b (w.setCell a u) v ts :=
  h.kept (kept_setCell _ w a u (by show ¬ b ≤ a.block; omega))
theorem OwnsTs.kids {b : Nat} {w : World} {v : Value} {ts : List Tr} (h : OwnsTs b w v ts) : ∃ oa cap, v = .slice oa ts.length cap ∧ Kids (From b) w ts oa cap := by
  obtain ⟨xs, h1, h2⟩ := h
  exact Tvals.kids (h2.carry fun k hS _ => ⟨rfl, hS.1⟩) h1 fun k hk => (h1.lt k hk).1

theorem TreeV.one {S : Nat → Prop} {w : World} {t : Tr} {vl vk : Value} (h : TreeV S w t vl vk) : vl.oneCell' = true ∧ vk.oneCell' = true := by
  cases t with
  | node l ks => obtain ⟨⟨rfl, _⟩, oa, cap, rfl, _⟩ := treeV_iff.1 h; exact ⟨rfl, rfl⟩

/-- What an append to it leaves. -/
theorem OwnsTs.grown {b : Nat} {w w' : World} {v : Value} {ts us : List Tr} {xs ys : List Value} {g cap : Nat} (h1 : Tvals (Apart b v) w ts xs) (h2 : Tvals (Apart b v) w us ys)
    (ho : w'.ownsRow b 24 2 (.slice (some ⟨g, 0, none⟩) (ts.length + us.length) cap) (ts.length + us.length) (xs ++ ys)) (hg : w.grownBy w' v.ownBlock) (hat : v.ownBlock = some g ∨ g = w.heap.size) :
    OwnsTs b w' (.slice (some ⟨g, 0, none⟩) (ts.length + us.length) cap) (ts ++ us) := by
  refine ⟨xs ++ ys, by rw [List.length_append]; exact ho, ?_⟩
  refine (Tvals.append h2 h1).carry fun k hS hl => ⟨hg.block k hl (fun e => hS.2 e.symm), hS.1, ?_⟩
  show some g ≠ some k
  rcases hat with h | h
  · rw [← h]; exact hS.2
  · intro e; cases e; omega

section
variable {ops : Array Oper} {o : Oper} {a : Act} {w : World} {rest : List Oper} {Q : Exit → Act → World → Prop}
/-- 'append(ts, t)'. -/
theorem app_tree (hgd : o.guard = none) (s x : Operand) (ho : o.op = .call { callee := .builtin .append, args := #[s, x], argTypes := #[22, 22] })
    (b : Nat) (v : Value) (ts : List Tr) (hs : a.eval s = v) (hown : OwnsTs b w v ts) (B : Nat) (hx : a.eval x = .slice (some ⟨B, 0, none⟩) 1 1) (t : Tr) (vl vk : Value)
    (hB : w.heap[B]? = some (.cells #[vl, vk] 24 (0, 0))) (ht : TreeV (Apart b v) w t vl vk) (hlen : ts.length ≤ 1000000000) (hbase : b ≤ w.heap.size)
    (h : ∀ g cap w', OwnsTs b w' (.slice (some ⟨g, 0, none⟩) (ts.length + 1) cap) (ts ++ [t]) → w.grownBy w' v.ownBlock → (v.ownBlock = some g ∨ g = w.heap.size) → wpList Try.prog ops Q rest (a.put o.dst (.slice (some ⟨g, 0, none⟩) (ts.length + 1) cap)) w') :
    wpList Try.prog ops Q (o :: rest) a w := by
  obtain ⟨i0, hi, hz0, hz1, hz2⟩ := info_parts info_tree
  obtain ⟨xs, h1, h2⟩ := hown
  refine wpList_append_lies w hgd s x _ ho b _ i0 _ 2 40 under_trees hi hz0 hz1 hz2 rfl (by omega) v ts.length xs hs h1 ⟨B, 0, none⟩ 1 1 [vl, vk] hx rfl (World.news_of_block (cs := #[vl, vk]) hB)
    (by intro u hu; simp at hu; rcases hu with rfl | rfl; exact ht.one.1; exact ht.one.2) (by omega) (by unfold maxLen; omega) (by omega) hbase w.heap.size rfl ?_
  intro g cap w' g1 g2 g3 _
  exact h g cap w' (OwnsTs.grown h2 (us := [t]) (ys := [vl, vk]) ⟨vl, vk, [], rfl, ht, rfl⟩ g1 g2 g3) g2 g3
/-- The same, at a step of a region that draws its order. -/
theorem step_tree {K : Act → World → Prop} {E : Prop} (hgd : o.guard = none) (s x : Operand) (ho : o.op = .call { callee := .builtin .append, args := #[s, x], argTypes := #[22, 22] })
    (b : Nat) (v : Value) (ts : List Tr) (hs : a.eval s = v) (hown : OwnsTs b w v ts) (B : Nat) (hx : a.eval x = .slice (some ⟨B, 0, none⟩) 1 1) (t : Tr) (vl vk : Value)
    (hB : w.heap[B]? = some (.cells #[vl, vk] 24 (0, 0))) (ht : TreeV (Apart b v) w t vl vk) (hlen : ts.length ≤ 1000000000) (hbase : b ≤ w.heap.size)
    (h : ∀ g cap w', OwnsTs b w' (.slice (some ⟨g, 0, none⟩) (ts.length + 1) cap) (ts ++ [t]) → w.grownBy w' v.ownBlock → (v.ownBlock = some g ∨ g = w.heap.size) → K (a.put o.dst (.slice (some ⟨g, 0, none⟩) (ts.length + 1) cap)) w') :
    if Region.wanted o (yielded ops a.tmps) = true then Oper.wp Try.prog o a w K Q else E := by
  obtain ⟨i0, hi, hz0, hz1, hz2⟩ := info_parts info_tree
  obtain ⟨xs, h1, h2⟩ := hown
  refine step_append_lies w hgd s x _ ho b _ i0 _ 2 40 under_trees hi hz0 hz1 hz2 rfl (by omega) v ts.length xs hs h1 ⟨B, 0, none⟩ 1 1 [vl, vk] hx rfl (World.news_of_block (cs := #[vl, vk]) hB)
    (by intro u hu; simp at hu; rcases hu with rfl | rfl; exact ht.one.1; exact ht.one.2) (by omega) (by unfold maxLen; omega) (by omega) hbase w.heap.size rfl ?_
  intro g cap w' g1 g2 g3 _
  exact h g cap w' (OwnsTs.grown h2 (us := [t]) (ys := [vl, vk]) ⟨vl, vk, [], rfl, ht, rfl⟩ g1 g2 g3) g2 g3
end
end Go.Proofs.Ytdbnfhpgmcjngab
