/- A book beside a list of its trees. -/
import Derived.Test.YtdbnfhpgmcjngacBzt
import Derived.Test.YtdbnfhpgmcjngacGl
namespace Go.Proofs.Ytdbnfhpgmcjngac
open Go Go.RowKit

/-- The trees of a book, one more handed in. -/
def addT (ts : List Tr) (t : Tr) : List Tr := if addC ts t = 0 then ts ++ [t] else ts
/-- The trees of a book to which all these were handed. -/
def inP (l : List Tr) : List Tr := l.foldl addT []
theorem inP_succ (l : List Tr) (i : Nat) (h : i < l.length) : inP (l.take (i + 1)) = addT (inP (l.take i)) l[i] := by
  unfold inP; rw [List.take_succ_eq_append_getElem h, List.foldl_append]; rfl
theorem addT_few {ts : List Tr} {t : Tr} (h : ts.length ≤ 30) : (addT ts t).length ≤ 30 := by
  unfold addT
  by_cases hc : addC ts t = 0
  · rw [if_pos hc, List.length_append, List.length_singleton]
    unfold addC at hc
    by_cases hf : fault t = 0
    · rw [if_neg (by simpa using hf)] at hc
      by_cases h30 : ts.length = 30
      · rw [if_pos h30] at hc; cases hc
      · omega
    · rw [if_pos hf] at hc; exact absurd hc hf
  · rw [if_neg hc]; exact h

theorem BookOk.chg {X X' Y : Nat → Prop} {w w' : World} {B : Nat} {v : Value} {ts : List Tr} (h : BookOk X w B v ts) (hc : Chg Y w w') (hY : ∀ k, Y k → X k ∨ w.heap.size ≤ k) (hX : ∀ k, X' k → X k ∨ w.heap.size ≤ k) : BookOk X' w' B v ts := by
  obtain ⟨⟨l, ks, oa, cap, h1, h2, h3, h4⟩, ⟨ys, g1, g2⟩, hf, hn, ho⟩ := h
  have hB := blk_lt h1
  have hk : ∀ k, k < w.heap.size → ¬ X k → w'.heap[k]? = w.heap[k]? ∧ ¬ X' k := fun k hl hx => ⟨hc.block k hl (fun hy => by rcases hY k hy with h | h; exact hx h; omega), fun hx' => by rcases hX k hx' with h | h; exact hx h; omega⟩
  refine ⟨⟨l, ks, oa, cap, by rw [(hk B hB ho.1).1]; exact h1, h2, h3, h4.carry fun k hS hl => ⟨(hk k hl hS.2).1, hS.1, (hk k hl hS.2).2⟩⟩,
    ⟨ys, ownsRow_kept g1 (fun k hk' => (hk k (g1.lt k hk').2 (ho.2 k hk')).1), g2.carry fun k hS hl => ⟨(hk k hl hS.2).1, hS.1, (hk k hl hS.2).2⟩⟩, hf, hn, (hk B hB ho.1).2, fun k hk' => (hk k (g1.lt k hk').2 (ho.2 k hk')).2⟩
theorem BookOk.lt {X : Nat → Prop} {w : World} {B : Nat} {v : Value} {ts : List Tr} (h : BookOk X w B v ts) : B < w.heap.size ∧ ∀ k, v.ownBlock = some k → B + 1 ≤ k ∧ k < w.heap.size := by
  obtain ⟨⟨l, ks, oa, cap, h1, _⟩, ⟨ys, g1, g2⟩, _, _, _⟩ := h
  exact ⟨blk_lt h1, g1.lt⟩

/-- A book, and beside it a list of trees of one's own: what the list is lies in X, and nothing of the book does. -/
structure BIn (X : Nat → Prop) (base : Nat) (w : World) (B : Nat) (v v4 : Value) (tb ti : List Tr) : Prop where
  book : BookOk X w B v tb
  row : OwnsX (fun k => X k ∧ v4.ownBlock ≠ some k) w base w v4 ti
  own : ∀ k, v4.ownBlock = some k → X k
  top : ∀ k, X k → k < w.heap.size
section
variable {X : Nat → Prop} {base : Nat} {w w' : World} {B : Nat} {v v4 : Value} {tb ti : List Tr}
theorem BIn.row_kept (h : BIn X base w B v v4 tb ti) (hk : ∀ k, X k → k < w.heap.size → w'.heap[k]? = w.heap[k]?) : OwnsX (fun k => X k ∧ v4.ownBlock ≠ some k) w' base w' v4 ti := by
  obtain ⟨xs, h1, h2⟩ := h.row
  exact ⟨xs, ownsRow_kept h1 (fun k hk' => hk k (h.own k hk') (h1.lt k hk').2), h2.carry fun k hS hl => ⟨hk k hS.1 hl, hS⟩⟩
theorem BIn.pr (h : BIn X base w B v v4 tb ti) (hp : Pr w w') : BIn X base w' B v v4 tb ti :=
  ⟨h.book.pr hp, h.row_kept fun k _ hl => Below.block hp k hl, h.own, fun k hk => Nat.lt_of_lt_of_le (h.top k hk) (Below.size hp)⟩
/-- A tree was handed to the book. -/
theorem BIn.add (h : BIn X base w B v v4 tb ti) {v' : Value} {tb' : List Tr} (hb : BookOk X w' B v' tb') (hc : Chg (fun k => k = B ∨ v.ownBlock = some k) w w') : BIn X base w' B v' v4 tb' ti :=
  ⟨hb, h.row_kept fun k hX hl => hc.block k hl (by rintro (e | e); exact h.book.out.1 (e ▸ hX); exact h.book.out.2 k e hX), h.own, fun k hk => Nat.lt_of_lt_of_le (h.top k hk) hc.size⟩
/-- Something more lies in X. -/
theorem BIn.widen (h : BIn X base w B v v4 tb ti) (hp : Pr w w') : BIn (fun k => X k ∨ (w.heap.size ≤ k ∧ k < w'.heap.size)) base w' B v v4 tb ti := by
  have h1 := h.row_kept (w' := w') fun k _ hl => Below.block hp k hl
  obtain ⟨xs, g1, g2⟩ := h1
  refine ⟨h.book.chg (hp.chg (fun _ => False)) (fun k hk => hk.elim) (fun k hk => ?_), ⟨xs, g1, g2.carry fun k hS _ => ⟨rfl, .inl hS.1, hS.2⟩⟩, fun k hk => .inl (h.own k hk), fun k hk => ?_⟩
  · rcases hk with h | h
    · exact .inl h
    · exact .inr h.1
  · rcases hk with h9 | h9
    · exact Nat.lt_of_lt_of_le (h.top k h9) (Below.size hp)
    · exact h9.2
/-- The list grew. -/
theorem BIn.app (h : BIn X base w B v v4 tb ti) {v4' : Value} {ti' : List Tr} (ho : OwnsX (fun k => X k ∧ v4.ownBlock ≠ some k) w base w' v4' ti') (hg : w.grownBy w' v4.ownBlock) (hd : ∀ k, v4'.ownBlock = some k → v4.ownBlock = some k ∨ k = w.heap.size) :
    BIn (fun k => X k ∨ v4'.ownBlock = some k) base w' B v v4' tb ti' := by
  obtain ⟨xs, g1, g2⟩ := ho
  have e1 : ∀ k, (X k ∨ v4'.ownBlock = some k) → X k ∨ w.heap.size ≤ k := fun k hk => by
    rcases hk with hk | hk
    · exact .inl hk
    · rcases hd k hk with e | e
      · exact .inl (h.own k e)
      · exact .inr (by omega)
  have e2 : ∀ k, (X k ∧ v4.ownBlock ≠ some k) → k < w.heap.size → v4'.ownBlock ≠ some k := fun k hS hl e => by
    rcases hd k e with e | e
    · exact hS.2 e
    · omega
  have e3 : ∀ k, (X k ∨ v4'.ownBlock = some k) → k < w'.heap.size := fun k hk => by
    rcases hk with hk | hk
    · exact Nat.lt_of_lt_of_le (h.top k hk) hg.size
    · exact (g1.lt k hk).2
  exact ⟨h.book.chg (chg_grown hg) (fun k hk => .inl (h.own k hk)) e1, ⟨xs, g1, g2.carry fun k hS hl => ⟨hg.block k hl (fun e => hS.2 e.symm), .inl hS.1, e2 k hS hl⟩⟩, fun k hk => .inr hk, e3⟩
end
section
variable {ops : Array Oper} {o : Oper} {a : Act} {w : World} {rest : List Oper} {Q : Exit → Act → World → Prop}
/-- 'append(trees, t)'; what stands beneath the trees lay there in another world. -/
theorem app_treeX (hgd : o.guard = none) (s x : Operand) (ho : o.op = .call { callee := .builtin .append, args := #[s, x], argTypes := #[22, 22] })
    (S : Nat → Prop) (w0 : World) (b : Nat) (v : Value) (ts : List Tr) (hs : a.eval s = v) (hown : OwnsX S w0 b w v ts) (B : Nat) (hx : a.eval x = .slice (some ⟨B, 0, none⟩) 1 1) (t : Tr) (vl vk : Value)
    (hB : w.heap[B]? = some (.cells #[vl, vk] 24 (0, 0))) (ht : TreeV S w0 t vl vk) (hlen : ts.length ≤ 1000000000) (hbase : b ≤ w.heap.size)
    (h : ∀ g cap w', OwnsX S w0 b w' (.slice (some ⟨g, 0, none⟩) (ts.length + 1) cap) (ts ++ [t]) → w.grownBy w' v.ownBlock → (v.ownBlock = some g ∨ g = w.heap.size) → wpList Try.prog ops Q rest (a.put o.dst (.slice (some ⟨g, 0, none⟩) (ts.length + 1) cap)) w') :
    wpList Try.prog ops Q (o :: rest) a w := by
  obtain ⟨i0, hi, hz0, hz1, hz2⟩ := info_parts info_tree
  obtain ⟨xs, h1, h2⟩ := hown
  refine wpList_append_lies w hgd s x _ ho b _ i0 _ 2 40 under_trees hi hz0 hz1 hz2 rfl (by omega) v ts.length xs hs h1 ⟨B, 0, none⟩ 1 1 [vl, vk] hx rfl (World.news_of_block (cs := #[vl, vk]) hB)
    (by intro u hu; simp at hu; rcases hu with rfl | rfl; exact ht.one.1; exact ht.one.2) (by omega) (by unfold maxLen; omega) (by omega) hbase w.heap.size rfl ?_
  intro g cap w' g1 g2 g3 _
  refine h g cap w' ⟨xs ++ [vl, vk], ?_, h2.snoc ht⟩ g2 g3
  rw [List.length_append, List.length_singleton]; exact g1
end
end Go.Proofs.Ytdbnfhpgmcjngac
