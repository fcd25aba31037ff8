/- The tree of nodes, by a stack. No program here. -/
import Derived.Test.YtdbnfhpgmcjngaaNv
namespace Go.Proofs.Ytdbnfhpgmcjngaa

/-- How many stay, of those that begin ahead of x. -/
def cutFrom (fs : List Int) (x : Int) : Nat → Nat
  | 0 => 0
  | n + 1 => if x ≤ fs.getD n 0 then cutFrom fs x n else n + 1
theorem cutFrom_le (fs : List Int) (x : Int) : ∀ n, cutFrom fs x n ≤ n
  | 0 => Nat.le_refl _
  | n + 1 => by have := cutFrom_le fs x n; rw [cutFrom]; split <;> omega
theorem cutFrom_down (fs : List Int) (x : Int) (n : Nat) (h : n < fs.length) (hx : x ≤ fs[n]) : cutFrom fs x (n + 1) = cutFrom fs x n := by
  rw [cutFrom, if_pos (by simpa [h] using hx)]
theorem cutFrom_stop (fs : List Int) (x : Int) (n : Nat) (h : n < fs.length) (hx : ¬ x ≤ fs[n]) : cutFrom fs x (n + 1) = n + 1 := by
  rw [cutFrom, if_neg (by simpa [h] using hx)]
/-- One node more. -/
def stkStep (s : List Tr × List Int) (x : Nd) : List Tr × List Int :=
  (s.1.take (cutFrom s.2 x.left s.2.length) ++ [.node x.lab (s.1.drop (cutFrom s.2 x.left s.2.length))], s.2.take (cutFrom s.2 x.left s.2.length) ++ [x.left])
def stk (xs : List Nd) : List Tr × List Int := xs.foldl stkStep ([], [])
theorem stk_snoc (xs : List Nd) (x : Nd) : stk (xs ++ [x]) = stkStep (stk xs) x := by unfold stk; rw [List.foldl_append]; rfl
theorem stk_take (xs : List Nd) (k : Nat) (h : k < xs.length) : stk (xs.take (k + 1)) = stkStep (stk (xs.take k)) xs[k] := by
  rw [List.take_succ_eq_append_getElem h, stk_snoc]
theorem stkStep_len (s : List Tr × List Int) (x : Nd) (h : s.1.length = s.2.length) : (stkStep s x).1.length = (stkStep s x).2.length ∧ (stkStep s x).2.length ≤ s.2.length + 1 := by
  have := cutFrom_le s.2 x.left s.2.length
  simp only [stkStep, List.length_append, List.length_take, List.length_singleton]; omega
theorem stk_len (xs : List Nd) : ∀ k, (stk (xs.take k)).1.length = (stk (xs.take k)).2.length ∧ (stk (xs.take k)).2.length ≤ k
  | 0 => by simp [stk]
  | k + 1 => by
    have ih := stk_len xs k
    by_cases h : k < xs.length
    · rw [stk_take xs k h]
      have := stkStep_len (stk (xs.take k)) xs[k] ih.1
      omega
    · have : xs.take (k + 1) = xs.take k := by rw [List.take_of_length_le (by omega), List.take_of_length_le (by omega)]
      rw [this]; omega

/-- Where the trees of a list begin. -/
def starts (p : Nat) : List Tr → List Int | [] => [] | k :: ks => (p : Int) :: starts (p + k.sz) ks
theorem starts_ge : ∀ (ks : List Tr) (p : Nat), ∀ f ∈ starts p ks, (p : Int) ≤ f
  | [], p, f, h => by cases h
  | k :: ks, p, f, h => by
    simp only [starts, List.mem_cons] at h
    rcases h with rfl | h
    · exact Int.le_refl _
    · have := starts_ge ks _ f h; omega
theorem starts_length : ∀ (ks : List Tr) (p : Nat), (starts p ks).length = ks.length
  | [], p => rfl
  | k :: ks, p => by simp [starts, starts_length ks]
theorem cutFrom_all (A B : List Int) (x : Int) (hA : ∀ f ∈ A, ¬ x ≤ f) (hB : ∀ f ∈ B, x ≤ f) : ∀ n, n ≤ B.length → cutFrom (A ++ B) x (A.length + n) = A.length
  | 0, _ => by
    cases hl : A.length with
    | zero => simp [cutFrom]
    | succ m =>
      have hm : m < A.length := by omega
      have := cutFrom_stop (A ++ B) x m (by simp; omega) (by rw [List.getElem_append_left hm]; exact hA _ (List.getElem_mem hm))
      simpa using this
  | n + 1, h => by
    have := cutFrom_down (A ++ B) x (A.length + n) (by simp; omega) (by rw [List.getElem_append_right (by omega)]; exact hB _ (List.getElem_mem _))
    rw [← Nat.add_assoc, this, cutFrom_all A B x hA hB n (by omega)]
mutual
theorem stk_ndsT : ∀ (t : Tr) (p : Nat) (par : Int) (ts : List Tr) (fs : List Int), ts.length = fs.length → (∀ f ∈ fs, f < (p : Int)) → (ndsT p par t).foldl stkStep (ts, fs) = (ts ++ [t], fs ++ [(p : Int)])
  | .node l ks, p, par, ts, fs, hl, hf => by
    rw [ndsT, List.foldl_append, stk_ndsF ks p _ ts fs hl hf]
    simp only [List.foldl_cons, List.foldl_nil, stkStep]
    have hc := cutFrom_all fs (starts p ks) (p : Int) (fun f h => by have := hf f h; omega) (starts_ge ks p) (starts p ks).length (Nat.le_refl _)
    rw [List.length_append, hc]
    simp [← hl]
theorem stk_ndsF : ∀ (ks : List Tr) (p : Nat) (par : Int) (ts : List Tr) (fs : List Int), ts.length = fs.length → (∀ f ∈ fs, f < (p : Int)) → (ndsF p par ks).foldl stkStep (ts, fs) = (ts ++ ks, fs ++ starts p ks)
  | [], p, par, ts, fs, hl, hf => by simp [ndsF, starts]
  | k :: ks, p, par, ts, fs, hl, hf => by
    have hz := k.sz_pos
    rw [ndsF, List.foldl_append, stk_ndsT k p par ts fs hl hf, stk_ndsF ks (p + k.sz) par (ts ++ [k]) (fs ++ [(p : Int)]) (by simp [hl]) (by
      intro f h; simp only [List.mem_append, List.mem_singleton] at h; rcases h with h | rfl
      · have := hf f h; omega
      · omega)]
    simp [starts]
end
theorem stk_nds (t : Tr) : stk (nds t) = ([t], [0]) := by
  have := stk_ndsT t 0 (-1) [] [] rfl (by simp)
  simpa [stk, nds] using this

/-- What order.Tree tells. -/
def treeP (xs : List Nd) : Tr × Nat :=
  if xs.length = 0 then (Tr.zero, 7) else if 40 < xs.length then (Tr.zero, 2)
  else match (stk xs).1 with
    | [t] => if fault t = 0 ∧ nds t = xs then (t, 0) else (Tr.zero, 15)
    | _ => (Tr.zero, 15)
/-- Both tell the same. -/
theorem treeP_eq (xs : List Nd) : treeP xs = treeOf xs := by
  unfold treeP treeOf
  by_cases h0 : xs.length = 0
  · rw [if_pos h0, if_pos h0]
  by_cases h40 : 40 < xs.length
  · rw [if_neg h0, if_neg h0, if_pos h40, if_pos h40]
  rw [if_neg h0, if_neg h0, if_neg h40, if_neg h40]
  by_cases hex : ∃ t, nds t = xs
  · obtain ⟨t, rfl⟩ := hex
    rw [stk_nds, underT_nds]
  · rw [if_neg (fun h => hex ⟨_, h.2⟩)]
    split
    · rw [if_neg (fun h => hex ⟨_, h.2⟩)]
    · rfl
end Go.Proofs.Ytdbnfhpgmcjngaa
