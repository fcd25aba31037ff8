/- Plain: as many as can be that two lists have in common. No program here. -/
import Derived.Test.YtdbnfhpgmcjngabTrb
namespace Go.Proofs.Ytdbnfhpgmcjngab

/-- How many two lists have in common, in order. -/
def lcs : List Tr → List Tr → Nat
  | [], _ => 0
  | _ :: _, [] => 0
  | x :: xs, y :: ys => if x.beq y = true then lcs xs ys + 1 else max (lcs xs (y :: ys)) (lcs (x :: xs) ys)
termination_by a b => a.length + b.length
/-- Which these are, by their places; the lists begin at these places. -/
def com : List Tr → List Tr → Nat → Nat → List (Nat × Nat)
  | [], _, _, _ => []
  | _ :: _, [], _, _ => []
  | x :: xs, y :: ys, i, j => if x.beq y = true then (i, j) :: com xs ys (i + 1) (j + 1) else if lcs (x :: xs) ys ≤ lcs xs (y :: ys) then com xs (y :: ys) (i + 1) j else com (x :: xs) ys i (j + 1)
termination_by a b => a.length + b.length
theorem lcs_nil (b : List Tr) : lcs [] b = 0 := by rw [lcs]
theorem lcs_nil_right (a : List Tr) : lcs a [] = 0 := by cases a <;> rw [lcs]
theorem com_nil (b : List Tr) (i j : Nat) : com [] b i j = [] := by rw [com]
theorem com_nil_right (a : List Tr) (i j : Nat) : com a [] i j = [] := by cases a <;> rw [com]
theorem lcs_cons (x y : Tr) (xs ys : List Tr) : lcs (x :: xs) (y :: ys) = if x.beq y = true then lcs xs ys + 1 else max (lcs xs (y :: ys)) (lcs (x :: xs) ys) := by rw [lcs]
theorem com_cons (x y : Tr) (xs ys : List Tr) (i j : Nat) : com (x :: xs) (y :: ys) i j = if x.beq y = true then (i, j) :: com xs ys (i + 1) (j + 1) else if lcs (x :: xs) ys ≤ lcs xs (y :: ys) then com xs (y :: ys) (i + 1) j else com (x :: xs) ys i (j + 1) := by rw [com]
theorem Tr.beq_comm (a b : Tr) : a.beq b = b.beq a := by
  rw [Bool.eq_iff_iff, Tr.beq_iff, Tr.beq_iff]; exact eq_comm
theorem Tr.beqL_comm (a b : List Tr) : Tr.beqL a b = Tr.beqL b a := by
  rw [Bool.eq_iff_iff, Tr.beqL_iff, Tr.beqL_iff]; exact eq_comm
theorem lcs_bounds : ∀ (N : Nat) (a b : List Tr), a.length + b.length < N → (∀ x, lcs a b ≤ lcs (x :: a) b ∧ lcs (x :: a) b ≤ lcs a b + 1) ∧ (∀ y, lcs a b ≤ lcs a (y :: b) ∧ lcs a (y :: b) ≤ lcs a b + 1)
  | 0, a, b, h => by omega
  | N + 1, a, b, h => by
    constructor
    · intro x
      cases b with
      | nil => rw [lcs_nil_right, lcs_nil_right]; omega
      | cons y ys =>
        simp only [List.length_cons] at h
        have h1 := (lcs_bounds N a ys (by omega)).2 y
        have h2 := (lcs_bounds N a ys (by omega)).1 x
        rw [lcs_cons]
        split <;> omega
    · intro y
      cases a with
      | nil => rw [lcs_nil, lcs_nil]; omega
      | cons x xs =>
        simp only [List.length_cons] at h
        have h1 := (lcs_bounds N xs b (by omega)).1 x
        have h2 := (lcs_bounds N xs b (by omega)).2 y
        rw [lcs_cons]
        split <;> omega
theorem lcs_left (a b : List Tr) (x : Tr) : lcs a b ≤ lcs (x :: a) b ∧ lcs (x :: a) b ≤ lcs a b + 1 := (lcs_bounds _ a b (Nat.lt_succ_self _)).1 x
theorem lcs_right (a b : List Tr) (y : Tr) : lcs a b ≤ lcs a (y :: b) ∧ lcs a (y :: b) ≤ lcs a b + 1 := (lcs_bounds _ a b (Nat.lt_succ_self _)).2 y
/-- The document's way to reckon it. -/
theorem lcs_max (x y : Tr) (xs ys : List Tr) : lcs (x :: xs) (y :: ys) = if x.beq y = true ∧ max (lcs xs (y :: ys)) (lcs (x :: xs) ys) < lcs xs ys + 1 then lcs xs ys + 1 else max (lcs xs (y :: ys)) (lcs (x :: xs) ys) := by
  have h1 := lcs_left xs ys x
  have h2 := lcs_right xs ys y
  rw [lcs_cons]
  by_cases h : x.beq y = true
  · rw [if_pos h]
    split
    · rfl
    · rename_i hn
      have : ¬ max (lcs xs (y :: ys)) (lcs (x :: xs) ys) < lcs xs ys + 1 := fun e => hn ⟨h, e⟩
      omega
  · rw [if_neg h, if_neg (fun e => h e.1)]
theorem lcs_symm : ∀ (N : Nat) (a b : List Tr), a.length + b.length < N → lcs a b = lcs b a
  | 0, a, b, h => by omega
  | N + 1, [], b, h => by rw [lcs_nil, lcs_nil_right]
  | N + 1, x :: xs, [], h => by rw [lcs_nil, lcs_nil_right]
  | N + 1, x :: xs, y :: ys, h => by
    simp only [List.length_cons] at h
    rw [lcs_cons, lcs_cons, Tr.beq_comm y x, lcs_symm N xs ys (by omega), lcs_symm N xs (y :: ys) (by simp; omega), lcs_symm N (x :: xs) ys (by simp; omega)]
    split
    · rfl
    · omega
theorem lcs_comm (a b : List Tr) : lcs a b = lcs b a := lcs_symm _ a b (Nat.lt_succ_self _)
theorem lcs_self : ∀ a : List Tr, lcs a a = a.length
  | [] => by rw [lcs_nil]; rfl
  | x :: xs => by rw [lcs_cons, if_pos ((Tr.beq_iff x x).2 rfl), lcs_self xs]; rfl
theorem lcs_le : ∀ (a b : List Tr), lcs a b ≤ a.length ∧ lcs a b ≤ b.length
  | [], b => by rw [lcs_nil]; omega
  | x :: xs, b => by
    have h1 := lcs_le xs b
    have h2 := lcs_left xs b x
    refine ⟨by simp; omega, ?_⟩
    clear h1 h2
    induction b with
    | nil => rw [lcs_nil_right]; omega
    | cons y ys ih => have := lcs_right (x :: xs) ys y; simp; omega
theorem com_length : ∀ (N : Nat) (a b : List Tr) (i j : Nat), a.length + b.length < N → (com a b i j).length = lcs a b
  | 0, a, b, i, j, h => by omega
  | N + 1, [], b, i, j, h => by rw [lcs_nil, com_nil]; rfl
  | N + 1, x :: xs, [], i, j, h => by rw [lcs_nil_right, com_nil_right]; rfl
  | N + 1, x :: xs, y :: ys, i, j, h => by
    simp only [List.length_cons] at h
    rw [lcs_cons, com_cons]
    by_cases h1 : x.beq y = true
    · rw [if_pos h1, if_pos h1, List.length_cons, com_length N xs ys _ _ (by omega)]
    · rw [if_neg h1, if_neg h1]
      by_cases h2 : lcs (x :: xs) ys ≤ lcs xs (y :: ys)
      · rw [if_pos h2, com_length N xs (y :: ys) _ _ (by simp; omega)]; omega
      · rw [if_neg h2, com_length N (x :: xs) ys _ _ (by simp; omega)]; omega
/-- Pairs of trees that are the same, both places rising. -/
structure ComOk (a b : List Tr) (i j : Nat) (l : List (Nat × Nat)) : Prop where
  rise : l.Pairwise fun p q => p.1 < q.1 ∧ p.2 < q.2
  here : ∀ p ∈ l, i ≤ p.1 ∧ j ≤ p.2 ∧ ∃ t, a[p.1 - i]? = some t ∧ b[p.2 - j]? = some t
theorem com_ok : ∀ (N : Nat) (a b : List Tr) (i j : Nat), a.length + b.length < N → ComOk a b i j (com a b i j)
  | 0, a, b, i, j, h => by omega
  | N + 1, [], b, i, j, h => by rw [com_nil]; exact ⟨List.Pairwise.nil, by simp⟩
  | N + 1, x :: xs, [], i, j, h => by rw [com_nil_right]; exact ⟨List.Pairwise.nil, by simp⟩
  | N + 1, x :: xs, y :: ys, i, j, h => by
    simp only [List.length_cons] at h
    rw [com_cons]
    have up : ∀ (z : Tr) (zs : List Tr) (n k : Nat), k + 1 ≤ n → (z :: zs)[n - k]? = zs[n - (k + 1)]? := fun z zs n k hn => by
      rw [show n - k = (n - (k + 1)) + 1 by omega]; rfl
    by_cases h1 : x.beq y = true
    · rw [if_pos h1]
      obtain ⟨r, g⟩ := com_ok N xs ys (i + 1) (j + 1) (by omega)
      refine ⟨List.pairwise_cons.2 ⟨fun q hq => ?_, r⟩, fun p hp => ?_⟩
      · have := g q hq; simp only []; omega
      · rcases List.mem_cons.1 hp with rfl | hp
        · exact ⟨Nat.le_refl _, Nat.le_refl _, x, by simp, by simp [(Tr.beq_iff x y).1 h1]⟩
        · obtain ⟨g1, g2, t, g3, g4⟩ := g p hp
          exact ⟨by omega, by omega, t, by rw [up _ _ _ _ g1]; exact g3, by rw [up _ _ _ _ g2]; exact g4⟩
    · rw [if_neg h1]
      by_cases h2 : lcs (x :: xs) ys ≤ lcs xs (y :: ys)
      · rw [if_pos h2]
        obtain ⟨r, g⟩ := com_ok N xs (y :: ys) (i + 1) j (by simp; omega)
        refine ⟨r, fun p hp => ?_⟩
        obtain ⟨g1, g2, t, g3, g4⟩ := g p hp
        exact ⟨by omega, by omega, t, by rw [up _ _ _ _ g1]; exact g3, g4⟩
      · rw [if_neg h2]
        obtain ⟨r, g⟩ := com_ok N (x :: xs) ys i (j + 1) (by simp; omega)
        refine ⟨r, fun p hp => ?_⟩
        obtain ⟨g1, g2, t, g3, g4⟩ := g p hp
        exact ⟨by omega, by omega, t, g3, by rw [up _ _ _ _ g2]; exact g4⟩
/-- What two lists have in common. -/
def common (a b : List Tr) : List (Nat × Nat) := com a b 0 0
theorem common_length (a b : List Tr) : (common a b).length = lcs a b := com_length _ a b 0 0 (Nat.lt_succ_self _)
theorem common_rise (a b : List Tr) : (common a b).Pairwise fun p q => p.1 < q.1 ∧ p.2 < q.2 := (com_ok _ a b 0 0 (Nat.lt_succ_self _)).rise
theorem common_here (a b : List Tr) (p : Nat × Nat) (h : p ∈ common a b) : ∃ (h1 : p.1 < a.length) (h2 : p.2 < b.length), a[p.1] = b[p.2] := by
  obtain ⟨_, _, t, g1, g2⟩ := (com_ok _ a b 0 0 (Nat.lt_succ_self _)).here p h
  obtain ⟨e1, f1⟩ := List.getElem?_eq_some_iff.1 g1
  obtain ⟨e2, f2⟩ := List.getElem?_eq_some_iff.1 g2
  simp only [Nat.sub_zero] at e1 e2 f1 f2
  exact ⟨e1, e2, f1.trans f2.symm⟩
end Go.Proofs.Ytdbnfhpgmcjngab
