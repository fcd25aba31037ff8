/- Which nodes stay: the best of two forests, by numbers. No program here. -/
import Derived.Test.YtdbnfhpgmcjngaaFn
namespace Go.Proofs.Ytdbnfhpgmcjngaa

/-- Which nodes stay, of the numbers from i0 to ahead of i, and from j0 to ahead of j. -/
def bestP (xs ys : List Nd) (i0 i j0 j : Nat) : List (Nat × Nat) :=
  if h : i ≤ i0 ∨ j ≤ j0 then [] else
  if lfN xs (i - 1) = i0 ∧ lfN ys (j - 1) = j0 ∧ fdn xs ys i0 i j0 j = fdn xs ys i0 (i - 1) j0 (j - 1) + lc (labN xs (i - 1)) (labN ys (j - 1)) then
    bestP xs ys i0 (i - 1) j0 (j - 1) ++ [(i - 1, j - 1)]
  else if h2 : i0 ≤ lfN xs (i - 1) ∧ j0 ≤ lfN ys (j - 1) ∧ ¬(lfN xs (i - 1) = i0 ∧ lfN ys (j - 1) = j0) ∧
      fdn xs ys i0 i j0 j = fdn xs ys i0 (lfN xs (i - 1)) j0 (lfN ys (j - 1)) + fdn xs ys (lfN xs (i - 1)) i (lfN ys (j - 1)) j then
    bestP xs ys i0 (lfN xs (i - 1)) j0 (lfN ys (j - 1)) ++ bestP xs ys (lfN xs (i - 1)) i (lfN ys (j - 1)) j
  else if fdn xs ys i0 i j0 j = fdn xs ys i0 (i - 1) j0 j + 1 then bestP xs ys i0 (i - 1) j0 j
  else bestP xs ys i0 i j0 (j - 1)
termination_by (i - i0) + (j - j0)
decreasing_by
  all_goals
    have a1 := lfN_le xs (i - 1)
    have a2 := lfN_le ys (j - 1)
    omega

variable {xs ys : List Nd}
theorem bestP_nil {i0 i j0 j : Nat} (h : i ≤ i0 ∨ j ≤ j0) : bestP xs ys i0 i j0 j = [] := by rw [bestP, dif_pos h]
/-- One step. -/
theorem bestP_step {i0 i j0 j : Nat} (hi : i0 ≤ i) (hj : j0 ≤ j) (cx : Cl xs i0 (i + 1)) (cy : Cl ys j0 (j + 1)) :
    bestP xs ys i0 (i + 1) j0 (j + 1) =
      if lfN xs i = i0 ∧ lfN ys j = j0 ∧ fdn xs ys i0 (i + 1) j0 (j + 1) = fdn xs ys i0 i j0 j + lc (labN xs i) (labN ys j) then bestP xs ys i0 i j0 j ++ [(i, j)]
      else if ¬(lfN xs i = i0 ∧ lfN ys j = j0) ∧ fdn xs ys i0 (i + 1) j0 (j + 1) = fdn xs ys i0 (lfN xs i) j0 (lfN ys j) + fdn xs ys (lfN xs i) (i + 1) (lfN ys j) (j + 1) then
        bestP xs ys i0 (lfN xs i) j0 (lfN ys j) ++ bestP xs ys (lfN xs i) (i + 1) (lfN ys j) (j + 1)
      else if fdn xs ys i0 (i + 1) j0 (j + 1) = fdn xs ys i0 i j0 (j + 1) + 1 then bestP xs ys i0 i j0 (j + 1) else bestP xs ys i0 (i + 1) j0 j := by
  have h1 := cx i hi (by omega)
  have h2 := cy j hj (by omega)
  rw [bestP, dif_neg (by omega)]
  simp only [Nat.add_sub_cancel]
  by_cases hA : lfN xs i = i0 ∧ lfN ys j = j0 ∧ fdn xs ys i0 (i + 1) j0 (j + 1) = fdn xs ys i0 i j0 j + lc (labN xs i) (labN ys j)
  · rw [if_pos hA, if_pos hA]
  rw [if_neg hA, if_neg hA]
  by_cases hB : ¬(lfN xs i = i0 ∧ lfN ys j = j0) ∧ fdn xs ys i0 (i + 1) j0 (j + 1) = fdn xs ys i0 (lfN xs i) j0 (lfN ys j) + fdn xs ys (lfN xs i) (i + 1) (lfN ys j) (j + 1)
  · rw [dif_pos ⟨h1, h2, hB⟩, if_pos hB]
  · rw [dif_neg (fun h => hB h.2.2), if_neg hB]

/-- Pairs by rising numbers in both trees; each two stand alike beneath each other. -/
def Good (xs ys : List Nd) (l : List (Nat × Nat)) : Prop := l.Pairwise fun p q => p.1 < q.1 ∧ p.2 < q.2 ∧ (lfN xs q.1 ≤ p.1 ↔ lfN ys q.2 ≤ p.2)
/-- What they cost. -/
def nameC (xs ys : List Nd) (l : List (Nat × Nat)) : Nat := (l.map fun p => lc (labN xs p.1) (labN ys p.2)).foldr (· + ·) 0
theorem nameC_append (a b : List (Nat × Nat)) : nameC xs ys (a ++ b) = nameC xs ys a + nameC xs ys b := by
  induction a with
  | nil => simp [nameC]
  | cons p a ih => simp only [nameC, List.cons_append, List.map_cons, List.foldr_cons] at ih ⊢; omega
theorem nameC_one (p : Nat × Nat) : nameC xs ys [p] = lc (labN xs p.1) (labN ys p.2) := by simp [nameC]

theorem bestP_good (hx : Fit xs) (hy : Fit ys) : ∀ (N i0 i j0 j : Nat), (i - i0) + (j - j0) < N → i0 ≤ i → j0 ≤ j → Cl xs i0 i → Cl ys j0 j → i ≤ xs.length → j ≤ ys.length →
    (∀ p ∈ bestP xs ys i0 i j0 j, i0 ≤ p.1 ∧ p.1 < i ∧ j0 ≤ p.2 ∧ p.2 < j) ∧ Good xs ys (bestP xs ys i0 i j0 j) ∧
      (i - i0) + (j - j0) + nameC xs ys (bestP xs ys i0 i j0 j) = fdn xs ys i0 i j0 j + 2 * (bestP xs ys i0 i j0 j).length := by
  intro N
  induction N with
  | zero => intro i0 i j0 j h; omega
  | succ N ih =>
    intro i0 i j0 j hN hi hj cx cy hix hjy
    by_cases he : i ≤ i0 ∨ j ≤ j0
    · rw [bestP_nil he]
      refine ⟨by simp, List.Pairwise.nil, ?_⟩
      simp only [nameC, List.map_nil, List.foldr_nil, List.length_nil]
      rcases he with he | he
      · rw [fdn_left hy he hj cy hjy]; omega
      · rw [fdn_right hx he hi cx hix]; omega
    obtain ⟨i, rfl⟩ : ∃ a, i = a + 1 := ⟨i - 1, by omega⟩
    obtain ⟨j, rfl⟩ : ∃ a, j = a + 1 := ⟨j - 1, by omega⟩
    have hl := cx i (by omega) (by omega)
    have hm := cy j (by omega) (by omega)
    have hl2 := lfN_le xs i
    have hm2 := lfN_le ys j
    have hst := fdn_step2 hx hy (by omega : i0 ≤ i) (by omega : j0 ≤ j) cx cy (by omega) (by omega)
    rw [bestP_step (by omega) (by omega) cx cy]
    by_cases hA : lfN xs i = i0 ∧ lfN ys j = j0 ∧ fdn xs ys i0 (i + 1) j0 (j + 1) = fdn xs ys i0 i j0 j + lc (labN xs i) (labN ys j)
    · rw [if_pos hA]
      obtain ⟨h1, h2, h3⟩ := ih i0 i j0 j (by omega) (by omega) (by omega) (cx.mono (by omega)) (cy.mono (by omega)) (by omega) (by omega)
      refine ⟨fun p hp => ?_, ?_, ?_⟩
      · simp only [List.mem_append, List.mem_singleton] at hp
        rcases hp with hp | rfl
        · have := h1 p hp; omega
        · simp only; omega
      · unfold Good
        rw [List.pairwise_append]
        refine ⟨h2, List.pairwise_singleton _ _, fun p hp q hq => ?_⟩
        simp only [List.mem_singleton] at hq
        subst hq
        have := h1 p hp
        simp only; omega
      · rw [nameC_append, nameC_one, List.length_append, List.length_singleton]
        have h4 := hA.2.2
        clear hst hA
        simp only; omega
    rw [if_neg hA]
    by_cases hB : ¬(lfN xs i = i0 ∧ lfN ys j = j0) ∧ fdn xs ys i0 (i + 1) j0 (j + 1) = fdn xs ys i0 (lfN xs i) j0 (lfN ys j) + fdn xs ys (lfN xs i) (i + 1) (lfN ys j) (j + 1)
    · rw [if_pos hB]
      have clx := hx.cl (i := i) (by omega)
      have cly := hy.cl (i := j) (by omega)
      obtain ⟨h1, h2, h3⟩ := ih i0 (lfN xs i) j0 (lfN ys j) (by omega) (by omega) (by omega) (cx.mono (by omega)) (cy.mono (by omega)) (by omega) (by omega)
      obtain ⟨g1, g2, g3⟩ := ih (lfN xs i) (i + 1) (lfN ys j) (j + 1) (by omega) (by omega) (by omega) clx cly (by omega) (by omega)
      refine ⟨fun p hp => ?_, ?_, ?_⟩
      · simp only [List.mem_append] at hp
        rcases hp with hp | hp
        · have := h1 p hp; omega
        · have := g1 p hp; omega
      · unfold Good
        rw [List.pairwise_append]
        refine ⟨h2, g2, fun p hp q hq => ?_⟩
        have a := h1 p hp
        have b := g1 q hq
        have c := clx q.1 (by omega) (by omega)
        have d := cly q.2 (by omega) (by omega)
        omega
      · rw [nameC_append, List.length_append]; omega
    rw [if_neg hB]
    have h1s : lfN xs i = i0 ∧ lfN ys j = j0 → fdn xs ys i0 (i + 1) j0 (j + 1) = min (fdn xs ys i0 i j0 (j + 1) + 1) (min (fdn xs ys i0 (i + 1) j0 j + 1) (fdn xs ys i0 i j0 j + lc (labN xs i) (labN ys j))) :=
      fun h => fdn_step1 hx hy h.1 h.2 (by omega) (by omega)
    have hno : fdn xs ys i0 (i + 1) j0 (j + 1) = min (fdn xs ys i0 i j0 (j + 1) + 1) (fdn xs ys i0 (i + 1) j0 j + 1) := by
      by_cases hc : lfN xs i = i0 ∧ lfN ys j = j0
      · have := h1s hc
        have : ¬ fdn xs ys i0 (i + 1) j0 (j + 1) = fdn xs ys i0 i j0 j + lc (labN xs i) (labN ys j) := fun h => hA ⟨hc.1, hc.2, h⟩
        omega
      · have : ¬ fdn xs ys i0 (i + 1) j0 (j + 1) = fdn xs ys i0 (lfN xs i) j0 (lfN ys j) + fdn xs ys (lfN xs i) (i + 1) (lfN ys j) (j + 1) := fun h => hB ⟨hc, h⟩
        omega
    clear hst h1s hA hB
    by_cases hC : fdn xs ys i0 (i + 1) j0 (j + 1) = fdn xs ys i0 i j0 (j + 1) + 1
    · rw [if_pos hC]
      obtain ⟨h1, h2, h3⟩ := ih i0 i j0 (j + 1) (by omega) (by omega) (by omega) (cx.mono (by omega)) cy (by omega) (by omega)
      clear hno
      exact ⟨fun p hp => by have := h1 p hp; omega, h2, by omega⟩
    · rw [if_neg hC]
      obtain ⟨h1, h2, h3⟩ := ih i0 (i + 1) j0 j (by omega) (by omega) (by omega) cx (cy.mono (by omega)) (by omega) (by omega)
      have h4 : fdn xs ys i0 (i + 1) j0 (j + 1) = fdn xs ys i0 (i + 1) j0 j + 1 := by omega
      clear hno hC
      exact ⟨fun p hp => by have := h1 p hp; omega, h2, by omega⟩

/-- The best of two trees, root of root. -/
def bestT (a b : Tr) : List (Nat × Nat) := bestP (nds a) (nds b) 0 (a.sz - 1) 0 (b.sz - 1) ++ [(a.sz - 1, b.sz - 1)]
theorem lf_root (t : Tr) : lfN (nds t) (t.sz - 1) = 0 := by
  cases t with | node l ks =>
  rw [Tr.sz_node, Nat.add_sub_cancel]; unfold lfN; rw [nds_root]; simp
theorem lab_root (t : Tr) : labN (nds t) (t.sz - 1) = t.label := by
  cases t with | node l ks =>
  rw [Tr.sz_node, Nat.add_sub_cancel]; unfold labN; rw [nds_root]; rfl
theorem costT_eq (a b : Tr) : costT a b = fdn (nds a) (nds b) 0 (a.sz - 1) 0 (b.sz - 1) + lc a.label b.label := by
  cases a with | node l ks =>
  cases b with | node m js =>
  rw [costT_fdn]; simp only [Tr.sz_node, Nat.add_sub_cancel]; rfl
theorem bestT_good (a b : Tr) : (∀ p ∈ bestT a b, p.1 < a.sz ∧ p.2 < b.sz) ∧ Good (nds a) (nds b) (bestT a b) ∧ a.sz + b.sz + nameC (nds a) (nds b) (bestT a b) = costT a b + 2 * (bestT a b).length := by
  have ha := a.sz_pos
  have hb := b.sz_pos
  obtain ⟨h1, h2, h3⟩ := bestP_good (fit_nds a) (fit_nds b) _ 0 (a.sz - 1) 0 (b.sz - 1) (Nat.lt_succ_self _) (Nat.zero_le _) (Nat.zero_le _) (Cl.zero _ _) (Cl.zero _ _) (by rw [nds_length]; omega) (by rw [nds_length]; omega)
  unfold bestT
  refine ⟨fun p hp => ?_, ?_, ?_⟩
  · simp only [List.mem_append, List.mem_singleton] at hp
    rcases hp with hp | rfl
    · have := h1 p hp; omega
    · simp only; omega
  · unfold Good
    rw [List.pairwise_append]
    refine ⟨h2, List.pairwise_singleton _ _, fun p hp q hq => ?_⟩
    simp only [List.mem_singleton] at hq
    subst hq
    have := h1 p hp
    simp only [lf_root]; omega
  · rw [nameC_append, nameC_one, List.length_append, List.length_singleton, costT_eq, lab_root, lab_root]; omega
end Go.Proofs.Ytdbnfhpgmcjngaa
