/- Forests by numbers: what stands between two numbers of a tree's nodes, and how far apart such are. No program here. -/
import Derived.Test.YtdbnfhpgmcjngaaFd
import Derived.Test.YtdbnfhpgmcjngaaNd
namespace Go.Proofs.Ytdbnfhpgmcjngaa

/-- The lowest number beneath a node. -/
def lfN (xs : List Nd) (k : Nat) : Nat := match xs[k]? with | some x => min x.left.toNat k | none => k
def labN (xs : List Nd) (k : Nat) : ByteArray := match xs[k]? with | some x => x.lab | none => ⟨#[]⟩
theorem lfN_le (xs : List Nd) (k : Nat) : lfN xs k ≤ k := by unfold lfN; split <;> omega
theorem labN_get (xs : List Nd) (k : Nat) (h : k < xs.length) : labN xs k = xs[k].lab := by unfold labN; rw [List.getElem?_eq_getElem h]

/-- Nodes from the number p on, each of which stands behind all beneath it. -/
def FitP (p : Nat) (L : List Nd) : Prop := ∀ k (h : k < L.length), (p : Int) ≤ L[k].left ∧ L[k].left ≤ ((p + k : Nat) : Int) ∧ ∀ j (hj : j ≤ k), L[k].left ≤ ((p + j : Nat) : Int) → L[k].left ≤ (L[j]'(Nat.lt_of_le_of_lt hj h)).left
theorem FitP.nil (p : Nat) : FitP p [] := fun _ h => absurd h (Nat.not_lt_zero _)
theorem FitP.append {p : Nat} {A B : List Nd} (ha : FitP p A) (hb : FitP (p + A.length) B) : FitP p (A ++ B) := by
  intro k h
  by_cases hk : k < A.length
  · rw [List.getElem_append_left hk]
    obtain ⟨h1, h2, h3⟩ := ha k hk
    refine ⟨h1, h2, fun j hj hl => ?_⟩
    rw [List.getElem_append_left (by omega)]
    exact h3 j hj hl
  · rw [List.getElem_append_right (by omega)]
    rw [List.length_append] at h
    obtain ⟨h1, h2, h3⟩ := hb (k - A.length) (by omega)
    refine ⟨by omega, by omega, fun j hj hl => ?_⟩
    have hjA : A.length ≤ j := by omega
    rw [List.getElem_append_right hjA]
    exact h3 (j - A.length) (by omega) (by omega)
theorem FitP.root {p : Nat} {A : List Nd} (ha : FitP p A) (l : ByteArray) (par : Int) : FitP p (A ++ [⟨l, par, (p : Int)⟩]) := by
  intro k h
  by_cases hk : k < A.length
  · rw [List.getElem_append_left hk]
    obtain ⟨h1, h2, h3⟩ := ha k hk
    refine ⟨h1, h2, fun j hj hl => ?_⟩
    rw [List.getElem_append_left (by omega)]
    exact h3 j hj hl
  · simp only [List.length_append, List.length_singleton] at h
    obtain rfl : k = A.length := by omega
    rw [List.getElem_append_right (by omega)]
    simp only [Nat.sub_self, List.getElem_cons_zero]
    refine ⟨Int.le_refl _, by omega, fun j hj _ => ?_⟩
    by_cases hjk : j < A.length
    · rw [List.getElem_append_left hjk]; exact (ha j hjk).1
    · obtain rfl : j = A.length := by omega
      rw [List.getElem_append_right (by omega)]
      simp only [Nat.sub_self, List.getElem_cons_zero]
      exact Int.le_refl _
mutual
theorem fitT : ∀ (t : Tr) (p : Nat) (par : Int), FitP p (ndsT p par t)
  | .node l ks, p, par => by rw [ndsT]; exact (fitF ks p _).root l par
theorem fitF : ∀ (ks : List Tr) (p : Nat) (par : Int), FitP p (ndsF p par ks)
  | [], p, par => by rw [ndsF]; exact FitP.nil p
  | k :: ks, p, par => by rw [ndsF]; exact (fitT k p par).append (by rw [ndsT_length]; exact fitF ks _ par)
end

/-- Nodes of a tree, as far as their Left goes. -/
structure Fit (xs : List Nd) : Prop where
  left : ∀ k (h : k < xs.length), xs[k].left = (lfN xs k : Int)
  nest : ∀ k j, k < xs.length → lfN xs k ≤ j → j ≤ k → lfN xs k ≤ lfN xs j
theorem FitP.fit {xs : List Nd} (h : FitP 0 xs) : Fit xs := by
  have hl : ∀ k (h : k < xs.length), xs[k].left = (lfN xs k : Int) := fun k hk => by
    obtain ⟨h1, h2, _⟩ := h k hk
    unfold lfN
    rw [List.getElem?_eq_getElem hk]
    simp only
    omega
  refine ⟨hl, fun k j hk h1 h2 => ?_⟩
  have h3 := (h k hk).2.2 j h2
  rw [hl k hk, hl j (by omega)] at h3
  have := h3 (by omega)
  omega
theorem fit_nds (t : Tr) : Fit (nds t) := (fitT t 0 (-1)).fit

/-- The numbers from i0 on, as far as i, make whole trees. -/
def Cl (xs : List Nd) (i0 i : Nat) : Prop := ∀ k, i0 ≤ k → k < i → i0 ≤ lfN xs k
theorem Cl.mono {xs : List Nd} {i0 i j : Nat} (h : Cl xs i0 i) (hj : j ≤ i) : Cl xs i0 j := fun k h1 h2 => h k h1 (by omega)
theorem Cl.zero (xs : List Nd) (i : Nat) : Cl xs 0 i := fun _ _ _ => Nat.zero_le _
theorem Fit.cl {xs : List Nd} (h : Fit xs) {i : Nat} (hi : i < xs.length) : Cl xs (lfN xs i) (i + 1) := fun k h1 h2 => h.nest i k hi h1 (by omega)
theorem Fit.cl' {xs : List Nd} (h : Fit xs) {i : Nat} (hi : i < xs.length) : Cl xs (lfN xs i) i := (h.cl hi).mono (by omega)

/-- The trees that stand between. -/
def rng (xs : List Nd) (i0 : Nat) : Nat → List Tr
  | 0 => []
  | i + 1 => if i0 ≤ i then rng xs i0 (lfN xs i) ++ [.node (labN xs i) (rng xs (lfN xs i) i)] else []
termination_by i => i
decreasing_by all_goals (have := lfN_le xs i; omega)
theorem rng_nil (xs : List Nd) (i0 i : Nat) (h : i ≤ i0) : rng xs i0 i = [] := by
  cases i with
  | zero => rw [rng]
  | succ i => rw [rng, if_neg (by omega)]
theorem rng_succ (xs : List Nd) (i0 i : Nat) (h : i0 ≤ i) : rng xs i0 (i + 1) = rng xs i0 (lfN xs i) ++ [.node (labN xs i) (rng xs (lfN xs i) i)] := by rw [rng, if_pos h]
theorem rng_split (xs : List Nd) (i0 m : Nat) (hm : i0 ≤ m) : ∀ (N q : Nat), q < N → m ≤ q → Cl xs m q → rng xs i0 q = rng xs i0 m ++ rng xs m q := by
  intro N
  induction N with
  | zero => intro q h; omega
  | succ N ih =>
    intro q hq hmq hc
    by_cases he : q = m
    · subst he; rw [rng_nil xs q q (Nat.le_refl _), List.append_nil]
    · obtain ⟨i, rfl⟩ : ∃ i, q = i + 1 := ⟨q - 1, by omega⟩
      have hl := hc i (by omega) (by omega)
      have hl2 := lfN_le xs i
      rw [rng_succ xs i0 i (by omega), rng_succ xs m i (by omega), ih (lfN xs i) (by omega) hl (hc.mono (by omega)), List.append_assoc]
theorem rng_size (xs : List Nd) : ∀ (N i0 i : Nat), i < N → i0 ≤ i → (∀ k, i0 ≤ k → k < i → i0 ≤ lfN xs k) → Fit xs → i ≤ xs.length → Tr.szL (rng xs i0 i) = i - i0 := by
  intro N
  induction N with
  | zero => intro i0 i h; omega
  | succ N ih =>
    intro i0 i hi h0 hc hf hx
    by_cases he : i = i0
    · subst he; rw [rng_nil xs i i (Nat.le_refl _)]; simp
    · obtain ⟨j, rfl⟩ : ∃ j, i = j + 1 := ⟨i - 1, by omega⟩
      have hl := hc j (by omega) (by omega)
      have hl2 := lfN_le xs j
      have h1 := ih i0 (lfN xs j) (by omega) hl (fun k a b => hc k a (by omega)) hf (by omega)
      have h2 := ih (lfN xs j) j (by omega) hl2 (hf.cl' (by omega)) hf (by omega)
      rw [rng_succ xs i0 j (by omega)]
      simp only [Tr.szL_append, Tr.szL_cons, Tr.szL_nil, Tr.sz_node]
      omega
/-- A tree's numbers make it. -/
theorem rng_in : (∀ t : Tr, ∀ (A C : List Nd) (par : Int) (L : List Nd), L = A ++ ndsT A.length par t ++ C → rng L A.length (A.length + t.sz) = [t]) := by
  intro t
  induction t using Tr.ind with
  | _ l ks ih =>
  intro A C par L hL
  have key : ∀ (js : List Tr), (∀ k ∈ js, k ∈ ks) → ∀ (A C : List Nd) (par : Int), L = A ++ ndsF A.length par js ++ C → rng L A.length (A.length + Tr.szL js) = js := by
    intro js
    induction js with
    | nil => intro _ A C par _; rw [rng_nil _ _ _ (by simp)]
    | cons k js ihj =>
      intro hm A C par hLj
      rw [ndsF] at hLj
      have h1 := ih k (hm k (by simp)) A (ndsF (A.length + k.sz) par js ++ C) par L (by rw [hLj]; simp)
      have h2 := ihj (fun x hx => hm x (by simp [hx])) (A ++ ndsT A.length par k) C par (by rw [hLj]; simp [ndsT_length])
      rw [List.length_append, ndsT_length] at h2
      have hs := rng_split L A.length (A.length + k.sz) (by omega) _ (A.length + (k.sz + Tr.szL js)) (Nat.lt_succ_self _) (by omega) (fun q q1 q2 => by
        have hf := fitF js (A.length + k.sz) par
        have hlen := ndsF_length js (A.length + k.sz) par
        have hq : q - (A.length + k.sz) < (ndsF (A.length + k.sz) par js).length := by omega
        have hg := (hf _ hq).1
        have hqL : q < L.length := by rw [hLj]; simp [ndsT_length, ndsF_length]; omega
        have he : L[q] = (ndsF (A.length + k.sz) par js)[q - (A.length + k.sz)] := by
          have : L[q]? = (ndsF (A.length + k.sz) par js)[q - (A.length + k.sz)]? := by
            rw [hLj, List.getElem?_append_left (by simp [ndsT_length, ndsF_length]; omega), List.getElem?_append_right (by omega), List.getElem?_append_right (by rw [ndsT_length]; omega), ndsT_length]
            congr 1; omega
          rw [List.getElem?_eq_getElem hqL, List.getElem?_eq_getElem hq] at this
          simpa using this
        unfold lfN
        rw [List.getElem?_eq_getElem hqL, he]
        simp only
        omega)
      rw [Tr.szL_cons, hs, h1, ← Nat.add_assoc, h2]; rfl
  rw [ndsT] at hL
  have hk := key ks (fun _ h => h) A ([⟨l, par, (A.length : Int)⟩] ++ C) ((A.length + Tr.szL ks : Nat) : Int) (by rw [hL]; simp only [List.append_assoc])
  have hroot : L[A.length + Tr.szL ks]? = some ⟨l, par, (A.length : Int)⟩ := by
    rw [hL, List.getElem?_append_left (by simp [ndsF_length]), List.getElem?_append_right (by omega), List.getElem?_append_right (by rw [ndsF_length]; omega), ndsF_length]
    simp
  have hlf : lfN L (A.length + Tr.szL ks) = A.length := by unfold lfN; rw [hroot]; simp only; omega
  have hlab : labN L (A.length + Tr.szL ks) = l := by unfold labN; rw [hroot]
  rw [Tr.sz_node, ← Nat.add_assoc, rng_succ L _ _ (by omega), hlf, hlab, hk, rng_nil _ _ _ (Nat.le_refl _)]
  rfl
theorem rng_nds (t : Tr) : rng (nds t) 0 t.sz = [t] := by
  have := rng_in t [] [] (-1) (nds t) (by simp [nds])
  simpa using this
theorem nds_root (l : ByteArray) (ks : List Tr) : (nds (.node l ks))[Tr.szL ks]? = some ⟨l, -1, 0⟩ := by
  unfold nds; rw [ndsT, List.getElem?_append_right (by rw [ndsF_length]; omega), ndsF_length]; simp
theorem rng_kids (l : ByteArray) (ks : List Tr) : rng (nds (.node l ks)) 0 (Tr.szL ks) = ks := by
  have h := rng_nds (.node l ks)
  have hlf : lfN (nds (.node l ks)) (Tr.szL ks) = 0 := by unfold lfN; rw [nds_root]; simp
  rw [Tr.sz_node, rng_succ _ _ _ (Nat.zero_le _), hlf, rng_nil _ _ _ (Nat.le_refl _)] at h
  simp at h
  exact h.2

/-- How far apart, by numbers. -/
def fdn (xs ys : List Nd) (i0 i j0 j : Nat) : Nat := fd (rng xs i0 i) (rng ys j0 j)
variable {xs ys : List Nd}
theorem fdn_left (hy : Fit ys) {i0 i j0 j : Nat} (hi : i ≤ i0) (hj : j0 ≤ j) (cy : Cl ys j0 j) (h : j ≤ ys.length) : fdn xs ys i0 i j0 j = j - j0 := by
  unfold fdn; rw [rng_nil xs i0 i hi, fd_nil]; exact rng_size ys _ j0 j (Nat.lt_succ_self _) hj cy hy h
theorem fdn_right (hx : Fit xs) {i0 i j0 j : Nat} (hj : j ≤ j0) (hi : i0 ≤ i) (cx : Cl xs i0 i) (h : i ≤ xs.length) : fdn xs ys i0 i j0 j = i - i0 := by
  unfold fdn; rw [rng_nil ys j0 j hj, fd_nil_right]; exact rng_size xs _ i0 i (Nat.lt_succ_self _) hi cx hx h
theorem rng_down (hx : Fit xs) {i0 i : Nat} (hi : i0 ≤ i) (cx : Cl xs i0 (i + 1)) (h : i < xs.length) : rng xs i0 i = rng xs i0 (lfN xs i) ++ rng xs (lfN xs i) i :=
  rng_split xs i0 (lfN xs i) (cx i hi (by omega)) _ i (Nat.lt_succ_self _) (lfN_le xs i) (hx.cl' h)
theorem rng_one (xs : List Nd) (i : Nat) : rng xs (lfN xs i) (i + 1) = [.node (labN xs i) (rng xs (lfN xs i) i)] := by
  rw [rng_succ xs _ i (lfN_le xs i), rng_nil _ _ _ (Nat.le_refl _)]; rfl
/-- The recursion of the document's answer. -/
theorem fdn_step (hx : Fit xs) (hy : Fit ys) {i0 i j0 j : Nat} (hi : i0 ≤ i) (hj : j0 ≤ j) (cx : Cl xs i0 (i + 1)) (cy : Cl ys j0 (j + 1)) (hix : i < xs.length) (hjy : j < ys.length) :
    fdn xs ys i0 (i + 1) j0 (j + 1) = min (fdn xs ys i0 i j0 (j + 1) + 1) (min (fdn xs ys i0 (i + 1) j0 j + 1) (fdn xs ys i0 (lfN xs i) j0 (lfN ys j) + fdn xs ys (lfN xs i) i (lfN ys j) j + lc (labN xs i) (labN ys j))) := by
  unfold fdn
  rw [rng_succ xs i0 i hi, rng_succ ys j0 j hj, fd_snoc, ← rng_down hx hi cx hix, ← rng_down hy hj cy hjy]
/-- Tree of tree. -/
theorem fdn_tree (hx : Fit xs) (hy : Fit ys) {i j : Nat} (hix : i < xs.length) (hjy : j < ys.length) :
    fdn xs ys (lfN xs i) (i + 1) (lfN ys j) (j + 1) = min (fdn xs ys (lfN xs i) i (lfN ys j) (j + 1) + 1) (min (fdn xs ys (lfN xs i) (i + 1) (lfN ys j) j + 1) (fdn xs ys (lfN xs i) i (lfN ys j) j + lc (labN xs i) (labN ys j))) := by
  have := fdn_step hx hy (lfN_le xs i) (lfN_le ys j) (hx.cl hix) (hy.cl hjy) hix hjy
  rw [this, fdn_left hy (Nat.le_refl _) (Nat.le_refl _) (fun k a b => by omega) (by have := lfN_le ys j; omega)]
  simp
/-- The recursion of the program: a tree of a tree. -/
theorem fdn_step2 (hx : Fit xs) (hy : Fit ys) {i0 i j0 j : Nat} (hi : i0 ≤ i) (hj : j0 ≤ j) (cx : Cl xs i0 (i + 1)) (cy : Cl ys j0 (j + 1)) (hix : i < xs.length) (hjy : j < ys.length) :
    fdn xs ys i0 (i + 1) j0 (j + 1) = min (fdn xs ys i0 i j0 (j + 1) + 1) (min (fdn xs ys i0 (i + 1) j0 j + 1) (fdn xs ys i0 (lfN xs i) j0 (lfN ys j) + fdn xs ys (lfN xs i) (i + 1) (lfN ys j) (j + 1))) := by
  have h1 := fdn_step hx hy hi hj cx cy hix hjy
  have h2 := fdn_tree hx hy hix hjy
  have h3 : fdn xs ys i0 (i + 1) j0 (j + 1) ≤ fdn xs ys i0 (lfN xs i) j0 (lfN ys j) + fdn xs ys (lfN xs i) (i + 1) (lfN ys j) (j + 1) := by
    have := fd_sub (rng xs i0 (lfN xs i)) (rng ys j0 (lfN ys j)) (rng xs (lfN xs i) (i + 1)) (rng ys (lfN ys j) (j + 1))
    rw [rng_one, rng_one, ← rng_succ xs i0 i hi, ← rng_succ ys j0 j hj] at this
    unfold fdn
    rw [rng_one, rng_one]
    exact this
  omega
/-- Where both are one tree. -/
theorem fdn_step1 (hx : Fit xs) (hy : Fit ys) {i0 i j0 j : Nat} (hl : lfN xs i = i0) (hm : lfN ys j = j0) (hix : i < xs.length) (hjy : j < ys.length) :
    fdn xs ys i0 (i + 1) j0 (j + 1) = min (fdn xs ys i0 i j0 (j + 1) + 1) (min (fdn xs ys i0 (i + 1) j0 j + 1) (fdn xs ys i0 i j0 j + lc (labN xs i) (labN ys j))) := by
  subst hl; subst hm; exact fdn_tree hx hy hix hjy

/-- What order.Of's nodes cost, root of root. -/
def costT (a b : Tr) : Nat := fd a.kids b.kids + lc a.label b.label
theorem costT_fdn (l m : ByteArray) (ks js : List Tr) : costT (.node l ks) (.node m js) = fdn (nds (.node l ks)) (nds (.node m js)) 0 (Tr.szL ks) 0 (Tr.szL js) + lc l m := by
  unfold costT fdn; rw [rng_kids, rng_kids]; rfl
theorem pair_root (a b : Tr) : fdn (nds a) (nds b) 0 a.sz 0 b.sz = fd [a] [b] := by unfold fdn; rw [rng_nds, rng_nds]
end Go.Proofs.Ytdbnfhpgmcjngaa
