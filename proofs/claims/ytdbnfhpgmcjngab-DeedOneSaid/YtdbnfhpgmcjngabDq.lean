/- Plain: a deed turns one node. No program here. -/
import Derived.Test.YtdbnfhpgmcjngabDp
import Derived.Test.YtdbnfhpgmcjngabNd
namespace Go.Proofs.Ytdbnfhpgmcjngab

mutual
def tl : Tr → List ByteArray | .node l ks => tlF ks ++ [l]
def tlF : List Tr → List ByteArray | [] => [] | k :: ks => tl k ++ tlF ks
end
theorem tl_node (l : ByteArray) (ks : List Tr) : tl (.node l ks) = tlF ks ++ [l] := by simp [tl]
theorem tlF_append : ∀ (F G : List Tr), tlF (F ++ G) = tlF F ++ tlF G
  | [], G => by simp [tlF]
  | k :: F, G => by simp [tlF, tlF_append F G]
theorem tlF_one (k : Tr) : tlF [k] = tl k := by simp [tlF]
mutual
theorem ndsT_tl : ∀ (t : Tr) (p : Nat) (par : Int), (ndsT p par t).map (·.lab) = tl t
  | .node l ks, p, par => by simp [ndsT, tl, ndsF_tl ks]
theorem ndsF_tl : ∀ (ks : List Tr) (p : Nat) (par : Int), (ndsF p par ks).map (·.lab) = tlF ks
  | [], _, _ => by simp [ndsF, tlF]
  | k :: ks, p, par => by simp [ndsF, tlF, ndsT_tl k, ndsF_tl ks]
end
theorem nds_tl (t : Tr) : (nds t).map (·.lab) = tl t := ndsT_tl t 0 (-1)

/-- All labels but x of the one and y of the other are the same, in their order. -/
def One (t r : Tr) (x y : Nat) : Prop := ∃ A a b C, tl t = A ++ a ++ C ∧ tl r = A ++ b ++ C ∧ a.length = x ∧ b.length = y
theorem set_split {ks : List Tr} {n : Nat} (h : n < ks.length) (v : Tr) : ks.set n v = ks.take n ++ [v] ++ ks.drop (n + 1) := by
  rw [List.set_eq_take_append_cons_drop, if_pos h]; simp
theorem get_split {ks : List Tr} {n : Nat} (h : n < ks.length) : ks = ks.take n ++ [ks[n]] ++ ks.drop (n + 1) := by
  rw [List.append_assoc]
  have : [ks[n]] ++ ks.drop (n + 1) = ks.drop n := by rw [List.drop_eq_getElem_cons h]; rfl
  rw [this, List.take_append_drop]
theorem One.set {x y : Nat} : ∀ {p : List Int} {t u v : Tr}, t.at? p = some u → One u v x y → One t (t.setAt p v) x y
  | [], t, u, v, h, ho => by cases h; exact ho
  | k :: p, .node l ks, u, v, h, ho => by
    simp only [Tr.at?] at h
    cases hk : (Tr.node l ks).kid? k with
    | none => rw [hk] at h; cases h
    | some w =>
      rw [hk] at h
      obtain ⟨_, hi, hv, _⟩ := kid?_some hk
      obtain ⟨A, a, b, C, h1, h2, h3, h4⟩ := One.set (p := p) h ho
      have hw : ks[k.toNat] = w := by rw [← hv]; simp [kidN, hi]
      rw [Tr.setAt_node, hv]
      refine ⟨tlF (ks.take k.toNat) ++ A, a, b, C ++ (tlF (ks.drop (k.toNat + 1)) ++ [l]), ?_, ?_, h3, h4⟩
      · rw [tl_node]
        conv => lhs; rw [get_split hi]
        rw [tlF_append, tlF_append, tlF_one, hw, h1]; simp
      · rw [tl_node, set_split hi, tlF_append, tlF_append, tlF_one, h2]; simp
theorem one_node {t : Tr} {d : Dee} (hd : dfault d = 0) (h : (doneT d d.path t).2 = 0) :
    ∃ x y, One t (doneT d d.path t).1 x y ∧ x ≤ 1 ∧ y ≤ 1 ∧ (d.kind = 1 → x = 1 ∧ y = 1) ∧ (d.kind = 3 → x = 0 ∧ y = 1) ∧ (d.kind = 2 → x = 1 ∧ y = 0) := by
  obtain ⟨⟨k1, k3⟩, _, _, p0, m0, _⟩ := dfault_zero.1 hd
  rcases done_cases hd h with ⟨hk, x, hx, hr⟩ | ⟨hk, x, hx, hx1, hx2, hr⟩ | ⟨hk, up, k, u, x, hpe, hu, hx, hr⟩
  · refine ⟨1, 1, ?_, by omega, by omega, by omega, by omega, by omega⟩
    rw [hr]
    cases x with
    | node l ks => exact One.set hx ⟨tlF ks, [l], [d.lab], [], by simp [tl], by simp [tl, Tr.kids_node], rfl, rfl⟩
  · refine ⟨0, 1, ?_, by omega, by omega, by omega, by omega, by omega⟩
    rw [hr]
    obtain ⟨n, hn⟩ := Int.eq_ofNat_of_zero_le p0
    obtain ⟨m, hm⟩ := Int.eq_ofNat_of_zero_le m0
    rw [hn, hm]
    simp only [Int.toNat_natCast]
    cases x with
    | node l ks =>
      refine One.set hx ⟨tlF (ks.take n) ++ tlF ((ks.drop n).take m), [], [d.lab], tlF (ks.drop (n + m)) ++ [l], ?_, ?_, rfl, rfl⟩
      · rw [tl_node]
        have e : ks = ks.take n ++ ((ks.drop n).take m ++ ks.drop (n + m)) := by
          rw [show ks.drop (n + m) = (ks.drop n).drop m by rw [List.drop_drop], List.take_append_drop, List.take_append_drop]
        conv => lhs; rw [e]
        rw [tlF_append, tlF_append]; simp
      · simp only [Tr.kids_node, Tr.label_node, tl_node, tlF_append, tlF_one]; simp
  · refine ⟨1, 0, ?_, by omega, by omega, by omega, by omega, by omega⟩
    rw [hr]
    cases u with
    | node l ks =>
      obtain ⟨hk0, hki, hkv, _⟩ := kid?_some hx
      have hw : ks[k.toNat] = x := by rw [← hkv]; simp [kidN, hki]
      refine One.set hu ⟨tlF (ks.take k.toNat) ++ tlF x.kids, [x.label], [], tlF (ks.drop (k.toNat + 1)) ++ [l], ?_, ?_, rfl, rfl⟩
      · rw [tl_node]
        conv => lhs; rw [get_split hki]
        rw [tlF_append, tlF_append, tlF_one, hw]
        cases x with
        | node xl xks => simp [tl_node, Tr.kids_node, Tr.label_node]
      · simp only [Tr.kids_node, Tr.label_node, tl_node, tlF_append]; simp
theorem tl_length (t : Tr) : (tl t).length = t.sz := by rw [← nds_tl, List.length_map, nds_length]
theorem One.size {t r : Tr} {x y : Nat} (h : One t r x y) : t.sz + y = r.sz + x := by
  obtain ⟨A, a, b, C, h1, h2, h3, h4⟩ := h
  have e1 := congrArg List.length h1
  have e2 := congrArg List.length h2
  rw [tl_length] at e1 e2
  simp at e1 e2; omega
/-- The label of a node, by its number. -/
def labAt (xs : List Nd) (i : Nat) : ByteArray := ((xs[i]?).map (·.lab)).getD ⟨#[]⟩
theorem labAt_get (xs : List Nd) (i : Nat) (h : i < xs.length) : labAt xs i = xs[i].lab := by simp [labAt, h]
/-- The first i labels are gone through: they are as many as can be. -/
theorem One.front {t r : Tr} {x y : Nat} (h : One t r x y) : ∃ F B, F + B ≤ t.sz ∧ F + B + x = t.sz ∧ F + B + y = r.sz ∧
    (∀ i, i < (nds t).length → i < (nds r).length → labAt (nds t) i ≠ labAt (nds r) i → F ≤ i) ∧
    (∀ j, j < (nds t).length → j < (nds r).length → labAt (nds t) ((nds t).length - 1 - j) ≠ labAt (nds r) ((nds r).length - 1 - j) → B ≤ j) := by
  obtain ⟨A, a, b, C, h1, h2, h3, h4⟩ := h
  have e1 := congrArg List.length h1
  have e2 := congrArg List.length h2
  rw [tl_length] at e1 e2
  simp at e1 e2
  have g1 : ∀ i (h : i < (nds t).length), (nds t)[i].lab = (A ++ a ++ C)[i]'(by rw [← h1, tl_length, ← nds_length]; exact h) := fun i h => by
    have : ((nds t).map (·.lab))[i]'(by simpa using h) = (A ++ a ++ C)[i]'(by rw [← h1, tl_length, ← nds_length]; exact h) := by
      congr 1; rw [nds_tl, h1]
    simpa using this
  have g2 : ∀ i (h : i < (nds r).length), (nds r)[i].lab = (A ++ b ++ C)[i]'(by rw [← h2, tl_length, ← nds_length]; exact h) := fun i h => by
    have : ((nds r).map (·.lab))[i]'(by simpa using h) = (A ++ b ++ C)[i]'(by rw [← h2, tl_length, ← nds_length]; exact h) := by
      congr 1; rw [nds_tl, h2]
    simpa using this
  refine ⟨A.length, C.length, by omega, by omega, by omega, fun i hi1 hi2 hne => ?_, fun j hj1 hj2 hne => ?_⟩
  · refine Nat.le_of_not_lt fun hlt => hne ?_
    rw [labAt_get _ i hi1, labAt_get _ i hi2, g1 i hi1, g2 i hi2]
    simp [List.getElem_append_left, hlt]
  · refine Nat.le_of_not_lt fun hlt => hne ?_
    rw [nds_length] at hj1 hj2
    rw [labAt_get _ _ (by rw [nds_length]; omega), labAt_get _ _ (by rw [nds_length]; omega), g1 _ (by rw [nds_length]; omega), g2 _ (by rw [nds_length]; omega)]
    have k1 : (nds t).length - 1 - j = (A ++ a).length + (C.length - 1 - j) := by rw [nds_length]; simp; omega
    have k2 : (nds r).length - 1 - j = (A ++ b).length + (C.length - 1 - j) := by rw [nds_length]; simp; omega
    simp only [k1, k2]
    rw [List.getElem_append_right (by omega), List.getElem_append_right (by omega)]
    simp
end Go.Proofs.Ytdbnfhpgmcjngab
