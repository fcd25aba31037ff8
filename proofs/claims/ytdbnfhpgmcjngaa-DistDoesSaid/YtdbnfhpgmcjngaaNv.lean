/- The tree of a tree's nodes is it. No program here. -/
import Derived.Test.YtdbnfhpgmcjngaaNu
namespace Go.Proofs.Ytdbnfhpgmcjngaa

theorem underK_skip (n : Nat) (X Y Z L : List Nd) (hL : L = X ++ Y ++ Z) (h : ∀ y ∈ Y, y.par ≠ (n : Int)) : ∀ d, d ≤ Y.length → underK L n (X.length + d) = underK L n X.length := by
  intro d
  induction d with
  | zero => intro _; rfl
  | succ d ih =>
    intro hd
    have hl : X.length + d < L.length := by rw [hL]; simp; omega
    have e : L[X.length + d] = Y[d]'(by omega) := by
      subst hL
      rw [List.getElem_append_left (by simp; omega), List.getElem_append_right (by omega)]
      simp
    rw [← Nat.add_assoc, underK_no L n _ hl (by rw [e]; exact h _ (List.getElem_mem _)), ih (by omega)]

theorem underT_in (t : Tr) : ∀ (A C : List Nd) (par : Int) (L : List Nd), L = A ++ ndsT A.length par t ++ C → (∀ x ∈ A, ¬ ((A.length : Int) ≤ x.par ∧ x.par < (A.length : Int) + t.sz)) →
    underT L (A.length + t.sz - 1) = t := by
  induction t using Tr.ind with
  | h l ks ih =>
    intro A C par L hL hA
    simp only [Tr.sz_node] at hA ⊢
    rw [show A.length + (Tr.szL ks + 1) - 1 = A.length + Tr.szL ks by omega]
    generalize hR : ((A.length + Tr.szL ks : Nat) : Int) = R at *
    have hLr : L = (A ++ ndsF A.length R ks) ++ ⟨l, par, (A.length : Int)⟩ :: C := by
      rw [hL]; simp only [ndsT, hR, List.append_assoc, List.singleton_append]
    obtain ⟨hl, hx⟩ := get_mid hLr (n := A.length + Tr.szL ks) (by rw [List.length_append, ndsF_length])
    rw [underT_eq L _ hl, hx]
    have hk : ∀ j, j ≤ ks.length → underK L (A.length + Tr.szL ks) (A.length + Tr.szL (ks.take j)) = ks.take j := by
      intro j
      induction j with
      | zero =>
        intro _
        have := underK_skip (A.length + Tr.szL ks) [] A (ndsT A.length par (.node l ks) ++ C) L (by rw [hL]; simp) (fun y hy he => hA y hy (by omega)) A.length (Nat.le_refl _)
        simp only [List.length_nil, Nat.zero_add, underK_zero] at this
        simpa using this
      | succ j ihj =>
        intro hj1
        have hj : j < ks.length := by omega
        have ihj := ihj (by omega)
        have hsplit : ks = ks.take j ++ ks[j] :: ks.drop (j + 1) := by rw [← List.drop_eq_getElem_cons hj, List.take_append_drop]
        rw [List.take_succ_eq_append_getElem hj]
        have hmem : ks[j] ∈ ks := List.getElem_mem hj
        have hih := ih ks[j] hmem
        generalize hkj : ks[j] = k at *
        generalize hB : ks.take j = B at *
        generalize hD : ks.drop (j + 1) = D at *
        have hkz := k.sz_pos
        have hks : Tr.szL ks = Tr.szL B + k.sz + Tr.szL D := by rw [hsplit]; simp; omega
        have hAl : (A ++ ndsF A.length R B).length = A.length + Tr.szL B := by rw [List.length_append, ndsF_length]
        have hL2 : L = (A ++ ndsF A.length R B) ++ ndsT (A ++ ndsF A.length R B).length R k ++ (ndsF (A.length + Tr.szL B + k.sz) R D ++ [⟨l, par, (A.length : Int)⟩] ++ C) := by
          rw [hL, hAl]
          simp only [ndsT, hR]
          rw [hsplit, ndsF_append]
          simp only [ndsF, List.append_assoc]
        have hpre : ∀ x ∈ A ++ ndsF A.length R B, ¬ (((A ++ ndsF A.length R B).length : Int) ≤ x.par ∧ x.par < ((A ++ ndsF A.length R B).length : Int) + k.sz) := by
          intro x hx
          rw [hAl]
          rcases List.mem_append.1 hx with hx | hx
          · have := hA x hx; omega
          · rcases ndsF_par B A.length R x hx with h | h <;> omega
        have hu := hih _ _ R L hL2 hpre
        rw [hAl] at hu
        cases k with
        | node l2 ks2 =>
          simp only [Tr.sz_node] at *
          rw [show A.length + Tr.szL B + (Tr.szL ks2 + 1) - 1 = A.length + Tr.szL B + Tr.szL ks2 by omega] at hu
          have hL3 : L = (A ++ ndsF A.length R B) ++ ndsF (A.length + Tr.szL B) ((A.length + Tr.szL B + Tr.szL ks2 : Nat) : Int) ks2 ++ ⟨l2, R, ((A.length + Tr.szL B : Nat) : Int)⟩ :: (ndsF (A.length + Tr.szL B + (Tr.szL ks2 + 1)) R D ++ [⟨l, par, (A.length : Int)⟩] ++ C) := by
            rw [hL2, hAl]; simp only [ndsT, List.append_assoc, List.singleton_append]
          have hsk := underK_skip (A.length + Tr.szL ks) _ _ _ L hL3 (fun y hy he => by rcases ndsF_par ks2 _ _ y hy with h | h <;> omega) (Tr.szL ks2) (by rw [ndsF_length]; exact Nat.le_refl _)
          rw [hAl, ihj] at hsk
          obtain ⟨hq, hxq⟩ := get_mid hL3 (n := A.length + Tr.szL B + Tr.szL ks2) (by rw [List.length_append, hAl, ndsF_length])
          have hy := underK_yes L (A.length + Tr.szL ks) _ hq (by omega) (by rw [hxq, hR])
          rw [hsk, hu] at hy
          rw [show A.length + Tr.szL (B ++ [Tr.node l2 ks2]) = A.length + Tr.szL B + Tr.szL ks2 + 1 by simp; omega]; exact hy
    have := hk ks.length (Nat.le_refl _)
    rw [List.take_length] at this
    rw [this]

/-- The tree of a tree's nodes. -/
theorem underT_nds (t : Tr) : underT (nds t) ((nds t).length - 1) = t := by
  have := underT_in t [] [] (-1) (nds t) (by simp [nds]) (by simp)
  rw [nds_length]; simpa using this
end Go.Proofs.Ytdbnfhpgmcjngaa
