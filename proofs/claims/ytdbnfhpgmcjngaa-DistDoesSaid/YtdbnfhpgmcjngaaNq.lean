/- The two ways to tell a node's path tell the same. No program here. -/
import Derived.Test.YtdbnfhpgmcjngaaNp
namespace Go.Proofs.Ytdbnfhpgmcjngaa

mutual
theorem ndsT_par : ∀ (t : Tr) (p : Nat) (par : Int), ∀ x ∈ ndsT p par t, x.par = par ∨ ((p : Int) ≤ x.par ∧ x.par < (p : Int) + t.sz)
  | .node l ks, p, par, x, hx => by
    simp only [ndsT, List.mem_append, List.mem_singleton] at hx
    rcases hx with hx | rfl
    · rcases ndsF_par ks p _ x hx with h | h
      · right; simp only [Tr.sz_node]; omega
      · right; simp only [Tr.sz_node]; omega
    · exact .inl rfl
theorem ndsF_par : ∀ (ks : List Tr) (p : Nat) (par : Int), ∀ x ∈ ndsF p par ks, x.par = par ∨ ((p : Int) ≤ x.par ∧ x.par < (p : Int) + Tr.szL ks)
  | [], p, par, x, hx => by cases hx
  | k :: ks, p, par, x, hx => by
    simp only [ndsF, List.mem_append] at hx
    rcases hx with hx | hx
    · rcases ndsT_par k p par x hx with h | h
      · exact .inl h
      · right; simp only [Tr.szL_cons]; omega
    · rcases ndsF_par ks _ par x hx with h | h
      · exact .inl h
      · right; simp only [Tr.szL_cons]; omega
end
theorem cnt_zero {l : List Nd} {R : Int} (h : ∀ x ∈ l, x.par ≠ R) : l.countP (fun x => decide (x.par = R)) = 0 := by
  rw [List.countP_eq_zero]; intro x hx; simpa using h x hx
theorem cnt_ndsT (t : Tr) (p : Nat) (R : Int) (h : (p : Int) + t.sz ≤ R) : (ndsT p R t).countP (fun x => decide (x.par = R)) = 1 := by
  cases t with
  | node l ks =>
    simp only [Tr.sz_node] at h
    simp only [ndsT, List.countP_append, List.countP_cons, List.countP_nil]
    rw [cnt_zero (fun x hx => by rcases ndsF_par ks p _ x hx with h1 | h1 <;> omega)]
    simp
theorem cnt_ndsF : ∀ (ks : List Tr) (p : Nat) (R : Int), (p : Int) + Tr.szL ks ≤ R → (ndsF p R ks).countP (fun x => decide (x.par = R)) = ks.length
  | [], p, R, h => rfl
  | k :: ks, p, R, h => by
    simp only [Tr.szL_cons] at h
    simp only [ndsF, List.countP_append, List.length_cons]
    rw [cnt_ndsT k p R (by omega), cnt_ndsF ks _ R (by omega)]; omega

theorem get_mid {α : Type} {A C : List α} {x : α} {L : List α} (h : L = A ++ x :: C) {n : Nat} (hn : n = A.length) : ∃ hl : n < L.length, L[n] = x := by
  subst h; subst hn
  exact ⟨by simp, by simp⟩

/-- In a longer list: a node's path is its tree's root's, and then what the tree tells. -/
theorem pathN_in (t : Tr) : ∀ (A C : List Nd) (par : Int) (L : List Nd), L = A ++ ndsT A.length par t ++ C → (∀ x ∈ A, ¬ ((A.length : Int) ≤ x.par ∧ x.par < (A.length : Int) + t.sz)) →
    ∀ m, m < t.sz → pathN L (A.length + m) = pathN L (A.length + t.sz - 1) ++ pathT t m := by
  induction t using Tr.ind with
  | h l ks ih =>
    intro A C par L hL hA m hm
    simp only [Tr.sz_node] at hA hm
    have hsz : A.length + (Tr.node l ks).sz - 1 = A.length + Tr.szL ks := by simp only [Tr.sz_node]; omega
    rw [hsz]
    have hpT : pathT (.node l ks) m = pathF ks 0 m := by rw [pathT]
    rw [hpT]
    by_cases hr : m = Tr.szL ks
    · subst hr; rw [pathF_out ks 0 _ (Nat.le_refl _), List.append_nil]
    have hm' : m < Tr.szL ks := by omega
    clear hm hr
    -- the kid in which it stands
    obtain ⟨j, hj, h1, h2⟩ : ∃ j, ∃ hj : j < ks.length, Tr.szL (ks.take j) ≤ m ∧ m < Tr.szL (ks.take j) + ks[j].sz := by
      clear hL hA hsz hpT ih
      induction ks generalizing m with
      | nil => simp at hm'
      | cons k ks ihk =>
        by_cases hk : m < k.sz
        · exact ⟨0, by simp, by simp, by simpa using hk⟩
        · obtain ⟨j, hj, h1, h2⟩ := ihk (m - k.sz) (by simp at hm'; omega)
          refine ⟨j + 1, by simpa using hj, ?_, ?_⟩
          · simp only [List.take_succ_cons, Tr.szL_cons]; omega
          · simp only [List.take_succ_cons, Tr.szL_cons, List.getElem_cons_succ]; omega
    rw [pathF_hit ks j m hj h1 h2]
    -- the list, parted at that kid
    have hsplit : ks = ks.take j ++ ks[j] :: ks.drop (j + 1) := by rw [← List.drop_eq_getElem_cons hj, List.take_append_drop]
    generalize hkj : ks[j] = k at *
    generalize hB : ks.take j = B at *
    generalize hD : ks.drop (j + 1) = D at *
    have hBl : B.length = j := by rw [← hB, List.length_take]; omega
    have hks : Tr.szL ks = Tr.szL B + k.sz + Tr.szL D := by rw [hsplit]; simp; omega
    have hkz := k.sz_pos
    generalize hR : ((A.length + Tr.szL ks : Nat) : Int) = R at *
    have hRv : R = (A.length : Int) + Tr.szL B + k.sz + Tr.szL D := by rw [← hR, hks]; omega
    have hAl : (A ++ ndsF A.length R B).length = A.length + Tr.szL B := by rw [List.length_append, ndsF_length]
    have hL2 : L = (A ++ ndsF A.length R B) ++ ndsT (A ++ ndsF A.length R B).length R k ++ (ndsF (A.length + Tr.szL B + k.sz) R D ++ [⟨l, par, (A.length : Int)⟩] ++ C) := by
      rw [hL, hAl]
      simp only [ndsT, hR]
      rw [hsplit, ndsF_append]
      simp only [ndsF, List.append_assoc]
    have hpre : ∀ x ∈ A ++ ndsF A.length R B, ¬ (((A ++ ndsF A.length R B).length : Int) ≤ x.par ∧ x.par < ((A ++ ndsF A.length R B).length : Int) + k.sz) := by
      intro x hx
      rw [hAl]
      rcases List.mem_append.1 hx with hx | hx
      · have := hA x hx; omega
      · rcases ndsF_par B A.length R x hx with h | h <;> omega
    have hmem : k ∈ ks := by rw [← hkj]; exact List.getElem_mem hj
    have h3 := ih k hmem _ _ R L hL2 hpre (m - Tr.szL B) (by omega)
    rw [hAl, show A.length + Tr.szL B + (m - Tr.szL B) = A.length + m by omega] at h3
    rw [h3]
    -- the kid's root
    have h4 : pathN L (A.length + Tr.szL B + k.sz - 1) = pathN L (A.length + Tr.szL ks) ++ [(j : Int)] := by
      cases k with
      | node l2 ks2 =>
        simp only [Tr.sz_node] at *
        have hL3 : L = ((A ++ ndsF A.length R B) ++ ndsF (A.length + Tr.szL B) ((A.length + Tr.szL B + Tr.szL ks2 : Nat) : Int) ks2) ++ ⟨l2, R, ((A.length + Tr.szL B : Nat) : Int)⟩ :: (ndsF (A.length + Tr.szL B + (Tr.szL ks2 + 1)) R D ++ [⟨l, par, (A.length : Int)⟩] ++ C) := by
          rw [hL2, hAl]; simp only [ndsT, List.append_assoc, List.singleton_append]
        obtain ⟨hl, hx⟩ := get_mid hL3 (n := A.length + Tr.szL B + (Tr.szL ks2 + 1) - 1) (by rw [List.length_append, hAl, ndsF_length]; omega)
        rw [pathN_up hl (by rw [hx]; show _ < R; omega), hx]
        have e1 : R.toNat = A.length + Tr.szL ks := by rw [← hR]; omega
        show pathN L R.toNat ++ [(cntPar L _ R : Int)] = _
        rw [e1]
        congr 2
        have e2 : cntPar L (A.length + Tr.szL B + (Tr.szL ks2 + 1) - 1) R = j := by
          unfold cntPar
          have e3 : L.take (A.length + Tr.szL B + (Tr.szL ks2 + 1) - 1) = (A ++ ndsF A.length R B) ++ ndsF (A.length + Tr.szL B) ((A.length + Tr.szL B + Tr.szL ks2 : Nat) : Int) ks2 := by
            rw [hL3]
            exact List.take_left' (by rw [List.length_append, hAl, ndsF_length]; omega)
          rw [e3, List.countP_append, List.countP_append, cnt_ndsF B A.length R (by omega), hBl]
          rw [cnt_zero (l := A) (fun x hx => by have := hA x hx; omega)]
          rw [cnt_zero (l := ndsF _ _ ks2) (fun x hx => by rcases ndsF_par ks2 _ _ x hx with h | h <;> omega)]
          omega
        rw [e2]
    rw [h4, List.append_assoc]; rfl

/-- Of a tree's nodes: both tell the same. -/
theorem pathN_nds (t : Tr) (n : Nat) : pathN (nds t) n = pathT t n := by
  have hlen := nds_length t
  by_cases hn : n < t.sz
  · have h := pathN_in t [] [] (-1) (nds t) (by simp [nds]) (by simp) n hn
    simp only [List.length_nil, Nat.zero_add] at h
    rw [h]
    have hr : pathN (nds t) (t.sz - 1) = [] := by
      cases t with
      | node l ks =>
        simp only [Tr.sz_node, Nat.add_sub_cancel] at *
        obtain ⟨hl, hx⟩ := get_mid (L := nds (.node l ks)) (A := ndsF 0 ((0 + Tr.szL ks : Nat) : Int) ks) (x := ⟨l, -1, ((0 : Nat) : Int)⟩) (C := []) (n := Tr.szL ks) (by simp [nds, ndsT]) (by rw [ndsF_length])
        exact pathN_root hl (by rw [hx]; show ¬ ((Tr.szL ks : Nat) : Int) < -1; omega)
    rw [hr]; rfl
  · rw [pathN_out (by omega)]
    cases t with
    | node l ks =>
      have : pathT (.node l ks) n = pathF ks 0 n := by rw [pathT]
      rw [this, pathF_out ks 0 n (by simp at hn; omega)]
theorem pathZ_nds (t : Tr) (n : Int) : pathZ (nds t) n = pathTZ t n := by
  by_cases h : n < 0
  · rw [pathZ_neg h, pathTZ_neg h]
  · obtain ⟨m, rfl⟩ := Int.eq_ofNat_of_zero_le (by omega : 0 ≤ n)
    rw [pathZ_nat, pathTZ_nat, pathN_nds]
end Go.Proofs.Ytdbnfhpgmcjngaa
