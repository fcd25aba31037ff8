/- The law OrderBack: its walk. -/
import Derived.Test.YtdbnfhpgmcjngaaOb
namespace Go.Proofs.Ytdbnfhpgmcjngaa
open Go Go.RowKit

mutual
theorem ndsT_lab : ∀ (t : Tr) (p : Nat) (par : Int), t.named = true → ∀ x ∈ ndsT p par t, isLab x.lab = true
  | .node l ks, p, par, h, x, hx => by
    simp only [Tr.named, Bool.and_eq_true] at h
    rw [ndsT] at hx
    simp only [List.mem_append, List.mem_singleton] at hx
    rcases hx with hx | rfl
    · exact ndsF_lab ks p _ h.2 x hx
    · exact h.1
theorem ndsF_lab : ∀ (ks : List Tr) (p : Nat) (par : Int), Tr.namedL ks = true → ∀ x ∈ ndsF p par ks, isLab x.lab = true
  | [], p, par, _, x, hx => by simp [ndsF] at hx
  | k :: ks, p, par, h, x, hx => by
    simp only [Tr.namedL, Bool.and_eq_true] at h
    rw [ndsF] at hx
    simp only [List.mem_append] at hx
    rcases hx with hx | hx
    · exact ndsT_lab k p par h.1 x hx
    · exact ndsF_lab ks _ par h.2 x hx
end
theorem isLab_size {s : ByteArray} (h : isLab s = true) : 0 < s.size ∧ s.size ≤ 6 := by
  unfold isLab at h; simp at h; omega
theorem nds_lab {t : Tr} (h : fault t = 0) : ∀ x ∈ nds t, x.lab.size ≤ maxLen := fun x hx => by
  have := isLab_size (ndsT_lab t 0 (-1) (fault_zero.1 h).2.2 x hx)
  unfold maxLen; omega
theorem tree_nds (l : ByteArray) (ks : List Tr) (hf : fault (.node l ks) = 0) (oa cap) (w : World) (hx : Nds Any w (nds (.node l ks)) oa cap) :
    Calls Try.prog 29 #[.slice oa (Tr.szL ks + 1) cap] w fun e w' => ∃ o2 c2, e = .returned (.tuple #[.agg #[.string l, .slice o2 ks.length c2], .int .i64 0]) ∧ Kids Any w' ks o2 c2 ∧ Pr w w' := by
  have := ordTree_any (nds (.node l ks)) (nds_lab hf) oa cap w hx
  rw [treeP_nds _ hf, nds_length, Tr.sz_node] at this
  refine this.mono ?_
  rintro e w' ⟨l', ks', o2, c2, he, _, rfl, hk, hb⟩
  cases he
  exact ⟨o2, c2, rfl, hk, hb⟩
theorem treeOf_zero {xs : List Nd} {lt : ByteArray} {kt : List Tr} (h : treeOf xs = (.node lt kt, 0)) : fault (.node lt kt) = 0 ∧ nds (.node lt kt) = xs := by
  unfold treeOf at h
  split at h
  · cases h
  · split at h
    · cases h
    · split at h
      · rename_i hc; rw [Prod.mk.injEq] at h; rw [← h.1]; exact hc
      · cases h
theorem treeOf_fault {xs : List Nd} {lt : ByteArray} {kt : List Tr} {cd : Nat} (h : treeOf xs = (.node lt kt, cd)) (hc : cd ≠ 0) : lt = ⟨#[]⟩ ∧ kt = [] := by
  unfold treeOf at h
  split at h
  · cases h; exact ⟨rfl, rfl⟩
  · split at h
    · cases h; exact ⟨rfl, rfl⟩
    · split at h
      · rw [Prod.mk.injEq] at h; exact absurd h.2.symm hc
      · cases h; exact ⟨rfl, rfl⟩
theorem sameNds_list (xs : List Nd) (n : Nat) (hn : xs.length = n) (oa cap ob cbp) (w : World) (hx : Nds Any w xs oa cap) (hy : Nds Any w xs ob cbp) :
    Calls Try.prog 32 #[.slice oa n cap, .slice ob n cbp] w fun e w' => e = .returned (.bool true) ∧ Pr w w' := by
  subst hn
  have := sameNodes_any xs xs oa cap ob cbp w hx hy
  simpa using this

set_option maxHeartbeats 3200000 in
theorem orderBack_walk (l : ByteArray) (ks : List Tr) (oa cap) (xs : List Nd) (xa xc) (w : World)
    (hl : l.size ≤ maxLen) (hk : Kids Any w ks oa cap) (hx : Nds Any w xs xa xc) (hw : ∀ y ∈ xs, y.lab.size ≤ maxLen ∧ (Lit.int .i64 y.par).wf = true ∧ (Lit.int .i64 y.left).wf = true) :
    Calls Try.prog 6 #[.agg #[.string l, .slice oa ks.length cap], .slice xa xs.length xc] w fun e w' => e = .returned (.bool true) ∧ Pr w w' := by
  have hm := hx.len
  obtain ⟨W, hW⟩ : ∃ W, W = (w.alloc (.cells #[.string l, .slice oa ks.length cap] 24)) := ⟨_, rfl⟩
  have hwW : Pr w W := by rw [hW]; exact Pr.alloc _ _
  have c0 : W.cell? ⟨w.heap.size, 0, none⟩ = some (.string l) := by rw [hW]; simp [go_sem]
  have c1 : W.cell? ⟨w.heap.size, 1, none⟩ = some (.slice oa ks.length cap) := by rw [hW]; simp [go_sem]
  have s0 := stays c0; have s1 := stays c1
  have hk' := hk.pr hwW; have hx' := hx.pr hwW
  clear c0 c1 hk hx
  obtain ⟨ru1, ru2, ru3⟩ := Pr.rules W
  by_cases hg1 : great (.node l ks) = true
  · have Hg1 := Lib.hid hg1; clear hg1
    go_enter Try.func6, Try.ntmps6
    go_wp2_with fail
    rw [← hW]; clear hW
    go_wp2_with (first
      | (go_at_call 28; refine (orderBegun_any _).mono ?_; rintro e w' ⟨rfl, hc⟩)
      | (go_at_call 15; (with_reducible refine Calls.mono (great_any l ks _ _ _ (hk'.pr hc)) ?_); rintro e w' ⟨rfl, hb⟩; simp only [Hg1.out]; have hc := hc.trans hb))
    go_ret
    exact ⟨rfl, hwW.trans hc⟩
  have hg1' : great (.node l ks) = false := by simpa using hg1
  have hz1 := great_sz hg1'
  have Hg1 := Lib.hid hg1'; clear hg1 hg1'
  by_cases hpl : 100 < xs.length
  · have hpl' : (100 : Int) < xs.length := by omega
    go_enter Try.func6, Try.ntmps6
    go_wp2_with fail
    rw [← hW]; clear hW
    go_wp2_with (first
      | (go_at_call 28; refine (orderBegun_any _).mono ?_; rintro e w' ⟨rfl, hc⟩)
      | (go_at_call 15; (with_reducible refine Calls.mono (great_any l ks _ _ _ (hk'.pr hc)) ?_); rintro e w' ⟨rfl, hb⟩; simp only [Hg1.out]; have hc := hc.trans hb))
    go_ret
    exact ⟨rfl, hwW.trans hc⟩
  have hpl' : ¬ ((100 : Int) < xs.length) := by omega
  obtain ⟨lt, kt, cd, hto, hlt, T1, -⟩ := tree_both xs (fun x h => (hw x h).1) xa xc W hx'
  have HT1 := Lib.hid T1
  have Hw := Lib.hid hw
  have HTO := Lib.hid hto
  have hsz : sizeR (Tr.szL ks + 1) 1000 = ((Tr.szL ks + 1 : Nat) : Int) := by unfold sizeR; omega
  have C6 : Hid (∀ (W' : World), Pr W W' → Calls Try.prog 24 #[.agg #[.string l, .slice oa ks.length cap], .int .i64 1000] W' fun e w' => e = .returned (.int .i64 ((Tr.szL ks + 1 : Nat) : Int)) ∧ Pr W' w') := fun W' h => by
    have := sizeOf_any _ l ks oa cap 1000 W' (Nat.lt_succ_self _) (by omega) (by omega) (hk'.pr h); rw [hsz] at this; exact this
  clear T1 hw hto hsz
  have CS : Hid (∀ (W' : World) o2 c2, Pr W W' → Kids Any W' ks o2 c2 → Calls Try.prog 26 #[.agg #[.string l, .slice oa ks.length cap], .agg #[.string l, .slice o2 ks.length c2]] W' fun e w' => e = .returned (.bool true) ∧ Pr W' w') := fun W' o2 c2 h h2 => by
    have := sameTree_any l l ks ks _ _ _ _ W' (hk'.pr h) h2; rw [Tr.beq_self] at this; exact this
  have CZ : Hid (∀ (W' : World) o2 c2, Kids Any W' [] o2 c2 → Calls Try.prog 26 #[.agg #[.string ⟨#[]⟩, .slice o2 0 c2], .agg #[.string ⟨#[]⟩, .slice none 0 0]] W' fun e w' => e = .returned (.bool true) ∧ Pr W' w') := fun W' o2 c2 h => by
    have := sameTree_any ⟨#[]⟩ ⟨#[]⟩ [] [] o2 c2 none 0 W' h (Kids.nil0 _ _); rw [Tr.beq_self] at this; exact this
  -- the first part: what it does alone is to make memory
  by_cases hcd : cd = 0
  · subst hcd
    obtain ⟨hft, hnt⟩ := treeOf_zero HTO.out
    have C8 := Lib.hid (fun (W' : World) o1 c1 (h : Kids Any W' kt o1 c1) => orderOf_yes lt kt o1 c1 W' hlt h hft)
    have hlen : xs.length = Tr.szL kt + 1 := by rw [← hnt, nds_length, Tr.sz_node]
    have C9 : Hid (∀ (W' : World) o1 c1, Pr W W' → Nds Any W' (nds (.node lt kt)) o1 c1 → Calls Try.prog 32 #[.slice o1 (Tr.szL kt + 1) c1, .slice xa xs.length xc] W' fun e w' => e = .returned (.bool true) ∧ Pr W' w') := Lib.hid fun W' o1 c1 h h1 => by
      rw [hnt] at h1
      have := sameNds_list xs _ rfl o1 c1 xa xc W' h1 (hx'.pr h)
      rw [hlen] at this ⊢
      exact this
    clear hft hnt hlen
    by_cases hf : fault (.node l ks) = 0
    · have C2 := Lib.hid (fun (W' : World) (h : Pr W W') => orderOf_yes l ks oa cap W' hl (hk'.pr h) hf)
      have C3 := Lib.hid (fun (W' : World) o1 c1 h => tree_nds l ks hf o1 c1 W' h)
      clear hf
      go_enter Try.func6, Try.ntmps6
      go_wp2_with fail
      rw [← hW]; clear hW
      go_wp2_with (first
        | (go_at_call 28; refine (orderBegun_any _).mono ?_; rintro e w' ⟨rfl, hc⟩)
        | (go_at_call 15; (with_reducible refine Calls.mono (great_any l ks _ _ _ (hk'.pr hc)) ?_); rintro e w' ⟨rfl, hb⟩; simp only [Hg1.out]; have hc := hc.trans hb)
        | (go_at_call 31; (with_reducible refine Calls.mono (C2.out _ hc) ?_); rintro e wD ⟨g, c, rfl, hn1, hb⟩; have hc := hc.trans hb)
        | (go_at_call 29; (with_reducible refine Calls.mono (C3.out _ _ _ hn1) ?_); rintro e wA ⟨oA, cA, rfl, kA, hb⟩; have hc := hc.trans hb; have kA := fun o => kA.pr (Pr.alloc _ o))
        | (go_at_call 26; (with_reducible refine Calls.mono (CS.out _ _ _ (hc.alloc' _) (kA _)) ?_); rintro e w1 ⟨rfl, hb⟩; have hc := (hc.alloc' _).trans hb; clear kA)
        | (go_at_call 24; (with_reducible refine Calls.mono (C6.out _ hc) ?_); rintro e w2 ⟨rfl, hb⟩; have hc := hc.trans hb)
        | (go_at_call 29; (with_reducible refine Calls.mono (HT1.out _ hc) ?_); rintro e wB ⟨oB, cB, rfl, kB, hb⟩; have hc := hc.trans hb; have kB := fun o => kB.pr (Pr.alloc _ o))
        | (go_at_call 31; (with_reducible refine Calls.mono (C8.out _ _ _ (kB _)) ?_); rintro e wF ⟨g3, c3, rfl, hn3, hb⟩; have hc := (hc.alloc' _).trans hb)
        | (go_at_call 32; (with_reducible refine Calls.mono (C9.out _ _ _ hc hn3) ?_); rintro e w3 ⟨rfl, hb⟩; have hc := hc.trans hb))
      go_ret
      exact ⟨rfl, hwW.trans hc⟩
    · have hnz : ((fault (.node l ks) : Int) == 0) = false := by simp; omega
      have C2 := Lib.hid (fun (W' : World) (h : Pr W W') => orderOf_no l ks oa cap W' hl (hk'.pr h) hf)
      clear hf
      go_enter Try.func6, Try.ntmps6
      go_wp2_with fail
      rw [← hW]; clear hW
      go_wp2_with (first
        | (go_at_call 28; refine (orderBegun_any _).mono ?_; rintro e w' ⟨rfl, hc⟩)
        | (go_at_call 15; (with_reducible refine Calls.mono (great_any l ks _ _ _ (hk'.pr hc)) ?_); rintro e w' ⟨rfl, hb⟩; simp only [Hg1.out]; have hc := hc.trans hb)
        | (go_at_call 31; (with_reducible refine Calls.mono (C2.out _ hc) ?_); rintro e wD ⟨rfl, hb⟩; have hc := hc.trans hb)
        | (go_at_call 29; (with_reducible refine Calls.mono (HT1.out _ hc) ?_); rintro e wB ⟨oB, cB, rfl, kB, hb⟩; have hc := hc.trans hb; have kB := fun o => kB.pr (Pr.alloc _ o))
        | (go_at_call 31; (with_reducible refine Calls.mono (C8.out _ _ _ (kB _)) ?_); rintro e wF ⟨g3, c3, rfl, hn3, hb⟩; have hc := (hc.alloc' _).trans hb)
        | (go_at_call 32; (with_reducible refine Calls.mono (C9.out _ _ _ hc hn3) ?_); rintro e w3 ⟨rfl, hb⟩; have hc := hc.trans hb))
      go_ret
      exact ⟨rfl, hwW.trans hc⟩
  · obtain ⟨rfl, rfl⟩ := treeOf_fault HTO.out hcd
    have hcz : ((cd : Int) != 0) = true := by simp [bne_iff_ne]; omega
    have HTO2 := HTO
    clear HTO hcd
    by_cases hf : fault (.node l ks) = 0
    · have C2 := Lib.hid (fun (W' : World) (h : Pr W W') => orderOf_yes l ks oa cap W' hl (hk'.pr h) hf)
      have C3 := Lib.hid (fun (W' : World) o1 c1 h => tree_nds l ks hf o1 c1 W' h)
      clear hf
      go_enter Try.func6, Try.ntmps6
      go_wp2_with fail
      rw [← hW]; clear hW
      go_wp2_with (first
        | (go_at_call 28; refine (orderBegun_any _).mono ?_; rintro e w' ⟨rfl, hc⟩)
        | (go_at_call 15; (with_reducible refine Calls.mono (great_any l ks _ _ _ (hk'.pr hc)) ?_); rintro e w' ⟨rfl, hb⟩; simp only [Hg1.out]; have hc := hc.trans hb)
        | (go_at_call 31; (with_reducible refine Calls.mono (C2.out _ hc) ?_); rintro e wD ⟨g, c, rfl, hn1, hb⟩; have hc := hc.trans hb)
        | (go_at_call 29; (with_reducible refine Calls.mono (C3.out _ _ _ hn1) ?_); rintro e wA ⟨oA, cA, rfl, kA, hb⟩; have hc := hc.trans hb; have kA := fun o => kA.pr (Pr.alloc _ o))
        | (go_at_call 26; (with_reducible refine Calls.mono (CS.out _ _ _ (hc.alloc' _) (kA _)) ?_); rintro e w1 ⟨rfl, hb⟩; have hc := (hc.alloc' _).trans hb; clear kA)
        | (go_at_call 24; (with_reducible refine Calls.mono (C6.out _ hc) ?_); rintro e w2 ⟨rfl, hb⟩; have hc := hc.trans hb)
        | (go_at_call 29; (with_reducible refine Calls.mono (HT1.out _ hc) ?_); rintro e wB ⟨oB, cB, rfl, kB, hb⟩; have hc := hc.trans hb; have kB := fun o => kB.pr (Pr.alloc _ o))
        | (go_at_call 26; (with_reducible refine Calls.mono (CZ.out _ _ _ (kB _)) ?_); rintro e w3 ⟨rfl, hb⟩; have hc := (hc.alloc' _).trans hb))
      go_ret
      exact ⟨rfl, hwW.trans hc⟩
    · have hnz : ((fault (.node l ks) : Int) == 0) = false := by simp; omega
      have C2 := Lib.hid (fun (W' : World) (h : Pr W W') => orderOf_no l ks oa cap W' hl (hk'.pr h) hf)
      clear hf
      go_enter Try.func6, Try.ntmps6
      go_wp2_with fail
      rw [← hW]; clear hW
      go_wp2_with (first
        | (go_at_call 28; refine (orderBegun_any _).mono ?_; rintro e w' ⟨rfl, hc⟩)
        | (go_at_call 15; (with_reducible refine Calls.mono (great_any l ks _ _ _ (hk'.pr hc)) ?_); rintro e w' ⟨rfl, hb⟩; simp only [Hg1.out]; have hc := hc.trans hb)
        | (go_at_call 31; (with_reducible refine Calls.mono (C2.out _ hc) ?_); rintro e wD ⟨rfl, hb⟩; have hc := hc.trans hb)
        | (go_at_call 29; (with_reducible refine Calls.mono (HT1.out _ hc) ?_); rintro e wB ⟨oB, cB, rfl, kB, hb⟩; have hc := hc.trans hb; have kB := fun o => kB.pr (Pr.alloc _ o))
        | (go_at_call 26; (with_reducible refine Calls.mono (CZ.out _ _ _ (kB _)) ?_); rintro e w3 ⟨rfl, hb⟩; have hc := (hc.alloc' _).trans hb))
      go_ret
      exact ⟨rfl, hwW.trans hc⟩
end Go.Proofs.Ytdbnfhpgmcjngaa
