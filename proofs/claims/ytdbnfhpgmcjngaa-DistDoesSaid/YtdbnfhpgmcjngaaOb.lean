/- The law OrderDoes: its walk. -/
import Derived.Test.YtdbnfhpgmcjngaaOa
import Derived.Test.YtdbnfhpgmcjngaaOpn
namespace Go.Proofs.Ytdbnfhpgmcjngaa
open Go Go.RowKit

theorem wf_bd {n : Int} (h : (Lit.int .i64 n).wf = true) : -9223372036854775808 ≤ n ∧ n ≤ 9223372036854775807 := by
  simp [Lit.wf, IntKind.min, IntKind.max, IntKind.signed, IntKind.bits] at h
  omega

/-- The program's tree of nodes, and the document's: they are the same. -/
theorem tree_both (xs : List Nd) (hlab : ∀ x ∈ xs, x.lab.size ≤ maxLen) (oa cap) (w : World) (hx : Nds Any w xs oa cap) : ∃ lt kt, ∃ cd : Nat, treeOf xs = (.node lt kt, cd) ∧ lt.size ≤ maxLen ∧
    (∀ W', Pr w W' → Calls Try.prog 29 #[.slice oa xs.length cap] W' fun e w' => ∃ o2 c2, e = .returned (.tuple #[.agg #[.string lt, .slice o2 kt.length c2], .int .i64 cd]) ∧ Kids Any w' kt o2 c2 ∧ Pr W' w') ∧
    (∀ W', Pr w W' → Calls Try.prog 30 #[.slice oa xs.length cap] W' fun e w' => ∃ o2 c2, e = .returned (.tuple #[.agg #[.string lt, .slice o2 kt.length c2], .int .i64 cd]) ∧ Kids Any w' kt o2 c2 ∧ Pr W' w') := by
  have hsz : (treeOf xs).1.label.size ≤ maxLen := by
    unfold treeOf
    split
    · simp [Tr.zero, Tr.label, ByteArray.size]
    · split
      · simp [Tr.zero, Tr.label, ByteArray.size]
      · split
        · rename_i h0 _ _
          rw [underT_eq xs (xs.length - 1) (by omega)]
          exact hlab _ (List.getElem_mem _)
        · simp [Tr.zero, Tr.label, ByteArray.size]
  have h1 := fun W' (h : Pr w W') => ordTree_any xs hlab oa cap W' (hx.pr h)
  have h2 := fun W' (h : Pr w W') => treeOf_any xs hlab oa cap W' (hx.pr h)
  rw [treeP_eq] at h1
  generalize treeOf xs = q at *
  obtain ⟨⟨lt, kt⟩, cd⟩ := q
  refine ⟨lt, kt, cd, rfl, hsz, fun W' h => (h1 W' h).mono ?_, fun W' h => (h2 W' h).mono ?_⟩
  all_goals
    rintro e w' ⟨l, ks, o2, c2, he, _, rfl, hk, hb⟩
    cases he
    exact ⟨o2, c2, rfl, hk, hb⟩

theorem orderOf_yes (l : ByteArray) (ks : List Tr) (oa cap) (w : World) (hl : l.size ≤ maxLen) (hk : Kids Any w ks oa cap) (hf : fault (.node l ks) = 0) :
    Calls Try.prog 31 #[.agg #[.string l, .slice oa ks.length cap]] w fun e w' => ∃ g c, e = .returned (.tuple #[.slice (some ⟨g, 0, none⟩) (Tr.szL ks + 1) c, .int .i64 0]) ∧ Nds Any w' (nds (.node l ks)) (some ⟨g, 0, none⟩) c ∧ Pr w w' := by
  refine (orderOf_any l ks oa cap w hl hk).mono ?_
  rintro e w' ⟨_, h2, hb⟩
  obtain ⟨g, c, rfl, ho⟩ := h2 hf
  obtain ⟨o1, cp, hv, hn⟩ := ho.nds
  rw [nds_length] at hv
  cases hv
  exact ⟨g, c, rfl, hn.any, hb⟩
theorem orderOf_no (l : ByteArray) (ks : List Tr) (oa cap) (w : World) (hl : l.size ≤ maxLen) (hk : Kids Any w ks oa cap) (hf : fault (.node l ks) ≠ 0) :
    Calls Try.prog 31 #[.agg #[.string l, .slice oa ks.length cap]] w fun e w' => e = .returned (.tuple #[.slice none 0 0, .int .i64 (fault (.node l ks) : Nat)]) ∧ Pr w w' := by
  refine (orderOf_any l ks oa cap w hl hk).mono ?_
  rintro e w' ⟨h1, _, hb⟩
  exact ⟨h1 hf, hb⟩
/-- Nodes of a tree, held against those that the document tells. -/
theorem nodesOf_yes (l : ByteArray) (ks : List Tr) (oa cap) (w : World) (h : Tr.szL ks ≤ 100000) (hk : Kids Any w ks oa cap) :
    Calls Try.prog 33 #[.agg #[.string l, .slice oa ks.length cap], .slice none 0 0] w fun e w' => ∃ g c, e = .returned (.slice (some ⟨g, 0, none⟩) (Tr.szL ks + 1) c) ∧ Nds Any w' (nds (.node l ks)) (some ⟨g, 0, none⟩) c ∧ Pr w w' := by
  refine (nodesOf_nil l ks oa cap w h hk).mono ?_
  rintro e w' ⟨g, c, rfl, ho, hb⟩
  obtain ⟨o1, cp, hv, hn⟩ := ho.nds
  rw [nds_length] at hv
  cases hv
  exact ⟨g, c, rfl, hn.any, hb⟩
theorem sameNds_yes (t : Tr) (oa cap ob cbp) (w : World) (hx : Nds Any w (nds t) oa cap) (hy : Nds Any w (nds t) ob cbp) :
    Calls Try.prog 32 #[.slice oa t.sz cap, .slice ob t.sz cbp] w fun e w' => e = .returned (.bool true) ∧ Pr w w' := by
  have := sameNodes_any (nds t) (nds t) oa cap ob cbp w hx hy
  rw [nds_length] at this
  simpa using this
theorem path_ints (xs : List Nd) (hs : xs.length ≤ 1000000) (n : Int) (oa cap) (w : World) (hx : Nds Any w xs oa cap) :
    Calls Try.prog 35 #[.slice oa xs.length cap, .int .i64 n] w fun e w' => ∃ o2 c2, e = .returned (.slice o2 (pathZ xs n).length c2) ∧ Ints Any w' (pathZ xs n) o2 c2 ∧ Pr w w' := by
  refine (path_any xs hs n oa cap w hx).mono ?_
  rintro e w' ⟨v, rfl, hv, hb⟩
  obtain ⟨o2, c2, rfl, hi⟩ := hv.ints
  exact ⟨o2, c2, rfl, Flat.any hi, hb⟩

set_option maxHeartbeats 1600000 in
theorem orderDoes_walk (l : ByteArray) (ks : List Tr) (oa cap) (xs : List Nd) (xa xc) (n : Int) (w : World)
    (hl : l.size ≤ maxLen) (hk : Kids Any w ks oa cap) (hx : Nds Any w xs xa xc) (hw : ∀ y ∈ xs, y.lab.size ≤ maxLen ∧ (Lit.int .i64 y.par).wf = true ∧ (Lit.int .i64 y.left).wf = true) (hn : (Lit.int .i64 n).wf = true) :
    Calls Try.prog 5 #[.agg #[.string l, .slice oa ks.length cap], .slice xa xs.length xc, .int .i64 n] w fun e w' => e = .returned (.bool true) ∧ Pr w w' := by
  have hm := hx.len
  obtain ⟨W, hW⟩ : ∃ W, W = (w.alloc (.cells #[.string l, .slice oa ks.length cap] 24)) := ⟨_, rfl⟩
  have hwW : Pr w W := by rw [hW]; exact Pr.alloc _ _
  have c0 : W.cell? ⟨w.heap.size, 0, none⟩ = some (.string l) := by rw [hW]; simp [go_sem]
  have c1 : W.cell? ⟨w.heap.size, 1, none⟩ = some (.slice oa ks.length cap) := by rw [hW]; simp [go_sem]
  have s0 := stays c0; have s1 := stays c1
  have hk' := hk.pr hwW; have hx' := hx.pr hwW
  clear c0 c1 hk hx
  obtain ⟨ru1, ru2, ru3⟩ := Pr.rules W
  by_cases hg1 : great (.node l ks) = true
  · have Hg1 := Lib.hid hg1; clear hg1
    go_enter Try.func5, Try.ntmps5
    go_wp2_with fail
    rw [← hW]; clear hW
    go_wp2_with (first
      | (go_at_call 28; refine (orderBegun_any _).mono ?_; rintro e w' ⟨rfl, hc⟩)
      | (go_at_call 15; (with_reducible refine Calls.mono (great_any l ks _ _ _ (hk'.pr hc)) ?_); rintro e w' ⟨rfl, hb⟩; simp only [Hg1.out]; have hc := hc.trans hb))
    go_ret
    exact ⟨rfl, hwW.trans hc⟩
  have hg1' : great (.node l ks) = false := by simpa using hg1
  have hz1 := great_sz hg1'
  have Hg1 := Lib.hid hg1'; clear hg1 hg1'
  by_cases hpl : 100 < xs.length
  · have hpl' : (100 : Int) < xs.length := by omega
    go_enter Try.func5, Try.ntmps5
    go_wp2_with fail
    rw [← hW]; clear hW
    go_wp2_with (first
      | (go_at_call 28; refine (orderBegun_any _).mono ?_; rintro e w' ⟨rfl, hc⟩)
      | (go_at_call 15; (with_reducible refine Calls.mono (great_any l ks _ _ _ (hk'.pr hc)) ?_); rintro e w' ⟨rfl, hb⟩; simp only [Hg1.out]; have hc := hc.trans hb))
    go_ret
    exact ⟨rfl, hwW.trans hc⟩
  have hpl' : ¬ ((100 : Int) < xs.length) := by omega
  obtain ⟨lt, kt, cd, -, hlt, T1, T2⟩ := tree_both xs (fun x h => (hw x h).1) xa xc W hx'
  have HT1 := Lib.hid T1; have HT2 := Lib.hid T2
  have Hw := Lib.hid hw
  clear T1 T2 hw
  have CS : Hid (∀ (W' : World) o1 c1 o2 c2, Kids Any W' kt o1 c1 → Kids Any W' kt o2 c2 → Calls Try.prog 26 #[.agg #[.string lt, .slice o1 kt.length c1], .agg #[.string lt, .slice o2 kt.length c2]] W' fun e w' => e = .returned (.bool true) ∧ Pr W' w') := fun W' o1 c1 o2 c2 h1 h2 => by
    have := sameTree_any lt lt kt kt _ _ _ _ W' h1 h2; rw [Tr.beq_self] at this; exact this
  by_cases hf : fault (.node l ks) = 0
  · have hnz : ((fault (.node l ks) : Int) != 0) = false := by rw [hf]; rfl
    have C1 : Hid (∀ (W' : World), Pr W W' → Calls Try.prog 22 #[.agg #[.string l, .slice oa ks.length cap]] W' fun e w' => e = .returned (.int .i64 0) ∧ Pr W' w') := fun W' h => by
      have := treeFault_any l ks oa cap W' hl (hk'.pr h); rw [hf] at this; exact this
    have C2 := Lib.hid (fun (W' : World) (h : Pr W W') => orderOf_yes l ks oa cap W' hl (hk'.pr h) hf)
    have C3 := Lib.hid (fun (W' : World) (h : Pr W W') => nodesOf_yes l ks oa cap W' (by omega) (hk'.pr h))
    have C4 : Hid (∀ (W' : World) o1 c1 o2 c2, Nds Any W' (nds (.node l ks)) o1 c1 → Nds Any W' (nds (.node l ks)) o2 c2 → Calls Try.prog 32 #[.slice o1 (Tr.szL ks + 1) c1, .slice o2 (Tr.szL ks + 1) c2] W' fun e w' => e = .returned (.bool true) ∧ Pr W' w') := fun W' o1 c1 o2 c2 h1 h2 => by
      have := sameNds_yes (.node l ks) _ _ _ _ W' h1 h2; rw [Tr.sz_node] at this; exact this
    have C5 : Hid (∀ (W' : World) o1 c1, Nds Any W' (nds (.node l ks)) o1 c1 → Calls Try.prog 35 #[.slice o1 (Tr.szL ks + 1) c1, .int .i64 n] W' fun e w' => ∃ o2 c2, e = .returned (.slice o2 (pathTZ (.node l ks) n).length c2) ∧ Ints Any w' (pathTZ (.node l ks) n) o2 c2 ∧ Pr W' w') := fun W' o1 c1 h => by
      have := path_ints (nds (.node l ks)) (by rw [nds_length, Tr.sz_node]; omega) n o1 c1 W' h
      rw [nds_length, Tr.sz_node, pathZ_nds] at this; exact this
    have C6 : Hid (∀ (W' : World), Pr W W' → Calls Try.prog 36 #[.agg #[.string l, .slice oa ks.length cap], .int .i64 n] W' fun e w' => ∃ o2 c2, e = .returned (.slice o2 (pathTZ (.node l ks) n).length c2) ∧ Ints Any w' (pathTZ (.node l ks) n) o2 c2 ∧ Pr W' w') := fun W' h => by
      refine (pathOf_any l ks oa cap n W' (by omega) (wf_bd hn).2 (hk'.pr h)).mono ?_
      rintro e w' ⟨v, rfl, hv, hb⟩
      obtain ⟨o2, c2, rfl, hi⟩ := hv.ints
      exact ⟨o2, c2, rfl, Flat.any hi, hb⟩
    have C7 : Hid (∀ (W' : World) o1 c1 o2 c2, Ints Any W' (pathTZ (.node l ks) n) o1 c1 → Ints Any W' (pathTZ (.node l ks) n) o2 c2 → Calls Try.prog 34 #[.slice o1 (pathTZ (.node l ks) n).length c1, .slice o2 (pathTZ (.node l ks) n).length c2] W' fun e w' => e = .returned (.bool true) ∧ Pr W' w') := fun W' o1 c1 o2 c2 h1 h2 => by
      have := sameInts_any _ _ o1 c1 o2 c2 W' h1 h2; simpa using this
    clear hf
    go_enter Try.func5, Try.ntmps5
    go_wp2_with fail
    rw [← hW]; clear hW
    go_wp2_with (first
      | (go_at_call 28; refine (orderBegun_any _).mono ?_; rintro e w' ⟨rfl, hc⟩)
      | (go_at_call 15; (with_reducible refine Calls.mono (great_any l ks _ _ _ (hk'.pr hc)) ?_); rintro e w' ⟨rfl, hb⟩; simp only [Hg1.out]; have hc := hc.trans hb)
      | (go_at_call 29; (with_reducible refine Calls.mono (HT1.out _ hc) ?_); rintro e wA ⟨oA, cA, rfl, kA, hb⟩; have hc := hc.trans hb)
      | (go_at_call 30; (with_reducible refine Calls.mono (HT2.out _ (hc.alloc' _)) ?_); rintro e wB ⟨oB, cB, rfl, kB, hb⟩; have hc := (hc.alloc' _).trans hb
         have a0 := fun o => ((hb.alloc' o).cell (b := wA.heap.size) (o := 0) (v := .string lt) (by simp [go_sem])); have a1 := fun o => ((hb.alloc' o).cell (b := wA.heap.size) (o := 1) (v := .slice oA kt.length cA) (by simp [go_sem]))
         have kA := fun o => (((kA.pr (Pr.alloc _ _)).pr hb).pr (Pr.alloc _ o)))
      | (go_at_call 26; (with_reducible refine Calls.mono (CS.out _ _ _ _ _ (kA _) (kB.pr (Pr.alloc _ _))) ?_); rintro e w1 ⟨rfl, hb⟩; have hc := (hc.alloc' _).trans hb; clear a0 a1 kA kB)
      | (go_at_call 31; (with_reducible refine Calls.mono (C2.out _ hc) ?_); rintro e wD ⟨g, c, rfl, hn1, hb⟩; have hc := hc.trans hb)
      | (go_at_call 22; (with_reducible refine Calls.mono (C1.out _ hc) ?_); rintro e wE ⟨rfl, hb⟩; have hc := hc.trans hb; have hn1 := hn1.pr hb))
    obtain ⟨W0, hW0⟩ : ∃ W0, W0 = wE := ⟨_, rfl⟩
    subst hW0
    have hc0 := hc
    have y0 := stays (s0 _ hc); have y1 := stays (s1 _ hc)
    clear s0 s1 ru1 ru2 ru3
    have hn1' := Lib.hid (fun W' (h : Pr W0 W') => hn1.pr h)
    have C3' := Lib.hid (fun W' (h : Pr W0 W') => C3.out W' (hc0.trans h))
    have C6' := Lib.hid (fun W' (h : Pr W0 W') => C6.out W' (hc0.trans h))
    clear hc
    have hc := Pr.drew W0
    go_region_held3 (fun W => Pr W0 W) (exact hc)
      (first
        | (go_at_call 33; (with_reducible refine Calls.mono (C3'.out _ hc) ?_); rintro e w' ⟨g2, c2, rfl, hn2, hb'⟩; have hc := hc.trans hb')
        | (go_at_call 32; (with_reducible refine Calls.mono (C4.out _ _ _ _ _ (hn1'.out _ hc) hn2) ?_); rintro e w' ⟨rfl, hb'⟩; have hc := hc.trans hb')
        | (go_at_call 35; (with_reducible refine Calls.mono (C5.out _ _ _ (hn1'.out _ hc)) ?_); rintro e w' ⟨o5, c5, rfl, hi5, hb'⟩; have hc := hc.trans hb')
        | (go_at_call 36; (with_reducible refine Calls.mono (C6'.out _ hc) ?_); rintro e w' ⟨o6, c6, rfl, hi6, hb'⟩; have hc := hc.trans hb'; have hi5 := Flat.pr hb' hi5)
        | (go_at_call 34; (with_reducible refine Calls.mono (C7.out _ _ _ _ _ hi5 hi6) ?_); rintro e w' ⟨rfl, hb'⟩; have hc := hc.trans hb'))
    go_wp2_with fail
    go_ret
    exact ⟨rfl, hwW.trans (hc0.trans hc)⟩
  · have hnz : ((fault (.node l ks) : Int) != 0) = true := by simp [bne_iff_ne]; omega
    have C1 : Hid (∀ (W' : World), Pr W W' → Calls Try.prog 22 #[.agg #[.string l, .slice oa ks.length cap]] W' fun e w' => e = .returned (.int .i64 (fault (.node l ks) : Nat)) ∧ Pr W' w') := Lib.hid fun W' h => treeFault_any l ks oa cap W' hl (hk'.pr h)
    have C2 := Lib.hid (fun (W' : World) (h : Pr W W') => orderOf_no l ks oa cap W' hl (hk'.pr h) hf)
    clear hf
    go_enter Try.func5, Try.ntmps5
    go_wp2_with fail
    rw [← hW]; clear hW
    go_wp2_with (first
      | (go_at_call 28; refine (orderBegun_any _).mono ?_; rintro e w' ⟨rfl, hc⟩)
      | (go_at_call 15; (with_reducible refine Calls.mono (great_any l ks _ _ _ (hk'.pr hc)) ?_); rintro e w' ⟨rfl, hb⟩; simp only [Hg1.out]; have hc := hc.trans hb)
      | (go_at_call 29; (with_reducible refine Calls.mono (HT1.out _ hc) ?_); rintro e wA ⟨oA, cA, rfl, kA, hb⟩; have hc := hc.trans hb)
      | (go_at_call 30; (with_reducible refine Calls.mono (HT2.out _ (hc.alloc' _)) ?_); rintro e wB ⟨oB, cB, rfl, kB, hb⟩; have hc := (hc.alloc' _).trans hb
         have a0 := fun o => ((hb.alloc' o).cell (b := wA.heap.size) (o := 0) (v := .string lt) (by simp [go_sem])); have a1 := fun o => ((hb.alloc' o).cell (b := wA.heap.size) (o := 1) (v := .slice oA kt.length cA) (by simp [go_sem]))
         have kA := fun o => (((kA.pr (Pr.alloc _ _)).pr hb).pr (Pr.alloc _ o)))
      | (go_at_call 26; (with_reducible refine Calls.mono (CS.out _ _ _ _ _ (kA _) (kB.pr (Pr.alloc _ _))) ?_); rintro e w1 ⟨rfl, hb⟩; have hc := (hc.alloc' _).trans hb; clear a0 a1 kA kB)
      | (go_at_call 31; (with_reducible refine Calls.mono (C2.out _ hc) ?_); rintro e wD ⟨rfl, hb⟩; have hc := hc.trans hb)
      | (go_at_call 22; (with_reducible refine Calls.mono (C1.out _ hc) ?_); rintro e wE ⟨rfl, hb⟩; have hc := hc.trans hb))
    go_ret
    exact ⟨rfl, hwW.trans hc⟩
end Go.Proofs.Ytdbnfhpgmcjngaa
