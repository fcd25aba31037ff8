/- The law ScriptMakes: its walk; and Diff of what is no tree. -/
import Derived.Test.YtdbnfhpgmcjngacByf
import Derived.Deep.DeepCutAuto
namespace Go.Proofs.Ytdbnfhpgmcjngac
open Go Go.RowKit

theorem nameC_few (xs ys : List Nd) (L : List (Nat × Nat)) : nameC xs ys L ≤ L.length := by
  induction L with
  | nil => simp [nameC]
  | cons p L ih =>
    have h := lc_le (labN xs p.1) (labN ys p.2)
    simp only [nameC, List.map_cons, List.foldr_cons, List.length_cons] at ih ⊢
    omega
/-- Two trees are no more than eighty deeds apart. -/
theorem cost_few {a b : Tr} (ha : fault a = 0) (hb : fault b = 0) : costT a b ≤ 80 := by
  have h1 := (bestT_good a b).2.2
  have h2 := nameC_few (nds a) (nds b) (bestT a b)
  have h3 := (fault_zero.1 ha).1
  have h4 := (fault_zero.1 hb).1
  omega
set_option maxRecDepth 100000 in
set_option maxHeartbeats 1600000 in
theorem diff_no (l : ByteArray) (ks : List Tr) (oa cap) (m : ByteArray) (js : List Tr) (ob cbp) (w : World) (hl : l.size ≤ maxLen) (hk : Kids Any w ks oa cap) (hm : m.size ≤ maxLen) (hj : Kids Any w js ob cbp)
    (c : Nat) (hc : c = if fault (.node l ks) = 0 then fault (.node m js) else fault (.node l ks)) (h0 : c ≠ 0) :
    Calls Try.prog 27 #[.agg #[.string l, .slice oa ks.length cap], .agg #[.string m, .slice ob js.length cbp]] w fun e w' => e = .returned (.tuple #[.slice none 0 0, .int .i64 (c : Nat)]) ∧ Pr w w' := by
  obtain ⟨W, hW⟩ : ∃ W, W = (w.alloc (.cells #[.string l, .slice oa ks.length cap] 24)).alloc (.cells #[.string m, .slice ob js.length cbp] 24) := ⟨_, rfl⟩
  have hwW : Pr w W := by rw [hW]; exact (Pr.alloc _ _).alloc' _
  have x0 : W.cell? ⟨w.heap.size, 0, none⟩ = some (.string l) := by rw [hW]; simp [go_sem]
  have x1 : W.cell? ⟨w.heap.size, 1, none⟩ = some (.slice oa ks.length cap) := by rw [hW]; simp [go_sem]
  have x2 : W.cell? ⟨w.heap.size + 1, 0, none⟩ = some (.string m) := by rw [hW]; simp [go_sem]
  have x3 : W.cell? ⟨w.heap.size + 1, 1, none⟩ = some (.slice ob js.length cbp) := by rw [hW]; simp [go_sem]
  have T1 : Hid (Calls Try.prog 28 #[.agg #[.string l, .slice oa ks.length cap], .agg #[.string m, .slice ob js.length cbp]] W fun e w' => e = .returned (.tuple #[.pointer none, .int .i64 (c : Nat)]) ∧ Pr W w') := Lib.hid (by
    refine (distOf_any l ks oa cap m js ob cbp W hl (hk.pr hwW) hm (hj.pr hwW)).mono ?_
    rintro e w' ⟨h | h | h, hp⟩
    · rw [if_neg h.1] at hc; subst hc; exact ⟨h.2, hp⟩
    · rw [if_pos h.1] at hc; subst hc; exact ⟨h.2.2, hp⟩
    · rw [if_pos h.1, h.2.1] at hc; exact absurd hc h0)
  have e1 : ((c : Int) != 0) = true := by simp [bne_iff_ne]; omega
  have HW := Lib.hid hwW
  clear hwW hk hj hc h0
  go_enter Try.func27, Try.ntmps27
  go_upto_region 1 with fail
  rw [← hW]; clear hW
  go_wp2_with (go_at_call 28; (with_reducible refine Calls.mono T1.out ?_); rintro e w1 ⟨rfl, hb1⟩)
  go_ret2
  exact ⟨rfl, HW.out.trans hb1⟩

set_option maxRecDepth 100000 in
set_option maxHeartbeats 6400000 in
theorem scriptMakes_walk (l : ByteArray) (ks : List Tr) (oa cap) (m : ByteArray) (js : List Tr) (ob cbp) (w : World) (hl : l.size ≤ maxLen) (hk : Kids Any w ks oa cap) (hm : m.size ≤ maxLen) (hj : Kids Any w js ob cbp) :
    Calls Try.prog 8 #[.agg #[.string l, .slice oa ks.length cap], .agg #[.string m, .slice ob js.length cbp]] w fun e w' => e = .returned (.bool true) ∧ Pr w w' := by
  obtain ⟨W, hW⟩ : ∃ W, W = (w.alloc (.cells #[.string l, .slice oa ks.length cap] 24)).alloc (.cells #[.string m, .slice ob js.length cbp] 24) := ⟨_, rfl⟩
  have hwW : Pr w W := by rw [hW]; exact (Pr.alloc _ _).alloc' _
  have s0 := stays (show W.cell? ⟨w.heap.size, 0, none⟩ = some (.string l) by rw [hW]; simp [go_sem])
  have s1 := stays (show W.cell? ⟨w.heap.size, 1, none⟩ = some (.slice oa ks.length cap) by rw [hW]; simp [go_sem])
  have s2 := stays (show W.cell? ⟨w.heap.size + 1, 0, none⟩ = some (.string m) by rw [hW]; simp [go_sem])
  have s3 := stays (show W.cell? ⟨w.heap.size + 1, 1, none⟩ = some (.slice ob js.length cbp) by rw [hW]; simp [go_sem])
  have hk := hk.pr hwW
  have hj := hj.pr hwW
  obtain ⟨ga, hga⟩ : ∃ b, b = great (.node l ks) := ⟨_, rfl⟩
  obtain ⟨gb, hgb⟩ : ∃ b, b = great (.node m js) := ⟨_, rfl⟩
  have G1 : Hid (∀ W', Pr W W' → Calls Try.prog 13 #[.agg #[.string l, .slice oa ks.length cap]] W' fun e w' => e = .returned (.bool ga) ∧ Pr W' w') := Lib.hid fun W' h => by rw [hga]; exact great_any l ks _ _ _ (hk.pr h)
  have G2 : Hid (∀ W', Pr W W' → Calls Try.prog 13 #[.agg #[.string m, .slice ob js.length cbp]] W' fun e w' => e = .returned (.bool gb) ∧ Pr W' w') := Lib.hid fun W' h => by rw [hgb]; exact great_any m js _ _ _ (hj.pr h)
  have HK := Lib.hid hk; have HJ := Lib.hid hj; have HW := Lib.hid hwW
  clear hga hgb hk hj hwW
  go_enter Try.func8, Try.ntmps8
  go_upto_region 1 with fail
  rw [← hW]; clear hW
  go_upto_region 3 with (first
    | (go_at_call 19; (with_reducible refine Calls.mono (scriptBegun_any _) ?_); rintro e w1 ⟨rfl, hc⟩))
  have z0 := s0 _ hc; have z1 := s1 _ hc
  have y2 := stays (s2 _ hc); have y3 := stays (s3 _ hc)
  have Hc := Lib.hid hc
  clear hc
  go_cut [22] from 17 to 21 (fun v wx => v = .bool (ga || gb) ∧ Pr w1 wx)
  case first =>
    have hp := Pr.refl w1
    cases ga <;> cases gb
    all_goals
      go_wp2_with (first
        | (go_at_call 13; (with_reducible refine Calls.mono (G1.out _ (Hc.out.trans hp)) ?_); rintro e w2 ⟨rfl, hb⟩; have hp := hp.trans hb; have x2 := y2 _ hp; have x3 := y3 _ hp)
        | (go_at_call 13; (with_reducible refine Calls.mono (G2.out _ (Hc.out.trans hp)) ?_); rintro e w3 ⟨rfl, hb⟩; have hp := hp.trans hb))
      go_meet
      case rel => exact ⟨rfl, hp⟩
  case rest =>
    obtain ⟨rfl, hp⟩ := hcut
    cases hbad : (ga || gb)
    case true =>
      go_wp2_with fail
      go_ret
      exact ⟨rfl, HW.out.trans (Hc.out.trans hp)⟩
    case false =>
      obtain ⟨w2, hw2⟩ : ∃ w2, w2 = wc := ⟨_, rfl⟩
      subst hw2
      have hWp := Hc.out.trans hp
      have x0 := s0 _ hWp; have x1 := s1 _ hWp; have x2 := s2 _ hWp; have x3 := s3 _ hWp
      clear z0 z1 y2 y3
      by_cases hf : fault (.node l ks) = 0 ∧ fault (.node m js) = 0
      case neg =>
        obtain ⟨c, hc⟩ : ∃ c, c = if fault (.node l ks) = 0 then fault (.node m js) else fault (.node l ks) := ⟨_, rfl⟩
        have h0 : c ≠ 0 := by
          rw [hc]; split
          · exact fun e => hf ⟨by assumption, e⟩
          · assumption
        have D1 := Lib.hid (diff_no l ks oa cap m js ob cbp w2 hl (HK.out.pr hWp) hm (HJ.out.pr hWp) c hc h0)
        have e1 : ((c : Int) != 0) = true := by simp [bne_iff_ne]; omega
        clear hc h0 hf
        go_wp2_with (go_at_call 27; (with_reducible refine Calls.mono D1.out ?_); rintro e w3 ⟨rfl, hb3⟩)
        go_ret
        exact ⟨rfl, HW.out.trans (hWp.trans hb3)⟩
      case pos =>
        obtain ⟨fa, fb⟩ := hf
        obtain ⟨⟨back, hgo⟩, hlen⟩ := diff_ok fa fb
        have hpth := runGo_paths hgo
        have hc80 := cost_few fa fb
        have hrun := runT_ok fa (by omega) hgo
        have hbk := runT_back (t := .node l ks) (l := diffP (.node l ks) (.node m js) (bestT (.node l ks) (.node m js))) (by rw [hrun])
        rw [hrun] at hbk
        have hbl := hbk.2
        have hrun2 := hbk.1
        simp only at hbl hrun2
        have hgo2 := runGo_back 0 hgo
        simp only at hgo2
        have hpth2 := runGo_paths hgo2
        have D1 := Lib.hid (diff_yes l ks oa cap m js ob cbp w2 hl (HK.out.pr hWp) hm (HJ.out.pr hWp) fa fb)
        have T1 := Lib.hid fun W' (h : Pr W W') => distOf_yes l ks oa cap m js ob cbp W' hl (HK.out.pr h) hm (HJ.out.pr h) fa fb
        obtain ⟨na, hna⟩ : ∃ na, na = nds (.node l ks) := ⟨_, rfl⟩
        obtain ⟨nb, hnb⟩ : ∃ nb, nb = nds (.node m js) := ⟨_, rfl⟩
        rw [← hna, ← hnb] at T1
        have C1 := Lib.hid fun W' B (h : TblOk W' B (nds (.node l ks)) (nds (.node m js))) => cost_nds _ _ B W' h fa fb
        rw [← hna, ← hnb] at C1
        unfold DiffPost at D1
        generalize costT (.node l ks) (.node m js) = N at *
        generalize diffP (.node l ks) (.node m js) (bestT (.node l ks) (.node m js)) = D at *
        have R1 : Hid (∀ W' oD cD, Pr W W' → Dees Any W' D oD cD → Calls Try.prog 22 #[.agg #[.string l, .slice oa ks.length cap], .slice oD D.length cD] W' fun e w' => (∃ oa cap ob cb, e = .returned (.tuple #[.agg #[.string m, .slice oa js.length cap], .slice ob back.length cb, .agg #[.int .i64 0, .int .i64 0]]) ∧ Kids Any w' js oa cap ∧ Dees Any w' back ob cb) ∧ Pr W' w') := Lib.hid fun W' oD cD h hd =>
          (run_is l ks _ _ D oD cD W' hl (HK.out.pr h) hd (fun d hd => by have := hpth d hd; omega) m js back 0 0 hrun).mono fun e w' ⟨⟨⟨o, c, o2, c2, h1, h2, h3, _⟩, _⟩, hp⟩ => ⟨⟨o, c, o2, c2, h1, h2, h3⟩, hp⟩
        have R2 : Hid (∀ W' o4 c4, Pr W W' → Dees Any W' back o4 c4 → Calls Try.prog 22 #[.agg #[.string m, .slice ob js.length cbp], .slice o4 back.length c4] W' fun e w' => (∃ oa cap ob cb, e = .returned (.tuple #[.agg #[.string l, .slice oa ks.length cap], .slice ob D.length cb, .agg #[.int .i64 0, .int .i64 0]]) ∧ Kids Any w' ks oa cap) ∧ Pr W' w') := Lib.hid fun W' o4 c4 h hd =>
          (run_is m js _ _ back o4 c4 W' hm (HJ.out.pr h) hd (fun d hd => by have := hpth2 d hd; omega) l ks D 0 0 hrun2).mono fun e w' ⟨⟨⟨o, c, o2, c2, h1, h2, _⟩, _⟩, hp⟩ => ⟨⟨o, c, o2, c2, h1, h2⟩, hp⟩
        have S1 : Hid (∀ W' o c, Pr W W' → Kids Any W' js o c → Calls Try.prog 16 #[.agg #[.string m, .slice o js.length c], .agg #[.string m, .slice ob js.length cbp]] W' fun e w' => e = .returned (.bool true) ∧ Pr W' w') := Lib.hid fun W' o c h hk => by
          have := sameTree_any m m js js o c ob cbp W' hk (HJ.out.pr h); rw [Tr.beq_self] at this; exact this
        have S2 : Hid (∀ W' o c, Pr W W' → Kids Any W' ks o c → Calls Try.prog 16 #[.agg #[.string l, .slice o ks.length c], .agg #[.string l, .slice oa ks.length cap]] W' fun e w' => e = .returned (.bool true) ∧ Pr W' w') := Lib.hid fun W' o c h hk => by
          have := sameTree_any l l ks ks o c oa cap W' hk (HK.out.pr h); rw [Tr.beq_self] at this; exact this
        have hN : (N : Int) ≤ 80 := by omega
        have HWp := Lib.hid hWp; have Hlen := Lib.hid hlen
        clear hgo hgo2 hpth hpth2 hbk hbl hrun hrun2 fa fb hna hnb hWp hc80
        rw [hlen] at D1 R1 R2
        clear hlen
        go_upto_region 9 with (first
          | (go_at_call 27; (with_reducible refine Calls.mono D1.out ?_); rintro e w3 ⟨oD, cD, rfl, hD, hb3⟩; have hW3 := HWp.out.trans hb3; have x0 := s0 _ hW3; have x1 := s1 _ hW3; have x2 := s2 _ hW3; have x3 := s3 _ hW3)
          | (go_at_call 28; (with_reducible refine Calls.mono (T1.out _ hW3) ?_); rintro e w4 ⟨B, rfl, hT, hb4⟩))
        have hW4 := hW3.trans hb4
        have x0 := s0 _ hW4; have x1 := s1 _ hW4
        go_upto_region 10 with (go_at_call 22; (with_reducible refine Calls.mono (R1.out _ _ _ hW4 ((hD.pr hb4).any)) ?_); rintro e w5 ⟨⟨o5, c5, ob5, cb5, rfl, hk5, hd5⟩, hb5⟩)
        obtain ⟨V, hV⟩ : ∃ V, V = (w5.alloc (.cells #[.string m, .slice o5 js.length c5] 24)).alloc (.cells #[.int .i64 0, .int .i64 0] 39) := ⟨_, rfl⟩
        have hpV : Pr w5 V := by rw [hV]; exact (Pr.alloc _ _).alloc' _
        have y0 := stays (show V.cell? ⟨w5.heap.size, 0, none⟩ = some (.string m) by rw [hV]; simp [go_sem])
        have y1 := stays (show V.cell? ⟨w5.heap.size, 1, none⟩ = some (.slice o5 js.length c5) by rw [hV]; simp [go_sem])
        have y2 := stays (show V.cell? ⟨w5.heap.size + 1, 0, none⟩ = some (.int .i64 0) by rw [hV]; simp [go_sem])
        rw [← hV]
        have hk5 := hk5.pr hpV; have hd5 := hd5.pr hpV
        have hTV := (hT.pr hb5).pr hpV
        have hWV := hW4.trans (hb5.trans hpV)
        have z2 := s2 _ hWV; have z3 := s3 _ hWV
        have Hk5 := Lib.hid hk5; have HTV := Lib.hid hTV; have HWV := Lib.hid hWV
        clear hV hpV x0 x1 x2 x3 hk5 hTV hT hD hb3 hb4 hb5
        go_upto_region 11 with (go_at_call 22; (with_reducible refine Calls.mono (R2.out _ _ _ hWV hd5) ?_); rintro e w6 ⟨⟨o6, c6, ob6, cb6, rfl, hk6⟩, hb6⟩)
        obtain ⟨U, hU⟩ : ∃ U, U = (w6.alloc (.cells #[.string l, .slice o6 ks.length c6] 24)).alloc (.cells #[.int .i64 0, .int .i64 0] 39) := ⟨_, rfl⟩
        have hpU : Pr w6 U := by rw [hU]; exact (Pr.alloc _ _).alloc' _
        have u0 := stays (show U.cell? ⟨w6.heap.size, 0, none⟩ = some (.string l) by rw [hU]; simp [go_sem])
        have u1 := stays (show U.cell? ⟨w6.heap.size, 1, none⟩ = some (.slice o6 ks.length c6) by rw [hU]; simp [go_sem])
        have u2 := stays (show U.cell? ⟨w6.heap.size + 1, 0, none⟩ = some (.int .i64 0) by rw [hU]; simp [go_sem])
        have hVU := hb6.trans hpU
        have hWU := HWV.out.trans hVU
        rw [← hU]
        have a0 := u2 _ (Pr.refl _); have a1 := y2 _ hVU; have a2 := y0 _ hVU; have a3 := y1 _ hVU; have a4 := s2 _ hWU; have a5 := s3 _ hWU
        have hk6 := hk6.pr hpU
        have hk5 := Hk5.out.pr hVU
        have hTU := HTV.out.pr hVU
        clear hU hpU hb6 z2 z3 hd5
        go_wp2_with (first
          | (go_at_call 16; (with_reducible refine Calls.mono (S1.out _ _ _ hWU hk5) ?_); rintro e w7 ⟨rfl, hb7⟩; have b0 := u0 _ hb7; have b1 := u1 _ hb7; have b2 := s0 _ (hWU.trans hb7); have b3 := s1 _ (hWU.trans hb7))
          | (go_at_call 16; (with_reducible refine Calls.mono (S2.out _ _ _ (hWU.trans hb7) (hk6.pr hb7)) ?_); rintro e w8 ⟨rfl, hb8⟩)
          | (go_at_call 29; (with_reducible refine Calls.mono (C1.out _ _ ((hTU.pr hb7).pr hb8)) ?_); rintro e w9 ⟨rfl, hb9⟩))
        go_ret
        exact ⟨by simp, HW.out.trans (((hWU.trans hb7).trans hb8).trans hb9)⟩
end Go.Proofs.Ytdbnfhpgmcjngac
