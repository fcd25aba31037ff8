/- The law ScriptBack: its walk. -/
import Derived.Test.YtdbnfhpgmcjngacYh
import Derived.Deep.DeepCutAuto
namespace Go.Proofs.Ytdbnfhpgmcjngac
open Go Go.RowKit

set_option maxRecDepth 100000 in
set_option maxHeartbeats 6400000 in
theorem scriptBack_walk (l : ByteArray) (ks : List Tr) (oa cap) (ds : List Dee) (da dc) (w : World) (hl : l.size ≤ maxLen) (hk : Kids Any w ks oa cap) (hd : Dees Any w ds da dc) (_ : True) :
    Calls Try.prog 5 #[.agg #[.string l, .slice oa ks.length cap], .slice da ds.length dc] w fun e w' => e = .returned (.bool true) ∧ Pr w w' := by
  obtain ⟨W, hW⟩ : ∃ W, W = w.alloc (.cells #[.string l, .slice oa ks.length cap] 24) := ⟨_, rfl⟩
  have hwW : Pr w W := by rw [hW]; exact Pr.alloc _ _
  have s0 := stays (show W.cell? ⟨w.heap.size, 0, none⟩ = some (.string l) by rw [hW]; simp [go_sem])
  have s1 := stays (show W.cell? ⟨w.heap.size, 1, none⟩ = some (.slice oa ks.length cap) by rw [hW]; simp [go_sem])
  have hk := hk.pr hwW
  have hd := hd.pr hwW
  have hdl := hd.len
  obtain ⟨ga, hga⟩ : ∃ b, b = great (.node l ks) := ⟨_, rfl⟩
  have G1 : Hid (∀ W', Pr W W' → Calls Try.prog 13 #[.agg #[.string l, .slice oa ks.length cap]] W' fun e w' => e = .returned (.bool ga) ∧ Pr W' w') := Lib.hid fun W' h => by rw [hga]; exact great_any l ks _ _ _ (hk.pr h)
  have G2 : Hid (∀ W', Pr W W' → Calls Try.prog 20 #[.slice da ds.length dc] W' (GreatDsPost W' ds)) := Lib.hid fun W' h => greatDs_any ds da dc W' (hd.pr h)
  have HK := Lib.hid hk; have HD := Lib.hid hd; have HW := Lib.hid hwW
  clear hga hk hd hwW
  go_enter Try.func5, Try.ntmps5
  go_upto_region 1 with fail
  rw [← hW]; clear hW
  go_upto_region 3 with (first
    | (go_at_call 19; (with_reducible refine Calls.mono (scriptBegun_any _) ?_); rintro e w1 ⟨rfl, hc⟩))
  have z0 := s0 _ hc; have z1 := s1 _ hc
  have Hc := Lib.hid hc
  clear hc
  go_cut [18] from 13 to 17 (fun v wx => ∃ b, v = .bool b ∧ (b = false → FewDs ds) ∧ Pr w1 wx)
  case first =>
    have hp := Pr.refl w1
    cases ga
    case false =>
      go_wp2_with (first
        | (go_at_call 13; (with_reducible refine Calls.mono (G1.out _ (Hc.out.trans hp)) ?_); rintro e w2 ⟨rfl, hb⟩; have hp := hp.trans hb)
        | (go_at_call 20; (with_reducible refine Calls.mono (G2.out _ (Hc.out.trans hp)) ?_); rintro e w3 ⟨⟨gb, rfl, hfew⟩, hb⟩; have hp := hp.trans hb))
      go_meet
      case rel => exact ⟨gb, rfl, hfew, hp⟩
    case true =>
      go_wp2_with (first
        | (go_at_call 13; (with_reducible refine Calls.mono (G1.out _ (Hc.out.trans hp)) ?_); rintro e w2 ⟨rfl, hb⟩; have hp := hp.trans hb))
      go_meet
      case rel => exact ⟨true, rfl, (fun h => by cases h), hp⟩
  case rest =>
    obtain ⟨bb, rfl, hfew, hp⟩ := hcut
    cases bb
    case true =>
      go_wp2_with fail
      go_ret
      exact ⟨rfl, HW.out.trans (Hc.out.trans hp)⟩
    case false =>
      obtain ⟨hf1, hf2⟩ := hfew rfl
      obtain ⟨w2, hw2⟩ : ∃ w2, w2 = wc := ⟨_, rfl⟩
      subst hw2
      have hWp := Hc.out.trans hp
      have x0 := s0 _ hWp; have x1 := s1 _ hWp
      have hpl : ∀ d ∈ ds, d.path.length ≤ 100000 := fun d h => by have := hf2 d h; omega
      by_cases hc : (runT (.node l ks) ds).2.2.1 = 0
      case neg =>
        obtain ⟨e1, e2⟩ := runT_bad hc
        obtain ⟨c, i, hci⟩ : ∃ c i, (runT (.node l ks) ds).2.2 = (c, i) := ⟨_, _, rfl⟩
        have hno : runT (.node l ks) ds = (.node ⟨#[]⟩ [], [], c, i) := by
          rw [← hci, show Tr.node ⟨#[]⟩ [] = (runT (.node l ks) ds).1 from e1.symm, ← e2]
        rw [hci] at hc
        have D1 := Lib.hid (run_is l ks oa cap ds da dc w2 hl (HK.out.pr hWp) (HD.out.pr hWp) hpl ⟨#[]⟩ [] [] c i hno)
        have e3 : (c != 0) = true := by simpa [bne_iff_ne] using hc
        clear hno hc hci e1 e2 hpl hf1 hf2 hfew
        go_upto_region 7 with (first
          | (go_at_call 22; (with_reducible refine Calls.mono D1.out ?_); rintro e w3 ⟨⟨⟨o3, c3, ob, cb, rfl, hk3, hd3, _⟩, hl3⟩, hb⟩))
        obtain ⟨V, hV⟩ : ∃ V, V = (w3.alloc (.cells #[.string ⟨#[]⟩, .slice o3 0 c3] 24)).alloc (.cells #[.int .i64 c, .int .i64 i] 39) := ⟨_, rfl⟩
        have hpV : Pr w3 V := by rw [hV]; exact (Pr.alloc _ _).alloc' _
        have y0 : V.cell? ⟨w3.heap.size, 0, none⟩ = some (.string ⟨#[]⟩) := by rw [hV]; simp [go_sem]
        have y1 : V.cell? ⟨w3.heap.size, 1, none⟩ = some (.slice o3 0 c3) := by rw [hV]; simp [go_sem]
        rw [← hV]
        have S1 : Hid (Calls Try.prog 16 #[.agg #[.string ⟨#[]⟩, .slice o3 0 c3], .agg #[.string ⟨#[]⟩, .slice none 0 0]] V fun e w' => e = .returned (.bool true) ∧ Pr V w') := Lib.hid (by
          have := sameTree_any ⟨#[]⟩ ⟨#[]⟩ [] [] o3 c3 none 0 V (hk3.pr hpV) (Kids.nil0 _ _); rw [Tr.beq_self] at this; exact this)
        have hWV := hb.trans hpV
        clear hV hpV hk3 hd3 x0 x1
        go_wp2_with (first
          | (go_at_call 16; (with_reducible refine Calls.mono S1.out ?_); rintro e w4 ⟨rfl, hb4⟩))
        go_ret
        exact ⟨rfl, HW.out.trans (hWp.trans (hWV.trans hb4))⟩
      case pos =>
        obtain ⟨hb1, hbl⟩ := runT_back hc
        obtain ⟨f0, f1, hgo, hi0⟩ := runT_code hc
        have hyes : runT (.node l ks) ds = ((runT (.node l ks) ds).1, (runT (.node l ks) ds).2.1, 0, 0) := by
          have : (runT (.node l ks) ds).2.2 = (0, 0) := Prod.ext hc hi0
          rw [← this]
        have hpth := runGo_paths (runGo_back 0 hgo)
        simp only at hpth
        generalize (runT (.node l ks) ds).1 = r at *
        generalize (runT (.node l ks) ds).2.1 = bs at *
        obtain ⟨l2, ks2⟩ := r
        have D1 := Lib.hid (run_is l ks oa cap ds da dc w2 hl (HK.out.pr hWp) (HD.out.pr hWp) hpl l2 ks2 bs 0 0 hyes)
        have D2 := Lib.hid fun W' o3 c3 ob cb hl2 hk hd => run_is l2 ks2 o3 c3 bs ob cb W' hl2 hk hd (fun d h => by have := hpth d h; omega) l ks ds 0 0 hb1
        rw [hbl] at D1 D2
        have HWp := Lib.hid hWp
        clear hyes hc hi0 hgo hb1 hbl hpth hpl f0 f1 hf1 hf2 hfew
        go_upto_region 8 with (first
          | (go_at_call 22; (with_reducible refine Calls.mono D1.out ?_); rintro e w3 ⟨⟨⟨o3, c3, ob, cb, rfl, hk3, hd3, _⟩, hl3⟩, hb⟩))
        obtain ⟨V, hV⟩ : ∃ V, V = (w3.alloc (.cells #[.string l2, .slice o3 ks2.length c3] 24)).alloc (.cells #[.int .i64 0, .int .i64 0] 39) := ⟨_, rfl⟩
        have hpV : Pr w3 V := by rw [hV]; exact (Pr.alloc _ _).alloc' _
        have y0 : V.cell? ⟨w3.heap.size, 0, none⟩ = some (.string l2) := by rw [hV]; simp [go_sem]
        have y1 : V.cell? ⟨w3.heap.size, 1, none⟩ = some (.slice o3 ks2.length c3) := by rw [hV]; simp [go_sem]
        rw [← hV]
        have D3 := Lib.hid (D2.out V o3 c3 ob cb hl3 (hk3.pr hpV) (hd3.pr hpV))
        have HWV := Lib.hid (HWp.out.trans (hb.trans hpV))
        clear hV hpV hk3 hd3 hb x0 x1
        go_upto_region 9 with (first
          | (go_at_call 22; (with_reducible refine Calls.mono D3.out ?_); rintro e w4 ⟨⟨⟨o4, c4, ob4, cb4, rfl, hk4, hd4, _⟩, hl4⟩, hb4⟩))
        obtain ⟨U, hU⟩ : ∃ U, U = (w4.alloc (.cells #[.string l, .slice o4 ks.length c4] 24)).alloc (.cells #[.int .i64 0, .int .i64 0] 39) := ⟨_, rfl⟩
        have hpU : Pr w4 U := by rw [hU]; exact (Pr.alloc _ _).alloc' _
        have u0 : U.cell? ⟨w4.heap.size, 0, none⟩ = some (.string l) := by rw [hU]; simp [go_sem]
        have u1 : U.cell? ⟨w4.heap.size, 1, none⟩ = some (.slice o4 ks.length c4) := by rw [hU]; simp [go_sem]
        have u2 : U.cell? ⟨w4.heap.size + 1, 0, none⟩ = some (.int .i64 0) := by rw [hU]; simp [go_sem]
        have hWU := HWV.out.trans (hb4.trans hpU)
        rw [← hU]
        have a4 := s0 _ hWU; have a5 := s1 _ hWU
        have S1 : Hid (Calls Try.prog 16 #[.agg #[.string l, .slice o4 ks.length c4], .agg #[.string l, .slice oa ks.length cap]] U fun e w' => e = .returned (.bool true) ∧ Pr U w') := Lib.hid (by
          have := sameTree_any l l ks ks o4 c4 oa cap U (hk4.pr hpU) (HK.out.pr hWU); rw [Tr.beq_self] at this; exact this)
        have S2 : Hid (∀ W', Pr U W' → Calls Try.prog 24 #[.slice ob4 ds.length cb4, .slice da ds.length dc] W' fun e w' => e = .returned (.bool true) ∧ Pr W' w') := Lib.hid fun W' h => by
          have := sameDeeds_any ds ds ob4 cb4 da dc W' ((hd4.pr hpU).pr h) (HD.out.pr (hWU.trans h)); rw [decide_eq_true rfl] at this; exact this
        have HWU := Lib.hid hWU
        clear hU hpU hb4 hk4 hd4 hWU
        go_wp2_with (first
          | (go_at_call 16; (with_reducible refine Calls.mono S1.out ?_); rintro e w5 ⟨rfl, hb5⟩)
          | (go_at_call 24; (with_reducible refine Calls.mono (S2.out _ hb5) ?_); rintro e w6 ⟨rfl, hb6⟩))
        go_ret
        exact ⟨rfl, HW.out.trans (HWU.out.trans (hb5.trans hb6))⟩
end Go.Proofs.Ytdbnfhpgmcjngac
