/- The law BookSteps: its walk. -/
import Derived.Test.YtdbnfhpgmcjngacBf
namespace Go.Proofs.Ytdbnfhpgmcjngac
open Go Go.RowKit

theorem cntD_zero (ts : List Tr) (k : Nat) (h : ¬ (1 ≤ k ∧ k < ts.length)) : cntD (ts.take (k + 1)) = cntD (ts.take k) := by
  by_cases hk : 1 ≤ k
  · have h1 : ts.length ≤ k := by omega
    rw [List.take_of_length_le (by omega : ts.length ≤ k + 1), List.take_of_length_le h1]
  · have h1 : k = 0 := by omega
    subst h1
    cases ts with
    | nil => rfl
    | cons t ts => simp [cntD, stepsP, cntS9]
theorem cntD_le {ts : List Tr} (hf : ∀ t ∈ ts, fault t = 0) (h30 : ts.length ≤ 30) (k : Nat) : cntD (ts.take k) ≤ 10000 := by
  have h1 : ∀ t ∈ ts.take k, fault t = 0 := fun t ht => hf t (List.mem_of_mem_take ht)
  have h2 := cntS9_le _ (stepsP_few h1)
  have h3 : (stepsP (ts.take k)).length ≤ 30 := by
    cases hx : ts.take k with
    | nil => simp [stepsP]
    | cons t r =>
      have := stepsP_length (t :: r) (by simp)
      have h4 : (t :: r).length ≤ 30 := by rw [← hx, List.length_take]; omega
      omega
  unfold cntD
  omega
set_option maxRecDepth 100000 in
set_option maxHeartbeats 12800000 in
theorem bookSteps_walk (ls : List Tr) (oa cap) (w : World) (hk : Kids Any w ls oa cap) (_ : True) :
    Calls Try.prog 10 #[.slice oa ls.length cap] w fun e w' => e = .returned (.bool true) ∧ Pr w w' := by
  have G1 := Lib.hid fun W' (h : Pr w W') => greats_any ls oa cap W' (hk.pr h)
  have HK := Lib.hid hk
  have hlen := hk.len
  clear hk
  go_enter Try.func10, Try.ntmps10
  go_upto_region 3 with (go_at_call 30; refine (bookBegun_any _).mono ?_; rintro e w1 ⟨rfl, hp⟩)
  go_cut [19] from 18 to 19 (fun v wx => (∃ b, v = .bool b ∧ (b = false → FewTs ls)) ∧ Pr w wx)
  case first =>
    go_wp2_with (go_at_call 31; (with_reducible refine Calls.mono (G1.out _ hp) ?_); rintro e w2 ⟨⟨b, rfl, hb⟩, hp2⟩)
    go_meet
    exact ⟨⟨b, rfl, hb⟩, hp.trans hp2⟩
  case rest =>
  obtain ⟨⟨b, rfl, hb⟩, hp2⟩ := hcut
  obtain ⟨w2, hw2⟩ : ∃ w2, w2 = wc := ⟨_, rfl⟩
  subst hw2
  cases b
  case true =>
    go_wp2_with fail
    go_ret
    exact ⟨rfl, hp2⟩
  case false =>
    have B1 := Lib.hid (books_any ls oa cap w2 (HK.out.pr hp2))
    generalize inP ls = ts at *
    have Hp2 := Lib.hid hp2
    clear hb hp2 G1
    go_upto_region 8 with (go_at_call 36; (with_reducible refine Calls.mono B1.out ?_); rintro e w3 ⟨X, B, v, oi, ci, rfl, hbk, hki, _, _, hb3⟩)
    have HB := Lib.hid hbk; have HKi := Lib.hid hki
    have Hw3 := Lib.hid (Hp2.out.trans hb3)
    have hfew := hbk.few
    have hcl := fun k => cntD_le hbk.flt hfew k
    have Hcl := Lib.hid hcl
    have hflt := Lib.hid hbk.flt
    clear hbk hki hb3 B1 hcl
    go_loopw [5, 6] (fun v5 v6 wr => ∃ k : Nat, k ≤ ts.length + 1 ∧ v6 = .int .i64 k ∧ v5 = .int .i64 (cntD (ts.take k)) ∧ Pr w3 wr) (fun _ v6 _ => ts.length + 1 - (intOf v6).toNat)
    case atStart => exact ⟨0, by omega, rfl, by simp [cntD, stepsP, cntS9], Pr.refl _⟩
    case round =>
      obtain ⟨k, hk, rfl, rfl, hb⟩ := hrel
      have Hb := Lib.hid hb
      by_cases hlt : k ≤ ts.length
      case neg =>
        have hke : k = ts.length + 1 := by omega
        subst hke
        have hcn : cntD (ts.take (ts.length + 1)) = cntD ts := by rw [List.take_of_length_le (by omega)]
        rw [hcn]
        have S1 := Lib.hid fun W' (h : Pr wr W') => stepB_any B v ts (-1) W' (HB.out.pr (hb.trans h))
        have D1 := Lib.hid fun W' (h : Pr wr W') => deeds_any B v ts W' (HB.out.pr (hb.trans h))
        have hs : hasS ts (-1) = false := by unfold hasS; simp
        have hd : stepD ts (-1) = [] := by unfold stepD; rw [if_neg (by omega)]
        unfold StepPost at S1
        rw [hs, hd] at S1
        generalize cntD ts = cn at *
        clear hb hcn hs hd
        go_wp2_with (first
          | (go_at_call 37; (with_reducible refine Calls.mono (S1.out _ (Pr.refl _)) ?_); rintro e w4 ⟨o4, c4, rfl, _, hp4⟩)
          | (go_at_call 38; (with_reducible refine Calls.mono (D1.out _ hp4) ?_); rintro e w5 ⟨rfl, hp5⟩))
        go_ret
        exact ⟨rfl, Hw3.out.trans (Hb.out.trans (hp4.trans hp5))⟩
      case pos =>
        have S1 := Lib.hid fun W' (h : Pr wr W') => stepB_any B v ts k W' (HB.out.pr (hb.trans h))
        by_cases hin : 1 ≤ k ∧ k < ts.length
        case neg =>
          have hs : hasS ts k = false := by unfold hasS; rw [decide_eq_false (by omega)]
          have hd : stepD ts k = [] := by unfold stepD; rw [if_neg (by omega)]
          unfold StepPost at S1
          rw [hs, hd] at S1
          have hcz := cntD_zero ts k hin
          have Hcz := Lib.hid hcz
          have e0 : decide ((k : Int) ≤ (ts.length : Int)) = true := decide_eq_true (by omega)
          have e00 : decide (k ≤ ts.length) = true := decide_eq_true hlt
          clear hs hd hcz hb
          rcases (show k = 0 ∨ (0 < k ∧ k = ts.length) by omega) with rfl | ⟨h0, rfl⟩
          · go_wp2_with (go_at_call 37; (with_reducible refine Calls.mono (S1.out _ (Pr.refl _)) ?_); rintro e w4 ⟨o4, c4, rfl, _, hp4⟩)
            refine ⟨⟨0 + 1, by omega, by go_num, by rw [Hcz.out]; simp, Hb.out.trans hp4⟩, ?_⟩
            simp [intOf] <;> omega
          · have e1 : decide ((0 : Int) < (ts.length : Int)) = true := decide_eq_true (by omega)
            have e2 : decide (0 < ts.length) = true := decide_eq_true h0
            clear h0 hin
            go_wp2_with (go_at_call 37; (with_reducible refine Calls.mono (S1.out _ (Pr.refl _)) ?_); rintro e w4 ⟨o4, c4, rfl, _, hp4⟩)
            refine ⟨⟨ts.length + 1, by omega, by go_num, by rw [Hcz.out]; simp, Hb.out.trans hp4⟩, ?_⟩
            simp [intOf]
        case pos =>
          obtain ⟨j, hjk⟩ : ∃ j, k = j + 1 := ⟨k - 1, by omega⟩
          have hj : j + 1 < ts.length := by omega
          have hj0 : j < ts.length := by omega
          have hk1 : k < ts.length := hin.2
          have hz : (k : Int) = (j : Int) + 1 := by omega
          have hs : hasS ts (k : Int) = true := by unfold hasS; rw [decide_eq_true (by omega)]
          have hd : stepD ts (k : Int) = (stepP ts[j] ts[k]).1 := by rw [hz, stepD_get ts j hj]; simp only [hjk]
          unfold StepPost at S1
          rw [hs, hd] at S1
          have hct : cntD (ts.take (k + 1)) = cntD (ts.take k) + (stepP ts[j] ts[k]).1.length := by
            have := cntD_take ts j hj
            rw [stepD_get ts j hj] at this
            simp only [hjk]; exact this
          obtain ⟨g1, g2, g3, g4, g5, g6⟩ := stepP_ok (hflt.out _ (List.getElem_mem hj0)) (hflt.out _ (List.getElem_mem hk1))
          have hdf : (stepP ts[j] ts[k]).1 = diffP ts[j] ts[k] (bestT ts[j] ts[k]) := rfl
          obtain ⟨D, hDe⟩ : ∃ D, D = (stepP ts[j] ts[k]).1 := ⟨_, rfl⟩
          obtain ⟨D2, hD2e⟩ : ∃ D2, D2 = (stepP ts[j] ts[k]).2 := ⟨_, rfl⟩
          rw [← hDe] at hd S1 hct g1 g2 g3 g4 g5 hdf
          rw [← hD2e] at g1 g2 g4 g6
          clear hDe hD2e
          obtain ⟨ba, oa1, la, ka, aa, ca, ea, hla, rfl, a0, a1, hka⟩ := (HKi.out.pr hb).get j hj0
          obtain ⟨bb, ob1, lb, kb, ab, cb, eb, hlb, hab, b0, b1, hkb⟩ := (HKi.out.pr hb).get k hk1
          cases hab
          have DF := Lib.hid fun W' (h : Pr wr W') => diff_yes la ka aa ca lb kb ab cb W' hla (hka.pr h).any hlb (hkb.pr h).any (by rw [← ea]; exact hflt.out _ (List.getElem_mem hj0)) (by rw [← eb]; exact hflt.out _ (List.getElem_mem hk1))
          unfold DiffPost at DF
          rw [← ea, ← eb, ← hdf] at DF
          have RN : Hid (∀ W', Pr wr W' → ∀ o c, Dees Any W' D o c → Calls Try.prog 22 #[.agg #[.string la, .slice aa ka.length ca], .slice o D.length c] W' fun e w' => ∃ oa cap ob cb', e = .returned (.tuple #[.agg #[.string lb, .slice oa kb.length cap], .slice ob D2.length cb', .agg #[.int .i64 0, .int .i64 0]]) ∧ Kids Any w' kb oa cap ∧ Pr W' w') := Lib.hid fun W' h o c hdd => by
            refine (run_any la ka aa ca D o c W' hla (hka.pr h).any hdd (fun d h => by have := g5 d h; omega)).mono fun e w' ⟨l, ks, oa, cap, bs, ob, cb', c', i', h1, h2, h3, h4, h5, h6, h7⟩ => ?_
            rw [← ea, g1, eb] at h1
            cases h1
            exact ⟨oa, cap, ob, cb', h3, h4.any, h7⟩
          have Hct := Lib.hid hct
          have hgl := Hcl.out k
          have C0 := stays a0; have C1 := stays a1; have C2 := stays b0; have C3 := stays b1
          have hkb' := Lib.hid hkb.any
          generalize cntD (ts.take k) = cn at *
          have y1 : IntKind.i64.wrap ((k : Int) - 1) = (j : Int) := by rw [hz, Int.add_sub_cancel]; exact IntWalk.i64_in _ (by omega)
          have y2 : (j : Int) < (ts.length : Int) := by omega
          have y3 : (0 : Int) ≤ (j : Int) := by omega
          have y4 : (k : Int) < (ts.length : Int) := by omega
          have y5 : (0 : Int) ≤ (k : Int) := by omega
          have e0 : decide ((k : Int) ≤ (ts.length : Int)) = true := decide_eq_true (by omega)
          have e00 : decide (k ≤ ts.length) = true := decide_eq_true hlt
          have e1 : decide ((0 : Int) < (k : Int)) = true := decide_eq_true (by omega)
          have e11 : decide (0 < k) = true := decide_eq_true (by omega)
          have e2 : decide ((k : Int) < (ts.length : Int)) = true := decide_eq_true (by omega)
          have e22 : decide (k < ts.length) = true := decide_eq_true (by omega)
          clear hb hs hd hct g1 g2 g4 g5 g6 hdf hka hkb ea eb hz hin hjk hj
          go_upto_region 14 with (go_at_call 37; (with_reducible refine Calls.mono (S1.out _ (Pr.refl _)) ?_); rintro e w4 ⟨o4, c4, rfl, hd4, hp4⟩)
          have a0 := C0 _ hp4; have a1 := C1 _ hp4; have b0 := C2 _ hp4; have b1 := C3 _ hp4
          have A0 := stays a0; have A1 := stays a1; have B0 := stays b0; have B1' := stays b1
          have hp := Pr.refl w4
          go_cut [9, 10] from 49 to 61 (fun v9 v10 wx => ∃ o5 c5, v9 = .slice o5 D.length c5 ∧ v10 = .int .i64 0 ∧ Dees Any wx D o5 c5 ∧ Pr w4 wx)
          case first =>
            go_region_held3 (fun W' => Pr w4 W')
              (first | with_reducible exact Pr.drew w4 | with_reducible exact hp | with_reducible exact hp.drew')
              (first | (go_at_call 27; (with_reducible refine Calls.mono (DF.out _ (hp4.trans (Pr.drew w4))) ?_); rintro e w5 ⟨o5, c5, rfl, hd5, hp5⟩; have hp := (Pr.drew w4).trans hp5))
            all_goals
              go_wp2_with fail
              go_meet
              exact ⟨o5, c5, rfl, rfl, hd5.any, hp⟩
          case rest =>
          obtain ⟨o5, c5, rfl, rfl, hd5, hp5⟩ := hcut
          obtain ⟨w5, hw5⟩ : ∃ w5, w5 = wc := ⟨_, rfl⟩
          subst hw5
          clear hp A0 A1 B0 B1'
          have hq4 := hp4
          have hd4' := hd4.pr hp5
          have hq5 := hq4.trans hp5
          have a0 := C0 _ hq5; have a1 := C1 _ hq5
          clear hd4 b0 b1
          go_upto_region 16 with (go_at_call 22; (with_reducible refine Calls.mono (RN.out _ hq5 _ _ hd4'.any) ?_); rintro e w6 ⟨o6, c6, o7, c7, rfl, hk6, hp6⟩)
          obtain ⟨V, hV⟩ : ∃ V, V = (w6.alloc (.cells #[.string lb, .slice o6 kb.length c6] 24)).alloc (.cells #[.int .i64 0, .int .i64 0] 39) := ⟨_, rfl⟩
          have hpV : Pr w6 V := by rw [hV]; exact (Pr.alloc _ _).alloc' _
          have v0 := After.cell (show V.cell? ⟨w6.heap.size, 0, none⟩ = some (.string lb) by rw [hV]; simp [go_sem])
          have v1 := After.cell (show V.cell? ⟨w6.heap.size, 1, none⟩ = some (.slice o6 kb.length c6) by rw [hV]; simp [go_sem])
          have v2 := After.cell (show V.cell? ⟨w6.heap.size + 1, 0, none⟩ = some (.int .i64 0) by rw [hV]; simp [go_sem])
          have hqV := hq5.trans (hp6.trans hpV)
          have T1 := Lib.hid (After.call (P := Try.prog) (v := .bool true) fun W' (h : Pr V W') => by
            have := sameTree_any lb lb kb kb o6 c6 ab cb W' (hk6.pr (hpV.trans h)) (hkb'.out.pr (hqV.trans h))
            rw [Tr.beq_self] at this; exact this)
          have T2 := Lib.hid (After.call (P := Try.prog) (v := .bool true) fun W' (h : Pr V W') => by
            have := sameDeeds_any D D o5 c5 o4 c4 W' (hd5.pr (hp6.trans (hpV.trans h))) (hd4'.any.pr (hp6.trans (hpV.trans h)))
            rw [decide_eq_true (rfl : D = D)] at this; exact this)
          have x0 := After.cell (C2 _ hqV); have x1 := After.cell (C3 _ hqV)
          have HqV := Lib.hid hqV
          rw [← hV]
          clear hV hpV hq4 hq5 hqV hd4' hd5 hk6 a0 a1 hp4 hp5 hp6
          refine wp_region_after (by kernel_rfl) (by kernel_rfl) ?_
          repeat (go_big_quiet_step (first | (go_at_call 16; with_reducible exact T1.out _) | (go_at_call 24; with_reducible exact T2.out _)))
          refine wpQuiet_nil ?_
          rintro wq ⟨⟨_, hq⟩, rfl⟩
          go_wp2_with fail
          refine ⟨⟨k + 1, by omega, by go_num, ?_, Hb.out.trans (HqV.out.trans hq)⟩, ?_⟩
          · rw [Hct.out]; go_num
          · simp [intOf]; omega
end Go.Proofs.Ytdbnfhpgmcjngac
