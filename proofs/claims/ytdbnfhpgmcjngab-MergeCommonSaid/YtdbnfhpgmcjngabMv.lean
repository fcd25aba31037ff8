/- The law MergeCommon: its walk. -/
import Derived.Test.YtdbnfhpgmcjngabMs
import Derived.Test.YtdbnfhpgmcjngabGl
import Derived.Test.YtdbnfhpgmcjngabAf
namespace Go.Proofs.Ytdbnfhpgmcjngab
open Go Go.RowKit

theorem common_no {ts us : List Tr} {i : Nat} (hi : i < (pz (common ts us)).length) : ∃ a b : Nat, ∃ (ha : a < ts.length) (hb : b < us.length), (pz (common ts us))[i].1 = (a : Int) ∧ (pz (common ts us))[i].2 = (b : Int) ∧ ts[a] = us[b] := by
  have hi' : i < (common ts us).length := by rwa [pz_length] at hi
  obtain ⟨h1, h2, h3⟩ := common_here ts us _ (List.getElem_mem hi')
  exact ⟨_, _, h1, h2, by simp [pz], by simp [pz], h3⟩
theorem common_up {ts us : List Tr} {i : Nat} (hi : i + 1 < (pz (common ts us)).length) : (pz (common ts us))[i].1 < (pz (common ts us))[i + 1].1 ∧ (pz (common ts us))[i].2 < (pz (common ts us))[i + 1].2 := by
  have hi' : i + 1 < (common ts us).length := by rwa [pz_length] at hi
  have := List.pairwise_iff_getElem.1 (common_rise ts us) i (i + 1) (by omega) hi' (by omega)
  simp only [pz, List.getElem_map]
  omega
theorem few_three {a b : Bool} : a = true ∨ (a = false ∧ b = true) ∨ (a = false ∧ b = false) := by cases a <;> cases b <;> simp
theorem com_any (xs ys : List Tr) (oa cap ob cbp) (w : World) (ha : Kids Any w xs oa cap) (hb : Kids Any w ys ob cbp) (hal : xs.length ≤ 50) (hbl : ys.length ≤ 50) :
    Calls Try.prog 40 #[.slice oa xs.length cap, .slice ob ys.length cbp] w fun e w' => (∃ o c, e = .returned (.slice o (lcs xs ys) c) ∧ Prs Any w' (pz (common xs ys)) o c) ∧ Pr w w' := by
  refine (common_any xs ys oa cap ob cbp w ha hb (by omega) (by omega)).mono ?_
  rintro e w' ⟨v, rfl, hv, hp⟩
  obtain ⟨o, c, rfl, hp2⟩ := hv.prs
  exact ⟨⟨o, c, by rw [pz_length, common_length], hp2.any⟩, hp⟩
set_option maxRecDepth 100000 in
set_option maxHeartbeats 6400000 in
theorem mergeCommon_walk (ts : List Tr) (oa cap) (us : List Tr) (ob cbp) (w : World) (ha : Kids Any w ts oa cap) (_ : True) (hb : Kids Any w us ob cbp) (_ : True) :
    Calls Try.prog 12 #[.slice oa ts.length cap, .slice ob us.length cbp] w fun e w' => e = .returned (.bool true) ∧ Pr w w' := by
  have A1 := Lib.hid fun W' (h : Pr w W') => greats_any ts oa cap W' (ha.pr h)
  have A2 := Lib.hid fun W' (h : Pr w W') => greats_any us ob cbp W' (hb.pr h)
  have HA := Lib.hid ha; have HB := Lib.hid hb
  have hlt := ha.len; have hlu := hb.len
  clear ha hb
  go_enter Try.func12, Try.ntmps12
  go_upto_region 3 with (first
    | (go_at_call 34; refine (mergeBegun_any _).mono ?_; rintro e w1 ⟨rfl, hp⟩))
  go_cut [16] from 11 to 16 (fun v wx => (∃ b, v = .bool b ∧ (b = false → FewTs ts ∧ FewTs us)) ∧ Pr w wx)
  case first =>
    go_wp2_with (first
      | (go_at_call 35; (with_reducible refine Calls.mono (A1.out _ hp) ?_); rintro e w2 ⟨⟨b1, rfl, hb1⟩, hb⟩; have hp := hp.trans hb)
      | (go_at_call 35; (with_reducible refine Calls.mono (A2.out _ hp) ?_); rintro e w2 ⟨⟨b2, rfl, hb2⟩, hb⟩; have hp := hp.trans hb))
    all_goals
      go_meet
      case rel => first | exact ⟨⟨true, rfl, fun h => by cases h⟩, hp⟩ | exact ⟨⟨b2, rfl, fun h => ⟨hb1 (by simpa using ‹¬b1 = true›), hb2 h⟩⟩, hp⟩
  case rest =>
    obtain ⟨⟨bl, rfl, hfew⟩, hp⟩ := hcut
    cases bl
    case true =>
      go_wp2_with fail
      go_ret
      exact ⟨rfl, hp⟩
    case false =>
      obtain ⟨ft, fu⟩ := hfew rfl
      obtain ⟨w2, hw2⟩ : ∃ w2, w2 = wc := ⟨_, rfl⟩
      subst hw2
      have K1 := Lib.hid fun W' (h : Pr w2 W') => HA.out.pr (hp.trans h)
      have K2 := Lib.hid fun W' (h : Pr w2 W') => HB.out.pr (hp.trans h)
      have C1 := Lib.hid fun W' (h : Pr w2 W') => com_any ts us oa cap ob cbp W' (K1.out W' h) (K2.out W' h) ft.1 fu.1
      have C2 := Lib.hid fun W' (h : Pr w2 W') => com_any us ts ob cbp oa cap W' (K2.out W' h) (K1.out W' h) fu.1 ft.1
      have C3 := Lib.hid fun W' (h : Pr w2 W') => com_any ts ts oa cap oa cap W' (K1.out W' h) (K1.out W' h) ft.1 ft.1
      rw [lcs_comm us ts] at C2
      rw [lcs_self ts] at C3
      have hle := lcs_le ts us
      obtain ⟨X, hxl, hhere, hup, C1⟩ : ∃ X : List (Int × Int), X.length = lcs ts us ∧ (∀ i (hi : i < X.length), ∃ a b : Nat, ∃ (ha : a < ts.length) (hb : b < us.length), X[i].1 = (a : Int) ∧ X[i].2 = (b : Int) ∧ ts[a] = us[b]) ∧
          (∀ i (hi : i + 1 < X.length), X[i].1 < X[i + 1].1 ∧ X[i].2 < X[i + 1].2) ∧ Hid (∀ W', Pr w2 W' → Calls Try.prog 40 #[.slice oa ts.length cap, .slice ob us.length cbp] W' fun e w' => (∃ o c, e = .returned (.slice o (lcs ts us) c) ∧ Prs Any w' X o c) ∧ Pr W' w') :=
        ⟨pz (common ts us), by rw [pz_length, common_length], fun i hi => common_no hi, fun i hi => common_up hi, C1⟩
      obtain ⟨n, hn⟩ : ∃ n, n = lcs ts us := ⟨_, rfl⟩
      rw [← hn] at C1 C2 hle hxl
      have Hn := Lib.hid hn; have Hxl := Lib.hid hxl; have Hh := Lib.hid hhere; have Hu := Lib.hid hup; have HP := Lib.hid hp
      have lt1 : ts.length ≤ 50 := ft.1
      have lt2 : us.length ≤ 50 := fu.1
      clear hfew ft fu hn hxl hhere hup hp A1 A2
      go_upto_region 6 with (go_at_call 40; (with_reducible refine Calls.mono (C1.out _ (Pr.refl _)) ?_); rintro e w3 ⟨⟨o3, c3, rfl, hx3⟩, hb3⟩)
      have HX := Lib.hid fun W' (h : Pr w3 W') => hx3.pr h
      have Hb3 := Lib.hid hb3
      clear hx3 hb3 C1
      go_wp2_with fail
      go_loopw [6] (fun v wr => ∃ i : Nat, i ≤ n ∧ v = .int .i64 i ∧ Pr w3 wr) (fun v _ => n - (intOf v).toNat)
      case atStart => exact ⟨0, by omega, rfl, Pr.refl _⟩
      case round =>
        obtain ⟨i, hi, rfl, hb⟩ := hrel
        by_cases hlt : i < n
        · have hxl := Hxl.out
          obtain ⟨a, b, ga, gb, e1, e2, e3⟩ := Hh.out i (by omega)
          obtain ⟨bx, ox, rfl, hcs⟩ := (HX.out _ hb).get (by omega)
          obtain ⟨p0, p1⟩ := hcs i (by omega)
          rw [e1] at p0; rw [e2] at p1
          have q0 := fun (W' : World) (h : Pr wr W') (h0 : 0 < i) => h.cell (hcs (i - 1) (by omega)).1
          have q1 := fun (W' : World) (h : Pr wr W') (h0 : 0 < i) => h.cell (hcs (i - 1) (by omega)).2
          have hup := fun (h0 : 0 < i) => Hu.out (i - 1) (by omega)
          have hi63 : i ≤ 50 := by omega
          obtain ⟨b1, o1, l1, ks1, oa1, cap1, d1, -, rfl, x0, x1, hk1⟩ := (K1.out _ (Hb3.out.trans hb)).get a ga
          obtain ⟨b2, o2, l2, ks2, oa2, cap2, d2, -, rfl, y0, y1, hk2⟩ := (K2.out _ (Hb3.out.trans hb)).get b gb
          have S1 : Hid (∀ W', Pr wr W' → Calls Try.prog 22 #[.agg #[.string l1, .slice oa1 ks1.length cap1], .agg #[.string l2, .slice oa2 ks2.length cap2]] W' fun e w' => e = .returned (.bool true) ∧ Pr W' w') := Lib.hid fun W' h => by
            have := sameTree_any l1 l2 ks1 ks2 oa1 cap1 oa2 cap2 W' (hk1.pr h) (hk2.pr h)
            rw [← d1, ← d2, e3, Tr.beq_self] at this; exact this
          have hxi : 0 < i → X[i - 1].1 < X[i].1 ∧ X[i - 1].2 < X[i].2 := fun h0 => by
            have := Hu.out (i - 1) (by omega)
            simp only [show i - 1 + 1 = i by omega] at this
            exact this
          rw [e1, e2] at hxi
          have r0 : (a : Int) < ts.length := by omega
          have r1 : (b : Int) < us.length := by omega
          have r2 : (0 : Int) ≤ a := by omega
          have r3 : (0 : Int) ≤ b := by omega
          have r4 : (i : Int) < n := by omega
          have t1 : decide ((ts.length : Int) ≤ (a : Int)) = false := by simp; omega
          have t2 : decide (ts.length ≤ a) = false := by simp; omega
          have t3 : decide ((us.length : Int) ≤ (b : Int)) = false := by simp; omega
          have t4 : decide (us.length ≤ b) = false := by simp; omega
          have t9 : decide ((a : Int) < 0) = false := by simp
          have t10 : decide ((b : Int) < 0) = false := by simp
          clear hcs e1 e2 e3 d1 d2 hk1 hk2
          go_upto_region 10 with fail
          obtain ⟨V, hV⟩ : ∃ V, V = wr.alloc (.cells #[.int .i64 a, .int .i64 b] 62) := ⟨_, rfl⟩
          have hwV : Pr wr V := by rw [hV]; exact Pr.alloc _ _
          have v0 := After.cell (show V.cell? ⟨wr.heap.size, 0, none⟩ = some (.int .i64 a) by rw [hV]; simp [go_sem])
          have v1 := After.cell (show V.cell? ⟨wr.heap.size, 1, none⟩ = some (.int .i64 b) by rw [hV]; simp [go_sem])
          rw [← hV]
          have x0 := After.cell (hwV.cell x0); have x1 := After.cell (hwV.cell x1); have y0 := After.cell (hwV.cell y0); have y1 := After.cell (hwV.cell y1)
          have S1 := Lib.hid (After.call fun W' (h : Pr V W') => S1.out W' (hwV.trans h))
          have Hwr := Lib.hid (hb.trans hwV)
          clear hV hb
          by_cases h0 : i = 0
          · have t5 : decide ((0 : Int) < (i : Int)) = false := by simp; omega
            have t6 : decide (0 < i) = false := by simp; omega
            clear q0 q1 hup hxi hwV h0
            refine wp_region_after (by kernel_rfl) (by kernel_rfl) ?_
            repeat (go_big_quiet_step ((go_at_call 22; exact S1.out _)))
            refine wpQuiet_nil ?_
            rintro _ ⟨⟨w4, hq⟩, rfl⟩
            go_wp2_with fail
            refine ⟨⟨i + 1, by omega, by go_num, Hwr.out.trans hq⟩, ?_⟩
            simp [intOf]; omega
          · have t5 : decide ((0 : Int) < (i : Int)) = true := by simp; omega
            have t6 : decide (0 < i) = true := by simp; omega
            obtain ⟨lo, hi2⟩ := hxi (by omega)
            have q0 := fun (x : After V) => q0 x.w (hwV.trans x.pr) (by omega)
            have q1 := fun (x : After V) => q1 x.w (hwV.trans x.pr) (by omega)
            generalize X[i - 1].1 = xa at *
            generalize X[i - 1].2 = xb at *
            have t7 : decide ((a : Int) ≤ xa) = false := by simp; omega
            have t8 : decide ((b : Int) ≤ xb) = false := by simp; omega
            have u1 : IntKind.i64.wrap ((i : Int) - 1) = (i : Int) - 1 := IntWalk.i64_in _ (by omega)
            have u2 : (1 : Int) ≤ (i : Int) := by omega
            have u3 : (0 : Int) ≤ (i : Int) - 1 := by omega
            have u4 : ((i : Int) - 1).toNat = i - 1 := by omega
            have u5 : (i : Int) - 1 < n := by omega
            clear hup hxi hwV h0 lo hi2
            refine wp_region_after (by kernel_rfl) (by kernel_rfl) ?_
            repeat (go_big_quiet_step ((go_at_call 22; exact S1.out _)))
            refine wpQuiet_nil ?_
            rintro _ ⟨⟨w4, hq⟩, rfl⟩
            clear u1 u2 u3 u4 u5
            go_wp2_with fail
            refine ⟨⟨i + 1, by omega, by go_num, Hwr.out.trans hq⟩, ?_⟩
            simp [intOf]; omega
        · have hin : i = n := by omega
          obtain ⟨wl, hwl⟩ : ∃ wl, wl = wr := ⟨_, rfl⟩
          subst hwl
          have Hb := Lib.hid (Hb3.out.trans hb)
          have C2 := Lib.hid fun W' (h : Pr wl W') => C2.out W' (Hb.out.trans h)
          have C3 := Lib.hid fun W' (h : Pr wl W') => C3.out W' (Hb.out.trans h)
          have K1 := K1.out _ Hb.out
          have K2 := K2.out _ Hb.out
          have hp := Pr.refl wl
          subst hin
          clear hb HX Hh Hu Hxl
          cases ts with
          | nil =>
            have hi0 : i = 0 := by have := hle.1; simp at this; exact this
            clear Hn hle lt1 lt2 K1 K2
            subst hi0
            go_wp2_with (first
              | (go_at_call 40; (with_reducible refine Calls.mono (C2.out _ hp) ?_); rintro e w4 ⟨⟨o4, c4, rfl, hx4⟩, hb4⟩; have hp := hp.trans hb4)
              | (go_at_call 40; (with_reducible refine Calls.mono (C3.out _ hp) ?_); rintro e w4 ⟨⟨o5, c5, rfl, hx5⟩, hb4⟩; have hp := hp.trans hb4))
            go_ret
            exact ⟨rfl, HP.out.trans (Hb.out.trans hp)⟩
          | cons t ts =>
            cases us with
            | nil =>
              have hi0 : i = 0 := by have := hle.2; simp at this; exact this
              clear Hn hle lt1 lt2 K1 K2
              subst hi0
              go_wp2_with (first
                | (go_at_call 40; (with_reducible refine Calls.mono (C2.out _ hp) ?_); rintro e w4 ⟨⟨o4, c4, rfl, hx4⟩, hb4⟩; have hp := hp.trans hb4)
                | (go_at_call 40; (with_reducible refine Calls.mono (C3.out _ hp) ?_); rintro e w4 ⟨⟨o5, c5, rfl, hx5⟩, hb4⟩; have hp := hp.trans hb4))
              go_ret
              exact ⟨rfl, HP.out.trans (Hb.out.trans hp)⟩
            | cons u us =>
              have z1 : ((ts.length : Int) + 1 == 0) = false := by simp; omega
              have z2 : ((us.length : Int) + 1 == 0) = false := by simp; omega
              have hmax := lcs_max t u ts us
              rw [← Hn.out] at hmax
              have g1 := lcs_le ts (u :: us); have g2 := lcs_le (t :: ts) us; have g3 := lcs_le ts us
              simp only [List.length_cons] at g1 g2 hle
              have D1 : Hid (∀ W' o' c', Pr wl W' → Kids Any W' ts o' c' → Calls Try.prog 40 #[.slice o' ts.length c', .slice ob (us.length + 1) cbp] W' fun e w' => (∃ o c, e = .returned (.slice o (lcs ts (u :: us)) c)) ∧ Pr W' w') :=
                Lib.hid fun W' o' c' h hk => (com_any ts (u :: us) o' c' ob cbp W' hk (K2.pr h) (by simp at lt1; omega) lt2).mono fun _ _ ⟨⟨o, c, h1, _⟩, h2⟩ => ⟨⟨o, c, h1⟩, h2⟩
              have D2 : Hid (∀ W' o' c', Pr wl W' → Kids Any W' us o' c' → Calls Try.prog 40 #[.slice oa (ts.length + 1) cap, .slice o' us.length c'] W' fun e w' => (∃ o c, e = .returned (.slice o (lcs (t :: ts) us) c)) ∧ Pr W' w') :=
                Lib.hid fun W' o' c' h hk => (com_any (t :: ts) us oa cap o' c' W' (K1.pr h) hk lt1 (by simp at lt2; omega)).mono fun _ _ ⟨⟨o, c, h1, _⟩, h2⟩ => ⟨⟨o, c, h1⟩, h2⟩
              have D3 : Hid (∀ W' o' c' o'' c'', Pr wl W' → Kids Any W' ts o' c' → Kids Any W' us o'' c'' → Calls Try.prog 40 #[.slice o' ts.length c', .slice o'' us.length c''] W' fun e w' => (∃ o c, e = .returned (.slice o (lcs ts us) c)) ∧ Pr W' w') :=
                Lib.hid fun W' o' c' o'' c'' h hk hk2 => (com_any ts us o' c' o'' c'' W' hk hk2 (by simp at lt1; omega) (by simp at lt2; omega)).mono fun _ _ ⟨⟨o, c, h1, _⟩, h2⟩ => ⟨⟨o, c, h1⟩, h2⟩
              have T1 := Lib.hid fun W' (h : Pr wl W') => (K1.pr h).cutL 1 (by simp)
              have T2 := Lib.hid fun W' (h : Pr wl W') => (K2.pr h).cutL 1 (by simp)
              obtain ⟨b1, o1, l1, ks1, oa1, cap1, d1, -, rfl, x0, x1, hk1⟩ := K1.get 0 (by simp)
              obtain ⟨b2, o2, l2, ks2, oa2, cap2, d2, -, rfl, y0, y1, hk2⟩ := K2.get 0 (by simp)
              simp only [List.getElem_cons_zero, Nat.zero_mul, Nat.add_zero] at d1 d2 x0 x1 y0 y1
              have hc1 := K1.1; have hc2 := K2.1
              simp only [List.length_cons] at hc1 hc2
              have X0 := stays x0; have X1 := stays x1; have Y0 := stays y0; have Y1 := stays y1
              obtain ⟨bl, hbl⟩ : ∃ bl, bl = (Tr.node l1 ks1).beq (.node l2 ks2) := ⟨_, rfl⟩
              rw [show t.beq u = bl by rw [d1, d2, hbl]] at hmax
              have S1 : Hid (∀ W', Pr wl W' → Calls Try.prog 22 #[.agg #[.string l1, .slice oa1 ks1.length cap1], .agg #[.string l2, .slice oa2 ks2.length cap2]] W' fun e w' => e = .returned (.bool bl) ∧ Pr W' w') := Lib.hid fun W' h => by
                rw [hbl]; exact sameTree_any l1 l2 ks1 ks2 oa1 cap1 oa2 cap2 W' (hk1.pr h) (hk2.pr h)
              generalize lcs ts (u :: us) = p1 at *
              generalize lcs (t :: ts) us = p2 at *
              generalize lcs ts us = p3 at *
              have Hmax := Lib.hid hmax
              have lt1' : ts.length + 1 ≤ 50 := by simpa using lt1
              have lt2' : us.length + 1 ≤ 50 := by simpa using lt2
              clear Hn d1 d2 hbl hk1 hk2 x0 x1 y0 y1 hmax lt1 lt2 K1 K2
              go_upto_region 16 with (first
                | (go_at_call 40; (with_reducible refine Calls.mono (C2.out _ hp) ?_); rintro e w4 ⟨⟨o4, c4, rfl, hx4⟩, hb4⟩; have hp := hp.trans hb4)
                | (go_at_call 40; (with_reducible refine Calls.mono (C3.out _ hp) ?_); rintro e w4 ⟨⟨o5, c5, rfl, hx5⟩, hb4⟩; have hp := hp.trans hb4))
              have T1a : Hid (∀ W', Pr wl W' → Kids Any W' ts (some ⟨b1, o1 + 2, none⟩) (cap - 1)) := Lib.hid fun W' h => by have := T1.out W' h; simpa [Addr.add_lit] using this
              have T2a : Hid (∀ W', Pr wl W' → Kids Any W' us (some ⟨b2, o2 + 2, none⟩) (cbp - 1)) := Lib.hid fun W' h => by have := T2.out W' h; simpa [Addr.add_lit] using this
              have T1n : Hid (cap = 1 → ∀ W' o', Kids Any W' ts o' 0) := Lib.hid fun e W' o' => by
                have : ts = [] := List.eq_nil_of_length_eq_zero (by omega)
                subst this; exact Kids.nil _ _ _ _ (Nat.zero_le _)
              have T2n : Hid (cbp = 1 → ∀ W' o', Kids Any W' us o' 0) := Lib.hid fun e W' o' => by
                have : us = [] := List.eq_nil_of_length_eq_zero (by omega)
                subst this; exact Kids.nil _ _ _ _ (Nat.zero_le _)
              have h10 : cap = 1 → ts.length = 0 := fun e => by omega
              have h20 : cbp = 1 → us.length = 0 := fun e => by omega
              have D1z : Hid (cap = 1 → ∀ W' o', Pr wl W' → Calls Try.prog 40 #[.slice o' 0 0, .slice (some ⟨b2, o2, none⟩) (us.length + 1) cbp] W' fun e w' => (∃ o c, e = .returned (.slice o p1 c)) ∧ Pr W' w') := Lib.hid fun e W' o' h => by
                have := D1.out W' o' 0 h (T1n.out e _ _); rw [h10 e] at this; exact this
              have D2z : Hid (cbp = 1 → ∀ W' o', Pr wl W' → Calls Try.prog 40 #[.slice (some ⟨b1, o1, none⟩) (ts.length + 1) cap, .slice o' 0 0] W' fun e w' => (∃ o c, e = .returned (.slice o p2 c)) ∧ Pr W' w') := Lib.hid fun e W' o' h => by
                have := D2.out W' o' 0 h (T2n.out e _ _); rw [h20 e] at this; exact this
              have D3zz : Hid (cap = 1 → cbp = 1 → ∀ W' o' o'', Pr wl W' → Calls Try.prog 40 #[.slice o' 0 0, .slice o'' 0 0] W' fun e w' => (∃ o c, e = .returned (.slice o p3 c)) ∧ Pr W' w') := Lib.hid fun e e2 W' o' o'' h => by
                have := D3.out W' o' 0 o'' 0 h (T1n.out e _ _) (T2n.out e2 _ _); rw [h10 e, h20 e2] at this; exact this
              have D3z1 : Hid (cap = 1 → ∀ W' o', Pr wl W' → Calls Try.prog 40 #[.slice o' 0 0, .slice (some ⟨b2, o2 + 2, none⟩) us.length (cbp - 1)] W' fun e w' => (∃ o c, e = .returned (.slice o p3 c)) ∧ Pr W' w') := Lib.hid fun e W' o' h => by
                have := D3.out W' o' 0 _ _ h (T1n.out e _ _) (T2a.out _ h); rw [h10 e] at this; exact this
              have D3z2 : Hid (cbp = 1 → ∀ W' o'', Pr wl W' → Calls Try.prog 40 #[.slice (some ⟨b1, o1 + 2, none⟩) ts.length (cap - 1), .slice o'' 0 0] W' fun e w' => (∃ o c, e = .returned (.slice o p3 c)) ∧ Pr W' w') := Lib.hid fun e W' o'' h => by
                have := D3.out W' _ _ o'' 0 h (T1a.out _ h) (T2n.out e _ _); rw [h20 e] at this; exact this
              have D1a := Lib.hid fun W' (h : Pr wl W') => D1.out W' _ _ h (T1a.out _ h)
              have D2a := Lib.hid fun W' (h : Pr wl W') => D2.out W' _ _ h (T2a.out _ h)
              have D3a := Lib.hid fun W' (h : Pr wl W') => D3.out W' _ _ _ _ h (T1a.out _ h) (T2a.out _ h)
              have e1 : (1 : Int) ≤ (ts.length : Int) + 1 := by omega
              have e2 : (1 : Int) ≤ (us.length : Int) + 1 := by omega
              have hq := (hp.trans (Pr.refl _)).drew'
              clear T1 T2 hx4 hx5 h10 h20 D1 D2 D3 T1a T2a T1n T2n
              by_cases hcap : cap = 1
              · subst hcap
                by_cases hcbp : cbp = 1
                · subst hcbp
                  have QA := Lib.hid (fun W' (h : Pr wl W') => D1z.out rfl W' (some ⟨b1, o1, none⟩) h); have QB := Lib.hid (fun W' (h : Pr wl W') => D2z.out rfl W' (some ⟨b2, o2, none⟩) h); have QC := Lib.hid (fun W' (h : Pr wl W') => D3zz.out rfl rfl W' (some ⟨b1, o1, none⟩) (some ⟨b2, o2, none⟩) h)
                  clear D1z D2z D3zz D3z1 D3z2 D1a D2a D3a
                  go_region_held3 (fun W' => Pr wl W') (with_reducible exact hq)
                    (first
                      | (go_at_call 40; (with_reducible refine Calls.mono (QA.out _ hq) ?_); rintro e w5 ⟨⟨o6, c6, rfl⟩, hb⟩; have hq := hq.trans hb; clear QA)
                      | (go_at_call 40; (with_reducible refine Calls.mono (QB.out _ hq) ?_); rintro e w6 ⟨⟨o7, c7, rfl⟩, hb⟩; have hq := hq.trans hb))
                  have hmx : (if p1 < p2 then (p2 : Int) else (p1 : Int)) = ((max p1 p2 : Nat) : Int) := by split <;> omega
                  rw [hmx]
                  clear hmx
                  have hpm : max p1 p2 ≤ 100 := by omega
                  have Hmax2 := Lib.hid Hmax.out
                  generalize max p1 p2 = pm at *
                  clear Hmax
                  go_upto_region 17 with fail
                  have x0 := After.cell (X0 _ hq); have x1 := After.cell (X1 _ hq); have y0 := After.cell (Y0 _ hq); have y1 := After.cell (Y1 _ hq)
                  have S2 := Lib.hid (After.call fun W' (h : Pr w6 W') => S1.out W' (hq.trans h))
                  refine wp_region_after (by kernel_rfl) (by kernel_rfl) ?_
                  repeat (go_big_quiet_step ((go_at_call 22; exact S2.out _)))
                  refine wpQuiet_nil ?_
                  rintro _ ⟨⟨w7, hq7⟩, rfl⟩
                  have hqe := hq.trans hq7
                  have hq := hqe.drew'
                  clear x0 x1 y0 y1 S2
                  cases bl
                  case false =>
                    have hn : i = pm := by simpa using Hmax2.out
                    have en : ((pm : Int) == (i : Int)) = true := by simp [hn]
                    clear hn Hmax2
                    go_wp2_with fail
                    go_ret
                    exact ⟨rfl, HP.out.trans (Hb.out.trans hqe)⟩
                  case true =>
                    have hn : i = if pm < p3 + 1 then p3 + 1 else pm := by simpa using Hmax2.out
                    have u1 : IntKind.i64.wrap (1 + (p3 : Int)) = 1 + (p3 : Int) := IntWalk.i64_in _ (by omega)
                    have Hn2 := Lib.hid hn
                    clear hn Hmax2
                    go_upto_region 18 with fail
                    go_region_held3 (fun W' => Pr wl W') (with_reducible exact hq)
                      (first | (go_at_call 40; (with_reducible refine Calls.mono (QC.out _ hq) ?_); rintro e w8 ⟨⟨o8, c8, rfl⟩, hb⟩; have hq := hq.trans hb))
                    have hm2 : (if (pm : Int) < 1 + (p3 : Int) then 1 + (p3 : Int) else (pm : Int)) = (i : Int) := by have := Hn2.out; split at this <;> split <;> omega
                    rw [hm2]
                    clear hm2 u1
                    go_wp2_with fail
                    go_ret
                    exact ⟨rfl, HP.out.trans (Hb.out.trans hq)⟩
                · skip
                  have QA := Lib.hid (fun W' (h : Pr wl W') => D1z.out rfl W' (some ⟨b1, o1, none⟩) h); have QB := Lib.hid D2a.out; have QC := Lib.hid (fun W' (h : Pr wl W') => D3z1.out rfl W' (some ⟨b1, o1, none⟩) h)
                  clear D1z D2z D3zz D3z1 D3z2 D1a D2a D3a
                  go_region_held3 (fun W' => Pr wl W') (with_reducible exact hq)
                    (first
                      | (go_at_call 40; (with_reducible refine Calls.mono (QA.out _ hq) ?_); rintro e w5 ⟨⟨o6, c6, rfl⟩, hb⟩; have hq := hq.trans hb; clear QA)
                      | (go_at_call 40; (with_reducible refine Calls.mono (QB.out _ hq) ?_); rintro e w6 ⟨⟨o7, c7, rfl⟩, hb⟩; have hq := hq.trans hb))
                  have hmx : (if p1 < p2 then (p2 : Int) else (p1 : Int)) = ((max p1 p2 : Nat) : Int) := by split <;> omega
                  rw [hmx]
                  clear hmx
                  have hpm : max p1 p2 ≤ 100 := by omega
                  have Hmax2 := Lib.hid Hmax.out
                  generalize max p1 p2 = pm at *
                  clear Hmax
                  go_upto_region 17 with fail
                  have x0 := After.cell (X0 _ hq); have x1 := After.cell (X1 _ hq); have y0 := After.cell (Y0 _ hq); have y1 := After.cell (Y1 _ hq)
                  have S2 := Lib.hid (After.call fun W' (h : Pr w6 W') => S1.out W' (hq.trans h))
                  refine wp_region_after (by kernel_rfl) (by kernel_rfl) ?_
                  repeat (go_big_quiet_step ((go_at_call 22; exact S2.out _)))
                  refine wpQuiet_nil ?_
                  rintro _ ⟨⟨w7, hq7⟩, rfl⟩
                  have hqe := hq.trans hq7
                  have hq := hqe.drew'
                  clear x0 x1 y0 y1 S2
                  cases bl
                  case false =>
                    have hn : i = pm := by simpa using Hmax2.out
                    have en : ((pm : Int) == (i : Int)) = true := by simp [hn]
                    clear hn Hmax2
                    go_wp2_with fail
                    go_ret
                    exact ⟨rfl, HP.out.trans (Hb.out.trans hqe)⟩
                  case true =>
                    have hn : i = if pm < p3 + 1 then p3 + 1 else pm := by simpa using Hmax2.out
                    have u1 : IntKind.i64.wrap (1 + (p3 : Int)) = 1 + (p3 : Int) := IntWalk.i64_in _ (by omega)
                    have Hn2 := Lib.hid hn
                    clear hn Hmax2
                    go_upto_region 18 with fail
                    go_region_held3 (fun W' => Pr wl W') (with_reducible exact hq)
                      (first | (go_at_call 40; (with_reducible refine Calls.mono (QC.out _ hq) ?_); rintro e w8 ⟨⟨o8, c8, rfl⟩, hb⟩; have hq := hq.trans hb))
                    have hm2 : (if (pm : Int) < 1 + (p3 : Int) then 1 + (p3 : Int) else (pm : Int)) = (i : Int) := by have := Hn2.out; split at this <;> split <;> omega
                    rw [hm2]
                    clear hm2 u1
                    go_wp2_with fail
                    go_ret
                    exact ⟨rfl, HP.out.trans (Hb.out.trans hq)⟩
              · by_cases hcbp : cbp = 1
                · subst hcbp
                  have QA := Lib.hid D1a.out; have QB := Lib.hid (fun W' (h : Pr wl W') => D2z.out rfl W' (some ⟨b2, o2, none⟩) h); have QC := Lib.hid (fun W' (h : Pr wl W') => D3z2.out rfl W' (some ⟨b2, o2, none⟩) h)
                  clear D1z D2z D3zz D3z1 D3z2 D1a D2a D3a
                  go_region_held3 (fun W' => Pr wl W') (with_reducible exact hq)
                    (first
                      | (go_at_call 40; (with_reducible refine Calls.mono (QA.out _ hq) ?_); rintro e w5 ⟨⟨o6, c6, rfl⟩, hb⟩; have hq := hq.trans hb; clear QA)
                      | (go_at_call 40; (with_reducible refine Calls.mono (QB.out _ hq) ?_); rintro e w6 ⟨⟨o7, c7, rfl⟩, hb⟩; have hq := hq.trans hb))
                  have hmx : (if p1 < p2 then (p2 : Int) else (p1 : Int)) = ((max p1 p2 : Nat) : Int) := by split <;> omega
                  rw [hmx]
                  clear hmx
                  have hpm : max p1 p2 ≤ 100 := by omega
                  have Hmax2 := Lib.hid Hmax.out
                  generalize max p1 p2 = pm at *
                  clear Hmax
                  go_upto_region 17 with fail
                  have x0 := After.cell (X0 _ hq); have x1 := After.cell (X1 _ hq); have y0 := After.cell (Y0 _ hq); have y1 := After.cell (Y1 _ hq)
                  have S2 := Lib.hid (After.call fun W' (h : Pr w6 W') => S1.out W' (hq.trans h))
                  refine wp_region_after (by kernel_rfl) (by kernel_rfl) ?_
                  repeat (go_big_quiet_step ((go_at_call 22; exact S2.out _)))
                  refine wpQuiet_nil ?_
                  rintro _ ⟨⟨w7, hq7⟩, rfl⟩
                  have hqe := hq.trans hq7
                  have hq := hqe.drew'
                  clear x0 x1 y0 y1 S2
                  cases bl
                  case false =>
                    have hn : i = pm := by simpa using Hmax2.out
                    have en : ((pm : Int) == (i : Int)) = true := by simp [hn]
                    clear hn Hmax2
                    go_wp2_with fail
                    go_ret
                    exact ⟨rfl, HP.out.trans (Hb.out.trans hqe)⟩
                  case true =>
                    have hn : i = if pm < p3 + 1 then p3 + 1 else pm := by simpa using Hmax2.out
                    have u1 : IntKind.i64.wrap (1 + (p3 : Int)) = 1 + (p3 : Int) := IntWalk.i64_in _ (by omega)
                    have Hn2 := Lib.hid hn
                    clear hn Hmax2
                    go_upto_region 18 with fail
                    go_region_held3 (fun W' => Pr wl W') (with_reducible exact hq)
                      (first | (go_at_call 40; (with_reducible refine Calls.mono (QC.out _ hq) ?_); rintro e w8 ⟨⟨o8, c8, rfl⟩, hb⟩; have hq := hq.trans hb))
                    have hm2 : (if (pm : Int) < 1 + (p3 : Int) then 1 + (p3 : Int) else (pm : Int)) = (i : Int) := by have := Hn2.out; split at this <;> split <;> omega
                    rw [hm2]
                    clear hm2 u1
                    go_wp2_with fail
                    go_ret
                    exact ⟨rfl, HP.out.trans (Hb.out.trans hq)⟩
                · skip
                  have QA := Lib.hid D1a.out; have QB := Lib.hid D2a.out; have QC := Lib.hid D3a.out
                  clear D1z D2z D3zz D3z1 D3z2 D1a D2a D3a
                  go_region_held3 (fun W' => Pr wl W') (with_reducible exact hq)
                    (first
                      | (go_at_call 40; (with_reducible refine Calls.mono (QA.out _ hq) ?_); rintro e w5 ⟨⟨o6, c6, rfl⟩, hb⟩; have hq := hq.trans hb; clear QA)
                      | (go_at_call 40; (with_reducible refine Calls.mono (QB.out _ hq) ?_); rintro e w6 ⟨⟨o7, c7, rfl⟩, hb⟩; have hq := hq.trans hb))
                  have hmx : (if p1 < p2 then (p2 : Int) else (p1 : Int)) = ((max p1 p2 : Nat) : Int) := by split <;> omega
                  rw [hmx]
                  clear hmx
                  have hpm : max p1 p2 ≤ 100 := by omega
                  have Hmax2 := Lib.hid Hmax.out
                  generalize max p1 p2 = pm at *
                  clear Hmax
                  go_upto_region 17 with fail
                  have x0 := After.cell (X0 _ hq); have x1 := After.cell (X1 _ hq); have y0 := After.cell (Y0 _ hq); have y1 := After.cell (Y1 _ hq)
                  have S2 := Lib.hid (After.call fun W' (h : Pr w6 W') => S1.out W' (hq.trans h))
                  refine wp_region_after (by kernel_rfl) (by kernel_rfl) ?_
                  repeat (go_big_quiet_step ((go_at_call 22; exact S2.out _)))
                  refine wpQuiet_nil ?_
                  rintro _ ⟨⟨w7, hq7⟩, rfl⟩
                  have hqe := hq.trans hq7
                  have hq := hqe.drew'
                  clear x0 x1 y0 y1 S2
                  cases bl
                  case false =>
                    have hn : i = pm := by simpa using Hmax2.out
                    have en : ((pm : Int) == (i : Int)) = true := by simp [hn]
                    clear hn Hmax2
                    go_wp2_with fail
                    go_ret
                    exact ⟨rfl, HP.out.trans (Hb.out.trans hqe)⟩
                  case true =>
                    have hn : i = if pm < p3 + 1 then p3 + 1 else pm := by simpa using Hmax2.out
                    have u1 : IntKind.i64.wrap (1 + (p3 : Int)) = 1 + (p3 : Int) := IntWalk.i64_in _ (by omega)
                    have Hn2 := Lib.hid hn
                    clear hn Hmax2
                    go_upto_region 18 with fail
                    go_region_held3 (fun W' => Pr wl W') (with_reducible exact hq)
                      (first | (go_at_call 40; (with_reducible refine Calls.mono (QC.out _ hq) ?_); rintro e w8 ⟨⟨o8, c8, rfl⟩, hb⟩; have hq := hq.trans hb))
                    have hm2 : (if (pm : Int) < 1 + (p3 : Int) then 1 + (p3 : Int) else (pm : Int)) = (i : Int) := by have := Hn2.out; split at this <;> split <;> omega
                    rw [hm2]
                    clear hm2 u1
                    go_wp2_with fail
                    go_ret
                    exact ⟨rfl, HP.out.trans (Hb.out.trans hq)⟩
end Go.Proofs.Ytdbnfhpgmcjngab
