/- The law BookFirst: its walk. -/
import Derived.Test.YtdbnfhpgmcjngacBzv
import Derived.Test.YtdbnfhpgmcjngacAf
import Derived.Test.YtdbnfhpgmcjngacLcx
namespace Go.Proofs.Ytdbnfhpgmcjngac
open Go Go.RowKit

/-- Get, of a tree that is there. -/
theorem get_is {X : Nat → Prop} (B : Nat) (v : Value) (ts : List Tr) (n : Nat) (hn : n < ts.length) (w : World) (hb : BookOk X w B v ts) (l : ByteArray) (ks : List Tr) (ht : getT ts n = .node l ks) :
    Calls Try.prog 35 #[.pointer (some ⟨B, 0, none⟩), .int .i64 n] w fun e w' => ∃ o c, e = .returned (.tuple #[.agg #[.string l, .slice o ks.length c], .bool true]) ∧ Kids Any w' ks o c ∧ Pr w w' := by
  refine (get_any B v ts n w hb).mono fun e w' ⟨l2, ks2, o, c, h1, _, h2, h3, h4⟩ => ?_
  rw [ht] at h1
  cases h1
  have hh : hasT ts (n : Int) = true := by unfold hasT; simp; omega
  rw [hh] at h2
  exact ⟨o, c, h2, h3.any, h4⟩
theorem step_is {X : Nat → Prop} (B : Nat) (v : Value) (ts : List Tr) (n : Nat) (w : World) (hb : BookOk X w B v ts) (D : List Dee) (hD : stepD ts n = D) :
    Calls Try.prog 37 #[.pointer (some ⟨B, 0, none⟩), .int .i64 n] w fun e w' => ∃ o c, e = .returned (.tuple #[.slice o D.length c, .bool (hasS ts n)]) ∧ Dees Any w' D o c ∧ Pr w w' := by
  refine (stepB_any B v ts n w hb).mono fun e w' ⟨o, c, h2, h3, h4⟩ => ?_
  rw [hD] at h2 h3
  exact ⟨o, c, h2, h3.any, h4⟩
theorem blame_is {X : Nat → Prop} (B : Nat) (v : Value) (ts : List Tr) (n : Nat) (w : World) (hb : BookOk X w B v ts) (L : List Int) (hL : blameP ts n = L) (hC : blameC ts n = 0) :
    Calls Try.prog 39 #[.pointer (some ⟨B, 0, none⟩), .int .i64 n] w fun e w' => ∃ o c, e = .returned (.tuple #[.slice o L.length c, .int .i64 0]) ∧ Ints Any w' L o c ∧ Pr w w' := by
  refine (blame_any B v ts n w hb).mono fun e w' ⟨o, c, h2, h3, h4⟩ => ?_
  rw [hL] at h2 h3; rw [hC] at h2
  exact ⟨o, c, h2, h3.any, h4⟩
set_option maxRecDepth 100000 in
set_option maxHeartbeats 12800000 in
theorem bookFirst_walk (ls : List Tr) (oa cap) (cut : Int) (w : World) (hk : Kids Any w ls oa cap) (_ : True) (_ : (Lit.int .i64 cut).wf = true) :
    Calls Try.prog 11 #[.slice oa ls.length cap, .int .i64 cut] w fun e w' => e = .returned (.bool true) ∧ Pr w w' := by
  have G1 := Lib.hid fun W' (h : Pr w W') => greats_any ls oa cap W' (hk.pr h)
  have HK := Lib.hid hk
  have hlen := hk.len
  have hcap := hk.1
  clear hk
  go_enter Try.func11, Try.ntmps11
  go_upto_region 3 with (go_at_call 30; refine (bookBegun_any _).mono ?_; rintro e w1 ⟨rfl, hp⟩)
  go_cut [31] from 30 to 31 (fun v wx => (∃ b, v = .bool b ∧ (b = false → FewTs ls)) ∧ Pr w wx)
  case first =>
    go_wp2_with (go_at_call 31; (with_reducible refine Calls.mono (G1.out _ hp) ?_); rintro e w2 ⟨⟨b, rfl, hb⟩, hp2⟩)
    go_meet
    exact ⟨⟨b, rfl, hb⟩, hp.trans hp2⟩
  case rest =>
  obtain ⟨⟨b, rfl, hb⟩, hp2⟩ := hcut
  obtain ⟨w2, hw2⟩ : ∃ w2, w2 = wc := ⟨_, rfl⟩
  subst hw2
  cases b
  case true =>
    go_wp2_with fail
    go_ret
    exact ⟨rfl, hp2⟩
  case false =>
    have ft := (hb rfl).1
    obtain ⟨K, hK, hKe⟩ := cutn_ix cut ls.length (by omega)
    have hpre := inP_pre ls K
    have B1 := Lib.hid fun W' (h : Pr w2 W') => books_any ls oa cap W' (HK.out.pr (hp2.trans h))
    have htk : (ls.take K).length = K := by rw [List.length_take]; omega
    have B2 : Hid (∀ W', Pr w2 W' → Calls Try.prog 36 #[.slice oa K cap] W' (BooksPost (inP (ls.take K)) W')) := Lib.hid fun W' h => by
      have := books_any (ls.take K) oa cap W' ((HK.out.pr (hp2.trans h)).cutP K hK)
      rw [htk] at this; exact this
    generalize inP (ls.take K) = ps at *
    generalize inP ls = ts at *
    have hpl := hpre.length_le
    have Hpre := Lib.hid hpre; have Hp2 := Lib.hid hp2
    have hc1 : ls.length ≤ cap := hcap.1
    have hc2 : (cap : Int) ≤ 9223372036854775807 := by have := hcap.2; unfold maxLen at this; omega
    have hKn : (K : Int) ≤ ls.length := by omega
    have hKc : (K : Int) ≤ cap := by omega
    have hK0 : (0 : Int) ≤ K := by omega
    have u1 : IntKind.i64.wrap ((ls.length : Int) + 1) = (ls.length : Int) + 1 := IntWalk.i64_in _ (by omega)
    clear hb hp2 hpre htk hcap G1
    go_upto_region 8 with (first
      | (go_at_call 36; (with_reducible refine Calls.mono (B1.out _ (Pr.refl _)) ?_); rintro e w3 ⟨X3, Ba, va, oi, ci, rfl, hba, hki, _, _, hb3⟩)
      | (go_at_call 36; (with_reducible refine Calls.mono (B2.out _ hb3) ?_); rintro e w4 ⟨X4, Bb, vb, os, cs, rfl, hbb, hks, hX4, hBb, hb4⟩))
    have hba4 := hba.pr hb4
    have hBbw : w.heap.size ≤ Bb := by have := (Hp2.out.trans hb3).size; omega
    have HBa := Lib.hid hba4; have HBb := Lib.hid hbb; have HKs := Lib.hid hks; have HX4 := Lib.hid hX4
    have Hw4 := Lib.hid (Hp2.out.trans (hb3.trans hb4))
    have hfew := hbb.few
    have e1 : decide ((ts.length : Int) < (ps.length : Int)) = false := decide_eq_false (by omega)
    have e2 : decide (ts.length < ps.length) = false := decide_eq_false (by omega)
    clear hba hba4 hbb hks hki hX4 hb3 hb4 B1 B2 hKn hKc hK0 u1 hc1 hc2
    go_upto_region 11 with (go_at_call 34; (with_reducible refine Calls.mono (len_any Bb vb ps _ HBb.out) ?_); rintro e w5 ⟨rfl, hw5⟩; obtain rfl := hw5.symm)
    go_loopw [10] (fun v10 wr => ∃ n : Nat, n ≤ ps.length ∧ v10 = .int .i64 n ∧ Pr w4 wr) (fun v10 _ => ps.length - (intOf v10).toNat)
    case atStart => exact ⟨0, by omega, rfl, Pr.refl _⟩
    case round =>
      obtain ⟨n, hn, rfl, hb⟩ := hrel
      by_cases hlt : n < ps.length
      case neg =>
        have hne : n = ps.length := by omega
        subst hne
        have Hb := Lib.hid hb
        by_cases h0 : ps = []
        · subst h0
          clear hb
          go_wp2_with fail
          go_ret
          exact ⟨rfl, Hw4.out.trans Hb.out⟩
        have hpos : 0 < ps.length := List.length_pos_iff.2 h0
        have z0 : ((ps.length : Int) == 0) = false := by rw [beq_eq_false_iff_ne]; omega
        by_cases h30 : ps.length < 30
        case neg =>
          have z1 : decide ((30 : Int) ≤ (ps.length : Int)) = true := decide_eq_true (by omega)
          have z2 : decide (30 ≤ ps.length) = true := decide_eq_true (by omega)
          clear hb h0 hpos h30
          go_wp2_with fail
          go_ret
          exact ⟨rfl, Hw4.out.trans Hb.out⟩
        case pos =>
          have z1 : decide ((30 : Int) ≤ (ps.length : Int)) = false := decide_eq_false (by omega)
          have z2 : decide (30 ≤ ps.length) = false := decide_eq_false (by omega)
          have hbk := HBb.out.pr hb
          obtain ⟨g1, g2, g3⟩ := again_ok hbk.flt h0 h30
          obtain ⟨m, hm⟩ : ∃ m, ps.length = m + 1 := ⟨ps.length - 1, by omega⟩
          have hml : m < ps.length := by omega
          obtain ⟨b, o, l', ks', oa', cap', e3, hl', rfl, c0, c1, hk'⟩ := (HKs.out.pr hb).get m hml
          have hla : lastT ps = .node l' ks' := by
            unfold lastT
            rw [List.getLast?_eq_getElem?, hm, Nat.add_sub_cancel, ← e3]
            simp [hml]
          rw [hla] at g1 g2 g3
          have hkb : Kids (BS NoX Bb vb) wr ks' oa' cap' := hk'.mono fun k hX _ => ⟨⟨fun e => hbk.out.1 (e ▸ hX), fun e => hbk.out.2 k e hX⟩, fun h => h⟩
          have DS1 := Lib.hid (deeds_any Bb vb ps wr hbk)
          have PP : Hid (∀ w4, Chg (fun k => k = Bb ∨ vb.ownBlock = some k) wr w4 → Pr w w4) := Lib.hid fun w4 hc => ((Hw4.out.trans Hb.out).chg (fun k => k = Bb ∨ vb.ownBlock = some k)).trans hc (fun _ h => .inl h) |>.to_pr (fun k hk => by
            rcases hk with e | e
            · omega
            · have := (hbk.lt.2 k e).1; omega)
          have CP : Hid (∀ w4, Pr wr w4 → w4.cell? ⟨b, o + m * 2, none⟩ = some (.string l') ∧ w4.cell? ⟨b, o + m * 2 + 1, none⟩ = some (.slice oa' ks'.length cap')) := Lib.hid fun w4 h => ⟨h.cell c0, h.cell c1⟩
          have HBK := Lib.hid hbk; have Hkb := Lib.hid hkb
          have AD2' : Hid (∀ u, Pr wr u → Calls Try.prog 33 #[.pointer (some ⟨Bb, 0, none⟩), .agg #[.string l', .slice oa' ks'.length cap']] u fun e w' => e = .returned (.tuple #[.int .i64 ps.length, .int .i64 0]) ∧ ∃ v', BookOk X4 w' Bb v' (ps ++ [.node l' ks']) ∧ Chg (fun k => k = Bb ∨ vb.ownBlock = some k) u w') := Lib.hid fun u hu => by
            have AD := add_any Bb vb ps l' ks' oa' cap' u (HBK.out.pr hu) hl' (Hkb.out.pr hu) (fun k hX => Nat.lt_of_lt_of_le (HX4.out k hX) (hb.trans hu).size)
            exact AD.mono fun e w' ⟨he, v', h1, h2, _⟩ => by
              rw [if_pos g1, g1] at he; rw [if_pos g1] at h1
              exact ⟨he, v', h1, h2⟩
          have ST : Hid (∀ u v', BookOk X4 u Bb v' (ps ++ [.node l' ks']) → Calls Try.prog 37 #[.pointer (some ⟨Bb, 0, none⟩), .int .i64 ps.length] u fun e w' => (∃ o c, e = .returned (.tuple #[.slice o 0 c, .bool true])) ∧ Pr u w') := Lib.hid fun u v' h => by
            refine (step_is Bb v' _ ps.length u h [] g3).mono fun e w' ⟨o, c, h1, _, h2⟩ => ?_
            have : hasS (ps ++ [.node l' ks']) (ps.length : Int) = true := by unfold hasS; simp; omega
            rw [this] at h1
            exact ⟨⟨o, c, h1⟩, h2⟩
          have DS2 : Hid (∀ u v', BookOk X4 u Bb v' (ps ++ [.node l' ks']) → Calls Try.prog 38 #[.pointer (some ⟨Bb, 0, none⟩)] u fun e w' => e = .returned (.int .i64 (cntD ps)) ∧ Pr u w') := Lib.hid fun u v' h => by
            have := deeds_any Bb v' _ u h
            rw [g2] at this; exact this
          have y1 : (ps.length : Int) - 1 = (m : Int) := by omega
          have y2 : (m : Int) < (ps.length : Int) := by omega
          have y3 : (0 : Int) ≤ (m : Int) := by omega
          have y4 : IntKind.i64.wrap ((ps.length : Int) - 1) = (m : Int) := by rw [y1]; exact IntWalk.i64_in _ (by omega)
          have y5 : decide ((0 : Int) < (ps.length : Int)) = true := decide_eq_true (by omega)
          have y6 : decide (0 < ps.length) = true := decide_eq_true (by omega)
          have CPr := CP.out wr (Pr.refl _)
          generalize cntD ps = cnt at *
          clear hbk hkb hb h0 h30 g1 g2 g3 hm c0 c1 hk' hla e3
          go_wp2_with (first
            | (go_at_call 38; (with_reducible refine Calls.mono DS1.out ?_); rintro e w6 ⟨rfl, hp6⟩; obtain ⟨c0, c1⟩ := CP.out _ hp6)
            | (go_at_call 33; (with_reducible refine Calls.mono (AD2'.out _ hp6) ?_); rintro e w7 ⟨rfl, v7, hb7, hc7⟩)
            | (go_at_call 37; (with_reducible refine Calls.mono (ST.out _ _ hb7) ?_); rintro e w8 ⟨⟨o8, c8, rfl⟩, hp8⟩; have hb8 := hb7.pr hp8)
            | (go_at_call 38; (with_reducible refine Calls.mono (DS2.out _ _ hb8) ?_); rintro e w9 ⟨rfl, hp9⟩))
          go_ret
          exact ⟨rfl, (PP.out _ (((hp6.chg _).trans hc7 (fun _ h => .inl h)))).trans (hp8.trans hp9)⟩
      case pos =>
        obtain ⟨l, k, hlk⟩ : ∃ l k, getT ps n = .node l k := by
          cases h : getT ps n with
          | node l k => exact ⟨l, k, rfl⟩
        have hlk2 : getT ts n = .node l k := by rw [pre_getT Hpre.out hlt, hlk]
        obtain ⟨D, hD⟩ : ∃ D, stepD ps n = D := ⟨_, rfl⟩
        have hD2 : stepD ts n = D := by rw [pre_stepD Hpre.out (by omega), hD]
        obtain ⟨hq1, hq2, hq3⟩ := pre_blame Hpre.out hlt
        obtain ⟨L, hL⟩ : ∃ L, blameP ps n = L := ⟨_, rfl⟩
        rw [hL] at hq1
        have GA := Lib.hid fun W' (h : Pr wr W') => get_is Ba va ts n (by omega) W' (HBa.out.pr (hb.trans h)) l k hlk2
        have GB := Lib.hid fun W' (h : Pr wr W') => get_is Bb vb ps n hlt W' (HBb.out.pr (hb.trans h)) l k hlk
        have SA := Lib.hid fun W' (h : Pr wr W') => step_is Ba va ts n W' (HBa.out.pr (hb.trans h)) D hD2
        have SB := Lib.hid fun W' (h : Pr wr W') => step_is Bb vb ps n W' (HBb.out.pr (hb.trans h)) D hD
        have LA := Lib.hid fun W' (h : Pr wr W') => blame_is Ba va ts n W' (HBa.out.pr (hb.trans h)) L hq1 hq2
        have LB := Lib.hid fun W' (h : Pr wr W') => blame_is Bb vb ps n W' (HBb.out.pr (hb.trans h)) L hL hq3
        have Hb := Lib.hid hb
        clear hlk hlk2 hD hD2 hq1 hq2 hq3 hL hb
        go_upto_region 14 with (go_at_call 35; (with_reducible refine Calls.mono (GA.out _ (Pr.refl _)) ?_); rintro e w5 ⟨o5, c5, rfl, hk5, hp5⟩)
        obtain ⟨V5, hV5⟩ : ∃ V, V = w5.alloc (.cells #[.string l, .slice o5 k.length c5] 24) := ⟨_, rfl⟩
        have hpV5 : Pr wr V5 := by rw [hV5]; exact hp5.alloc' _
        have v50 := stays (show V5.cell? ⟨w5.heap.size, 0, none⟩ = some (.string l) by rw [hV5]; simp [go_sem])
        have v51 := stays (show V5.cell? ⟨w5.heap.size, 1, none⟩ = some (.slice o5 k.length c5) by rw [hV5]; simp [go_sem])
        have hk5 := hk5.pr (show Pr w5 V5 by rw [hV5]; exact Pr.alloc _ _)
        rw [← hV5]
        clear hV5 hp5
        go_upto_region 15 with (go_at_call 35; (with_reducible refine Calls.mono (GB.out _ hpV5) ?_); rintro e w6 ⟨o6, c6, rfl, hk6, hp6⟩)
        obtain ⟨V6, hV6⟩ : ∃ V, V = w6.alloc (.cells #[.string l, .slice o6 k.length c6] 24) := ⟨_, rfl⟩
        have hpV6 : Pr V5 V6 := by rw [hV6]; exact hp6.alloc' _
        have v60 := stays (show V6.cell? ⟨w6.heap.size, 0, none⟩ = some (.string l) by rw [hV6]; simp [go_sem])
        have v61 := stays (show V6.cell? ⟨w6.heap.size, 1, none⟩ = some (.slice o6 k.length c6) by rw [hV6]; simp [go_sem])
        have hk6 := hk6.pr (show Pr w6 V6 by rw [hV6]; exact Pr.alloc _ _)
        rw [← hV6]
        clear hV6 hp6
        have hq := Pr.refl V6
        have hwV := hpV5.trans hpV6
        go_upto_region 19 with (first
          | (go_at_call 37; (with_reducible refine Calls.mono (SA.out _ (hwV.trans hq)) ?_); rintro e w7 ⟨o7, c7, rfl, hd7, hb7⟩; have hq := hq.trans hb7)
          | (go_at_call 37; (with_reducible refine Calls.mono (SB.out _ (hwV.trans hq)) ?_); rintro e w8 ⟨o8, c8, rfl, hd8, hb8⟩; have hq := hq.trans hb8; have hd7 := hd7.pr hb8)
          | (go_at_call 39; (with_reducible refine Calls.mono (LA.out _ (hwV.trans hq)) ?_); rintro e w9 ⟨o9, c9, rfl, hi9, hb9⟩; have hq := hq.trans hb9; have hd7 := hd7.pr hb9; have hd8 := hd8.pr hb9)
          | (go_at_call 39; (with_reducible refine Calls.mono (LB.out _ (hwV.trans hq)) ?_); rintro e w10 ⟨o10, c10, rfl, hi10, hb10⟩; have hq := hq.trans hb10; have hd7 := hd7.pr hb10; have hd8 := hd8.pr hb10; have hi9 := Flat.pr hb10 hi9))
        have T1 : Hid (∀ W', Pr w10 W' → Calls Try.prog 16 #[.agg #[.string l, .slice o5 k.length c5], .agg #[.string l, .slice o6 k.length c6]] W' fun e w' => e = .returned (.bool true) ∧ Pr W' w') := Lib.hid fun W' h => by
          have := sameTree_any l l k k o5 c5 o6 c6 W' (hk5.pr (hpV6.trans (hq.trans h))) (hk6.pr (hq.trans h)); rw [Tr.beq_self] at this; exact this
        have T2 : Hid (∀ W', Pr w10 W' → Calls Try.prog 24 #[.slice o7 D.length c7, .slice o8 D.length c8] W' fun e w' => e = .returned (.bool true) ∧ Pr W' w') := Lib.hid fun W' h => by
          have := sameDeeds_any D D o7 c7 o8 c8 W' (hd7.pr h) (hd8.pr h); rw [decide_eq_true (rfl : D = D)] at this; exact this
        have T3' : Hid (∀ W', Pr w10 W' → Calls Try.prog 40 #[.slice o9 L.length c9, .slice o10 L.length c10] W' fun e w' => e = .returned (.bool true) ∧ Pr W' w') := Lib.hid fun W' h => by
          have := sameInts_any L L o9 c9 o10 c10 W' (Flat.pr h hi9) (Flat.pr h hi10); rw [decide_eq_true (rfl : L = L)] at this; exact this
        have x0 := v50 _ (hpV6.trans hq); have x1 := v51 _ (hpV6.trans hq); have x2 := v60 _ hq; have x3 := v61 _ hq
        have hqr := Pr.refl w10
        clear hd7 hd8 hi9 hi10 hk5 hk6 GA GB SA SB LA LB
        go_wp2_with (first
          | (go_at_call 16; (with_reducible refine Calls.mono (T1.out _ hqr) ?_); rintro e w11 ⟨rfl, hb11⟩; have hqr := hqr.trans hb11)
          | (go_at_call 24; (with_reducible refine Calls.mono (T2.out _ hqr) ?_); rintro e w12 ⟨rfl, hb12⟩; have hqr := hqr.trans hb12)
          | (go_at_call 40; (with_reducible refine Calls.mono (T3'.out _ hqr) ?_); rintro e w13 ⟨rfl, hb13⟩; have hqr := hqr.trans hb13))
        refine ⟨⟨n + 1, by omega, by go_num, Hb.out.trans (hwV.trans (hq.trans hqr))⟩, ?_⟩
        simp [intOf]; omega
end Go.Proofs.Ytdbnfhpgmcjngac
