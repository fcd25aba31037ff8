/- Walks: the document's table: its pair, its cost. -/
import Derived.Test.YtdbnfhpgmcjngaaRb
namespace Go.Proofs.Ytdbnfhpgmcjngaa
open Go Go.RowKit
section
variable {w : World} {B : Nat} {xs ys : List Nd} {xb xo xc yb yo yc g K : Nat}

theorem rforests_at (xs ys : List Nd) (hx : Fit xs) (hy : Fit ys) (hix : xs.length ≤ 16) (hjy : ys.length ≤ 16) (i0 I j0 J : Nat) (ii jj : Int) (h1 : i0 ≤ I) (h2 : j0 ≤ J) (h3 : I ≤ xs.length) (h4 : J ≤ ys.length) (cx : Cl xs i0 I) (cy : Cl ys j0 J) (hii : ii = (I : Int)) (hjj : jj = (J : Int)) (w : World) (hA : Apt w B xs ys xb xo xc yb yo yc g K) (hM : Memo w g K xs ys) :
    Calls Try.prog 63 #[.pointer (some ⟨B, 0, none⟩), .int .i64 i0, .int .i64 ii, .int .i64 j0, .int .i64 jj] w fun e w' => e = .returned (.int .i64 (fdn xs ys i0 I j0 J : Nat)) ∧ Chg (fun k => k = g) w w' ∧ Memo w' g K xs ys :=
  rforests_any xs ys hx hy hix hjy B xb xo xc yb yo yc g K _ i0 I j0 J ii jj w (Nat.lt_succ_self _) h1 h2 h3 h4 cx cy hii hjj hA hM

set_option maxHeartbeats 1600000 in
theorem rcost_any (hA : Apt w B xs ys xb xo xc yb yo yc g K) (hM : Memo w g K xs ys) (hx : Fit xs) (hy : Fit ys) (hix : xs.length ≤ 16) (hjy : ys.length ≤ 16) (hi : 1 ≤ xs.length) (hj : 1 ≤ ys.length) :
    Calls Try.prog 44 #[.pointer (some ⟨B, 0, none⟩)] w fun e w' =>
      e = .returned (.int .i64 (fdn xs ys 0 (xs.length - 1) 0 (ys.length - 1) + lc (labN xs (xs.length - 1)) (labN ys (ys.length - 1)) : Nat)) ∧ Chg (fun k => k = g) w w' ∧ Memo w' g K xs ys := by
  obtain ⟨I, hI⟩ : ∃ I, I = xs.length - 1 := ⟨_, rfl⟩
  obtain ⟨J, hJ⟩ : ∃ J, J = ys.length - 1 := ⟨_, rfl⟩
  rw [← hI, ← hJ]
  have b0 : w.cell? ⟨B, 0, none⟩ = some (.slice (some ⟨xb, xo, none⟩) xs.length xc) := blk_cell hA.blk
  have b1 : w.cell? ⟨B, 1, none⟩ = some (.slice (some ⟨yb, yo, none⟩) ys.length yc) := blk_cell hA.blk
  have CF : Hid (∀ n, Calls Try.prog 63 #[.pointer (some ⟨B, 0, none⟩), .int .i64 0, .int .i64 I, .int .i64 0, .int .i64 J] (w.drewN n) fun e w' => e = .returned (.int .i64 (fdn xs ys 0 I 0 J : Nat)) ∧ Chg (fun k => k = g) (w.drewN n) w' ∧ Memo w' g K xs ys) := Lib.hid fun n =>
    rforests_at xs ys hx hy hix hjy 0 I 0 J _ _ (Nat.zero_le _) (Nat.zero_le _) (by omega) (by omega) (Cl.zero _ _) (Cl.zero _ _) rfl rfl _ (hA.pr (Pr.drewN w n)) (hM.pr (Pr.drewN w n))
  have CN : Hid (∀ W', Apt W' B xs ys xb xo xc yb yo yc g K → Calls Try.prog 64 #[.pointer (some ⟨B, 0, none⟩), .int .i64 I, .int .i64 J] W' fun e w' => e = .returned (.int .i64 (lc (labN xs I) (labN ys J) : Nat)) ∧ ∃ m, w' = W'.drewN m) := Lib.hid fun W' h => rname_any h I J (by omega) (by omega)
  have HA : Hid (∀ n, Apt (w.drewN n) B xs ys xb xo xc yb yo yc g K) := Lib.hid fun n => hA.pr (Pr.drewN w n)
  have hk := fdn_bound hx hy (i0 := 0) (i := I) (j0 := 0) (j := J) (by omega) (by omega) (Cl.zero _ _) (Cl.zero _ _) (by omega) (by omega)
  have hlc := lc_le (labN xs I) (labN ys J)
  generalize fdn xs ys 0 I 0 J = p at *
  generalize lc (labN xs I) (labN ys J) = c at *
  have e1 : (xs.length : Int) - 1 = I := by omega
  have e2 : (ys.length : Int) - 1 = J := by omega
  have uI : IntKind.i64.wrap (I : Int) = I := IntWalk.i64_in _ (by omega)
  have uJ : IntKind.i64.wrap (J : Int) = J := IntWalk.i64_in _ (by omega)
  have uS : IntKind.i64.wrap ((p : Int) + (c : Int)) = (p : Int) + (c : Int) := IntWalk.i64_in _ (by omega)
  clear hk hlc hI hJ hi hj hix hjy hx hy hA hM
  go_enter Try.func44, Try.ntmps44
  go_wp2_with fail
  go_quiet (fail)
  go_wp2_with (first
    | (go_at_call 63; (with_reducible refine Calls.mono (CF.out _) ?_); rintro e w1 ⟨rfl, hc1, hm1⟩; have hA1 := (HA.out _).chg hc1)
    | (go_at_call 64; (with_reducible refine Calls.mono (CN.out _ hA1) ?_); rintro e w2 ⟨rfl, nq2, rfl⟩))
  go_ret
  exact ⟨rfl, (((Pr.drewN w _).chg _).trans hc1 (fun _ h => .inl h)).pr (Pr.drewN w1 nq2), hm1.pr (Pr.drewN w1 nq2)⟩

set_option maxHeartbeats 1600000 in
theorem rpair_any (hA : Apt w B xs ys xb xo xc yb yo yc g K) (hM : Memo w g K xs ys) (hx : Fit xs) (hy : Fit ys) (hix : xs.length ≤ 16) (hjy : ys.length ≤ 16) (i j : Int) :
    Calls Try.prog 45 #[.pointer (some ⟨B, 0, none⟩), .int .i64 i, .int .i64 j] w fun e w' =>
      e = .returned (.int .i64 (pairZ xs ys i j)) ∧ Chg (fun k => k = g) w w' ∧ Memo w' g K xs ys := by
  have b0 : w.cell? ⟨B, 0, none⟩ = some (.slice (some ⟨xb, xo, none⟩) xs.length xc) := blk_cell hA.blk
  have b1 : w.cell? ⟨B, 1, none⟩ = some (.slice (some ⟨yb, yo, none⟩) ys.length yc) := blk_cell hA.blk
  by_cases hin : 0 ≤ i ∧ i < xs.length ∧ 0 ≤ j ∧ j < ys.length
  · obtain ⟨I, rfl⟩ : ∃ I : Nat, i = I := ⟨i.toNat, by omega⟩
    obtain ⟨J, rfl⟩ : ∃ J : Nat, j = J := ⟨j.toNat, by omega⟩
    have hv : pairZ xs ys I J = (fdn xs ys (lfN xs I) (I + 1) (lfN ys J) (J + 1) : Nat) := by unfold pairZ; rw [if_pos hin]; simp
    rw [hv]
    have x2 := (hA.nx I (by omega)).2.2
    have y2 := (hA.ny J (by omega)).2.2
    rw [hx.left I (by omega)] at x2
    rw [hy.left J (by omega)] at y2
    have hL2 := lfN_le xs I
    have hM2 := lfN_le ys J
    have CF : Hid (∀ n, Calls Try.prog 63 #[.pointer (some ⟨B, 0, none⟩), .int .i64 (lfN xs I), .int .i64 ((I : Int) + 1), .int .i64 (lfN ys J), .int .i64 ((J : Int) + 1)] (w.drewN n) fun e w' => e = .returned (.int .i64 (fdn xs ys (lfN xs I) (I + 1) (lfN ys J) (J + 1) : Nat)) ∧ Chg (fun k => k = g) (w.drewN n) w' ∧ Memo w' g K xs ys) := Lib.hid fun n =>
      rforests_at xs ys hx hy hix hjy (lfN xs I) (I + 1) (lfN ys J) (J + 1) _ _ (by omega) (by omega) (by omega) (by omega) (hx.cl (by omega)) (hy.cl (by omega)) (by omega) (by omega) _ (hA.pr (Pr.drewN w n)) (hM.pr (Pr.drewN w n))
    generalize fdn xs ys (lfN xs I) (I + 1) (lfN ys J) (J + 1) = d at *
    generalize lfN xs I = L at *
    generalize lfN ys J = M at *
    obtain ⟨h1, h2, h3, h4⟩ := hin
    have h2' : ¬ (xs.length : Int) ≤ I := by omega
    have h4' : ¬ (ys.length : Int) ≤ J := by omega
    have h1' : ¬ (I : Int) < 0 := by omega
    have h3' : ¬ (J : Int) < 0 := by omega
    have u1 : IntKind.i64.wrap ((I : Int) + 1) = (I : Int) + 1 := IntWalk.i64_in _ (by omega)
    have u2 : IntKind.i64.wrap ((J : Int) + 1) = (J : Int) + 1 := IntWalk.i64_in _ (by omega)
    clear hv hA hM hL2 hM2 hx hy hix hjy
    go_enter Try.func45, Try.ntmps45
    go_upto_region 3 with fail
    refine wp_region_quiet_tail 21 (by kernel_rfl) (by kernel_rfl) ?_
    simp only [List.take_succ_cons, List.take_zero, List.drop_succ_cons, List.drop_zero]
    repeat (go_big_quiet_step (fail))
    refine wpQuiet_nil ?_
    rintro _ ⟨nq, rfl⟩
    go_wp2_with (first
      | (go_at_call 63; (with_reducible refine Calls.mono (CF.out _) ?_); rintro e w1 ⟨rfl, hc1, hm1⟩))
    go_ret
    exact ⟨rfl, ((Pr.drewN w _).chg _).trans hc1 (fun _ h => .inl h), hm1⟩
  · have hv : pairZ xs ys i j = -1 := if_neg hin
    rw [hv]
    have HM := Lib.hid hM
    have hor : i < 0 ∨ (¬ i < 0 ∧ (xs.length : Int) ≤ i) ∨ (¬ i < 0 ∧ ¬ (xs.length : Int) ≤ i ∧ j < 0) ∨ (¬ i < 0 ∧ ¬ (xs.length : Int) ≤ i ∧ ¬ j < 0 ∧ (ys.length : Int) ≤ j) := by omega
    clear hin hv hA hM
    rcases hor with h0 | ⟨h0, h1⟩ | ⟨h0, h1, h2⟩ | ⟨h0, h1, h2, h3⟩
    all_goals
      go_enter Try.func45, Try.ntmps45
      go_wp2_with fail
      go_ret
      exact ⟨rfl, Chg.refl _ _, HM.out⟩
end
end Go.Proofs.Ytdbnfhpgmcjngaa
