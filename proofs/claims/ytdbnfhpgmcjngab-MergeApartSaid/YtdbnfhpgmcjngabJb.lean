/- Walks: pleachingref.Common. -/
import Derived.Test.YtdbnfhpgmcjngabJa
namespace Go.Proofs.Ytdbnfhpgmcjngab
open Go Go.RowKit

set_option maxRecDepth 100000 in
set_option maxHeartbeats 6400000 in
theorem rcommon_any (xs ys : List Tr) (oa cap ob cbp) (w : World) (ha : Kids Any w xs oa cap) (hb : Kids Any w ys ob cbp) (hal : xs.length ≤ 1000) (hbl : ys.length ≤ 1000) :
    Calls Try.prog 41 #[.slice oa xs.length cap, .slice ob ys.length cbp] w (ComPost w (pz (common xs ys))) := by
  have MS := Lib.hid (most_any xs ys oa cap ob cbp w ha hb hal hbl)
  obtain ⟨n, hn⟩ : ∃ n, n = xs.length + 1 := ⟨_, rfl⟩
  obtain ⟨m, hm⟩ : ∃ m, m = ys.length + 1 := ⟨_, rfl⟩
  unfold MostPost at MS
  rw [← hn, ← hm] at MS
  have Hn := Lib.hid hn
  have Hm := Lib.hid hm
  have HA := Lib.hid ha
  have HB := Lib.hid hb
  clear hn hm ha hb
  go_enter Try.func41, Try.ntmps41
  go_wp2_with (go_at_call 75; (with_reducible refine Calls.mono MS.out ?_); rintro e w2 ⟨g, bf, rfl, hM, hb⟩)
  have Hb0 := Lib.hid hb; have HM6 := Lib.hid hM
  clear hb hM MS
  go_loopw [6, 7, 8] (fun v9 v10 v11 wr => ∃ (i j : Nat) (L : List (Nat × Nat)), i ≤ xs.length ∧ j ≤ ys.length ∧ v10 = .int .i64 i ∧ v11 = .int .i64 j ∧ common xs ys = L ++ com (xs.drop i) (ys.drop j) i j ∧ OwnsPs w2.heap.size wr v9 (pz L) ∧ L.length ≤ i ∧ Pr w2 wr) (fun _ v10 v11 _ => (xs.length - (intOf v10).toNat) + (ys.length - (intOf v11).toNat))
  case atStart => exact ⟨0, 0, [], by omega, by omega, rfl, rfl, by simp [common], OwnsPs.nil _ _, by simp, Pr.refl _⟩
  case round =>
    obtain ⟨i, j, L, hi, hj, rfl, rfl, hL, hown, hLl, hb⟩ := hrel
    have HL := Lib.hid hL
    clear hL
    by_cases hi2 : i < xs.length
    · by_cases hj2 : j < ys.length
      · have hnn := Hn.out
        have hmm := Hm.out
        obtain ⟨b1, o1, l1, ks1, oa1, cap1, e1, hl1, rfl, x0, x1, hk1⟩ := HA.out.get i hi2
        obtain ⟨b2, o2, l2, ks2, oa2, cap2, e2, hl2, rfl, y0, y1, hk2⟩ := HB.out.get j hj2
        have hcm := com_at hi2 hj2
        rw [e1, e2] at hcm
        have hp4 := Hb0.out.trans hb
        have S1 := Lib.hid (fun W' (h : Pr w W') => sameTree_any l1 l2 ks1 ks2 oa1 cap1 oa2 cap2 W' (hk1.pr h) (hk2.pr h))
        generalize (Tr.node l1 ks1).beq (.node l2 ks2) = bl at *
        have x0 := stays x0 _ hp4; have x1 := stays x1 _ hp4; have y0 := stays y0 _ hp4; have y1 := stays y1 _ hp4
        have Hcm := Lib.hid hcm
        have Hp4 := Lib.hid hp4
        have z7 : (i : Int) < xs.length := by omega
        have z8 : (j : Int) < ys.length := by omega
        clear hcm hp4 e1 e2 hl1 hl2 hk1 hk2
        cases bl
        case false =>
          have hM := HM6.out.pr hb
          have s1 := stays (hM.slice (x := i + 1) (by omega) (by omega))
          have s2 := stays (hM.slice (x := i) (by omega) (by omega))
          have v1 := stays (hM.cell (x := i + 1) (y := j) (by omega) (by omega))
          have v2 := stays (hM.cell (x := i) (y := j + 1) (by omega) (by omega))
          have hcm := Hcm.out
          rw [if_neg (by simp)] at hcm
          have k1 := lcs_drop_le xs ys (i + 1) j
          have k2 := lcs_drop_le xs ys i (j + 1)
          generalize lcs (xs.drop (i + 1)) (ys.drop j) = p1 at *
          generalize lcs (xs.drop i) (ys.drop (j + 1)) = p2 at *
          have Hcm2 := Lib.hid hcm
          have z1 : (i : Int) + 1 < n := by omega
          have z2 : (i : Int) < n := by omega
          have z3 : (j : Int) + 1 < m := by omega
          have z4 : (j : Int) < m := by omega
          have q1 : (0 : Int) ≤ (i : Int) + 1 := by omega
          have q3 : (0 : Int) ≤ (j : Int) + 1 := by omega
          have q9 : ((i : Int) + 1).toNat = i + 1 := by omega
          have q10 : ((j : Int) + 1).toNat = j + 1 := by omega
          have u1 : IntKind.i64.wrap ((i : Int) + 1) = (i : Int) + 1 := IntWalk.i64_in _ (by omega)
          have u2 : IntKind.i64.wrap ((j : Int) + 1) = (j : Int) + 1 := IntWalk.i64_in _ (by omega)
          clear hM Hcm hcm hnn hmm
          go_upto_region 5 with fail
          refine wp_region_quiet_tail 8 (by kernel_rfl) (by kernel_rfl) ?_
          simp only [List.take_succ_cons, List.take_zero, List.drop_succ_cons, List.drop_zero]
          repeat (go_big_quiet_step (fail))
          refine wpQuiet_nil ?_
          rintro _ ⟨nq, rfl⟩
          have hq := Pr.drewN wr nq
          go_upto_region 9 with (first | (go_at_call 22; (with_reducible refine Calls.mono (S1.out _ (Hp4.out.trans hq)) ?_); rintro e w5 ⟨rfl, hb5⟩))
          have hq5 : Pr wr w5 := hq.trans hb5
          have s1 := s1 _ hq5; have s2 := s2 _ hq5; have v1 := v1 _ hq5; have v2 := v2 _ hq5
          have hown5 := hown.pr hq5
          have hp5 := hb.trans hq5
          clear hq hq5 hb5 x0 x1 y0 y1 hown hb
          by_cases hle : p2 ≤ p1
          · have d1 : decide ((p2 : Int) ≤ p1) = true := by simp; omega
            have d2 : decide (p2 ≤ p1) = true := by simp; omega
            have HC := Lib.hid (Hcm2.out.trans (if_pos hle))
            clear hle Hcm2
            go_quiet (fail)
            go_wp2_with fail
            refine ⟨⟨i + 1, j, L, by omega, hj, by go_num, rfl, by rw [HL.out, HC.out], hown5.pr (Pr.drewN _ _), by omega, hp5.drewN' _⟩, ?_⟩
            simp [intOf]; omega
          · have d1 : decide ((p2 : Int) ≤ p1) = false := by simp; omega
            have d2 : decide (p2 ≤ p1) = false := by simp; omega
            have HC := Lib.hid (Hcm2.out.trans (if_neg hle))
            clear hle Hcm2
            go_quiet (fail)
            go_wp2_with fail
            refine ⟨⟨i, j + 1, L, hi, by omega, rfl, by go_num, by rw [HL.out, HC.out], hown5.pr (Pr.drewN _ _), hLl, hp5.drewN' _⟩, ?_⟩
            simp [intOf]; omega
        case true =>
          have hcm := Hcm.out
          rw [if_pos rfl] at hcm
          have HC := Lib.hid hcm
          have hll := pz_length L
          clear hcm Hcm hnn hmm
          go_upto_region 5 with fail
          refine wp_region_quiet_tail 8 (by kernel_rfl) (by kernel_rfl) ?_
          simp only [List.take_succ_cons, List.take_zero, List.drop_succ_cons, List.drop_zero]
          repeat (go_big_quiet_step (fail))
          refine wpQuiet_nil ?_
          rintro _ ⟨nq, rfl⟩
          have hq := Pr.drewN wr nq
          go_wp2_with (first
            | (go_at_call 22; (with_reducible refine Calls.mono (S1.out _ (Hp4.out.trans hq)) ?_); rintro e w5 ⟨rfl, hb5⟩)
            | (at_builtin; go_must (refine app_pair rfl _ _ rfl w2.heap.size _ _ rfl ((hown.pr (hq.trans hb5)).pr (Pr.alloc _ _)) w5.heap.size rfl ((i : Int), (j : Int)) (heap_alloc_new w5 _) (by omega) (by have := hb.size; have := hq.size; have := hb5.size; simp; omega) ?_); intro v6 w6 ho6 hg6 hd6))
          refine ⟨⟨i + 1, j + 1, L ++ [(i, j)], by omega, by omega, by go_num, by go_num, by rw [HL.out, HC.out]; simp, by rw [pz_append]; exact ho6, by simp; omega, ?_⟩, ?_⟩
          · refine Below.grown ((hb.trans (hq.trans hb5)).alloc' _) hg6 ?_ ?_
            · have := hb.size; have := hq.size; have := hb5.size; simp; omega
            · intro k hk; exact (hown.block k hk).1
          · simp [intOf]; omega
      · have hc := HL.out
        rw [List.drop_of_length_le (by omega : ys.length ≤ j), com_nil_right, List.append_nil] at hc
        have HC := Lib.hid hc
        clear hc
        go_wp2_with fail
        go_ret
        exact ⟨_, rfl, by rw [HC.out]; exact hown.mono Hb0.out.size, Hb0.out.trans hb⟩
    · have hc := HL.out
      rw [List.drop_of_length_le (by omega : xs.length ≤ i), com_nil, List.append_nil] at hc
      have HC := Lib.hid hc
      clear hc
      go_wp2_with fail
      go_ret
      exact ⟨_, rfl, by rw [HC.out]; exact hown.mono Hb0.out.size, Hb0.out.trans hb⟩
end Go.Proofs.Ytdbnfhpgmcjngab
