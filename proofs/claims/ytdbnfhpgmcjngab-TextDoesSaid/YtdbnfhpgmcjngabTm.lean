/- Walks: pleachingref.Parse. -/
import Derived.Test.YtdbnfhpgmcjngabTl
namespace Go.Proofs.Ytdbnfhpgmcjngab
open Go Go.RowKit

set_option maxRecDepth 100000 in
set_option maxHeartbeats 3200000 in
theorem rparse_any (s : ByteArray) (w : World) (hs : s.size ≤ maxLen) :
    Calls Try.prog 21 #[.string s] w (ParsePost (parseP s.data.toList) w) := by
  unfold maxLen at hs
  obtain ⟨r, hr⟩ : ∃ r, r = parseP s.data.toList := ⟨_, rfl⟩
  rw [← hr]
  have FF := Lib.hid fun (c a : Int) (W' : World) => rF_any c a W'
  by_cases hbig : 2000 < s.size
  · have hno : r = (Tr.zero, 2, -1) := by rw [hr]; unfold parseP; rw [if_pos (by rw [size_list]; exact hbig)]
    have Hno := Lib.hid hno
    have hb1 : (2000 : Int) < s.size := by omega
    obtain ⟨W, hW⟩ : ∃ W, W = (w.alloc (.cells #[.string ⟨#[]⟩, .slice none 0 0] 24)).alloc (.cells #[.int .i64 0, .int .i64 0] 33) := ⟨_, rfl⟩
    have hwW : Pr w W := by rw [hW]; exact (Pr.alloc _ _).alloc' _
    have hWs : W.heap.size = w.heap.size + 2 := by rw [hW]; simp
    have hA : W.heap[w.heap.size]? = some (.cells #[.string ⟨#[]⟩, .slice none 0 0] 24 (0, 0)) := by rw [hW]; exact (Pr.alloc _ _).blk (heap_alloc_new _ _)
    have hB : W.heap[w.heap.size + 1]? = some (.cells #[.int .i64 0, .int .i64 0] 33 (0, 0)) := by
      rw [hW]; simpa using heap_alloc_new (w.alloc (.cells #[.string ⟨#[]⟩, .slice none 0 0] 24)) (.cells #[.int .i64 0, .int .i64 0] 33)
    have HA := Lib.hid hA; have HB := Lib.hid hB; have HW := Lib.hid hwW
    clear hr hno hA hB hwW
    go_enter Try.func21, Try.ntmps21
    go_upto_region 1 with fail
    rw [← hW]; clear hW
    go_wp2_with (go_at_call 53; (with_reducible refine Calls.mono (FF.out _ _ _) ?_); rintro e w1 ⟨rfl, hp⟩
                 have hA1 := Lib.hid (hp.blk HA.out); have hB1 := Lib.hid (hp.blk HB.out)
                 have s00 := blk_frozen (o := 0) hA1.out; have s01 := blk_frozen (o := 1) hA1.out; have s10 := blk_cell (o := 0) hA1.out; have s11 := blk_cell (o := 1) hA1.out
                 have t00 := blk_frozen (o := 0) hB1.out; have t01 := blk_frozen (o := 1) hB1.out; have t10 := blk_cell (o := 0) hB1.out; have t11 := blk_cell (o := 1) hB1.out)
    obtain ⟨x0, x1⟩ := catch_blocks hA1.out hB1.out (by omega) (.string ⟨#[]⟩) (.slice none 0 0) (.int .i64 2) (.int .i64 (-1))
    obtain ⟨wz, hwz⟩ : ∃ wz, wz = (((w1.setCell ⟨w.heap.size, 0, none⟩ (.string ⟨#[]⟩)).setCell ⟨w.heap.size, 1, none⟩ (.slice none 0 0)).setCell ⟨w.heap.size + 1, 0, none⟩ (.int .i64 2)).setCell ⟨w.heap.size + 1, 1, none⟩ (.int .i64 (-1)) := ⟨_, rfl⟩
    have y0 : wz.cell? ⟨w.heap.size, 0, none⟩ = some (.string ⟨#[]⟩) := by rw [hwz]; exact blk_cell (o := 0) x0
    have y1 : wz.cell? ⟨w.heap.size, 1, none⟩ = some (.slice none 0 0) := by rw [hwz]; exact blk_cell (o := 1) x0
    have y2 : wz.cell? ⟨w.heap.size + 1, 0, none⟩ = some (.int .i64 2) := by rw [hwz]; exact blk_cell (o := 0) x1
    have y3 : wz.cell? ⟨w.heap.size + 1, 1, none⟩ = some (.int .i64 (-1)) := by rw [hwz]; exact blk_cell (o := 1) x1
    have hpz : Pr w wz := by rw [hwz]; exact ((((HW.out.trans hp).setCell (by simp) _).setCell (by simp) _).setCell (by simp) _).setCell (by simp) _
    rw [← hwz]
    clear hwz
    refine bodyPost_ret (v := .tuple #[.agg #[(.string ⟨#[]⟩), (.slice none 0 0)], .agg #[(.int .i64 2), (.int .i64 (-1))]]) (by simp [results, Try.results21, go_sem, y0, y1, y2, y3]) rfl ?_
    exact ParsePost.no Hno.out hpz
  rw [parseP_small (by rw [size_list]; exact hbig), size_list] at hr
  have hfew : s.size ≤ 2000 := by omega
  have hb1 : decide ((2000 : Int) < s.size) = false := by simp; omega
  obtain ⟨W, hW⟩ : ∃ W, W = ((w.alloc (.cells #[.string ⟨#[]⟩, .slice none 0 0] 24)).alloc (.cells #[.int .i64 0, .int .i64 0] 33)).alloc (.cells #[.string s, .int .i64 0, .int .i64 0, .int .i64 0] 88) := ⟨_, rfl⟩
  have hwW : Pr w W := by rw [hW]; exact ((Pr.alloc _ _).alloc' _).alloc' _
  have hWs : W.heap.size = w.heap.size + 3 := by rw [hW]; simp
  have hA : W.heap[w.heap.size]? = some (.cells #[.string ⟨#[]⟩, .slice none 0 0] 24 (0, 0)) := by
    rw [hW]; exact ((Pr.alloc _ _).alloc' _).blk (heap_alloc_new _ _)
  have hB : W.heap[w.heap.size + 1]? = some (.cells #[.int .i64 0, .int .i64 0] 33 (0, 0)) := by
    rw [hW]; exact (Pr.alloc _ _).blk (by simpa using heap_alloc_new (w.alloc (.cells #[.string ⟨#[]⟩, .slice none 0 0] 24)) (.cells #[.int .i64 0, .int .i64 0] 33))
  have hM : W.heap[w.heap.size + 1 + 1]? = some (.cells #[.string s, .int .i64 0, .int .i64 0, .int .i64 0] 88 (0, 0)) := by
    rw [hW]; simpa using heap_alloc_new ((w.alloc (.cells #[.string ⟨#[]⟩, .slice none 0 0] 24)).alloc (.cells #[.int .i64 0, .int .i64 0] 33)) (.cells #[.string s, .int .i64 0, .int .i64 0, .int .i64 0] 88)
  have hP : RD W (w.heap.size + 1 + 1) s 0 := ⟨hM, Nat.zero_le _, by omega⟩
  have T := rtree_any W (w.heap.size + 1 + 1) s 0 0 (by omega) hP
  rw [show ((0 : Nat) : Int) = 0 from rfl, sl_zero] at T
  have Hr := Lib.hid hr; have HA := Lib.hid hA; have HB := Lib.hid hB; have HW := Lib.hid hwW
  clear hr hA hB hwW hM hP
  generalize parseT s.data.toList 0 = Y at *
  have T1 := Lib.hid T
  clear T
  go_enter Try.func21, Try.ntmps21
  go_upto_region 4 with fail
  rw [← hW]
  clear hW
  go_upto_region 5 with (go_at_call 54; (with_reducible refine Calls.mono T1.out ?_); rintro e w4 ⟨l, ks, oa, cap, k4, c4, p4, rfl, hl4, hk4, hP4, hc4, hok4⟩)
  obtain ⟨V, hV⟩ : ∃ V, V = w4.alloc (.cells #[.string l, .slice oa ks.length cap] 24) := ⟨_, rfl⟩
  have hwV : Pr w4 V := by rw [hV]; exact Pr.alloc _ _
  have hV5 : V.heap[w4.heap.size]? = some (.cells #[.string l, .slice oa ks.length cap] 24 (0, 0)) := by rw [hV]; exact heap_alloc_new _ _
  have hs4 := hc4.size
  have HPR4 := Lib.hid ((Chg.over hc4 HW.out (fun k hk => by omega)).trans hwV)
  have HA4 := Lib.hid (hwV.blk (hc4.blk HA.out (by omega))); have HB4 := Lib.hid (hwV.blk (hc4.blk HB.out (by omega)))
  have HS4 := Lib.hid (hP4.pr hwV)
  have HK4 := Lib.hid ((hk4.pr hwV).from (m := w.heap.size) (by omega)); have HV5 := Lib.hid hV5; have HL4 := Lib.hid hl4
  have HK4W := Lib.hid (hk4.pr hwV)
  have hwVs := hwV.size
  rw [← hV]
  clear hV hwV hV5 hP4 hc4 hk4 hl4 T1 HA HB HW
  have hle4 := HS4.out.le
  rcases Y with q | y
  · obtain ⟨hq1, hq2, hq3⟩ := hok4
    have hr : r = (Tr.zero, (q.1 : Int), (s.size : Int) - (q.2.length : Int)) := Hr.out
    rw [← hq1, ← hq2] at hr
    have HR9 := Lib.hid hr
    have hc0 : c4 ≠ 0 := by omega
    have e9 : (c4 != 0) = true := by simpa [bne_iff_ne] using hc0
    have B5 := Lib.hid (rblanks_later V _ s k4 c4 p4 HS4.out hc0)
    have WL := Lib.hid fun (c' : Int) (W' : World) (h : Pr V W') => rwrong_later W' _ s k4 c4 c' p4 (HS4.out.pr h) hc0
    have b1 := stays HS4.out.c1; have b2 := stays HS4.out.c2
    clear hq1 hq2 hq3 hr hc0 Hr
    by_cases hat : k4 < s.size
    case pos =>
      have d1 : decide ((k4 : Int) < (s.size : Int)) = true := by simp; omega
      have d2 : decide (k4 < s.size) = true := by simp; omega
      go_upto_region 9 with (first
        | (go_at_call 55; (with_reducible refine Calls.mono B5.out ?_); rintro e w5 ⟨rfl, hp⟩; have x1 := b1 _ hp)
        | (go_at_call 56; (with_reducible refine Calls.mono (WL.out _ _ hp) ?_); rintro e w6 ⟨rfl, hb⟩; have hp := hp.trans hb; have x2 := b2 _ hp))
      have HA9 := Lib.hid (hp.blk HA4.out); have HB9 := Lib.hid (hp.blk HB4.out); have HS9 := Lib.hid (HS4.out.pr hp); have HPR9 := Lib.hid (HPR4.out.trans hp)
      have hA9 := HA9.out; have hB9 := HB9.out
      have e0 := blk_cell (o := 0) hA9; have e1 := blk_cell (o := 1) hA9; have e2 := blk_cell (o := 0) hB9; have e3 := blk_cell (o := 1) hB9
      have f0 := blk_frozen (o := 0) hA9; have f1 := blk_frozen (o := 1) hA9; have f2 := blk_frozen (o := 0) hB9; have f3 := blk_frozen (o := 1) hB9
      have m2 := HS9.out.c2; have m3 := HS9.out.c3
      have ne1 : ¬ w.heap.size = w.heap.size + 1 := by omega
      have hfin := fun (x y z u : Value) => catch_blocks hA9 hB9 (by omega) x y z u
      have hc9 := fun (x y z u : Value) => (((((HPR9.out).setCell (p := ⟨w.heap.size, 0, none⟩) (Nat.le_refl _) x).setCell (p := ⟨w.heap.size, 1, none⟩) (Nat.le_refl _) y).setCell (p := ⟨w.heap.size + 1, 0, none⟩) (by simp) z).setCell (p := ⟨w.heap.size + 1, 1, none⟩) (by simp) u).drew'
      have Hfin := Lib.hid hfin; have Hc9 := Lib.hid hc9
      clear hfin hc9 hA9 hB9
      go_region
      all_goals
        go_wp2_with fail
        obtain ⟨wz, hwz⟩ : ∃ wz, wz = ((((w6.setCell ⟨w.heap.size, 0, none⟩ (.string ⟨#[]⟩)).setCell ⟨w.heap.size, 1, none⟩ (.slice none 0 0)).setCell ⟨w.heap.size + 1, 0, none⟩ (.int .i64 c4)).setCell ⟨w.heap.size + 1, 1, none⟩ (.int .i64 p4)).drew := ⟨_, rfl⟩
        have z0 : wz.cell? ⟨w.heap.size, 0, none⟩ = some (.string ⟨#[]⟩) := by rw [hwz]; exact blk_cell (o := 0) (Hfin.out _ _ _ _).1
        have z1 : wz.cell? ⟨w.heap.size, 1, none⟩ = some (.slice none 0 0) := by rw [hwz]; exact blk_cell (o := 1) (Hfin.out _ _ _ _).1
        have z2 : wz.cell? ⟨w.heap.size + 1, 0, none⟩ = some (.int .i64 c4) := by rw [hwz]; exact blk_cell (o := 0) (Hfin.out _ _ _ _).2
        have z3 : wz.cell? ⟨w.heap.size + 1, 1, none⟩ = some (.int .i64 p4) := by rw [hwz]; exact blk_cell (o := 1) (Hfin.out _ _ _ _).2
        have hpz : Pr w wz := by rw [hwz]; exact Hc9.out _ _ _ _
        rw [← hwz]
        clear hwz
        refine bodyPost_ret (v := .tuple #[.agg #[.string ⟨#[]⟩, .slice none 0 0], .agg #[.int .i64 c4, .int .i64 p4]]) (by simp [results, Try.results21, go_sem, z0, z1, z2, z3]) rfl ?_
        exact ParsePost.no HR9.out hpz
    case neg =>
      have d1 : decide ((k4 : Int) < (s.size : Int)) = false := by simp; omega
      have d2 : decide (k4 < s.size) = false := by simp; omega
      go_upto_region 9 with (first
        | (go_at_call 55; (with_reducible refine Calls.mono B5.out ?_); rintro e w5 ⟨rfl, hp⟩; have x1 := b1 _ hp; have x2 := b2 _ hp))
      have HA9 := Lib.hid (hp.blk HA4.out); have HB9 := Lib.hid (hp.blk HB4.out); have HS9 := Lib.hid (HS4.out.pr hp); have HPR9 := Lib.hid (HPR4.out.trans hp)
      have hA9 := HA9.out; have hB9 := HB9.out
      have e0 := blk_cell (o := 0) hA9; have e1 := blk_cell (o := 1) hA9; have e2 := blk_cell (o := 0) hB9; have e3 := blk_cell (o := 1) hB9
      have f0 := blk_frozen (o := 0) hA9; have f1 := blk_frozen (o := 1) hA9; have f2 := blk_frozen (o := 0) hB9; have f3 := blk_frozen (o := 1) hB9
      have m2 := HS9.out.c2; have m3 := HS9.out.c3
      have ne1 : ¬ w.heap.size = w.heap.size + 1 := by omega
      have hfin := fun (x y z u : Value) => catch_blocks hA9 hB9 (by omega) x y z u
      have hc9 := fun (x y z u : Value) => (((((HPR9.out).setCell (p := ⟨w.heap.size, 0, none⟩) (Nat.le_refl _) x).setCell (p := ⟨w.heap.size, 1, none⟩) (Nat.le_refl _) y).setCell (p := ⟨w.heap.size + 1, 0, none⟩) (by simp) z).setCell (p := ⟨w.heap.size + 1, 1, none⟩) (by simp) u).drew'
      have Hfin := Lib.hid hfin; have Hc9 := Lib.hid hc9
      clear hfin hc9 hA9 hB9
      go_region
      all_goals
        go_wp2_with fail
        obtain ⟨wz, hwz⟩ : ∃ wz, wz = ((((w5.setCell ⟨w.heap.size, 0, none⟩ (.string ⟨#[]⟩)).setCell ⟨w.heap.size, 1, none⟩ (.slice none 0 0)).setCell ⟨w.heap.size + 1, 0, none⟩ (.int .i64 c4)).setCell ⟨w.heap.size + 1, 1, none⟩ (.int .i64 p4)).drew := ⟨_, rfl⟩
        have z0 : wz.cell? ⟨w.heap.size, 0, none⟩ = some (.string ⟨#[]⟩) := by rw [hwz]; exact blk_cell (o := 0) (Hfin.out _ _ _ _).1
        have z1 : wz.cell? ⟨w.heap.size, 1, none⟩ = some (.slice none 0 0) := by rw [hwz]; exact blk_cell (o := 1) (Hfin.out _ _ _ _).1
        have z2 : wz.cell? ⟨w.heap.size + 1, 0, none⟩ = some (.int .i64 c4) := by rw [hwz]; exact blk_cell (o := 0) (Hfin.out _ _ _ _).2
        have z3 : wz.cell? ⟨w.heap.size + 1, 1, none⟩ = some (.int .i64 p4) := by rw [hwz]; exact blk_cell (o := 1) (Hfin.out _ _ _ _).2
        have hpz : Pr w wz := by rw [hwz]; exact Hc9.out _ _ _ _
        rw [← hwz]
        clear hwz
        refine bodyPost_ret (v := .tuple #[.agg #[.string ⟨#[]⟩, .slice none 0 0], .agg #[.int .i64 c4, .int .i64 p4]]) (by simp [results, Try.results21, go_sem, z0, z1, z2, z3]) rfl ?_
        exact ParsePost.no HR9.out hpz
  · obtain ⟨hy, hc0, hp0, hk4, -⟩ := hok4
    subst hc0
    subst hp0
    obtain ⟨t, rest⟩ := y
    subst hy
    have hr : r = if skip rest ≠ [] then (Tr.zero, 6, (s.size : Int) - (skip rest).length) else if fault (.node l ks) ≠ 0 then (Tr.zero, (fault (.node l ks) : Int), -1) else (.node l ks, 0, 0) := Hr.out
    have H2 := Lib.hid hr
    have B5 := rblanks_any V _ s k4 HS4.out
    rw [show sl s k4 = rest from hk4] at B5
    have HB5 := Lib.hid B5
    clear Hr hr B5 hk4
    go_upto_region 6 with (go_at_call 55; (with_reducible refine Calls.mono HB5.out ?_); rintro e w5 ⟨rfl, k5, hk5, hP5, hc5⟩)
    have hs5 := hc5.size
    have HA5 := Lib.hid (hc5.blk HA4.out (by omega)); have HB5' := Lib.hid (hc5.blk HB4.out (by omega)); have HV55 := Lib.hid (hc5.blk HV5.out (by omega))
    have HPR5 := Lib.hid (Chg.over hc5 HPR4.out (fun k hk => by omega))
    have HK5 : Hid (Kids (From W.heap.size) w5 ks oa cap) := Lib.hid (HK4W.out.carry fun j hj hl => ⟨hc5.block j hl (by have hj' : W.heap.size ≤ j := hj; omega), hj⟩)
    have hle5 := hP5.le
    have x1 := hP5.c1; have x2 := hP5.c2
    have HS5 := Lib.hid hP5
    have hl5 := sl_length s k5
    clear hP5 hc5 HA4 HB4 HV5 HS4 HK4 HK4W
    by_cases hend : k5 = s.size
    case neg =>
      have hne : skip rest ≠ [] := by rw [← hk5, sl_cons (by omega)]; simp
      have hr : r = (Tr.zero, 6, (k5 : Int)) := by
        rw [H2.out, if_pos hne, ← hk5]; congr 2; omega
      have HR9 := Lib.hid hr
      have d1 : decide ((k5 : Int) < (s.size : Int)) = true := by simp; omega
      have d2 : decide (k5 < s.size) = true := by simp; omega
      have W1 := Lib.hid (rwrong_first w5 _ s k5 6 HS5.out)
      clear hne hr H2 hk5 hend
      go_upto_region 8 with (go_at_call 56; (with_reducible refine Calls.mono W1.out ?_); rintro e w6 ⟨rfl, hP6, hc6⟩)
      have HA9 := Lib.hid (hc6.blk HA5.out (by omega)); have HB9 := Lib.hid (hc6.blk HB5'.out (by omega)); have HS9 := Lib.hid hP6; have HPR9 := Lib.hid (Chg.over hc6 HPR5.out (fun k hk => by omega))
      have x22 := hP6.c2
      clear hP6 hc6 x1 x2
      go_upto_region 9 with fail
      have hA9 := HA9.out; have hB9 := HB9.out
      have e0 := blk_cell (o := 0) hA9; have e1 := blk_cell (o := 1) hA9; have e2 := blk_cell (o := 0) hB9; have e3 := blk_cell (o := 1) hB9
      have f0 := blk_frozen (o := 0) hA9; have f1 := blk_frozen (o := 1) hA9; have f2 := blk_frozen (o := 0) hB9; have f3 := blk_frozen (o := 1) hB9
      have m2 := HS9.out.c2; have m3 := HS9.out.c3
      have ne1 : ¬ w.heap.size = w.heap.size + 1 := by omega
      have hfin := fun (x y z u : Value) => catch_blocks hA9 hB9 (by omega) x y z u
      have hc9 := fun (x y z u : Value) => (((((HPR9.out).setCell (p := ⟨w.heap.size, 0, none⟩) (Nat.le_refl _) x).setCell (p := ⟨w.heap.size, 1, none⟩) (Nat.le_refl _) y).setCell (p := ⟨w.heap.size + 1, 0, none⟩) (by simp) z).setCell (p := ⟨w.heap.size + 1, 1, none⟩) (by simp) u).drew'
      have Hfin := Lib.hid hfin; have Hc9 := Lib.hid hc9
      clear hfin hc9 hA9 hB9
      go_region
      all_goals
        go_wp2_with fail
        obtain ⟨wz, hwz⟩ : ∃ wz, wz = ((((w6.setCell ⟨w.heap.size, 0, none⟩ (.string ⟨#[]⟩)).setCell ⟨w.heap.size, 1, none⟩ (.slice none 0 0)).setCell ⟨w.heap.size + 1, 0, none⟩ (.int .i64 6)).setCell ⟨w.heap.size + 1, 1, none⟩ (.int .i64 k5)).drew := ⟨_, rfl⟩
        have z0 : wz.cell? ⟨w.heap.size, 0, none⟩ = some (.string ⟨#[]⟩) := by rw [hwz]; exact blk_cell (o := 0) (Hfin.out _ _ _ _).1
        have z1 : wz.cell? ⟨w.heap.size, 1, none⟩ = some (.slice none 0 0) := by rw [hwz]; exact blk_cell (o := 1) (Hfin.out _ _ _ _).1
        have z2 : wz.cell? ⟨w.heap.size + 1, 0, none⟩ = some (.int .i64 6) := by rw [hwz]; exact blk_cell (o := 0) (Hfin.out _ _ _ _).2
        have z3 : wz.cell? ⟨w.heap.size + 1, 1, none⟩ = some (.int .i64 k5) := by rw [hwz]; exact blk_cell (o := 1) (Hfin.out _ _ _ _).2
        have hpz : Pr w wz := by rw [hwz]; exact Hc9.out _ _ _ _
        rw [← hwz]
        clear hwz
        refine bodyPost_ret (v := .tuple #[.agg #[.string ⟨#[]⟩, .slice none 0 0], .agg #[.int .i64 6, .int .i64 k5]]) (by simp [results, Try.results21, go_sem, z0, z1, z2, z3]) rfl ?_
        exact ParsePost.no HR9.out hpz
    case pos =>
      have hsk : skip rest = [] := by rw [← hk5, sl_end (by omega)]
      have hr : r = if fault (.node l ks) ≠ 0 then (Tr.zero, (fault (.node l ks) : Int), -1) else (.node l ks, 0, 0) := by rw [H2.out, if_neg (by simp [hsk])]
      have d1 : decide ((k5 : Int) < (s.size : Int)) = false := by simp; omega
      have d2 : decide (k5 < s.size) = false := by simp; omega
      have a0 : w5.cell? ⟨w4.heap.size, 0, none⟩ = some (.string l) := blk_cell HV55.out
      have a1 : w5.cell? ⟨w4.heap.size, 1, none⟩ = some (.slice oa ks.length cap) := blk_cell HV55.out
      have hcc := fun W' (h : Pr w5 W') => treeFault_any l ks oa cap W' HL4.out (HK5.out.any.pr h)
      obtain ⟨n, hn⟩ : ∃ n, n = fault (.node l ks) := ⟨_, rfl⟩
      rw [← hn] at hcc hr
      have C5 := Lib.hid hcc
      have Hr := Lib.hid hr
      clear hcc hn hr hsk H2 hk5 hend
      by_cases hz : n = 0
      case pos =>
        have e1 : ((n : Int) != 0) = false := by simp [hz]
        have hr : r = (.node l ks, 0, 0) := by rw [Hr.out, if_neg (by simpa using hz)]
        have Hr2 := Lib.hid hr
        clear hz hr Hr
        go_wp2_with (go_at_call 18; (with_reducible refine Calls.mono (C5.out _ (Pr.refl _)) ?_); rintro e w8 ⟨rfl, hb8⟩; have hA8 := Lib.hid (hb8.blk HA5.out); have hB8 := Lib.hid (hb8.blk HB5'.out); have hV8 := Lib.hid (hb8.blk HV55.out)
                     have v0 := blk_cell (o := 0) hV8.out; have v1 := blk_cell (o := 1) hV8.out
                     have s00 := blk_frozen (o := 0) hA8.out; have s01 := blk_frozen (o := 1) hA8.out; have s10 := blk_cell (o := 0) hA8.out; have s11 := blk_cell (o := 1) hA8.out
                     have t00 := blk_frozen (o := 0) hB8.out; have t01 := blk_frozen (o := 1) hB8.out; have t10 := blk_cell (o := 0) hB8.out; have t11 := blk_cell (o := 1) hB8.out)
        obtain ⟨x0, x1⟩ := catch_blocks hA8.out hB8.out (by omega) (.string l) (.slice oa ks.length cap) (.int .i64 0) (.int .i64 0)
        obtain ⟨wz, hwz⟩ : ∃ wz, wz = (((w8.setCell ⟨w.heap.size, 0, none⟩ (.string l)).setCell ⟨w.heap.size, 1, none⟩ (.slice oa ks.length cap)).setCell ⟨w.heap.size + 1, 0, none⟩ (.int .i64 0)).setCell ⟨w.heap.size + 1, 1, none⟩ (.int .i64 0) := ⟨_, rfl⟩
        have y0 : wz.cell? ⟨w.heap.size, 0, none⟩ = some (.string l) := by rw [hwz]; exact blk_cell (o := 0) x0
        have y1 : wz.cell? ⟨w.heap.size, 1, none⟩ = some (.slice oa ks.length cap) := by rw [hwz]; exact blk_cell (o := 1) x0
        have y2 : wz.cell? ⟨w.heap.size + 1, 0, none⟩ = some (.int .i64 0) := by rw [hwz]; exact blk_cell (o := 0) x1
        have y3 : wz.cell? ⟨w.heap.size + 1, 1, none⟩ = some (.int .i64 0) := by rw [hwz]; exact blk_cell (o := 1) x1
        have hpz : Pr w wz := by rw [hwz]; exact ((((HPR5.out.trans hb8).setCell (by simp) _).setCell (by simp) _).setCell (by simp) _).setCell (by simp) _
        have hk8 : Kids (From W.heap.size) wz ks oa cap := by
          rw [hwz]; exact ((((HK5.out.pr hb8).setCell _ _ (by show ¬ W.heap.size ≤ _; simp; omega)).setCell _ _ (by show ¬ W.heap.size ≤ _; simp; omega)).setCell _ _ (by show ¬ W.heap.size ≤ _; simp; omega)).setCell _ _ (by show ¬ W.heap.size ≤ _; simp; omega)
        rw [← hwz]
        clear hwz
        refine bodyPost_ret (v := .tuple #[.agg #[(.string l), (.slice oa ks.length cap)], .agg #[(.int .i64 0), (.int .i64 0)]]) (by simp [results, Try.results21, go_sem, y0, y1, y2, y3]) rfl ?_
        rw [Hr2.out]; exact ⟨l, ks, oa, cap, rfl, HL4.out, rfl, hk8.from (by omega), hpz⟩
      case neg =>
        have e1 : ((n : Int) != 0) = true := by simp [bne_iff_ne]; omega
        have hr : r = (Tr.zero, (n : Int), -1) := by rw [Hr.out, if_pos hz]
        have Hr2 := Lib.hid hr
        clear hz hr Hr
        go_wp2_with (first
          | (go_at_call 18; (with_reducible refine Calls.mono (C5.out _ (Pr.refl _)) ?_); rintro e w7 ⟨rfl, hb7⟩)
          | (go_at_call 53; (with_reducible refine Calls.mono (FF.out _ _ _) ?_); rintro e w8 ⟨rfl, hb8⟩; have hb8 := hb7.trans hb8; have hA8 := Lib.hid (hb8.blk HA5.out); have hB8 := Lib.hid (hb8.blk HB5'.out)
             have s00 := blk_frozen (o := 0) hA8.out; have s01 := blk_frozen (o := 1) hA8.out; have s10 := blk_cell (o := 0) hA8.out; have s11 := blk_cell (o := 1) hA8.out
             have t00 := blk_frozen (o := 0) hB8.out; have t01 := blk_frozen (o := 1) hB8.out; have t10 := blk_cell (o := 0) hB8.out; have t11 := blk_cell (o := 1) hB8.out))
        obtain ⟨x0, x1⟩ := catch_blocks hA8.out hB8.out (by omega) (.string ⟨#[]⟩) (.slice none 0 0) (.int .i64 n) (.int .i64 (-1))
        obtain ⟨wz, hwz⟩ : ∃ wz, wz = (((w8.setCell ⟨w.heap.size, 0, none⟩ (.string ⟨#[]⟩)).setCell ⟨w.heap.size, 1, none⟩ (.slice none 0 0)).setCell ⟨w.heap.size + 1, 0, none⟩ (.int .i64 n)).setCell ⟨w.heap.size + 1, 1, none⟩ (.int .i64 (-1)) := ⟨_, rfl⟩
        have y0 : wz.cell? ⟨w.heap.size, 0, none⟩ = some (.string ⟨#[]⟩) := by rw [hwz]; exact blk_cell (o := 0) x0
        have y1 : wz.cell? ⟨w.heap.size, 1, none⟩ = some (.slice none 0 0) := by rw [hwz]; exact blk_cell (o := 1) x0
        have y2 : wz.cell? ⟨w.heap.size + 1, 0, none⟩ = some (.int .i64 n) := by rw [hwz]; exact blk_cell (o := 0) x1
        have y3 : wz.cell? ⟨w.heap.size + 1, 1, none⟩ = some (.int .i64 (-1)) := by rw [hwz]; exact blk_cell (o := 1) x1
        have hpz : Pr w wz := by rw [hwz]; exact ((((HPR5.out.trans hb8).setCell (by simp) _).setCell (by simp) _).setCell (by simp) _).setCell (by simp) _
        rw [← hwz]
        clear hwz
        refine bodyPost_ret (v := .tuple #[.agg #[(.string ⟨#[]⟩), (.slice none 0 0)], .agg #[(.int .i64 n), (.int .i64 (-1))]]) (by simp [results, Try.results21, go_sem, y0, y1, y2, y3]) rfl ?_
        exact ParsePost.no Hr2.out hpz
end Go.Proofs.Ytdbnfhpgmcjngab
