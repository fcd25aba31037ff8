/- The law PatchLines: its walk. -/
import Derived.Test.YtdbnfhpgmcjngadDoorPwn
namespace Go.Proofs.YtdbnfhpgmcjngadDoor
open Go Go.RowKit

theorem dee_eta (d : Dee) : (⟨d.kind, d.path, d.pos, d.many, d.lab⟩ : Dee) = d := rfl
theorem ba_no {a : ByteArray} {c : UInt8} (h : c ∉ a.data.toList) (i : Nat) (hi : i < a.size) : ((a[i].toNat : Int) == (c.toNat : Int)) = false := by
  rw [beq_eq_false_iff_ne]
  intro e
  have e2 : a[i] = c := UInt8.toNat_inj.1 (by omega)
  exact h (by rw [← e2]; exact List.getElem_mem (by rw [sizeL]; exact hi))
set_option maxRecDepth 100000 in
set_option maxHeartbeats 6400000 in
theorem patchLines_walk (ds : List Dee) (oa cap) (d : Dee) (pa pc) (f : Dee) (qa qc) (w : World) (hds : Dees Any w ds oa cap) (_ : True) (hdp : Ints Any w d.path pa pc) (_ : d.lab.size ≤ maxLen) (hfp : Ints Any w f.path qa qc) (_ : f.lab.size ≤ maxLen) (hw : Lv w) :
    Calls Tryd.prog 4 #[.slice oa ds.length cap, .agg #[.int .i64 d.kind, .slice pa d.path.length pc, .int .i64 d.pos, .int .i64 d.many, .string d.lab], .agg #[.int .i64 f.kind, .slice qa f.path.length qc, .int .i64 f.pos, .int .i64 f.many, .string f.lab]] w fun e w' => e = .returned (.bool true) ∧ Pr w w' := by
  obtain ⟨W, hW⟩ : ∃ W, W = (w.alloc (.cells #[.int .i64 d.kind, .slice pa d.path.length pc, .int .i64 d.pos, .int .i64 d.many, .string d.lab] 35)).alloc (.cells #[.int .i64 f.kind, .slice qa f.path.length qc, .int .i64 f.pos, .int .i64 f.many, .string f.lab] 35) := ⟨_, rfl⟩
  have hwW : Pr w W := by rw [hW]; exact (Pr.alloc _ _).alloc' _
  have s0 := stays (show W.cell? ⟨w.heap.size, 0, none⟩ = some (.int .i64 d.kind) by rw [hW]; simp [go_sem])
  have s1 := stays (show W.cell? ⟨w.heap.size, 1, none⟩ = some (.slice pa d.path.length pc) by rw [hW]; simp [go_sem])
  have s2 := stays (show W.cell? ⟨w.heap.size, 2, none⟩ = some (.int .i64 d.pos) by rw [hW]; simp [go_sem])
  have s3 := stays (show W.cell? ⟨w.heap.size, 3, none⟩ = some (.int .i64 d.many) by rw [hW]; simp [go_sem])
  have s4 := stays (show W.cell? ⟨w.heap.size, 4, none⟩ = some (.string d.lab) by rw [hW]; simp [go_sem])
  have t0 := stays (show W.cell? ⟨w.heap.size + 1, 0, none⟩ = some (.int .i64 f.kind) by rw [hW]; simp [go_sem])
  have t1 := stays (show W.cell? ⟨w.heap.size + 1, 1, none⟩ = some (.slice qa f.path.length qc) by rw [hW]; simp [go_sem])
  have t2 := stays (show W.cell? ⟨w.heap.size + 1, 2, none⟩ = some (.int .i64 f.pos) by rw [hW]; simp [go_sem])
  have t3 := stays (show W.cell? ⟨w.heap.size + 1, 3, none⟩ = some (.int .i64 f.many) by rw [hW]; simp [go_sem])
  have t4 := stays (show W.cell? ⟨w.heap.size + 1, 4, none⟩ = some (.string f.lab) by rw [hW]; simp [go_sem])
  have BG := Lib.hid (patchBegun_any W (hw.pr hwW))
  obtain ⟨gd, hgd⟩ : ∃ b, b = greatDs ds := ⟨_, rfl⟩
  obtain ⟨g1, hg1⟩ : ∃ b, b = greatD d.path d.lab := ⟨_, rfl⟩
  obtain ⟨g2, hg2⟩ : ∃ b, b = greatD f.path f.lab := ⟨_, rfl⟩
  have GR : ∀ W', Pr W W' → Calls Tryd.prog 6 #[.slice oa ds.length cap] W' fun e w' => e = .returned (.bool gd) ∧ Pr W' w' := fun W' h => by
    rw [hgd]; exact greatDsE_any ds oa cap W' (hds.pr (hwW.trans h))
  have G1 : ∀ W', Pr W W' → Calls Tryd.prog 10 #[.agg #[.int .i64 d.kind, .slice pa d.path.length pc, .int .i64 d.pos, .int .i64 d.many, .string d.lab]] W' fun e w' => e = .returned (.bool g1) ∧ Pr W' w' := fun W' h => by
    rw [hg1]; exact greatDeed_any d.kind d.path d.pos d.many d.lab pa pc W' (Flat.pr (hwW.trans h) hdp)
  have G2 : ∀ W', Pr W W' → Calls Tryd.prog 10 #[.agg #[.int .i64 f.kind, .slice qa f.path.length qc, .int .i64 f.pos, .int .i64 f.many, .string f.lab]] W' fun e w' => e = .returned (.bool g2) ∧ Pr W' w' := fun W' h => by
    rw [hg2]; exact greatDeed_any f.kind f.path f.pos f.many f.lab qa qc W' (Flat.pr (hwW.trans h) hfp)
  have GR := Lib.hid GR; have G1 := Lib.hid G1; have G2 := Lib.hid G2
  have HwW := Lib.hid hwW; have HDS := Lib.hid (hds.pr hwW); have HDP := Lib.hid (Flat.pr hwW hdp); have HFP := Lib.hid (Flat.pr hwW hfp); have HW := Lib.hid (hw.pr hwW)
  have Hgd := Lib.hid hgd; have Hg1 := Lib.hid hg1; have Hg2 := Lib.hid hg2
  clear hgd hg1 hg2 hwW hds hdp hfp hw
  by_cases hgr : gd = true ∨ g1 = true ∨ g2 = true
  · have h3 : gd = true ∨ (gd = false ∧ g1 = true) ∨ (gd = false ∧ g1 = false ∧ g2 = true) := by cases gd <;> cases g1 <;> cases g2 <;> simp at hgr ⊢
    clear hgr
    rcases h3 with rfl | ⟨rfl, rfl⟩ | ⟨rfl, rfl, rfl⟩
    all_goals
      go_enter Tryd.func4, Tryd.ntmps4
      go_upto_region 1 with fail
      rw [← hW]; clear hW
      go_wp2_with (first
        | (go_at_call 5; (with_reducible refine Calls.mono BG.out ?_); rintro e w1 ⟨rfl, hp⟩)
        | (go_at_call 6; (with_reducible refine Calls.mono (GR.out _ hp) ?_); rintro e w2 ⟨rfl, hp2⟩; have hp := hp.trans hp2; have x0 := s0 _ hp; have x1 := s1 _ hp; have x2 := s2 _ hp; have x3 := s3 _ hp; have x4 := s4 _ hp)
        | (go_at_call 10; (with_reducible refine Calls.mono (G1.out _ hp) ?_); rintro e w3 ⟨rfl, hp3⟩; have hp := hp.trans hp3; have x0 := t0 _ hp; have x1 := t1 _ hp; have x2 := t2 _ hp; have x3 := t3 _ hp; have x4 := t4 _ hp)
        | (go_at_call 10; (with_reducible refine Calls.mono (G2.out _ hp) ?_); rintro e w4 ⟨rfl, hp4⟩; have hp := hp.trans hp4))
      go_ret
      exact ⟨rfl, HwW.out.trans hp⟩
  · obtain ⟨rfl, rfl, rfl⟩ : gd = false ∧ g1 = false ∧ g2 = false := by cases gd <;> cases g1 <;> cases g2 <;> simp at hgr ⊢
    clear hgr
    obtain ⟨hn1, hn2⟩ := great_few Hgd.out.symm
    have hd60 : d.path.length ≤ 60 ∧ d.lab.size ≤ 100 := by
      have h3 := Hg1.out; unfold greatD at h3; simp only [Bool.false_eq, Bool.or_eq_false_iff, decide_eq_false_iff_not] at h3; omega
    have hf60 : f.path.length ≤ 60 ∧ f.lab.size ≤ 100 := by
      have h3 := Hg2.out; unfold greatD at h3; simp only [Bool.false_eq, Bool.or_eq_false_iff, decide_eq_false_iff_not] at h3; omega
    obtain ⟨a, ha⟩ : ∃ b : ByteArray, b = ⟨⟨(lineP d).1⟩⟩ := ⟨_, rfl⟩
    obtain ⟨b, hb⟩ : ∃ b : ByteArray, b = ⟨⟨(lineP f).1⟩⟩ := ⟨_, rfl⟩
    obtain ⟨c, hc⟩ : ∃ c, c = (lineP d).2 := ⟨_, rfl⟩
    obtain ⟨k, hk⟩ : ∃ c, c = (lineP f).2 := ⟨_, rfl⟩
    have L1 : ∀ W', Pr W W' → Calls Tryd.prog 11 #[.agg #[.int .i64 d.kind, .slice pa d.path.length pc, .int .i64 d.pos, .int .i64 d.many, .string d.lab]] W' fun e w' => e = .returned (.tuple #[.string a, .int .i64 (c : Int)]) ∧ Pr W' w' := fun W' h => by
      rw [ha, hc]; exact line_any d.kind d.path d.pos d.many d.lab pa pc W' (by omega) (Flat.pr h HDP.out) (by omega) (HW.out.pr h)
    have L2 : ∀ W', Pr W W' → Calls Tryd.prog 11 #[.agg #[.int .i64 f.kind, .slice qa f.path.length qc, .int .i64 f.pos, .int .i64 f.many, .string f.lab]] W' fun e w' => e = .returned (.tuple #[.string b, .int .i64 (k : Int)]) ∧ Pr W' w' := fun W' h => by
      rw [hb, hk]; exact line_any f.kind f.path f.pos f.many f.lab qa qc W' (by omega) (Flat.pr h HFP.out) (by omega) (HW.out.pr h)
    have L1 := Lib.hid L1; have L2 := Lib.hid L2
    have Ha := Lib.hid ha; have Hb := Lib.hid hb; have Hc := Lib.hid hc; have Hk := Lib.hid hk
    clear ha hb hc hk
    go_enter Tryd.func4, Tryd.ntmps4
    go_upto_region 1 with fail
    rw [← hW]; clear hW
    go_upto_if 43 with (first
      | (go_at_call 5; (with_reducible refine Calls.mono BG.out ?_); rintro e w1 ⟨rfl, hp⟩)
      | (go_at_call 6; (with_reducible refine Calls.mono (GR.out _ hp) ?_); rintro e w2 ⟨rfl, hp2⟩; have hp := hp.trans hp2; have x0 := s0 _ hp; have x1 := s1 _ hp; have x2 := s2 _ hp; have x3 := s3 _ hp; have x4 := s4 _ hp)
      | (go_at_call 10; (with_reducible refine Calls.mono (G1.out _ hp) ?_); rintro e w3 ⟨rfl, hp3⟩; have hp := hp.trans hp3; have x0 := t0 _ hp; have x1 := t1 _ hp; have x2 := t2 _ hp; have x3 := t3 _ hp; have x4 := t4 _ hp)
      | (go_at_call 10; (with_reducible refine Calls.mono (G2.out _ hp) ?_); rintro e w4 ⟨rfl, hp4⟩; have hp := hp.trans hp4; have x0 := s0 _ hp; have x1 := s1 _ hp; have x2 := s2 _ hp; have x3 := s3 _ hp; have x4 := s4 _ hp)
      | (go_at_call 11; (with_reducible refine Calls.mono (L1.out _ hp) ?_); rintro e w5 ⟨rfl, hp5⟩; have hp := hp.trans hp5; have x0 := t0 _ hp; have x1 := t1 _ hp; have x2 := t2 _ hp; have x3 := t3 _ hp; have x4 := t4 _ hp)
      | (go_at_call 11; (with_reducible refine Calls.mono (L2.out _ hp) ?_); rintro e w6 ⟨rfl, hp6⟩; have hp := hp.trans hp6))
    have Hp := Lib.hid hp
    go_cut [11] from 11 to 79 (fun _ wx => Pr W wx)
    case first =>
      by_cases hc0 : c = 0
      · obtain rfl := hc0
        have hl0 : lineC d = 0 := by
          have h3 := Hc.out; unfold lineP at h3
          by_cases h : lineC d = 0
          · exact h
          · rw [if_pos h] at h3; exact absurd h3.symm h
        have hal : a.data.toList = lineT d := by rw [Ha.out, lineP_ok hl0]
        have hno := line_no hl0
        rw [← hal] at hno
        have hdb := deed_back hl0
        rw [← hal] at hdb
        have has : a.size ≤ 2000 := by rw [← sizeL, hal]; exact line_few hl0 hd60.1 hd60.2
        have D1 : ∀ W', Pr W W' → Calls Tryd.prog 12 #[.string a] W' (DeedPost (deedIn a.data.toList) W') := fun W' h => deed_any a (by omega) W' (HW.out.pr h)
        rw [hdb] at D1
        unfold DeedPost at D1
        simp only [] at D1
        obtain ⟨q, hq⟩ : ∃ q, q = decide (d = f) := ⟨_, rfl⟩
        have S1 : ∀ W' pa' pc', Pr W W' → Ints Any W' d.path pa' pc' → Calls Tryd.prog 13 #[.agg #[.int .i64 d.kind, .slice pa' d.path.length pc', .int .i64 d.pos, .int .i64 d.many, .string d.lab], .agg #[.int .i64 d.kind, .slice pa d.path.length pc, .int .i64 d.pos, .int .i64 d.many, .string d.lab]] W' fun e w' => e = .returned (.bool true) ∧ Pr W' w' := fun W' pa' pc' h hi => by
          have := rsameDeed_any d.kind d.path d.pos d.many d.lab pa' pc' d.kind d.path d.pos d.many d.lab pa pc W' hi (Flat.pr h HDP.out)
          rwa [decide_eq_true (rfl : (⟨d.kind, d.path, d.pos, d.many, d.lab⟩ : Dee) = ⟨d.kind, d.path, d.pos, d.many, d.lab⟩)] at this
        have S2 : ∀ W', Pr W W' → Calls Tryd.prog 13 #[.agg #[.int .i64 d.kind, .slice pa d.path.length pc, .int .i64 d.pos, .int .i64 d.many, .string d.lab], .agg #[.int .i64 f.kind, .slice qa f.path.length qc, .int .i64 f.pos, .int .i64 f.many, .string f.lab]] W' fun e w' => e = .returned (.bool q) ∧ Pr W' w' := fun W' h => by
          rw [hq]
          exact rsameDeed_any d.kind d.path d.pos d.many d.lab pa pc f.kind f.path f.pos f.many f.lab qa qc W' (Flat.pr h HDP.out) (Flat.pr h HFP.out)
        have D1 := Lib.hid D1; have S1 := Lib.hid S1; have S2 := Lib.hid S2
        have hbyte : ∀ (i : Nat) (hi : i < a.size), ((a[i].toNat : Int) == 10) = false := fun i hi => ba_no hno i hi
        have Hbyte := Lib.hid hbyte; have Hal := Lib.hid hal
        have hq2 : k = 0 → (a.toList == b.toList) = q := fun e => by
          have h3 := Hk.out; unfold lineP at h3
          have hf0 : lineC f = 0 := by
            by_cases h : lineC f = 0
            · exact h
            · rw [if_pos h, e] at h3; exact absurd h3.symm h
          have hbl : b.data.toList = lineT f := by rw [Hb.out, lineP_ok hf0]
          rw [hq, ByteArray.toList_eq, ByteArray.toList_eq, Hal.out, hbl, Bool.eq_iff_iff, beq_iff_eq, decide_eq_true_iff]
          exact ⟨fun e => line_inj hl0 hf0 e, fun e => by rw [e]⟩
        have Hq2 := Lib.hid hq2
        clear hq2 hbyte hal hno hdb hl0 hq
        go_wp2_with fail
        go_loopw [11] (fun v wr => ∃ i : Nat, i ≤ a.size ∧ v = .int .i64 i ∧ Pr W wr) (fun v _ => a.size - (intOf v).toNat)
        case atStart => exact ⟨0, by omega, rfl, Hp.out⟩
        case round =>
          obtain ⟨i, hi, rfl, hpr⟩ := hrel
          by_cases hlt : i < a.size
          · have hb10 := Hbyte.out i hlt
            have hlt' : (i : Int) < a.size := by omega
            go_wp2_with fail
            refine ⟨⟨i + 1, by omega, by go_num, hpr⟩, by simp [intOf]; omega⟩
          · have n1 : decide ((i : Int) < a.size) = false := by simp; omega
            have n2 : decide (i < a.size) = false := by simp; omega
            go_upto_region 14 with (go_at_call 12; (with_reducible refine Calls.mono (D1.out _ hpr) ?_); rintro e w7 ⟨pd, pdc, rfl, hpd, _, hp7⟩)
            obtain ⟨w8, hw8⟩ : ∃ w8, w8 = w7.alloc (.cells #[.int .i64 d.kind, .slice pd d.path.length pdc, .int .i64 d.pos, .int .i64 d.many, .string d.lab] 35) := ⟨_, rfl⟩
            rw [← hw8]
            have h78 : Pr w7 w8 := by rw [hw8]; exact Pr.alloc _ _
            have b0 : w8.cell? ⟨w7.heap.size, 0, none⟩ = some (.int .i64 d.kind) := by rw [hw8]; simp [go_sem]
            have b1 : w8.cell? ⟨w7.heap.size, 1, none⟩ = some (.slice pd d.path.length pdc) := by rw [hw8]; simp [go_sem]
            have b2 : w8.cell? ⟨w7.heap.size, 2, none⟩ = some (.int .i64 d.pos) := by rw [hw8]; simp [go_sem]
            have b3 : w8.cell? ⟨w7.heap.size, 3, none⟩ = some (.int .i64 d.many) := by rw [hw8]; simp [go_sem]
            have b4 : w8.cell? ⟨w7.heap.size, 4, none⟩ = some (.string d.lab) := by rw [hw8]; simp [go_sem]
            clear hw8
            have hp8 := (hpr.trans hp7).trans h78
            have x0 := s0 _ hp8; have x1 := s1 _ hp8; have x2 := s2 _ hp8; have x3 := s3 _ hp8; have x4 := s4 _ hp8
            have SS := Lib.hid (S1.out w8 pd pdc hp8 (Flat.any (Flat.pr h78 hpd)))
            clear hpd
            by_cases hk0 : k = 0
            · have hqq := Hq2.out hk0
              obtain rfl := hk0
              go_wp2_with (first
                | (go_at_call 13; (with_reducible refine Calls.mono SS.out ?_); rintro e w9 ⟨rfl, hp9⟩; have hpA := hp8.trans hp9; have x0 := s0 _ hpA; have x1 := s1 _ hpA; have x2 := s2 _ hpA; have x3 := s3 _ hpA; have x4 := s4 _ hpA; have z0 := t0 _ hpA; have z1 := t1 _ hpA; have z2 := t2 _ hpA; have z3 := t3 _ hpA; have z4 := t4 _ hpA)
                | (go_at_call 13; (with_reducible refine Calls.mono (S2.out _ hpA) ?_); rintro e wA ⟨rfl, hpB⟩))
              go_meet
              case rel => exact hpA.trans hpB
            · have m0 : ((k : Int) == 0) = false := by simpa using hk0
              have m1 : (k == 0) = false := by simpa using hk0
              clear hk0
              go_wp2_with (go_at_call 13; (with_reducible refine Calls.mono SS.out ?_); rintro e w9 ⟨rfl, hp9⟩)
              go_meet
              case rel => exact hp8.trans hp9
      · have m0 : ((c : Int) == 0) = false := by simpa using hc0
        have m1 : (c == 0) = false := by simpa using hc0
        clear hc0
        go_wp2_with fail
        go_meet
        case rel => exact Hp.out
    case rest =>
      have hpx := hcut
      obtain ⟨p1, c1, a1, hpr⟩ : ∃ p1 c1 a1, printP ds = (p1, c1, a1) := ⟨_, _, _, rfl⟩
      obtain ⟨b1, hb1⟩ : ∃ b : ByteArray, b = ⟨⟨(printP ds).1⟩⟩ := ⟨_, rfl⟩
      have hF : FewD ds := fun d hd => by have := hn2 d hd; omega
      have P1 : Calls Tryd.prog 7 #[.slice oa ds.length cap] wc (PrintPost ds wc) := print_any ds oa cap wc (HDS.out.pr hpx) hF (HW.out.pr hpx)
      unfold PrintPost at P1
      rw [← hb1] at P1
      rw [hpr] at P1
      simp only [] at P1
      have P1 := Lib.hid P1
      have hb1l : b1.data.toList = (printP ds).1 := by rw [hb1]
      by_cases hc1 : c1 = 0
      · obtain ⟨h80, hlc, hpe⟩ := print_ok (ds := ds) (by rw [hpr]; exact hc1)
        have hbe : b1.data.toList = ended (ds.map lineT) := by rw [hb1l, hpe]
        have hs1 := print_short Hgd.out.symm
        rw [← hb1l, sizeL] at hs1
        subst hc1
        have Hbe := Lib.hid hbe; have Hlc := Lib.hid hlc
        clear hb1l hbe hlc hpr hb1 hpe
        go_upto_region 17 with (go_at_call 7; (with_reducible refine Calls.mono P1.out ?_); rintro e w3 ⟨rfl, hp3⟩)
        obtain ⟨w4, hw4⟩ : ∃ w4, w4 = w3.alloc (.cells #[.int .i64 0, .int .i64 a1] 26) := ⟨_, rfl⟩
        rw [← hw4]
        have hp4 : Pr W w4 := by rw [hw4]; exact (hpx.trans hp3).alloc' _
        have c4 : w4.cell? ⟨w3.heap.size, 0, none⟩ = some (.int .i64 0) := by rw [hw4]; simp [go_sem]
        clear hw4
        go_wp2_with fail
        go_loopw [16, 17] (fun v x wr => ∃ (i : Nat) (u : ByteArray), i ≤ ds.length ∧ x = .int .i64 i ∧ v = .string u ∧ u.data.toList = ended ((ds.take i).map lineT) ∧ Pr W wr) (fun _ x _ => ds.length - (intOf x).toNat)
        case atStart => exact ⟨0, ⟨#[]⟩, by omega, rfl, rfl, by simp [ended], hp4⟩
        case round =>
          obtain ⟨i, u, hi, rfl, rfl, hu, hp⟩ := hrel
          have hel := ended_few (ds := ds.take i) (fun d hd => line_few (Hlc.out d (List.mem_of_mem_take hd)) (hn2 d (List.mem_of_mem_take hd)).1 (hn2 d (List.mem_of_mem_take hd)).2)
          rw [List.length_take, ← hu, sizeL] at hel
          have hus : u.size ≤ 2001 * 80 := Nat.le_trans hel (Nat.mul_le_mul_left _ (by omega))
          have Hu := Lib.hid hu
          clear hu hel
          by_cases hlt : i < ds.length
          · obtain ⟨bk, o, ea, ec, rfl, e0, e1, e2, e3, e4, hints, hlab⟩ := (HDS.out.pr hp).get i hlt
            have hfd := hn2 ds[i] (List.getElem_mem _)
            have hli := Hlc.out ds[i] (List.getElem_mem _)
            have L : Calls Tryd.prog 11 #[.agg #[.int .i64 ds[i].kind, .slice ea ds[i].path.length ec, .int .i64 ds[i].pos, .int .i64 ds[i].many, .string ds[i].lab]] wr (LinePost ds[i] wr) :=
              line_any ds[i].kind ds[i].path ds[i].pos ds[i].many ds[i].lab ea ec wr (by omega) hints (by omega) (HW.out.pr hp)
            unfold LinePost at L
            obtain ⟨bb, hbb⟩ : ∃ b : ByteArray, b = ⟨⟨lineT ds[i]⟩⟩ := ⟨_, rfl⟩
            have hbl : bb.data.toList = lineT ds[i] := by rw [hbb]
            have hbs : bb.size ≤ 2000 := by rw [← sizeL, hbl]; exact line_few hli hfd.1 hfd.2
            rw [lineP_ok hli] at L
            simp only [← hbb] at L
            have L := Lib.hid L; have Hbl := Lib.hid hbl
            clear hbb hbl hints hli hfd
            go_wp2_with (go_at_call 11; (with_reducible refine Calls.mono L.out ?_); rintro e w5 ⟨rfl, hp5⟩)
            refine ⟨⟨i + 1, _, by omega, by go_num, rfl, ?_, hp.trans hp5⟩, by simp [intOf]; omega⟩
            rw [List.take_succ_eq_append_getElem hlt, List.map_append, List.map_singleton, ended_snoc, baL, baL, Hu.out, Hbl.out]
          · have hie : i = ds.length := by omega
            have d1 : decide ((i : Int) < ds.length) = false := by simp; omega
            have d3 : decide (i < ds.length) = false := by simp; omega
            have heq : u = b1 := by
              rw [ba_mk u, ba_mk b1, Hu.out, Hbe.out, hie, List.take_length]
            subst heq
            clear hie
            go_wp2_with fail
            go_ret
            exact ⟨rfl, HwW.out.trans hp⟩
      · have hbe : b1.toList = [] := by
          rw [ByteArray.toList_eq, hb1l]; exact print_no (by rw [hpr]; exact hc1)
        have m0 : (c1 != 0) = true := by simpa using hc1
        clear hb1l hpr hb1 hc1
        go_upto_region 17 with (go_at_call 7; (with_reducible refine Calls.mono P1.out ?_); rintro e w3 ⟨rfl, hp3⟩)
        obtain ⟨w4, hw4⟩ : ∃ w4, w4 = w3.alloc (.cells #[.int .i64 c1, .int .i64 a1] 26) := ⟨_, rfl⟩
        rw [← hw4]
        have hp4 : Pr W w4 := by rw [hw4]; exact (hpx.trans hp3).alloc' _
        have c4 : w4.cell? ⟨w3.heap.size, 0, none⟩ = some (.int .i64 c1) := by rw [hw4]; simp [go_sem]
        clear hw4
        go_wp2_with fail
        go_ret
        exact ⟨rfl, HwW.out.trans hp4⟩
end Go.Proofs.YtdbnfhpgmcjngadDoor
