/- Walks: a deed's line; the document's. -/
import Derived.Test.YtdbnfhpgmcjngacDoorPwe
namespace Go.Proofs.YtdbnfhpgmcjngacDoor
open Go Go.RowKit

set_option maxRecDepth 100000 in
set_option maxHeartbeats 6400000 in
theorem rline_any (k : Int) (p : List Int) (a m : Int) (s : ByteArray) (pa pc) (w : World) (hs : s.size ≤ 100000) (hp : Ints Any w p pa pc) (hn : p.length ≤ 100000) (hw : Lv w) :
    Calls Tryd.prog 29 #[.agg #[.int .i64 k, .slice pa p.length pc, .int .i64 a, .int .i64 m, .string s]] w (LinePost ⟨k, p, a, m, s⟩ w) := by
  obtain ⟨W, hW⟩ : ∃ W, W = w.alloc (.cells #[.int .i64 k, .slice pa p.length pc, .int .i64 a, .int .i64 m, .string s] 52) := ⟨_, rfl⟩
  have hwW : Pr w W := by rw [hW]; exact Pr.alloc _ _
  have s0 := stays (show W.cell? ⟨w.heap.size, 0, none⟩ = some (.int .i64 k) by rw [hW]; simp [go_sem])
  have s1 := stays (show W.cell? ⟨w.heap.size, 1, none⟩ = some (.slice pa p.length pc) by rw [hW]; simp [go_sem])
  have s2 := stays (show W.cell? ⟨w.heap.size, 2, none⟩ = some (.int .i64 a) by rw [hW]; simp [go_sem])
  have s3 := stays (show W.cell? ⟨w.heap.size, 3, none⟩ = some (.int .i64 m) by rw [hW]; simp [go_sem])
  have s4 := stays (show W.cell? ⟨w.heap.size, 4, none⟩ = some (.string s) by rw [hW]; simp [go_sem])
  have C := Lib.hid (dfault_any k p a m s pa pc W (by unfold maxLen; omega) (hp.pr hwW))
  obtain ⟨d, hd⟩ : ∃ d : Dee, d = ⟨k, p, a, m, s⟩ := ⟨_, rfl⟩
  rw [← hd] at C ⊢
  have hk : d.kind = k := by rw [hd]
  have hpd : d.path = p := by rw [hd]
  have had : d.pos = a := by rw [hd]
  have hmd : d.many = m := by rw [hd]
  have hld : d.lab = s := by rw [hd]
  obtain ⟨c, hc⟩ : ∃ c, c = dfault d := ⟨_, rfl⟩
  rw [← hc] at C
  have HP := Lib.hid (hp.pr hwW); have HW := Lib.hid (hw.pr hwW); have HwW := Lib.hid hwW
  have HD := Lib.hid (And.intro hk (And.intro hpd (And.intro had (And.intro hmd hld))))
  clear hk hpd had hmd hld hd hp hw hwW
  by_cases hc0 : c = 0
  · rw [hc0] at hc
    subst hc0
    have Hc := Lib.hid hc.symm
    clear hc
    go_enter Tryd.func29, Tryd.ntmps29
    go_upto_region 1 with fail
    rw [← hW]; clear hW
    have x0 := s0 _ (Pr.refl _)
    have x1 := s1 _ (Pr.refl _); have x2 := s2 _ (Pr.refl _); have x3 := s3 _ (Pr.refl _); have x4 := s4 _ (Pr.refl _)
    go_upto_region 4 with (go_at_call 63; (with_reducible refine Calls.mono C.out ?_); rintro e w1 ⟨rfl, hp1⟩; have x0 := s0 _ hp1; have x1 := s1 _ hp1; have x2 := s2 _ hp1; have x3 := s3 _ hp1; have x4 := s4 _ hp1)
    have Hp5 := Lib.hid hp1
    have hpl := Ints.len HP.out
    go_wp2_with fail
    go_loopw [5] (fun x wr => ∃ i : Nat, i ≤ p.length ∧ x = .int .i64 i ∧ (∀ (j : Nat) (h : j < p.length), j < i → p[j] ≤ 999) ∧ wr = w1) (fun x _ => p.length - (intOf x).toNat)
    case atStart => exact ⟨0, by omega, rfl, fun _ _ h => absurd h (Nat.not_lt_zero _), rfl⟩
    case round =>
      obtain ⟨i, hi, rfl, hall, rfl⟩ := hrel
      have Hall := Lib.hid hall
      clear hall
      by_cases hlt : i < p.length
      · obtain ⟨bk, o, rfl, c0⟩ := Ints.get (Flat.pr Hp5.out HP.out) i hlt
        by_cases h9 : 999 < p[i]
        · have hb := lineC_big (d := d) Hc.out (by
            refine ⟨p[i], ?_, h9⟩
            have h := HD.out
            rw [h.2.2.1, h.2.2.2.1]
            have hm : p[i] ∈ d.path := by rw [h.2.1]; exact List.getElem_mem _
            simp [hm])
          have Hb := Lib.hid hb
          clear hb
          go_wp2_with fail
          go_ret2
          exact ⟨by rw [Hb.out]; rfl, HwW.out.trans Hp5.out⟩
        · have h9' : decide (999 < p[i]) = false := by simpa using h9
          go_wp2_with fail
          refine ⟨⟨i + 1, by omega, by go_num, fun j hj hji => ?_, trivial⟩, by simp [intOf]; omega⟩
          by_cases e : j = i
          · subst e; omega
          · exact Hall.out j hj (by omega)
      · have d1 : decide ((i : Int) < p.length) = false := by simp; omega
        have d3 : decide (i < p.length) = false := by simp; omega
        by_cases h9 : 999 < a
        · have hb := lineC_big (d := d) Hc.out ⟨a, by rw [HD.out.2.2.1]; simp, h9⟩
          have Hb := Lib.hid hb
          clear hb
          go_wp2_with fail
          go_ret2
          exact ⟨by rw [Hb.out]; rfl, HwW.out.trans Hp5.out⟩
        have h9' : decide (999 < a) = false := by simpa using h9
        by_cases g9 : 999 < m
        · have hb := lineC_big (d := d) Hc.out ⟨m, by rw [HD.out.2.2.2.1]; simp, g9⟩
          have Hb := Lib.hid hb
          clear hb
          go_wp2_with fail
          go_ret2
          exact ⟨by rw [Hb.out]; rfl, HwW.out.trans Hp5.out⟩
        have g9' : decide (999 < m) = false := by simpa using g9
        have hno : ¬ bigD d := by
          rintro ⟨x, hx, hx9⟩
          have h := HD.out
          rw [h.2.1, h.2.2.1, h.2.2.2.1] at hx
          simp only [List.mem_cons] at hx
          rcases hx with rfl | rfl | hx
          · exact h9 hx9
          · exact g9 hx9
          · obtain ⟨j, hj, rfl⟩ := List.mem_iff_getElem.1 hx
            have := Hall.out j hj (by omega)
            omega
        have hp5 := Hp5.out
        have hl0 := lineC_few Hc.out hno
        have hz := lineC_zero hl0
        have hkk : k = 1 ∨ k = 2 ∨ k = 3 := by
          have h1 := (dfault_zero.1 hz.1).1
          rw [HD.out.1] at h1; omega
        have hl := lineP_ok hl0
        have Hl := Lib.hid hl; have Hz := Lib.hid hz
        have hI : I64 p := fun x hx => by
          have := hz.2.1 x (by rw [HD.out.2.1]; exact hx); omega
        have hptl := pathT_le p hI
        obtain ⟨b, hb⟩ : ∃ b : ByteArray, b = ⟨⟨pathTx p⟩⟩ := ⟨_, rfl⟩
        have hbs : b.size ≤ 2200001 := by rw [hb, ← sizeL]; show (pathTx p).length ≤ _; omega
        have hT : ∀ W', Pr wr W' → Calls Tryd.prog 24 #[.slice pa p.length pc] W' fun e w' => e = .returned (.string b) ∧ Pr W' w' := fun W' h => by
          rw [hb]; exact rpathTx_any p pa pc W' (Flat.pr (hp5.trans h) HP.out) hI hn (HW.out.pr (hp5.trans h))
        have HT := Lib.hid hT; have HB := Lib.hid hb
        clear hl hl0 hz hno hI hptl hT hb
        rcases hkk with hk1 | hk1 | hk1
        · obtain rfl := hk1
          have hf := line1 (d := d) HD.out.1
          rw [HD.out.2.1, HD.out.2.2.2.2] at hf
          have Hf := Lib.hid hf
          clear hf
          go_upto_region 12 with fail
          have y1 := After.cell x1; have y4 := After.cell x4
          have S1 := Lib.hid (After.call HT.out)
          refine wp_region_after (by kernel_rfl) (by kernel_rfl) ?_
          repeat (go_big_quiet_step (first | (go_at_call 24; with_reducible exact S1.out _)))
          refine wpQuiet_nil ?_
          rintro wq ⟨⟨_, hq⟩, rfl⟩
          go_wp2_with fail
          go_ret2
          refine ⟨ret_line ?_, (HwW.out.trans Hp5.out).trans hq⟩
          rw [Hl.out, Hf.out, baL, baL, baL, HB.out]
        · obtain rfl := hk1
          have hf := line2 (d := d) HD.out.1
          rw [HD.out.2.1] at hf
          have Hf := Lib.hid hf
          clear hf
          go_wp2_with (go_at_call 24; (with_reducible refine Calls.mono (HT.out _ (Pr.refl _)) ?_); rintro e w6 ⟨rfl, hp6⟩)
          go_ret2
          refine ⟨ret_line ?_, (HwW.out.trans Hp5.out).trans hp6⟩
          rw [Hl.out, Hf.out, baL, HB.out]
        · obtain rfl := hk1
          have hf := line3 (d := d) HD.out.1
          rw [HD.out.2.1, HD.out.2.2.1, HD.out.2.2.2.1, HD.out.2.2.2.2] at hf
          have Hf := Lib.hid hf
          have hza := Hz.out.2.2.1; have hzm := Hz.out.2.2.2
          rw [HD.out.2.2.1] at hza
          rw [HD.out.2.2.2.1] at hzm
          obtain ⟨ba, hba⟩ : ∃ b : ByteArray, b = ⟨⟨Lib.itoa a⟩⟩ := ⟨_, rfl⟩
          obtain ⟨bm, hbm⟩ : ∃ b : ByteArray, b = ⟨⟨Lib.itoa m⟩⟩ := ⟨_, rfl⟩
          have hbas : ba.size ≤ 21 := by rw [hba, ← sizeL]; exact Lib.itoa_length_le a (by omega) (by omega)
          have hbms : bm.size ≤ 21 := by rw [hbm, ← sizeL]; exact Lib.itoa_length_le m (by omega) (by omega)
          have hIa : ∀ W', Pr wr W' → Calls Tryd.prog 60 #[.int .i64 a] W' fun e w' => e = .returned (.string ba) ∧ Pr W' w' := fun W' h => by
            rw [hba]; exact itoa_any a (by omega) (by omega) W' (HW.out.pr (hp5.trans h))
          have hIm : ∀ W', Pr wr W' → Calls Tryd.prog 60 #[.int .i64 m] W' fun e w' => e = .returned (.string bm) ∧ Pr W' w' := fun W' h => by
            rw [hbm]; exact itoa_any m (by omega) (by omega) W' (HW.out.pr (hp5.trans h))
          have HIa := Lib.hid hIa; have HIm := Lib.hid hIm; have HBa := Lib.hid hba; have HBm := Lib.hid hbm
          clear hf hIa hIm hba hbm
          go_upto_region 15 with fail
          have y1 := After.cell x1; have y2 := After.cell x2; have y3 := After.cell x3; have y4 := After.cell x4
          have S1 := Lib.hid (After.call HT.out); have S2 := Lib.hid (After.call HIa.out); have S3 := Lib.hid (After.call HIm.out)
          refine wp_region_after (by kernel_rfl) (by kernel_rfl) ?_
          repeat (go_big_quiet_step (first | (go_at_call 24; with_reducible exact S1.out _) | (go_at_call 60; with_reducible exact S2.out _) | (go_at_call 60; with_reducible exact S3.out _)))
          refine wpQuiet_nil ?_
          rintro wq ⟨⟨_, hq⟩, rfl⟩
          go_wp2_with fail
          go_ret2
          refine ⟨ret_line ?_, (HwW.out.trans Hp5.out).trans hq⟩
          rw [Hl.out, Hf.out, baL, baL, baL, baL, baL, baL, baL, HB.out, HBa.out, HBm.out]
  · have hb := lineP_bad (d := d) (by rw [← hc]; exact hc0)
    rw [← hc] at hb
    have Hb := Lib.hid hb
    have n0 : ((c : Int) != 0) = true := by simp [bne_iff_ne]; omega
    have n1 : (c != 0) = true := by simp [bne_iff_ne]; omega
    clear hb hc hc0
    go_enter Tryd.func29, Tryd.ntmps29
    go_upto_region 1 with fail
    rw [← hW]; clear hW
    have x0 := s0 _ (Pr.refl _)
    have x1 := s1 _ (Pr.refl _); have x2 := s2 _ (Pr.refl _); have x3 := s3 _ (Pr.refl _); have x4 := s4 _ (Pr.refl _)
    go_wp2_with (go_at_call 63; (with_reducible refine Calls.mono C.out ?_); rintro e w1 ⟨rfl, hp1⟩; have x0 := s0 _ hp1)
    go_ret2
    exact ⟨by rw [Hb.out]; rfl, HwW.out.trans hp1⟩
end Go.Proofs.YtdbnfhpgmcjngacDoor
