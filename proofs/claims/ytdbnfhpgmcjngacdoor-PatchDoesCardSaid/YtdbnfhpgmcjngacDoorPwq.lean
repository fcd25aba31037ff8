/- The law PatchDoes: its walk. -/
import Derived.Test.YtdbnfhpgmcjngacDoorPwl
import Derived.Test.YtdbnfhpgmcjngacDoorPwn
namespace Go.Proofs.YtdbnfhpgmcjngacDoor
open Go Go.RowKit

theorem wf_i64 {p : List Int} (h : ∀ x ∈ p, (Lit.int .i64 x).wf = true) : I64 p := fun x hx => by
  have := h x hx
  simp [Lit.wf, IntKind.min, IntKind.max, IntKind.bits, IntKind.signed] at this
  omega
set_option maxRecDepth 100000 in
set_option maxHeartbeats 6400000 in
theorem patchDoes_walk (ds : List Dee) (oa cap) (p : List Int) (pa pc) (s t : ByteArray) (w : World) (hds : Dees Any w ds oa cap) (_ : True) (hp : Ints Any w p pa pc) (hpw : ∀ x ∈ p, (Lit.int .i64 x).wf = true) (hs : s.size ≤ 281474976710656) (ht : t.size ≤ 281474976710656) (hw : Lv w) :
    Calls Tryd.prog 4 #[.slice oa ds.length cap, .slice pa p.length pc, .string s, .string t] w fun e w' => e = .returned (.bool true) ∧ Pr w w' := by
  have hI := wf_i64 hpw
  have HDS := Lib.hid hds; have HW := Lib.hid hw; have HP := Lib.hid hp
  have BG := Lib.hid (patchBegun_any w hw)
  obtain ⟨gd, hgd⟩ : ∃ b, b = greatDs ds := ⟨_, rfl⟩
  have GR : ∀ W', Pr w W' → Calls Tryd.prog 15 #[.slice oa ds.length cap] W' fun e w' => e = .returned (.bool gd) ∧ Pr W' w' := fun W' h => by
    rw [hgd]; exact greatDsE_any ds oa cap W' (hds.pr h)
  have GR := Lib.hid GR; have Hgd := Lib.hid hgd; have HI := Lib.hid hI
  clear hpw hI hds hw hp hgd
  by_cases hgr : gd = true ∨ 100 < p.length ∨ 6000 < s.size + t.size
  · have h3 : gd = true ∨ (gd = false ∧ 100 < p.length) ∨ (gd = false ∧ ¬ 100 < p.length ∧ 6000 < s.size + t.size) := by cases gd <;> by_cases h : 100 < p.length <;> simp [h] at hgr ⊢ <;> omega
    clear hgr
    rcases h3 with rfl | ⟨rfl, h1⟩ | ⟨rfl, h1, h2⟩
    · go_enter Tryd.func4, Tryd.ntmps4
      go_wp2_with (first
        | (go_at_call 14; (with_reducible refine Calls.mono BG.out ?_); rintro e w1 ⟨rfl, hp⟩)
        | (go_at_call 15; (with_reducible refine Calls.mono (GR.out _ hp) ?_); rintro e w2 ⟨rfl, hp2⟩; have hp := hp.trans hp2))
      go_ret
      exact ⟨rfl, hp⟩
    · have n0 : (100 : Int) < p.length := by omega
      clear h1
      go_enter Tryd.func4, Tryd.ntmps4
      go_wp2_with (first
        | (go_at_call 14; (with_reducible refine Calls.mono BG.out ?_); rintro e w1 ⟨rfl, hp⟩)
        | (go_at_call 15; (with_reducible refine Calls.mono (GR.out _ hp) ?_); rintro e w2 ⟨rfl, hp2⟩; have hp := hp.trans hp2))
      go_ret
      exact ⟨rfl, hp⟩
    · have n0 : decide ((100 : Int) < p.length) = false := by simp; omega
      have n1 : decide (100 < p.length) = false := by simp; omega
      have n2 : (6000 : Int) < (s.size : Int) + t.size := by omega
      clear h1 h2
      go_enter Tryd.func4, Tryd.ntmps4
      go_wp2_with (first
        | (go_at_call 14; (with_reducible refine Calls.mono BG.out ?_); rintro e w1 ⟨rfl, hp⟩)
        | (go_at_call 15; (with_reducible refine Calls.mono (GR.out _ hp) ?_); rintro e w2 ⟨rfl, hp2⟩; have hp := hp.trans hp2))
      go_ret
      exact ⟨rfl, hp⟩
  · obtain ⟨rfl, h100, h6⟩ : gd = false ∧ p.length ≤ 100 ∧ s.size + t.size ≤ 6000 := by cases gd <;> simp at hgr ⊢; omega
    clear hgr
    obtain ⟨hn1, hn2⟩ := great_few Hgd.out.symm
    have hF : FewD ds := fun d hd => by have := hn2 d hd; omega
    have n0 : decide ((100 : Int) < p.length) = false := by simp; omega
    have n1 : decide (100 < p.length) = false := by simp; omega
    have n2 : decide ((6000 : Int) < (s.size : Int) + t.size) = false := by simp; omega
    obtain ⟨p1, c1, a1, hpr⟩ : ∃ p1 c1 a1, printP ds = (p1, c1, a1) := ⟨_, _, _, rfl⟩
    have A1 : ∀ W', Pr w W' → Calls Tryd.prog 16 #[.slice oa ds.length cap] W' (PrintPost ds W') := fun W' h => print_any ds oa cap W' (HDS.out.pr h) hF (HW.out.pr h)
    have A2 : ∀ W', Pr w W' → Calls Tryd.prog 17 #[.slice oa ds.length cap] W' (PrintPost ds W') := fun W' h => printed_any ds oa cap W' (HDS.out.pr h) hF (HW.out.pr h)
    unfold PrintPost at A1 A2
    rw [hpr] at A1 A2
    simp only [] at A1 A2
    obtain ⟨xs, c2, a2, hrd⟩ : ∃ xs c2 a2, readP s.data.toList = (xs, c2, a2) := ⟨_, _, _, rfl⟩
    have A3 : ∀ W', Pr w W' → Calls Tryd.prog 18 #[.string s] W' (ReadPost s.data.toList W') := fun W' h => parse_any2 s (by omega) W' (HW.out.pr h)
    have A4 : ∀ W', Pr w W' → Calls Tryd.prog 19 #[.string s] W' (ReadPost s.data.toList W') := fun W' h => deedsIn_any s (by omega) W' (HW.out.pr h)
    unfold ReadPost at A3 A4
    rw [hrd] at A3 A4
    simp only [] at A3 A4
    obtain ⟨pi, hpi⟩ : ∃ x, x = pathIn t.data.toList := ⟨_, rfl⟩
    have A5 : ∀ W', Pr w W' → Calls Tryd.prog 20 #[.string t] W' (PathPost t.data.toList W') := fun W' h => parsePath_any t (by omega) W' (HW.out.pr h)
    have A6 : ∀ W', Pr w W' → Calls Tryd.prog 21 #[.string t] W' (PathPost t.data.toList W') := fun W' h => pathIn_any t (by omega) W' (HW.out.pr h)
    unfold PathPost at A5 A6
    rw [← hpi] at A5 A6
    obtain ⟨pq, hpq⟩ : ∃ x, x = pi.getD [] := ⟨_, rfl⟩
    obtain ⟨pb, hpb⟩ : ∃ x, x = pi.isSome := ⟨_, rfl⟩
    rw [← hpq, ← hpb] at A5 A6
    obtain ⟨tx, htx⟩ : ∃ x : ByteArray, x = ⟨⟨pathTx p⟩⟩ := ⟨_, rfl⟩
    have A7 : ∀ W', Pr w W' → Calls Tryd.prog 23 #[.slice pa p.length pc] W' fun e w' => e = .returned (.string tx) ∧ Pr W' w' := fun W' h => by rw [htx]; exact pathTx_any p pa pc W' (Flat.pr h HP.out) HI.out (by omega) (HW.out.pr h)
    have A8 : ∀ W', Pr w W' → Calls Tryd.prog 24 #[.slice pa p.length pc] W' fun e w' => e = .returned (.string tx) ∧ Pr W' w' := fun W' h => by rw [htx]; exact rpathTx_any p pa pc W' (Flat.pr h HP.out) HI.out (by omega) (HW.out.pr h)
    obtain ⟨dd, hdd⟩ : ∃ x, x = deedIn t.data.toList := ⟨_, rfl⟩
    have A9 : ∀ W', Pr w W' → Calls Tryd.prog 25 #[.string t] W' (DeedPost dd W') := fun W' h => by rw [hdd]; exact deed_any t (by omega) W' (HW.out.pr h)
    have A0 : ∀ W', Pr w W' → Calls Tryd.prog 26 #[.string t] W' (DeedPost dd W') := fun W' h => by rw [hdd]; exact rdeed_any t (by omega) W' (HW.out.pr h)
    obtain ⟨d, c⟩ := dd
    unfold DeedPost at A9 A0
    simp only [] at A9 A0
    have A1 := Lib.hid A1; have A2 := Lib.hid A2; have A3 := Lib.hid A3; have A4 := Lib.hid A4; have A5 := Lib.hid A5; have A6 := Lib.hid A6; have A7 := Lib.hid A7; have A8 := Lib.hid A8; have A9 := Lib.hid A9; have A0 := Lib.hid A0
    clear hpr hrd hpi hpq hpb htx hdd
    go_enter Tryd.func4, Tryd.ntmps4
    go_upto_region 5 with (first
      | (go_at_call 14; (with_reducible refine Calls.mono BG.out ?_); rintro e w1 ⟨rfl, hp⟩)
      | (go_at_call 15; (with_reducible refine Calls.mono (GR.out _ hp) ?_); rintro e w2 ⟨rfl, hp2⟩; have hp := hp.trans hp2))
    go_upto_region 6 with (go_at_call 16; (with_reducible refine Calls.mono (A1.out _ hp) ?_); rintro e w3 ⟨rfl, hp3⟩)
    obtain ⟨w4, hw4⟩ : ∃ w4, w4 = w3.alloc (.cells #[.int .i64 c1, .int .i64 a1] 42) := ⟨_, rfl⟩
    rw [← hw4]
    have k10 := stays (show w4.cell? ⟨w3.heap.size, 0, none⟩ = some (.int .i64 c1) by rw [hw4]; simp [go_sem])
    have k11 := stays (show w4.cell? ⟨w3.heap.size, 1, none⟩ = some (.int .i64 a1) by rw [hw4]; simp [go_sem])
    have hp : Pr w w4 := by rw [hw4]; exact (hp.trans hp3).alloc' _
    clear hw4
    have H4 := Lib.hid (Pr.refl w4)
    go_upto_region 7 with (go_at_call 17; (with_reducible refine Calls.mono (A2.out _ hp) ?_); rintro e w5 ⟨rfl, hp5⟩)
    obtain ⟨w6, hw6⟩ : ∃ w6, w6 = w5.alloc (.cells #[.int .i64 c1, .int .i64 a1] 42) := ⟨_, rfl⟩
    rw [← hw6]
    have k20 := stays (show w6.cell? ⟨w5.heap.size, 0, none⟩ = some (.int .i64 c1) by rw [hw6]; simp [go_sem])
    have k21 := stays (show w6.cell? ⟨w5.heap.size, 1, none⟩ = some (.int .i64 a1) by rw [hw6]; simp [go_sem])
    have h46 : Pr w4 w6 := by rw [hw6]; exact hp5.alloc' _
    have hp := hp.trans h46
    clear hw6
    go_upto_region 8 with (go_at_call 18; (with_reducible refine Calls.mono (A3.out _ hp) ?_); rintro e w7 ⟨o7, q7, rfl, hd7, hp7⟩)
    obtain ⟨w8, hw8⟩ : ∃ w8, w8 = w7.alloc (.cells #[.int .i64 c2, .int .i64 a2] 42) := ⟨_, rfl⟩
    rw [← hw8]
    have k30 := stays (show w8.cell? ⟨w7.heap.size, 0, none⟩ = some (.int .i64 c2) by rw [hw8]; simp [go_sem])
    have k31 := stays (show w8.cell? ⟨w7.heap.size, 1, none⟩ = some (.int .i64 a2) by rw [hw8]; simp [go_sem])
    have h78 : Pr w7 w8 := by rw [hw8]; exact Pr.alloc _ _
    have h68 : Pr w6 w8 := hp7.trans h78
    have hd7 := hd7.pr h78
    have hp := hp.trans h68
    clear hw8
    have Hd7 := Lib.hid hd7
    clear hd7
    go_upto_region 9 with (go_at_call 19; (with_reducible refine Calls.mono (A4.out _ hp) ?_); rintro e w9 ⟨o9, q9, rfl, hd9, hp9⟩)
    obtain ⟨wa, hwa⟩ : ∃ wa, wa = w9.alloc (.cells #[.int .i64 c2, .int .i64 a2] 42) := ⟨_, rfl⟩
    rw [← hwa]
    have k40 := stays (show wa.cell? ⟨w9.heap.size, 0, none⟩ = some (.int .i64 c2) by rw [hwa]; simp [go_sem])
    have k41 := stays (show wa.cell? ⟨w9.heap.size, 1, none⟩ = some (.int .i64 a2) by rw [hwa]; simp [go_sem])
    have h9a : Pr w9 wa := by rw [hwa]; exact Pr.alloc _ _
    have h8a : Pr w8 wa := hp9.trans h9a
    have Hd9 := Lib.hid (hd9.pr h9a)
    have hp := hp.trans h8a
    clear hwa hd9
    go_upto_region 10 with (go_at_call 20; (with_reducible refine Calls.mono (A5.out _ hp) ?_); rintro e wb ⟨ob, qb, rfl, hib, hpb⟩)
    have hp := hp.trans hpb
    have Hib := Lib.hid hib
    clear hib
    go_upto_region 11 with (go_at_call 21; (with_reducible refine Calls.mono (A6.out _ hp) ?_); rintro e wc ⟨oc, qc, rfl, hic, hpc⟩)
    have hp := hp.trans hpc
    have Hic := Lib.hid hic
    clear hic
    have hac := hpb.trans hpc
    have y1 := k10 _ (h46.trans (h68.trans (h8a.trans hac))); have y2 := k11 _ (h46.trans (h68.trans (h8a.trans hac)))
    have y3 := k20 _ (h68.trans (h8a.trans hac)); have y4 := k21 _ (h68.trans (h8a.trans hac))
    have y5 := k30 _ (h8a.trans hac); have y6 := k31 _ (h8a.trans hac)
    have y7 := k40 _ hac; have y8 := k41 _ hac
    have z5 := stays y5; have z6 := stays y6; have z7 := stays y7; have z8 := stays y8
    have SD := sameDeeds_any xs xs o7 q7 o9 q9 wc (Dees.any (Hd7.out.pr (h8a.trans hac))) (Dees.any (Hd9.out.pr hac))
    rw [decide_eq_true (rfl : xs = xs)] at SD
    have SI : ∀ W', Pr wc W' → Calls Tryd.prog 22 #[.slice ob pq.length qb, .slice oc pq.length qc] W' fun e w' => e = .returned (.bool true) ∧ Pr W' w' := fun W' h => by
      have := sints_any pq pq ob qb oc qc W' (Flat.any (Flat.pr (hpc.trans h) Hib.out)) (Flat.any (Flat.pr h Hic.out))
      rwa [decide_eq_true (rfl : pq = pq)] at this
    have SD := Lib.hid SD; have SI := Lib.hid SI
    have Hpc := Lib.hid hp
    go_upto_region 13 with (first
      | (go_at_call 10; (with_reducible refine Calls.mono SD.out ?_); rintro e wd ⟨rfl, hpd⟩; have hp := hp.trans hpd; have y5 := z5 _ hpd; have y6 := z6 _ hpd; have y7 := z7 _ hpd; have y8 := z8 _ hpd)
      | (go_at_call 22; (with_reducible refine Calls.mono (SI.out _ hpd) ?_); rintro e we ⟨rfl, hpe⟩; have hp := hp.trans hpe)
      | (go_at_call 23; (with_reducible refine Calls.mono (A7.out _ hp) ?_); rintro e wf ⟨rfl, hpf⟩; have hp := hp.trans hpf)
      | (go_at_call 24; (with_reducible refine Calls.mono (A8.out _ hp) ?_); rintro e wg ⟨rfl, hpg⟩; have hp := hp.trans hpg))
    have hd1 := Lib.hid (trivial : True)
    have Hp13 := Lib.hid hp
    go_upto_region 14 with (go_at_call 25; (with_reducible refine Calls.mono (A9.out _ hp) ?_); rintro e wh ⟨pd, pdc, rfl, hpd, _, hph⟩)
    obtain ⟨wi, hwi⟩ : ∃ wi, wi = wh.alloc (.cells #[.int .i64 d.kind, .slice pd d.path.length pdc, .int .i64 d.pos, .int .i64 d.many, .string d.lab] 52) := ⟨_, rfl⟩
    rw [← hwi]
    have hhi : Pr wh wi := by rw [hwi]; exact Pr.alloc _ _
    have b0 := stays (show wi.cell? ⟨wh.heap.size, 0, none⟩ = some (.int .i64 d.kind) by rw [hwi]; simp [go_sem])
    have b1 := stays (show wi.cell? ⟨wh.heap.size, 1, none⟩ = some (.slice pd d.path.length pdc) by rw [hwi]; simp [go_sem])
    have b2 := stays (show wi.cell? ⟨wh.heap.size, 2, none⟩ = some (.int .i64 d.pos) by rw [hwi]; simp [go_sem])
    have b3 := stays (show wi.cell? ⟨wh.heap.size, 3, none⟩ = some (.int .i64 d.many) by rw [hwi]; simp [go_sem])
    have b4 := stays (show wi.cell? ⟨wh.heap.size, 4, none⟩ = some (.string d.lab) by rw [hwi]; simp [go_sem])
    have Hpd := Lib.hid (Flat.pr hhi hpd)
    have hp := (hp.trans hph).trans hhi
    clear hwi hpd
    go_upto_region 15 with (go_at_call 26; (with_reducible refine Calls.mono (A0.out _ hp) ?_); rintro e wj ⟨pe, pec, rfl, hpe', _, hpj⟩)
    obtain ⟨wk, hwk⟩ : ∃ wk, wk = wj.alloc (.cells #[.int .i64 d.kind, .slice pe d.path.length pec, .int .i64 d.pos, .int .i64 d.many, .string d.lab] 52) := ⟨_, rfl⟩
    rw [← hwk]
    have hjk : Pr wj wk := by rw [hwk]; exact Pr.alloc _ _
    have e0 : wk.cell? ⟨wj.heap.size, 0, none⟩ = some (.int .i64 d.kind) := by rw [hwk]; simp [go_sem]
    have e1 : wk.cell? ⟨wj.heap.size, 1, none⟩ = some (.slice pe d.path.length pec) := by rw [hwk]; simp [go_sem]
    have e2 : wk.cell? ⟨wj.heap.size, 2, none⟩ = some (.int .i64 d.pos) := by rw [hwk]; simp [go_sem]
    have e3 : wk.cell? ⟨wj.heap.size, 3, none⟩ = some (.int .i64 d.many) := by rw [hwk]; simp [go_sem]
    have e4 : wk.cell? ⟨wj.heap.size, 4, none⟩ = some (.string d.lab) := by rw [hwk]; simp [go_sem]
    have hik := hpj.trans hjk
    have b0 := b0 _ hik; have b1 := b1 _ hik; have b2 := b2 _ hik; have b3 := b3 _ hik; have b4 := b4 _ hik
    have SS := rsameDeed_any d.kind d.path d.pos d.many d.lab pd pdc d.kind d.path d.pos d.many d.lab pe pec wk (Flat.any (Flat.pr hik Hpd.out)) (Flat.any (Flat.pr hjk hpe'))
    rw [decide_eq_true (rfl : (⟨d.kind, d.path, d.pos, d.many, d.lab⟩ : Dee) = ⟨d.kind, d.path, d.pos, d.many, d.lab⟩)] at SS
    have SS := Lib.hid SS
    have hp := hp.trans hik
    clear hwk hpe'
    go_upto_region 18 with (go_at_call 27; (with_reducible refine Calls.mono SS.out ?_); rintro e wl ⟨rfl, hpl⟩; have hp := hp.trans hpl)
    have Hp := Lib.hid hp
    go_loopw [25] (fun v wr => ∃ i : Nat, i ≤ ds.length ∧ v = .int .i64 i ∧ Pr w wr) (fun v _ => ds.length - (intOf v).toNat)
    case atStart => exact ⟨0, by omega, rfl, Hp.out⟩
    case round =>
      obtain ⟨i, hi, rfl, hpr⟩ := hrel
      by_cases hlt : i < ds.length
      · obtain ⟨bk, o, ea, ec, rfl, f0, f1, f2, f3, f4, hints, hlab⟩ := (HDS.out.pr hpr).get i hlt
        have hfd := hn2 ds[i] (List.getElem_mem _)
        obtain ⟨ls, hls⟩ : ∃ x : ByteArray, x = ⟨⟨(lineP ds[i]).1⟩⟩ := ⟨_, rfl⟩
        obtain ⟨lc, hlc⟩ : ∃ x, x = (lineP ds[i]).2 := ⟨_, rfl⟩
        have L1 : Calls Tryd.prog 28 #[.agg #[.int .i64 ds[i].kind, .slice ea ds[i].path.length ec, .int .i64 ds[i].pos, .int .i64 ds[i].many, .string ds[i].lab]] wr fun e w' => e = .returned (.tuple #[.string ls, .int .i64 (lc : Int)]) ∧ Pr wr w' := by
          rw [hls, hlc]; exact line_any ds[i].kind ds[i].path ds[i].pos ds[i].many ds[i].lab ea ec wr (by omega) hints (by omega) (HW.out.pr hpr)
        have L2 : ∀ W', Pr wr W' → Calls Tryd.prog 29 #[.agg #[.int .i64 ds[i].kind, .slice ea ds[i].path.length ec, .int .i64 ds[i].pos, .int .i64 ds[i].many, .string ds[i].lab]] W' fun e w' => e = .returned (.tuple #[.string ls, .int .i64 (lc : Int)]) ∧ Pr W' w' := fun W' h => by
          rw [hls, hlc]; exact rline_any ds[i].kind ds[i].path ds[i].pos ds[i].many ds[i].lab ea ec W' (by omega) (Flat.pr h hints) (by omega) (HW.out.pr (hpr.trans h))
        have L1 := Lib.hid L1; have L2 := Lib.hid L2
        have f0' := stays f0; have f1' := stays f1; have f2' := stays f2; have f3' := stays f3; have f4' := stays f4
        clear hls hlc hints hfd
        go_wp2_with (first
          | (go_at_call 28; (with_reducible refine Calls.mono L1.out ?_); rintro e w5 ⟨rfl, hp5⟩; have f0 := f0' _ hp5; have f1 := f1' _ hp5; have f2 := f2' _ hp5; have f3 := f3' _ hp5; have f4 := f4' _ hp5)
          | (go_at_call 29; (with_reducible refine Calls.mono (L2.out _ hp5) ?_); rintro e w6 ⟨rfl, hp6⟩))
        refine ⟨⟨i + 1, by omega, by go_num, hpr.trans (hp5.trans hp6)⟩, by simp [intOf]; omega⟩
      · have d1 : decide ((i : Int) < ds.length) = false := by simp; omega
        have d3 : decide (i < ds.length) = false := by simp; omega
        go_wp2_with fail
        go_ret
        exact ⟨rfl, hpr⟩
end Go.Proofs.YtdbnfhpgmcjngacDoor
