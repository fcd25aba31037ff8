/- Walks: a line's deed; the document's. -/
import Derived.Test.YtdbnfhpgmcjngacDoorPwg
namespace Go.Proofs.YtdbnfhpgmcjngacDoor
open Go Go.RowKit

def map3N (x : List UInt8) : Nat := if x = wName then 3 else if x = wDelete then 2 else if x = wInsert then 5 else 0
set_option maxRecDepth 100000 in
theorem map3_any (x : ByteArray) (w : World) : Calls Tryd.prog 62 #[.string x] w fun e w' => e = .returned (.int .i64 (map3N x.data.toList)) ∧ Pr w w' := by
  have hl : x.toList = x.data.toList := by rw [ByteArray.toList_eq]
  unfold map3N
  by_cases hN : x.data.toList = wName
  · rw [if_pos hN]
    have b1 : x.toList = [110, 97, 109, 101] := by rw [hl, hN]; rfl
    clear hl hN
    go_enter Tryd.func62, Tryd.ntmps62
    go_wp2_with fail
    go_ret
    exact ⟨rfl, Pr.refl _⟩
  · rw [if_neg hN]
    have bN : (x.toList == [110, 97, 109, 101]) = false := by rw [hl, Bool.eq_false_iff]; intro e; exact hN (by simpa [wName] using e)
    by_cases hD : x.data.toList = wDelete
    · rw [if_pos hD]
      have b1 : x.toList = [100, 101, 108, 101, 116, 101] := by rw [hl, hD]; rfl
      clear hl hN hD bN
      go_enter Tryd.func62, Tryd.ntmps62
      go_wp2_with fail
      go_ret
      exact ⟨rfl, Pr.refl _⟩
    · rw [if_neg hD]
      have bD : (x.toList == [100, 101, 108, 101, 116, 101]) = false := by rw [hl, Bool.eq_false_iff]; intro e; exact hD (by simpa [wDelete] using e)
      by_cases hI : x.data.toList = wInsert
      · rw [if_pos hI]
        have b1 : x.toList = [105, 110, 115, 101, 114, 116] := by rw [hl, hI]; rfl
        clear hl hN hD hI bN bD
        go_enter Tryd.func62, Tryd.ntmps62
        go_wp2_with fail
        go_ret
        exact ⟨rfl, Pr.refl _⟩
      · rw [if_neg hI]
        have bI : (x.toList == [105, 110, 115, 101, 114, 116]) = false := by rw [hl, Bool.eq_false_iff]; intro e; exact hI (by simpa [wInsert] using e)
        clear hl hN hD hI
        go_enter Tryd.func62, Tryd.ntmps62
        go_wp2_with fail
        go_ret
        exact ⟨rfl, Pr.refl _⟩
theorem map3_bad (ps : List (List UInt8)) (h : 0 < ps.length) (h1 : ¬ (ps[0] = wName ∧ ps.length = 3)) (h2 : ¬ (ps[0] = wDelete ∧ ps.length = 2)) (h3 : ¬ (ps[0] = wInsert ∧ ps.length = 5)) : deedW ps = (Dee.zero, 6) ∧ (map3N ps[0] = 0 ∨ ps.length ≠ map3N ps[0]) := by
  refine ⟨?_, ?_⟩
  · by_cases hl : 1 < ps.length
    · exact deedW_no hl h1 h2 h3
    · exact deedW_few (by omega)
  · unfold map3N
    split
    · next e => exact .inr fun e' => h1 ⟨e, e'⟩
    · split
      · next e => exact .inr fun e' => h2 ⟨e, e'⟩
      · split
        · next e => exact .inr fun e' => h3 ⟨e, e'⟩
        · exact .inl rfl
set_option maxRecDepth 100000 in
set_option maxHeartbeats 6400000 in
theorem rdeed_any (s : ByteArray) (hs : s.size ≤ 1000000) (w : World) (hw : Lv w) :
    Calls Tryd.prog 26 #[.string s] w (DeedPost (deedIn s.data.toList) w) := by
  obtain ⟨W, hW⟩ : ∃ W, W = w.alloc (.cells deeZ 52) := ⟨_, rfl⟩
  have hwW : Pr w W := by rw [hW]; exact Pr.alloc _ _
  have hsW : W.heap.size = w.heap.size + 1 := by rw [hW]; simp
  have hbW : W.heap[w.heap.size]? = some (.cells deeZ 52 (0, 0)) := by rw [hW]; exact heap_alloc_new w _
  obtain ⟨ps, hps⟩ : ∃ ps, ps = cutC 32 s.data.toList := ⟨_, rfl⟩
  obtain ⟨r, hr⟩ : ∃ r, r = deedW ps := ⟨_, rfl⟩
  have e : deedIn s.data.toList = r := by rw [hr, hps]; rfl
  rw [e]
  clear e
  have C := rcut_parts s 32 32 rfl hs W
  have hcl := cut_le 32 s.data.toList
  have hcc : ps.length ≤ 1000001 := by
    rw [hps, cut_length]; have := List.count_le_length (a := (32 : UInt8)) (l := s.data.toList); rw [sizeL] at this; omega
  have h0n : 0 < ps.length := by rw [hps]; exact List.length_pos_iff.2 (cutC_ne _ _)
  rw [← hps] at C hcl
  have C := Lib.hid C; have Hcl := Lib.hid hcl; have HW := Lib.hid (hw.pr hwW); have HwW := Lib.hid hwW; have HbW := Lib.hid hbW; have HsW := Lib.hid hsW
  clear hw hwW hps hcl hbW hsW
  obtain ⟨x0, hx0⟩ : ∃ x : ByteArray, x = ⟨⟨ps[0]⟩⟩ := ⟨_, rfl⟩
  have M := fun W' => map3_any x0 W'
  have hl0 : x0.data.toList = ps[0] := by rw [hx0]
  rw [hl0] at M
  obtain ⟨mw, hmw⟩ : ∃ n, n = map3N ps[0] := ⟨_, rfl⟩
  rw [← hmw] at M
  have M := Lib.hid M; have Hx0 := Lib.hid hx0; have Hmw := Lib.hid hmw; have Hr := Lib.hid hr
  clear hx0 hl0 hmw hr
  go_enter Tryd.func26, Tryd.ntmps26
  go_upto_region 1 with fail
  rw [← hW]; clear hW
  go_upto_region 2 with (go_at_call 57; (with_reducible refine Calls.mono C.out ?_); rintro e w1 ⟨oa, cap, rfl, hst, hp⟩; obtain ⟨g, o, rfl, c0⟩ := Strs.get hst 0 h0n; have Hst := Lib.hid hst; clear hst)
  have hcell : ∀ (i : Nat) (hi : i < ps.length), w1.cell? ⟨g, o + i, none⟩ = some (.string ⟨⟨ps[i]⟩⟩) := fun i hi => by
    obtain ⟨g', o', e, c⟩ := Strs.get Hst.out i hi
    cases e; exact c
  rw [← Hx0.out, Nat.add_zero] at c0
  have Hcell := Lib.hid hcell
  clear hcell
  have Hp1 := Lib.hid hp
  have g0 : (0 : Int) < ps.length := by omega
  go_upto_region 3 with (go_at_call 62; (with_reducible refine Calls.mono (M.out _) ?_); rintro e w4 ⟨rfl, h14⟩)
  have hp := hp.trans h14
  by_cases hN3 : ps[0] = wName ∧ ps.length = 3
  · obtain ⟨hN, h3⟩ := hN3
    have hm : mw = 3 := by rw [Hmw.out]; unfold map3N; rw [hN]; rfl
    obtain rfl := hm
    have i1 : 1 < ps.length := by omega
    have i2 : 2 < ps.length := by omega
    have L3 := Lib.hid h3
    have l3 : ((ps.length : Int) != 3) = false := by simp; omega
    have l3' : (ps.length != 3) = false := by simp; omega
    clear h3
    obtain ⟨x1, hx1⟩ : ∃ x : ByteArray, x = ⟨⟨ps[1]⟩⟩ := ⟨_, rfl⟩
    have hs1 : x1.size ≤ 1000000 := by
      have h1 := Hcl.out ps[1] (List.getElem_mem _)
      rw [sizeL] at h1
      have h2 : x1.size = ps[1].length := by rw [hx1]; rfl
      omega
    have hl1 : x1.data.toList = ps[1] := by rw [hx1]
    obtain ⟨op, hop⟩ : ∃ op, op = pathIn ps[1] := ⟨_, rfl⟩
    have PA : Calls Tryd.prog 21 #[.string x1] w4 (PathPost ps[1] w4) := by
      have := pathIn_any x1 hs1 w4 (HW.out.pr hp)
      rwa [hl1] at this
    unfold PathPost at PA
    rw [← hop] at PA
    have PA := Lib.hid PA; have Hop := Lib.hid hop
    have c1 := h14.cell (Hcell.out 1 i1)
    rw [← hx1] at c1
    have g1 : (1 : Int) < ps.length := by omega
    clear hx1 hl1 hop
    cases op with
    | none =>
      have hz := deedW_path i1 Hop.out.symm
      rw [← Hr.out] at hz
      have Hz := Lib.hid hz
      clear hz
      go_wp2_with (go_at_call 21; (with_reducible refine Calls.mono PA.out ?_); rintro e w5 ⟨pa, pc, rfl, hpi, hp5⟩; have hp := hp.trans hp5; have hbk := hp.blk HbW.out; have z0 := blk_cell (o := 0) hbk; have z1 := blk_cell (o := 1) hbk; have z2 := blk_cell (o := 2) hbk; have z3 := blk_cell (o := 3) hbk; have z4 := blk_cell (o := 4) hbk; have y0 : w5.frozen? ⟨w.heap.size, 0, none⟩ = false := blk_frozen hbk; have y1 : w5.frozen? ⟨w.heap.size, 1, none⟩ = false := blk_frozen hbk; have y2 : w5.frozen? ⟨w.heap.size, 2, none⟩ = false := blk_frozen hbk; have y3 : w5.frozen? ⟨w.heap.size, 3, none⟩ = false := blk_frozen hbk; have y4 : w5.frozen? ⟨w.heap.size, 4, none⟩ = false := blk_frozen hbk; simp only [deeZ, List.getElem?_toArray, List.getElem?_cons_zero, List.getElem?_cons_succ] at z0 z1 z2 z3 z4)
      have hq5 := set5 (.int .i64 0) (.slice none 0 0) (.int .i64 0) (.int .i64 0) (.string ⟨#[]⟩) hbk
      have q0 := blk_cell (o := 0) hq5; have q1 := blk_cell (o := 1) hq5; have q2 := blk_cell (o := 2) hq5; have q3 := blk_cell (o := 3) hq5; have q4 := blk_cell (o := 4) hq5
      simp only [List.getElem?_toArray, List.getElem?_cons_zero, List.getElem?_cons_succ] at q0 q1 q2 q3 q4
      refine bodyPost_ret (v := .tuple #[.agg #[.int .i64 0, .slice none 0 0, .int .i64 0, .int .i64 0, .string ⟨#[]⟩], .int .i64 6]) (by simp [results, Tryd.results26, go_sem, q0, q1, q2, q3, q4]) rfl ?_
      rw [Hz.out]; exact ⟨none, 0, rfl, Flat.nil _ _ _ _ (Nat.zero_le _), (by show (⟨#[]⟩ : ByteArray).size ≤ 1000000; decide), pr5 (HwW.out.trans hp) (Nat.le_refl _) _ _ _ _ _⟩
    | some q =>
      go_upto_region 6 with (go_at_call 21; (with_reducible refine Calls.mono PA.out ?_); rintro e w5 ⟨pa, pc, rfl, hpi, hp5⟩)
      have hp5W := hp.trans hp5
      go_upto_region 9 with fail
      obtain ⟨w6, hw6⟩ : ∃ w6, w6 = w5.alloc (.cells #[.int .i64 2, .slice pa q.length pc, .int .i64 0, .int .i64 0, .string ⟨#[]⟩] 52) := ⟨_, rfl⟩
      rw [← hw6]
      have hB : w6.heap[w5.heap.size]? = some (.cells #[.int .i64 2, .slice pa q.length pc, .int .i64 0, .int .i64 0, .string ⟨#[]⟩] 52 (0, 0)) := by rw [hw6]; exact heap_alloc_new w5 _
      have h56 : Pr w5 w6 := by rw [hw6]; exact Pr.alloc _ _
      have hlt6 : w.heap.size < w5.heap.size := by have := hp5W.size; have := HsW.out; omega
      have hpi := Flat.pr h56 (hpi.mono (S' := fun k => w.heap.size + 1 ≤ k ∧ k < w5.heap.size) (fun k h hl => ⟨by have := Hp1.out.size; have := HsW.out; have : w4.heap.size ≤ k := h; have := h14.size; omega, hl⟩))
      have hp := hp5W.trans h56
      clear hw6
      obtain ⟨x2, hx2⟩ : ∃ x : ByteArray, x = ⟨⟨ps[2]⟩⟩ := ⟨_, rfl⟩
      have hs2 : x2.size ≤ 1000000 := by
        have h1 := Hcl.out ps[2] (List.getElem_mem _)
        rw [sizeL] at h1
        have h2 : x2.size = ps[2].length := by rw [hx2]; rfl
        omega
      have Hs2 := Lib.hid hs2
      have hz := deedW_name L3.out hN Hop.out.symm
      rw [← Hr.out, ← hx2] at hz
      have Hz := Lib.hid hz
      have c2 := h56.cell (hp5.cell (h14.cell (Hcell.out 2 i2)))
      rw [← hx2] at c2
      have g2 : (2 : Int) < ps.length := by omega
      clear hx2 hz hs2
      have e0 := blk_cell (o := 0) hB; have e1 := blk_cell (o := 1) hB; have e2 := blk_cell (o := 2) hB; have e3 := blk_cell (o := 3) hB; have e4 := blk_cell (o := 4) hB; have f0 : w6.frozen? ⟨w5.heap.size, 0, none⟩ = false := blk_frozen hB; have f1 : w6.frozen? ⟨w5.heap.size, 1, none⟩ = false := blk_frozen hB; have f2 : w6.frozen? ⟨w5.heap.size, 2, none⟩ = false := blk_frozen hB; have f3 : w6.frozen? ⟨w5.heap.size, 3, none⟩ = false := blk_frozen hB; have f4 : w6.frozen? ⟨w5.heap.size, 4, none⟩ = false := blk_frozen hB; simp only [List.getElem?_toArray, List.getElem?_cons_zero, List.getElem?_cons_succ] at e0 e1 e2 e3 e4
      go_upto_region 10 with fail
      go_region
      obtain ⟨w7, hw7⟩ : ∃ w7, w7 = ((w6.setCell ⟨w5.heap.size, 0, none⟩ (.int .i64 1)).setCell ⟨w5.heap.size, 4, none⟩ (.string x2)).drew := ⟨_, rfl⟩
      rw [← hw7]
      have hge : W.heap.size ≤ w5.heap.size := hp5W.size
      have hnS : ¬ (fun k => w.heap.size + 1 ≤ k ∧ k < w5.heap.size) w5.heap.size := fun h => Nat.lt_irrefl _ h.2
      have hB : w7.heap[w5.heap.size]? = some (.cells #[.int .i64 1, .slice pa q.length pc, .int .i64 0, .int .i64 0, .string x2] 52 (0, 0)) := by rw [hw7]; show (((w6.setCell ⟨w5.heap.size, 0, none⟩ (.int .i64 1)).setCell ⟨w5.heap.size, 4, none⟩ (.string x2))).heap[w5.heap.size]? = _; have := (blk_set (o := 4) (blk_set (o := 0) hB (.int .i64 1)) (.string x2)); simpa using this
      have hp : Pr W w7 := by rw [hw7]; exact (((hp.setCell hge (.int .i64 1)).setCell hge (.string x2)).drew')
      have hpi : Ints (fun k => w.heap.size + 1 ≤ k ∧ k < w5.heap.size) w7 q pa pc := by rw [hw7]; exact (Flat.pr (Pr.drew _) (Flat.kept (kept_setCell _ _ _ _ hnS) (Flat.kept (kept_setCell _ _ _ _ hnS) hpi)))
      clear hw7 e0 e1 e2 e3 e4 f0 f1 f2 f3 f4
      have e0 := blk_cell (o := 0) hB; have e1 := blk_cell (o := 1) hB; have e2 := blk_cell (o := 2) hB; have e3 := blk_cell (o := 3) hB; have e4 := blk_cell (o := 4) hB
      simp only [List.getElem?_toArray, List.getElem?_cons_zero, List.getElem?_cons_succ] at e0 e1 e2 e3 e4
      have K := dfault_any 1 q 0 0 x2 pa pc w7 (by unfold maxLen; have := Hs2.out; omega) (Flat.any hpi)
      obtain ⟨c, hc⟩ : ∃ c, c = dfault ⟨1, q, 0, 0, x2⟩ := ⟨_, rfl⟩
      rw [← hc] at K
      have K := Lib.hid K; have Hc := Lib.hid hc
      clear hc
      by_cases hc0 : c = 0
      · obtain rfl := hc0
        go_wp2_with (go_at_call 63; (with_reducible refine Calls.mono K.out ?_); rintro e w8 ⟨rfl, hp8⟩; have e0 := hp8.cell e0; have e1 := hp8.cell e1; have e2 := hp8.cell e2; have e3 := hp8.cell e3; have e4 := hp8.cell e4; have hp := hp.trans hp8; have hbk := hp.blk HbW.out; have z0 := blk_cell (o := 0) hbk; have z1 := blk_cell (o := 1) hbk; have z2 := blk_cell (o := 2) hbk; have z3 := blk_cell (o := 3) hbk; have z4 := blk_cell (o := 4) hbk; have y0 : w8.frozen? ⟨w.heap.size, 0, none⟩ = false := blk_frozen hbk; have y1 : w8.frozen? ⟨w.heap.size, 1, none⟩ = false := blk_frozen hbk; have y2 : w8.frozen? ⟨w.heap.size, 2, none⟩ = false := blk_frozen hbk; have y3 : w8.frozen? ⟨w.heap.size, 3, none⟩ = false := blk_frozen hbk; have y4 : w8.frozen? ⟨w.heap.size, 4, none⟩ = false := blk_frozen hbk; simp only [deeZ, List.getElem?_toArray, List.getElem?_cons_zero, List.getElem?_cons_succ] at z0 z1 z2 z3 z4)
        have hq5 := set5 (.int .i64 1) (.slice pa q.length pc) (.int .i64 0) (.int .i64 0) (.string x2) hbk
        have q0 := blk_cell (o := 0) hq5; have q1 := blk_cell (o := 1) hq5; have q2 := blk_cell (o := 2) hq5; have q3 := blk_cell (o := 3) hq5; have q4 := blk_cell (o := 4) hq5
        simp only [List.getElem?_toArray, List.getElem?_cons_zero, List.getElem?_cons_succ] at q0 q1 q2 q3 q4
        refine bodyPost_ret (v := .tuple #[.agg #[.int .i64 1, .slice pa q.length pc, .int .i64 0, .int .i64 0, .string x2], .int .i64 0]) (by simp [results, Tryd.results26, go_sem, q0, q1, q2, q3, q4]) rfl ?_
        rw [Hz.out, chk_ok (d := ⟨1, q, 0, 0, x2⟩) Hc.out.symm]; exact ⟨pa, pc, rfl, (ints5 (Flat.pr hp8 hpi) (fun h => by have := h.1; omega) _ _ _ _ _).mono (fun k h _ => by have := h.1; show w.heap.size ≤ k; omega), by show (x2 : ByteArray).size ≤ _; have := Hs2.out; omega, pr5 (HwW.out.trans hp) (Nat.le_refl _) _ _ _ _ _⟩
      · have n0 : ((c : Int) != 0) = true := by simp [bne_iff_ne]; omega
        have n1 : (c != 0) = true := by simp [bne_iff_ne]; omega
        have hbad := chk_bad (d := ⟨1, q, 0, 0, x2⟩) (by rw [← Hc.out]; exact hc0)
        rw [← Hc.out] at hbad
        have Hbad := Lib.hid hbad
        clear hbad hc0
        go_wp2_with (go_at_call 63; (with_reducible refine Calls.mono K.out ?_); rintro e w8 ⟨rfl, hp8⟩; have e0 := hp8.cell e0; have hp := hp.trans hp8; have hbk := hp.blk HbW.out; have z0 := blk_cell (o := 0) hbk; have z1 := blk_cell (o := 1) hbk; have z2 := blk_cell (o := 2) hbk; have z3 := blk_cell (o := 3) hbk; have z4 := blk_cell (o := 4) hbk; have y0 : w8.frozen? ⟨w.heap.size, 0, none⟩ = false := blk_frozen hbk; have y1 : w8.frozen? ⟨w.heap.size, 1, none⟩ = false := blk_frozen hbk; have y2 : w8.frozen? ⟨w.heap.size, 2, none⟩ = false := blk_frozen hbk; have y3 : w8.frozen? ⟨w.heap.size, 3, none⟩ = false := blk_frozen hbk; have y4 : w8.frozen? ⟨w.heap.size, 4, none⟩ = false := blk_frozen hbk; simp only [deeZ, List.getElem?_toArray, List.getElem?_cons_zero, List.getElem?_cons_succ] at z0 z1 z2 z3 z4)
        have hq5 := set5 (.int .i64 0) (.slice none 0 0) (.int .i64 0) (.int .i64 0) (.string ⟨#[]⟩) hbk
        have q0 := blk_cell (o := 0) hq5; have q1 := blk_cell (o := 1) hq5; have q2 := blk_cell (o := 2) hq5; have q3 := blk_cell (o := 3) hq5; have q4 := blk_cell (o := 4) hq5
        simp only [List.getElem?_toArray, List.getElem?_cons_zero, List.getElem?_cons_succ] at q0 q1 q2 q3 q4
        refine bodyPost_ret (v := .tuple #[.agg #[.int .i64 0, .slice none 0 0, .int .i64 0, .int .i64 0, .string ⟨#[]⟩], .int .i64 (c : Int)]) (by simp [results, Tryd.results26, go_sem, q0, q1, q2, q3, q4]) rfl ?_
        rw [Hz.out, Hbad.out]; exact ⟨none, 0, rfl, Flat.nil _ _ _ _ (Nat.zero_le _), (by show (⟨#[]⟩ : ByteArray).size ≤ 1000000; decide), pr5 (HwW.out.trans hp) (Nat.le_refl _) _ _ _ _ _⟩
  · by_cases hD3 : ps[0] = wDelete ∧ ps.length = 2
    · obtain ⟨hD, h3⟩ := hD3
      have hm : mw = 2 := by rw [Hmw.out]; unfold map3N; rw [hD]; rfl
      obtain rfl := hm
      have i1 : 1 < ps.length := by omega
      have L3 := Lib.hid h3
      have l3 : ((ps.length : Int) != 2) = false := by simp; omega
      have l3' : (ps.length != 2) = false := by simp; omega
      clear h3
      obtain ⟨x1, hx1⟩ : ∃ x : ByteArray, x = ⟨⟨ps[1]⟩⟩ := ⟨_, rfl⟩
      have hs1 : x1.size ≤ 1000000 := by
        have h1 := Hcl.out ps[1] (List.getElem_mem _)
        rw [sizeL] at h1
        have h2 : x1.size = ps[1].length := by rw [hx1]; rfl
        omega
      have hl1 : x1.data.toList = ps[1] := by rw [hx1]
      obtain ⟨op, hop⟩ : ∃ op, op = pathIn ps[1] := ⟨_, rfl⟩
      have PA : Calls Tryd.prog 21 #[.string x1] w4 (PathPost ps[1] w4) := by
        have := pathIn_any x1 hs1 w4 (HW.out.pr hp)
        rwa [hl1] at this
      unfold PathPost at PA
      rw [← hop] at PA
      have PA := Lib.hid PA; have Hop := Lib.hid hop
      have c1 := h14.cell (Hcell.out 1 i1)
      rw [← hx1] at c1
      have g1 : (1 : Int) < ps.length := by omega
      clear hx1 hl1 hop
      cases op with
      | none =>
        have hz := deedW_path i1 Hop.out.symm
        rw [← Hr.out] at hz
        have Hz := Lib.hid hz
        clear hz
        go_wp2_with (go_at_call 21; (with_reducible refine Calls.mono PA.out ?_); rintro e w5 ⟨pa, pc, rfl, hpi, hp5⟩; have hp := hp.trans hp5; have hbk := hp.blk HbW.out; have z0 := blk_cell (o := 0) hbk; have z1 := blk_cell (o := 1) hbk; have z2 := blk_cell (o := 2) hbk; have z3 := blk_cell (o := 3) hbk; have z4 := blk_cell (o := 4) hbk; have y0 : w5.frozen? ⟨w.heap.size, 0, none⟩ = false := blk_frozen hbk; have y1 : w5.frozen? ⟨w.heap.size, 1, none⟩ = false := blk_frozen hbk; have y2 : w5.frozen? ⟨w.heap.size, 2, none⟩ = false := blk_frozen hbk; have y3 : w5.frozen? ⟨w.heap.size, 3, none⟩ = false := blk_frozen hbk; have y4 : w5.frozen? ⟨w.heap.size, 4, none⟩ = false := blk_frozen hbk; simp only [deeZ, List.getElem?_toArray, List.getElem?_cons_zero, List.getElem?_cons_succ] at z0 z1 z2 z3 z4)
        have hq5 := set5 (.int .i64 0) (.slice none 0 0) (.int .i64 0) (.int .i64 0) (.string ⟨#[]⟩) hbk
        have q0 := blk_cell (o := 0) hq5; have q1 := blk_cell (o := 1) hq5; have q2 := blk_cell (o := 2) hq5; have q3 := blk_cell (o := 3) hq5; have q4 := blk_cell (o := 4) hq5
        simp only [List.getElem?_toArray, List.getElem?_cons_zero, List.getElem?_cons_succ] at q0 q1 q2 q3 q4
        refine bodyPost_ret (v := .tuple #[.agg #[.int .i64 0, .slice none 0 0, .int .i64 0, .int .i64 0, .string ⟨#[]⟩], .int .i64 6]) (by simp [results, Tryd.results26, go_sem, q0, q1, q2, q3, q4]) rfl ?_
        rw [Hz.out]; exact ⟨none, 0, rfl, Flat.nil _ _ _ _ (Nat.zero_le _), (by show (⟨#[]⟩ : ByteArray).size ≤ 1000000; decide), pr5 (HwW.out.trans hp) (Nat.le_refl _) _ _ _ _ _⟩
      | some q =>
        go_upto_region 6 with (go_at_call 21; (with_reducible refine Calls.mono PA.out ?_); rintro e w5 ⟨pa, pc, rfl, hpi, hp5⟩)
        have hp5W := hp.trans hp5
        go_upto_region 9 with fail
        obtain ⟨w6, hw6⟩ : ∃ w6, w6 = w5.alloc (.cells #[.int .i64 2, .slice pa q.length pc, .int .i64 0, .int .i64 0, .string ⟨#[]⟩] 52) := ⟨_, rfl⟩
        rw [← hw6]
        have hB : w6.heap[w5.heap.size]? = some (.cells #[.int .i64 2, .slice pa q.length pc, .int .i64 0, .int .i64 0, .string ⟨#[]⟩] 52 (0, 0)) := by rw [hw6]; exact heap_alloc_new w5 _
        have h56 : Pr w5 w6 := by rw [hw6]; exact Pr.alloc _ _
        have hlt6 : w.heap.size < w5.heap.size := by have := hp5W.size; have := HsW.out; omega
        have hpi := Flat.pr h56 (hpi.mono (S' := fun k => w.heap.size + 1 ≤ k ∧ k < w5.heap.size) (fun k h hl => ⟨by have := Hp1.out.size; have := HsW.out; have : w4.heap.size ≤ k := h; have := h14.size; omega, hl⟩))
        have hp := hp5W.trans h56
        clear hw6
        have hz := deedW_delete L3.out hD Hop.out.symm
        rw [← Hr.out] at hz
        have Hz := Lib.hid hz
        clear hz
        have e0 := blk_cell (o := 0) hB; have e1 := blk_cell (o := 1) hB; have e2 := blk_cell (o := 2) hB; have e3 := blk_cell (o := 3) hB; have e4 := blk_cell (o := 4) hB; have f0 : w6.frozen? ⟨w5.heap.size, 0, none⟩ = false := blk_frozen hB; have f1 : w6.frozen? ⟨w5.heap.size, 1, none⟩ = false := blk_frozen hB; have f2 : w6.frozen? ⟨w5.heap.size, 2, none⟩ = false := blk_frozen hB; have f3 : w6.frozen? ⟨w5.heap.size, 3, none⟩ = false := blk_frozen hB; have f4 : w6.frozen? ⟨w5.heap.size, 4, none⟩ = false := blk_frozen hB; simp only [List.getElem?_toArray, List.getElem?_cons_zero, List.getElem?_cons_succ] at e0 e1 e2 e3 e4
        go_upto_region 17 with fail
        obtain ⟨w7, hw7⟩ : ∃ w7, w7 = w6 := ⟨_, rfl⟩
        rw [← hw7]
        have hge : W.heap.size ≤ w5.heap.size := hp5W.size
        have hnS : ¬ (fun k => w.heap.size + 1 ≤ k ∧ k < w5.heap.size) w5.heap.size := fun h => Nat.lt_irrefl _ h.2
        have hB : w7.heap[w5.heap.size]? = some (.cells #[.int .i64 2, .slice pa q.length pc, .int .i64 0, .int .i64 0, .string ⟨#[]⟩] 52 (0, 0)) := by rw [hw7]; show (w6).heap[w5.heap.size]? = _; have := hB; simpa using this
        have hp : Pr W w7 := by rw [hw7]; exact hp
        have hpi : Ints (fun k => w.heap.size + 1 ≤ k ∧ k < w5.heap.size) w7 q pa pc := by rw [hw7]; exact hpi
        clear hw7 e0 e1 e2 e3 e4 f0 f1 f2 f3 f4
        have e0 := blk_cell (o := 0) hB; have e1 := blk_cell (o := 1) hB; have e2 := blk_cell (o := 2) hB; have e3 := blk_cell (o := 3) hB; have e4 := blk_cell (o := 4) hB
        simp only [List.getElem?_toArray, List.getElem?_cons_zero, List.getElem?_cons_succ] at e0 e1 e2 e3 e4
        have K := dfault_any 2 q 0 0 ⟨#[]⟩ pa pc w7 (by unfold maxLen; show (⟨#[]⟩ : ByteArray).size ≤ _; decide) (Flat.any hpi)
        obtain ⟨c, hc⟩ : ∃ c, c = dfault ⟨2, q, 0, 0, ⟨#[]⟩⟩ := ⟨_, rfl⟩
        rw [← hc] at K
        have K := Lib.hid K; have Hc := Lib.hid hc
        clear hc
        by_cases hc0 : c = 0
        · obtain rfl := hc0
          go_wp2_with (go_at_call 63; (with_reducible refine Calls.mono K.out ?_); rintro e w8 ⟨rfl, hp8⟩; have e0 := hp8.cell e0; have e1 := hp8.cell e1; have e2 := hp8.cell e2; have e3 := hp8.cell e3; have e4 := hp8.cell e4; have hp := hp.trans hp8; have hbk := hp.blk HbW.out; have z0 := blk_cell (o := 0) hbk; have z1 := blk_cell (o := 1) hbk; have z2 := blk_cell (o := 2) hbk; have z3 := blk_cell (o := 3) hbk; have z4 := blk_cell (o := 4) hbk; have y0 : w8.frozen? ⟨w.heap.size, 0, none⟩ = false := blk_frozen hbk; have y1 : w8.frozen? ⟨w.heap.size, 1, none⟩ = false := blk_frozen hbk; have y2 : w8.frozen? ⟨w.heap.size, 2, none⟩ = false := blk_frozen hbk; have y3 : w8.frozen? ⟨w.heap.size, 3, none⟩ = false := blk_frozen hbk; have y4 : w8.frozen? ⟨w.heap.size, 4, none⟩ = false := blk_frozen hbk; simp only [deeZ, List.getElem?_toArray, List.getElem?_cons_zero, List.getElem?_cons_succ] at z0 z1 z2 z3 z4)
          have hq5 := set5 (.int .i64 2) (.slice pa q.length pc) (.int .i64 0) (.int .i64 0) (.string ⟨#[]⟩) hbk
          have q0 := blk_cell (o := 0) hq5; have q1 := blk_cell (o := 1) hq5; have q2 := blk_cell (o := 2) hq5; have q3 := blk_cell (o := 3) hq5; have q4 := blk_cell (o := 4) hq5
          simp only [List.getElem?_toArray, List.getElem?_cons_zero, List.getElem?_cons_succ] at q0 q1 q2 q3 q4
          refine bodyPost_ret (v := .tuple #[.agg #[.int .i64 2, .slice pa q.length pc, .int .i64 0, .int .i64 0, .string ⟨#[]⟩], .int .i64 0]) (by simp [results, Tryd.results26, go_sem, q0, q1, q2, q3, q4]) rfl ?_
          rw [Hz.out, chk_ok (d := ⟨2, q, 0, 0, ⟨#[]⟩⟩) Hc.out.symm]; exact ⟨pa, pc, rfl, (ints5 (Flat.pr hp8 hpi) (fun h => by have := h.1; omega) _ _ _ _ _).mono (fun k h _ => by have := h.1; show w.heap.size ≤ k; omega), by show (⟨#[]⟩ : ByteArray).size ≤ _; show (⟨#[]⟩ : ByteArray).size ≤ _; decide, pr5 (HwW.out.trans hp) (Nat.le_refl _) _ _ _ _ _⟩
        · have n0 : ((c : Int) != 0) = true := by simp [bne_iff_ne]; omega
          have n1 : (c != 0) = true := by simp [bne_iff_ne]; omega
          have hbad := chk_bad (d := ⟨2, q, 0, 0, ⟨#[]⟩⟩) (by rw [← Hc.out]; exact hc0)
          rw [← Hc.out] at hbad
          have Hbad := Lib.hid hbad
          clear hbad hc0
          go_wp2_with (go_at_call 63; (with_reducible refine Calls.mono K.out ?_); rintro e w8 ⟨rfl, hp8⟩; have e0 := hp8.cell e0; have hp := hp.trans hp8; have hbk := hp.blk HbW.out; have z0 := blk_cell (o := 0) hbk; have z1 := blk_cell (o := 1) hbk; have z2 := blk_cell (o := 2) hbk; have z3 := blk_cell (o := 3) hbk; have z4 := blk_cell (o := 4) hbk; have y0 : w8.frozen? ⟨w.heap.size, 0, none⟩ = false := blk_frozen hbk; have y1 : w8.frozen? ⟨w.heap.size, 1, none⟩ = false := blk_frozen hbk; have y2 : w8.frozen? ⟨w.heap.size, 2, none⟩ = false := blk_frozen hbk; have y3 : w8.frozen? ⟨w.heap.size, 3, none⟩ = false := blk_frozen hbk; have y4 : w8.frozen? ⟨w.heap.size, 4, none⟩ = false := blk_frozen hbk; simp only [deeZ, List.getElem?_toArray, List.getElem?_cons_zero, List.getElem?_cons_succ] at z0 z1 z2 z3 z4)
          have hq5 := set5 (.int .i64 0) (.slice none 0 0) (.int .i64 0) (.int .i64 0) (.string ⟨#[]⟩) hbk
          have q0 := blk_cell (o := 0) hq5; have q1 := blk_cell (o := 1) hq5; have q2 := blk_cell (o := 2) hq5; have q3 := blk_cell (o := 3) hq5; have q4 := blk_cell (o := 4) hq5
          simp only [List.getElem?_toArray, List.getElem?_cons_zero, List.getElem?_cons_succ] at q0 q1 q2 q3 q4
          refine bodyPost_ret (v := .tuple #[.agg #[.int .i64 0, .slice none 0 0, .int .i64 0, .int .i64 0, .string ⟨#[]⟩], .int .i64 (c : Int)]) (by simp [results, Tryd.results26, go_sem, q0, q1, q2, q3, q4]) rfl ?_
          rw [Hz.out, Hbad.out]; exact ⟨none, 0, rfl, Flat.nil _ _ _ _ (Nat.zero_le _), (by show (⟨#[]⟩ : ByteArray).size ≤ 1000000; decide), pr5 (HwW.out.trans hp) (Nat.le_refl _) _ _ _ _ _⟩
    · by_cases hI3 : ps[0] = wInsert ∧ ps.length = 5
      · obtain ⟨hI, h3⟩ := hI3
        have hm : mw = 5 := by rw [Hmw.out]; unfold map3N; rw [hI]; rfl
        obtain rfl := hm
        have i1 : 1 < ps.length := by omega
        have i2 : 2 < ps.length := by omega
        have i3 : 3 < ps.length := by omega
        have i4 : 4 < ps.length := by omega
        have L3 := Lib.hid h3
        have l3 : ((ps.length : Int) != 5) = false := by simp; omega
        have l3' : (ps.length != 5) = false := by simp; omega
        clear h3
        obtain ⟨x1, hx1⟩ : ∃ x : ByteArray, x = ⟨⟨ps[1]⟩⟩ := ⟨_, rfl⟩
        have hs1 : x1.size ≤ 1000000 := by
          have h1 := Hcl.out ps[1] (List.getElem_mem _)
          rw [sizeL] at h1
          have h2 : x1.size = ps[1].length := by rw [hx1]; rfl
          omega
        have hl1 : x1.data.toList = ps[1] := by rw [hx1]
        obtain ⟨op, hop⟩ : ∃ op, op = pathIn ps[1] := ⟨_, rfl⟩
        have PA : Calls Tryd.prog 21 #[.string x1] w4 (PathPost ps[1] w4) := by
          have := pathIn_any x1 hs1 w4 (HW.out.pr hp)
          rwa [hl1] at this
        unfold PathPost at PA
        rw [← hop] at PA
        have PA := Lib.hid PA; have Hop := Lib.hid hop
        have c1 := h14.cell (Hcell.out 1 i1)
        rw [← hx1] at c1
        have g1 : (1 : Int) < ps.length := by omega
        clear hx1 hl1 hop
        cases op with
        | none =>
          have hz := deedW_path i1 Hop.out.symm
          rw [← Hr.out] at hz
          have Hz := Lib.hid hz
          clear hz
          go_wp2_with (go_at_call 21; (with_reducible refine Calls.mono PA.out ?_); rintro e w5 ⟨pa, pc, rfl, hpi, hp5⟩; have hp := hp.trans hp5; have hbk := hp.blk HbW.out; have z0 := blk_cell (o := 0) hbk; have z1 := blk_cell (o := 1) hbk; have z2 := blk_cell (o := 2) hbk; have z3 := blk_cell (o := 3) hbk; have z4 := blk_cell (o := 4) hbk; have y0 : w5.frozen? ⟨w.heap.size, 0, none⟩ = false := blk_frozen hbk; have y1 : w5.frozen? ⟨w.heap.size, 1, none⟩ = false := blk_frozen hbk; have y2 : w5.frozen? ⟨w.heap.size, 2, none⟩ = false := blk_frozen hbk; have y3 : w5.frozen? ⟨w.heap.size, 3, none⟩ = false := blk_frozen hbk; have y4 : w5.frozen? ⟨w.heap.size, 4, none⟩ = false := blk_frozen hbk; simp only [deeZ, List.getElem?_toArray, List.getElem?_cons_zero, List.getElem?_cons_succ] at z0 z1 z2 z3 z4)
          have hq5 := set5 (.int .i64 0) (.slice none 0 0) (.int .i64 0) (.int .i64 0) (.string ⟨#[]⟩) hbk
          have q0 := blk_cell (o := 0) hq5; have q1 := blk_cell (o := 1) hq5; have q2 := blk_cell (o := 2) hq5; have q3 := blk_cell (o := 3) hq5; have q4 := blk_cell (o := 4) hq5
          simp only [List.getElem?_toArray, List.getElem?_cons_zero, List.getElem?_cons_succ] at q0 q1 q2 q3 q4
          refine bodyPost_ret (v := .tuple #[.agg #[.int .i64 0, .slice none 0 0, .int .i64 0, .int .i64 0, .string ⟨#[]⟩], .int .i64 6]) (by simp [results, Tryd.results26, go_sem, q0, q1, q2, q3, q4]) rfl ?_
          rw [Hz.out]; exact ⟨none, 0, rfl, Flat.nil _ _ _ _ (Nat.zero_le _), (by show (⟨#[]⟩ : ByteArray).size ≤ 1000000; decide), pr5 (HwW.out.trans hp) (Nat.le_refl _) _ _ _ _ _⟩
        | some q =>
          go_upto_region 6 with (go_at_call 21; (with_reducible refine Calls.mono PA.out ?_); rintro e w5 ⟨pa, pc, rfl, hpi, hp5⟩)
          have hp5W := hp.trans hp5
          go_upto_region 9 with fail
          obtain ⟨w6, hw6⟩ : ∃ w6, w6 = w5.alloc (.cells #[.int .i64 2, .slice pa q.length pc, .int .i64 0, .int .i64 0, .string ⟨#[]⟩] 52) := ⟨_, rfl⟩
          rw [← hw6]
          have hB : w6.heap[w5.heap.size]? = some (.cells #[.int .i64 2, .slice pa q.length pc, .int .i64 0, .int .i64 0, .string ⟨#[]⟩] 52 (0, 0)) := by rw [hw6]; exact heap_alloc_new w5 _
          have h56 : Pr w5 w6 := by rw [hw6]; exact Pr.alloc _ _
          have hlt6 : w.heap.size < w5.heap.size := by have := hp5W.size; have := HsW.out; omega
          have hpi := Flat.pr h56 (hpi.mono (S' := fun k => w.heap.size + 1 ≤ k ∧ k < w5.heap.size) (fun k h hl => ⟨by have := Hp1.out.size; have := HsW.out; have : w4.heap.size ≤ k := h; have := h14.size; omega, hl⟩))
          have hp := hp5W.trans h56
          clear hw6
          have hz := deedW_insert L3.out hI Hop.out.symm
          obtain ⟨x2, hx2⟩ : ∃ x : ByteArray, x = ⟨⟨ps[2]⟩⟩ := ⟨_, rfl⟩
          obtain ⟨x3, hx3⟩ : ∃ x : ByteArray, x = ⟨⟨ps[3]⟩⟩ := ⟨_, rfl⟩
          obtain ⟨x4, hx4⟩ : ∃ x : ByteArray, x = ⟨⟨ps[4]⟩⟩ := ⟨_, rfl⟩
          obtain ⟨o2, ho2⟩ : ∃ x, x = fewN ps[2] := ⟨_, rfl⟩
          obtain ⟨o3, ho3⟩ : ∃ x, x = fewN ps[3] := ⟨_, rfl⟩
          rw [← Hr.out, ← hx4, ← ho2, ← ho3] at hz
          have hs2 : x2.size ≤ 1000000 := by
            have h1 := Hcl.out ps[2] (List.getElem_mem _)
            rw [sizeL] at h1
            have h2 : x2.size = ps[2].length := by rw [hx2]; rfl
            omega
          have hs3 : x3.size ≤ 1000000 := by
            have h1 := Hcl.out ps[3] (List.getElem_mem _)
            rw [sizeL] at h1
            have h2 : x3.size = ps[3].length := by rw [hx3]; rfl
            omega
          have hs4 : x4.size ≤ 1000000 := by
            have h1 := Hcl.out ps[4] (List.getElem_mem _)
            rw [sizeL] at h1
            have h2 : x4.size = ps[4].length := by rw [hx4]; rfl
            omega
          have F2 : ∀ W', Calls Tryd.prog 59 #[.string x2] W' fun e w' => ∃ v : Int, e = .returned (.tuple #[.int .i64 v, .bool o2.isSome]) ∧ (∀ n, o2 = some n → v = (n : Int)) ∧ Pr W' w' := fun W' => by
            rw [ho2, ← show x2.data.toList = ps[2] by rw [hx2]]; exact few_any x2 hs2 W'
          have F2 := Lib.hid F2
          have F3 : ∀ W', Calls Tryd.prog 59 #[.string x3] W' fun e w' => ∃ v : Int, e = .returned (.tuple #[.int .i64 v, .bool o3.isSome]) ∧ (∀ n, o3 = some n → v = (n : Int)) ∧ Pr W' w' := fun W' => by
            rw [ho3, ← show x3.data.toList = ps[3] by rw [hx3]]; exact few_any x3 hs3 W'
          have F3 := Lib.hid F3
          have Hs2 := Lib.hid hs4; have Hz0 := Lib.hid hz
          have c2 := h56.cell (hp5.cell (h14.cell (Hcell.out 2 i2))); have c3 := h56.cell (hp5.cell (h14.cell (Hcell.out 3 i3))); have c4 := h56.cell (hp5.cell (h14.cell (Hcell.out 4 i4)))
          rw [← hx2] at c2
          rw [← hx3] at c3
          rw [← hx4] at c4
          have g2 : (2 : Int) < ps.length := by omega
          have g3 : (3 : Int) < ps.length := by omega
          have g4 : (4 : Int) < ps.length := by omega
          clear hx2 hx3 hx4 ho2 ho3 hz hs2 hs3 hs4
          go_upto_region 13 with (go_at_call 59; (with_reducible refine Calls.mono (F2.out _) ?_); rintro e wa ⟨va, rfl, hva, hpa⟩)
          have c3 := hpa.cell c3; have c4 := hpa.cell c4; have hpA := hp.trans hpa
          go_upto_region 14 with (go_at_call 59; (with_reducible refine Calls.mono (F3.out _) ?_); rintro e wb ⟨vb, rfl, hvb, hpb⟩)
          have c4 := hpb.cell c4
          have hB := (hpa.trans hpb).blk hB
          have hpi := Flat.pr (hpa.trans hpb) hpi
          have hp := hpA.trans hpb
          cases o2 with
          | none =>
            have Hz := Lib.hid (show r = (Dee.zero, 6) from Hz0.out)
            have hbk := hp.blk HbW.out; have z0 := blk_cell (o := 0) hbk; have z1 := blk_cell (o := 1) hbk; have z2 := blk_cell (o := 2) hbk; have z3 := blk_cell (o := 3) hbk; have z4 := blk_cell (o := 4) hbk; have y0 : wb.frozen? ⟨w.heap.size, 0, none⟩ = false := blk_frozen hbk; have y1 : wb.frozen? ⟨w.heap.size, 1, none⟩ = false := blk_frozen hbk; have y2 : wb.frozen? ⟨w.heap.size, 2, none⟩ = false := blk_frozen hbk; have y3 : wb.frozen? ⟨w.heap.size, 3, none⟩ = false := blk_frozen hbk; have y4 : wb.frozen? ⟨w.heap.size, 4, none⟩ = false := blk_frozen hbk; simp only [deeZ, List.getElem?_toArray, List.getElem?_cons_zero, List.getElem?_cons_succ] at z0 z1 z2 z3 z4
            go_wp2_with fail
            have hq5 := set5 (.int .i64 0) (.slice none 0 0) (.int .i64 0) (.int .i64 0) (.string ⟨#[]⟩) hbk
            have q0 := blk_cell (o := 0) hq5; have q1 := blk_cell (o := 1) hq5; have q2 := blk_cell (o := 2) hq5; have q3 := blk_cell (o := 3) hq5; have q4 := blk_cell (o := 4) hq5
            simp only [List.getElem?_toArray, List.getElem?_cons_zero, List.getElem?_cons_succ] at q0 q1 q2 q3 q4
            refine bodyPost_ret (v := .tuple #[.agg #[.int .i64 0, .slice none 0 0, .int .i64 0, .int .i64 0, .string ⟨#[]⟩], .int .i64 6]) (by simp [results, Tryd.results26, go_sem, q0, q1, q2, q3, q4]) rfl ?_
            rw [Hz.out]; exact ⟨none, 0, rfl, Flat.nil _ _ _ _ (Nat.zero_le _), (by show (⟨#[]⟩ : ByteArray).size ≤ 1000000; decide), pr5 (HwW.out.trans hp) (Nat.le_refl _) _ _ _ _ _⟩
          | some na =>
            cases o3 with
            | none =>
              have Hz := Lib.hid (show r = (Dee.zero, 6) from Hz0.out)
              have hbk := hp.blk HbW.out; have z0 := blk_cell (o := 0) hbk; have z1 := blk_cell (o := 1) hbk; have z2 := blk_cell (o := 2) hbk; have z3 := blk_cell (o := 3) hbk; have z4 := blk_cell (o := 4) hbk; have y0 : wb.frozen? ⟨w.heap.size, 0, none⟩ = false := blk_frozen hbk; have y1 : wb.frozen? ⟨w.heap.size, 1, none⟩ = false := blk_frozen hbk; have y2 : wb.frozen? ⟨w.heap.size, 2, none⟩ = false := blk_frozen hbk; have y3 : wb.frozen? ⟨w.heap.size, 3, none⟩ = false := blk_frozen hbk; have y4 : wb.frozen? ⟨w.heap.size, 4, none⟩ = false := blk_frozen hbk; simp only [deeZ, List.getElem?_toArray, List.getElem?_cons_zero, List.getElem?_cons_succ] at z0 z1 z2 z3 z4
              go_wp2_with fail
              have hq5 := set5 (.int .i64 0) (.slice none 0 0) (.int .i64 0) (.int .i64 0) (.string ⟨#[]⟩) hbk
              have q0 := blk_cell (o := 0) hq5; have q1 := blk_cell (o := 1) hq5; have q2 := blk_cell (o := 2) hq5; have q3 := blk_cell (o := 3) hq5; have q4 := blk_cell (o := 4) hq5
              simp only [List.getElem?_toArray, List.getElem?_cons_zero, List.getElem?_cons_succ] at q0 q1 q2 q3 q4
              refine bodyPost_ret (v := .tuple #[.agg #[.int .i64 0, .slice none 0 0, .int .i64 0, .int .i64 0, .string ⟨#[]⟩], .int .i64 6]) (by simp [results, Tryd.results26, go_sem, q0, q1, q2, q3, q4]) rfl ?_
              rw [Hz.out]; exact ⟨none, 0, rfl, Flat.nil _ _ _ _ (Nat.zero_le _), (by show (⟨#[]⟩ : ByteArray).size ≤ 1000000; decide), pr5 (HwW.out.trans hp) (Nat.le_refl _) _ _ _ _ _⟩
            | some nb =>
              obtain rfl := hva na rfl
              obtain rfl := hvb nb rfl
              have Hz := Lib.hid (show r = chk ⟨3, q, (na : Int), (nb : Int), x4⟩ from Hz0.out)
              have e0 := blk_cell (o := 0) hB; have e1 := blk_cell (o := 1) hB; have e2 := blk_cell (o := 2) hB; have e3 := blk_cell (o := 3) hB; have e4 := blk_cell (o := 4) hB; have f0 : wb.frozen? ⟨w5.heap.size, 0, none⟩ = false := blk_frozen hB; have f1 : wb.frozen? ⟨w5.heap.size, 1, none⟩ = false := blk_frozen hB; have f2 : wb.frozen? ⟨w5.heap.size, 2, none⟩ = false := blk_frozen hB; have f3 : wb.frozen? ⟨w5.heap.size, 3, none⟩ = false := blk_frozen hB; have f4 : wb.frozen? ⟨w5.heap.size, 4, none⟩ = false := blk_frozen hB; simp only [List.getElem?_toArray, List.getElem?_cons_zero, List.getElem?_cons_succ] at e0 e1 e2 e3 e4
              go_upto_region 16 with fail
              go_region
              obtain ⟨w7, hw7⟩ : ∃ w7, w7 = ((((wb.setCell ⟨w5.heap.size, 0, none⟩ (.int .i64 3)).setCell ⟨w5.heap.size, 2, none⟩ (.int .i64 (na : Int))).setCell ⟨w5.heap.size, 3, none⟩ (.int .i64 (nb : Int))).setCell ⟨w5.heap.size, 4, none⟩ (.string x4)).drew := ⟨_, rfl⟩
              rw [← hw7]
              have hge : W.heap.size ≤ w5.heap.size := hp5W.size
              have hnS : ¬ (fun k => w.heap.size + 1 ≤ k ∧ k < w5.heap.size) w5.heap.size := fun h => Nat.lt_irrefl _ h.2
              have hB : w7.heap[w5.heap.size]? = some (.cells #[.int .i64 3, .slice pa q.length pc, .int .i64 (na : Int), .int .i64 (nb : Int), .string x4] 52 (0, 0)) := by rw [hw7]; show (((((wb.setCell ⟨w5.heap.size, 0, none⟩ (.int .i64 3)).setCell ⟨w5.heap.size, 2, none⟩ (.int .i64 (na : Int))).setCell ⟨w5.heap.size, 3, none⟩ (.int .i64 (nb : Int))).setCell ⟨w5.heap.size, 4, none⟩ (.string x4))).heap[w5.heap.size]? = _; have := (blk_set (o := 4) (blk_set (o := 3) (blk_set (o := 2) (blk_set (o := 0) hB (.int .i64 3)) (.int .i64 (na : Int))) (.int .i64 (nb : Int))) (.string x4)); simpa using this
              have hp : Pr W w7 := by rw [hw7]; exact (((((hp.setCell hge (.int .i64 3)).setCell hge (.int .i64 (na : Int))).setCell hge (.int .i64 (nb : Int))).setCell hge (.string x4)).drew')
              have hpi : Ints (fun k => w.heap.size + 1 ≤ k ∧ k < w5.heap.size) w7 q pa pc := by rw [hw7]; exact (Flat.pr (Pr.drew _) (Flat.kept (kept_setCell _ _ _ _ hnS) (Flat.kept (kept_setCell _ _ _ _ hnS) (Flat.kept (kept_setCell _ _ _ _ hnS) (Flat.kept (kept_setCell _ _ _ _ hnS) hpi)))))
              clear hw7 e0 e1 e2 e3 e4 f0 f1 f2 f3 f4
              have e0 := blk_cell (o := 0) hB; have e1 := blk_cell (o := 1) hB; have e2 := blk_cell (o := 2) hB; have e3 := blk_cell (o := 3) hB; have e4 := blk_cell (o := 4) hB
              simp only [List.getElem?_toArray, List.getElem?_cons_zero, List.getElem?_cons_succ] at e0 e1 e2 e3 e4
              have K := dfault_any 3 q (na : Int) (nb : Int) x4 pa pc w7 (by unfold maxLen; have := Hs2.out; omega) (Flat.any hpi)
              obtain ⟨c, hc⟩ : ∃ c, c = dfault ⟨3, q, (na : Int), (nb : Int), x4⟩ := ⟨_, rfl⟩
              rw [← hc] at K
              have K := Lib.hid K; have Hc := Lib.hid hc
              clear hc
              by_cases hc0 : c = 0
              · obtain rfl := hc0
                go_wp2_with (go_at_call 63; (with_reducible refine Calls.mono K.out ?_); rintro e w8 ⟨rfl, hp8⟩; have e0 := hp8.cell e0; have e1 := hp8.cell e1; have e2 := hp8.cell e2; have e3 := hp8.cell e3; have e4 := hp8.cell e4; have hp := hp.trans hp8; have hbk := hp.blk HbW.out; have z0 := blk_cell (o := 0) hbk; have z1 := blk_cell (o := 1) hbk; have z2 := blk_cell (o := 2) hbk; have z3 := blk_cell (o := 3) hbk; have z4 := blk_cell (o := 4) hbk; have y0 : w8.frozen? ⟨w.heap.size, 0, none⟩ = false := blk_frozen hbk; have y1 : w8.frozen? ⟨w.heap.size, 1, none⟩ = false := blk_frozen hbk; have y2 : w8.frozen? ⟨w.heap.size, 2, none⟩ = false := blk_frozen hbk; have y3 : w8.frozen? ⟨w.heap.size, 3, none⟩ = false := blk_frozen hbk; have y4 : w8.frozen? ⟨w.heap.size, 4, none⟩ = false := blk_frozen hbk; simp only [deeZ, List.getElem?_toArray, List.getElem?_cons_zero, List.getElem?_cons_succ] at z0 z1 z2 z3 z4)
                have hq5 := set5 (.int .i64 3) (.slice pa q.length pc) (.int .i64 (na : Int)) (.int .i64 (nb : Int)) (.string x4) hbk
                have q0 := blk_cell (o := 0) hq5; have q1 := blk_cell (o := 1) hq5; have q2 := blk_cell (o := 2) hq5; have q3 := blk_cell (o := 3) hq5; have q4 := blk_cell (o := 4) hq5
                simp only [List.getElem?_toArray, List.getElem?_cons_zero, List.getElem?_cons_succ] at q0 q1 q2 q3 q4
                refine bodyPost_ret (v := .tuple #[.agg #[.int .i64 3, .slice pa q.length pc, .int .i64 (na : Int), .int .i64 (nb : Int), .string x4], .int .i64 0]) (by simp [results, Tryd.results26, go_sem, q0, q1, q2, q3, q4]) rfl ?_
                rw [Hz.out, chk_ok (d := ⟨3, q, (na : Int), (nb : Int), x4⟩) Hc.out.symm]; exact ⟨pa, pc, rfl, (ints5 (Flat.pr hp8 hpi) (fun h => by have := h.1; omega) _ _ _ _ _).mono (fun k h _ => by have := h.1; show w.heap.size ≤ k; omega), by show (x4 : ByteArray).size ≤ _; have := Hs2.out; omega, pr5 (HwW.out.trans hp) (Nat.le_refl _) _ _ _ _ _⟩
              · have n0 : ((c : Int) != 0) = true := by simp [bne_iff_ne]; omega
                have n1 : (c != 0) = true := by simp [bne_iff_ne]; omega
                have hbad := chk_bad (d := ⟨3, q, (na : Int), (nb : Int), x4⟩) (by rw [← Hc.out]; exact hc0)
                rw [← Hc.out] at hbad
                have Hbad := Lib.hid hbad
                clear hbad hc0
                go_wp2_with (go_at_call 63; (with_reducible refine Calls.mono K.out ?_); rintro e w8 ⟨rfl, hp8⟩; have e0 := hp8.cell e0; have hp := hp.trans hp8; have hbk := hp.blk HbW.out; have z0 := blk_cell (o := 0) hbk; have z1 := blk_cell (o := 1) hbk; have z2 := blk_cell (o := 2) hbk; have z3 := blk_cell (o := 3) hbk; have z4 := blk_cell (o := 4) hbk; have y0 : w8.frozen? ⟨w.heap.size, 0, none⟩ = false := blk_frozen hbk; have y1 : w8.frozen? ⟨w.heap.size, 1, none⟩ = false := blk_frozen hbk; have y2 : w8.frozen? ⟨w.heap.size, 2, none⟩ = false := blk_frozen hbk; have y3 : w8.frozen? ⟨w.heap.size, 3, none⟩ = false := blk_frozen hbk; have y4 : w8.frozen? ⟨w.heap.size, 4, none⟩ = false := blk_frozen hbk; simp only [deeZ, List.getElem?_toArray, List.getElem?_cons_zero, List.getElem?_cons_succ] at z0 z1 z2 z3 z4)
                have hq5 := set5 (.int .i64 0) (.slice none 0 0) (.int .i64 0) (.int .i64 0) (.string ⟨#[]⟩) hbk
                have q0 := blk_cell (o := 0) hq5; have q1 := blk_cell (o := 1) hq5; have q2 := blk_cell (o := 2) hq5; have q3 := blk_cell (o := 3) hq5; have q4 := blk_cell (o := 4) hq5
                simp only [List.getElem?_toArray, List.getElem?_cons_zero, List.getElem?_cons_succ] at q0 q1 q2 q3 q4
                refine bodyPost_ret (v := .tuple #[.agg #[.int .i64 0, .slice none 0 0, .int .i64 0, .int .i64 0, .string ⟨#[]⟩], .int .i64 (c : Int)]) (by simp [results, Tryd.results26, go_sem, q0, q1, q2, q3, q4]) rfl ?_
                rw [Hz.out, Hbad.out]; exact ⟨none, 0, rfl, Flat.nil _ _ _ _ (Nat.zero_le _), (by show (⟨#[]⟩ : ByteArray).size ≤ 1000000; decide), pr5 (HwW.out.trans hp) (Nat.le_refl _) _ _ _ _ _⟩
      · obtain ⟨hz, hbad⟩ := map3_bad ps h0n hN3 hD3 hI3
        rw [← Hr.out] at hz
        rw [← Hmw.out] at hbad
        have Hz := Lib.hid hz
        clear hz
        have hbk := hp.blk HbW.out; have z0 := blk_cell (o := 0) hbk; have z1 := blk_cell (o := 1) hbk; have z2 := blk_cell (o := 2) hbk; have z3 := blk_cell (o := 3) hbk; have z4 := blk_cell (o := 4) hbk; have y0 : w4.frozen? ⟨w.heap.size, 0, none⟩ = false := blk_frozen hbk; have y1 : w4.frozen? ⟨w.heap.size, 1, none⟩ = false := blk_frozen hbk; have y2 : w4.frozen? ⟨w.heap.size, 2, none⟩ = false := blk_frozen hbk; have y3 : w4.frozen? ⟨w.heap.size, 3, none⟩ = false := blk_frozen hbk; have y4 : w4.frozen? ⟨w.heap.size, 4, none⟩ = false := blk_frozen hbk; simp only [deeZ, List.getElem?_toArray, List.getElem?_cons_zero, List.getElem?_cons_succ] at z0 z1 z2 z3 z4
        by_cases h0 : mw = 0
        · obtain rfl := h0
          go_wp2_with fail
          have hq5 := set5 (.int .i64 0) (.slice none 0 0) (.int .i64 0) (.int .i64 0) (.string ⟨#[]⟩) hbk
          have q0 := blk_cell (o := 0) hq5; have q1 := blk_cell (o := 1) hq5; have q2 := blk_cell (o := 2) hq5; have q3 := blk_cell (o := 3) hq5; have q4 := blk_cell (o := 4) hq5
          simp only [List.getElem?_toArray, List.getElem?_cons_zero, List.getElem?_cons_succ] at q0 q1 q2 q3 q4
          refine bodyPost_ret (v := .tuple #[.agg #[.int .i64 0, .slice none 0 0, .int .i64 0, .int .i64 0, .string ⟨#[]⟩], .int .i64 6]) (by simp [results, Tryd.results26, go_sem, q0, q1, q2, q3, q4]) rfl ?_
          rw [Hz.out]; exact ⟨none, 0, rfl, Flat.nil _ _ _ _ (Nat.zero_le _), (by show (⟨#[]⟩ : ByteArray).size ≤ 1000000; decide), pr5 (HwW.out.trans hp) (Nat.le_refl _) _ _ _ _ _⟩
        · have n0 : ((mw : Int) == 0) = false := by simp; omega
          have n1 : (mw == 0) = false := by simpa using h0
          have n2 : ((ps.length : Int) != (mw : Int)) = true := by simp [bne_iff_ne]; omega
          have n3 : (ps.length != mw) = true := by simp [bne_iff_ne]; omega
          clear h0 hbad
          go_wp2_with fail
          have hq5 := set5 (.int .i64 0) (.slice none 0 0) (.int .i64 0) (.int .i64 0) (.string ⟨#[]⟩) hbk
          have q0 := blk_cell (o := 0) hq5; have q1 := blk_cell (o := 1) hq5; have q2 := blk_cell (o := 2) hq5; have q3 := blk_cell (o := 3) hq5; have q4 := blk_cell (o := 4) hq5
          simp only [List.getElem?_toArray, List.getElem?_cons_zero, List.getElem?_cons_succ] at q0 q1 q2 q3 q4
          refine bodyPost_ret (v := .tuple #[.agg #[.int .i64 0, .slice none 0 0, .int .i64 0, .int .i64 0, .string ⟨#[]⟩], .int .i64 6]) (by simp [results, Tryd.results26, go_sem, q0, q1, q2, q3, q4]) rfl ?_
          rw [Hz.out]; exact ⟨none, 0, rfl, Flat.nil _ _ _ _ (Nat.zero_le _), (by show (⟨#[]⟩ : ByteArray).size ≤ 1000000; decide), pr5 (HwW.out.trans hp) (Nat.le_refl _) _ _ _ _ _⟩
end Go.Proofs.YtdbnfhpgmcjngacDoor
