/- Walks: lines' deeds; the document's. -/
import Derived.Test.YtdbnfhpgmcjngacDoorPwk
import Derived.Test.YtdbnfhpgmcjngacDoorPwj
namespace Go.Proofs.YtdbnfhpgmcjngacDoor
open Go Go.RowKit

set_option maxRecDepth 100000 in
set_option maxHeartbeats 6400000 in
theorem deedsIn_any (s : ByteArray) (hs : s.size ≤ 1000000) (w : World) (hw : Lv w) :
    Calls Tryd.prog 19 #[.string s] w (ReadPost s.data.toList w) := by
  obtain ⟨W, hW⟩ : ∃ W, W = w.alloc (.cells #[.int .i64 0, .int .i64 0] 42) := ⟨_, rfl⟩
  have hwW : Pr w W := by rw [hW]; exact Pr.alloc _ _
  have hbW : W.heap[w.heap.size]? = some (.cells #[.int .i64 0, .int .i64 0] 42 (0, 0)) := by rw [hW]; exact heap_alloc_new w _
  have hsW : W.heap.size = w.heap.size + 1 := by rw [hW]; simp
  have HwW := Lib.hid hwW; have HbW := Lib.hid hbW; have HW := Lib.hid hw; have HsW := Lib.hid hsW
  clear hwW hbW hw hsW
  by_cases hnil : s.data.toList = []
  · have hp : readP s.data.toList = ([], 0, 0) := by unfold readP; rw [if_pos hnil]
    have Hp := Lib.hid hp
    have hl : s.toList = [] := by rw [ByteArray.toList_eq]; exact hnil
    have hb3 := HbW.out
    have z0 := blk_cell (o := 0) hb3; have z1 := blk_cell (o := 1) hb3; have y0 : W.frozen? ⟨w.heap.size, 0, none⟩ = false := blk_frozen hb3; have y1 : W.frozen? ⟨w.heap.size, 1, none⟩ = false := blk_frozen hb3; simp only [List.getElem?_toArray, List.getElem?_cons_zero, List.getElem?_cons_succ] at z0 z1
    clear hnil hp
    go_enter Tryd.func19, Tryd.ntmps19
    go_upto_region 1 with fail
    rw [← hW]; clear hW
    go_wp2_with fail
    have hq5 := set2 (.int .i64 0) (.int .i64 0) hb3
    have q0 := blk_cell (o := 0) hq5; have q1 := blk_cell (o := 1) hq5
    simp only [List.getElem?_toArray, List.getElem?_cons_zero, List.getElem?_cons_succ] at q0 q1
    refine bodyPost_ret (v := .tuple #[.slice none 0 0, .agg #[.int .i64 0, .int .i64 0]]) (by simp [results, Tryd.results19, go_sem, q0, q1]) rfl ?_
    exact ⟨none, 0, by rw [Hp.out]; rfl, by rw [Hp.out]; exact Dees.nil _ _ _ _ (Nat.zero_le _), (HwW.out.setCell (Nat.le_refl _) _).setCell (Nat.le_refl _) _⟩
  · obtain ⟨q1, q2, q3⟩ := str_no hnil
    obtain ⟨ps, hps⟩ : ∃ x, x = cutC 10 s.data.toList := ⟨_, rfl⟩
    have hrd : readP s.data.toList = if ps.getLastD [] ≠ [] then ([], 5, (ps.length : Int) - 1) else if 80 < ps.dropLast.length then ([], 2, -1) else match deedsW 0 ps.dropLast with | .error (c, i) => ([], (c : Int), (i : Int)) | .ok ds => (ds, 0, 0) := by
      rw [hps]; unfold readP; rw [if_neg hnil]
      by_cases h1 : (cutC 10 s.data.toList).getLastD [] ≠ []
      · rw [if_pos h1, if_pos h1]
      · rw [if_neg h1, if_neg h1]
        by_cases h2 : 80 < (cutC 10 s.data.toList).dropLast.length
        · rw [if_pos h2, if_pos h2]
        · rw [if_neg h2, if_neg h2]; cases deedsW 0 (cutC 10 s.data.toList).dropLast <;> rfl
    have hcl := cut_le 10 s.data.toList
    rw [← hps] at hcl
    have hcc : ps.length ≤ 1000001 := by
      rw [hps, cut_length]; have := List.count_le_length (a := (10 : UInt8)) (l := s.data.toList); rw [sizeL] at this; omega
    have h0n : ps ≠ [] := by rw [hps]; exact cutC_ne _ _
    have C := rcut_parts s 10 10 rfl hs W
    rw [← hps] at C
    obtain ⟨m, hm⟩ : ∃ m, ps.length = m + 1 := ⟨ps.length - 1, by have := List.length_pos_iff.2 h0n; omega⟩
    have him : m < ps.length := by omega
    have hmm : m ≤ 1000000 := by omega
    unfold PartsPost at C
    rw [hm] at C
    obtain ⟨x, hx⟩ : ∃ x : ByteArray, x = ⟨⟨ps[m]⟩⟩ := ⟨_, rfl⟩
    have hlast : ps.getLastD [] = ps[m] := by
      have e : ps.length - 1 = m := by omega
      rw [List.getLastD_eq_getLast?, List.getLast?_eq_getElem?, e, List.getElem?_eq_getElem him]; rfl
    have hdl : ps.dropLast.length = m := by rw [List.length_dropLast]; omega
    have hpd : ∀ (i : Nat) (h : i < ps.dropLast.length) (h' : i < ps.length), ps.dropLast[i] = ps[i] := fun i h h' => by rw [List.getElem_dropLast]
    rw [hlast, show (ps.length : Int) - 1 = m by omega, hdl] at hrd
    obtain ⟨pd, hpd0⟩ : ∃ pd, pd = ps.dropLast := ⟨_, rfl⟩
    have hpdi : ∀ (i : Nat) (h : i < m), ∃ (h1 : i < pd.length) (h2 : i < ps.length), pd[i] = ps[i] := fun i h => by
      subst hpd0
      exact ⟨by omega, by omega, hpd i (by omega) (by omega)⟩
    rw [← hpd0] at hrd hdl
    have C := Lib.hid C; have Hcl := Lib.hid hcl; have Hrd := Lib.hid hrd; have Hx := Lib.hid hx; have Hm := Lib.hid hm; have Hpdi := Lib.hid hpdi; have Hdl := Lib.hid hdl
    clear hnil hrd hps hcl hlast hpd hpd0 hpdi hdl h0n hcc
    by_cases hL : ps[m] = []
    · have l1 : x.toList = [] := by rw [ByteArray.toList_eq, hx]; exact hL
      clear hx
      by_cases h8 : 80 < m
      · have hp : readP s.data.toList = ([], 2, -1) := by rw [Hrd.out, if_neg (by simpa using hL), if_pos h8]
        have Hp := Lib.hid hp
        have n0 : (80 : Int) < m := by omega
        clear hp h8 hL hm
        go_enter Tryd.func19, Tryd.ntmps19
        go_upto_region 1 with fail
        rw [← hW]; clear hW
        go_wp2_with (first
          | (go_at_call 57; (with_reducible refine Calls.mono C.out ?_); rintro e w1 ⟨oa, cap, rfl, hst, hp1⟩; obtain ⟨bk, o, rfl, cl⟩ := Strs.get hst m him; have hp1 : Pr W w1 := hp1; rw [← Hx.out] at cl; have HST := Lib.hid hst; have HP1 := Lib.hid hp1; clear hst)
          | (go_at_call 54; (with_reducible refine Calls.mono (rF2_any _ _ _) ?_); rintro e w6 ⟨rfl, hp6⟩; have hb3 := (hp1.trans hp6).blk HbW.out; have z0 := blk_cell (o := 0) hb3; have z1 := blk_cell (o := 1) hb3; have y0 : w6.frozen? ⟨w.heap.size, 0, none⟩ = false := blk_frozen hb3; have y1 : w6.frozen? ⟨w.heap.size, 1, none⟩ = false := blk_frozen hb3; simp only [List.getElem?_toArray, List.getElem?_cons_zero, List.getElem?_cons_succ] at z0 z1))
        have hq5 := set2 (.int .i64 2) (.int .i64 (-1)) hb3
        have q0 := blk_cell (o := 0) hq5; have q1 := blk_cell (o := 1) hq5
        simp only [List.getElem?_toArray, List.getElem?_cons_zero, List.getElem?_cons_succ] at q0 q1
        refine bodyPost_ret (v := .tuple #[.slice none 0 0, .agg #[.int .i64 2, .int .i64 (-1)]]) (by simp [results, Tryd.results19, go_sem, q0, q1]) rfl ?_
        exact ⟨none, 0, by rw [Hp.out]; rfl, by rw [Hp.out]; exact Dees.nil _ _ _ _ (Nat.zero_le _), ((HwW.out.trans (hp1.trans hp6)).setCell (Nat.le_refl _) _).setCell (Nat.le_refl _) _⟩
      · have hp0 : readP s.data.toList = match deedsW 0 pd with | .error (c, i) => ([], (c : Int), (i : Int)) | .ok ds => (ds, 0, 0) := by
          rw [Hrd.out, if_neg (by simpa using hL), if_neg h8]
        have Hp0 := Lib.hid hp0
        have n0 : decide ((80 : Int) < m) = false := by simp; omega
        have n1 : decide (80 < m) = false := by simp; omega
        have h80 : m ≤ 80 := by omega
        clear hp0 h8 hL hm
        go_enter Tryd.func19, Tryd.ntmps19
        go_upto_region 1 with fail
        rw [← hW]; clear hW
        go_wp2_with (go_at_call 57; (with_reducible refine Calls.mono C.out ?_); rintro e w1 ⟨oa, cap, rfl, hst, hp1⟩; obtain ⟨bk, o, rfl, cl⟩ := Strs.get hst m him; have hp1 : Pr W w1 := hp1; rw [← Hx.out] at cl; have HST := Lib.hid hst; have HP1 := Lib.hid hp1; clear hst)
        have hV := HP1.out.size
        go_loopw [6, 7] (fun v y wr => ∃ (i : Nat) (q : List Dee), i ≤ m ∧ y = .int .i64 i ∧ OwnsDs w1.heap.size wr v q ∧ q.length ≤ i ∧ deedsW 0 pd = withD q (deedsW i (pd.drop i)) ∧ Pr w1 wr) (fun _ y _ => m - (intOf y).toNat)
        case atStart => exact ⟨0, [], by omega, rfl, OwnsDs.nil _ _, by simp, by rw [List.drop_zero]; cases deedsW 0 pd <;> rfl, Pr.refl _⟩
        case round =>
          obtain ⟨i, q, hi, rfl, ho, hq, hf, hp⟩ := hrel
          by_cases hlt : i < m
          · obtain ⟨hip, his, hpe⟩ := Hpdi.out i hlt
            obtain ⟨bk', o', ee, c0⟩ := Strs.get (Flat.pr hp HST.out) i his
            cases ee
            have hsz : (⟨⟨ps[i]⟩⟩ : ByteArray).size ≤ 1000000 := by
              have h1 := Hcl.out ps[i] (List.getElem_mem _)
              rw [sizeL] at h1
              have h2 : (⟨⟨ps[i]⟩⟩ : ByteArray).size = ps[i].length := rfl
              omega
            have D : Calls Tryd.prog 26 #[.string ⟨⟨ps[i]⟩⟩] wr (DeedPost (deedIn ps[i]) wr) := rdeed_any ⟨⟨ps[i]⟩⟩ hsz wr (HW.out.pr (HwW.out.trans (HP1.out.trans hp)))
            obtain ⟨dr, hdr⟩ : ∃ x, x = deedIn ps[i] := ⟨_, rfl⟩
            rw [← hdr] at D
            rw [← hpe] at hdr
            obtain ⟨d, c⟩ := dr
            have D := Lib.hid D
            have hil : (i : Int) < (m : Int) + 1 := by omega
            clear hpe
            by_cases hc : c = 0
            · obtain rfl := hc
              have hst := deedsW_one (j := i) hip q (by rw [← hdr])
              rw [← hf, ← hdr] at hst
              have Hst := Lib.hid hst
              clear hst hf hdr
              go_upto_region 14 with (go_at_call 26; (with_reducible refine Calls.mono D.out ?_); rintro e w5 ⟨pa, pc, rfl, hpi, hlab, hp5⟩)
              obtain ⟨w6, hw6⟩ : ∃ w6, w6 = w5.alloc (.cells #[.int .i64 d.kind, .slice pa d.path.length pc, .int .i64 d.pos, .int .i64 d.many, .string d.lab] 52) := ⟨_, rfl⟩
              rw [← hw6]
              have hB : w6.heap[w5.heap.size]? = some (.cells #[.int .i64 d.kind, .slice pa d.path.length pc, .int .i64 d.pos, .int .i64 d.many, .string d.lab] 52 (0, 0)) := by rw [hw6]; exact heap_alloc_new w5 _
              have h56 : Pr w5 w6 := by rw [hw6]; exact Pr.alloc _ _
              have hp56 := hp5.trans h56
              clear hw6
              have e0 := blk_cell (o := 0) hB; have e1 := blk_cell (o := 1) hB; have e2 := blk_cell (o := 2) hB; have e3 := blk_cell (o := 3) hB; have e4 := blk_cell (o := 4) hB
              simp only [List.getElem?_toArray, List.getElem?_cons_zero, List.getElem?_cons_succ] at e0 e1 e2 e3 e4
              have ho6 := ho.pr hp56
              have hV2 := hp.size
              have hsz6 := hp56.size
              have hints : Ints (Apart w1.heap.size u6) w6 d.path pa pc := Flat.pr h56 (hpi.mono (fun k hk _ => ⟨Nat.le_trans hV2 hk, fun e => by have := (ho.block k e).2; have hk' : wr.heap.size ≤ k := hk; omega⟩))
              have Hints := Lib.hid hints; have Ho6 := Lib.hid ho6
              have hlab' : d.lab.size ≤ maxLen := by unfold maxLen; omega
              have hq9 : q.length ≤ 1000000000 := by omega
              clear hints ho6
              go_wp2_with (at_builtin; go_must (refine app_deed rfl _ _ rfl w1.heap.size u6 q rfl (Ho6.out.pr (Pr.alloc _ _)) w6.heap.size rfl d pa pc (heap_alloc_new w6 _) (Flat.pr (Pr.alloc _ _) Hints.out) hlab' hq9 (by simp; omega) ?_); intro g4 c4 w7 ho7 hg7 hd7)
              refine ⟨⟨i + 1, q ++ [d], by omega, by go_num, ho7, by simp; omega, Hst.out, ?_⟩, by simp [intOf]; omega⟩
              exact Below.grown ((hp.trans hp56).alloc' _) hg7 (by simp; omega) (fun k hk => (Ho6.out.block k hk).1)
            · have hno := deedsW_no (j := i) hip q (by rw [← hdr]; exact hc)
              rw [← hf, ← hdr] at hno
              have hp9 : readP s.data.toList = ([], (c : Int), (i : Int)) := by rw [Hp0.out, hno]
              have Hp := Lib.hid hp9
              have m0 : ((c : Int) != 0) = true := by simp [bne_iff_ne]; omega
              have m1 : (c != 0) = true := by simp [bne_iff_ne]; omega
              clear hno hf hdr hp9 hc
              go_upto_region 14 with (go_at_call 26; (with_reducible refine Calls.mono D.out ?_); rintro e w5 ⟨pa, pc, rfl, hpi, hlab, hp5⟩)
              obtain ⟨w56, hw56⟩ : ∃ w56, w56 = w5.alloc (.cells #[.int .i64 d.kind, .slice pa d.path.length pc, .int .i64 d.pos, .int .i64 d.many, .string d.lab] 52) := ⟨_, rfl⟩
              rw [← hw56]
              have hB : w56.heap[w5.heap.size]? = some (.cells #[.int .i64 d.kind, .slice pa d.path.length pc, .int .i64 d.pos, .int .i64 d.many, .string d.lab] 52 (0, 0)) := by rw [hw56]; exact heap_alloc_new w5 _
              have h56 : Pr w5 w56 := by rw [hw56]; exact Pr.alloc _ _
              have hp56 := hp5.trans h56
              clear hw56
              go_wp2_with (go_at_call 54; (with_reducible refine Calls.mono (rF2_any _ _ _) ?_); rintro e w6 ⟨rfl, hp6⟩; have hb3 := (HP1.out.trans (hp.trans (hp56.trans hp6))).blk HbW.out; have z0 := blk_cell (o := 0) hb3; have z1 := blk_cell (o := 1) hb3; have y0 : w6.frozen? ⟨w.heap.size, 0, none⟩ = false := blk_frozen hb3; have y1 : w6.frozen? ⟨w.heap.size, 1, none⟩ = false := blk_frozen hb3; simp only [List.getElem?_toArray, List.getElem?_cons_zero, List.getElem?_cons_succ] at z0 z1)
              have hq5 := set2 (.int .i64 (c : Int)) (.int .i64 (i : Int)) hb3
              have q0 := blk_cell (o := 0) hq5; have q1 := blk_cell (o := 1) hq5
              simp only [List.getElem?_toArray, List.getElem?_cons_zero, List.getElem?_cons_succ] at q0 q1
              refine bodyPost_ret (v := .tuple #[.slice none 0 0, .agg #[.int .i64 (c : Int), .int .i64 (i : Int)]]) (by simp [results, Tryd.results19, go_sem, q0, q1]) rfl ?_
              exact ⟨none, 0, by rw [Hp.out]; rfl, by rw [Hp.out]; exact Dees.nil _ _ _ _ (Nat.zero_le _), ((HwW.out.trans (HP1.out.trans (hp.trans (hp56.trans hp6)))).setCell (Nat.le_refl _) _).setCell (Nat.le_refl _) _⟩
          · have hks : i = m := by omega
            have hdr : pd.drop i = [] := by rw [List.drop_eq_nil_iff]; have := Hdl.out; omega
            have hend : deedsW 0 pd = .ok q := by rw [hf, hdr]; simp [deedsW, withD]
            have hp9 : readP s.data.toList = (q, 0, 0) := by rw [Hp0.out, hend]
            have Hp := Lib.hid hp9
            have d1 : decide ((i : Int) < m) = false := by simp; omega
            have d3 : decide (i < m) = false := by simp; omega
            obtain ⟨oa5, cap5, rfl, h5⟩ := ho.dees
            have H5 := Lib.hid h5
            have hb3 := (HP1.out.trans hp).blk HbW.out
            have z0 := blk_cell (o := 0) hb3; have z1 := blk_cell (o := 1) hb3; have y0 : wr.frozen? ⟨w.heap.size, 0, none⟩ = false := blk_frozen hb3; have y1 : wr.frozen? ⟨w.heap.size, 1, none⟩ = false := blk_frozen hb3; simp only [List.getElem?_toArray, List.getElem?_cons_zero, List.getElem?_cons_succ] at z0 z1
            clear hks hdr hend hf h5 hp9
            go_wp2_with fail
            have hq5 := set2 (.int .i64 0) (.int .i64 0) hb3
            have q0 := blk_cell (o := 0) hq5; have q1 := blk_cell (o := 1) hq5
            simp only [List.getElem?_toArray, List.getElem?_cons_zero, List.getElem?_cons_succ] at q0 q1
            refine bodyPost_ret (v := .tuple #[.slice oa5 q.length cap5, .agg #[.int .i64 0, .int .i64 0]]) (by simp [results, Tryd.results19, go_sem, q0, q1]) rfl ?_
            exact ⟨oa5, cap5, by rw [Hp.out], by rw [Hp.out]; exact ((H5.out.carry (S' := fun k => w1.heap.size ≤ k) (fun k hk _ => ⟨rfl, hk⟩)).carry (S' := From w.heap.size) (fun k hk _ => ⟨by have hk' : w1.heap.size ≤ k := hk; rw [Below.heap_setCell _ _ _ _ (fun e => by have e' : k = w.heap.size := e; have := HsW.out; omega), Below.heap_setCell _ _ _ _ (fun e => by have e' : k = w.heap.size := e; have := HsW.out; omega)], by have hk' : w1.heap.size ≤ k := hk; have := HsW.out; show w.heap.size ≤ k; omega⟩)), ((HwW.out.trans (HP1.out.trans hp)).setCell (Nat.le_refl _) _).setCell (Nat.le_refl _) _⟩
    · have hp : readP s.data.toList = ([], 5, (m : Int)) := by rw [Hrd.out, if_pos hL]
      have Hp := Lib.hid hp
      obtain ⟨r1, r2, r3⟩ := str_no (s := x) (by rw [hx]; exact hL)
      have r4 : (x.toList != []) = true := by rw [bne_iff_ne]; exact r1
      clear hp hx hL hm
      go_enter Tryd.func19, Tryd.ntmps19
      go_upto_region 1 with fail
      rw [← hW]; clear hW
      go_wp2_with (first
        | (go_at_call 57; (with_reducible refine Calls.mono C.out ?_); rintro e w1 ⟨oa, cap, rfl, hst, hp1⟩; obtain ⟨bk, o, rfl, cl⟩ := Strs.get hst m him; have hp1 : Pr W w1 := hp1; rw [← Hx.out] at cl; have HST := Lib.hid hst; have HP1 := Lib.hid hp1; clear hst)
        | (go_at_call 54; (with_reducible refine Calls.mono (rF2_any _ _ _) ?_); rintro e w6 ⟨rfl, hp6⟩; have hb3 := (hp1.trans hp6).blk HbW.out; have z0 := blk_cell (o := 0) hb3; have z1 := blk_cell (o := 1) hb3; have y0 : w6.frozen? ⟨w.heap.size, 0, none⟩ = false := blk_frozen hb3; have y1 : w6.frozen? ⟨w.heap.size, 1, none⟩ = false := blk_frozen hb3; simp only [List.getElem?_toArray, List.getElem?_cons_zero, List.getElem?_cons_succ] at z0 z1))
      have hq5 := set2 (.int .i64 5) (.int .i64 (m : Int)) hb3
      have q0 := blk_cell (o := 0) hq5; have q1 := blk_cell (o := 1) hq5
      simp only [List.getElem?_toArray, List.getElem?_cons_zero, List.getElem?_cons_succ] at q0 q1
      refine bodyPost_ret (v := .tuple #[.slice none 0 0, .agg #[.int .i64 5, .int .i64 (m : Int)]]) (by simp [results, Tryd.results19, go_sem, q0, q1]) rfl ?_
      exact ⟨none, 0, by rw [Hp.out]; rfl, by rw [Hp.out]; exact Dees.nil _ _ _ _ (Nat.zero_le _), ((HwW.out.trans (hp1.trans hp6)).setCell (Nat.le_refl _) _).setCell (Nat.le_refl _) _⟩
end Go.Proofs.YtdbnfhpgmcjngacDoor
