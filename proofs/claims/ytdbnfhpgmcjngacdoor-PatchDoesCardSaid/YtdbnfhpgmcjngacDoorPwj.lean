/- Walks: deeds as lines; the document's. -/
import Derived.Test.YtdbnfhpgmcjngacDoorPwi
namespace Go.Proofs.YtdbnfhpgmcjngacDoor
open Go Go.RowKit

set_option maxRecDepth 100000 in
theorem rF2_any (c i : Int) (w : World) : Calls Tryd.prog 54 #[.int .i64 c, .int .i64 i] w fun e w' => e = .returned (.agg #[.int .i64 c, .int .i64 i]) ∧ Pr w w' := by
  go_enter Tryd.func54, Tryd.ntmps54
  go_wp2_with fail
  refine bodyPost_ret (v := .agg #[.int .i64 c, .int .i64 i]) (by simp [results, Tryd.results54, go_sem]) rfl ?_
  exact ⟨rfl, Pr.alloc _ _⟩
set_option maxRecDepth 100000 in
set_option maxHeartbeats 6400000 in
theorem printed_any (ds : List Dee) (oa cap) (w : World) (hds : Dees Any w ds oa cap) (hF : FewD ds) (hw : Lv w) :
    Calls Tryd.prog 17 #[.slice oa ds.length cap] w (PrintPost ds w) := by
  have hlen := hds.len
  have HDS := Lib.hid hds; have HF := Lib.hid hF; have HW := Lib.hid hw
  clear hds hF hw
  obtain ⟨W, hW⟩ : ∃ W, W = w.alloc (.cells #[.int .i64 0, .int .i64 0] 42) := ⟨_, rfl⟩
  have hwW : Pr w W := by rw [hW]; exact Pr.alloc _ _
  have hbW : W.heap[w.heap.size]? = some (.cells #[.int .i64 0, .int .i64 0] 42 (0, 0)) := by rw [hW]; exact heap_alloc_new w _
  have HwW := Lib.hid hwW; have HbW := Lib.hid hbW
  clear hwW hbW
  by_cases hn : 80 < ds.length
  · have Hp := Lib.hid (print_many hn)
    have n0 : (80 : Int) < ds.length := by omega
    clear hn
    go_enter Tryd.func17, Tryd.ntmps17
    go_upto_region 1 with fail
    rw [← hW]; clear hW
    go_wp2_with (go_at_call 54; (with_reducible refine Calls.mono (rF2_any _ _ _) ?_); rintro e w5 ⟨rfl, hp5⟩; have hb3 := hp5.blk HbW.out; have z0 := blk_cell (o := 0) hb3; have z1 := blk_cell (o := 1) hb3; have y0 : w5.frozen? ⟨w.heap.size, 0, none⟩ = false := blk_frozen hb3; have y1 : w5.frozen? ⟨w.heap.size, 1, none⟩ = false := blk_frozen hb3; simp only [List.getElem?_toArray, List.getElem?_cons_zero, List.getElem?_cons_succ] at z0 z1)
    have hq5 := set2 (.int .i64 2) (.int .i64 (-1)) hb3
    have q0 := blk_cell (o := 0) hq5; have q1 := blk_cell (o := 1) hq5
    simp only [List.getElem?_toArray, List.getElem?_cons_zero, List.getElem?_cons_succ] at q0 q1
    refine bodyPost_ret (v := .tuple #[.string ⟨#[]⟩, .agg #[.int .i64 2, .int .i64 (-1)]]) (by simp [results, Tryd.results17, go_sem, q0, q1]) rfl ?_
    exact ⟨by rw [Hp.out], ((HwW.out.trans hp5).setCell (Nat.le_refl _) _).setCell (Nat.le_refl _) _⟩
  · have hn80 : ds.length ≤ 80 := by omega
    have n0 : decide ((80 : Int) < ds.length) = false := by simp; omega
    have n1 : decide (80 < ds.length) = false := by simp; omega
    have HN := Lib.hid hn80
    clear hn hn80
    go_enter Tryd.func17, Tryd.ntmps17
    go_upto_region 1 with fail
    rw [← hW]; clear hW
    go_wp2_with fail
    go_loopw [4, 5] (fun v x wr => ∃ (i : Nat) (a : ByteArray), i ≤ ds.length ∧ x = .int .i64 i ∧ v = .string a ∧ (∀ d ∈ ds.take i, lineC d = 0) ∧ a.data.toList = ended ((ds.take i).map lineT) ∧ Pr W wr) (fun _ x _ => ds.length - (intOf x).toNat)
    case atStart => exact ⟨0, ⟨#[]⟩, by omega, rfl, rfl, by simp, by simp [ended], Pr.refl _⟩
    case round =>
      obtain ⟨i, a, hi, rfl, rfl, hall, hal, hp⟩ := hrel
      have hwr : Pr w wr := HwW.out.trans hp
      have Hall := Lib.hid hall; have Hal := Lib.hid hal
      have hel := ended_len Hall.out (fun d hd => HF.out d (List.mem_of_mem_take hd))
      rw [List.length_take, ← Hal.out, sizeL] at hel
      have hel2 : a.size ≤ 2500001 * 80 := Nat.le_trans hel (Nat.mul_le_mul_left _ (by have := HN.out; omega))
      clear hall hal hel
      by_cases hlt : i < ds.length
      · obtain ⟨bk, o, pa, pc, rfl, c0, c1, c2, c3, c4, hints, hlab⟩ := (HDS.out.pr hwr).get i hlt
        have hfd := HF.out ds[i] (List.getElem_mem _)
        have L : Calls Tryd.prog 29 #[.agg #[.int .i64 ds[i].kind, .slice pa ds[i].path.length pc, .int .i64 ds[i].pos, .int .i64 ds[i].many, .string ds[i].lab]] wr (LinePost ds[i] wr) :=
          rline_any ds[i].kind ds[i].path ds[i].pos ds[i].many ds[i].lab pa pc wr hfd.2 hints hfd.1 (HW.out.pr hwr)
        unfold LinePost at L
        by_cases hc : lineC ds[i] = 0
        · obtain ⟨b, hb⟩ : ∃ b : ByteArray, b = ⟨⟨lineT ds[i]⟩⟩ := ⟨_, rfl⟩
          have hbl : b.data.toList = lineT ds[i] := by rw [hb]
          have hbs : b.size ≤ 2500000 := by rw [← sizeL, hbl]; exact line_le hc hfd
          rw [lineP_ok hc] at L
          simp only [← hb] at L
          have L := Lib.hid L; have Hbl := Lib.hid hbl; have Hc := Lib.hid hc
          clear hb hbl hc hints
          go_wp2_with (go_at_call 29; (with_reducible refine Calls.mono L.out ?_); rintro e w5 ⟨rfl, hp5⟩)
          refine ⟨⟨i + 1, _, by omega, by go_num, rfl, ?_, ?_, hp.trans hp5⟩, by simp [intOf]; omega⟩
          · intro d hd
            rw [List.take_succ_eq_append_getElem hlt] at hd
            rcases List.mem_append.1 hd with hd | hd
            · exact Hall.out d hd
            · rw [List.mem_singleton] at hd; subst hd; exact Hc.out
          · rw [List.take_succ_eq_append_getElem hlt, List.map_append, List.map_singleton, ended_snoc, baL, baL, Hal.out, Hbl.out]
        · have hb := lineP_first (d := ds[i]) hc
          have hpf := print_first HN.out hlt Hall.out hc
          obtain ⟨c, hcc⟩ : ∃ c, c = lineC ds[i] := ⟨_, rfl⟩
          rw [← hcc] at hb hpf hc
          rw [hb] at L
          have L := Lib.hid L; have Hpf := Lib.hid hpf
          have m0 : ((c : Int) != 0) = true := by simp [bne_iff_ne]; omega
          have m1 : (c != 0) = true := by simp [bne_iff_ne]; omega
          clear hcc hb hpf hc hints
          go_wp2_with (first
            | (go_at_call 29; (with_reducible refine Calls.mono L.out ?_); rintro e w5 ⟨rfl, hp5⟩)
            | (go_at_call 54; (with_reducible refine Calls.mono (rF2_any _ _ _) ?_); rintro e w6 ⟨rfl, hp6⟩; have hb3 := (hp.trans (hp5.trans hp6)).blk HbW.out; have z0 := blk_cell (o := 0) hb3; have z1 := blk_cell (o := 1) hb3; have y0 : w6.frozen? ⟨w.heap.size, 0, none⟩ = false := blk_frozen hb3; have y1 : w6.frozen? ⟨w.heap.size, 1, none⟩ = false := blk_frozen hb3; simp only [List.getElem?_toArray, List.getElem?_cons_zero, List.getElem?_cons_succ] at z0 z1))
          have hq5 := set2 (.int .i64 (c : Int)) (.int .i64 (i : Int)) hb3
          have q0 := blk_cell (o := 0) hq5; have q1 := blk_cell (o := 1) hq5
          simp only [List.getElem?_toArray, List.getElem?_cons_zero, List.getElem?_cons_succ] at q0 q1
          refine bodyPost_ret (v := .tuple #[.string ⟨#[]⟩, .agg #[.int .i64 (c : Int), .int .i64 (i : Int)]]) (by simp [results, Tryd.results17, go_sem, q0, q1]) rfl ?_
          exact ⟨by rw [Hpf.out], ((hwr.trans (hp5.trans hp6)).setCell (Nat.le_refl _) _).setCell (Nat.le_refl _) _⟩
      · obtain rfl : i = ds.length := by omega
        have hta := Hall.out
        rw [List.take_length] at hta
        have hpp := ok_print HN.out hta
        have hal := Hal.out
        rw [List.take_length] at hal
        have ha : a = ⟨⟨ended (ds.map lineT)⟩⟩ := ba_ext hal
        have Hpp := Lib.hid hpp; have Ha := Lib.hid ha
        have d1 : decide ((ds.length : Int) < ds.length) = false := by simp
        clear hta hpp hal ha
        have hb3 := hp.blk HbW.out
        have z0 := blk_cell (o := 0) hb3; have z1 := blk_cell (o := 1) hb3; have y0 : wr.frozen? ⟨w.heap.size, 0, none⟩ = false := blk_frozen hb3; have y1 : wr.frozen? ⟨w.heap.size, 1, none⟩ = false := blk_frozen hb3; simp only [List.getElem?_toArray, List.getElem?_cons_zero, List.getElem?_cons_succ] at z0 z1
        go_wp2_with fail
        have hq5 := set2 (.int .i64 0) (.int .i64 0) hb3
        have q0 := blk_cell (o := 0) hq5; have q1 := blk_cell (o := 1) hq5
        simp only [List.getElem?_toArray, List.getElem?_cons_zero, List.getElem?_cons_succ] at q0 q1
        refine bodyPost_ret (v := .tuple #[.string a, .agg #[.int .i64 0, .int .i64 0]]) (by simp [results, Tryd.results17, go_sem, q0, q1]) rfl ?_
        exact ⟨by rw [Hpp.out, Ha.out], (hwr.setCell (Nat.le_refl _) _).setCell (Nat.le_refl _) _⟩
end Go.Proofs.YtdbnfhpgmcjngacDoor
