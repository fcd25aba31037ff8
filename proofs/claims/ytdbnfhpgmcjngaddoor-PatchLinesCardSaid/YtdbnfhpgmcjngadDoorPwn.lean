/- The law PatchBack: its walk. -/
import Derived.Test.YtdbnfhpgmcjngadDoorPwm
namespace Go.Proofs.YtdbnfhpgmcjngadDoor
open Go Go.RowKit

theorem path_count : ∀ l : List (List UInt8), (∀ x ∈ l, x ≠ []) → l.length ≤ (joinC 46 l).length
  | [], _ => by simp [joinC]
  | [x], h => by
    have := h x (by simp)
    simp only [joinC, List.length_cons, List.length_nil]
    exact List.length_pos_iff.2 this
  | x :: y :: r, h => by
    have h1 := List.length_pos_iff.2 (h x (by simp))
    have h2 := path_count (y :: r) (fun z hz => h z (by simp [hz]))
    simp only [joinC, List.length_append, List.length_cons] at h2 ⊢; omega
theorem pathTx_count (p : List Int) : p.length ≤ (pathTx p).length := by
  unfold pathTx
  by_cases h : p = []
  · subst h; simp
  · rw [if_neg h]
    have := path_count (p.map Lib.itoa) (fun x hx => by obtain ⟨n, _, rfl⟩ := List.mem_map.1 hx; exact itoa_ne n)
    simpa using this
theorem line_parts {d : Dee} (h : lineC d = 0) : d.path.length ≤ (lineT d).length ∧ d.lab.size ≤ (lineT d).length := by
  obtain ⟨h0, _⟩ := lineC_zero h
  obtain ⟨hk, _, h2, _⟩ := dfault_zero.1 h0
  have h1 := pathTx_count d.path
  have h4 : d.lab.data.toList.length = d.lab.size := sizeL _
  rcases (show d.kind = 1 ∨ d.kind = 2 ∨ d.kind = 3 by omega) with h | h | h
  · rw [line1 h]; simp only [List.length_append, List.length_cons, List.length_nil]; omega
  · rw [line2 h, (h2 h).1]; simp only [List.length_append, List.length_cons, List.length_nil]
    exact ⟨by omega, Nat.zero_le _⟩
  · rw [line3 h]; simp only [List.length_append, List.length_cons, List.length_nil]; omega
theorem ended_part {x : List UInt8} : ∀ {l : List (List UInt8)}, x ∈ l → x.length ≤ (ended l).length
  | y :: l, h => by
    simp only [ended, List.length_append, List.length_cons]
    rcases List.mem_cons.1 h with rfl | h
    · omega
    · have := ended_part h; omega
/-- What is read of a short text is no great deed. -/
theorem readP_few {s : List UInt8} (h : s.length ≤ 100000) : FewD (readP s).1 := by
  by_cases hc : (readP s).2.1 = 0
  · have hb := read_back hc
    obtain ⟨_, h2, h3⟩ := print_ok (by rw [hb] : (printP (readP s).1).2.1 = 0)
    rw [hb] at h3
    have hs : s = ended ((readP s).1.map lineT) := congrArg Prod.fst h3
    intro d hd
    have h5 := ended_part (List.mem_map_of_mem (f := lineT) hd)
    rw [← hs] at h5
    have := line_parts (h2 d hd)
    omega
  · rw [read_no hc]; intro d hd; simp at hd
theorem line_few {d : Dee} (h : lineC d = 0) (hp : d.path.length ≤ 60) (hl : d.lab.size ≤ 100) : (lineT d).length ≤ 2000 := by
  obtain ⟨h0, hpp, ha, hm0, hm1⟩ := lineC_zero h
  have hk := (dfault_zero.1 h0).1
  have h1 := pathT_le d.path (fun x hx => by have := hpp x hx; omega)
  have h2 := Lib.itoa_length_le d.pos (by omega) (by omega)
  have h3 := Lib.itoa_length_le d.many (by omega) (by omega)
  have h4 : d.lab.data.toList.length = d.lab.size := sizeL _
  rcases (show d.kind = 1 ∨ d.kind = 2 ∨ d.kind = 3 by omega) with h | h | h
  · rw [line1 h]; simp only [List.length_append, List.length_cons, List.length_nil]; omega
  · rw [line2 h]; simp only [List.length_append, List.length_cons, List.length_nil]; omega
  · rw [line3 h]; simp only [List.length_append, List.length_cons, List.length_nil]; omega
theorem ended_few {ds : List Dee} (h : ∀ d ∈ ds, (lineT d).length ≤ 2000) : (ended (ds.map lineT)).length ≤ 2001 * ds.length := by
  induction ds with
  | nil => simp [ended]
  | cons d r ih =>
    have h1 := h d (by simp)
    have h2 := ih (fun x hx => h x (by simp [hx]))
    simp only [List.map_cons, ended, List.length_append, List.length_cons]; omega
/-- Deeds that are not great. -/
theorem great_few {ds : List Dee} (h : greatDs ds = false) : ds.length ≤ 100 ∧ ∀ d ∈ ds, d.path.length ≤ 60 ∧ d.lab.size ≤ 100 := by
  unfold greatDs at h
  simp only [Bool.or_eq_false_iff, decide_eq_false_iff_not] at h
  obtain ⟨h1, h2⟩ := h
  rw [List.take_of_length_le (by omega)] at h1
  refine ⟨by omega, fun d hd => ?_⟩
  have h3 := List.any_eq_false.1 h1 d hd
  unfold greatDB greatD at h3
  simp only [Bool.or_eq_true, decide_eq_true_eq, not_or] at h3
  omega
theorem print_short {ds : List Dee} (h : greatDs ds = false) : (printP ds).1.length ≤ 200000 := by
  obtain ⟨_, h2⟩ := great_few h
  by_cases hc : (printP ds).2.1 = 0
  · obtain ⟨h80, h3, h4⟩ := print_ok hc
    rw [h4]
    have := ended_few (fun d hd => line_few (h3 d hd) (h2 d hd).1 (h2 d hd).2)
    show (ended (ds.map lineT)).length ≤ _
    omega
  · rw [print_no hc]; simp
set_option maxRecDepth 100000 in
set_option maxHeartbeats 6400000 in
theorem patchBack_walk (ds : List Dee) (oa cap) (s : ByteArray) (w : World) (hds : Dees Any w ds oa cap) (_ : True) (_ : s.size ≤ maxLen) (hw : Lv w) :
    Calls Tryd.prog 3 #[.slice oa ds.length cap, .string s] w fun e w' => e = .returned (.bool true) ∧ Pr w w' := by
  have HDS := Lib.hid hds; have HW := Lib.hid hw
  have BG := Lib.hid (patchBegun_any w hw)
  obtain ⟨gd, hgd⟩ : ∃ b, b = greatDs ds := ⟨_, rfl⟩
  have GR : ∀ W', Pr w W' → Calls Tryd.prog 6 #[.slice oa ds.length cap] W' fun e w' => e = .returned (.bool gd) ∧ Pr W' w' := fun W' h => by
    rw [hgd]; exact greatDsE_any ds oa cap W' (hds.pr h)
  have GR := Lib.hid GR
  cases gd with
  | true =>
    clear hds hw hgd
    go_enter Tryd.func3, Tryd.ntmps3
    go_wp2_with (first
      | (go_at_call 5; (with_reducible refine Calls.mono BG.out ?_); rintro e w1 ⟨rfl, hp1⟩)
      | (go_at_call 6; (with_reducible refine Calls.mono (GR.out _ hp1) ?_); rintro e w2 ⟨rfl, hp2⟩))
    go_ret
    exact ⟨rfl, hp1.trans hp2⟩
  | false =>
    by_cases h6 : 6000 < s.size
    · have n0 : (6000 : Int) < s.size := by omega
      clear hds hw hgd h6
      go_enter Tryd.func3, Tryd.ntmps3
      go_wp2_with (first
        | (go_at_call 5; (with_reducible refine Calls.mono BG.out ?_); rintro e w1 ⟨rfl, hp1⟩)
        | (go_at_call 6; (with_reducible refine Calls.mono (GR.out _ hp1) ?_); rintro e w2 ⟨rfl, hp2⟩))
      go_ret
      exact ⟨rfl, hp1.trans hp2⟩
    · have n0 : decide ((6000 : Int) < s.size) = false := by simp; omega
      have n1 : decide (6000 < s.size) = false := by simp; omega
      obtain ⟨hg1, hg2⟩ := great_few hgd.symm
      have hF : FewD ds := fun d hd => by have := hg2 d hd; omega
      have hsh := print_short hgd.symm
      have hsL := sizeL s
      -- the second half: the text that came in
      obtain ⟨xs, c2, a2, hr⟩ : ∃ xs c2 a2, readP s.data.toList = (xs, c2, a2) := ⟨_, _, _, rfl⟩
      have R2 : ∀ W', Pr w W' → Calls Tryd.prog 8 #[.string s] W' (ReadPost s.data.toList W') := fun W' h => parse_any2 s (by omega) W' (hw.pr h)
      unfold ReadPost at R2
      rw [hr] at R2
      simp only [] at R2
      have R2 := Lib.hid R2
      have hxF : FewD xs := by have := readP_few (s := s.data.toList) (by omega); rw [hr] at this; exact this
      have hback : c2 = 0 → printP xs = (s.data.toList, 0, 0) := fun e => by
        have := read_back (s := s.data.toList) (by rw [hr]; exact e)
        rw [hr] at this; exact this
      have hnone : c2 ≠ 0 → xs = [] := fun e => by
        have := read_no (s := s.data.toList) (by rw [hr]; exact e)
        rw [hr] at this; exact this
      have Hback := Lib.hid hback; have Hnone := Lib.hid hnone; have HxF := Lib.hid hxF
      clear hback hnone hxF hr
      obtain ⟨b1, hb1⟩ : ∃ b : ByteArray, b = ⟨⟨(printP ds).1⟩⟩ := ⟨_, rfl⟩
      obtain ⟨p1, c1, a1, hpr⟩ : ∃ p1 c1 a1, printP ds = (p1, c1, a1) := ⟨_, _, _, rfl⟩
      have P1 : ∀ W', Pr w W' → Calls Tryd.prog 7 #[.slice oa ds.length cap] W' (PrintPost ds W') := fun W' h => print_any ds oa cap W' (hds.pr h) hF (hw.pr h)
      unfold PrintPost at P1
      rw [← hb1] at P1
      rw [hpr] at P1
      simp only [] at P1
      have P1 := Lib.hid P1
      have hb1s : b1.size ≤ 200000 := by rw [← sizeL, hb1]; exact hsh
      have hb1l : b1.data.toList = (printP ds).1 := by rw [hb1]
      by_cases hc1 : c1 = 0
      · have hrb := print_back (ds := ds) (by rw [hpr]; exact hc1)
        rw [← hb1l] at hrb
        have R1 : ∀ W', Pr w W' → Calls Tryd.prog 8 #[.string b1] W' (ReadPost b1.data.toList W') := fun W' h => parse_any2 b1 (by omega) W' (hw.pr h)
        unfold ReadPost at R1
        rw [hrb] at R1
        simp only [] at R1
        have R1 := Lib.hid R1
        clear hrb hb1l hpr hb1 hgd hsh hsL hg1 hg2 hF
        subst hc1
        go_enter Tryd.func3, Tryd.ntmps3
        go_upto_region 5 with (first
          | (go_at_call 5; (with_reducible refine Calls.mono BG.out ?_); rintro e w1 ⟨rfl, hp1⟩)
          | (go_at_call 6; (with_reducible refine Calls.mono (GR.out _ hp1) ?_); rintro e w2 ⟨rfl, hp2⟩))
        have hp12 := hp1.trans hp2
        go_upto_region 6 with (go_at_call 7; (with_reducible refine Calls.mono (P1.out _ hp12) ?_); rintro e w3 ⟨rfl, hp3⟩)
        obtain ⟨w4, hw4⟩ : ∃ w4, w4 = w3.alloc (.cells #[.int .i64 0, .int .i64 a1] 26) := ⟨_, rfl⟩
        rw [← hw4]
        have hp4 : Pr w w4 := by rw [hw4]; exact (hp12.trans hp3).alloc' _
        have c4 : w4.cell? ⟨w3.heap.size, 0, none⟩ = some (.int .i64 0) := by rw [hw4]; simp [go_sem]
        clear hw4
        go_upto_region 8 with (go_at_call 8; (with_reducible refine Calls.mono (R1.out _ hp4) ?_); rintro e w5 ⟨oa5, cap5, rfl, hd5, hp5⟩)
        obtain ⟨w6, hw6⟩ : ∃ w6, w6 = w5.alloc (.cells #[.int .i64 0, .int .i64 0] 26) := ⟨_, rfl⟩
        rw [← hw6]
        have h56 : Pr w5 w6 := by rw [hw6]; exact Pr.alloc _ _
        have hp6 : Pr w w6 := (hp4.trans hp5).trans h56
        have c6 : w6.cell? ⟨w5.heap.size, 0, none⟩ = some (.int .i64 0) := by rw [hw6]; simp [go_sem]
        clear hw6
        have SD := sameDeeds_any ds ds oa5 cap5 oa cap w6 (Dees.any (hd5.pr h56)) (HDS.out.pr hp6)
        rw [decide_eq_true (rfl : ds = ds)] at SD
        have SD := Lib.hid SD
        clear hd5
        go_upto_region 10 with (go_at_call 9; (with_reducible refine Calls.mono SD.out ?_); rintro e w7 ⟨rfl, hp7⟩)
        have hpX := hp6.trans hp7
        go_upto_region 11 with (go_at_call 8; (with_reducible refine Calls.mono (R2.out _ hpX) ?_); rintro e w8 ⟨oa8, cap8, rfl, hd8, hp8⟩)
        obtain ⟨w9, hw9⟩ : ∃ w9, w9 = w8.alloc (.cells #[.int .i64 c2, .int .i64 a2] 26) := ⟨_, rfl⟩
        rw [← hw9]
        have h89 : Pr w8 w9 := by rw [hw9]; exact Pr.alloc _ _
        have hp9 : Pr w w9 := (hpX.trans hp8).trans h89
        have c9 : w9.cell? ⟨w8.heap.size, 0, none⟩ = some (.int .i64 c2) := by rw [hw9]; simp [go_sem]
        clear hw9
        by_cases hc2 : c2 = 0
        · have hpb := Hback.out hc2
          subst hc2
          have P2 : Calls Tryd.prog 7 #[.slice oa8 xs.length cap8] w9 (PrintPost xs w9) := print_any xs oa8 cap8 w9 (Dees.any (hd8.pr h89)) HxF.out (HW.out.pr hp9)
          unfold PrintPost at P2
          rw [hpb] at P2
          simp only [] at P2
          rw [← ba_mk s] at P2
          have P2 := Lib.hid P2
          clear hpb hd8
          go_upto_region 14 with (go_at_call 7; (with_reducible refine Calls.mono P2.out ?_); rintro e w10 ⟨rfl, hp10⟩)
          obtain ⟨w11, hw11⟩ : ∃ w11, w11 = w10.alloc (.cells #[.int .i64 0, .int .i64 0] 26) := ⟨_, rfl⟩
          rw [← hw11]
          have hp11 : Pr w w11 := by rw [hw11]; exact (hp9.trans hp10).alloc' _
          have c11 : w11.cell? ⟨w10.heap.size, 0, none⟩ = some (.int .i64 0) := by rw [hw11]; simp [go_sem]
          clear hw11
          go_wp2_with fail
          go_ret
          exact ⟨rfl, hp11⟩
        · have m2 : (c2 != 0) = true := by simpa using hc2
          have hx := Hnone.out hc2
          subst hx
          clear hc2
          go_wp2_with fail
          go_ret
          exact ⟨rfl, hp9⟩
      · have m0 : (c1 == 0) = false := by simpa using hc1
        clear hb1l hpr hb1 hgd hsh hsL hg1 hg2 hF
        go_enter Tryd.func3, Tryd.ntmps3
        go_upto_region 5 with (first
          | (go_at_call 5; (with_reducible refine Calls.mono BG.out ?_); rintro e w1 ⟨rfl, hp1⟩)
          | (go_at_call 6; (with_reducible refine Calls.mono (GR.out _ hp1) ?_); rintro e w2 ⟨rfl, hp2⟩))
        have hp12 := hp1.trans hp2
        go_upto_region 6 with (go_at_call 7; (with_reducible refine Calls.mono (P1.out _ hp12) ?_); rintro e w3 ⟨rfl, hp3⟩)
        obtain ⟨w4, hw4⟩ : ∃ w4, w4 = w3.alloc (.cells #[.int .i64 c1, .int .i64 a1] 26) := ⟨_, rfl⟩
        rw [← hw4]
        have hp4 : Pr w w4 := by rw [hw4]; exact (hp12.trans hp3).alloc' _
        have c4 : w4.cell? ⟨w3.heap.size, 0, none⟩ = some (.int .i64 c1) := by rw [hw4]; simp [go_sem]
        clear hw4
        go_upto_region 10 with fail
        have hpX := hp4
        go_upto_region 11 with (go_at_call 8; (with_reducible refine Calls.mono (R2.out _ hpX) ?_); rintro e w8 ⟨oa8, cap8, rfl, hd8, hp8⟩)
        obtain ⟨w9, hw9⟩ : ∃ w9, w9 = w8.alloc (.cells #[.int .i64 c2, .int .i64 a2] 26) := ⟨_, rfl⟩
        rw [← hw9]
        have h89 : Pr w8 w9 := by rw [hw9]; exact Pr.alloc _ _
        have hp9 : Pr w w9 := (hpX.trans hp8).trans h89
        have c9 : w9.cell? ⟨w8.heap.size, 0, none⟩ = some (.int .i64 c2) := by rw [hw9]; simp [go_sem]
        clear hw9
        by_cases hc2 : c2 = 0
        · have hpb := Hback.out hc2
          subst hc2
          have P2 : Calls Tryd.prog 7 #[.slice oa8 xs.length cap8] w9 (PrintPost xs w9) := print_any xs oa8 cap8 w9 (Dees.any (hd8.pr h89)) HxF.out (HW.out.pr hp9)
          unfold PrintPost at P2
          rw [hpb] at P2
          simp only [] at P2
          rw [← ba_mk s] at P2
          have P2 := Lib.hid P2
          clear hpb hd8
          go_upto_region 14 with (go_at_call 7; (with_reducible refine Calls.mono P2.out ?_); rintro e w10 ⟨rfl, hp10⟩)
          obtain ⟨w11, hw11⟩ : ∃ w11, w11 = w10.alloc (.cells #[.int .i64 0, .int .i64 0] 26) := ⟨_, rfl⟩
          rw [← hw11]
          have hp11 : Pr w w11 := by rw [hw11]; exact (hp9.trans hp10).alloc' _
          have c11 : w11.cell? ⟨w10.heap.size, 0, none⟩ = some (.int .i64 0) := by rw [hw11]; simp [go_sem]
          clear hw11
          go_wp2_with fail
          go_ret
          exact ⟨rfl, hp11⟩
        · have m2 : (c2 != 0) = true := by simpa using hc2
          have hx := Hnone.out hc2
          subst hx
          clear hc2
          go_wp2_with fail
          go_ret
          exact ⟨rfl, hp9⟩
end Go.Proofs.YtdbnfhpgmcjngadDoor
