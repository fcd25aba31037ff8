/- The law MergeSides: its walk. -/
import Derived.Test.YtdbnfhpgmcjngabMm
namespace Go.Proofs.Ytdbnfhpgmcjngab
open Go Go.RowKit

theorem side_left {o a : Tr} (ho : fault o = 0) (ha : fault a = 0) : mergeT o o a = (a, [], 0) := by
  have : mixT 100 o o a = .ok a := by
    by_cases h : o = a
    · subst h; exact mixT_same _ _ _ _ (by simp [beq_yes])
    · exact mixT_left _ _ _ _ (by simp [beq_no h, beq_no (Ne.symm h)]) (beq_yes o)
  unfold mergeT
  rw [if_neg (by simpa using ho), if_neg (by simpa using ho), if_neg (by simpa using ha), this]
  simp only []
  rw [if_neg (by simpa using ha)]
theorem side_right {o a : Tr} (ho : fault o = 0) (ha : fault a = 0) : mergeT o a o = (a, [], 0) := by
  have : mixT 100 o a o = .ok a := mixT_same _ _ _ _ (by simp [beq_yes])
  unfold mergeT
  rw [if_neg (by simpa using ho), if_neg (by simpa using ha), if_neg (by simpa using ho), this]
  simp only []
  rw [if_neg (by simpa using ha)]
theorem side_both {o a : Tr} (ho : fault o = 0) (ha : fault a = 0) : mergeT o a a = (a, [], 0) := by
  have : mixT 100 o a a = .ok a := mixT_same _ _ _ _ (by simp [beq_yes])
  unfold mergeT
  rw [if_neg (by simpa using ho), if_neg (by simpa using ha), if_neg (by simpa using ha), this]
  simp only []
  rw [if_neg (by simpa using ha)]
/-- What stands ahead of the work: the first that is too great, or no tree, ends it. -/
theorem five {a b c d : Bool} : a = true ∨ (a = false ∧ b = true) ∨ (a = false ∧ b = false ∧ c = true) ∨ (a = false ∧ b = false ∧ c = false ∧ d = true) ∨ (a = false ∧ b = false ∧ c = false ∧ d = false) := by
  cases a <;> cases b <;> cases c <;> cases d <;> simp
theorem neZ (n : Nat) : ((n : Int) != 0) = decide (n ≠ 0) := by
  by_cases h : n = 0
  · simp [h]
  · simp [h, bne_iff_ne]
set_option maxRecDepth 100000 in
set_option maxHeartbeats 6400000 in
theorem mergeSides_walk (l0 : ByteArray) (k0 : List Tr) (o0 : Option Addr) (c0 : Nat) (l1 : ByteArray) (k1 : List Tr) (o1 : Option Addr) (c1 : Nat) (w : World) (hl0 : l0.size ≤ maxLen) (hk0 : Kids Any w k0 o0 c0) (hl1 : l1.size ≤ maxLen) (hk1 : Kids Any w k1 o1 c1) :
    Calls Try.prog 10 #[.agg #[.string l0, .slice o0 k0.length c0], .agg #[.string l1, .slice o1 k1.length c1]] w fun e w' => e = .returned (.bool true) ∧ Pr w w' := by
  obtain ⟨W, hW⟩ : ∃ W, W = (w.alloc (.cells #[.string l0, .slice o0 k0.length c0] 24)).alloc (.cells #[.string l1, .slice o1 k1.length c1] 24) := ⟨_, rfl⟩
  have hwW : Pr w W := by rw [hW]; exact (Pr.alloc _ _).alloc' _
  have s0 := stays (show W.cell? ⟨w.heap.size, 0, none⟩ = some (.string l0) by rw [hW]; simp [go_sem])
  have s1 := stays (show W.cell? ⟨w.heap.size, 1, none⟩ = some (.slice o0 k0.length c0) by rw [hW]; simp [go_sem])
  have d0 := stays (show W.cell? ⟨w.heap.size + 1, 0, none⟩ = some (.string l1) by rw [hW]; simp [go_sem])
  have d1 := stays (show W.cell? ⟨w.heap.size + 1, 1, none⟩ = some (.slice o1 k1.length c1) by rw [hW]; simp [go_sem])
  have hk0 := hk0.pr hwW
  have hk1 := hk1.pr hwW
  obtain ⟨ga, hga⟩ : ∃ b, b = great (.node l0 k0) := ⟨_, rfl⟩
  obtain ⟨gb, hgb⟩ : ∃ b, b = great (.node l1 k1) := ⟨_, rfl⟩
  obtain ⟨n1, hn1⟩ : ∃ n, n = fault (.node l0 k0) := ⟨_, rfl⟩
  obtain ⟨n2, hn2⟩ : ∃ n, n = fault (.node l1 k1) := ⟨_, rfl⟩
  have G1 : Hid (∀ W', Pr W W' → Calls Try.prog 15 #[.agg #[.string l0, .slice o0 k0.length c0]] W' fun e w' => e = .returned (.bool ga) ∧ Pr W' w') := Lib.hid fun W' h => by rw [hga]; exact great_any l0 k0 _ _ _ (hk0.pr h)
  have G2 : Hid (∀ W', Pr W W' → Calls Try.prog 15 #[.agg #[.string l1, .slice o1 k1.length c1]] W' fun e w' => e = .returned (.bool gb) ∧ Pr W' w') := Lib.hid fun W' h => by rw [hgb]; exact great_any l1 k1 _ _ _ (hk1.pr h)
  have F1 : Hid (∀ W', Pr W W' → Calls Try.prog 18 #[.agg #[.string l0, .slice o0 k0.length c0]] W' fun e w' => e = .returned (.int .i64 n1) ∧ Pr W' w') := Lib.hid fun W' h => by rw [hn1]; exact treeFault_any l0 k0 _ _ _ hl0 (hk0.pr h)
  have F2 : Hid (∀ W', Pr W W' → Calls Try.prog 18 #[.agg #[.string l1, .slice o1 k1.length c1]] W' fun e w' => e = .returned (.int .i64 n2) ∧ Pr W' w') := Lib.hid fun W' h => by rw [hn2]; exact treeFault_any l1 k1 _ _ _ hl1 (hk1.pr h)
  have e1 := neZ n1
  have e2 := neZ n2
  have HN1 := Lib.hid hn1; have HN2 := Lib.hid hn2
  have HK0 := Lib.hid hk0; have HK1 := Lib.hid hk1; have HW := Lib.hid hwW
  clear hga hgb hn1 hn2 hk0 hk1 hwW
  have M1 : Hid (∀ W', Pr W W' → n1 = 0 → n2 = 0 → Calls Try.prog 36 #[.agg #[.string l0, .slice o0 k0.length c0], .agg #[.string l0, .slice o0 k0.length c0], .agg #[.string l1, .slice o1 k1.length c1]] W' fun e w' =>
      ((∃ oa cap pa pc, e = .returned (.tuple #[.agg #[.string l1, .slice oa k1.length cap], .slice pa 0 pc, .int .i64 0]) ∧ Kids Any w' k1 oa cap ∧ Ints Any w' [] pa pc) ∧ l1.size ≤ maxLen) ∧ Pr W' w') :=
    Lib.hid fun W' h a b => merge_is hl0 hl0 hl1 (HK0.out.pr h) (HK0.out.pr h) (HK1.out.pr h) _ _ _ _ (side_left (HN1.out.symm.trans a) (HN2.out.symm.trans b))
  have M2 : Hid (∀ W', Pr W W' → n1 = 0 → n2 = 0 → Calls Try.prog 36 #[.agg #[.string l0, .slice o0 k0.length c0], .agg #[.string l1, .slice o1 k1.length c1], .agg #[.string l0, .slice o0 k0.length c0]] W' fun e w' =>
      ((∃ oa cap pa pc, e = .returned (.tuple #[.agg #[.string l1, .slice oa k1.length cap], .slice pa 0 pc, .int .i64 0]) ∧ Kids Any w' k1 oa cap ∧ Ints Any w' [] pa pc) ∧ l1.size ≤ maxLen) ∧ Pr W' w') :=
    Lib.hid fun W' h a b => merge_is hl0 hl1 hl0 (HK0.out.pr h) (HK1.out.pr h) (HK0.out.pr h) _ _ _ _ (side_right (HN1.out.symm.trans a) (HN2.out.symm.trans b))
  have M3 : Hid (∀ W', Pr W W' → n1 = 0 → n2 = 0 → Calls Try.prog 36 #[.agg #[.string l0, .slice o0 k0.length c0], .agg #[.string l1, .slice o1 k1.length c1], .agg #[.string l1, .slice o1 k1.length c1]] W' fun e w' =>
      ((∃ oa cap pa pc, e = .returned (.tuple #[.agg #[.string l1, .slice oa k1.length cap], .slice pa 0 pc, .int .i64 0]) ∧ Kids Any w' k1 oa cap ∧ Ints Any w' [] pa pc) ∧ l1.size ≤ maxLen) ∧ Pr W' w') :=
    Lib.hid fun W' h a b => merge_is hl0 hl1 hl1 (HK0.out.pr h) (HK1.out.pr h) (HK1.out.pr h) _ _ _ _ (side_both (HN1.out.symm.trans a) (HN2.out.symm.trans b))
  have ST : Hid (∀ W' oa cap, Pr W W' → Kids Any W' k1 oa cap → Calls Try.prog 22 #[.agg #[.string l1, .slice oa k1.length cap], .agg #[.string l1, .slice o1 k1.length c1]] W' fun e w' => e = .returned (.bool true) ∧ Pr W' w') := Lib.hid fun W' oa cap h h2 => by
    have := sameTree_any l1 l1 k1 k1 oa cap o1 c1 W' h2 (HK1.out.pr h); rw [Tr.beq_self] at this; exact this
  go_enter Try.func10, Try.ntmps10
  go_upto_region 1 with fail
  rw [← hW]; clear hW
  go_upto_region 3 with (first
    | (go_at_call 34; refine (mergeBegun_any _).mono ?_; rintro e w1 ⟨rfl, hc⟩))
  have x0 := s0 _ hc; have x1 := s1 _ hc; have x2 := d0 _ hc; have x3 := d1 _ hc
  have hp := hc
  obtain ⟨b1, hb1⟩ : ∃ b, b = decide (n1 ≠ 0) := ⟨_, rfl⟩
  obtain ⟨b2, hb2⟩ : ∃ b, b = decide (n2 ≠ 0) := ⟨_, rfl⟩
  rw [← hb1] at e1; rw [← hb2] at e2
  have HB1 := Lib.hid hb1; have HB2 := Lib.hid hb2
  clear hb1 hb2 hc
  rcases five (a := ga) (b := gb) (c := b1) (d := b2) with rfl | ⟨rfl, rfl⟩ | ⟨rfl, rfl, rfl⟩ | ⟨rfl, rfl, rfl, rfl⟩ | ⟨rfl, rfl, rfl, rfl⟩
  case' inr.inr.inr.inr =>
    have z1 : n1 = 0 := by have := HB1.out; simp at this; exact this
    have z2 : n2 = 0 := by have := HB2.out; simp at this; exact this
    have M1 := Lib.hid fun W' h => M1.out W' h z1 z2
    have M2 := Lib.hid fun W' h => M2.out W' h z1 z2
    have M3 := Lib.hid fun W' h => M3.out W' h z1 z2
    clear z1 z2
    go_upto_region 5 with (first
      | (go_at_call 15; (with_reducible refine Calls.mono (G1.out _ hp) ?_); rintro e w2 ⟨rfl, hb⟩; have hp := hp.trans hb; have x0 := s0 _ hp; have x1 := s1 _ hp; have x2 := d0 _ hp; have x3 := d1 _ hp)
      | (go_at_call 15; (with_reducible refine Calls.mono (G2.out _ hp) ?_); rintro e w2 ⟨rfl, hb⟩; have hp := hp.trans hb; have x0 := s0 _ hp; have x1 := s1 _ hp; have x2 := d0 _ hp; have x3 := d1 _ hp)
      | (go_at_call 18; (with_reducible refine Calls.mono (F1.out _ hp) ?_); rintro e w2 ⟨rfl, hb⟩; have hp := hp.trans hb; have x0 := s0 _ hp; have x1 := s1 _ hp; have x2 := d0 _ hp; have x3 := d1 _ hp)
      | (go_at_call 18; (with_reducible refine Calls.mono (F2.out _ hp) ?_); rintro e w2 ⟨rfl, hb⟩; have hp := hp.trans hb; have x0 := s0 _ hp; have x1 := s1 _ hp; have x2 := d0 _ hp; have x3 := d1 _ hp))
    go_upto_region 6 with (go_at_call 36; (with_reducible refine Calls.mono (M1.out _ hp) ?_); rintro e w4 ⟨⟨⟨oa4, cap4, pa4, pc4, rfl, hk4, hi4⟩, hl4⟩, hb4⟩)
    obtain ⟨V4, hV4⟩ : ∃ V, V = w4.alloc (.cells #[.string l1, .slice oa4 k1.length cap4] 24) := ⟨_, rfl⟩
    have hw4 : Pr w4 V4 := by rw [hV4]; exact Pr.alloc _ _
    have f40 := stays (show V4.cell? ⟨w4.heap.size, 0, none⟩ = some (.string l1) by rw [hV4]; simp [go_sem])
    have f41 := stays (show V4.cell? ⟨w4.heap.size, 1, none⟩ = some (.slice oa4 k1.length cap4) by rw [hV4]; simp [go_sem])
    have hk4 := hk4.pr hw4
    have hp := (hp.trans hb4).trans hw4
    have S4 := Lib.hid fun W' (h : Pr V4 W') => ST.out W' oa4 cap4 (hp.trans h) (hk4.pr h)
    rw [← hV4]
    have x0 := s0 _ hp; have x1 := s1 _ hp; have x2 := d0 _ hp; have x3 := d1 _ hp
    clear hV4 hw4 hk4 hi4 hb4
    go_upto_region 7 with (go_at_call 36; (with_reducible refine Calls.mono (M2.out _ hp) ?_); rintro e w5 ⟨⟨⟨oa5, cap5, pa5, pc5, rfl, hk5, hi5⟩, hl5⟩, hb5⟩)
    obtain ⟨V5, hV5⟩ : ∃ V, V = w5.alloc (.cells #[.string l1, .slice oa5 k1.length cap5] 24) := ⟨_, rfl⟩
    have hw5 : Pr w5 V5 := by rw [hV5]; exact Pr.alloc _ _
    have f50 := stays (show V5.cell? ⟨w5.heap.size, 0, none⟩ = some (.string l1) by rw [hV5]; simp [go_sem])
    have f51 := stays (show V5.cell? ⟨w5.heap.size, 1, none⟩ = some (.slice oa5 k1.length cap5) by rw [hV5]; simp [go_sem])
    have hk5 := hk5.pr hw5
    have hp := (hp.trans hb5).trans hw5
    have hst5 : Pr V4 V5 := hb5.trans hw5
    have S5 := Lib.hid fun W' (h : Pr V5 W') => ST.out W' oa5 cap5 (hp.trans h) (hk5.pr h)
    rw [← hV5]
    have x0 := s0 _ hp; have x1 := s1 _ hp; have x2 := d0 _ hp; have x3 := d1 _ hp
    clear hV5 hw5 hk5 hi5 hb5
    go_upto_region 8 with (go_at_call 36; (with_reducible refine Calls.mono (M3.out _ hp) ?_); rintro e w6 ⟨⟨⟨oa6, cap6, pa6, pc6, rfl, hk6, hi6⟩, hl6⟩, hb6⟩)
    obtain ⟨V6, hV6⟩ : ∃ V, V = w6.alloc (.cells #[.string l1, .slice oa6 k1.length cap6] 24) := ⟨_, rfl⟩
    have hw6 : Pr w6 V6 := by rw [hV6]; exact Pr.alloc _ _
    have f60 := stays (show V6.cell? ⟨w6.heap.size, 0, none⟩ = some (.string l1) by rw [hV6]; simp [go_sem])
    have f61 := stays (show V6.cell? ⟨w6.heap.size, 1, none⟩ = some (.slice oa6 k1.length cap6) by rw [hV6]; simp [go_sem])
    have hk6 := hk6.pr hw6
    have hp := (hp.trans hb6).trans hw6
    have hst6 : Pr V5 V6 := hb6.trans hw6
    have S6 := Lib.hid fun W' (h : Pr V6 W') => ST.out W' oa6 cap6 (hp.trans h) (hk6.pr h)
    rw [← hV6]
    have x0 := s0 _ hp; have x1 := s1 _ hp; have x2 := d0 _ hp; have x3 := d1 _ hp
    clear hV6 hw6 hk6 hi6 hb6
    have f40 := stays (f40 _ (hst5.trans hst6)); have f41 := stays (f41 _ (hst5.trans hst6)); have f50 := stays (f50 _ hst6); have f51 := stays (f51 _ hst6)
    have hq := Pr.refl V6
    have S4 := Lib.hid fun W' (h : Pr V6 W') => S4.out W' ((hst5.trans hst6).trans h)
    have S5 := Lib.hid fun W' (h : Pr V6 W') => S5.out W' (hst6.trans h)
    have s0 := stays (s0 _ hp); have s1 := stays (s1 _ hp); have d0 := stays (d0 _ hp); have d1 := stays (d1 _ hp)
    have g0 := f40 _ hq; have g1 := f41 _ hq
    have HP := Lib.hid hp
    clear hst5 hst6 M1 M2 M3 ST hp
    go_wp2_with (first
      | (go_at_call 22; (with_reducible refine Calls.mono (S4.out _ hq) ?_); rintro e w7 ⟨rfl, hb⟩; have hq := hq.trans hb; have g0 := f50 _ hq; have g1 := f51 _ hq; have x2 := d0 _ hq; have x3 := d1 _ hq)
      | (go_at_call 22; (with_reducible refine Calls.mono (S5.out _ hq) ?_); rintro e w8 ⟨rfl, hb⟩; have hq := hq.trans hb; have g0 := f60 _ hq; have g1 := f61 _ hq; have x2 := d0 _ hq; have x3 := d1 _ hq)
      | (go_at_call 22; (with_reducible refine Calls.mono (S6.out _ hq) ?_); rintro e w9 ⟨rfl, hb⟩; have hq := hq.trans hb))
    go_ret
    exact ⟨rfl, HW.out.trans (HP.out.trans hq)⟩
  all_goals
    go_wp2_with (first
      | (go_at_call 15; (with_reducible refine Calls.mono (G1.out _ hp) ?_); rintro e w2 ⟨rfl, hb⟩; have hp := hp.trans hb; have x0 := s0 _ hp; have x1 := s1 _ hp; have x2 := d0 _ hp; have x3 := d1 _ hp)
      | (go_at_call 15; (with_reducible refine Calls.mono (G2.out _ hp) ?_); rintro e w2 ⟨rfl, hb⟩; have hp := hp.trans hb; have x0 := s0 _ hp; have x1 := s1 _ hp; have x2 := d0 _ hp; have x3 := d1 _ hp)
      | (go_at_call 18; (with_reducible refine Calls.mono (F1.out _ hp) ?_); rintro e w2 ⟨rfl, hb⟩; have hp := hp.trans hb; have x0 := s0 _ hp; have x1 := s1 _ hp; have x2 := d0 _ hp; have x3 := d1 _ hp)
      | (go_at_call 18; (with_reducible refine Calls.mono (F2.out _ hp) ?_); rintro e w2 ⟨rfl, hb⟩; have hp := hp.trans hb; have x0 := s0 _ hp; have x1 := s1 _ hp; have x2 := d0 _ hp; have x3 := d1 _ hp))
    go_ret
    exact ⟨rfl, HW.out.trans hp⟩
end Go.Proofs.Ytdbnfhpgmcjngab
