/- The law MergeSwaps: its walk. -/
import Derived.Test.YtdbnfhpgmcjngabMs
import Derived.Test.YtdbnfhpgmcjngabSi
namespace Go.Proofs.Ytdbnfhpgmcjngab
open Go Go.RowKit

theorem merge_swaps {o a b : Tr} (ha : fault a = 0) (hb : fault b = 0) : mergeT o b a = mergeT o a b := by
  unfold mergeT
  by_cases h : fault o = 0
  · rw [if_neg (by simpa using h), if_neg (by simpa using hb), if_neg (by simpa using ha), mixT_swap 100 o b a]
    rw [if_neg (by simpa using h), if_neg (by simpa using ha), if_neg (by simpa using hb)]
  · rw [if_pos h, if_pos h]
theorem six {a b c d e : Bool} : a = true ∨ (a = false ∧ b = true) ∨ (a = false ∧ b = false ∧ c = true) ∨ (a = false ∧ b = false ∧ c = false ∧ d = true) ∨ (a = false ∧ b = false ∧ c = false ∧ d = false ∧ e = true) ∨ (a = false ∧ b = false ∧ c = false ∧ d = false ∧ e = false) := by
  cases a <;> cases b <;> cases c <;> cases d <;> cases e <;> simp
set_option maxRecDepth 100000 in
set_option maxHeartbeats 6400000 in
theorem mergeSwaps_walk (l0 : ByteArray) (k0 : List Tr) (o0 : Option Addr) (c0 : Nat) (l1 : ByteArray) (k1 : List Tr) (o1 : Option Addr) (c1 : Nat) (l2 : ByteArray) (k2 : List Tr) (o2 : Option Addr) (c2 : Nat) (w : World) (hl0 : l0.size ≤ maxLen) (hk0 : Kids Any w k0 o0 c0) (hl1 : l1.size ≤ maxLen) (hk1 : Kids Any w k1 o1 c1) (hl2 : l2.size ≤ maxLen) (hk2 : Kids Any w k2 o2 c2) :
    Calls Try.prog 11 #[.agg #[.string l0, .slice o0 k0.length c0], .agg #[.string l1, .slice o1 k1.length c1], .agg #[.string l2, .slice o2 k2.length c2]] w fun e w' => e = .returned (.bool true) ∧ Pr w w' := by
  obtain ⟨W, hW⟩ : ∃ W, W = ((w.alloc (.cells #[.string l0, .slice o0 k0.length c0] 24)).alloc (.cells #[.string l1, .slice o1 k1.length c1] 24)).alloc (.cells #[.string l2, .slice o2 k2.length c2] 24) := ⟨_, rfl⟩
  have hwW : Pr w W := by rw [hW]; exact ((Pr.alloc _ _).alloc' _).alloc' _
  have s00 := stays (show W.cell? ⟨w.heap.size, 0, none⟩ = some (.string l0) by rw [hW]; simp [go_sem])
  have s01 := stays (show W.cell? ⟨w.heap.size, 1, none⟩ = some (.slice o0 k0.length c0) by rw [hW]; simp [go_sem])
  have s10 := stays (show W.cell? ⟨w.heap.size + 1, 0, none⟩ = some (.string l1) by rw [hW]; simp [go_sem])
  have s11 := stays (show W.cell? ⟨w.heap.size + 1, 1, none⟩ = some (.slice o1 k1.length c1) by rw [hW]; simp [go_sem])
  have s20 := stays (show W.cell? ⟨w.heap.size + 1 + 1, 0, none⟩ = some (.string l2) by rw [hW]; simp [go_sem])
  have s21 := stays (show W.cell? ⟨w.heap.size + 1 + 1, 1, none⟩ = some (.slice o2 k2.length c2) by rw [hW]; simp [go_sem])
  have hk0 := hk0.pr hwW
  have hk1 := hk1.pr hwW
  have hk2 := hk2.pr hwW
  obtain ⟨ga, hga⟩ : ∃ b, b = great (.node l0 k0) := ⟨_, rfl⟩
  obtain ⟨gb, hgb⟩ : ∃ b, b = great (.node l1 k1) := ⟨_, rfl⟩
  obtain ⟨gc, hgc⟩ : ∃ b, b = great (.node l2 k2) := ⟨_, rfl⟩
  obtain ⟨n1, hn1⟩ : ∃ n, n = fault (.node l1 k1) := ⟨_, rfl⟩
  obtain ⟨n2, hn2⟩ : ∃ n, n = fault (.node l2 k2) := ⟨_, rfl⟩
  have G0 : Hid (∀ W', Pr W W' → Calls Try.prog 15 #[.agg #[.string l0, .slice o0 k0.length c0]] W' fun e w' => e = .returned (.bool ga) ∧ Pr W' w') := Lib.hid fun W' h => by rw [hga]; exact great_any l0 k0 _ _ _ (hk0.pr h)
  have G1 : Hid (∀ W', Pr W W' → Calls Try.prog 15 #[.agg #[.string l1, .slice o1 k1.length c1]] W' fun e w' => e = .returned (.bool gb) ∧ Pr W' w') := Lib.hid fun W' h => by rw [hgb]; exact great_any l1 k1 _ _ _ (hk1.pr h)
  have G2 : Hid (∀ W', Pr W W' → Calls Try.prog 15 #[.agg #[.string l2, .slice o2 k2.length c2]] W' fun e w' => e = .returned (.bool gc) ∧ Pr W' w') := Lib.hid fun W' h => by rw [hgc]; exact great_any l2 k2 _ _ _ (hk2.pr h)
  have F1 : Hid (∀ W', Pr W W' → Calls Try.prog 18 #[.agg #[.string l1, .slice o1 k1.length c1]] W' fun e w' => e = .returned (.int .i64 n1) ∧ Pr W' w') := Lib.hid fun W' h => by rw [hn1]; exact treeFault_any l1 k1 _ _ _ hl1 (hk1.pr h)
  have F2 : Hid (∀ W', Pr W W' → Calls Try.prog 18 #[.agg #[.string l2, .slice o2 k2.length c2]] W' fun e w' => e = .returned (.int .i64 n2) ∧ Pr W' w') := Lib.hid fun W' h => by rw [hn2]; exact treeFault_any l2 k2 _ _ _ hl2 (hk2.pr h)
  have e1 := neZ n1
  have e2 := neZ n2
  obtain ⟨t, p, c, hm⟩ : ∃ t p c, mergeT (.node l0 k0) (.node l1 k1) (.node l2 k2) = (t, p, c) := ⟨_, _, _, rfl⟩
  obtain ⟨l3, k3⟩ := t
  have M1 : Hid (∀ W', Pr W W' → Calls Try.prog 36 #[.agg #[.string l0, .slice o0 k0.length c0], .agg #[.string l1, .slice o1 k1.length c1], .agg #[.string l2, .slice o2 k2.length c2]] W' fun e w' =>
      ((∃ oa cap pa pc, e = .returned (.tuple #[.agg #[.string l3, .slice oa k3.length cap], .slice pa p.length pc, .int .i64 c]) ∧ Kids Any w' k3 oa cap ∧ Ints Any w' p pa pc) ∧ l3.size ≤ maxLen) ∧ Pr W' w') :=
    Lib.hid fun W' h => merge_is hl0 hl1 hl2 (hk0.pr h) (hk1.pr h) (hk2.pr h) _ _ _ _ hm
  have M2 : Hid (∀ W', Pr W W' → n1 = 0 → n2 = 0 → Calls Try.prog 36 #[.agg #[.string l0, .slice o0 k0.length c0], .agg #[.string l2, .slice o2 k2.length c2], .agg #[.string l1, .slice o1 k1.length c1]] W' fun e w' =>
      ((∃ oa cap pa pc, e = .returned (.tuple #[.agg #[.string l3, .slice oa k3.length cap], .slice pa p.length pc, .int .i64 c]) ∧ Kids Any w' k3 oa cap ∧ Ints Any w' p pa pc) ∧ l3.size ≤ maxLen) ∧ Pr W' w') :=
    Lib.hid fun W' h a b => merge_is hl0 hl2 hl1 (hk0.pr h) (hk2.pr h) (hk1.pr h) _ _ _ _ ((merge_swaps (hn1.symm.trans a) (hn2.symm.trans b)).trans hm)
  have ecc : ((c : Int) == (c : Int)) = true := by simp
  have HW := Lib.hid hwW
  clear hga hgb hgc hn1 hn2 hm hk0 hk1 hk2 hwW
  go_enter Try.func11, Try.ntmps11
  go_upto_region 1 with fail
  rw [← hW]; clear hW
  go_upto_region 3 with (first
    | (go_at_call 34; refine (mergeBegun_any _).mono ?_; rintro e w1 ⟨rfl, hc⟩))
  have hp := hc
  have x0 := s00 _ hp; have x1 := s01 _ hp; have x2 := s10 _ hp; have x3 := s11 _ hp; have x4 := s20 _ hp; have x5 := s21 _ hp
  obtain ⟨b1, hb1⟩ : ∃ b, b = decide (n1 ≠ 0) := ⟨_, rfl⟩
  obtain ⟨b2, hb2⟩ : ∃ b, b = decide (n2 ≠ 0) := ⟨_, rfl⟩
  rw [← hb1] at e1; rw [← hb2] at e2
  have HB1 := Lib.hid hb1; have HB2 := Lib.hid hb2
  clear hb1 hb2 hc
  rcases six (a := ga) (b := gb) (c := gc) (d := b1) (e := b2) with rfl | ⟨rfl, rfl⟩ | ⟨rfl, rfl, rfl⟩ | ⟨rfl, rfl, rfl, rfl⟩ | ⟨rfl, rfl, rfl, rfl, rfl⟩ | ⟨rfl, rfl, rfl, rfl, rfl⟩
  case' inr.inr.inr.inr.inr =>
    have z1 : n1 = 0 := by have := HB1.out; simp at this; exact this
    have z2 : n2 = 0 := by have := HB2.out; simp at this; exact this
    have M2 := Lib.hid fun W' h => M2.out W' h z1 z2
    clear z1 z2
    go_upto_region 5 with (first
      | (go_at_call 15; (with_reducible refine Calls.mono (G0.out _ hp) ?_); rintro e w2 ⟨rfl, hb⟩; have hp := hp.trans hb; have x0 := s00 _ hp; have x1 := s01 _ hp; have x2 := s10 _ hp; have x3 := s11 _ hp; have x4 := s20 _ hp; have x5 := s21 _ hp)
      | (go_at_call 15; (with_reducible refine Calls.mono (G1.out _ hp) ?_); rintro e w2 ⟨rfl, hb⟩; have hp := hp.trans hb; have x0 := s00 _ hp; have x1 := s01 _ hp; have x2 := s10 _ hp; have x3 := s11 _ hp; have x4 := s20 _ hp; have x5 := s21 _ hp)
      | (go_at_call 15; (with_reducible refine Calls.mono (G2.out _ hp) ?_); rintro e w2 ⟨rfl, hb⟩; have hp := hp.trans hb; have x0 := s00 _ hp; have x1 := s01 _ hp; have x2 := s10 _ hp; have x3 := s11 _ hp; have x4 := s20 _ hp; have x5 := s21 _ hp)
      | (go_at_call 18; (with_reducible refine Calls.mono (F1.out _ hp) ?_); rintro e w2 ⟨rfl, hb⟩; have hp := hp.trans hb; have x0 := s00 _ hp; have x1 := s01 _ hp; have x2 := s10 _ hp; have x3 := s11 _ hp; have x4 := s20 _ hp; have x5 := s21 _ hp)
      | (go_at_call 18; (with_reducible refine Calls.mono (F2.out _ hp) ?_); rintro e w2 ⟨rfl, hb⟩; have hp := hp.trans hb; have x0 := s00 _ hp; have x1 := s01 _ hp; have x2 := s10 _ hp; have x3 := s11 _ hp; have x4 := s20 _ hp; have x5 := s21 _ hp))
    go_upto_region 6 with (go_at_call 36; (with_reducible refine Calls.mono (M1.out _ hp) ?_); rintro e w4 ⟨⟨⟨oa4, cap4, pa4, pc4, rfl, hk4, hi4⟩, hl4⟩, hb4⟩)
    obtain ⟨V4, hV4⟩ : ∃ V, V = w4.alloc (.cells #[.string l3, .slice oa4 k3.length cap4] 24) := ⟨_, rfl⟩
    have hw4 : Pr w4 V4 := by rw [hV4]; exact Pr.alloc _ _
    have f40 := stays (show V4.cell? ⟨w4.heap.size, 0, none⟩ = some (.string l3) by rw [hV4]; simp [go_sem])
    have f41 := stays (show V4.cell? ⟨w4.heap.size, 1, none⟩ = some (.slice oa4 k3.length cap4) by rw [hV4]; simp [go_sem])
    have hk4 := Lib.hid (hk4.pr hw4)
    have hi4 := Lib.hid (Flat.pr hw4 hi4)
    have hp := (hp.trans hb4).trans hw4
    rw [← hV4]
    have x0 := s00 _ hp; have x1 := s01 _ hp; have x2 := s10 _ hp; have x3 := s11 _ hp; have x4 := s20 _ hp; have x5 := s21 _ hp
    clear hV4 hw4 hb4
    go_upto_region 7 with (go_at_call 36; (with_reducible refine Calls.mono (M2.out _ hp) ?_); rintro e w5 ⟨⟨⟨oa5, cap5, pa5, pc5, rfl, hk5, hi5⟩, hl5⟩, hb5⟩)
    obtain ⟨V5, hV5⟩ : ∃ V, V = w5.alloc (.cells #[.string l3, .slice oa5 k3.length cap5] 24) := ⟨_, rfl⟩
    have hw5 : Pr w5 V5 := by rw [hV5]; exact Pr.alloc _ _
    have f50 := stays (show V5.cell? ⟨w5.heap.size, 0, none⟩ = some (.string l3) by rw [hV5]; simp [go_sem])
    have f51 := stays (show V5.cell? ⟨w5.heap.size, 1, none⟩ = some (.slice oa5 k3.length cap5) by rw [hV5]; simp [go_sem])
    have hk5 := Lib.hid (hk5.pr hw5)
    have hi5 := Lib.hid (Flat.pr hw5 hi5)
    have hp := (hp.trans hb5).trans hw5
    have hst5 : Pr V4 V5 := hb5.trans hw5
    rw [← hV5]
    have x0 := s00 _ hp; have x1 := s01 _ hp; have x2 := s10 _ hp; have x3 := s11 _ hp; have x4 := s20 _ hp; have x5 := s21 _ hp
    clear hV5 hw5 hb5
    have f40 := stays (f40 _ hst5); have f41 := stays (f41 _ hst5)
    have hq := Pr.refl V5
    have S1 : Hid (∀ W', Pr V5 W' → Calls Try.prog 22 #[.agg #[.string l3, .slice oa4 k3.length cap4], .agg #[.string l3, .slice oa5 k3.length cap5]] W' fun e w' => e = .returned (.bool true) ∧ Pr W' w') := Lib.hid fun W' h => by
      have := sameTree_any l3 l3 k3 k3 oa4 cap4 oa5 cap5 W' (hk4.out.pr (hst5.trans h)) (hk5.out.pr h); rw [Tr.beq_self] at this; exact this
    have S2 : Hid (∀ W', Pr V5 W' → Calls Try.prog 38 #[.slice pa4 p.length pc4, .slice pa5 p.length pc5] W' fun e w' => e = .returned (.bool true) ∧ Pr W' w') := Lib.hid fun W' h => by
      have := sints_any p p pa4 pc4 pa5 pc5 W' (Flat.pr (hst5.trans h) hi4.out) (Flat.pr h hi5.out); simpa using this
    have g0 := f40 _ hq; have g1 := f41 _ hq; have g2 := f50 _ hq; have g3 := f51 _ hq
    have HP := Lib.hid hp
    clear hst5 M1 M2 hp
    go_wp2_with (first
      | (go_at_call 22; (with_reducible refine Calls.mono (S1.out _ hq) ?_); rintro e w7 ⟨rfl, hb⟩; have hq := hq.trans hb)
      | (go_at_call 38; (with_reducible refine Calls.mono (S2.out _ hq) ?_); rintro e w8 ⟨rfl, hb⟩; have hq := hq.trans hb))
    go_ret
    exact ⟨rfl, HW.out.trans (HP.out.trans hq)⟩
  all_goals
    go_wp2_with (first
      | (go_at_call 15; (with_reducible refine Calls.mono (G0.out _ hp) ?_); rintro e w2 ⟨rfl, hb⟩; have hp := hp.trans hb; have x0 := s00 _ hp; have x1 := s01 _ hp; have x2 := s10 _ hp; have x3 := s11 _ hp; have x4 := s20 _ hp; have x5 := s21 _ hp)
      | (go_at_call 15; (with_reducible refine Calls.mono (G1.out _ hp) ?_); rintro e w2 ⟨rfl, hb⟩; have hp := hp.trans hb; have x0 := s00 _ hp; have x1 := s01 _ hp; have x2 := s10 _ hp; have x3 := s11 _ hp; have x4 := s20 _ hp; have x5 := s21 _ hp)
      | (go_at_call 15; (with_reducible refine Calls.mono (G2.out _ hp) ?_); rintro e w2 ⟨rfl, hb⟩; have hp := hp.trans hb; have x0 := s00 _ hp; have x1 := s01 _ hp; have x2 := s10 _ hp; have x3 := s11 _ hp; have x4 := s20 _ hp; have x5 := s21 _ hp)
      | (go_at_call 18; (with_reducible refine Calls.mono (F1.out _ hp) ?_); rintro e w2 ⟨rfl, hb⟩; have hp := hp.trans hb; have x0 := s00 _ hp; have x1 := s01 _ hp; have x2 := s10 _ hp; have x3 := s11 _ hp; have x4 := s20 _ hp; have x5 := s21 _ hp)
      | (go_at_call 18; (with_reducible refine Calls.mono (F2.out _ hp) ?_); rintro e w2 ⟨rfl, hb⟩; have hp := hp.trans hb; have x0 := s00 _ hp; have x1 := s01 _ hp; have x2 := s10 _ hp; have x3 := s11 _ hp; have x4 := s20 _ hp; have x5 := s21 _ hp))
    go_ret
    exact ⟨rfl, HW.out.trans hp⟩
end Go.Proofs.Ytdbnfhpgmcjngab
