/- The law MergeClash: its walk. -/
import Derived.Test.YtdbnfhpgmcjngacMm
import Derived.Test.YtdbnfhpgmcjngacWf
namespace Go.Proofs.Ytdbnfhpgmcjngac
open Go Go.RowKit

theorem fault_few (t : Tr) : fault t ≤ 3 := by
  unfold fault; split
  · omega
  · split
    · omega
    · split <;> omega
theorem merge_clash (o a b : Tr) : ((mergeT o a b).2.2 = 12 → (mergeT o a b).1 = Tr.zero ∧ (∃ u, o.at? (mergeT o a b).2.1 = some u) ∧ a ≠ b ∧ a ≠ o ∧ b ≠ o) ∧
    ((mergeT o a b).2.2 ≠ 12 → (mergeT o a b).2.1 = [] ∧ ((mergeT o a b).2.2 = 0 → fault (mergeT o a b).1 = 0)) := by
  have f1 := fault_few o; have f2 := fault_few a; have f3 := fault_few b
  unfold mergeT
  split
  · exact ⟨fun h => by simp only [] at h; omega, fun _ => ⟨rfl, fun h => absurd h (by assumption)⟩⟩
  · split
    · exact ⟨fun h => by simp only [] at h; omega, fun _ => ⟨rfl, fun h => absurd h (by assumption)⟩⟩
    · split
      · exact ⟨fun h => by simp only [] at h; omega, fun _ => ⟨rfl, fun h => absurd h (by assumption)⟩⟩
      · split
        · rename_i p hp
          exact ⟨fun _ => ⟨rfl, mixT_path _ _ _ _ _ hp, mixT_clash (N := 99) hp⟩, fun h => absurd rfl h⟩
        · rename_i t ht
          have f4 := fault_few t
          split
          · exact ⟨fun h => by simp only [] at h; omega, fun _ => ⟨rfl, fun h => absurd h (by assumption)⟩⟩
          · rename_i h4
            exact ⟨fun h => by simp at h, fun _ => ⟨rfl, fun _ => by simpa using h4⟩⟩
theorem four {a b c : Bool} : a = true ∨ (a = false ∧ b = true) ∨ (a = false ∧ b = false ∧ c = true) ∨ (a = false ∧ b = false ∧ c = false) := by
  cases a <;> cases b <;> cases c <;> simp
set_option maxRecDepth 100000 in
set_option maxHeartbeats 6400000 in
theorem mergeClash_walk (l0 : ByteArray) (k0 : List Tr) (o0 : Option Addr) (c0 : Nat) (l1 : ByteArray) (k1 : List Tr) (o1 : Option Addr) (c1 : Nat) (l2 : ByteArray) (k2 : List Tr) (o2 : Option Addr) (c2 : Nat) (w : World) (hl0 : l0.size ≤ maxLen) (hk0 : Kids Any w k0 o0 c0) (hl1 : l1.size ≤ maxLen) (hk1 : Kids Any w k1 o1 c1) (hl2 : l2.size ≤ maxLen) (hk2 : Kids Any w k2 o2 c2) :
    Calls Try.prog 3 #[.agg #[.string l0, .slice o0 k0.length c0], .agg #[.string l1, .slice o1 k1.length c1], .agg #[.string l2, .slice o2 k2.length c2]] w fun e w' => e = .returned (.bool true) ∧ Pr w w' := by
  obtain ⟨W, hW⟩ : ∃ W, W = ((w.alloc (.cells #[.string l0, .slice o0 k0.length c0] 24)).alloc (.cells #[.string l1, .slice o1 k1.length c1] 24)).alloc (.cells #[.string l2, .slice o2 k2.length c2] 24) := ⟨_, rfl⟩
  have hwW : Pr w W := by rw [hW]; exact ((Pr.alloc _ _).alloc' _).alloc' _
  have s00 := stays (show W.cell? ⟨w.heap.size, 0, none⟩ = some (.string l0) by rw [hW]; simp [go_sem])
  have s01 := stays (show W.cell? ⟨w.heap.size, 1, none⟩ = some (.slice o0 k0.length c0) by rw [hW]; simp [go_sem])
  have s10 := stays (show W.cell? ⟨w.heap.size + 1, 0, none⟩ = some (.string l1) by rw [hW]; simp [go_sem])
  have s11 := stays (show W.cell? ⟨w.heap.size + 1, 1, none⟩ = some (.slice o1 k1.length c1) by rw [hW]; simp [go_sem])
  have s20 := stays (show W.cell? ⟨w.heap.size + 1 + 1, 0, none⟩ = some (.string l2) by rw [hW]; simp [go_sem])
  have s21 := stays (show W.cell? ⟨w.heap.size + 1 + 1, 1, none⟩ = some (.slice o2 k2.length c2) by rw [hW]; simp [go_sem])
  have hk0 := hk0.pr hwW
  have hk1 := hk1.pr hwW
  have hk2 := hk2.pr hwW
  obtain ⟨ga, hga⟩ : ∃ b, b = great (.node l0 k0) := ⟨_, rfl⟩
  obtain ⟨gb, hgb⟩ : ∃ b, b = great (.node l1 k1) := ⟨_, rfl⟩
  obtain ⟨gc, hgc⟩ : ∃ b, b = great (.node l2 k2) := ⟨_, rfl⟩
  have G0 : Hid (∀ W', Pr W W' → Calls Try.prog 13 #[.agg #[.string l0, .slice o0 k0.length c0]] W' fun e w' => e = .returned (.bool ga) ∧ Pr W' w') := Lib.hid fun W' h => by rw [hga]; exact great_any l0 k0 _ _ _ (hk0.pr h)
  have G1 : Hid (∀ W', Pr W W' → Calls Try.prog 13 #[.agg #[.string l1, .slice o1 k1.length c1]] W' fun e w' => e = .returned (.bool gb) ∧ Pr W' w') := Lib.hid fun W' h => by rw [hgb]; exact great_any l1 k1 _ _ _ (hk1.pr h)
  have G2 : Hid (∀ W', Pr W W' → Calls Try.prog 13 #[.agg #[.string l2, .slice o2 k2.length c2]] W' fun e w' => e = .returned (.bool gc) ∧ Pr W' w') := Lib.hid fun W' h => by rw [hgc]; exact great_any l2 k2 _ _ _ (hk2.pr h)
  obtain ⟨hc12, hc0⟩ := merge_clash (.node l0 k0) (.node l1 k1) (.node l2 k2)
  obtain ⟨t, p, c, hm⟩ : ∃ t p c, mergeT (.node l0 k0) (.node l1 k1) (.node l2 k2) = (t, p, c) := ⟨_, _, _, rfl⟩
  rw [hm] at hc12 hc0
  simp only [] at hc12 hc0
  obtain ⟨l3, k3⟩ := t
  have M1 : Hid (∀ W', Pr W W' → Calls Try.prog 14 #[.agg #[.string l0, .slice o0 k0.length c0], .agg #[.string l1, .slice o1 k1.length c1], .agg #[.string l2, .slice o2 k2.length c2]] W' fun e w' =>
      ((∃ oa cap pa pc, e = .returned (.tuple #[.agg #[.string l3, .slice oa k3.length cap], .slice pa p.length pc, .int .i64 c]) ∧ Kids Any w' k3 oa cap ∧ Ints Any w' p pa pc) ∧ l3.size ≤ maxLen) ∧ Pr W' w') :=
    Lib.hid fun W' h => merge_is hl0 hl1 hl2 (hk0.pr h) (hk1.pr h) (hk2.pr h) _ _ _ _ hm
  have HC12 := Lib.hid hc12; have HC0 := Lib.hid hc0
  have HW := Lib.hid hwW; have HGa := Lib.hid hga
  have HK0 := Lib.hid hk0; have HK1 := Lib.hid hk1; have HK2 := Lib.hid hk2
  clear hga hgb hgc hm hk0 hk1 hk2 hwW hc12 hc0
  go_enter Try.func3, Try.ntmps3
  go_upto_region 1 with fail
  rw [← hW]; clear hW
  go_upto_region 3 with (first
    | (go_at_call 12; refine (mergeBegun_any _).mono ?_; rintro e w1 ⟨rfl, hc⟩))
  have hp := hc
  have x0 := s00 _ hp; have x1 := s01 _ hp; have x2 := s10 _ hp; have x3 := s11 _ hp; have x4 := s20 _ hp; have x5 := s21 _ hp
  clear hc
  rcases four (a := ga) (b := gb) (c := gc) with rfl | ⟨rfl, rfl⟩ | ⟨rfl, rfl, rfl⟩ | ⟨rfl, rfl, rfl⟩
  case' inr.inr.inr =>
    go_upto_region 5 with (first
      | (go_at_call 13; (with_reducible refine Calls.mono (G0.out _ hp) ?_); rintro e w2 ⟨rfl, hb⟩; have hp := hp.trans hb; have x0 := s00 _ hp; have x1 := s01 _ hp; have x2 := s10 _ hp; have x3 := s11 _ hp; have x4 := s20 _ hp; have x5 := s21 _ hp)
      | (go_at_call 13; (with_reducible refine Calls.mono (G1.out _ hp) ?_); rintro e w2 ⟨rfl, hb⟩; have hp := hp.trans hb; have x0 := s00 _ hp; have x1 := s01 _ hp; have x2 := s10 _ hp; have x3 := s11 _ hp; have x4 := s20 _ hp; have x5 := s21 _ hp)
      | (go_at_call 13; (with_reducible refine Calls.mono (G2.out _ hp) ?_); rintro e w2 ⟨rfl, hb⟩; have hp := hp.trans hb; have x0 := s00 _ hp; have x1 := s01 _ hp; have x2 := s10 _ hp; have x3 := s11 _ hp; have x4 := s20 _ hp; have x5 := s21 _ hp))
    go_upto_region 6 with (go_at_call 14; (with_reducible refine Calls.mono (M1.out _ hp) ?_); rintro e w4 ⟨⟨⟨oa4, cap4, pa4, pc4, rfl, hk4, hi4⟩, hl4⟩, hb4⟩)
    obtain ⟨V4, hV4⟩ : ∃ V, V = w4.alloc (.cells #[.string l3, .slice oa4 k3.length cap4] 24) := ⟨_, rfl⟩
    have hw4 : Pr w4 V4 := by rw [hV4]; exact Pr.alloc _ _
    have f40 := stays (show V4.cell? ⟨w4.heap.size, 0, none⟩ = some (.string l3) by rw [hV4]; simp [go_sem])
    have f41 := stays (show V4.cell? ⟨w4.heap.size, 1, none⟩ = some (.slice oa4 k3.length cap4) by rw [hV4]; simp [go_sem])
    have hk4 := Lib.hid (hk4.pr hw4)
    have hi4 := Lib.hid (Flat.pr hw4 hi4)
    have hp := (hp.trans hb4).trans hw4
    rw [← hV4]
    clear hV4 hw4 hb4 M1
    have hq := Pr.refl V4
    have HP := Lib.hid hp
    have s00 := stays (s00 _ hp); have s01 := stays (s01 _ hp); have s10 := stays (s10 _ hp); have s11 := stays (s11 _ hp); have s20 := stays (s20 _ hp); have s21 := stays (s21 _ hp)
    by_cases h12 : c = 12
    · obtain ⟨hz, ⟨u, hu⟩, n1, n2, n3⟩ := HC12.out h12
      subst h12
      cases hz
      have S1 : Hid (∀ W', Pr V4 W' → Calls Try.prog 16 #[.agg #[.string ⟨#[]⟩, .slice oa4 0 cap4], .agg #[.string ⟨#[]⟩, .slice none 0 0]] W' fun e w' => e = .returned (.bool true) ∧ Pr W' w') := Lib.hid fun W' h => by
        have := sameTree_any ⟨#[]⟩ ⟨#[]⟩ [] [] oa4 cap4 none 0 W' (hk4.out.pr h) (Kids.nil0 _ _); rw [Tr.beq_self] at this; exact this
      have P1 : Hid (∀ W', Pr V4 W' → Calls Try.prog 17 #[.agg #[.string l1, .slice o1 k1.length c1], .agg #[.string l2, .slice o2 k2.length c2]] W' fun e w' => e = .returned (.bool false) ∧ Pr W' w') := Lib.hid fun W' h => by
        have := psame_any l1 l2 k1 k2 o1 c1 o2 c2 W' (HK1.out.pr (HP.out.trans h)) (HK2.out.pr (HP.out.trans h)); rw [beq_no n1] at this; exact this
      have P2 : Hid (∀ W', Pr V4 W' → Calls Try.prog 17 #[.agg #[.string l1, .slice o1 k1.length c1], .agg #[.string l0, .slice o0 k0.length c0]] W' fun e w' => e = .returned (.bool false) ∧ Pr W' w') := Lib.hid fun W' h => by
        have := psame_any l1 l0 k1 k0 o1 c1 o0 c0 W' (HK1.out.pr (HP.out.trans h)) (HK0.out.pr (HP.out.trans h)); rw [beq_no n2] at this; exact this
      have P3 : Hid (∀ W', Pr V4 W' → Calls Try.prog 17 #[.agg #[.string l2, .slice o2 k2.length c2], .agg #[.string l0, .slice o0 k0.length c0]] W' fun e w' => e = .returned (.bool false) ∧ Pr W' w') := Lib.hid fun W' h => by
        have := psame_any l2 l0 k2 k0 o2 c2 o0 c0 W' (HK2.out.pr (HP.out.trans h)) (HK0.out.pr (HP.out.trans h)); rw [beq_no n3] at this; exact this
      have hsz := great_sz HGa.out.symm
      have A1 : Hid (∀ W', Pr V4 W' → Calls Try.prog 18 #[.agg #[.string l0, .slice o0 k0.length c0], .slice pa4 p.length pc4] W' fun e w' => (∃ l ks oa cap, e = .returned (.tuple #[.agg #[.string l, .slice oa ks cap], .bool true])) ∧ Pr W' w') := Lib.hid fun W' h => by
        refine (at_any l0 k0 o0 c0 p pa4 pc4 W' (by omega) hl0 (HK0.out.pr (HP.out.trans h)) (Flat.pr h hi4.out)).mono ?_
        rintro e w' ⟨l, ks, oa, cap, -, -, rfl, -, hb⟩
        rw [hu]
        exact ⟨⟨l, ks.length, oa, cap, rfl⟩, hb⟩
      have g0 := f40 _ hq; have g1 := f41 _ hq
      have x0 := s00 _ hq; have x1 := s01 _ hq; have x2 := s10 _ hq; have x3 := s11 _ hq; have x4 := s20 _ hq; have x5 := s21 _ hq
      clear hu n1 n2 n3 hsz hp
      go_wp2_with (first
        | (go_at_call 16; (with_reducible refine Calls.mono (S1.out _ hq) ?_); rintro e w7 ⟨rfl, hb⟩; have hq := hq.trans hb; have x0 := s00 _ hq; have x1 := s01 _ hq; have x2 := s10 _ hq; have x3 := s11 _ hq; have x4 := s20 _ hq; have x5 := s21 _ hq)
        | (go_at_call 17; (with_reducible refine Calls.mono (P1.out _ hq) ?_); rintro e w8 ⟨rfl, hb⟩; have hq := hq.trans hb; have x0 := s00 _ hq; have x1 := s01 _ hq; have x2 := s10 _ hq; have x3 := s11 _ hq; have x4 := s20 _ hq; have x5 := s21 _ hq)
        | (go_at_call 17; (with_reducible refine Calls.mono (P2.out _ hq) ?_); rintro e w9 ⟨rfl, hb⟩; have hq := hq.trans hb; have x0 := s00 _ hq; have x1 := s01 _ hq; have x2 := s10 _ hq; have x3 := s11 _ hq; have x4 := s20 _ hq; have x5 := s21 _ hq)
        | (go_at_call 17; (with_reducible refine Calls.mono (P3.out _ hq) ?_); rintro e w10 ⟨rfl, hb⟩; have hq := hq.trans hb; have x0 := s00 _ hq; have x1 := s01 _ hq; have x2 := s10 _ hq; have x3 := s11 _ hq; have x4 := s20 _ hq; have x5 := s21 _ hq)
        | (go_at_call 18; (with_reducible refine Calls.mono (A1.out _ hq) ?_); rintro e w11 ⟨⟨l5, k5, o5, c5, rfl⟩, hb⟩; have hq := hq.trans hb))
      go_ret
      exact ⟨rfl, HW.out.trans (HP.out.trans (hq.alloc' _))⟩
    · obtain ⟨rfl, hf⟩ := HC0.out h12
      have e1 : ((c : Int) != 12) = true := by simp [bne_iff_ne]; omega
      have g0 := f40 _ hq; have g1 := f41 _ hq
      clear HC0 HC12 h12 hp
      by_cases h0 : c = 0
      · have e2 : ((c : Int) != 0) = false := by simp [h0]
        have K1 : Hid (∀ W', Pr V4 W' → Calls Try.prog 15 #[.agg #[.string l3, .slice oa4 k3.length cap4]] W' fun e w' => e = .returned (.int .i64 0) ∧ Pr W' w') := Lib.hid fun W' h => by
          have := check_any l3 k3 oa4 cap4 W' hl4 (hk4.out.pr h); rw [hf h0] at this; exact this
        clear hf h0
        go_wp2_with (go_at_call 15; (with_reducible refine Calls.mono (K1.out _ hq) ?_); rintro e w7 ⟨rfl, hb⟩; have hq := hq.trans hb)
        go_ret
        exact ⟨rfl, HW.out.trans (HP.out.trans hq)⟩
      · have e2 : ((c : Int) != 0) = true := by simp [bne_iff_ne]; omega
        clear hf h0
        go_wp2_with fail
        go_ret
        exact ⟨rfl, HW.out.trans (HP.out.trans hq)⟩
  all_goals
    go_wp2_with (first
      | (go_at_call 13; (with_reducible refine Calls.mono (G0.out _ hp) ?_); rintro e w2 ⟨rfl, hb⟩; have hp := hp.trans hb; have x0 := s00 _ hp; have x1 := s01 _ hp; have x2 := s10 _ hp; have x3 := s11 _ hp; have x4 := s20 _ hp; have x5 := s21 _ hp)
      | (go_at_call 13; (with_reducible refine Calls.mono (G1.out _ hp) ?_); rintro e w2 ⟨rfl, hb⟩; have hp := hp.trans hb; have x0 := s00 _ hp; have x1 := s01 _ hp; have x2 := s10 _ hp; have x3 := s11 _ hp; have x4 := s20 _ hp; have x5 := s21 _ hp)
      | (go_at_call 13; (with_reducible refine Calls.mono (G2.out _ hp) ?_); rintro e w2 ⟨rfl, hb⟩; have hp := hp.trans hb; have x0 := s00 _ hp; have x1 := s01 _ hp; have x2 := s10 _ hp; have x3 := s11 _ hp; have x4 := s20 _ hp; have x5 := s21 _ hp))
    go_ret
    exact ⟨rfl, HW.out.trans hp⟩
end Go.Proofs.Ytdbnfhpgmcjngac
