/- The law DistBeneath: its walk. -/
import Derived.Test.YtdbnfhpgmcjngaaDh
namespace Go.Proofs.Ytdbnfhpgmcjngaa
open Go Go.RowKit

theorem costT_above (l : ByteArray) (a b : Tr) : costT (.node l [a]) (.node l [b]) = fd [a] [b] := by unfold costT; simp [Tr.kids, Tr.label, lc_self]
theorem fd_one_le (a b : Tr) : fd [a] [b] ≤ costT a b := by
  cases a with | node l ks =>
  cases b with | node m js =>
  have := fd_match [] [] l m ks js
  simp only [List.nil_append, fd_nil, Tr.szL_nil] at this
  unfold costT; simp only [Tr.kids, Tr.label]; omega
theorem costT_beside (l : ByteArray) (a b c : Tr) : costT (.node l [a, c]) (.node l [b, c]) = fd [a] [b] := by
  have h1 := fd_sub [a] [b] [c] [c]
  have h2 := fd_cancel [a] [c] [b] [c]
  rw [fd_self] at h1 h2
  unfold costT; simp only [Tr.kids, Tr.label, lc_self]
  simp only [List.cons_append, List.nil_append] at h1 h2
  omega
theorem fault_two {l : ByteArray} {a c : Tr} (h : fault (.node l [a, c]) = 0) : fault a = 0 ∧ fault (.node l [a]) = 0 := by
  have h0 := fault_zero.1 h
  have hc := c.sz_pos
  obtain ⟨h1, h2, h3⟩ := h0
  simp only [Tr.sz_node, Tr.szL_cons, Tr.szL_nil] at h1
  simp only [Tr.deepZ, Tr.deepZL, Bool.and_eq_true, decide_eq_true_eq] at h2
  simp only [Tr.named, Tr.namedL, Bool.and_eq_true] at h3
  refine ⟨fault_zero.2 ⟨by omega, Tr.deepZ_mono a _ _ (by omega) h2.2.1, h3.2.1⟩, fault_zero.2 ⟨?_, ?_, ?_⟩⟩
  · simp only [Tr.sz_node, Tr.szL_cons, Tr.szL_nil]; omega
  · simp only [Tr.deepZ, Tr.deepZL, Bool.and_eq_true, decide_eq_true_eq]; exact ⟨h2.1, h2.2.1, trivial⟩
  · simp only [Tr.named, Tr.namedL, Bool.and_eq_true]; exact ⟨h3.1, h3.2.1, trivial⟩
theorem pair_roots (a b : Tr) (n m : Nat) (hn : a.sz = n + 1) (hm : b.sz = m + 1) : pairZ (nds a) (nds b) n m = (fd [a] [b] : Nat) := by
  unfold pairZ
  rw [if_pos (by rw [nds_length, nds_length]; omega)]
  have h1 := lf_root a
  have h2 := lf_root b
  rw [hn, Nat.add_sub_cancel] at h1
  rw [hm, Nat.add_sub_cancel] at h2
  simp only [Int.toNat_natCast, h1, h2]
  rw [← hn, ← hm, pair_root]
theorem three (a b c : Bool) : a = true ∨ (a = false ∧ b = true) ∨ (a = false ∧ b = false ∧ c = true) ∨ (a = false ∧ b = false ∧ c = false) := by
  cases a <;> cases b <;> cases c <;> simp

set_option maxRecDepth 100000 in
set_option maxHeartbeats 3200000 in
theorem distBeneath_walk (l1 : ByteArray) (k1 : List Tr) (o1 c1) (l2 : ByteArray) (k2 : List Tr) (o2 c2) (l3 : ByteArray) (k3 : List Tr) (o3 c3) (w : World)
    (hl1 : l1.size ≤ maxLen) (hk1 : Kids Any w k1 o1 c1) (hl2 : l2.size ≤ maxLen) (hk2 : Kids Any w k2 o2 c2) (hl3 : l3.size ≤ maxLen) (hk3 : Kids Any w k3 o3 c3) :
    Calls Try.prog 10 #[.agg #[.string l1, .slice o1 k1.length c1], .agg #[.string l2, .slice o2 k2.length c2], .agg #[.string l3, .slice o3 k3.length c3]] w fun e w' => e = .returned (.bool true) ∧ Pr w w' := by
  obtain ⟨W, hW⟩ : ∃ W, W = ((w.alloc (.cells #[.string l1, .slice o1 k1.length c1] 24)).alloc (.cells #[.string l2, .slice o2 k2.length c2] 24)).alloc (.cells #[.string l3, .slice o3 k3.length c3] 24) := ⟨_, rfl⟩
  have hwW : Pr w W := by rw [hW]; exact ((Pr.alloc _ _).alloc' _).alloc' _
  have s0 := stays (show W.cell? ⟨w.heap.size, 0, none⟩ = some (.string l1) by rw [hW]; simp [go_sem])
  have s1 := stays (show W.cell? ⟨w.heap.size, 1, none⟩ = some (.slice o1 k1.length c1) by rw [hW]; simp [go_sem])
  have s2 := stays (show W.cell? ⟨w.heap.size + 1, 0, none⟩ = some (.string l2) by rw [hW]; simp [go_sem])
  have s3 := stays (show W.cell? ⟨w.heap.size + 1, 1, none⟩ = some (.slice o2 k2.length c2) by rw [hW]; simp [go_sem])
  have s4 := stays (show W.cell? ⟨w.heap.size + 1 + 1, 0, none⟩ = some (.string l3) by rw [hW]; simp [go_sem])
  have s5 := stays (show W.cell? ⟨w.heap.size + 1 + 1, 1, none⟩ = some (.slice o3 k3.length c3) by rw [hW]; simp [go_sem])
  have hk1 := hk1.pr hwW; have hk2 := hk2.pr hwW; have hk3 := hk3.pr hwW
  obtain ⟨ga, hga⟩ : ∃ b, b = great (.node l1 k1) := ⟨_, rfl⟩
  obtain ⟨gb, hgb⟩ : ∃ b, b = great (.node l2 k2) := ⟨_, rfl⟩
  obtain ⟨gc, hgc⟩ : ∃ b, b = great (.node l3 k3) := ⟨_, rfl⟩
  have G1 : Hid (∀ W', Pr W W' → Calls Try.prog 15 #[.agg #[.string l1, .slice o1 k1.length c1]] W' fun e w' => e = .returned (.bool ga) ∧ Pr W' w') := Lib.hid fun W' h => by rw [hga]; exact great_any l1 k1 _ _ _ (hk1.pr h)
  have G2 : Hid (∀ W', Pr W W' → Calls Try.prog 15 #[.agg #[.string l2, .slice o2 k2.length c2]] W' fun e w' => e = .returned (.bool gb) ∧ Pr W' w') := Lib.hid fun W' h => by rw [hgb]; exact great_any l2 k2 _ _ _ (hk2.pr h)
  have G3 : Hid (∀ W', Pr W W' → Calls Try.prog 15 #[.agg #[.string l3, .slice o3 k3.length c3]] W' fun e w' => e = .returned (.bool gc) ∧ Pr W' w') := Lib.hid fun W' h => by rw [hgc]; exact great_any l3 k3 _ _ _ (hk3.pr h)
  clear hga hgb hgc
  go_enter Try.func10, Try.ntmps10
  go_wp2_with fail
  rw [← hW]; clear hW
  go_upto_region 3 with (first
    | (go_at_call 37; refine (distBegun_any _).mono ?_; rintro e w1 ⟨rfl, hc⟩))
  have y0 := stays (s0 _ hc); have y1 := stays (s1 _ hc); have y2 := stays (s2 _ hc); have y3 := stays (s3 _ hc); have y4 := stays (s4 _ hc); have y5 := stays (s5 _ hc)
  have Hc := Lib.hid hc
  have G1 := Lib.hid (fun W' (h : Pr w1 W') => G1.out W' (hc.trans h)); have G2 := Lib.hid (fun W' (h : Pr w1 W') => G2.out W' (hc.trans h)); have G3 := Lib.hid (fun W' (h : Pr w1 W') => G3.out W' (hc.trans h))
  have K1 := Lib.hid (hk1.pr hc); have K2 := Lib.hid (hk2.pr hc); have K3 := Lib.hid (hk3.pr hc)
  clear s0 s1 s2 s3 s4 s5 hk1 hk2 hk3 hc
  go_cut [26] from 17 to 25 (fun v wx => v = .bool (ga || gb || gc) ∧ Pr w1 wx)
  case first =>
    have hp := Pr.refl w1
    rcases three ga gb gc with rfl | ⟨rfl, rfl⟩ | ⟨rfl, rfl, rfl⟩ | ⟨rfl, rfl, rfl⟩
    all_goals
      go_wp2_with (first
        | (go_at_call 15; (with_reducible refine Calls.mono (G1.out _ hp) ?_); rintro e w2 ⟨rfl, hb⟩; have hp := hp.trans hb)
        | (go_at_call 15; (with_reducible refine Calls.mono (G2.out _ hp) ?_); rintro e w3 ⟨rfl, hb⟩; have hp := hp.trans hb)
        | (go_at_call 15; (with_reducible refine Calls.mono (G3.out _ hp) ?_); rintro e w4 ⟨rfl, hb⟩; have hp := hp.trans hb))
      go_meet
      case rel => exact ⟨by simp, hp⟩
  case rest =>
    obtain ⟨rfl, hb⟩ := hcut
    cases hbad : (ga || gb || gc)
    case true =>
      go_wp2_with fail
      go_ret
      exact ⟨rfl, hwW.trans (Hc.out.trans hb)⟩
    case false =>
      obtain ⟨w2, hw2⟩ : ∃ w2, w2 = wc := ⟨_, rfl⟩
      subst hw2
      have hlt := lt_of_cell (y0 _ hb)
      have hlt2 := lt_of_cell (y2 _ hb)
      have hlt3 := lt_of_cell (y4 _ hb)
      have y0 := stays (y0 _ hb); have y1 := stays (y1 _ hb); have y2 := stays (y2 _ hb); have y3 := stays (y3 _ hb); have y4 := stays (y4 _ hb); have y5 := stays (y5 _ hb)
      have a2 : ∀ p1 p2, Pr w2 ((w2.alloc p1).alloc p2) := fun _ _ => (Pr.alloc _ _).alloc' _
      have a4 : ∀ p1 p2 p3 p4, Pr w2 ((((w2.alloc p1).alloc p2).alloc p3).alloc p4) := fun _ _ _ _ => (((Pr.alloc _ _).alloc' _).alloc' _).alloc' _
      have a6 : ∀ p1 p2 p3 p4 p5 p6, Pr w2 ((((((w2.alloc p1).alloc p2).alloc p3).alloc p4).alloc p5).alloc p6) := fun _ _ _ _ _ _ => (((((Pr.alloc _ _).alloc' _).alloc' _).alloc' _).alloc' _).alloc' _
      have r0 := y0 _ (Pr.refl _); have r1 := y1 _ (Pr.refl _)
      have r2 := fun p1 p2 => y2 _ (a2 p1 p2); have r3 := fun p1 p2 => y3 _ (a2 p1 p2)
      have r4 := fun p1 p2 p3 p4 => y0 _ (a4 p1 p2 p3 p4); have r5 := fun p1 p2 p3 p4 => y1 _ (a4 p1 p2 p3 p4); have r6 := fun p1 p2 p3 p4 => y4 _ (a4 p1 p2 p3 p4); have r7 := fun p1 p2 p3 p4 => y5 _ (a4 p1 p2 p3 p4)
      have r8 := fun p1 p2 p3 p4 p5 p6 => y2 _ (a6 p1 p2 p3 p4 p5 p6); have r9 := fun p1 p2 p3 p4 p5 p6 => y3 _ (a6 p1 p2 p3 p4 p5 p6); have r10 := fun p1 p2 p3 p4 p5 p6 => y4 _ (a6 p1 p2 p3 p4 p5 p6); have r11 := fun p1 p2 p3 p4 p5 p6 => y5 _ (a6 p1 p2 p3 p4 p5 p6)
      clear a2 a4 a6
      have K1 := Lib.hid (K1.out.pr hb); have K2 := Lib.hid (K2.out.pr hb); have K3 := Lib.hid (K3.out.pr hb)
      have Hb := Lib.hid hb
      clear hb G1 G2 G3
      go_upto_region 9 with fail
      obtain ⟨W3, hW3⟩ : ∃ W3, W3 = (((((((w2.alloc (.cells #[.string l1, .slice o1 k1.length c1] 24)).alloc (.cells #[.string ⟨#[114]⟩, .slice (some ⟨w2.heap.size, 0, none⟩) 1 1] 24)).alloc
        (.cells #[.string l2, .slice o2 k2.length c2] 24)).alloc (.cells #[.string ⟨#[114]⟩, .slice (some ⟨w2.heap.size + 1 + 1, 0, none⟩) 1 1] 24)).alloc
        (.cells #[.string l1, .slice o1 k1.length c1, .string l3, .slice o3 k3.length c3] 24)).alloc (.cells #[.string ⟨#[114]⟩, .slice (some ⟨w2.heap.size + 1 + 1 + 1 + 1, 0, none⟩) 2 2] 24)).alloc
        (.cells #[.string l2, .slice o2 k2.length c2, .string l3, .slice o3 k3.length c3] 24)).alloc (.cells #[.string ⟨#[114]⟩, .slice (some ⟨w2.heap.size + 1 + 1 + 1 + 1 + 1 + 1, 0, none⟩) 2 2] 24) := ⟨_, rfl⟩
      have hw3 : Pr w2 W3 := by rw [hW3]; exact (((((((Pr.alloc _ _).alloc' _).alloc' _).alloc' _).alloc' _).alloc' _).alloc' _).alloc' _
      rw [← hW3]
      have x0 := stays (show W3.cell? ⟨w2.heap.size + 1, 0, none⟩ = some (.string ⟨#[114]⟩) by rw [hW3]; simp [go_sem])
      have x1 := stays (show W3.cell? ⟨w2.heap.size + 1, 1, none⟩ = some (.slice (some ⟨w2.heap.size, 0, none⟩) 1 1) by rw [hW3]; simp [go_sem])
      have x2 := stays (show W3.cell? ⟨w2.heap.size + 1 + 1 + 1, 0, none⟩ = some (.string ⟨#[114]⟩) by rw [hW3]; simp [go_sem])
      have x3 := stays (show W3.cell? ⟨w2.heap.size + 1 + 1 + 1, 1, none⟩ = some (.slice (some ⟨w2.heap.size + 1 + 1, 0, none⟩) 1 1) by rw [hW3]; simp [go_sem])
      have x4 := stays (show W3.cell? ⟨w2.heap.size + 1 + 1 + 1 + 1 + 1, 0, none⟩ = some (.string ⟨#[114]⟩) by rw [hW3]; simp [go_sem])
      have x5 := stays (show W3.cell? ⟨w2.heap.size + 1 + 1 + 1 + 1 + 1, 1, none⟩ = some (.slice (some ⟨w2.heap.size + 1 + 1 + 1 + 1, 0, none⟩) 2 2) by rw [hW3]; simp [go_sem])
      have x6 := stays (show W3.cell? ⟨w2.heap.size + 1 + 1 + 1 + 1 + 1 + 1 + 1, 0, none⟩ = some (.string ⟨#[114]⟩) by rw [hW3]; simp [go_sem])
      have x7 := stays (show W3.cell? ⟨w2.heap.size + 1 + 1 + 1 + 1 + 1 + 1 + 1, 1, none⟩ = some (.slice (some ⟨w2.heap.size + 1 + 1 + 1 + 1 + 1 + 1, 0, none⟩) 2 2) by rw [hW3]; simp [go_sem])
      have hm2 : (2 : Nat) ≤ maxLen := by decide
      have hm1 : (1 : Nat) ≤ maxLen := by decide
      have Kx := Lib.hid (show Kids Any W3 [.node l1 k1] (some ⟨w2.heap.size, 0, none⟩) 1 from Kids.mk (by simp) hm1 trivial (KidsAt.cons (cap := c1) (oa := o1) (by rw [hW3]; simp [go_sem]) (by rw [hW3]; simp [go_sem]) hl1 (K1.out.pr hw3) trivial))
      have Ky := Lib.hid (show Kids Any W3 [.node l2 k2] (some ⟨w2.heap.size + 1 + 1, 0, none⟩) 1 from Kids.mk (by simp) hm1 trivial (KidsAt.cons (cap := c2) (oa := o2) (by rw [hW3]; simp [go_sem]) (by rw [hW3]; simp [go_sem]) hl2 (K2.out.pr hw3) trivial))
      have Ku := Lib.hid (show Kids Any W3 [.node l1 k1, .node l3 k3] (some ⟨w2.heap.size + 1 + 1 + 1 + 1, 0, none⟩) 2 from Kids.mk (by simp) hm2 trivial (KidsAt.cons (cap := c1) (oa := o1) (by rw [hW3]; simp [go_sem]) (by rw [hW3]; simp [go_sem]) hl1 (K1.out.pr hw3) (KidsAt.cons (cap := c3) (oa := o3) (by rw [hW3]; simp [go_sem]) (by rw [hW3]; simp [go_sem]) hl3 (K3.out.pr hw3) trivial)))
      have Kv := Lib.hid (show Kids Any W3 [.node l2 k2, .node l3 k3] (some ⟨w2.heap.size + 1 + 1 + 1 + 1 + 1 + 1, 0, none⟩) 2 from Kids.mk (by simp) hm2 trivial (KidsAt.cons (cap := c2) (oa := o2) (by rw [hW3]; simp [go_sem]) (by rw [hW3]; simp [go_sem]) hl2 (K2.out.pr hw3) (KidsAt.cons (cap := c3) (oa := o3) (by rw [hW3]; simp [go_sem]) (by rw [hW3]; simp [go_sem]) hl3 (K3.out.pr hw3) trivial)))
      have y0 := stays (y0 _ hw3); have y1 := stays (y1 _ hw3); have y2 := stays (y2 _ hw3); have y3 := stays (y3 _ hw3)
      have Hw3 := Lib.hid hw3
      have hr : (⟨#[114]⟩ : ByteArray).size ≤ maxLen := by decide
      clear hW3 y4 y5 r0 r1 r2 r3 r4 r5 r6 r7 r8 r9 r10 r11 hlt hlt2 hlt3 hm1 hm2 hw3
      obtain ⟨fu, hfu⟩ : ∃ f, f = fault (.node ⟨#[114]⟩ [.node l1 k1, .node l3 k3]) := ⟨_, rfl⟩
      obtain ⟨fv, hfv⟩ : ∃ f, f = fault (.node ⟨#[114]⟩ [.node l2 k2, .node l3 k3]) := ⟨_, rfl⟩
      have FU : Hid (∀ W', Pr W3 W' → Calls Try.prog 22 #[.agg #[.string ⟨#[114]⟩, .slice (some ⟨w2.heap.size + 1 + 1 + 1 + 1, 0, none⟩) 2 2]] W' fun e w' => e = .returned (.int .i64 fu) ∧ Pr W' w') := Lib.hid fun W' h => by rw [hfu]; exact treeFault_any _ _ _ 2 _ hr (Ku.out.pr h)
      have FV : Hid (∀ W', Pr W3 W' → Calls Try.prog 22 #[.agg #[.string ⟨#[114]⟩, .slice (some ⟨w2.heap.size + 1 + 1 + 1 + 1 + 1 + 1, 0, none⟩) 2 2]] W' fun e w' => e = .returned (.int .i64 fv) ∧ Pr W' w') := Lib.hid fun W' h => by rw [hfv]; exact treeFault_any _ _ _ 2 _ hr (Kv.out.pr h)
      have hp := Pr.refl W3
      have Hfu := Lib.hid hfu; have Hfv := Lib.hid hfv
      clear hfu hfv
      by_cases hu : fu = 0
      case neg =>
        have bu : ((fu : Int) != 0) = true := by simp [bne_iff_ne]; omega
        clear hu
        go_wp2_with (first
          | (go_at_call 22; (with_reducible refine Calls.mono (FU.out _ hp) ?_); rintro e w4 ⟨rfl, hb⟩; have hp := hp.trans hb))
        go_ret
        exact ⟨rfl, hwW.trans (Hc.out.trans (Hb.out.trans (Hw3.out.trans hp)))⟩
      have bu : ((fu : Int) != 0) = false := by simp [hu]
      by_cases hv : fv = 0
      case neg =>
        have bv : ((fv : Int) != 0) = true := by simp [bne_iff_ne]; omega
        clear hu hv
        go_wp2_with (first
          | (go_at_call 22; (with_reducible refine Calls.mono (FU.out _ hp) ?_); rintro e w4 ⟨rfl, hb⟩; have hp := hp.trans hb)
          | (go_at_call 22; (with_reducible refine Calls.mono (FV.out _ hp) ?_); rintro e w5 ⟨rfl, hb⟩; have hp := hp.trans hb))
        go_ret
        exact ⟨rfl, hwW.trans (Hc.out.trans (Hb.out.trans (Hw3.out.trans hp)))⟩
      have bv : ((fv : Int) != 0) = false := by simp [hv]
      have fu0 : fault (.node ⟨#[114]⟩ [.node l1 k1, .node l3 k3]) = 0 := by rw [← Hfu.out, hu]
      have fv0 : fault (.node ⟨#[114]⟩ [.node l2 k2, .node l3 k3]) = 0 := by rw [← Hfv.out, hv]
      obtain ⟨fa, fx⟩ := fault_two fu0
      obtain ⟨fb, fy⟩ := fault_two fv0
      have hza := (fault_zero.1 fa).1
      have hzb := (fault_zero.1 fb).1
      have hpr := pair_roots (.node l1 k1) (.node l2 k2) (Tr.szL k1) (Tr.szL k2) (Tr.sz_node _ _) (Tr.sz_node _ _)
      have hs1 : (nds (.node l1 k1)).length ≤ 1000 := by rw [nds_length]; omega
      have hs2 : (nds (.node l2 k2)).length ≤ 1000 := by rw [nds_length]; omega
      simp only [Tr.sz_node] at hza hzb
      have D1 := Lib.hid (fun W' (h : Pr W3 W') => distOf_yes l1 k1 o1 c1 l2 k2 o2 c2 W' hl1 (K1.out.pr (Hw3.out.trans h)) hl2 (K2.out.pr (Hw3.out.trans h)) fa fb)
      have Z1 : Hid (∀ W', Pr W3 W' → Calls Try.prog 24 #[.agg #[.string l1, .slice o1 k1.length c1], .int .i64 1000] W' fun e w' => e = .returned (.int .i64 ((Tr.szL k1 : Int) + 1)) ∧ Pr W' w') := Lib.hid fun W' h => by
        have := sizeOf_any _ l1 k1 o1 c1 1000 W' (Nat.lt_succ_self _) (by omega) (by omega) (K1.out.pr (Hw3.out.trans h)); rw [show sizeR (Tr.szL k1 + 1) 1000 = (Tr.szL k1 : Int) + 1 by unfold sizeR; omega] at this; exact this
      have Z2 : Hid (∀ W', Pr W3 W' → Calls Try.prog 24 #[.agg #[.string l2, .slice o2 k2.length c2], .int .i64 1000] W' fun e w' => e = .returned (.int .i64 ((Tr.szL k2 : Int) + 1)) ∧ Pr W' w') := Lib.hid fun W' h => by
        have := sizeOf_any _ l2 k2 o2 c2 1000 W' (Nat.lt_succ_self _) (by omega) (by omega) (K2.out.pr (Hw3.out.trans h)); rw [show sizeR (Tr.szL k2 + 1) 1000 = (Tr.szL k2 : Int) + 1 by unfold sizeR; omega] at this; exact this
      have E1 : Hid (∀ W', Pr W3 W' → Calls Try.prog 38 #[.agg #[.string ⟨#[114]⟩, .slice (some ⟨w2.heap.size, 0, none⟩) 1 1], .agg #[.string ⟨#[114]⟩, .slice (some ⟨w2.heap.size + 1 + 1, 0, none⟩) 1 1]] W' fun e w' => e = .returned (.int .i64 (fd [.node l1 k1] [.node l2 k2] : Nat)) ∧ Pr W' w') := Lib.hid fun W' h => by
        have := lcost_any ⟨#[114]⟩ [.node l1 k1] _ 1 ⟨#[114]⟩ [.node l2 k2] _ 1 W' hr (Kx.out.pr h) hr (Ky.out.pr h) fx fy; rw [costT_above] at this; exact this
      have E2 : Hid (∀ W', Pr W3 W' → Calls Try.prog 38 #[.agg #[.string ⟨#[114]⟩, .slice (some ⟨w2.heap.size + 1 + 1 + 1 + 1, 0, none⟩) 2 2], .agg #[.string ⟨#[114]⟩, .slice (some ⟨w2.heap.size + 1 + 1 + 1 + 1 + 1 + 1, 0, none⟩) 2 2]] W' fun e w' => e = .returned (.int .i64 (fd [.node l1 k1] [.node l2 k2] : Nat)) ∧ Pr W' w') := Lib.hid fun W' h => by
        have := lcost_any ⟨#[114]⟩ [.node l1 k1, .node l3 k3] _ 2 ⟨#[114]⟩ [.node l2 k2, .node l3 k3] _ 2 W' hr (Ku.out.pr h) hr (Kv.out.pr h) fu0 fv0; rw [costT_beside] at this; exact this
      have P1 : Hid (∀ W' B, TblOk W' B (nds (.node l1 k1)) (nds (.node l2 k2)) → Calls Try.prog 40 #[.pointer (some ⟨B, 0, none⟩), .int .i64 (Tr.szL k1 : Int), .int .i64 (Tr.szL k2 : Int)] W' fun e w' => e = .returned (.int .i64 (fd [.node l1 k1] [.node l2 k2] : Nat)) ∧ Pr W' w') := Lib.hid fun W' B h => by
        have := pairT_any _ _ B W' h hs1 hs2 (Tr.szL k1 : Int) (Tr.szL k2 : Int); rw [hpr] at this; exact this
      have T1 := Lib.hid (fun W' B h => cost_nds (.node l1 k1) (.node l2 k2) B W' h fa fb)
      have hle := fd_one_le (.node l1 k1) (.node l2 k2)
      generalize fd [.node l1 k1] [.node l2 k2] = X at *
      generalize costT (.node l1 k1) (.node l2 k2) = Y at *
      have hXY : (X : Int) ≤ (Y : Int) := by omega
      have e1 : (Tr.szL k1 : Int) + 1 - 1 = (Tr.szL k1 : Int) := by omega
      have e2 : (Tr.szL k2 : Int) + 1 - 1 = (Tr.szL k2 : Int) := by omega
      have uw1 : IntKind.i64.wrap (Tr.szL k1 : Int) = (Tr.szL k1 : Int) := IntWalk.i64_in _ (by omega)
      have uw2 : IntKind.i64.wrap (Tr.szL k2 : Int) = (Tr.szL k2 : Int) := IntWalk.i64_in _ (by omega)
      clear hpr hs1 hs2 hle hza hzb fa fx fb fy fu0 fv0 hu hv
      go_upto_region 14 with (first
        | (go_at_call 22; (with_reducible refine Calls.mono (FU.out _ hp) ?_); rintro e w4 ⟨rfl, hb⟩; have hp := hp.trans hb)
        | (go_at_call 22; (with_reducible refine Calls.mono (FV.out _ hp) ?_); rintro e w5 ⟨rfl, hb⟩; have hp := hp.trans hb)
        | (go_at_call 39; (with_reducible refine Calls.mono (D1.out _ hp) ?_); rintro e w6 ⟨B, rfl, hT, hb⟩; have hp := hp.trans hb))
      have x0 := stays (x0 _ hp); have x1 := stays (x1 _ hp); have x2 := stays (x2 _ hp); have x3 := stays (x3 _ hp); have x4 := stays (x4 _ hp); have x5 := stays (x5 _ hp); have x6 := stays (x6 _ hp); have x7 := stays (x7 _ hp)
      have y0 := stays (y0 _ hp); have y1 := stays (y1 _ hp); have y2 := stays (y2 _ hp); have y3 := stays (y3 _ hp)
      have Hp := Lib.hid hp
      have HT := Lib.hid (fun W' (h : Pr w6 W') => hT.pr h)
      have Z1 := Lib.hid (fun W' (h : Pr w6 W') => Z1.out W' (hp.trans h)); have Z2 := Lib.hid (fun W' (h : Pr w6 W') => Z2.out W' (hp.trans h)); have E1 := Lib.hid (fun W' (h : Pr w6 W') => E1.out W' (hp.trans h)); have E2 := Lib.hid (fun W' (h : Pr w6 W') => E2.out W' (hp.trans h))
      clear hp hT hb
      have hp := Pr.drew w6
      go_region_held3 (fun W => Pr w6 W) (exact hp)
        (first
          | (go_at_call 24; (with_reducible refine Calls.mono (Z1.out _ hp) ?_); rintro e w7 ⟨rfl, hb'⟩; have hp := hp.trans hb')
          | (go_at_call 24; (with_reducible refine Calls.mono (Z2.out _ hp) ?_); rintro e w8 ⟨rfl, hb'⟩; have hp := hp.trans hb'))
      go_upto_region 15 with fail
      have hp2 := Lib.hid hp
      have hp := hp.drew'
      go_region_held3 (fun W => Pr w6 W) (exact hp)
        (first
          | (go_at_call 38; (with_reducible refine Calls.mono (E1.out _ hp) ?_); rintro e w9 ⟨rfl, hb'⟩; have hp := hp.trans hb')
          | (go_at_call 38; (with_reducible refine Calls.mono (E2.out _ hp) ?_); rintro e w9 ⟨rfl, hb'⟩; have hp := hp.trans hb')
          | (go_at_call 40; (with_reducible refine Calls.mono (P1.out _ _ (HT.out _ hp)) ?_); rintro e w9 ⟨rfl, hb'⟩; have hp := hp.trans hb')
          | (go_at_call 41; (with_reducible refine Calls.mono (T1.out _ _ (HT.out _ hp)) ?_); rintro e w9 ⟨rfl, hb'⟩; have hp := hp.trans hb'))
      go_wp2_with fail
      go_ret
      exact ⟨rfl, hwW.trans (Hc.out.trans (Hb.out.trans (Hw3.out.trans (Hp.out.trans hp))))⟩
end Go.Proofs.Ytdbnfhpgmcjngaa
