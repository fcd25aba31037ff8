/- The law DistMetric: its walk. -/
import Derived.Test.YtdbnfhpgmcjngaaDg
namespace Go.Proofs.Ytdbnfhpgmcjngaa
open Go Go.RowKit

theorem costT_self (a : Tr) : costT a a = 0 := by unfold costT; rw [fd_self, lc_self]
theorem costT_symm (a b : Tr) : costT a b = costT b a := by unfold costT; rw [fd_symm, lc_symm]
theorem costT_tri (a b c : Tr) : costT a c ≤ costT a b + costT b c := by
  unfold costT
  have := fd_tri a.kids b.kids c.kids
  have := lc_tri a.label b.label c.label
  omega
theorem costT_zero {a b : Tr} : costT a b = 0 ↔ a = b := by
  constructor
  · intro h
    unfold costT at h
    have h1 := fd_zero (show fd a.kids b.kids = 0 by omega)
    have h2 := lc_zero (show lc a.label b.label = 0 by omega)
    cases a; cases b
    simp only [Tr.kids, Tr.label] at h1 h2
    rw [h1, h2]
  · rintro rfl; exact costT_self a

/-- One of six tests that say that nothing is to be shown. -/
theorem six (a b c d e f : Bool) : a = true ∨ (a = false ∧ b = true) ∨ (a = false ∧ b = false ∧ c = true) ∨ (a = false ∧ b = false ∧ c = false ∧ d = true) ∨ (a = false ∧ b = false ∧ c = false ∧ d = false ∧ e = true) ∨
    (a = false ∧ b = false ∧ c = false ∧ d = false ∧ e = false ∧ f = true) ∨ (a = false ∧ b = false ∧ c = false ∧ d = false ∧ e = false ∧ f = false) := by
  cases a <;> cases b <;> cases c <;> cases d <;> cases e <;> cases f <;> simp
theorem costT_bound {a b : Tr} (ha : fault a = 0) (hb : fault b = 0) : costT a b ≤ 100 := by
  have h1 := (fault_zero.1 ha).1
  have h2 := (fault_zero.1 hb).1
  unfold costT
  have := fd_upper a.kids b.kids
  have := lc_le a.label b.label
  cases a; cases b
  simp only [Tr.sz_node, Tr.kids] at *
  omega

set_option maxRecDepth 100000 in
set_option maxHeartbeats 3200000 in
theorem distMetric_walk (l1 : ByteArray) (k1 : List Tr) (o1 c1) (l2 : ByteArray) (k2 : List Tr) (o2 c2) (l3 : ByteArray) (k3 : List Tr) (o3 c3) (w : World)
    (hl1 : l1.size ≤ maxLen) (hk1 : Kids Any w k1 o1 c1) (hl2 : l2.size ≤ maxLen) (hk2 : Kids Any w k2 o2 c2) (hl3 : l3.size ≤ maxLen) (hk3 : Kids Any w k3 o3 c3) :
    Calls Try.prog 9 #[.agg #[.string l1, .slice o1 k1.length c1], .agg #[.string l2, .slice o2 k2.length c2], .agg #[.string l3, .slice o3 k3.length c3]] w fun e w' => e = .returned (.bool true) ∧ Pr w w' := by
  obtain ⟨W, hW⟩ : ∃ W, W = ((w.alloc (.cells #[.string l1, .slice o1 k1.length c1] 24)).alloc (.cells #[.string l2, .slice o2 k2.length c2] 24)).alloc (.cells #[.string l3, .slice o3 k3.length c3] 24) := ⟨_, rfl⟩
  have hwW : Pr w W := by rw [hW]; exact ((Pr.alloc _ _).alloc' _).alloc' _
  have s0 := stays (show W.cell? ⟨w.heap.size, 0, none⟩ = some (.string l1) by rw [hW]; simp [go_sem])
  have s1 := stays (show W.cell? ⟨w.heap.size, 1, none⟩ = some (.slice o1 k1.length c1) by rw [hW]; simp [go_sem])
  have s2 := stays (show W.cell? ⟨w.heap.size + 1, 0, none⟩ = some (.string l2) by rw [hW]; simp [go_sem])
  have s3 := stays (show W.cell? ⟨w.heap.size + 1, 1, none⟩ = some (.slice o2 k2.length c2) by rw [hW]; simp [go_sem])
  have s4 := stays (show W.cell? ⟨w.heap.size + 1 + 1, 0, none⟩ = some (.string l3) by rw [hW]; simp [go_sem])
  have s5 := stays (show W.cell? ⟨w.heap.size + 1 + 1, 1, none⟩ = some (.slice o3 k3.length c3) by rw [hW]; simp [go_sem])
  have hk1 := hk1.pr hwW; have hk2 := hk2.pr hwW; have hk3 := hk3.pr hwW
  obtain ⟨ga, hga⟩ : ∃ b, b = great (.node l1 k1) := ⟨_, rfl⟩
  obtain ⟨gb, hgb⟩ : ∃ b, b = great (.node l2 k2) := ⟨_, rfl⟩
  obtain ⟨gc, hgc⟩ : ∃ b, b = great (.node l3 k3) := ⟨_, rfl⟩
  obtain ⟨fa, hfa⟩ : ∃ b, b = fault (.node l1 k1) := ⟨_, rfl⟩
  obtain ⟨fb, hfb⟩ : ∃ b, b = fault (.node l2 k2) := ⟨_, rfl⟩
  obtain ⟨fc, hfc⟩ : ∃ b, b = fault (.node l3 k3) := ⟨_, rfl⟩
  obtain ⟨ba, hba⟩ : ∃ b, b = ((fa : Int) != 0) := ⟨_, rfl⟩
  obtain ⟨bb, hbb⟩ : ∃ b, b = ((fb : Int) != 0) := ⟨_, rfl⟩
  obtain ⟨bc, hbc⟩ : ∃ b, b = ((fc : Int) != 0) := ⟨_, rfl⟩
  have G1 : Hid (∀ W', Pr W W' → Calls Try.prog 15 #[.agg #[.string l1, .slice o1 k1.length c1]] W' fun e w' => e = .returned (.bool ga) ∧ Pr W' w') := Lib.hid fun W' h => by rw [hga]; exact great_any l1 k1 _ _ _ (hk1.pr h)
  have G2 : Hid (∀ W', Pr W W' → Calls Try.prog 15 #[.agg #[.string l2, .slice o2 k2.length c2]] W' fun e w' => e = .returned (.bool gb) ∧ Pr W' w') := Lib.hid fun W' h => by rw [hgb]; exact great_any l2 k2 _ _ _ (hk2.pr h)
  have G3 : Hid (∀ W', Pr W W' → Calls Try.prog 15 #[.agg #[.string l3, .slice o3 k3.length c3]] W' fun e w' => e = .returned (.bool gc) ∧ Pr W' w') := Lib.hid fun W' h => by rw [hgc]; exact great_any l3 k3 _ _ _ (hk3.pr h)
  have F1 : Hid (∀ W', Pr W W' → Calls Try.prog 22 #[.agg #[.string l1, .slice o1 k1.length c1]] W' fun e w' => e = .returned (.int .i64 fa) ∧ Pr W' w') := Lib.hid fun W' h => by rw [hfa]; exact treeFault_any l1 k1 _ _ _ hl1 (hk1.pr h)
  have F2 : Hid (∀ W', Pr W W' → Calls Try.prog 22 #[.agg #[.string l2, .slice o2 k2.length c2]] W' fun e w' => e = .returned (.int .i64 fb) ∧ Pr W' w') := Lib.hid fun W' h => by rw [hfb]; exact treeFault_any l2 k2 _ _ _ hl2 (hk2.pr h)
  have F3 : Hid (∀ W', Pr W W' → Calls Try.prog 22 #[.agg #[.string l3, .slice o3 k3.length c3]] W' fun e w' => e = .returned (.int .i64 fc) ∧ Pr W' w') := Lib.hid fun W' h => by rw [hfc]; exact treeFault_any l3 k3 _ _ _ hl3 (hk3.pr h)
  have Hz : Hid (ba = false → bb = false → bc = false → fault (.node l1 k1) = 0 ∧ fault (.node l2 k2) = 0 ∧ fault (.node l3 k3) = 0) := Lib.hid fun h1 h2 h3 => by
    rw [h1] at hba; rw [h2] at hbb; rw [h3] at hbc
    simp at hba hbb hbc
    rw [← hfa, ← hfb, ← hfc]; exact ⟨hba, hbb, hbc⟩
  have hba' := hba.symm; have hbb' := hbb.symm; have hbc' := hbc.symm
  clear hga hgb hgc hfa hfb hfc hba hbb hbc
  go_enter Try.func9, Try.ntmps9
  go_wp2_with fail
  rw [← hW]; clear hW
  go_upto_region 3 with (first
    | (go_at_call 37; refine (distBegun_any _).mono ?_; rintro e w1 ⟨rfl, hc⟩))
  have y0 := stays (s0 _ hc); have y1 := stays (s1 _ hc); have y2 := stays (s2 _ hc); have y3 := stays (s3 _ hc); have y4 := stays (s4 _ hc); have y5 := stays (s5 _ hc)
  have Hc := Lib.hid hc
  have G1 := Lib.hid (fun W' (h : Pr w1 W') => G1.out W' (hc.trans h)); have G2 := Lib.hid (fun W' (h : Pr w1 W') => G2.out W' (hc.trans h)); have G3 := Lib.hid (fun W' (h : Pr w1 W') => G3.out W' (hc.trans h))
  have F1 := Lib.hid (fun W' (h : Pr w1 W') => F1.out W' (hc.trans h)); have F2 := Lib.hid (fun W' (h : Pr w1 W') => F2.out W' (hc.trans h)); have F3 := Lib.hid (fun W' (h : Pr w1 W') => F3.out W' (hc.trans h))
  have K1 := Lib.hid (hk1.pr hc); have K2 := Lib.hid (hk2.pr hc); have K3 := Lib.hid (hk3.pr hc)
  clear s0 s1 s2 s3 s4 s5 hk1 hk2 hk3 hc
  go_cut [36] from 12 to 35 (fun v wx => v = .bool (ga || gb || gc || ba || bb || bc) ∧ Pr w1 wx)
  case first =>
    have hp := Pr.refl w1
    rcases six ga gb gc ba bb bc with rfl | ⟨rfl, rfl⟩ | ⟨rfl, rfl, rfl⟩ | ⟨rfl, rfl, rfl, rfl⟩ | ⟨rfl, rfl, rfl, rfl, rfl⟩ | ⟨rfl, rfl, rfl, rfl, rfl, rfl⟩ | ⟨rfl, rfl, rfl, rfl, rfl, rfl⟩
    all_goals
      go_wp2_with (first
        | (go_at_call 15; (with_reducible refine Calls.mono (G1.out _ hp) ?_); rintro e w2 ⟨rfl, hb⟩; have hp := hp.trans hb)
        | (go_at_call 15; (with_reducible refine Calls.mono (G2.out _ hp) ?_); rintro e w3 ⟨rfl, hb⟩; have hp := hp.trans hb)
        | (go_at_call 15; (with_reducible refine Calls.mono (G3.out _ hp) ?_); rintro e w4 ⟨rfl, hb⟩; have hp := hp.trans hb)
        | (go_at_call 22; (with_reducible refine Calls.mono (F1.out _ hp) ?_); rintro e w5 ⟨rfl, hb⟩; have hp := hp.trans hb)
        | (go_at_call 22; (with_reducible refine Calls.mono (F2.out _ hp) ?_); rintro e w6 ⟨rfl, hb⟩; have hp := hp.trans hb)
        | (go_at_call 22; (with_reducible refine Calls.mono (F3.out _ hp) ?_); rintro e w7 ⟨rfl, hb⟩; have hp := hp.trans hb))
      go_meet
      case rel => exact ⟨by simp, hp⟩
  case rest =>
    obtain ⟨rfl, hb⟩ := hcut
    cases hbad : (ga || gb || gc || ba || bb || bc)
    case true =>
      go_wp2_with fail
      go_ret
      exact ⟨rfl, hwW.trans (Hc.out.trans hb)⟩
    case false =>
      simp only [Bool.or_eq_false_iff] at hbad
      obtain ⟨⟨⟨⟨⟨_, _⟩, _⟩, h1⟩, h2⟩, h3⟩ := hbad
      obtain ⟨f1, f2, f3⟩ := Hz.out h1 h2 h3
      obtain ⟨w2, hw2⟩ : ∃ w2, w2 = wc := ⟨_, rfl⟩
      subst hw2
      have y0 := stays (y0 _ hb); have y1 := stays (y1 _ hb); have y2 := stays (y2 _ hb); have y3 := stays (y3 _ hb); have y4 := stays (y4 _ hb); have y5 := stays (y5 _ hb)
      have C1 := Lib.hid (fun W' (h : Pr w2 W') => lcost_any l1 k1 o1 c1 l2 k2 o2 c2 W' hl1 (K1.out.pr (hb.trans h)) hl2 (K2.out.pr (hb.trans h)) f1 f2)
      have C2 := Lib.hid (fun W' (h : Pr w2 W') => lcost_any l2 k2 o2 c2 l3 k3 o3 c3 W' hl2 (K2.out.pr (hb.trans h)) hl3 (K3.out.pr (hb.trans h)) f2 f3)
      have C3 := Lib.hid (fun W' (h : Pr w2 W') => lcost_any l1 k1 o1 c1 l3 k3 o3 c3 W' hl1 (K1.out.pr (hb.trans h)) hl3 (K3.out.pr (hb.trans h)) f1 f3)
      have C4 := Lib.hid (fun W' (h : Pr w2 W') => lcost_any l2 k2 o2 c2 l1 k1 o1 c1 W' hl2 (K2.out.pr (hb.trans h)) hl1 (K1.out.pr (hb.trans h)) f2 f1)
      have C5 := Lib.hid (fun W' (h : Pr w2 W') => lcost_any l1 k1 o1 c1 l1 k1 o1 c1 W' hl1 (K1.out.pr (hb.trans h)) hl1 (K1.out.pr (hb.trans h)) f1 f1)
      have C6 := Lib.hid (fun W' (h : Pr w2 W') => sameTree_any l1 l2 k1 k2 o1 c1 o2 c2 W' (K1.out.pr (hb.trans h)) (K2.out.pr (hb.trans h)))
      have b1 := costT_bound f1 f2
      have b2 := costT_bound f2 f3
      have htri := costT_tri (.node l1 k1) (.node l2 k2) (.node l3 k3)
      have hz := costT_zero (a := .node l1 k1) (b := .node l2 k2)
      rw [costT_symm (.node l2 k2) (.node l1 k1)] at C4
      rw [costT_self] at C5
      have hbq := Tr.beq_iff (.node l1 k1) (.node l2 k2)
      generalize costT (.node l1 k1) (.node l2 k2) = x at *
      generalize costT (.node l2 k2) (.node l3 k3) = y at *
      generalize costT (.node l1 k1) (.node l3 k3) = z at *
      generalize (Tr.node l1 k1).beq (.node l2 k2) = bq at *
      have hxb : ((x : Int) == 0) = bq := by
        rw [Bool.eq_iff_iff, hbq, ← hz]; simp
      have hxyz : (z : Int) ≤ (x : Int) + (y : Int) := by omega
      have ux : IntKind.i64.wrap ((x : Int) + (y : Int)) = (x : Int) + (y : Int) := IntWalk.i64_in _ (by omega)
      have Hb := Lib.hid hb
      clear h1 h2 h3 f1 f2 f3 hz hbq htri hb K1 K2 K3 b1 b2 G1 G2 G3 F1 F2 F3
      have hp := Pr.drew w2
      go_upto_region 5 with fail
      go_region_held3 (fun W => Pr w2 W) (exact hp)
        (first
          | (go_at_call 38; (with_reducible refine Calls.mono (C1.out _ hp) ?_); rintro e w3 ⟨rfl, hb'⟩; have hp := hp.trans hb')
          | (go_at_call 38; (with_reducible refine Calls.mono (C2.out _ hp) ?_); rintro e w4 ⟨rfl, hb'⟩; have hp := hp.trans hb')
          | (go_at_call 38; (with_reducible refine Calls.mono (C3.out _ hp) ?_); rintro e w5 ⟨rfl, hb'⟩; have hp := hp.trans hb'))
      go_wp2_with (first
        | (go_at_call 26; (with_reducible refine Calls.mono (C6.out _ hp) ?_); rintro e w6 ⟨rfl, hb'⟩; have hp := hp.trans hb')
        | (go_at_call 38; (with_reducible refine Calls.mono (C4.out _ hp) ?_); rintro e w7 ⟨rfl, hb'⟩; have hp := hp.trans hb')
        | (go_at_call 38; (with_reducible refine Calls.mono (C5.out _ hp) ?_); rintro e w8 ⟨rfl, hb'⟩; have hp := hp.trans hb'))
      go_ret
      exact ⟨rfl, hwW.trans (Hc.out.trans (Hb.out.trans hp))⟩
end Go.Proofs.Ytdbnfhpgmcjngaa
