/- The law TextDoes: its walk. -/
import Derived.Test.YtdbnfhpgmcjngabTm
namespace Go.Proofs.Ytdbnfhpgmcjngab
open Go Go.RowKit

set_option maxRecDepth 100000 in
set_option maxHeartbeats 6400000 in
theorem textDoes_walk (l0 : ByteArray) (k0 : List Tr) (o0 : Option Addr) (c0 : Nat) (s : ByteArray) (w : World) (hl0 : l0.size ≤ maxLen) (hk0 : Kids Any w k0 o0 c0) (hs : s.size ≤ maxLen) :
    Calls Try.prog 3 #[.agg #[.string l0, .slice o0 k0.length c0], .string s] w fun e w' => e = .returned (.bool true) ∧ Pr w w' := by
  obtain ⟨W, hW⟩ : ∃ W, W = w.alloc (.cells #[.string l0, .slice o0 k0.length c0] 24) := ⟨_, rfl⟩
  have hwW : Pr w W := by rw [hW]; exact Pr.alloc _ _
  have s0 := stays (show W.cell? ⟨w.heap.size, 0, none⟩ = some (.string l0) by rw [hW]; simp [go_sem])
  have s1 := stays (show W.cell? ⟨w.heap.size, 1, none⟩ = some (.slice o0 k0.length c0) by rw [hW]; simp [go_sem])
  have hk0 := hk0.pr hwW
  have hs63 : s.size ≤ 9223372036854775807 := by unfold maxLen at hs; omega
  obtain ⟨ga, hga⟩ : ∃ b, b = great (.node l0 k0) := ⟨_, rfl⟩
  obtain ⟨n1, hn1⟩ : ∃ n, n = fault (.node l0 k0) := ⟨_, rfl⟩
  obtain ⟨a0, ha0⟩ : ∃ a, a = prT (.node l0 k0) := ⟨_, rfl⟩
  have B : Hid (∀ W', Calls Try.prog 14 #[] W' fun e w' => e = .returned (.bool true) ∧ Pr W' w') := Lib.hid fun W' => textBegun_any W'
  have G1 : Hid (∀ W', Pr W W' → Calls Try.prog 15 #[.agg #[.string l0, .slice o0 k0.length c0]] W' fun e w' => e = .returned (.bool ga) ∧ Pr W' w') := Lib.hid fun W' h => by rw [hga]; exact great_any l0 k0 _ _ _ (hk0.pr h)
  have O1 : Hid (ga = false → ∀ W', Pr W W' → Calls Try.prog 16 #[.agg #[.string l0, .slice o0 k0.length c0]] W' (OwnPost W' l0 k0)) := Lib.hid fun hg W' h => rown_any l0 k0 _ _ _ (by have := great_sz (hga ▸ hg); omega) (hk0.pr h)
  have P1 : Hid (∀ W' oa cap, Kids Any W' k0 oa cap → Calls Try.prog 17 #[.agg #[.string l0, .slice oa k0.length cap]] W' fun e w' => e = .returned (.tuple #[.string a0, .int .i64 n1]) ∧ Pr W' w') := Lib.hid fun W' oa cap h => by rw [hn1, ha0]; exact print_any l0 k0 _ _ _ hl0 h
  have F1 : Hid (∀ W', Pr W W' → Calls Try.prog 18 #[.agg #[.string l0, .slice o0 k0.length c0]] W' fun e w' => e = .returned (.int .i64 n1) ∧ Pr W' w') := Lib.hid fun W' h => by rw [hn1]; exact treeFault_any l0 k0 _ _ _ hl0 (hk0.pr h)
  have X1 : Hid (n1 = 0 → ∀ W', Pr W W' → Calls Try.prog 19 #[.agg #[.string l0, .slice o0 k0.length c0]] W' fun e w' => e = .returned (.string a0) ∧ Pr W' w') := Lib.hid fun hz W' h => by
    have hf : fault (.node l0 k0) = 0 := by omega
    have hlen := txt_length _ (fault_parts hf).2.2
    have hsz := (fault_parts hf).1
    rw [ha0]; unfold prT; rw [if_pos hf]
    exact rtextOf_any l0 k0 _ _ _ (hk0.pr h) (by omega)
  have hempty : n1 ≠ 0 → a0 = ⟨#[]⟩ := fun h => by rw [ha0]; unfold prT; rw [if_neg (by omega)]
  obtain ⟨lr, kr, cr, pr, hrp⟩ : ∃ lr kr cr pr, parseP s.data.toList = (.node lr kr, cr, pr) := by
    obtain ⟨t, c, p⟩ := parseP s.data.toList
    cases t with | node l ks => exact ⟨l, ks, c, p, rfl⟩
  have Q : Hid (∀ W', Calls Try.prog 20 #[.string s] W' fun e w' => ∃ oa cap, (e = .returned (.tuple #[.agg #[.string lr, .slice oa kr.length cap], .agg #[.int .i64 cr, .int .i64 pr]]) ∧ Kids Any w' kr oa cap) ∧ Pr W' w') := Lib.hid fun W' => by
    refine (parse_any s W' hs).mono ?_
    rintro e w' ⟨l, ks, oa, cap, h1, h2, rfl, h3, h4⟩
    rw [hrp] at h1 ⊢
    cases h1
    exact ⟨oa, cap, ⟨rfl, h3.any⟩, h4⟩
  have QR : Hid (∀ W', Calls Try.prog 21 #[.string s] W' fun e w' => ∃ oa cap, (e = .returned (.tuple #[.agg #[.string lr, .slice oa kr.length cap], .agg #[.int .i64 cr, .int .i64 pr]]) ∧ Kids Any w' kr oa cap) ∧ Pr W' w') := Lib.hid fun W' => by
    refine (rparse_any s W' hs).mono ?_
    rintro e w' ⟨l, ks, oa, cap, h1, h2, rfl, h3, h4⟩
    rw [hrp] at h1 ⊢
    cases h1
    exact ⟨oa, cap, ⟨rfl, h3.any⟩, h4⟩
  have S0 : Hid (∀ W' oa cap, Pr W W' → Kids Any W' k0 oa cap → Calls Try.prog 22 #[.agg #[.string l0, .slice oa k0.length cap], .agg #[.string l0, .slice o0 k0.length c0]] W' fun e w' => e = .returned (.bool true) ∧ Pr W' w') := Lib.hid fun W' oa cap h hk => by
    have := sameTree_any l0 l0 k0 k0 oa cap o0 c0 W' hk (hk0.pr h)
    rw [Tr.beq_self] at this; exact this
  have S2 : Hid (∀ W' oa cap ob cbp, Kids Any W' kr oa cap → Kids Any W' kr ob cbp → Calls Try.prog 22 #[.agg #[.string lr, .slice oa kr.length cap], .agg #[.string lr, .slice ob kr.length cbp]] W' fun e w' => e = .returned (.bool true) ∧ Pr W' w') := Lib.hid fun W' oa cap ob cbp hk hj => by
    have := sameTree_any lr lr kr kr oa cap ob cbp W' hk hj
    rw [Tr.beq_self] at this; exact this
  have Hempty := Lib.hid hempty; have HW := Lib.hid hwW
  clear hempty hrp hga hn1 ha0 hk0 hwW hs hl0
  go_enter Try.func3, Try.ntmps3
  go_upto_region 1 with fail
  rw [← hW]; clear hW
  go_upto_region 3 with (go_at_call 14; (with_reducible refine Calls.mono (B.out _) ?_); rintro e w1 ⟨rfl, hp⟩)
  have x0 := s0 _ hp; have x1 := s1 _ hp
  cases ga
  case true =>
    go_wp2_with (go_at_call 15; (with_reducible refine Calls.mono (G1.out _ hp) ?_); rintro e w2 ⟨rfl, hb⟩; have hp := hp.trans hb)
    go_ret
    exact ⟨rfl, HW.out.trans hp⟩
  case false =>
    have O2 := Lib.hid (O1.out rfl)
    clear O1
    by_cases hbig : 4000 < s.size
    · have d1 : decide ((4000 : Int) < (s.size : Int)) = true := by simp; omega
      have d2 : decide (4000 < s.size) = true := by simp; omega
      go_wp2_with (go_at_call 15; (with_reducible refine Calls.mono (G1.out _ hp) ?_); rintro e w2 ⟨rfl, hb⟩; have hp := hp.trans hb)
      go_ret
      exact ⟨rfl, HW.out.trans hp⟩
    · have d1 : decide ((4000 : Int) < (s.size : Int)) = false := by simp; omega
      have d2 : decide (4000 < s.size) = false := by simp; omega
      go_upto_region 6 with (first
        | (go_at_call 15; (with_reducible refine Calls.mono (G1.out _ hp) ?_); rintro e w2 ⟨rfl, hb⟩; have hp := hp.trans hb; have x0 := s0 _ hp; have x1 := s1 _ hp)
        | (go_at_call 16; (with_reducible refine Calls.mono (O2.out _ hp) ?_); rintro e w3 ⟨oa3, ca3, rfl, hk3, hb⟩; have hp := hp.trans hb))
      obtain ⟨V, hV⟩ : ∃ V, V = w3.alloc (.cells #[.string l0, .slice oa3 k0.length ca3] 24) := ⟨_, rfl⟩
      have hwV : Pr w3 V := by rw [hV]; exact Pr.alloc _ _
      have v0 := stays (show V.cell? ⟨w3.heap.size, 0, none⟩ = some (.string l0) by rw [hV]; simp [go_sem])
      have v1 := stays (show V.cell? ⟨w3.heap.size, 1, none⟩ = some (.slice oa3 k0.length ca3) by rw [hV]; simp [go_sem])
      have HK3 := Lib.hid (hk3.any.pr hwV); have HpV := Lib.hid (hp.trans hwV)
      rw [← hV]
      clear hV hwV hk3 hp x0 x1
      have hp := Pr.refl V
      have y0 := v0 _ hp; have y1 := v1 _ hp
      by_cases hz : n1 = 0
      case pos =>
        have e1 : ((n1 : Int) == 0) = true := by simp [hz]
        have X2 := Lib.hid (X1.out hz)
        clear hz X1
        go_upto_region 10 with (first
          | (go_at_call 17; (with_reducible refine Calls.mono (P1.out _ _ _ HK3.out) ?_); rintro e w4 ⟨rfl, hb⟩; have hp := hp.trans hb; have x0 := s0 _ (HpV.out.trans hp); have x1 := s1 _ (HpV.out.trans hp))
          | (go_at_call 18; (with_reducible refine Calls.mono (F1.out _ (HpV.out.trans hp)) ?_); rintro e w5 ⟨rfl, hb⟩; have hp := hp.trans hb; have x0 := s0 _ (HpV.out.trans hp); have x1 := s1 _ (HpV.out.trans hp))
          | (go_at_call 19; (with_reducible refine Calls.mono (X2.out _ (HpV.out.trans hp)) ?_); rintro e w6 ⟨rfl, hb⟩; have hp := hp.trans hb))
        go_wp2_with (first
          | (go_at_call 20; (with_reducible refine Calls.mono (Q.out _) ?_); rintro e w7 ⟨oa7, ca7, ⟨rfl, hk7⟩, hb⟩; have hb := (hb.alloc' (.cells #[.string lr, .slice oa7 kr.length ca7] 24)).alloc' (.cells #[.int .i64 cr, .int .i64 pr] 33); have hp := hp.trans hb; have hk7 := (hk7.pr (Pr.alloc _ (.cells #[.string lr, .slice oa7 kr.length ca7] 24))).pr (Pr.alloc _ (.cells #[.int .i64 cr, .int .i64 pr] 33)))
          | (go_at_call 21; (with_reducible refine Calls.mono (QR.out _) ?_); rintro e w8 ⟨oa8, ca8, ⟨rfl, hk8⟩, hb⟩; have hb := (hb.alloc' (.cells #[.string lr, .slice oa8 kr.length ca8] 24)).alloc' (.cells #[.int .i64 cr, .int .i64 pr] 33); have hp := hp.trans hb; have hk7 := hk7.pr hb; have hk8 := (hk8.pr (Pr.alloc _ (.cells #[.string lr, .slice oa8 kr.length ca8] 24))).pr (Pr.alloc _ (.cells #[.int .i64 cr, .int .i64 pr] 33))
             have q0 := hb.cell (b := w7.heap.size) (o := 0) (v := .string lr) (by simp [go_sem]); have q1 := hb.cell (b := w7.heap.size) (o := 1) (v := .slice oa7 kr.length ca7) (by simp [go_sem]); have q2 := hb.cell (b := w7.heap.size + 1) (o := 0) (v := .int .i64 cr) (by simp [go_sem]); have q3 := hb.cell (b := w7.heap.size + 1) (o := 1) (v := .int .i64 pr) (by simp [go_sem]))
          | (go_at_call 22; (with_reducible refine Calls.mono (S2.out _ _ _ _ _ hk7 hk8) ?_); rintro e w9 ⟨rfl, hb⟩; have hp := hp.trans hb; have q2 := hb.cell q2; have q3 := hb.cell q3; have q4 := hb.cell (b := w8.heap.size + 1) (o := 0) (v := .int .i64 cr) (by simp [go_sem]); have q5 := hb.cell (b := w8.heap.size + 1) (o := 1) (v := .int .i64 pr) (by simp [go_sem]); have x0 := s0 _ (HpV.out.trans hp); have x1 := s1 _ (HpV.out.trans hp); have y0 := v0 _ hp; have y1 := v1 _ hp)
          | (go_at_call 22; (with_reducible refine Calls.mono (S0.out _ _ _ (HpV.out.trans hp) (HK3.out.pr hp)) ?_); rintro e w10 ⟨rfl, hb⟩; have hp := hp.trans hb))
        go_ret
        exact ⟨rfl, HW.out.trans (HpV.out.trans hp)⟩
      case neg =>
        have e1 : ((n1 : Int) == 0) = false := by simp [hz]
        have he := Hempty.out hz
        subst he
        clear hz X1
        go_upto_region 10 with (first
          | (go_at_call 17; (with_reducible refine Calls.mono (P1.out _ _ _ HK3.out) ?_); rintro e w4 ⟨rfl, hb⟩; have hp := hp.trans hb; have x0 := s0 _ (HpV.out.trans hp); have x1 := s1 _ (HpV.out.trans hp))
          | (go_at_call 18; (with_reducible refine Calls.mono (F1.out _ (HpV.out.trans hp)) ?_); rintro e w6 ⟨rfl, hb⟩; have hp := hp.trans hb))
        go_wp2_with (first
          | (go_at_call 20; (with_reducible refine Calls.mono (Q.out _) ?_); rintro e w7 ⟨oa7, ca7, ⟨rfl, hk7⟩, hb⟩; have hb := (hb.alloc' (.cells #[.string lr, .slice oa7 kr.length ca7] 24)).alloc' (.cells #[.int .i64 cr, .int .i64 pr] 33); have hp := hp.trans hb; have hk7 := (hk7.pr (Pr.alloc _ (.cells #[.string lr, .slice oa7 kr.length ca7] 24))).pr (Pr.alloc _ (.cells #[.int .i64 cr, .int .i64 pr] 33)))
          | (go_at_call 21; (with_reducible refine Calls.mono (QR.out _) ?_); rintro e w8 ⟨oa8, ca8, ⟨rfl, hk8⟩, hb⟩; have hb := (hb.alloc' (.cells #[.string lr, .slice oa8 kr.length ca8] 24)).alloc' (.cells #[.int .i64 cr, .int .i64 pr] 33); have hp := hp.trans hb; have hk7 := hk7.pr hb; have hk8 := (hk8.pr (Pr.alloc _ (.cells #[.string lr, .slice oa8 kr.length ca8] 24))).pr (Pr.alloc _ (.cells #[.int .i64 cr, .int .i64 pr] 33))
             have q0 := hb.cell (b := w7.heap.size) (o := 0) (v := .string lr) (by simp [go_sem]); have q1 := hb.cell (b := w7.heap.size) (o := 1) (v := .slice oa7 kr.length ca7) (by simp [go_sem]); have q2 := hb.cell (b := w7.heap.size + 1) (o := 0) (v := .int .i64 cr) (by simp [go_sem]); have q3 := hb.cell (b := w7.heap.size + 1) (o := 1) (v := .int .i64 pr) (by simp [go_sem]))
          | (go_at_call 22; (with_reducible refine Calls.mono (S2.out _ _ _ _ _ hk7 hk8) ?_); rintro e w9 ⟨rfl, hb⟩; have hp := hp.trans hb; have q2 := hb.cell q2; have q3 := hb.cell q3; have q4 := hb.cell (b := w8.heap.size + 1) (o := 0) (v := .int .i64 cr) (by simp [go_sem]); have q5 := hb.cell (b := w8.heap.size + 1) (o := 1) (v := .int .i64 pr) (by simp [go_sem]); have x0 := s0 _ (HpV.out.trans hp); have x1 := s1 _ (HpV.out.trans hp); have y0 := v0 _ hp; have y1 := v1 _ hp)
          | (go_at_call 22; (with_reducible refine Calls.mono (S0.out _ _ _ (HpV.out.trans hp) (HK3.out.pr hp)) ?_); rintro e w10 ⟨rfl, hb⟩; have hp := hp.trans hb))
        go_ret
        exact ⟨rfl, HW.out.trans (HpV.out.trans hp)⟩
end Go.Proofs.Ytdbnfhpgmcjngab
