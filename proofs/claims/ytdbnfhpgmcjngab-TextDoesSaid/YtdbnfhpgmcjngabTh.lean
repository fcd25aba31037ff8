/- The law TextBack: its walk. -/
import Derived.Test.YtdbnfhpgmcjngabTg
namespace Go.Proofs.Ytdbnfhpgmcjngab
open Go Go.RowKit

theorem parseP_no {l : List UInt8} (h : (parseP l).2.1 ≠ 0) : (parseP l).1 = Tr.zero := by
  unfold parseP at h ⊢
  split
  · rfl
  · rename_i h0
    rw [if_neg h0] at h
    cases hx : parseT l 0 with
    | error e => rfl
    | ok x =>
      rw [hx] at h
      simp only [] at h ⊢
      by_cases h1 : skip x.2 ≠ []
      · rw [if_pos h1]
      · rw [if_neg h1] at h ⊢
        by_cases h2 : fault x.1 ≠ 0
        · rw [if_pos h2]
        · rw [if_neg h2] at h; exact absurd rfl h
/-- What was printed is read. -/
theorem parse_print (l : ByteArray) (ks : List Tr) (W : World) (hf : fault (.node l ks) = 0) :
    Calls Try.prog 20 #[.string (prT (.node l ks))] W fun e w' => ∃ oa cap, (e = .returned (.tuple #[.agg #[.string l, .slice oa ks.length cap], .agg #[.int .i64 0, .int .i64 0]]) ∧ Kids Any w' ks oa cap) ∧ Pr W w' := by
  have hpr : prT (.node l ks) = ⟨⟨textT (.node l ks)⟩⟩ := by unfold prT; rw [if_pos hf]
  have hlen := txt_length (.node l ks) (fault_parts hf).2.2
  have hsz := (fault_parts hf).1
  have h := parse_any ⟨⟨textT (.node l ks)⟩⟩ W (by show (textT (.node l ks)).length ≤ maxLen; unfold maxLen; omega)
  rw [show (ByteArray.mk ⟨textT (.node l ks)⟩).data.toList = textT (.node l ks) from rfl, parse_text hf] at h
  rw [hpr]
  refine h.mono ?_
  rintro e w' ⟨l', ks', oa, cap, h1, h2, rfl, h3, h4⟩
  cases h1
  exact ⟨oa, cap, ⟨rfl, h3.any⟩, h4⟩
theorem prT_size {t : Tr} (hf : fault t = 0) : (prT t).size ≤ 320 := by
  have hpr : prT t = ⟨⟨textT t⟩⟩ := by unfold prT; rw [if_pos hf]
  have hlen := txt_length t (fault_parts hf).2.2
  have hsz := (fault_parts hf).1
  rw [hpr]; show (textT t).length ≤ 320; omega
set_option maxRecDepth 100000 in
set_option maxHeartbeats 6400000 in
theorem textBack_walk (l0 : ByteArray) (k0 : List Tr) (o0 : Option Addr) (c0 : Nat) (s : ByteArray) (w : World) (hl0 : l0.size ≤ maxLen) (hk0 : Kids Any w k0 o0 c0) (hs : s.size ≤ maxLen) :
    Calls Try.prog 4 #[.agg #[.string l0, .slice o0 k0.length c0], .string s] w fun e w' => e = .returned (.bool true) ∧ Pr w w' := by
  obtain ⟨W, hW⟩ : ∃ W, W = w.alloc (.cells #[.string l0, .slice o0 k0.length c0] 24) := ⟨_, rfl⟩
  have hwW : Pr w W := by rw [hW]; exact Pr.alloc _ _
  have s0 := stays (show W.cell? ⟨w.heap.size, 0, none⟩ = some (.string l0) by rw [hW]; simp [go_sem])
  have s1 := stays (show W.cell? ⟨w.heap.size, 1, none⟩ = some (.slice o0 k0.length c0) by rw [hW]; simp [go_sem])
  have hk0 := hk0.pr hwW
  have hs63 : s.size ≤ 9223372036854775807 := by unfold maxLen at hs; omega
  obtain ⟨ga, hga⟩ : ∃ b, b = great (.node l0 k0) := ⟨_, rfl⟩
  obtain ⟨n1, hn1⟩ : ∃ n, n = fault (.node l0 k0) := ⟨_, rfl⟩
  have B : Hid (∀ W', Pr W W' → Calls Try.prog 14 #[] W' fun e w' => e = .returned (.bool true) ∧ Pr W' w') := Lib.hid fun W' _ => textBegun_any W'
  have G1 : Hid (∀ W', Pr W W' → Calls Try.prog 15 #[.agg #[.string l0, .slice o0 k0.length c0]] W' fun e w' => e = .returned (.bool ga) ∧ Pr W' w') := Lib.hid fun W' h => by rw [hga]; exact great_any l0 k0 _ _ _ (hk0.pr h)
  have P1 : Hid (∀ W', Pr W W' → Calls Try.prog 17 #[.agg #[.string l0, .slice o0 k0.length c0]] W' fun e w' => e = .returned (.tuple #[.string (prT (.node l0 k0)), .int .i64 n1]) ∧ Pr W' w') := Lib.hid fun W' h => by rw [hn1]; exact print_any l0 k0 _ _ _ hl0 (hk0.pr h)
  have PB : Hid (n1 = 0 → ∀ W', Calls Try.prog 20 #[.string (prT (.node l0 k0))] W' fun e w' => ∃ oa cap, (e = .returned (.tuple #[.agg #[.string l0, .slice oa k0.length cap], .agg #[.int .i64 0, .int .i64 0]]) ∧ Kids Any w' k0 oa cap) ∧ Pr W' w') := Lib.hid fun h W' => parse_print l0 k0 W' (by omega)
  have S1 : Hid (∀ W' oa cap, Pr W W' → Kids Any W' k0 oa cap → Calls Try.prog 22 #[.agg #[.string l0, .slice oa k0.length cap], .agg #[.string l0, .slice o0 k0.length c0]] W' fun e w' => e = .returned (.bool true) ∧ Pr W' w') := Lib.hid fun W' oa cap h hk => by
    have := sameTree_any l0 l0 k0 k0 oa cap o0 c0 W' hk (hk0.pr h)
    rw [Tr.beq_self] at this; exact this
  obtain ⟨lr, kr, cr, pr, hrp⟩ : ∃ lr kr cr pr, parseP s.data.toList = (.node lr kr, cr, pr) := by
    obtain ⟨t, c, p⟩ := parseP s.data.toList
    cases t with | node l ks => exact ⟨l, ks, c, p, rfl⟩
  have Q : Hid (∀ W', Calls Try.prog 20 #[.string s] W' fun e w' => ∃ oa cap, (e = .returned (.tuple #[.agg #[.string lr, .slice oa kr.length cap], .agg #[.int .i64 cr, .int .i64 pr]]) ∧ Kids Any w' kr oa cap ∧ lr.size ≤ maxLen) ∧ Pr W' w') := Lib.hid fun W' => by
    refine (parse_any s W' hs).mono ?_
    rintro e w' ⟨l, ks, oa, cap, h1, h2, rfl, h3, h4⟩
    rw [hrp] at h1 ⊢
    cases h1
    exact ⟨oa, cap, ⟨rfl, h3.any, h2⟩, h4⟩
  have hbad : cr ≠ 0 → lr = ⟨#[]⟩ ∧ kr = [] := fun h => by
    have := parseP_no (l := s.data.toList) (by rw [hrp]; exact h)
    rw [hrp] at this; cases this; exact ⟨rfl, rfl⟩
  have hgood : cr = 0 → fault (.node lr kr) = 0 := fun h => by
    have := parse_fault (s := s.data.toList) (by rw [hrp]; exact h)
    rw [hrp] at this; exact this
  have Z : Hid (∀ W' oa cap, cap ≤ maxLen → Calls Try.prog 22 #[.agg #[.string ⟨#[]⟩, .slice oa 0 cap], .agg #[.string ⟨#[]⟩, .slice none 0 0]] W' fun e w' => e = .returned (.bool true) ∧ Pr W' w') := Lib.hid fun W' oa cap hc => by
    have := sameTree_any ⟨#[]⟩ ⟨#[]⟩ [] [] oa cap none 0 W' (Kids.nil _ _ _ _ hc) (Kids.nil _ _ _ _ (Nat.zero_le _))
    rw [Tr.beq_self] at this; exact this
  have P2 : Hid (cr = 0 → ∀ W' oa cap, lr.size ≤ maxLen → Kids Any W' kr oa cap → Calls Try.prog 17 #[.agg #[.string lr, .slice oa kr.length cap]] W' fun e w' => e = .returned (.tuple #[.string (prT (.node lr kr)), .int .i64 0]) ∧ Pr W' w') := Lib.hid fun h W' oa cap hl hk => by
    have := print_any lr kr oa cap W' hl hk
    rw [hgood h] at this; exact this
  have PB2 : Hid (cr = 0 → ∀ W', Calls Try.prog 20 #[.string (prT (.node lr kr))] W' fun e w' => ∃ oa cap, (e = .returned (.tuple #[.agg #[.string lr, .slice oa kr.length cap], .agg #[.int .i64 0, .int .i64 0]]) ∧ Kids Any w' kr oa cap) ∧ Pr W' w') := Lib.hid fun h W' => parse_print lr kr W' (hgood h)
  have S2 : Hid (∀ W' oa cap ob cbp, Kids Any W' kr oa cap → Kids Any W' kr ob cbp → Calls Try.prog 22 #[.agg #[.string lr, .slice oa kr.length cap], .agg #[.string lr, .slice ob kr.length cbp]] W' fun e w' => e = .returned (.bool true) ∧ Pr W' w') := Lib.hid fun W' oa cap ob cbp hk hj => by
    have := sameTree_any lr lr kr kr oa cap ob cbp W' hk hj
    rw [Tr.beq_self] at this; exact this
  have hsz : cr = 0 → (prT (.node lr kr)).size ≤ 320 := fun h => prT_size (hgood h)
  have Hbad := Lib.hid hbad; have Hsz := Lib.hid hsz; have HW := Lib.hid hwW
  clear hbad hgood hsz hrp hga hn1 hk0 hwW hs hl0
  generalize prT (.node l0 k0) = a0 at *
  generalize prT (.node lr kr) = a2 at *
  go_enter Try.func4, Try.ntmps4
  go_upto_region 1 with fail
  rw [← hW]; clear hW
  go_upto_region 3 with (go_at_call 14; (with_reducible refine Calls.mono (B.out _ (Pr.refl _)) ?_); rintro e w1 ⟨rfl, hp⟩)
  have x0 := s0 _ hp; have x1 := s1 _ hp
  cases ga
  case true =>
    go_wp2_with (go_at_call 15; (with_reducible refine Calls.mono (G1.out _ hp) ?_); rintro e w2 ⟨rfl, hb⟩; have hp := hp.trans hb)
    go_ret
    exact ⟨rfl, HW.out.trans hp⟩
  case false =>
    by_cases hbig : 4000 < s.size
    · have d1 : decide ((4000 : Int) < (s.size : Int)) = true := by simp; omega
      have d2 : decide (4000 < s.size) = true := by simp; omega
      go_wp2_with (go_at_call 15; (with_reducible refine Calls.mono (G1.out _ hp) ?_); rintro e w2 ⟨rfl, hb⟩; have hp := hp.trans hb)
      go_ret
      exact ⟨rfl, HW.out.trans hp⟩
    · have d1 : decide ((4000 : Int) < (s.size : Int)) = false := by simp; omega
      have d2 : decide (4000 < s.size) = false := by simp; omega
      go_upto_region 5 with (go_at_call 15; (with_reducible refine Calls.mono (G1.out _ hp) ?_); rintro e w2 ⟨rfl, hb⟩; have hp := hp.trans hb)
      have x0 := s0 _ hp; have x1 := s1 _ hp
      by_cases hz : n1 = 0
      case pos =>
        have e1 : ((n1 : Int) == 0) = true := by simp [hz]
        have PB := Lib.hid (PB.out hz)
        clear hz
        go_upto_region 10 with (first
          | (go_at_call 17; (with_reducible refine Calls.mono (P1.out _ hp) ?_); rintro e w3 ⟨rfl, hb⟩; have hp := hp.trans hb)
          | (go_at_call 20; (with_reducible refine Calls.mono (PB.out _) ?_); rintro e w4 ⟨oa4, ca4, ⟨rfl, hk4⟩, hb⟩; have hp := ((hp.trans hb).alloc' (.cells #[.string l0, .slice oa4 k0.length ca4] 24)).alloc' (.cells #[.int .i64 0, .int .i64 0] 33); have x0 := s0 _ hp; have x1 := s1 _ hp)
          | (go_at_call 22; (with_reducible refine Calls.mono (S1.out _ _ _ hp ((hk4.pr (Pr.alloc _ _)).pr (Pr.alloc _ _))) ?_); rintro e w5 ⟨rfl, hb⟩; have hp := hp.trans hb))
        by_cases hcr : cr = 0
        case neg =>
          obtain ⟨rfl, rfl⟩ := Hbad.out hcr
          have e2 : (cr != 0) = true := by simpa [bne_iff_ne] using hcr
          clear hcr
          go_wp2_with (first
            | (go_at_call 20; (with_reducible refine Calls.mono (Q.out _) ?_); rintro e w6 ⟨oa6, ca6, ⟨rfl, hk6, -⟩, hb⟩; have hc6 := hk6.1.2; have hp := ((hp.trans hb).alloc' (.cells #[.string ⟨#[]⟩, .slice oa6 0 ca6] 24)).alloc' (.cells #[.int .i64 cr, .int .i64 pr] 33))
            | (go_at_call 22; (with_reducible refine Calls.mono (Z.out _ _ _ hc6) ?_); rintro e w7 ⟨rfl, hb⟩; have hp := hp.trans hb))
          go_ret
          exact ⟨rfl, HW.out.trans hp⟩
        case pos =>
          subst hcr
          have P2a := Lib.hid (P2.out rfl); have PB2a := Lib.hid (PB2.out rfl)
          have hs2 := Hsz.out rfl
          clear P2 PB2 Hsz Hbad
          have d3 : decide ((a2.size : Int) ≤ 2000) = true := by simp; omega
          have d4 : decide (a2.size ≤ 2000) = true := by simp; omega
          go_wp2_with (first
            | (go_at_call 20; (with_reducible refine Calls.mono (Q.out _) ?_); rintro e w6 ⟨oa6, ca6, ⟨rfl, hk6, hl6⟩, hb⟩; have hp := ((hp.trans hb).alloc' (.cells #[.string lr, .slice oa6 kr.length ca6] 24)).alloc' (.cells #[.int .i64 0, .int .i64 pr] 33); have hk6 := (hk6.pr (Pr.alloc _ (.cells #[.string lr, .slice oa6 kr.length ca6] 24))).pr (Pr.alloc _ (.cells #[.int .i64 0, .int .i64 pr] 33)))
            | (go_at_call 17; (with_reducible refine Calls.mono (P2a.out _ _ _ hl6 hk6) ?_); rintro e w7 ⟨rfl, hb⟩; have hp := hp.trans hb; have hk6 := hk6.pr hb; have y0 := hb.cell (b := w6.heap.size) (o := 0) (v := .string lr) (by simp [go_sem]); have y1 := hb.cell (b := w6.heap.size) (o := 1) (v := .slice oa6 kr.length ca6) (by simp [go_sem]))
            | (go_at_call 20; (with_reducible refine Calls.mono (PB2a.out _) ?_); rintro e w8 ⟨oa8, ca8, ⟨rfl, hk8⟩, hb⟩; have hb := (hb.alloc' (.cells #[.string lr, .slice oa8 kr.length ca8] 24)).alloc' (.cells #[.int .i64 0, .int .i64 0] 33); have hp := hp.trans hb; have hk6 := hk6.pr hb; have hk8 := (hk8.pr (Pr.alloc _ (.cells #[.string lr, .slice oa8 kr.length ca8] 24))).pr (Pr.alloc _ (.cells #[.int .i64 0, .int .i64 0] 33)); have y0 := hb.cell y0; have y1 := hb.cell y1)
            | (go_at_call 22; (with_reducible refine Calls.mono (S2.out _ _ _ _ _ hk6 hk8) ?_); rintro e w9 ⟨rfl, hb⟩; have hp := hp.trans hb))
          go_ret
          exact ⟨rfl, HW.out.trans hp⟩
      case neg =>
        have e1 : ((n1 : Int) == 0) = false := by simp [hz]
        clear hz
        go_upto_region 10 with (first
          | (go_at_call 17; (with_reducible refine Calls.mono (P1.out _ hp) ?_); rintro e w5 ⟨rfl, hb⟩; have hp := hp.trans hb))
        by_cases hcr : cr = 0
        case neg =>
          obtain ⟨rfl, rfl⟩ := Hbad.out hcr
          have e2 : (cr != 0) = true := by simpa [bne_iff_ne] using hcr
          clear hcr
          go_wp2_with (first
            | (go_at_call 20; (with_reducible refine Calls.mono (Q.out _) ?_); rintro e w6 ⟨oa6, ca6, ⟨rfl, hk6, -⟩, hb⟩; have hc6 := hk6.1.2; have hp := ((hp.trans hb).alloc' (.cells #[.string ⟨#[]⟩, .slice oa6 0 ca6] 24)).alloc' (.cells #[.int .i64 cr, .int .i64 pr] 33))
            | (go_at_call 22; (with_reducible refine Calls.mono (Z.out _ _ _ hc6) ?_); rintro e w7 ⟨rfl, hb⟩; have hp := hp.trans hb))
          go_ret
          exact ⟨rfl, HW.out.trans hp⟩
        case pos =>
          subst hcr
          have P2a := Lib.hid (P2.out rfl); have PB2a := Lib.hid (PB2.out rfl)
          have hs2 := Hsz.out rfl
          clear P2 PB2 Hsz Hbad
          have d3 : decide ((a2.size : Int) ≤ 2000) = true := by simp; omega
          have d4 : decide (a2.size ≤ 2000) = true := by simp; omega
          go_wp2_with (first
            | (go_at_call 20; (with_reducible refine Calls.mono (Q.out _) ?_); rintro e w6 ⟨oa6, ca6, ⟨rfl, hk6, hl6⟩, hb⟩; have hp := ((hp.trans hb).alloc' (.cells #[.string lr, .slice oa6 kr.length ca6] 24)).alloc' (.cells #[.int .i64 0, .int .i64 pr] 33); have hk6 := (hk6.pr (Pr.alloc _ (.cells #[.string lr, .slice oa6 kr.length ca6] 24))).pr (Pr.alloc _ (.cells #[.int .i64 0, .int .i64 pr] 33)))
            | (go_at_call 17; (with_reducible refine Calls.mono (P2a.out _ _ _ hl6 hk6) ?_); rintro e w7 ⟨rfl, hb⟩; have hp := hp.trans hb; have hk6 := hk6.pr hb; have y0 := hb.cell (b := w6.heap.size) (o := 0) (v := .string lr) (by simp [go_sem]); have y1 := hb.cell (b := w6.heap.size) (o := 1) (v := .slice oa6 kr.length ca6) (by simp [go_sem]))
            | (go_at_call 20; (with_reducible refine Calls.mono (PB2a.out _) ?_); rintro e w8 ⟨oa8, ca8, ⟨rfl, hk8⟩, hb⟩; have hb := (hb.alloc' (.cells #[.string lr, .slice oa8 kr.length ca8] 24)).alloc' (.cells #[.int .i64 0, .int .i64 0] 33); have hp := hp.trans hb; have hk6 := hk6.pr hb; have hk8 := (hk8.pr (Pr.alloc _ (.cells #[.string lr, .slice oa8 kr.length ca8] 24))).pr (Pr.alloc _ (.cells #[.int .i64 0, .int .i64 0] 33)); have y0 := hb.cell y0; have y1 := hb.cell y1)
            | (go_at_call 22; (with_reducible refine Calls.mono (S2.out _ _ _ _ _ hk6 hk8) ?_); rintro e w9 ⟨rfl, hb⟩; have hp := hp.trans hb))
          go_ret
          exact ⟨rfl, HW.out.trans hp⟩
end Go.Proofs.Ytdbnfhpgmcjngab
