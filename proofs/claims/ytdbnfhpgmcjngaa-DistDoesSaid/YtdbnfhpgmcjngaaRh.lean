/- The law DistDoes: its walk. -/
import Derived.Test.YtdbnfhpgmcjngaaRf
import Derived.Test.YtdbnfhpgmcjngaaRg
import Derived.Test.YtdbnfhpgmcjngaaRe
import Derived.Test.YtdbnfhpgmcjngaaDg
namespace Go.Proofs.Ytdbnfhpgmcjngaa
open Go Go.RowKit

theorem keepG {w5 w6 W' : World} {g : Nat} (h56 : Pr w5 w6) (hg : w5.heap.size ≤ g) (h : Chg (fun k => k = g) w6 W') : Pr w5 W' :=
  ((h56.chg (fun k => k = g)).trans h (fun _ h => .inl h)).to_pr (fun k e => by subst e; exact hg)
theorem Prs.chgG {g : Nat} {w w' : World} {ps : List (Int × Int)} {oa cap} (h : Prs (fun k => k ≠ g) w ps oa cap) (hc : Chg (fun k => k = g) w w') : Prs Any w' ps oa cap := by
  obtain ⟨h0, b, o, h1, h2⟩ := h
  refine ⟨h0, b, o, fun hn => ⟨(h1 hn).1, trivial⟩, fun i hi => ?_⟩
  have hb : b ≠ g := (h1 (by intro e; subst e; simp at hi)).2
  exact ⟨hc.cell (h2 i hi).1 hb, hc.cell (h2 i hi).2 hb⟩
theorem OwnsPs.prsG {b g : Nat} {w : World} {v : Value} {xs : List (Int × Int)} (h : OwnsPs b w v xs) (hg : g < b) : ∃ oa cap, v = .slice oa xs.length cap ∧ Prs (fun k => k ≠ g) w xs oa cap := by
  obtain ⟨oa, cap, rfl, hc, bb, o, h1, h2⟩ := h.prs
  refine ⟨oa, cap, rfl, hc, bb, o, fun hn => ⟨(h1 hn).1, ?_⟩, h2⟩
  have h3 : b ≤ bb := (h1 hn).2
  show bb ≠ g
  omega

set_option maxRecDepth 100000 in
set_option maxHeartbeats 12800000 in
theorem distDoes_walk (l1 : ByteArray) (k1 : List Tr) (o1 c1) (l2 : ByteArray) (k2 : List Tr) (o2 c2) (i j : Int) (w : World)
    (hl1 : l1.size ≤ maxLen) (hk1 : Kids Any w k1 o1 c1) (hl2 : l2.size ≤ maxLen) (hk2 : Kids Any w k2 o2 c2) (_ : (Lit.int IntKind.i64 i).wf = true) (_ : (Lit.int IntKind.i64 j).wf = true) :
    Calls Try.prog 11 #[.agg #[.string l1, .slice o1 k1.length c1], .agg #[.string l2, .slice o2 k2.length c2], .int .i64 i, .int .i64 j] w fun e w' => e = .returned (.bool true) ∧ Pr w w' := by
  obtain ⟨W, hW⟩ : ∃ W, W = (w.alloc (.cells #[.string l1, .slice o1 k1.length c1] 24)).alloc (.cells #[.string l2, .slice o2 k2.length c2] 24) := ⟨_, rfl⟩
  have hwW : Pr w W := by rw [hW]; exact (Pr.alloc _ _).alloc' _
  have s0 := stays (show W.cell? ⟨w.heap.size, 0, none⟩ = some (.string l1) by rw [hW]; simp [go_sem])
  have s1 := stays (show W.cell? ⟨w.heap.size, 1, none⟩ = some (.slice o1 k1.length c1) by rw [hW]; simp [go_sem])
  have s2 := stays (show W.cell? ⟨w.heap.size + 1, 0, none⟩ = some (.string l2) by rw [hW]; simp [go_sem])
  have s3 := stays (show W.cell? ⟨w.heap.size + 1, 1, none⟩ = some (.slice o2 k2.length c2) by rw [hW]; simp [go_sem])
  have hk1 := hk1.pr hwW; have hk2 := hk2.pr hwW
  obtain ⟨ga, hga⟩ : ∃ b, b = great (.node l1 k1) := ⟨_, rfl⟩
  obtain ⟨gb, hgb⟩ : ∃ b, b = great (.node l2 k2) := ⟨_, rfl⟩
  have G1 : Hid (∀ W', Pr W W' → Calls Try.prog 15 #[.agg #[.string l1, .slice o1 k1.length c1]] W' fun e w' => e = .returned (.bool ga) ∧ Pr W' w') := Lib.hid fun W' h => by rw [hga]; exact great_any l1 k1 _ _ _ (hk1.pr h)
  have G2 : Hid (∀ W', Pr W W' → Calls Try.prog 15 #[.agg #[.string l2, .slice o2 k2.length c2]] W' fun e w' => e = .returned (.bool gb) ∧ Pr W' w') := Lib.hid fun W' h => by rw [hgb]; exact great_any l2 k2 _ _ _ (hk2.pr h)
  have O1 := Lib.hid (fun W' (h : Pr W W') => distOf_any l1 k1 o1 c1 l2 k2 o2 c2 W' hl1 (hk1.pr h) hl2 (hk2.pr h))
  have F1 := Lib.hid (fun W' (h : Pr W W') => treeFault_any l1 k1 o1 c1 W' hl1 (hk1.pr h))
  have F2 := Lib.hid (fun W' (h : Pr W W') => treeFault_any l2 k2 o2 c2 W' hl2 (hk2.pr h))
  have NA := Lib.hid (fun W' (h : Pr W W') h1 h2 => newApart_any l1 k1 o1 c1 l2 k2 o2 c2 W' (hk1.pr h) (hk2.pr h) h1 h2)
  have C1 : Hid (∀ W', Pr W W' → Tr.szL k1 ≤ 100000 → Calls Try.prog 33 #[.agg #[.string l1, .slice o1 k1.length c1], .slice none 0 0] W' fun e w' => ∃ g c, e = .returned (.slice (some ⟨g, 0, none⟩) (nds (.node l1 k1)).length c) ∧ Nds Any w' (nds (.node l1 k1)) (some ⟨g, 0, none⟩) c ∧ Pr W' w') := Lib.hid fun W' h hs => by
    have := nodesOf_yes l1 k1 o1 c1 W' hs (hk1.pr h)
    rw [nds_length, Tr.sz_node]; exact this
  have C2 : Hid (∀ W', Pr W W' → Tr.szL k2 ≤ 100000 → Calls Try.prog 33 #[.agg #[.string l2, .slice o2 k2.length c2], .slice none 0 0] W' fun e w' => ∃ g c, e = .returned (.slice (some ⟨g, 0, none⟩) (nds (.node l2 k2)).length c) ∧ Nds Any w' (nds (.node l2 k2)) (some ⟨g, 0, none⟩) c ∧ Pr W' w') := Lib.hid fun W' h hs => by
    have := nodesOf_yes l2 k2 o2 c2 W' hs (hk2.pr h)
    rw [nds_length, Tr.sz_node]; exact this
  clear hga hgb hk1 hk2
  go_enter Try.func11, Try.ntmps11
  go_wp2_with fail
  rw [← hW]; clear hW
  go_upto_region 3 with (first
    | (go_at_call 37; refine (distBegun_any _).mono ?_; rintro e w1 ⟨rfl, hc⟩))
  have y0 := stays (s0 _ hc); have y1 := stays (s1 _ hc); have y2 := stays (s2 _ hc); have y3 := stays (s3 _ hc)
  have Hc := Lib.hid hc
  have G1 := Lib.hid (fun W' (h : Pr w1 W') => G1.out W' (hc.trans h)); have G2 := Lib.hid (fun W' (h : Pr w1 W') => G2.out W' (hc.trans h))
  have O1 := Lib.hid (fun W' (h : Pr w1 W') => O1.out W' (hc.trans h))
  have F1 := Lib.hid (fun W' (h : Pr w1 W') => F1.out W' (hc.trans h)); have F2 := Lib.hid (fun W' (h : Pr w1 W') => F2.out W' (hc.trans h))
  have C1 := Lib.hid (fun W' (h : Pr w1 W') => C1.out W' (hc.trans h)); have C2 := Lib.hid (fun W' (h : Pr w1 W') => C2.out W' (hc.trans h))
  have NA := Lib.hid (fun W' (h : Pr w1 W') => NA.out W' (hc.trans h))
  clear s0 s1 s2 s3 hc
  go_cut [22] from 17 to 21 (fun v wx => v = .bool (ga || gb) ∧ Pr w1 wx)
  case first =>
    have hp := Pr.refl w1
    cases ga <;> cases gb
    all_goals
      go_wp2_with (first
        | (go_at_call 15; (with_reducible refine Calls.mono (G1.out _ hp) ?_); rintro e w2 ⟨rfl, hb⟩; have hp := hp.trans hb)
        | (go_at_call 15; (with_reducible refine Calls.mono (G2.out _ hp) ?_); rintro e w3 ⟨rfl, hb⟩; have hp := hp.trans hb))
      go_meet
      case rel => exact ⟨rfl, hp⟩
  case rest =>
    obtain ⟨rfl, hp⟩ := hcut
    cases hbad : (ga || gb)
    case true =>
      go_wp2_with fail
      go_ret
      exact ⟨rfl, hwW.trans (Hc.out.trans hp)⟩
    case false =>
      obtain ⟨w2, hw2⟩ : ∃ w2, w2 = wc := ⟨_, rfl⟩
      subst hw2
      have y0 := stays (y0 _ hp); have y1 := stays (y1 _ hp); have y2 := stays (y2 _ hp); have y3 := stays (y3 _ hp)
      have x0 := y0 _ (Pr.refl _); have x1 := y1 _ (Pr.refl _); have x2 := y2 _ (Pr.refl _); have x3 := y3 _ (Pr.refl _)
      clear G1 G2
      by_cases fa : fault (.node l1 k1) = 0
      case neg =>
        have O2 : Hid (Calls Try.prog 39 #[.agg #[.string l1, .slice o1 k1.length c1], .agg #[.string l2, .slice o2 k2.length c2]] w2 fun e w' => e = .returned (.tuple #[.pointer none, .int .i64 (fault (.node l1 k1))]) ∧ Pr w2 w') := Lib.hid ((O1.out _ hp).mono fun e w' ⟨h, hq⟩ => by
          rcases h with h | h | h
          · exact ⟨h.2, hq⟩
          · exact absurd h.1 fa
          · exact absurd h.1 fa)
        have e1 : ((fault (.node l1 k1) : Int) == 0) = false := by simp; omega
        have e2 : ((fault (.node l1 k1) : Int) != 0) = true := by simp [bne_iff_ne]; omega
        generalize fault (.node l1 k1) = ca at *
        go_wp2_with (first
          | (go_at_call 39; (with_reducible refine Calls.mono O2.out ?_); rintro e w3 ⟨rfl, hb3⟩; have hp := hp.trans hb3; have y0 := y0 _ hb3; have y1 := y1 _ hb3)
          | (go_at_call 22; (with_reducible refine Calls.mono (F1.out _ hp) ?_); rintro e w4 ⟨rfl, hb4⟩; have hp := hp.trans hb4))
        go_ret
        exact ⟨rfl, hwW.trans (Hc.out.trans hp)⟩
      by_cases fb : fault (.node l2 k2) = 0
      case neg =>
        have O2 : Hid (Calls Try.prog 39 #[.agg #[.string l1, .slice o1 k1.length c1], .agg #[.string l2, .slice o2 k2.length c2]] w2 fun e w' => e = .returned (.tuple #[.pointer none, .int .i64 (fault (.node l2 k2))]) ∧ Pr w2 w') := Lib.hid ((O1.out _ hp).mono fun e w' ⟨h, hq⟩ => by
          rcases h with h | h | h
          · exact absurd fa h.1
          · exact ⟨h.2.2, hq⟩
          · exact absurd h.2.1 fb)
        have F1 := Lib.hid (fun W' (h : Pr w1 W') => by have := F1.out W' h; rw [fa] at this; exact this)
        have e1 : ((fault (.node l2 k2) : Int) == 0) = false := by simp; omega
        have e2 : ((fault (.node l2 k2) : Int) != 0) = true := by simp [bne_iff_ne]; omega
        clear fa
        generalize fault (.node l2 k2) = cb at *
        go_wp2_with (first
          | (go_at_call 39; (with_reducible refine Calls.mono O2.out ?_); rintro e w3 ⟨rfl, hb3⟩; have hp := hp.trans hb3; have y0 := stays (y0 _ hb3); have y1 := stays (y1 _ hb3); have y2 := stays (y2 _ hb3); have y3 := stays (y3 _ hb3); have z0 := y0 _ (Pr.refl _); have z1 := y1 _ (Pr.refl _))
          | (go_at_call 22; (with_reducible refine Calls.mono (F1.out _ hp) ?_); rintro e w4 ⟨rfl, hb4⟩; have hp := hp.trans hb4; have y2 := y2 _ hb4; have y3 := y3 _ hb4)
          | (go_at_call 22; (with_reducible refine Calls.mono (F2.out _ hp) ?_); rintro e w5 ⟨rfl, hb5⟩; have hp := hp.trans hb5))
        go_ret
        exact ⟨rfl, hwW.trans (Hc.out.trans hp)⟩
      have O2 : Hid (Calls Try.prog 39 #[.agg #[.string l1, .slice o1 k1.length c1], .agg #[.string l2, .slice o2 k2.length c2]] w2 fun e w' => ∃ B, e = .returned (.tuple #[.pointer (some ⟨B, 0, none⟩), .int .i64 0]) ∧ TblOk w' B (nds (.node l1 k1)) (nds (.node l2 k2)) ∧ Pr w2 w') := Lib.hid ((O1.out _ hp).mono fun e w' ⟨h, hq⟩ => by
        rcases h with h | h | h
        · exact absurd fa h.1
        · exact absurd fb h.2.1
        · obtain ⟨_, _, B, h1, h2⟩ := h; exact ⟨B, h1, h2, hq⟩)
      have F1 : Hid (∀ W', Pr w1 W' → Calls Try.prog 22 #[.agg #[.string l1, .slice o1 k1.length c1]] W' fun e w' => e = .returned (.int .i64 0) ∧ Pr W' w') := Lib.hid (fun W' h => by have := F1.out W' h; rw [fa] at this; exact this)
      have F2 : Hid (∀ W', Pr w1 W' → Calls Try.prog 22 #[.agg #[.string l2, .slice o2 k2.length c2]] W' fun e w' => e = .returned (.int .i64 0) ∧ Pr W' w') := Lib.hid (fun W' h => by have := F2.out W' h; rw [fb] at this; exact this)
      have hza := (fault_zero.1 fa).1
      have hzb := (fault_zero.1 fb).1
      have hlen1 := nds_length (.node l1 k1)
      have hlen2 := nds_length (.node l2 k2)
      have hpa := (Tr.node l1 k1).sz_pos
      have hpb := (Tr.node l2 k2).sz_pos
      have C1 := Lib.hid (fun W' (h : Pr w1 W') => C1.out W' h (by have := Tr.sz_node l1 k1; omega))
      have C2 := Lib.hid (fun W' (h : Pr w1 W') => C2.out W' h (by have := Tr.sz_node l2 k2; omega))
      have FX := Lib.hid (fit_nds (.node l1 k1))
      have FY := Lib.hid (fit_nds (.node l2 k2))
      rw [← hlen1] at hza hpa
      rw [← hlen2] at hzb hpb
      generalize nds (.node l1 k1) = xs at *
      generalize nds (.node l2 k2) = ys at *
      have S1 : Hid (∀ (W' : World) p1 d1 p2 d2, Nds Any W' xs p1 d1 → Nds Any W' xs p2 d2 → Calls Try.prog 32 #[.slice p1 xs.length d1, .slice p2 xs.length d2] W' fun e w' => e = .returned (.bool true) ∧ Pr W' w') := Lib.hid fun W' p1 d1 p2 d2 h1 h2 => by
        have := sameNodes_any xs xs p1 d1 p2 d2 W' h1 h2; rw [decide_eq_true rfl] at this; exact this
      have S2 : Hid (∀ (W' : World) p1 d1 p2 d2, Nds Any W' ys p1 d1 → Nds Any W' ys p2 d2 → Calls Try.prog 32 #[.slice p1 ys.length d1, .slice p2 ys.length d2] W' fun e w' => e = .returned (.bool true) ∧ Pr W' w') := Lib.hid fun W' p1 d1 p2 d2 h1 h2 => by
        have := sameNodes_any ys ys p1 d1 p2 d2 W' h1 h2; rw [decide_eq_true rfl] at this; exact this
      have N1 := Lib.hid (fun W' B h => nodes_any xs ys B W' h (by omega) (by omega))
      clear hlen1 hlen2 O1 fa fb
      go_upto_region 12 with (first
        | (go_at_call 39; (with_reducible refine Calls.mono O2.out ?_); rintro e w3 ⟨B, rfl, hT, hb3⟩; have hp := hp.trans hb3; have y0 := stays (y0 _ hb3); have y1 := stays (y1 _ hb3); have y2 := stays (y2 _ hb3); have y3 := stays (y3 _ hb3); have z0 := y0 _ (Pr.refl _); have z1 := y1 _ (Pr.refl _))
        | (go_at_call 22; (with_reducible refine Calls.mono (F1.out _ hp) ?_); rintro e w4 ⟨rfl, hb4⟩; have hp := hp.trans hb4; have hT := hT.pr hb4; have y0 := stays (y0 _ hb4); have y1 := stays (y1 _ hb4); have y2 := stays (y2 _ hb4); have y3 := stays (y3 _ hb4); have z2 := y2 _ (Pr.refl _); have z3 := y3 _ (Pr.refl _))
        | (go_at_call 22; (with_reducible refine Calls.mono (F2.out _ hp) ?_); rintro e w5 ⟨rfl, hb5⟩; have hp := hp.trans hb5; have hT := hT.pr hb5; have y0 := stays (y0 _ hb5); have y1 := stays (y1 _ hb5); have y2 := stays (y2 _ hb5); have y3 := stays (y3 _ hb5))
        | (go_at_call 42; (with_reducible refine Calls.mono (N1.out _ _ hT) ?_); rintro e w6 ⟨ox, cx, oy, cy, rfl, hnx, hny, hb6⟩; have hp := hp.trans hb6; have hT := hT.pr hb6; have y0 := stays (y0 _ hb6); have y1 := stays (y1 _ hb6); have y2 := stays (y2 _ hb6); have y3 := stays (y3 _ hb6); have q0 := y0 _ (Pr.refl _); have q1 := y1 _ (Pr.refl _)))
      go_upto_region 14 with (first
        | (go_at_call 33; (with_reducible refine Calls.mono (C1.out _ hp) ?_); rintro e w7 ⟨g7, d7, rfl, hn7, hb7⟩; have hp := hp.trans hb7; have hT := hT.pr hb7; have hnx := hnx.pr hb7; have hny := hny.pr hb7; have y0 := stays (y0 _ hb7); have y1 := stays (y1 _ hb7); have y2 := stays (y2 _ hb7); have y3 := stays (y3 _ hb7))
        | (go_at_call 32; (with_reducible refine Calls.mono (S1.out _ _ _ _ _ hnx hn7) ?_); rintro e w8 ⟨rfl, hb8⟩; have hp := hp.trans hb8; have hT := hT.pr hb8; have hny := hny.pr hb8; have y0 := stays (y0 _ hb8); have y1 := stays (y1 _ hb8); have y2 := stays (y2 _ hb8); have y3 := stays (y3 _ hb8); have q2 := y2 _ (Pr.refl _); have q3 := y3 _ (Pr.refl _))
        | (go_at_call 33; (with_reducible refine Calls.mono (C2.out _ hp) ?_); rintro e w9 ⟨g9, d9, rfl, hn9, hb9⟩; have hp := hp.trans hb9; have hT := hT.pr hb9; have hny := hny.pr hb9; have y0 := stays (y0 _ hb9); have y1 := stays (y1 _ hb9); have y2 := stays (y2 _ hb9); have y3 := stays (y3 _ hb9))
        | (go_at_call 32; (with_reducible refine Calls.mono (S2.out _ _ _ _ _ hny hn9) ?_); rintro e w10 ⟨rfl, hb10⟩; have hp := hp.trans hb10; have hT := hT.pr hb10; have v0 := y0 _ hb10; have v1 := y1 _ hb10; have v2 := y2 _ hb10; have v3 := y3 _ hb10))
      clear hn7 hn9 hnx hny S1 S2 N1 C1 C2 F1 F2 O2 y0 y1 y2 y3
      by_cases hix : xs.length ≤ 16
      case neg =>
        have e1 : (16 : Int) < xs.length := by omega
        have e2 : decide ((16 : Int) < xs.length) = true := by simp; omega
        have e3 : decide (16 < xs.length) = true := by simp; omega
        go_wp2_with fail
        go_ret
        exact ⟨rfl, hwW.trans (Hc.out.trans hp)⟩
      have e1 : ¬ (16 : Int) < xs.length := by omega
      have e2 : decide ((16 : Int) < xs.length) = false := by simp; omega
      have e3 : decide (16 < xs.length) = false := by simp; omega
      by_cases hjy : ys.length ≤ 16
      case neg =>
        have e1 : (16 : Int) < ys.length := by omega
        have e2 : decide ((16 : Int) < ys.length) = true := by simp; omega
        have e3 : decide (16 < ys.length) = true := by simp; omega
        go_wp2_with fail
        go_ret
        exact ⟨rfl, hwW.trans (Hc.out.trans hp)⟩
      have e4 : ¬ (16 : Int) < ys.length := by omega
      have e5 : decide ((16 : Int) < ys.length) = false := by simp; omega
      have e6 : decide (16 < ys.length) = false := by simp; omega
      have NA := Lib.hid (fun W' h => NA.out W' h hix hjy)
      have Hp := Lib.hid hp
      have HT := Lib.hid hT
      clear hp hT
      go_upto_region 17 with (first
        | (go_at_call 43; (with_reducible refine Calls.mono (NA.out _ Hp.out) ?_); rintro e w11 ⟨B2, xb, xo, xc, yb, yo, yc, g, K, rfl, hA, hM, hb11, hg⟩))
      have HB11 := Lib.hid hb11
      have HG := Lib.hid hg
      have hgl := hM.lt
      obtain ⟨cst, hcst⟩ : ∃ c : Nat, c = (fdn xs ys 0 (xs.length - 1) 0 (ys.length - 1) + lc (labN xs (xs.length - 1)) (labN ys (ys.length - 1))) := ⟨_, rfl⟩
      obtain ⟨ps, hps⟩ : ∃ ps, ps = zp (bestP xs ys 0 (xs.length - 1) 0 (ys.length - 1) ++ [(xs.length - 1, ys.length - 1)]) := ⟨_, rfl⟩
      obtain ⟨pz, hpz⟩ : ∃ z, z = pairZ xs ys i j := ⟨_, rfl⟩
      have T1 : Hid (∀ W', Chg (fun k => k = g) w11 W' → Calls Try.prog 41 #[.pointer (some ⟨B, 0, none⟩)] W' fun e w' => e = .returned (.int .i64 (cst : Nat)) ∧ Pr W' w') := Lib.hid fun W' h => by
        rw [hcst]; exact cost_any xs ys B W' (HT.out.pr (keepG HB11.out HG.out h)) FX.out FY.out (by omega) (by omega) (by omega) (by omega)
      have T2 : Hid (∀ W', Chg (fun k => k = g) w11 W' → Calls Try.prog 40 #[.pointer (some ⟨B, 0, none⟩), .int .i64 i, .int .i64 j] W' fun e w' => e = .returned (.int .i64 pz) ∧ Pr W' w') := Lib.hid fun W' h => by
        rw [hpz]; exact pairT_any xs ys B W' (HT.out.pr (keepG HB11.out HG.out h)) (by omega) (by omega) i j
      have T3 : Hid (∀ W', Chg (fun k => k = g) w11 W' → Calls Try.prog 47 #[.pointer (some ⟨B, 0, none⟩)] W' fun e w' => ∃ oa cap, e = .returned (.slice oa ps.length cap) ∧ Prs (fun k => k ≠ g) w' ps oa cap ∧ Pr W' w') := Lib.hid fun W' h => by
        rw [hps]
        refine (bestTop_any xs ys B W' (HT.out.pr (keepG HB11.out HG.out h)) FX.out FY.out (by omega) (by omega) (by omega) (by omega)).mono ?_
        rintro e w' ⟨v, rfl, ho, hq⟩
        obtain ⟨oa, cap, rfl, hr⟩ := ho.prsG (Nat.lt_of_lt_of_le hgl h.size)
        exact ⟨oa, cap, rfl, hr, hq⟩
      have U1 : Hid (∀ W', Chg (fun k => k = g) w11 W' → Memo W' g K xs ys → Calls Try.prog 44 #[.pointer (some ⟨B2, 0, none⟩)] W' fun e w' => e = .returned (.int .i64 (cst : Nat)) ∧ Chg (fun k => k = g) W' w' ∧ Memo w' g K xs ys) := Lib.hid fun W' h hm => by
        rw [hcst]; exact rcost_any (hA.chg h) hm FX.out FY.out hix hjy (by omega) (by omega)
      have U2 : Hid (∀ W', Chg (fun k => k = g) w11 W' → Memo W' g K xs ys → Calls Try.prog 45 #[.pointer (some ⟨B2, 0, none⟩), .int .i64 i, .int .i64 j] W' fun e w' => e = .returned (.int .i64 pz) ∧ Chg (fun k => k = g) W' w' ∧ Memo w' g K xs ys) := Lib.hid fun W' h hm => by
        rw [hpz]; exact rpair_any (hA.chg h) hm FX.out FY.out hix hjy i j
      have U3 : Hid (∀ W', Chg (fun k => k = g) w11 W' → Memo W' g K xs ys → Calls Try.prog 48 #[.pointer (some ⟨B2, 0, none⟩)] W' fun e w' => ∃ oa cap, e = .returned (.slice oa ps.length cap) ∧ Prs Any w' ps oa cap ∧ Chg (fun k => k = g) W' w') := Lib.hid fun W' h hm => by
        rw [hps]
        refine (rbestTop_any (hA.chg h) hm FX.out FY.out hix hjy (by omega) (by omega)).mono ?_
        rintro e w' ⟨v, rfl, ho, hq, _⟩
        obtain ⟨oa, cap, rfl, hr⟩ := ho.prs
        exact ⟨oa, cap, rfl, hr.any, hq⟩
      have hch := Chg.refl (fun k => k = g) w11
      clear hcst hps hpz hA hb11 hg hgl e1 e2 e3 e4 e5 e6 hix hjy hza hzb hpa hpb v0 v1 v2 v3 NA
      go_wp2_with (first
        | (go_at_call 41; (with_reducible refine Calls.mono (T1.out _ hch) ?_); rintro e w12 ⟨rfl, hb⟩; have hch := hch.pr hb; have hM := hM.pr hb)
        | (go_at_call 44; (with_reducible refine Calls.mono (U1.out _ hch hM) ?_); rintro e w13 ⟨rfl, hb, hM⟩; have hch := hch.trans hb (fun _ h => .inl h))
        | (go_at_call 40; (with_reducible refine Calls.mono (T2.out _ hch) ?_); rintro e w14 ⟨rfl, hb⟩; have hch := hch.pr hb; have hM := hM.pr hb)
        | (go_at_call 45; (with_reducible refine Calls.mono (U2.out _ hch hM) ?_); rintro e w15 ⟨rfl, hb, hM⟩; have hch := hch.trans hb (fun _ h => .inl h))
        | (go_at_call 47; (with_reducible refine Calls.mono (T3.out _ hch) ?_); rintro e w16 ⟨ob1, cb1, rfl, hpr1, hb⟩; have hch := hch.pr hb; have hM := hM.pr hb)
        | (go_at_call 48; (with_reducible refine Calls.mono (U3.out _ hch hM) ?_); rintro e w17 ⟨ob2, cb2, rfl, hpr2, hb⟩; have hch := hch.trans hb (fun _ h => .inl h); have hpr1 := hpr1.chgG hb)
        | (go_at_call 46; (with_reducible refine Calls.mono (samePairs_yes ps ob1 ob2 cb1 cb2 _ hpr1 hpr2) ?_); rintro e w18 ⟨rfl, hb⟩; have hch := hch.pr hb))
      go_ret
      exact ⟨rfl, hwW.trans (Hc.out.trans (Hp.out.trans (keepG HB11.out HG.out hch)))⟩
end Go.Proofs.Ytdbnfhpgmcjngaa
