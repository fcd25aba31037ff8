/- The law DistPairs: its walk. -/
import Derived.Test.YtdbnfhpgmcjngaaDj
import Derived.Test.YtdbnfhpgmcjngaaDh
namespace Go.Proofs.Ytdbnfhpgmcjngaa
open Go Go.RowKit

theorem nameC_take (xs ys : List Nd) (L : List (Nat × Nat)) (k : Nat) (h : k < L.length) : nameC xs ys (L.take (k + 1)) = nameC xs ys (L.take k) + lc (labN xs L[k].1) (labN ys L[k].2) := by
  rw [List.take_succ_eq_append_getElem h, nameC_append, nameC_one]
theorem nameC_le (xs ys : List Nd) (L : List (Nat × Nat)) : nameC xs ys L ≤ L.length := by
  induction L with
  | nil => simp [nameC]
  | cons p l ih =>
    have := lc_le (labN xs p.1) (labN ys p.2)
    simp only [nameC, List.map_cons, List.foldr_cons, List.length_cons] at ih ⊢
    omega
/-- What Best tells, read. -/
theorem best_read (a b : Tr) (B : Nat) (w : World) (h : TblOk w B (nds a) (nds b)) (ha : fault a = 0) (hb : fault b = 0) :
    Calls Try.prog 47 #[.pointer (some ⟨B, 0, none⟩)] w fun e w' => ∃ bb oo cb, e = .returned (.slice (some ⟨bb, oo, none⟩) (bestT a b).length cb) ∧
      (∀ i (_ : i < (bestT a b).length), w'.cell? ⟨bb, oo + i * 2, none⟩ = some (.int .i64 ((bestT a b)[i].1 : Int)) ∧ w'.cell? ⟨bb, oo + i * 2 + 1, none⟩ = some (.int .i64 ((bestT a b)[i].2 : Int))) ∧ Pr w w' := by
  refine (best_nds a b B w h ha hb).mono ?_
  rintro e w' ⟨v, rfl, ho, hp⟩
  obtain ⟨oa, cap, rfl, hr⟩ := ho.prs
  have hl : 0 < (bestT a b).length := by unfold bestT; simp
  obtain ⟨bb, oo, rfl, hc⟩ := hr.get (by rw [zp_length]; exact hl)
  rw [zp_length]
  refine ⟨bb, oo, cap, rfl, fun i hi => ?_, hp⟩
  have := hc i (by rw [zp_length]; exact hi)
  simpa [zp] using this

theorem distOf_no (l : ByteArray) (ks : List Tr) (oa cap) (m : ByteArray) (js : List Tr) (ob cbp) (w : World) (hl : l.size ≤ maxLen) (hk : Kids Any w ks oa cap) (hm : m.size ≤ maxLen) (hj : Kids Any w js ob cbp) (h : ¬ (fault (.node l ks) = 0 ∧ fault (.node m js) = 0)) :
    Calls Try.prog 39 #[.agg #[.string l, .slice oa ks.length cap], .agg #[.string m, .slice ob js.length cbp]] w fun e w' => ∃ c : Nat, c ≠ 0 ∧ e = .returned (.tuple #[.pointer none, .int .i64 c]) ∧ Pr w w' := by
  refine (distOf_any l ks oa cap m js ob cbp w hl hk hm hj).mono ?_
  rintro e w' ⟨g | g | g, hp⟩
  · exact ⟨_, g.1, g.2, hp⟩
  · exact ⟨_, g.2.1, g.2.2, hp⟩
  · exact absurd ⟨g.1, g.2.1⟩ h

set_option maxRecDepth 100000 in
set_option maxHeartbeats 6400000 in
theorem distPairs_walk (l1 : ByteArray) (k1 : List Tr) (o1 c1) (l2 : ByteArray) (k2 : List Tr) (o2 c2) (w : World)
    (hl1 : l1.size ≤ maxLen) (hk1 : Kids Any w k1 o1 c1) (hl2 : l2.size ≤ maxLen) (hk2 : Kids Any w k2 o2 c2) :
    Calls Try.prog 12 #[.agg #[.string l1, .slice o1 k1.length c1], .agg #[.string l2, .slice o2 k2.length c2]] w fun e w' => e = .returned (.bool true) ∧ Pr w w' := by
  obtain ⟨W, hW⟩ : ∃ W, W = (w.alloc (.cells #[.string l1, .slice o1 k1.length c1] 24)).alloc (.cells #[.string l2, .slice o2 k2.length c2] 24) := ⟨_, rfl⟩
  have hwW : Pr w W := by rw [hW]; exact (Pr.alloc _ _).alloc' _
  have s0 := stays (show W.cell? ⟨w.heap.size, 0, none⟩ = some (.string l1) by rw [hW]; simp [go_sem])
  have s1 := stays (show W.cell? ⟨w.heap.size, 1, none⟩ = some (.slice o1 k1.length c1) by rw [hW]; simp [go_sem])
  have s2 := stays (show W.cell? ⟨w.heap.size + 1, 0, none⟩ = some (.string l2) by rw [hW]; simp [go_sem])
  have s3 := stays (show W.cell? ⟨w.heap.size + 1, 1, none⟩ = some (.slice o2 k2.length c2) by rw [hW]; simp [go_sem])
  have hk1 := hk1.pr hwW; have hk2 := hk2.pr hwW
  obtain ⟨ga, hga⟩ : ∃ b, b = great (.node l1 k1) := ⟨_, rfl⟩
  obtain ⟨gb, hgb⟩ : ∃ b, b = great (.node l2 k2) := ⟨_, rfl⟩
  have G1 : Hid (∀ W', Pr W W' → Calls Try.prog 15 #[.agg #[.string l1, .slice o1 k1.length c1]] W' fun e w' => e = .returned (.bool ga) ∧ Pr W' w') := Lib.hid fun W' h => by rw [hga]; exact great_any l1 k1 _ _ _ (hk1.pr h)
  have G2 : Hid (∀ W', Pr W W' → Calls Try.prog 15 #[.agg #[.string l2, .slice o2 k2.length c2]] W' fun e w' => e = .returned (.bool gb) ∧ Pr W' w') := Lib.hid fun W' h => by rw [hgb]; exact great_any l2 k2 _ _ _ (hk2.pr h)
  have O1 := Lib.hid (fun W' (h : Pr W W') => distOf_no l1 k1 o1 c1 l2 k2 o2 c2 W' hl1 (hk1.pr h) hl2 (hk2.pr h))
  have O3 := Lib.hid (fun W' (h : Pr W W') => distOf_yes l1 k1 o1 c1 l2 k2 o2 c2 W' hl1 (hk1.pr h) hl2 (hk2.pr h))
  clear hga hgb hk1 hk2
  go_enter Try.func12, Try.ntmps12
  go_wp2_with fail
  rw [← hW]; clear hW
  go_upto_region 3 with (first
    | (go_at_call 37; refine (distBegun_any _).mono ?_; rintro e w1 ⟨rfl, hc⟩))
  have y0 := stays (s0 _ hc); have y1 := stays (s1 _ hc); have y2 := stays (s2 _ hc); have y3 := stays (s3 _ hc)
  have Hc := Lib.hid hc
  have G1 := Lib.hid (fun W' (h : Pr w1 W') => G1.out W' (hc.trans h)); have G2 := Lib.hid (fun W' (h : Pr w1 W') => G2.out W' (hc.trans h))
  have O1 := Lib.hid (fun W' (h : Pr w1 W') => O1.out W' (hc.trans h)); have O3 := Lib.hid (fun W' (h : Pr w1 W') => O3.out W' (hc.trans h))
  clear s0 s1 s2 s3 hc
  go_cut [22] from 17 to 21 (fun v wx => v = .bool (ga || gb) ∧ Pr w1 wx)
  case first =>
    have hp := Pr.refl w1
    cases ga <;> cases gb
    all_goals
      go_wp2_with (first
        | (go_at_call 15; (with_reducible refine Calls.mono (G1.out _ hp) ?_); rintro e w2 ⟨rfl, hb⟩; have hp := hp.trans hb)
        | (go_at_call 15; (with_reducible refine Calls.mono (G2.out _ hp) ?_); rintro e w3 ⟨rfl, hb⟩; have hp := hp.trans hb))
      go_meet
      case rel => exact ⟨rfl, hp⟩
  case rest =>
    obtain ⟨rfl, hb⟩ := hcut
    cases hbad : (ga || gb)
    case true =>
      go_wp2_with fail
      go_ret
      exact ⟨rfl, hwW.trans (Hc.out.trans hb)⟩
    case false =>
      obtain ⟨w2, hw2⟩ : ∃ w2, w2 = wc := ⟨_, rfl⟩
      subst hw2
      have y0 := y0 _ hb; have y1 := y1 _ hb; have y2 := y2 _ hb; have y3 := y3 _ hb
      have O1 := Lib.hid (O1.out _ hb)
      have O3 := Lib.hid (O3.out _ hb)
      have Hb := Lib.hid hb
      clear hb G1 G2
      by_cases hff : fault (.node l1 k1) = 0 ∧ fault (.node l2 k2) = 0
      case neg =>
        have O2 := Lib.hid (O1.out hff)
        clear hff
        go_wp2_with (first
          | (go_at_call 39; (with_reducible refine Calls.mono O2.out ?_); rintro e w3 ⟨c, hcz, rfl, hb3⟩; have bu : ((c : Int) != 0) = true := (by simp [bne_iff_ne]; omega); clear hcz))
        go_ret
        exact ⟨rfl, hwW.trans (Hc.out.trans (Hb.out.trans hb3))⟩
      obtain ⟨fa, fb⟩ := hff
      have O2 := Lib.hid (O3.out fa fb)
      have hza := (fault_zero.1 fa).1
      have hzb := (fault_zero.1 fb).1
      have hbg := bestT_good (.node l1 k1) (.node l2 k2)
      have hlen1 := nds_length (.node l1 k1)
      have hlen2 := nds_length (.node l2 k2)
      have hpa := (Tr.node l1 k1).sz_pos
      have hpb := (Tr.node l2 k2).sz_pos
      have hx := fit_nds (.node l1 k1)
      have hy := fit_nds (.node l2 k2)
      have N1 := Lib.hid (fun W' B h => nodes_any (nds (.node l1 k1)) (nds (.node l2 k2)) B W' h (by omega) (by omega))
      have B1 := Lib.hid (fun W' B h => best_read (.node l1 k1) (.node l2 k2) B W' h fa fb)
      have T1 := Lib.hid (fun W' B h => cost_nds (.node l1 k1) (.node l2 k2) B W' h fa fb)
      have hlast : 0 < (bestT (.node l1 k1) (.node l2 k2)).length ∧ (bestT (.node l1 k1) (.node l2 k2))[(bestT (.node l1 k1) (.node l2 k2)).length - 1]? = some ((Tr.node l1 k1).sz - 1, (Tr.node l2 k2).sz - 1) := by
        unfold bestT
        exact ⟨by simp, by simp⟩
      have hcb := costT_bound fa fb
      rw [← hlen1, ← hlen2] at hbg hlast
      rw [← hlen1] at hza hpa
      rw [← hlen2] at hzb hpb
      generalize nds (.node l1 k1) = xs at *
      generalize nds (.node l2 k2) = ys at *
      generalize bestT (.node l1 k1) (.node l2 k2) = L at *
      generalize costT (.node l1 k1) (.node l2 k2) = cst at *
      obtain ⟨hL1, hL2, hL3⟩ := hbg
      have hnl := nameC_le xs ys L
      have hLlen : L.length ≤ 80 := by omega
      obtain ⟨base, hbase⟩ : ∃ b : Int, b = (xs.length : Int) + ys.length - 2 * L.length := ⟨_, rfl⟩
      have hb0 : (xs.length : Int) + (ys.length : Int) - 2 * (L.length : Int) = base := hbase.symm
      have hb1 : -200 ≤ base ∧ base ≤ 200 := by omega
      have HL1 := Lib.hid hL1; have HL2 := Lib.hid hL2; have HL3 := Lib.hid hL3; have Hlast := Lib.hid hlast.2; have Hl0 := Lib.hid hlast.1; have Hnl := Lib.hid hnl
      have Hx := Lib.hid hx; have Hy := Lib.hid hy
      have HB := Lib.hid hbase
      have uw1 : IntKind.i64.wrap (2 * (L.length : Int)) = 2 * (L.length : Int) := IntWalk.i64_in _ (by omega)
      clear hL1 hL2 hL3 hlast hnl fa fb hlen1 hlen2 hbase O1 O3 hx hy
      go_upto_region 11 with (first
        | (go_at_call 39; (with_reducible refine Calls.mono O2.out ?_); rintro e w3 ⟨B, rfl, hT, hb3⟩)
        | (go_at_call 42; (with_reducible refine Calls.mono (N1.out _ _ hT) ?_); rintro e w4 ⟨ox, cx, oy, cy, rfl, hnx, hny, hb4⟩)
        | (go_at_call 47; (with_reducible refine Calls.mono (B1.out _ _ (hT.pr hb4)) ?_); rintro e w5 ⟨bb, oo, cb, rfl, hcell, hb5⟩))
      have hp5 := (hb3.trans hb4).trans hb5
      obtain ⟨xb, xo, rfl, hcx⟩ := hnx.at'' (by omega)
      obtain ⟨yb, yo, rfl, hcy⟩ := hny.at'' (by omega)
      have HX := Lib.hid (fun W' (h : Pr w5 W') i (hi : i < xs.length) => (show W'.cell? ⟨xb, xo + i * 3, none⟩ = some (.string (labN xs i)) ∧ W'.cell? ⟨xb, xo + i * 3 + 2, none⟩ = some (.int .i64 (lfN xs i : Int)) from ⟨by rw [labN_get xs i hi]; exact (hb5.trans h).cell (hcx i hi).1, by rw [← Hx.out.left i hi]; exact (hb5.trans h).cell (hcx i hi).2.2⟩))
      have HY := Lib.hid (fun W' (h : Pr w5 W') i (hi : i < ys.length) => (show W'.cell? ⟨yb, yo + i * 3, none⟩ = some (.string (labN ys i)) ∧ W'.cell? ⟨yb, yo + i * 3 + 2, none⟩ = some (.int .i64 (lfN ys i : Int)) from ⟨by rw [labN_get ys i hi]; exact (hb5.trans h).cell (hcy i hi).1, by rw [← Hy.out.left i hi]; exact (hb5.trans h).cell (hcy i hi).2.2⟩))
      have HC := Lib.hid (fun W' (h : Pr w5 W') i (hi : i < L.length) => (show W'.cell? ⟨bb, oo + i * 2, none⟩ = some (.int .i64 (L[i].1 : Int)) ∧ W'.cell? ⟨bb, oo + i * 2 + 1, none⟩ = some (.int .i64 (L[i].2 : Int)) from ⟨h.cell (hcell i hi).1, h.cell (hcell i hi).2⟩))
      have HT := Lib.hid (fun W' (h : Pr w5 W') => (hT.pr hb4).pr (hb5.trans h))
      have Hp5 := Lib.hid hp5
      clear hcx hcy hcell hnx hny hT hb3 hb4 hb5 hp5 y0 y1 y2 y3
      go_wp2_with fail
      go_loopw [10, 11] (fun v10 v11 wr => ∃ k : Nat, k ≤ L.length ∧ v10 = .int .i64 (base + (nameC xs ys (L.take k) : Int)) ∧ v11 = .int .i64 k ∧ Pr w5 wr) (fun _ v11 _ => L.length - (intOf v11).toNat)
      case atStart => exact ⟨0, by omega, by simp [nameC], rfl, Pr.refl _⟩
      case round =>
        obtain ⟨k, hk, rfl, rfl, hp⟩ := hrel
        by_cases hkl : k < L.length
        · have hkl' : (k : Int) < L.length := by omega
          have hk0 : (0 : Int) ≤ k := by omega
          have hpk := HL1.out L[k] (List.getElem_mem hkl)
          obtain ⟨x0, x1⟩ := HC.out wr hp k hkl
          obtain ⟨xl, xf⟩ := HX.out wr hp _ hpk.1
          obtain ⟨yl, yf⟩ := HY.out wr hp _ hpk.2
          have hst := nameC_take xs ys L k hkl
          have hgood : ∀ j (hj : j < k), (L[j]'(by omega)).1 < L[k].1 ∧ (L[j]'(by omega)).2 < L[k].2 ∧ (lfN xs L[k].1 ≤ (L[j]'(by omega)).1 ↔ lfN ys L[k].2 ≤ (L[j]'(by omega)).2) := fun j hj => List.pairwise_iff_getElem.1 HL2.out j k (by omega) hkl hj
          have hnk := nameC_le xs ys (L.take k)
          have hnk2 : (L.take k).length ≤ k := List.length_take_le _ _
          generalize L[k].1 = pa at *
          generalize L[k].2 = pb at *
          have Hst := Lib.hid hst
          have Hgood := Lib.hid hgood
          have Hpk := Lib.hid hpk
          have hpa0 : ¬ (pa : Int) < 0 := by omega
          have hpb0 : ¬ (pb : Int) < 0 := by omega
          have hpa1 : ¬ (xs.length : Int) ≤ pa := by omega
          have hpb1 : ¬ (ys.length : Int) ≤ pb := by omega
          have hpa2 : (pa : Int) < xs.length := by omega
          have hpb2 : (pb : Int) < ys.length := by omega
          have hpa3 : (0 : Int) ≤ pa := by omega
          have hpb3 : (0 : Int) ≤ pb := by omega
          obtain ⟨w6, hw6⟩ : ∃ w6, w6 = wr.alloc (.cells #[.int .i64 pa, .int .i64 pb] 70) := ⟨_, rfl⟩
          have hp6 : Pr wr w6 := by rw [hw6]; exact Pr.alloc _ _
          have v0 := stays (show w6.cell? ⟨wr.heap.size, 0, none⟩ = some (.int .i64 pa) by rw [hw6]; simp [go_sem])
          have v1 := stays (show w6.cell? ⟨wr.heap.size, 1, none⟩ = some (.int .i64 pb) by rw [hw6]; simp [go_sem])
          have xl := stays (hp6.cell xl); have xf := stays (hp6.cell xf); have yl := stays (hp6.cell yl); have yf := stays (hp6.cell yf)
          clear hst hgood hpk
          go_upto_region 15 with fail
          rw [← hw6]
          have Hp6 := Lib.hid (hp.trans hp6)
          clear hw6 hp6 hp x0 x1
          go_cut [104] from 57 to 103 (fun v wx => v = .bool false ∧ Pr w6 wx)
          case first =>
            have v0 := v0 _ (Pr.refl _); have v1 := v1 _ (Pr.refl _)
            clear xl xf yl yf
            by_cases hkz : k = 0
            · have e1 : decide ((0 : Int) < (k : Int)) = false := by simp; omega
              have e2 : decide (0 < k) = false := by simp; omega
              clear hkz
              go_quiet (fail)
              go_wp2_with fail
              go_meet
              case rel => exact ⟨rfl, Pr.drewN _ _⟩
            · obtain ⟨k', rfl⟩ : ∃ k', k = k' + 1 := ⟨k - 1, by omega⟩
              obtain ⟨g1, g2, _⟩ := Hgood.out k' (by omega)
              obtain ⟨d0, d1⟩ := HC.out w6 Hp6.out k' (by omega)
              generalize L[k'].1 = qa at *
              generalize L[k'].2 = qb at *
              have e1 : decide ((0 : Int) < ((k' + 1 : Nat) : Int)) = true := by first | (simp; done) | (simp; omega)
              have e2 : decide (0 < k' + 1) = true := by simp
              have e3 : ((k' + 1 : Nat) : Int) - 1 = (k' : Int) := by omega
              have e3' : (k' : Int) + 1 - 1 = (k' : Int) := by omega
              have e4 : decide ((pa : Int) ≤ (qa : Int)) = false := by simp; omega
              have e5 : decide ((pb : Int) ≤ (qb : Int)) = false := by simp; omega
              have e6 : decide (pa ≤ qa) = false := by simp; omega
              have e7 : decide (pb ≤ qb) = false := by simp; omega
              have e8 : (0 : Int) ≤ (k' : Int) := by omega
              have e9 : (k' : Int) < L.length := by omega
              have e10 : IntKind.i64.wrap (k' : Int) = (k' : Int) := IntWalk.i64_in _ (by omega)
              clear hkz g1 g2
              go_quiet (fail)
              go_wp2_with fail
              go_meet
              case rel => exact ⟨rfl, Pr.drewN _ _⟩
          case rest =>
            obtain ⟨rfl, hp7⟩ := hcut
            obtain ⟨w7, hw7⟩ : ∃ w7, w7 = wc := ⟨_, rfl⟩
            subst hw7
            have v0 := stays (v0 _ hp7); have v1 := stays (v1 _ hp7)
            have xl := xl _ hp7; have yl := yl _ hp7; have xf := stays (xf _ hp7); have yf := stays (yf _ hp7)
            have Hp7 := Lib.hid (Hp6.out.trans hp7)
            obtain ⟨bl, hbl⟩ : ∃ bl : Bool, bl = ((labN xs pa).toList == (labN ys pb).toList) := ⟨_, rfl⟩
            have hlb : lc (labN xs pa) (labN ys pb) = if bl then 0 else 1 := by
              unfold lc
              by_cases he : labN xs pa = labN ys pb
              · rw [if_pos he, hbl, he]; simp
              · rw [if_neg he, hbl]
                have := toList_ne he
                simp [this]
            have hbl' := hbl.symm
            have Hlb := Lib.hid hlb
            clear hbl hlb hp7
            go_upto_region 17 with fail
            have q0 := v0 _ (Pr.refl _); have q1 := v1 _ (Pr.refl _)
            go_quiet (fail)
            clear xl yl q0 q1 hbl'
            obtain ⟨w8, hw8⟩ : ∃ w8, w8 = w7.drewN nq := ⟨_, rfl⟩
            have hp8 : Pr w7 w8 := by rw [hw8]; exact Pr.drewN _ _
            have v0 := stays (v0 _ hp8); have v1 := stays (v1 _ hp8)
            have xf := stays (xf _ hp8); have yf := stays (yf _ hp8)
            have Hp8 := Lib.hid (Hp7.out.trans hp8)
            rw [← hw8]
            clear hw8 hp8
            go_upto_if 117 with fail
            go_cut [10] from 118 to 119 (fun v wx => v = .int .i64 (base + (nameC xs ys (L.take (k + 1)) : Int)) ∧ wx = w8)
            case first =>
              have hw : IntKind.i64.wrap (base + (nameC xs ys (L.take k) : Int) + 1) = base + (nameC xs ys (L.take k) : Int) + 1 := IntWalk.i64_in _ (by omega)
              cases bl
              · go_wp2_with fail
                go_meet
                case rel => exact ⟨by rw [Hst.out, Hlb.out]; simp; omega, rfl⟩
              · go_wp2_with fail
                go_meet
                case rel => exact ⟨by rw [Hst.out, Hlb.out]; simp, rfl⟩
            case rest =>
              obtain ⟨rfl, rfl⟩ := hcut
              obtain ⟨w9, hw9⟩ : ∃ w9, w9 = wc := ⟨_, rfl⟩
              subst hw9
              go_wp2_with fail
              go_loopw [13] (fun v wr => ∃ j : Nat, j ≤ k ∧ v = .int .i64 j ∧ Pr w9 wr) (fun v _ => k - (intOf v).toNat)
              case atStart => exact ⟨0, by omega, rfl, Pr.refl _⟩
              case round =>
                obtain ⟨j, hj, rfl, hpj⟩ := hrel
                by_cases hjk : j < k
                · have hjk' : (j : Int) < k := by omega
                  have hj0 : (0 : Int) ≤ j := by omega
                  have hjl : (j : Int) < L.length := by omega
                  obtain ⟨g1, g2, g3⟩ := Hgood.out j hjk
                  obtain ⟨d0, d1⟩ := HC.out wr (Hp8.out.trans hpj) j (by omega)
                  have q0 := v0 _ hpj; have q1 := v1 _ hpj; have q2 := xf _ hpj; have q3 := yf _ hpj
                  generalize L[j].1 = qa at *
                  generalize L[j].2 = qb at *
                  generalize lfN xs pa = La at *
                  generalize lfN ys pb = Lb at *
                  by_cases hle : La ≤ qa
                  · have e1 : decide ((La : Int) ≤ (qa : Int)) = true := by simp; omega
                    have e2 : decide ((Lb : Int) ≤ (qb : Int)) = true := by simp; exact g3.1 hle
                    have e3 : decide (La ≤ qa) = true := by simp; omega
                    have e4 : decide (Lb ≤ qb) = true := by simp; exact g3.1 hle
                    clear g1 g2 g3 hle
                    go_wp2_with fail
                    go_quiet (fail)
                    go_wp2_with fail
                    refine ⟨⟨j + 1, by omega, by go_num, hpj.drewN' _⟩, ?_⟩
                    simp [intOf]; omega
                  · have e1 : decide ((La : Int) ≤ (qa : Int)) = false := by simp; omega
                    have h2 : ¬ Lb ≤ qb := fun h => hle (g3.2 h)
                    have e2 : decide ((Lb : Int) ≤ (qb : Int)) = false := by simp; omega
                    have e3 : decide (La ≤ qa) = false := by simp; omega
                    have e4 : decide (Lb ≤ qb) = false := by simp; omega
                    clear g1 g2 g3 hle h2
                    go_wp2_with fail
                    go_quiet (fail)
                    go_wp2_with fail
                    refine ⟨⟨j + 1, by omega, by go_num, hpj.drewN' _⟩, ?_⟩
                    simp [intOf]; omega
                · have hjk' : ¬ (j : Int) < k := by omega
                  go_wp2_with fail
                  refine ⟨⟨k + 1, by omega, rfl, by go_num, Hp8.out.trans hpj⟩, ?_⟩
                  simp [intOf]; omega
        · have hkl' : ¬ (k : Int) < L.length := by omega
          have hke : k = L.length := by omega
          have Hp := Lib.hid hp
          have hl0 := Hl0.out
          have hlq := Hlast.out
          have hval : base + (nameC xs ys L : Int) = (cst : Int) := by
            have h1 := HL3.out; have h2 := HB.out; omega
          have htk : L.take k = L := by rw [hke]; exact List.take_length
          rw [htk]
          obtain ⟨q, hq⟩ : ∃ q, q = L.length - 1 := ⟨_, rfl⟩
          obtain ⟨n1, hn1⟩ : ∃ n1, n1 = xs.length - 1 := ⟨_, rfl⟩
          obtain ⟨m1, hm1⟩ : ∃ m1, m1 = ys.length - 1 := ⟨_, rfl⟩
          have hql : q < L.length := by omega
          obtain ⟨d0, d1⟩ := HC.out wr hp q hql
          have hLq : L[q] = (n1, m1) := by
            rw [← hq, ← hn1, ← hm1, List.getElem?_eq_getElem hql] at hlq
            simpa using hlq
          rw [hLq] at d0 d1
          simp only at d0 d1
          have e0 : (L.length : Int) - 1 = (q : Int) := by omega
          have e1 : (xs.length : Int) - 1 = (n1 : Int) := by omega
          have e2 : (ys.length : Int) - 1 = (m1 : Int) := by omega
          have e3 : ((L.length : Int) == 0) = false := by rw [beq_eq_false_iff_ne]; omega
          have e4 : (0 : Int) ≤ q := by omega
          have e5 : (q : Int) < L.length := by omega
          have u1 : IntKind.i64.wrap (q : Int) = (q : Int) := IntWalk.i64_in _ (by omega)
          have u2 : IntKind.i64.wrap (n1 : Int) = (n1 : Int) := IntWalk.i64_in _ (by omega)
          have u3 : IntKind.i64.wrap (m1 : Int) = (m1 : Int) := IntWalk.i64_in _ (by omega)
          have heq : ∀ W, (Op.equalIn 10000 70 (.agg #[.int .i64 (n1 : Int), .int .i64 (m1 : Int)]) (.agg #[.int .i64 (n1 : Int), .int .i64 (m1 : Int)])).run Try.prog W = .ok true W := fun W => by rw [pair_equalIn 9998]; simp
          have hgd := fun a b xs ys W => pair_guard .eql a b xs ys W
          have T2 := Lib.hid (fun W' (h : Pr w5 W') => T1.out W' B (HT.out W' h))
          clear hq hn1 hm1 hlq hLq htk hke hl0 hkl
          go_wp2_with (first
            | (go_at_call 41; (with_reducible refine Calls.mono (T2.out _ (Hp.out.alloc' _)) ?_); rintro e w9 ⟨rfl, hb9⟩))
          go_ret
          exact ⟨rfl, hwW.trans (Hc.out.trans (Hb.out.trans (Hp5.out.trans ((Hp.out.alloc' _).trans hb9))))⟩
end Go.Proofs.Ytdbnfhpgmcjngaa
