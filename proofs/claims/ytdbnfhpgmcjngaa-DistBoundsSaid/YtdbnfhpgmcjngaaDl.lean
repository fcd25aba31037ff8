/- The law DistBounds: its walk. -/
import Derived.Test.YtdbnfhpgmcjngaaDk
import Derived.Test.YtdbnfhpgmcjngaaFl
namespace Go.Proofs.Ytdbnfhpgmcjngaa
open Go Go.RowKit

/-- How many of the first k nodes bear the label. -/
def cntN (xs : List Nd) (k : Nat) (s : ByteArray) : Nat := cntL ((xs.take k).map (·.lab)) s
theorem cntN_zero (xs : List Nd) (s : ByteArray) : cntN xs 0 s = 0 := by simp [cntN, cntL]
theorem cntN_succ (xs : List Nd) (k : Nat) (h : k < xs.length) (s : ByteArray) : cntN xs (k + 1) s = cntN xs k s + if labN xs k = s then 1 else 0 := by
  unfold cntN
  rw [List.take_succ_eq_append_getElem h, List.map_append, cntL_append, List.map_singleton, cntL_one, labN_get xs k h]
theorem cntN_le (xs : List Nd) (k : Nat) (s : ByteArray) : cntN xs k s ≤ k := by
  unfold cntN cntL
  refine Nat.le_trans (List.countP_le_length) ?_
  simp; omega
/-- Of the first nodes, how many stand behind as many of the same label as the other tree has. -/
def moreN (xs ys : List Nd) (k : Nat) : Nat := more ((xs.take k).map (·.lab)) (ys.map (·.lab))
theorem moreN_zero (xs ys : List Nd) : moreN xs ys 0 = 0 := by simp [moreN, more_nil]
theorem moreN_succ (xs ys : List Nd) (k : Nat) (h : k < xs.length) : moreN xs ys (k + 1) = moreN xs ys k + if cntN ys ys.length (labN xs k) < cntN xs (k + 1) (labN xs k) then 1 else 0 := by
  unfold moreN
  rw [List.take_succ_eq_append_getElem h, List.map_append, List.map_singleton, more_snoc, cntN_succ xs k h, if_pos rfl, labN_get xs k h]
  unfold cntN
  rw [List.take_length]
  by_cases hc : cntL (ys.map (·.lab)) xs[k].lab ≤ cntL ((xs.take k).map (·.lab)) xs[k].lab
  · rw [if_pos hc, if_pos (by omega)]
  · rw [if_neg hc, if_neg (by omega)]
theorem moreN_le (xs ys : List Nd) (k : Nat) : moreN xs ys k ≤ k := by
  unfold moreN
  refine Nat.le_trans (more_le _ _) ?_
  simp; omega
theorem cost_moreN (a b : Tr) : moreN (nds a) (nds b) (nds a).length ≤ costT a b := by
  unfold moreN
  rw [List.take_length, nds_labs, nds_labs]
  cases a; cases b
  exact cost_more _ _ _ _
theorem cost_lower (a b : Tr) : a.sz ≤ costT a b + b.sz := by
  cases a with | node l ks =>
  cases b with | node m js =>
  have := fd_lower ks js
  unfold costT; simp only [Tr.kids, Tr.label, Tr.sz_node]; omega
theorem cost_upper (a b : Tr) : costT a b ≤ a.sz + b.sz := by
  cases a with | node l ks =>
  cases b with | node m js =>
  have := fd_upper ks js
  have := lc_le l m
  unfold costT; simp only [Tr.kids, Tr.label, Tr.sz_node]; omega

set_option maxRecDepth 100000 in
set_option maxHeartbeats 6400000 in
theorem distBounds_walk (l1 : ByteArray) (k1 : List Tr) (o1 c1) (l2 : ByteArray) (k2 : List Tr) (o2 c2) (w : World)
    (hl1 : l1.size ≤ maxLen) (hk1 : Kids Any w k1 o1 c1) (hl2 : l2.size ≤ maxLen) (hk2 : Kids Any w k2 o2 c2) :
    Calls Try.prog 13 #[.agg #[.string l1, .slice o1 k1.length c1], .agg #[.string l2, .slice o2 k2.length c2]] w fun e w' => e = .returned (.bool true) ∧ Pr w w' := by
  obtain ⟨W, hW⟩ : ∃ W, W = (w.alloc (.cells #[.string l1, .slice o1 k1.length c1] 24)).alloc (.cells #[.string l2, .slice o2 k2.length c2] 24) := ⟨_, rfl⟩
  have hwW : Pr w W := by rw [hW]; exact (Pr.alloc _ _).alloc' _
  have s0 := stays (show W.cell? ⟨w.heap.size, 0, none⟩ = some (.string l1) by rw [hW]; simp [go_sem])
  have s1 := stays (show W.cell? ⟨w.heap.size, 1, none⟩ = some (.slice o1 k1.length c1) by rw [hW]; simp [go_sem])
  have s2 := stays (show W.cell? ⟨w.heap.size + 1, 0, none⟩ = some (.string l2) by rw [hW]; simp [go_sem])
  have s3 := stays (show W.cell? ⟨w.heap.size + 1, 1, none⟩ = some (.slice o2 k2.length c2) by rw [hW]; simp [go_sem])
  have hk1 := hk1.pr hwW; have hk2 := hk2.pr hwW
  obtain ⟨ga, hga⟩ : ∃ b, b = great (.node l1 k1) := ⟨_, rfl⟩
  obtain ⟨gb, hgb⟩ : ∃ b, b = great (.node l2 k2) := ⟨_, rfl⟩
  have G1 : Hid (∀ W', Pr W W' → Calls Try.prog 15 #[.agg #[.string l1, .slice o1 k1.length c1]] W' fun e w' => e = .returned (.bool ga) ∧ Pr W' w') := Lib.hid fun W' h => by rw [hga]; exact great_any l1 k1 _ _ _ (hk1.pr h)
  have G2 : Hid (∀ W', Pr W W' → Calls Try.prog 15 #[.agg #[.string l2, .slice o2 k2.length c2]] W' fun e w' => e = .returned (.bool gb) ∧ Pr W' w') := Lib.hid fun W' h => by rw [hgb]; exact great_any l2 k2 _ _ _ (hk2.pr h)
  have O1 := Lib.hid (fun W' (h : Pr W W') => distOf_no l1 k1 o1 c1 l2 k2 o2 c2 W' hl1 (hk1.pr h) hl2 (hk2.pr h))
  have O3 := Lib.hid (fun W' (h : Pr W W') => distOf_yes l1 k1 o1 c1 l2 k2 o2 c2 W' hl1 (hk1.pr h) hl2 (hk2.pr h))
  clear hga hgb hk1 hk2
  go_enter Try.func13, Try.ntmps13
  go_wp2_with fail
  rw [← hW]; clear hW
  go_upto_region 3 with (first
    | (go_at_call 37; refine (distBegun_any _).mono ?_; rintro e w1 ⟨rfl, hc⟩))
  have y0 := stays (s0 _ hc); have y1 := stays (s1 _ hc); have y2 := stays (s2 _ hc); have y3 := stays (s3 _ hc)
  have Hc := Lib.hid hc
  have G1 := Lib.hid (fun W' (h : Pr w1 W') => G1.out W' (hc.trans h)); have G2 := Lib.hid (fun W' (h : Pr w1 W') => G2.out W' (hc.trans h))
  have O1 := Lib.hid (fun W' (h : Pr w1 W') => O1.out W' (hc.trans h)); have O3 := Lib.hid (fun W' (h : Pr w1 W') => O3.out W' (hc.trans h))
  clear s0 s1 s2 s3 hc
  go_cut [22] from 17 to 21 (fun v wx => v = .bool (ga || gb) ∧ Pr w1 wx)
  case first =>
    have hp := Pr.refl w1
    cases ga <;> cases gb
    all_goals
      go_wp2_with (first
        | (go_at_call 15; (with_reducible refine Calls.mono (G1.out _ hp) ?_); rintro e w2 ⟨rfl, hb⟩; have hp := hp.trans hb)
        | (go_at_call 15; (with_reducible refine Calls.mono (G2.out _ hp) ?_); rintro e w3 ⟨rfl, hb⟩; have hp := hp.trans hb))
      go_meet
      case rel => exact ⟨rfl, hp⟩
  case rest =>
    obtain ⟨rfl, hb⟩ := hcut
    cases hbad : (ga || gb)
    case true =>
      go_wp2_with fail
      go_ret
      exact ⟨rfl, hwW.trans (Hc.out.trans hb)⟩
    case false =>
      obtain ⟨w2, hw2⟩ : ∃ w2, w2 = wc := ⟨_, rfl⟩
      subst hw2
      have y0 := y0 _ hb; have y1 := y1 _ hb; have y2 := y2 _ hb; have y3 := y3 _ hb
      have O1 := Lib.hid (O1.out _ hb)
      have O3 := Lib.hid (O3.out _ hb)
      have Hb := Lib.hid hb
      clear hb G1 G2
      by_cases hff : fault (.node l1 k1) = 0 ∧ fault (.node l2 k2) = 0
      case neg =>
        have O2 := Lib.hid (O1.out hff)
        clear hff
        go_wp2_with (first
          | (go_at_call 39; (with_reducible refine Calls.mono O2.out ?_); rintro e w3 ⟨c, hcz, rfl, hb3⟩; have bu : ((c : Int) != 0) = true := (by simp [bne_iff_ne]; omega); clear hcz))
        go_ret
        exact ⟨rfl, hwW.trans (Hc.out.trans (Hb.out.trans hb3))⟩
      obtain ⟨fa, fb⟩ := hff
      have O2 := Lib.hid (O3.out fa fb)
      have hza := (fault_zero.1 fa).1
      have hzb := (fault_zero.1 fb).1
      have hlen1 := nds_length (.node l1 k1)
      have hlen2 := nds_length (.node l2 k2)
      have hpa := (Tr.node l1 k1).sz_pos
      have hpb := (Tr.node l2 k2).sz_pos
      have N1 := Lib.hid (fun W' B h => nodes_any (nds (.node l1 k1)) (nds (.node l2 k2)) B W' h (by omega) (by omega))
      have T1 := Lib.hid (fun W' B h => cost_nds (.node l1 k1) (.node l2 k2) B W' h fa fb)
      have hcm := cost_moreN (.node l1 k1) (.node l2 k2)
      have hcl := cost_lower (.node l1 k1) (.node l2 k2)
      have hcr := cost_lower (.node l2 k2) (.node l1 k1)
      rw [costT_symm] at hcr
      have hcu := cost_upper (.node l1 k1) (.node l2 k2)
      rw [← hlen1, ← hlen2] at hcl hcr hcu
      rw [← hlen1] at hza hpa
      rw [← hlen2] at hzb hpb
      generalize nds (.node l1 k1) = xs at *
      generalize nds (.node l2 k2) = ys at *
      generalize costT (.node l1 k1) (.node l2 k2) = cst at *
      have Hcm := Lib.hid hcm
      clear hcm fa fb hlen1 hlen2 O1 O3
      go_upto_region 10 with (first
        | (go_at_call 39; (with_reducible refine Calls.mono O2.out ?_); rintro e w3 ⟨B, rfl, hT, hb3⟩)
        | (go_at_call 42; (with_reducible refine Calls.mono (N1.out _ _ hT) ?_); rintro e w4 ⟨ox, cx, oy, cy, rfl, hnx, hny, hb4⟩)
        | (go_at_call 41; (with_reducible refine Calls.mono (T1.out _ _ (hT.pr hb4)) ?_); rintro e w5 ⟨rfl, hb5⟩))
      have hp5 := (hb3.trans hb4).trans hb5
      obtain ⟨xb, xo, rfl, hcx⟩ := hnx.at'' (by omega)
      obtain ⟨yb, yo, rfl, hcy⟩ := hny.at'' (by omega)
      have HX := Lib.hid (fun W' (h : Pr w5 W') i (hi : i < xs.length) => (show W'.cell? ⟨xb, xo + i * 3, none⟩ = some (.string (labN xs i)) from by rw [labN_get xs i hi]; exact (hb5.trans h).cell (hcx i hi).1))
      have HY := Lib.hid (fun W' (h : Pr w5 W') i (hi : i < ys.length) => (show W'.cell? ⟨yb, yo + i * 3, none⟩ = some (.string (labN ys i)) from by rw [labN_get ys i hi]; exact (hb5.trans h).cell (hcy i hi).1))
      have Hp5 := Lib.hid hp5
      clear hcx hcy hnx hny hT hb3 hb4 hb5 hp5 y0 y1 y2 y3
      go_wp2_with fail
      go_loopw [10, 11] (fun v10 v11 wr => ∃ i : Nat, i ≤ xs.length ∧ v10 = .int .i64 (moreN xs ys i) ∧ v11 = .int .i64 i ∧ Pr w5 wr) (fun _ v11 _ => xs.length - (intOf v11).toNat)
      case atStart => exact ⟨0, by omega, by rw [moreN_zero]; rfl, rfl, Pr.refl _⟩
      case round =>
        obtain ⟨i, hi, rfl, rfl, hp⟩ := hrel
        obtain ⟨wi, hwi⟩ : ∃ wi, wi = wr := ⟨_, rfl⟩
        subst hwi
        by_cases hil : i < xs.length
        · have hil' : (i : Int) < xs.length := by omega
          have hi0 : (0 : Int) ≤ i := by omega
          have Hp := Lib.hid hp
          have hms := moreN_succ xs ys i hil
          have hml := moreN_le xs ys i
          generalize hmv : moreN xs ys i = mv at *
          have Hmv := Lib.hid hmv
          have Hms := Lib.hid hms
          obtain ⟨s, hs⟩ : ∃ s, s = labN xs i := ⟨_, rfl⟩
          have Hs := Lib.hid hs
          clear hp hms hmv hs
          go_wp2_with fail
          go_loopw [12, 13] (fun v12 v13 wr => ∃ j : Nat, j ≤ xs.length ∧ v12 = .int .i64 (cntN xs (min j (i + 1)) s) ∧ v13 = .int .i64 j ∧ Pr wi wr) (fun _ v13 _ => xs.length - (intOf v13).toNat)
          case atStart => exact ⟨0, by omega, by rw [Nat.zero_min, cntN_zero]; rfl, rfl, Pr.refl _⟩
          case round =>
            obtain ⟨j, hj, rfl, rfl, hpj⟩ := hrel
            have hcb := cntN_le xs (min j (i + 1)) s
            by_cases hjl : j < xs.length
            · have hjl' : (j : Int) < xs.length := by omega
              have hj0 : (0 : Int) ≤ j := by omega
              have x1 := HX.out wr (Hp.out.trans hpj) j hjl
              have x2 := HX.out wr (Hp.out.trans hpj) i hil
              have hsj := cntN_succ xs j hjl s
              rw [← Hs.out] at x2
              have hcj : min (j + 1) (i + 1) = if j ≤ i then j + 1 else i + 1 := by split <;> omega
              have hcj0 : min j (i + 1) = if j ≤ i then j else i + 1 := by split <;> omega
              have Hsj := Lib.hid hsj; have Hcj := Lib.hid hcj; have Hcj0 := Lib.hid hcj0
              clear hsj hcj hcj0
              generalize hcv : cntN xs (min j (i + 1)) s = cv at *
              have Hcv := Lib.hid hcv
              clear hcv
              by_cases he : labN xs j = s
              · rw [he] at x1
                by_cases hji : j ≤ i
                · have e1 : decide ((j : Int) ≤ (i : Int)) = true := by simp; omega
                  have e2 : decide (j ≤ i) = true := by simp; omega
                  have hfin : (cntN xs (min (j + 1) (i + 1)) s : Int) = (cv : Int) + 1 := by
                    have h1 := Hsj.out; have h2 := Hcv.out
                    rw [Hcj.out, if_pos hji, h1, if_pos he]
                    rw [Hcj0.out, if_pos hji] at h2
                    omega
                  have Hfin := Lib.hid hfin
                  clear hfin he hji
                  go_wp2_with fail
                  go_quiet (fail)
                  go_wp2_with fail
                  refine ⟨⟨j + 1, by omega, by rw [Hfin.out], by go_num, hpj.drewN' _⟩, ?_⟩
                  simp [intOf]; omega
                · have e1 : decide ((j : Int) ≤ (i : Int)) = false := by simp; omega
                  have e2 : decide (j ≤ i) = false := by simp; omega
                  have hfin : (cntN xs (min (j + 1) (i + 1)) s : Int) = (cv : Int) := by
                    have h2 := Hcv.out
                    rw [Hcj0.out, if_neg hji] at h2
                    rw [Hcj.out, if_neg hji, h2]
                  have Hfin := Lib.hid hfin
                  clear hfin he hji
                  go_wp2_with fail
                  go_quiet (fail)
                  go_wp2_with fail
                  refine ⟨⟨j + 1, by omega, by rw [Hfin.out], by go_num, hpj.drewN' _⟩, ?_⟩
                  simp [intOf]; omega
              · have e1 : ((labN xs j).toList == s.toList) = false := by simpa using toList_ne he
                have hfin : (cntN xs (min (j + 1) (i + 1)) s : Int) = (cv : Int) := by
                  have h1 := Hsj.out; have h2 := Hcv.out
                  rw [Hcj0.out] at h2
                  rw [Hcj.out]
                  by_cases hji : j ≤ i
                  · rw [if_pos hji] at h2 ⊢; rw [h1, if_neg he, h2]; rfl
                  · rw [if_neg hji] at h2 ⊢; rw [h2]
                have Hfin := Lib.hid hfin
                clear hfin he
                go_wp2_with fail
                go_quiet (fail)
                go_wp2_with fail
                refine ⟨⟨j + 1, by omega, by rw [Hfin.out], by go_num, hpj.drewN' _⟩, ?_⟩
                simp [intOf]; omega
            · have hjl' : ¬ (j : Int) < xs.length := by omega
              have hmn : min j (i + 1) = i + 1 := by omega
              rw [hmn] at *
              have hcb2 := cntN_le xs (i + 1) s
              have Hpj := Lib.hid (Hp.out.trans hpj)
              obtain ⟨wk, hwk⟩ : ∃ wk, wk = wr := ⟨_, rfl⟩
              subst hwk
              clear hpj hmn
              go_wp2_with fail
              go_loopw [12, 14] (fun v12 v14 wr => ∃ j : Nat, j ≤ ys.length ∧ v12 = .int .i64 ((cntN xs (i + 1) s : Int) - (cntN ys j s : Int)) ∧ v14 = .int .i64 j ∧ Pr wk wr) (fun _ v14 _ => ys.length - (intOf v14).toNat)
              case atStart => exact ⟨0, by omega, by rw [cntN_zero]; simp, rfl, Pr.refl _⟩
              case round =>
                obtain ⟨q, hq, rfl, rfl, hpq⟩ := hrel
                have hcq := cntN_le ys q s
                by_cases hql : q < ys.length
                · have hql' : (q : Int) < ys.length := by omega
                  have hq0 : (0 : Int) ≤ q := by omega
                  have x1 := HY.out wr (Hpj.out.trans hpq) q hql
                  have x2 := HX.out wr (Hpj.out.trans hpq) i hil
                  rw [← Hs.out] at x2
                  have hsq := cntN_succ ys q hql s
                  have Hsq := Lib.hid hsq
                  clear hsq
                  have hw : IntKind.i64.wrap ((cntN xs (i + 1) s : Int) - (cntN ys q s : Int) - 1) = (cntN xs (i + 1) s : Int) - (cntN ys q s : Int) - 1 := IntWalk.i64_in _ (by omega)
                  by_cases he : labN ys q = s
                  · rw [he] at x1
                    have hfin : (cntN ys (q + 1) s : Int) = (cntN ys q s : Int) + 1 := by rw [Hsq.out, if_pos he]; rfl
                    have Hfin := Lib.hid hfin
                    clear hfin he
                    go_wp2_with fail
                    go_quiet (fail)
                    go_wp2_with fail
                    refine ⟨⟨q + 1, by omega, by rw [Hfin.out]; congr 1; omega, by go_num, hpq.drewN' _⟩, ?_⟩
                    simp [intOf]; omega
                  · have e1 : ((labN ys q).toList == s.toList) = false := by simpa using toList_ne he
                    have hfin : (cntN ys (q + 1) s : Int) = (cntN ys q s : Int) := by rw [Hsq.out, if_neg he]; rfl
                    have Hfin := Lib.hid hfin
                    clear hfin he
                    go_wp2_with fail
                    go_quiet (fail)
                    go_wp2_with fail
                    refine ⟨⟨q + 1, by omega, by rw [Hfin.out], by go_num, hpq.drewN' _⟩, ?_⟩
                    simp [intOf]; omega
                · have hql' : ¬ (q : Int) < ys.length := by omega
                  have hqe : q = ys.length := by omega
                  subst hqe
                  have Hpq := Lib.hid (Hpj.out.trans hpq)
                  have hms := Hms.out
                  rw [← Hs.out] at hms
                  by_cases hgt : cntN ys ys.length s < cntN xs (i + 1) s
                  · rw [if_pos hgt] at hms
                    have e1 : decide ((0 : Int) < (cntN xs (i + 1) s : Int) - (cntN ys ys.length s : Int)) = true := by simp; omega
                    have e2 : (0 : Int) < (cntN xs (i + 1) s : Int) - (cntN ys ys.length s : Int) := by omega
                    have Hms2 := Lib.hid hms
                    clear hms hgt hpq
                    go_wp2_with fail
                    refine ⟨⟨i + 1, by omega, by rw [Hms2.out]; go_num, by go_num, Hpq.out⟩, ?_⟩
                    simp [intOf]; omega
                  · rw [if_neg hgt] at hms
                    have e1 : decide ((0 : Int) < (cntN xs (i + 1) s : Int) - (cntN ys ys.length s : Int)) = false := by simp; omega
                    have e2 : ¬ (0 : Int) < (cntN xs (i + 1) s : Int) - (cntN ys ys.length s : Int) := by omega
                    have Hms2 := Lib.hid hms
                    clear hms hgt hpq
                    go_wp2_with fail
                    refine ⟨⟨i + 1, by omega, by rw [Hms2.out]; rfl, by go_num, Hpq.out⟩, ?_⟩
                    simp [intOf]; omega
        · have hil' : ¬ (i : Int) < xs.length := by omega
          have hie : i = xs.length := by omega
          subst hie
          have hcm := Hcm.out
          generalize moreN xs ys xs.length = mv at *
          have e1 : (xs.length : Int) - ys.length ≤ cst := by omega
          have e2 : (ys.length : Int) - xs.length ≤ cst := by omega
          have e3 : (mv : Int) ≤ cst := by omega
          have Hp := Lib.hid hp
          go_wp2_with fail
          all_goals
            first
              | rw [show decide ((cst : Int) ≤ (xs.length : Int) + (ys.length : Int)) = true from decide_eq_true (by omega)]
              | rw [show decide ((cst : Int) ≤ (ys.length : Int) + (xs.length : Int)) = true from decide_eq_true (by omega)]
              | rw [show decide ((cst : Int) ≤ (xs.length : Int) + (xs.length : Int)) = true from decide_eq_true (by omega)]
            go_ret
            exact ⟨rfl, hwW.trans (Hc.out.trans (Hb.out.trans (Hp5.out.trans Hp.out)))⟩
end Go.Proofs.Ytdbnfhpgmcjngaa
