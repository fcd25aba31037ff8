/- The law DeedBack: its walk. -/
import Derived.Test.YtdbnfhpgmcjngabEk
import Derived.Test.YtdbnfhpgmcjngabDy
namespace Go.Proofs.Ytdbnfhpgmcjngab
open Go Go.RowKit

/-- deed.Do, where it is known what it makes. -/
theorem deedDo_is (l : ByteArray) (ks : List Tr) (oa cap) (k : Int) (p : List Int) (a m : Int) (s : ByteArray) (pa pc) (w : World) (hl : l.size ≤ maxLen) (hk : Kids Any w ks oa cap) (hs : s.size ≤ maxLen) (hp : Ints Any w p pa pc) (hpl : p.length ≤ 100000)
    (l2 : ByteArray) (ks2 : List Tr) (k2 : Int) (p2 : List Int) (a2 m2 : Int) (s2 : ByteArray) (c : Nat) (h : doD (.node l ks) ⟨k, p, a, m, s⟩ = (.node l2 ks2, ⟨k2, p2, a2, m2, s2⟩, c)) :
    Calls Try.prog 25 #[.agg #[.string l, .slice oa ks.length cap], .agg #[.int .i64 k, .slice pa p.length pc, .int .i64 a, .int .i64 m, .string s]] w fun e w' =>
      ((∃ oa cap bp bc, e = .returned (.tuple #[.agg #[.string l2, .slice oa ks2.length cap], .agg #[.int .i64 k2, .slice bp p2.length bc, .int .i64 a2, .int .i64 m2, .string s2], .int .i64 (c : Nat)]) ∧ Kids Any w' ks2 oa cap ∧ Ints Any w' p2 bp bc) ∧ l2.size ≤ maxLen) ∧ Pr w w' := by
  refine (deedDo_any l ks oa cap k p a m s pa pc w hl hk hs hp hpl).mono ?_
  rintro e w' ⟨l', ks', oa', cap', k', p', a', m', s', bp, bc, c', hd, hl', rfl, hk2, hi2, hp⟩
  have hd2 := hd.symm.trans h
  simp only [Prod.mk.injEq, Tr.node.injEq, Dee.mk.injEq] at hd2
  obtain ⟨⟨rfl, rfl⟩, ⟨rfl, rfl, rfl, rfl, rfl⟩, rfl⟩ := hd2
  exact ⟨⟨⟨oa', cap', bp, bc, rfl, hk2.any, hi2⟩, hl'⟩, hp⟩
theorem lab_small {d : Dee} (h : dfault d = 0) : d.lab.size ≤ maxLen := by
  obtain ⟨_, _, e2, _, _, _, e7⟩ := dfault_zero.1 h
  by_cases hk : d.kind = 2
  · rw [(e2 hk).1]; simp [ByteArray.size]
  · have := e7 hk
    rw [isLab_eq] at this
    simp at this
    unfold maxLen; omega
theorem backD_len (t : Tr) (d : Dee) : (backD t d).path.length ≤ d.path.length + 1 := by
  unfold backD
  split
  · simp; omega
  · split <;> simp
theorem greatD_false {p : List Int} {s : ByteArray} (h : greatD p s = false) : p.length ≤ 60 := by
  unfold greatD at h; simp at h; omega

set_option maxRecDepth 100000 in
set_option maxHeartbeats 6400000 in
theorem deedBack_walk (l : ByteArray) (ks : List Tr) (oa cap) (d : Dee) (pa pc) (w : World) (hl : l.size ≤ maxLen) (hk : Kids Any w ks oa cap) (hp : Ints Any w d.path pa pc) (hs : d.lab.size ≤ maxLen) :
    Calls Try.prog 6 #[.agg #[.string l, .slice oa ks.length cap], .agg #[.int .i64 d.kind, .slice pa d.path.length pc, .int .i64 d.pos, .int .i64 d.many, .string d.lab]] w fun e w' => e = .returned (.bool true) ∧ Pr w w' := by
  obtain ⟨k, p, a, m, s⟩ := d
  simp only at hp hs ⊢
  obtain ⟨W, hW⟩ : ∃ W, W = (w.alloc (.cells #[.string l, .slice oa ks.length cap] 24)).alloc (.cells #[.int .i64 k, .slice pa p.length pc, .int .i64 a, .int .i64 m, .string s] 40) := ⟨_, rfl⟩
  have hwW : Pr w W := by rw [hW]; exact (Pr.alloc _ _).alloc' _
  have s0 := stays (show W.cell? ⟨w.heap.size, 0, none⟩ = some (.string l) by rw [hW]; simp [go_sem])
  have s1 := stays (show W.cell? ⟨w.heap.size, 1, none⟩ = some (.slice oa ks.length cap) by rw [hW]; simp [go_sem])
  have d0 := stays (show W.cell? ⟨w.heap.size + 1, 0, none⟩ = some (.int .i64 k) by rw [hW]; simp [go_sem])
  have d1 := stays (show W.cell? ⟨w.heap.size + 1, 1, none⟩ = some (.slice pa p.length pc) by rw [hW]; simp [go_sem])
  have d2 := stays (show W.cell? ⟨w.heap.size + 1, 2, none⟩ = some (.int .i64 a) by rw [hW]; simp [go_sem])
  have d3 := stays (show W.cell? ⟨w.heap.size + 1, 3, none⟩ = some (.int .i64 m) by rw [hW]; simp [go_sem])
  have d4 := stays (show W.cell? ⟨w.heap.size + 1, 4, none⟩ = some (.string s) by rw [hW]; simp [go_sem])
  have hk := hk.pr hwW
  have hp := Flat.pr hwW hp
  obtain ⟨ga, hga⟩ : ∃ b, b = great (.node l ks) := ⟨_, rfl⟩
  obtain ⟨gb, hgb⟩ : ∃ b, b = greatD p s := ⟨_, rfl⟩
  have G1 : Hid (∀ W', Pr W W' → Calls Try.prog 15 #[.agg #[.string l, .slice oa ks.length cap]] W' fun e w' => e = .returned (.bool ga) ∧ Pr W' w') := Lib.hid fun W' h => by rw [hga]; exact great_any l ks _ _ _ (hk.pr h)
  have G2 : Hid (∀ W', Pr W W' → Calls Try.prog 24 #[.agg #[.int .i64 k, .slice pa p.length pc, .int .i64 a, .int .i64 m, .string s]] W' fun e w' => e = .returned (.bool gb) ∧ Pr W' w') := Lib.hid fun W' h => by rw [hgb]; exact greatDeed_any k p a m s pa pc W' (Flat.pr h hp)
  have HG := Lib.hid hgb
  have HK := Lib.hid hk; have HP := Lib.hid hp; have HW := Lib.hid hwW
  clear hga hgb hk hp hwW
  go_enter Try.func6, Try.ntmps6
  go_upto_region 1 with fail
  rw [← hW]; clear hW
  go_upto_region 3 with (first
    | (go_at_call 23; refine (deedBegun_any _).mono ?_; rintro e w1 ⟨rfl, hc⟩))
  have z0 := s0 _ hc; have z1 := s1 _ hc
  have y0 := stays (s0 _ hc); have y1 := stays (s1 _ hc); have y2 := stays (d0 _ hc); have y3 := stays (d1 _ hc); have y4 := stays (d2 _ hc); have y5 := stays (d3 _ hc); have y6 := stays (d4 _ hc)
  have Hc := Lib.hid hc
  clear s0 s1 d0 d1 d2 d3 d4 hc
  go_cut [18] from 13 to 17 (fun v wx => v = .bool (ga || gb) ∧ Pr w1 wx)
  case first =>
    have hp := Pr.refl w1
    cases ga <;> cases gb
    all_goals
      go_wp2_with (first
        | (go_at_call 15; (with_reducible refine Calls.mono (G1.out _ (Hc.out.trans hp)) ?_); rintro e w2 ⟨rfl, hb⟩; have hp := hp.trans hb; have x2 := y2 _ hp; have x3 := y3 _ hp; have x4 := y4 _ hp; have x5 := y5 _ hp; have x6 := y6 _ hp)
        | (go_at_call 24; (with_reducible refine Calls.mono (G2.out _ (Hc.out.trans hp)) ?_); rintro e w3 ⟨rfl, hb⟩; have hp := hp.trans hb))
      go_meet
      case rel => exact ⟨rfl, hp⟩
  case rest =>
    obtain ⟨rfl, hp⟩ := hcut
    cases hbad : (ga || gb)
    case true =>
      go_wp2_with fail
      go_ret
      exact ⟨rfl, HW.out.trans (Hc.out.trans hp)⟩
    case false =>
      have hlen : p.length ≤ 60 := greatD_false (by rw [← HG.out]; revert hbad; cases ga <;> cases gb <;> simp)
      obtain ⟨w2, hw2⟩ : ∃ w2, w2 = wc := ⟨_, rfl⟩
      subst hw2
      have x0 := y0 _ hp; have x1 := y1 _ hp; have x2 := y2 _ hp; have x3 := y3 _ hp; have x4 := y4 _ hp; have x5 := y5 _ hp; have x6 := y6 _ hp
      have hWp := Hc.out.trans hp
      by_cases hc : (doD (.node l ks) ⟨k, p, a, m, s⟩).2.2 = 0
      case neg =>
        have hno := doD_no hc
        generalize (doD (.node l ks) ⟨k, p, a, m, s⟩).2.2 = c at *
        have D1 := Lib.hid (deedDo_is l ks oa cap k p a m s pa pc w2 hl (HK.out.pr hWp) hs (Flat.pr hWp HP.out) (by omega) ⟨#[]⟩ [] 0 [] 0 0 ⟨#[]⟩ c hno)
        have e1 : ((c : Int) != 0) = true := by simp [bne_iff_ne]; omega
        clear hno hc
        go_upto_region 6 with (first
          | (go_at_call 25; (with_reducible refine Calls.mono D1.out ?_); rintro e w3 ⟨⟨⟨o3, c3, bp, bc, rfl, hk3, hi3⟩, hl3⟩, hb⟩; have hp := hp.trans hb))
        obtain ⟨V, hV⟩ : ∃ V, V = (w3.alloc (.cells #[.string ⟨#[]⟩, .slice o3 0 c3] 24)).alloc (.cells #[.int .i64 0, .slice bp 0 bc, .int .i64 0, .int .i64 0, .string ⟨#[]⟩] 40) := ⟨_, rfl⟩
        have hpV : Pr w3 V := by rw [hV]; exact (Pr.alloc _ _).alloc' _
        have e0 := stays (show V.cell? ⟨w3.heap.size, 0, none⟩ = some (.string ⟨#[]⟩) by rw [hV]; simp [go_sem])
        have e2 := stays (show V.cell? ⟨w3.heap.size, 1, none⟩ = some (.slice o3 0 c3) by rw [hV]; simp [go_sem])
        have f0 := stays (show V.cell? ⟨w3.heap.size + 1, 0, none⟩ = some (.int .i64 0) by rw [hV]; simp [go_sem])
        have f1 := stays (show V.cell? ⟨w3.heap.size + 1, 1, none⟩ = some (.slice bp 0 bc) by rw [hV]; simp [go_sem])
        have f2 := stays (show V.cell? ⟨w3.heap.size + 1, 2, none⟩ = some (.int .i64 0) by rw [hV]; simp [go_sem])
        have f3 := stays (show V.cell? ⟨w3.heap.size + 1, 3, none⟩ = some (.int .i64 0) by rw [hV]; simp [go_sem])
        have f4 := stays (show V.cell? ⟨w3.heap.size + 1, 4, none⟩ = some (.string ⟨#[]⟩) by rw [hV]; simp [go_sem])
        have hk3 := hk3.pr hpV
        have hi3 := Flat.pr hpV hi3
        have hp := hp.trans hpV
        rw [← hV]
        have g0 := e0 _ (Pr.refl _); have g1 := e2 _ (Pr.refl _)
        have S1 : Hid (∀ W', Pr V W' → Calls Try.prog 22 #[.agg #[.string ⟨#[]⟩, .slice o3 0 c3], .agg #[.string ⟨#[]⟩, .slice none 0 0]] W' fun e w' => e = .returned (.bool true) ∧ Pr W' w') := Lib.hid fun W' h => by
          have := sameTree_any ⟨#[]⟩ ⟨#[]⟩ [] [] o3 c3 none 0 W' (hk3.pr h) (Kids.nil0 _ _); rw [Tr.beq_self] at this; exact this
        have S2 : Hid (∀ W', Pr V W' → Calls Try.prog 26 #[.agg #[.int .i64 0, .slice bp 0 bc, .int .i64 0, .int .i64 0, .string ⟨#[]⟩], .agg #[.int .i64 0, .slice none 0 0, .int .i64 0, .int .i64 0, .string ⟨#[]⟩]] W' fun e w' => e = .returned (.bool true) ∧ Pr W' w') := Lib.hid fun W' h => by
          have := rsameDeed_any 0 [] 0 0 ⟨#[]⟩ bp bc 0 [] 0 0 ⟨#[]⟩ none 0 W' (Flat.pr h hi3) (Flat.nil _ _ _ _ (Nat.zero_le _)); rw [decide_eq_true rfl] at this; exact this
        have hq := Pr.refl V
        clear hV hk3 hi3
        go_wp2_with (first
          | (go_at_call 22; (with_reducible refine Calls.mono (S1.out _ hq) ?_); rintro e w4 ⟨rfl, hb4⟩; have hq := hq.trans hb4; have f0 := f0 _ hq; have f1 := f1 _ hq; have f2 := f2 _ hq; have f3 := f3 _ hq; have f4 := f4 _ hq)
          | (go_at_call 26; (with_reducible refine Calls.mono (S2.out _ hq) ?_); rintro e w5 ⟨rfl, hb5⟩; have hq := hq.trans hb5))
        go_ret
        exact ⟨rfl, HW.out.trans (Hc.out.trans (hp.trans hq))⟩
      have hun := undone hc
      have hbl := backD_len (.node l ks) ⟨k, p, a, m, s⟩
      have hyes := doD_is hc
      have hls := lab_small hun.2
      obtain ⟨r, hr⟩ : ∃ r, r = (doneT ⟨k, p, a, m, s⟩ p (.node l ks)).1 := ⟨_, rfl⟩
      obtain ⟨bk, hbk⟩ : ∃ b, b = backD (.node l ks) ⟨k, p, a, m, s⟩ := ⟨_, rfl⟩
      rw [hyes] at hun
      simp only at hyes hun
      rw [← hr, ← hbk] at hun
      rw [← hr, ← hbk] at hyes
      rw [← hbk] at hbl hls
      obtain ⟨l2, ks2⟩ := r
      obtain ⟨k2, p2, a2, m2, s2⟩ := bk
      simp only at hbl hls
      have D1 := Lib.hid (fun hWp => deedDo_is l ks oa cap k p a m s pa pc w2 hl (HK.out.pr hWp) hs (Flat.pr hWp HP.out) (by omega) l2 ks2 k2 p2 a2 m2 s2 0 hyes)
      have D1 := Lib.hid (D1.out hWp)
      have hu1 := hun.1
      have hu2 := hun.2
      have Hu1 := Lib.hid hu1
      have Hu2 := Lib.hid hu2
      clear hun hyes hc hu1 hu2 hr hbk
      go_upto_region 8 with (first
        | (go_at_call 25; (with_reducible refine Calls.mono D1.out ?_); rintro e w3 ⟨⟨⟨o3, c3, bp, bc, rfl, hk3, hi3⟩, hl3⟩, hb⟩))
      obtain ⟨V, hV⟩ : ∃ V, V = (w3.alloc (.cells #[.string l2, .slice o3 ks2.length c3] 24)).alloc (.cells #[.int .i64 k2, .slice bp p2.length bc, .int .i64 a2, .int .i64 m2, .string s2] 40) := ⟨_, rfl⟩
      have hpV : Pr w3 V := by rw [hV]; exact (Pr.alloc _ _).alloc' _
      have e0 := stays (show V.cell? ⟨w3.heap.size, 0, none⟩ = some (.string l2) by rw [hV]; simp [go_sem])
      have e2 := stays (show V.cell? ⟨w3.heap.size, 1, none⟩ = some (.slice o3 ks2.length c3) by rw [hV]; simp [go_sem])
      have f0 := stays (show V.cell? ⟨w3.heap.size + 1, 0, none⟩ = some (.int .i64 k2) by rw [hV]; simp [go_sem])
      have f1 := stays (show V.cell? ⟨w3.heap.size + 1, 1, none⟩ = some (.slice bp p2.length bc) by rw [hV]; simp [go_sem])
      have f2 := stays (show V.cell? ⟨w3.heap.size + 1, 2, none⟩ = some (.int .i64 a2) by rw [hV]; simp [go_sem])
      have f3 := stays (show V.cell? ⟨w3.heap.size + 1, 3, none⟩ = some (.int .i64 m2) by rw [hV]; simp [go_sem])
      have f4 := stays (show V.cell? ⟨w3.heap.size + 1, 4, none⟩ = some (.string s2) by rw [hV]; simp [go_sem])
      have hk3 := hk3.pr hpV
      have hi3 := Flat.pr hpV hi3
      have hwV := hp.trans (hb.trans hpV)
      rw [← hV]
      have g0 := e0 _ (Pr.refl _); have g1 := e2 _ (Pr.refl _); have g2 := f0 _ (Pr.refl _); have g3 := f1 _ (Pr.refl _); have g4 := f2 _ (Pr.refl _); have g5 := f3 _ (Pr.refl _); have g6 := f4 _ (Pr.refl _)
      have D2 := Lib.hid (deedDo_is l2 ks2 o3 c3 k2 p2 a2 m2 s2 bp bc V hl3 hk3 hls hi3 (by omega) l ks k p a m s 0 Hu1.out)
      have C8 : Hid (∀ W', Pr V W' → Calls Try.prog 27 #[.agg #[.int .i64 k2, .slice bp p2.length bc, .int .i64 a2, .int .i64 m2, .string s2]] W' fun e w' => e = .returned (.int .i64 0) ∧ Pr W' w') := Lib.hid fun W' h => by
        have := dcheck_any k2 p2 a2 m2 s2 bp bc W' hls (Flat.pr h hi3); rw [Hu2.out] at this; exact this
      have HwV := Lib.hid hwV
      clear hV hk3 hi3 hb hpV hwV x0 x1 x2 x3 x4 x5 x6
      go_upto_region 9 with (first
        | (go_at_call 25; (with_reducible refine Calls.mono D2.out ?_); rintro e w4 ⟨⟨⟨o4, c4, bp4, bc4, rfl, hk4, hi4⟩, hl4⟩, hb4⟩))
      obtain ⟨U, hU⟩ : ∃ U, U = (w4.alloc (.cells #[.string l, .slice o4 ks.length c4] 24)).alloc (.cells #[.int .i64 k, .slice bp4 p.length bc4, .int .i64 a, .int .i64 m, .string s] 40) := ⟨_, rfl⟩
      have hpU : Pr w4 U := by rw [hU]; exact (Pr.alloc _ _).alloc' _
      have i0 := stays (show U.cell? ⟨w4.heap.size, 0, none⟩ = some (.string l) by rw [hU]; simp [go_sem])
      have i1 := stays (show U.cell? ⟨w4.heap.size, 1, none⟩ = some (.slice o4 ks.length c4) by rw [hU]; simp [go_sem])
      have j0 := stays (show U.cell? ⟨w4.heap.size + 1, 0, none⟩ = some (.int .i64 k) by rw [hU]; simp [go_sem])
      have j1 := stays (show U.cell? ⟨w4.heap.size + 1, 1, none⟩ = some (.slice bp4 p.length bc4) by rw [hU]; simp [go_sem])
      have j2 := stays (show U.cell? ⟨w4.heap.size + 1, 2, none⟩ = some (.int .i64 a) by rw [hU]; simp [go_sem])
      have j3 := stays (show U.cell? ⟨w4.heap.size + 1, 3, none⟩ = some (.int .i64 m) by rw [hU]; simp [go_sem])
      have j4 := stays (show U.cell? ⟨w4.heap.size + 1, 4, none⟩ = some (.string s) by rw [hU]; simp [go_sem])
      have hk4 := hk4.pr hpU
      have hi4 := Flat.pr hpU hi4
      have hVU := hb4.trans hpU
      rw [← hU]
      have S1 : Hid (∀ W', Pr U W' → Calls Try.prog 22 #[.agg #[.string l, .slice o4 ks.length c4], .agg #[.string l, .slice oa ks.length cap]] W' fun e w' => e = .returned (.bool true) ∧ Pr W' w') := Lib.hid fun W' h => by
        have := sameTree_any l l ks ks o4 c4 oa cap W' (hk4.pr h) (HK.out.pr (Hc.out.trans (HwV.out.trans (hVU.trans h)))); rw [Tr.beq_self] at this; exact this
      have S2 : Hid (∀ W', Pr U W' → Calls Try.prog 26 #[.agg #[.int .i64 k, .slice bp4 p.length bc4, .int .i64 a, .int .i64 m, .string s], .agg #[.int .i64 k, .slice pa p.length pc, .int .i64 a, .int .i64 m, .string s]] W' fun e w' => e = .returned (.bool true) ∧ Pr W' w') := Lib.hid fun W' h => by
        have := rsameDeed_any k p a m s bp4 bc4 k p a m s pa pc W' (Flat.pr h hi4) (Flat.pr (Hc.out.trans (HwV.out.trans (hVU.trans h))) HP.out); rw [decide_eq_true rfl] at this; exact this
      have y0 := stays (y0 _ (HwV.out.trans hVU)); have y1 := stays (y1 _ (HwV.out.trans hVU)); have y2 := stays (y2 _ (HwV.out.trans hVU)); have y3 := stays (y3 _ (HwV.out.trans hVU)); have y4 := stays (y4 _ (HwV.out.trans hVU)); have y5 := stays (y5 _ (HwV.out.trans hVU)); have y6 := stays (y6 _ (HwV.out.trans hVU))
      have f0 := stays (f0 _ hVU); have f1 := stays (f1 _ hVU); have f2 := stays (f2 _ hVU); have f3 := stays (f3 _ hVU); have f4 := stays (f4 _ hVU)
      have q0 := i0 _ (Pr.refl _); have q1 := i1 _ (Pr.refl _); have q2 := y0 _ (Pr.refl _); have q3 := y1 _ (Pr.refl _)
      have HVU := Lib.hid hVU
      have hq := Pr.refl U
      clear hU hk4 hi4 hb4 hpU hVU g0 g1 g2 g3 g4 g5 g6
      go_wp2_with (first
        | (go_at_call 22; (with_reducible refine Calls.mono (S1.out _ hq) ?_); rintro e w5 ⟨rfl, hb⟩; have hq := hq.trans hb; have t0 := j0 _ hq; have t1 := j1 _ hq; have t2 := j2 _ hq; have t3 := j3 _ hq; have t4 := j4 _ hq; have v2 := y2 _ hq; have v3 := y3 _ hq; have v4 := y4 _ hq; have v5 := y5 _ hq; have v6 := y6 _ hq)
        | (go_at_call 26; (with_reducible refine Calls.mono (S2.out _ hq) ?_); rintro e w6 ⟨rfl, hb⟩; have hq := hq.trans hb; have f0 := f0 _ hq; have f1 := f1 _ hq; have f2 := f2 _ hq; have f3 := f3 _ hq; have f4 := f4 _ hq)
        | (go_at_call 27; (with_reducible refine Calls.mono (C8.out _ (HVU.out.trans hq)) ?_); rintro e w7 ⟨rfl, hb⟩; have hq := hq.trans hb))
      go_ret
      exact ⟨rfl, HW.out.trans (Hc.out.trans (HwV.out.trans (HVU.out.trans hq)))⟩
end Go.Proofs.Ytdbnfhpgmcjngab
