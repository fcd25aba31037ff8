/- The law DeedOne: its walk. -/
import Derived.Test.YtdbnfhpgmcjngabEl
import Derived.Test.YtdbnfhpgmcjngabDq
import Derived.Test.YtdbnfhpgmcjngabWn
import Derived.Outline
namespace Go.Proofs.Ytdbnfhpgmcjngab
open Go Go.RowKit

/-- The document's nodes of a tree, as they lie. -/
theorem nodesOf_lie (l : ByteArray) (ks : List Tr) (oa cap) (w : World) (h : Tr.szL ks ≤ 100000) (hk : Kids Any w ks oa cap) :
    Calls Try.prog 30 #[.agg #[.string l, .slice oa ks.length cap], .slice none 0 0] w fun e w' => (∃ g c, e = .returned (.slice (some ⟨g, 0, none⟩) (nds (.node l ks)).length c) ∧
      ∀ i, i < (nds (.node l ks)).length → w'.cell? ⟨g, i * 3, none⟩ = some (.string (labAt (nds (.node l ks)) i))) ∧ Pr w w' := by
  refine (nodesOf_nil l ks oa cap w h hk).mono ?_
  rintro e w' ⟨g, c, rfl, ho, hb⟩
  obtain ⟨o1, cp, hv, hn⟩ := ho.nds
  simp only [Value.slice.injEq] at hv
  obtain ⟨rfl, hz, rfl⟩ := hv
  refine ⟨⟨g, c, by rw [hz], fun i hi => ?_⟩, hb⟩
  obtain ⟨_, b, o, h1, h2⟩ := hn
  have hne : nds (.node l ks) ≠ [] := by intro e; rw [e] at hi; simp at hi
  have he := (h1 hne).1
  cases he
  have := (h2 i hi).1
  rw [labAt_get _ i hi]
  simpa using this
/-- What a test tells: on, and both have a node there; or enough have been gone through. -/
def Stops (n m F k : Nat) (v : Value) : Prop := ∃ b : Bool, v = .bool b ∧ (b = true → k < n ∧ k < m) ∧ (b = false → F ≤ k)
/-- .. or at most one is left of each. -/
def Stops2 (n m k : Nat) (v : Value) : Prop := ∃ b : Bool, v = .bool b ∧ (b = true → k < n ∧ k < m) ∧ (b = false → n ≤ k + 1 ∧ m ≤ k + 1)
set_option maxRecDepth 100000 in
set_option maxHeartbeats 6400000 in
theorem deedOne_walk (l : ByteArray) (ks : List Tr) (oa cap) (d : Dee) (pa pc) (w : World) (hl : l.size ≤ maxLen) (hk : Kids Any w ks oa cap) (hp : Ints Any w d.path pa pc) (hs : d.lab.size ≤ maxLen) :
    Calls Try.prog 7 #[.agg #[.string l, .slice oa ks.length cap], .agg #[.int .i64 d.kind, .slice pa d.path.length pc, .int .i64 d.pos, .int .i64 d.many, .string d.lab]] w fun e w' => e = .returned (.bool true) ∧ Pr w w' := by
  obtain ⟨k, p, a, m, s⟩ := d
  simp only at hp hs ⊢
  obtain ⟨W, hW⟩ : ∃ W, W = (w.alloc (.cells #[.string l, .slice oa ks.length cap] 24)).alloc (.cells #[.int .i64 k, .slice pa p.length pc, .int .i64 a, .int .i64 m, .string s] 40) := ⟨_, rfl⟩
  have hwW : Pr w W := by rw [hW]; exact (Pr.alloc _ _).alloc' _
  have s0 := stays (show W.cell? ⟨w.heap.size, 0, none⟩ = some (.string l) by rw [hW]; simp [go_sem])
  have s1 := stays (show W.cell? ⟨w.heap.size, 1, none⟩ = some (.slice oa ks.length cap) by rw [hW]; simp [go_sem])
  have d0 := stays (show W.cell? ⟨w.heap.size + 1, 0, none⟩ = some (.int .i64 k) by rw [hW]; simp [go_sem])
  have d1 := stays (show W.cell? ⟨w.heap.size + 1, 1, none⟩ = some (.slice pa p.length pc) by rw [hW]; simp [go_sem])
  have d2 := stays (show W.cell? ⟨w.heap.size + 1, 2, none⟩ = some (.int .i64 a) by rw [hW]; simp [go_sem])
  have d3 := stays (show W.cell? ⟨w.heap.size + 1, 3, none⟩ = some (.int .i64 m) by rw [hW]; simp [go_sem])
  have d4 := stays (show W.cell? ⟨w.heap.size + 1, 4, none⟩ = some (.string s) by rw [hW]; simp [go_sem])
  have hk := hk.pr hwW
  have hp := Flat.pr hwW hp
  obtain ⟨ga, hga⟩ : ∃ b, b = great (.node l ks) := ⟨_, rfl⟩
  obtain ⟨gb, hgb⟩ : ∃ b, b = greatD p s := ⟨_, rfl⟩
  have G1 : Hid (∀ W', Pr W W' → Calls Try.prog 15 #[.agg #[.string l, .slice oa ks.length cap]] W' fun e w' => e = .returned (.bool ga) ∧ Pr W' w') := Lib.hid fun W' h => by rw [hga]; exact great_any l ks _ _ _ (hk.pr h)
  have G2 : Hid (∀ W', Pr W W' → Calls Try.prog 24 #[.agg #[.int .i64 k, .slice pa p.length pc, .int .i64 a, .int .i64 m, .string s]] W' fun e w' => e = .returned (.bool gb) ∧ Pr W' w') := Lib.hid fun W' h => by rw [hgb]; exact greatDeed_any k p a m s pa pc W' (Flat.pr h hp)
  have HG := Lib.hid hgb
  have HK := Lib.hid hk; have HP := Lib.hid hp; have HW := Lib.hid hwW
  clear hga hgb hk hp hwW
  go_enter Try.func7, Try.ntmps7
  go_upto_region 1 with fail
  rw [← hW]; clear hW
  go_upto_region 3 with (first
    | (go_at_call 23; refine (deedBegun_any _).mono ?_; rintro e w1 ⟨rfl, hc⟩))
  have z0 := s0 _ hc; have z1 := s1 _ hc
  have y0 := stays (s0 _ hc); have y1 := stays (s1 _ hc); have y2 := stays (d0 _ hc); have y3 := stays (d1 _ hc); have y4 := stays (d2 _ hc); have y5 := stays (d3 _ hc); have y6 := stays (d4 _ hc)
  have Hc := Lib.hid hc
  clear s0 s1 d0 d1 d2 d3 d4 hc
  go_cut [22] from 17 to 21 (fun v wx => v = .bool (ga || gb) ∧ Pr w1 wx)
  case first =>
    have hp := Pr.refl w1
    cases ga <;> cases gb
    all_goals
      go_wp2_with (first
        | (go_at_call 15; (with_reducible refine Calls.mono (G1.out _ (Hc.out.trans hp)) ?_); rintro e w2 ⟨rfl, hb⟩; have hp := hp.trans hb; have x2 := y2 _ hp; have x3 := y3 _ hp; have x4 := y4 _ hp; have x5 := y5 _ hp; have x6 := y6 _ hp)
        | (go_at_call 24; (with_reducible refine Calls.mono (G2.out _ (Hc.out.trans hp)) ?_); rintro e w3 ⟨rfl, hb⟩; have hp := hp.trans hb))
      go_meet
      case rel => exact ⟨rfl, hp⟩
  case rest =>
    obtain ⟨rfl, hp⟩ := hcut
    cases hbad : (ga || gb)
    case true =>
      go_wp2_with fail
      go_ret
      exact ⟨rfl, HW.out.trans (Hc.out.trans hp)⟩
    case false =>
      have hlen : p.length ≤ 60 := greatD_false (by rw [← HG.out]; revert hbad; cases ga <;> cases gb <;> simp)
      obtain ⟨w2, hw2⟩ : ∃ w2, w2 = wc := ⟨_, rfl⟩
      subst hw2
      have x0 := y0 _ hp; have x1 := y1 _ hp; have x2 := y2 _ hp; have x3 := y3 _ hp; have x4 := y4 _ hp; have x5 := y5 _ hp; have x6 := y6 _ hp
      have hWp := Hc.out.trans hp
      by_cases hc : (doD (.node l ks) ⟨k, p, a, m, s⟩).2.2 = 0
      case neg =>
        have hno := doD_no hc
        generalize (doD (.node l ks) ⟨k, p, a, m, s⟩).2.2 = c at *
        have D1 := Lib.hid (deedDo_is l ks oa cap k p a m s pa pc w2 hl (HK.out.pr hWp) hs (Flat.pr hWp HP.out) (by omega) ⟨#[]⟩ [] 0 [] 0 0 ⟨#[]⟩ c hno)
        have e1 : ((c : Int) != 0) = true := by simp [bne_iff_ne]; omega
        clear hno hc
        go_wp2_with (first
          | (go_at_call 25; (with_reducible refine Calls.mono D1.out ?_); rintro e w3 ⟨⟨⟨o3, c3, bp, bc, rfl, hk3, hi3⟩, hl3⟩, hb⟩; have hp := hp.trans hb))
        go_ret
        exact ⟨rfl, HW.out.trans (Hc.out.trans ((hp.alloc' _).alloc' _))⟩
      have hyes := doD_is hc
      obtain ⟨ft, fd, f0, fr⟩ := doD_ok.1 hc
      obtain ⟨X, Y, hone, hX, hY, hk1, hk3, hk2⟩ := one_node fd f0
      have hkd := (dfault_zero.1 fd).1
      have hsz := hone.size
      have hts := (fault_zero.1 ft).1
      obtain ⟨F, B, q1, q2, q3, q4, q5⟩ := hone.front
      obtain ⟨r, hr⟩ : ∃ r, r = (doneT ⟨k, p, a, m, s⟩ p (.node l ks)).1 := ⟨_, rfl⟩
      obtain ⟨bk, hbk⟩ : ∃ b, b = backD (.node l ks) ⟨k, p, a, m, s⟩ := ⟨_, rfl⟩
      simp only at hyes fr hsz q3 q4 q5 hk1 hk3 hk2 hkd
      rw [← hr] at fr hsz q3 q4 q5
      rw [← hr, ← hbk] at hyes
      obtain ⟨l2, ks2⟩ := r
      obtain ⟨k2, p2, a2, m2, s2⟩ := bk
      have D1 := Lib.hid (deedDo_is l ks oa cap k p a m s pa pc w2 hl (HK.out.pr hWp) hs (Flat.pr hWp HP.out) (by omega) l2 ks2 k2 p2 a2 m2 s2 0 hyes)
      have hln1 := nds_length (.node l ks)
      have hln2 := nds_length (.node l2 ks2)
      rw [Tr.sz_node] at hln1 hln2 hts hsz q1 q2
      rw [Tr.sz_node] at hsz q3
      have N1 := Lib.hid (fun W' (h : Pr W W') => nodesOf_lie l ks oa cap W' (by omega) (HK.out.pr h))
      have Z1 := Lib.hid (fun W' (h : Pr W W') => size_any _ l ks oa cap W' (Nat.lt_succ_self _) (by omega) (HK.out.pr h))
      have hs1 : Tr.szL ks + 1 = (nds (.node l ks)).length := hln1.symm
      have hs2 : Tr.szL ks2 + 1 = (nds (.node l2 ks2)).length := hln2.symm
      rw [hs1] at Z1 hsz q1 q2 hts
      rw [hs2] at hsz q3
      have FR := Lib.hid fr
      have H4 := Lib.hid q4; have H5 := Lib.hid q5
      have hk20 : Tr.szL ks2 ≤ 1000 := by omega
      clear hyes ft fd f0 hone hln1 hln2 hr hbk fr q4 q5 hc hs1
      go_upto_region 6 with (first
        | (go_at_call 25; (with_reducible refine Calls.mono D1.out ?_); rintro e w3 ⟨⟨⟨o3, c3, bp, bc, rfl, hkr, hi3⟩, hl3⟩, hb⟩))
      obtain ⟨V, hV⟩ : ∃ V, V = (w3.alloc (.cells #[.string l2, .slice o3 ks2.length c3] 24)).alloc (.cells #[.int .i64 k2, .slice bp p2.length bc, .int .i64 a2, .int .i64 m2, .string s2] 40) := ⟨_, rfl⟩
      have hpV : Pr w3 V := by rw [hV]; exact (Pr.alloc _ _).alloc' _
      have e0 := stays (show V.cell? ⟨w3.heap.size, 0, none⟩ = some (.string l2) by rw [hV]; simp [go_sem])
      have e2 := stays (show V.cell? ⟨w3.heap.size, 1, none⟩ = some (.slice o3 ks2.length c3) by rw [hV]; simp [go_sem])
      have hkr := hkr.pr hpV
      have hwV := hp.trans (hb.trans hpV)
      rw [← hV]
      have y0 := stays (y0 _ hwV); have y1 := stays (y1 _ hwV); have y2 := stays (y2 _ hwV)
      have N1 := Lib.hid (fun W' (h : Pr V W') => N1.out W' (Hc.out.trans (hwV.trans h)))
      have Z1 := Lib.hid (fun W' (h : Pr V W') => Z1.out W' (Hc.out.trans (hwV.trans h)))
      have N2 := Lib.hid (fun W' (h : Pr V W') => nodesOf_lie l2 ks2 o3 c3 W' (by omega) (hkr.pr h))
      have Z2 := Lib.hid (fun W' (h : Pr V W') => size_any _ l2 ks2 o3 c3 W' (Nat.lt_succ_self _) (by omega) (hkr.pr h))
      have C2 := Lib.hid (fun W' (h : Pr V W') => check_any l2 ks2 o3 c3 W' hl3 (hkr.pr h))
      rw [hs2] at Z2
      rw [FR.out] at C2
      have HwV := Lib.hid hwV
      clear hV hkr hi3 hb hpV hwV x0 x1 x2 x3 x4 x5 x6 hs2 y3 y4 y5 y6
      generalize nds (.node l ks) = xs at *
      generalize nds (.node l2 ks2) = ys at *
      go_upto_region 8 with fail
      have hq := Pr.drew V
      go_region_held3 (fun W' => Pr V W') (exact hq)
        (first
          | (go_at_call 28; (with_reducible refine Calls.mono (Z1.out _ hq) ?_); rintro e w4 ⟨rfl, hb⟩; have hq := hq.trans hb)
          | (go_at_call 28; (with_reducible refine Calls.mono (Z2.out _ hq) ?_); rintro e w5 ⟨rfl, hb⟩; have hq := hq.trans hb))
      have hq2 : Pr V w5 := hq
      have HQ := Lib.hid hq2
      have z1 := y0 _ hq; have z2 := y1 _ hq; have z3 := y2 _ hq; have z4 := e0 _ hq; have z5 := e2 _ hq
      have hxl : xs.length ≤ 40 := by omega
      have hyl : ys.length ≤ 41 := by omega
      have hlen : xs.length + Y = ys.length + X := by omega
      have hXY : X ≤ 1 ∧ Y ≤ 1 := ⟨hX, hY⟩
      have hkc : (k = 1 ∧ xs.length = ys.length) ∨ (k = 2 ∧ xs.length = ys.length + 1) ∨ (k = 3 ∧ xs.length + 1 = ys.length) := by
        have : k = 1 ∨ k = 2 ∨ k = 3 := by omega
        rcases this with h | h | h
        · have := hk1 h; omega
        · have := hk2 h; omega
        · have := hk3 h; omega
      have Hlen := Lib.hid (And.intro hlen (And.intro hXY (And.intro q2 q3)))
      clear hlen hXY hk1 hk2 hk3 hX hY hsz q1 q2 q3 hts hkd hb hq hq2
      have u1 : IntKind.i64.wrap ((xs.length : Int) + 1) = (xs.length : Int) + 1 := IntWalk.i64_in _ (by omega)
      have u2 : IntKind.i64.wrap ((xs.length : Int) - 1) = (xs.length : Int) - 1 := IntWalk.i64_in _ (by omega)
      have hm : ∀ W', Pr V W' → Pr w W' := fun W' h => HW.out.trans (Hc.out.trans (HwV.out.trans h))
      have Hm := Lib.hid hm
      clear hm
      rcases hkc with ⟨rfl, hkl⟩ | ⟨rfl, hkl⟩ | ⟨rfl, hkl⟩
      all_goals
        first
          | (have e5 : ((ys.length : Int) != (xs.length : Int)) = false := by rw [hkl]; simp
             clear hkl)
          | (have e5 : ((ys.length : Int) != (xs.length : Int) - 1) = false := by
               have : (ys.length : Int) = (xs.length : Int) - 1 := by omega
               rw [this]; simp
             clear hkl)
          | (have e5 : ((ys.length : Int) != (xs.length : Int) + 1) = false := by
               have : (ys.length : Int) = (xs.length : Int) + 1 := by omega
               rw [this]; simp
             clear hkl)
        go_upto_region 16 with (first
          | (go_at_call 29; (with_reducible refine Calls.mono (C2.out _ HQ.out) ?_); rintro e w6 ⟨rfl, hb⟩))
        have hq := HQ.out.trans hb
        have hqd := hq.drew'
        clear hb e5 u1 u2
        go_region_held3 (fun W' => Pr V W') (first | with_reducible exact hqd | with_reducible exact hqe | with_reducible exact hqf)
          (first
            | (go_at_call 30; (with_reducible refine Calls.mono (N1.out _ hqd) ?_); rintro e w7 ⟨⟨g1, c1, rfl, hn1⟩, hb⟩; have hqe := hqd.trans hb)
            | (go_at_call 30; (with_reducible refine Calls.mono (N2.out _ hqe) ?_); rintro e w8 ⟨⟨g2, c2, rfl, hn2⟩, hb⟩; have hqf := hqe.trans hb; have hn1 := fun i hi => hb.cell (hn1 i hi)))
        have H1 := Lib.hid (fun W' (h : Pr w8 W') i hi => h.cell (hn1 i hi))
        have H2 := Lib.hid (fun W' (h : Pr w8 W') i hi => h.cell (hn2 i hi))
        have HQ := Lib.hid hqf
        obtain ⟨hb1, ⟨hX, hY⟩, hb2, hb3⟩ := Hlen.out
        clear hn1 hn2 hqd hqe hqf hq hb z1 z2 z3 z4 z5 Hlen
        go_wp2_with fail
        go_loopw [13] (fun v wr => ∃ k : Nat, k ≤ xs.length ∧ k ≤ ys.length ∧ v = .int .i64 k ∧ Pr w8 wr) (fun v _ => xs.length - (intOf v).toNat)
        case atStart => exact ⟨0, by omega, by omega, rfl, Pr.refl _⟩
        case round =>
          obtain ⟨k, hkx, hky, rfl, hr⟩ := hrel
          obtain ⟨wk, hwk⟩ : ∃ wk, wk = wr := ⟨_, rfl⟩
          subst hwk
          go_upto_region 18 with fail
          go_cut [81] from 59 to 80 (fun v wx => Stops xs.length ys.length F k v ∧ Pr w8 wx)
          case first =>
            by_cases hx : k < xs.length
            · by_cases hy : k < ys.length
              · have c1 := H1.out _ hr k hx
                have c2 := H2.out _ hr k hy
                have hst := H4.out k hx hy
                obtain ⟨bl, hbl⟩ : ∃ bl : Bool, bl = ((labAt xs k).toList == (labAt ys k).toList) := ⟨_, rfl⟩
                have hst2 : bl = false → F ≤ k := fun e => hst (fun e2 => by rw [e2] at hbl; simp at hbl; rw [hbl] at e; cases e)
                have Hst := Lib.hid hst2
                have hbl' := hbl.symm
                have e0 : (0 : Int) ≤ (k : Int) := by omega
                have e1 : (k : Int) < xs.length := by omega
                have e2 : (k : Int) < ys.length := by omega
                clear hst hst2 hbl
                cases bl
                case false =>
                  have HF := Lib.hid (Hst.out rfl)
                  clear Hst
                  go_quiet (fail)
                  go_wp2_with fail
                  go_meet
                  case rel => exact ⟨⟨_, rfl, fun _ => ⟨hx, hy⟩, fun _ => HF.out⟩, hr.drewN' _⟩
                case true =>
                  clear Hst
                  go_quiet (fail)
                  go_wp2_with fail
                  go_meet
                  case rel => exact ⟨⟨_, rfl, fun _ => ⟨hx, hy⟩, fun h => (by cases h)⟩, hr.drewN' _⟩
              · have e3 : decide ((k : Int) < ys.length) = false := by simp; omega
                have e4 : decide (k < ys.length) = false := by simp; omega
                go_quiet (fail)
                go_wp2_with fail
                go_meet
                case rel => exact ⟨⟨_, rfl, fun h => (by cases h), fun _ => by omega⟩, hr.drewN' _⟩
            · have e3 : decide ((k : Int) < xs.length) = false := by simp; omega
              have e4 : decide (k < xs.length) = false := by simp; omega
              go_quiet (fail)
              go_wp2_with fail
              go_meet
              case rel => exact ⟨⟨_, rfl, fun h => (by cases h), fun _ => by omega⟩, hr.drewN' _⟩
          case rest =>
            obtain ⟨⟨bl, rfl, hs1, hs2⟩, hr2⟩ := hcut
            cases bl
            case true =>
              obtain ⟨hx, hy⟩ := hs1 rfl
              go_wp2_with fail
              refine ⟨⟨k + 1, by omega, by omega, by go_num, hr2⟩, ?_⟩
              simp [intOf]; omega
            case false =>
              have hF := hs2 rfl
              clear hs1 hs2 hr
              go_wp2_with fail
              go_loopw [14] (fun v wr => ∃ j : Nat, k + j ≤ xs.length ∧ k + j ≤ ys.length ∧ v = .int .i64 j ∧ Pr w8 wr) (fun v _ => xs.length - (intOf v).toNat)
              case atStart => exact ⟨0, by omega, by omega, rfl, hr2⟩
              case round =>
                obtain ⟨j, hjx, hjy, rfl, hr⟩ := hrel
                obtain ⟨wj, hwj⟩ : ∃ wj, wj = wr := ⟨_, rfl⟩
                subst hwj
                go_upto_region 21 with fail
                go_cut [118] from 84 to 117 (fun v wx => Stops2 xs.length ys.length (k + j) v ∧ Pr w8 wx)
                case first =>
                  have s1 : (xs.length : Int) - (k : Int) = ((xs.length - k : Nat) : Int) := by omega
                  have s2 : (ys.length : Int) - (k : Int) = ((ys.length - k : Nat) : Int) := by omega
                  by_cases hx : k + j < xs.length
                  · by_cases hy : k + j < ys.length
                    · obtain ⟨p, hp⟩ : ∃ p, p = xs.length - 1 - j := ⟨_, rfl⟩
                      obtain ⟨q, hq⟩ : ∃ q, q = ys.length - 1 - j := ⟨_, rfl⟩
                      have c1 := H1.out _ hr p (by omega)
                      have c2 := H2.out _ hr q (by omega)
                      have hst := H5.out j (by omega) (by omega)
                      rw [← hp, ← hq] at hst
                      have g1 : IntKind.i64.wrap ((xs.length : Int) - 1) = (xs.length : Int) - 1 := IntWalk.i64_in _ (by omega)
                      have g2 : IntKind.i64.wrap ((ys.length : Int) - 1) = (ys.length : Int) - 1 := IntWalk.i64_in _ (by omega)
                      have g3 : (xs.length : Int) - 1 - (j : Int) = (p : Int) := by omega
                      have g4 : (ys.length : Int) - 1 - (j : Int) = (q : Int) := by omega
                      have e0 : (0 : Int) ≤ (p : Int) := by omega
                      have e1 : (p : Int) < xs.length := by omega
                      have e2 : (0 : Int) ≤ (q : Int) := by omega
                      have e3 : (q : Int) < ys.length := by omega
                      have g5 : IntKind.i64.wrap (p : Int) = (p : Int) := IntWalk.i64_in _ (by omega)
                      have g6 : IntKind.i64.wrap (q : Int) = (q : Int) := IntWalk.i64_in _ (by omega)
                      have d1 : decide (j < xs.length - k) = true := by simp; omega
                      have d2 : decide (j < ys.length - k) = true := by simp; omega
                      have d3 : decide ((j : Int) < ((xs.length - k : Nat) : Int)) = true := by simp; omega
                      have d4 : decide ((j : Int) < ((ys.length - k : Nat) : Int)) = true := by simp; omega
                      obtain ⟨bl, hbl⟩ : ∃ bl : Bool, bl = ((labAt xs p).toList == (labAt ys q).toList) := ⟨_, rfl⟩
                      have hst2 : bl = false → B ≤ j := fun e => hst (fun e2 => by rw [e2] at hbl; simp at hbl; rw [hbl] at e; cases e)
                      have Hst := Lib.hid hst2
                      have hbl' := hbl.symm
                      clear hst hst2 hbl hp hq
                      cases bl
                      case false =>
                        have HF := Lib.hid (Hst.out rfl)
                        clear Hst
                        go_quiet (fail)
                        go_wp2_with fail
                        go_meet
                        case rel => exact ⟨⟨_, rfl, fun _ => ⟨hx, hy⟩, fun _ => by have := HF.out; omega⟩, hr.drewN' _⟩
                      case true =>
                        clear Hst
                        go_quiet (fail)
                        go_wp2_with fail
                        go_meet
                        case rel => exact ⟨⟨_, rfl, fun _ => ⟨hx, hy⟩, fun h => (by cases h)⟩, hr.drewN' _⟩
                    · have d1 : decide (j < xs.length - k) = true := by simp; omega
                      have d2 : decide (j < ys.length - k) = false := by simp; omega
                      have d3 : decide ((j : Int) < ((xs.length - k : Nat) : Int)) = true := by simp; omega
                      have d4 : decide ((j : Int) < ((ys.length - k : Nat) : Int)) = false := by simp; omega
                      go_quiet (fail)
                      go_wp2_with fail
                      go_meet
                      case rel => exact ⟨⟨_, rfl, fun h => (by cases h), fun _ => by omega⟩, hr.drewN' _⟩
                  · have d2 : decide (j < xs.length - k) = false := by simp; omega
                    have d4 : decide ((j : Int) < ((xs.length - k : Nat) : Int)) = false := by simp; omega
                    go_quiet (fail)
                    go_wp2_with fail
                    go_meet
                    case rel => exact ⟨⟨_, rfl, fun h => (by cases h), fun _ => by omega⟩, hr.drewN' _⟩
                case rest =>
                  obtain ⟨⟨bl, rfl, hs1, hs2⟩, hr2⟩ := hcut
                  cases bl
                  case true =>
                    obtain ⟨hx, hy⟩ := hs1 rfl
                    go_wp2_with fail
                    refine ⟨⟨j + 1, by omega, by omega, by go_num, hr2⟩, ?_⟩
                    simp [intOf]; omega
                  case false =>
                    have hB := hs2 rfl
                    have d1 : decide ((xs.length : Int) - (k : Int) - (j : Int) ≤ 1) = true := by simp; omega
                    have d2 : decide ((ys.length : Int) - (k : Int) - (j : Int) ≤ 1) = true := by simp; omega
                    clear hs1 hs2 hr
                    go_wp2_with fail
                    go_ret
                    exact ⟨rfl, Hm.out _ (HQ.out.trans hr2)⟩
end Go.Proofs.Ytdbnfhpgmcjngab
