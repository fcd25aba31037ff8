/- The law OrderStands: its walk. -/
import Derived.Test.YtdbnfhpgmcjngaaOc
import Derived.Test.YtdbnfhpgmcjngaaNs
import Derived.Test.YtdbnfhpgmcjngaaTv
namespace Go.Proofs.Ytdbnfhpgmcjngaa
open Go Go.RowKit

mutual
theorem named_short : ∀ (t : Tr), t.named = true → t.longB = false
  | .node l ks, h => by
    simp only [Tr.named, Bool.and_eq_true] at h
    have := isLab_size h.1
    rw [Tr.longB, namedL_short ks h.2]
    simp; omega
theorem namedL_short : ∀ (ks : List Tr), Tr.namedL ks = true → Tr.longBL ks = false
  | [], _ => rfl
  | k :: ks, h => by
    simp only [Tr.namedL, Bool.and_eq_true] at h
    rw [Tr.longBL, named_short k h.1, namedL_short ks h.2]; rfl
end
theorem great_fault {t : Tr} (h : fault t = 0) : great t = false := by
  have h1 := fault_zero.1 h
  unfold great
  rw [named_short t h1.2.2]
  simp; omega
theorem Nds.at' {S : Nat → Prop} {w : World} {xs : List Nd} {oa : Option Addr} {cap : Nat} (h : Nds S w xs oa cap) (hne : 0 < xs.length) : ∃ b o, oa = some ⟨b, o, none⟩ ∧
    ∀ (i : Nat) (h : i < xs.length), w.cell? ⟨b, o + i * 3, none⟩ = some (.string xs[i].lab) ∧ w.cell? ⟨b, o + i * 3 + 1, none⟩ = some (.int .i64 xs[i].par) ∧ w.cell? ⟨b, o + i * 3 + 2, none⟩ = some (.int .i64 xs[i].left) := by
  obtain ⟨_, b, o, h1, h2⟩ := h
  exact ⟨b, o, (h1 (by intro e; subst e; simp at hne)).1, h2⟩

theorem meas_up {S J : Nat} {pj : Int} (h : pj < 0 ∨ (J : Int) < pj) (h2 : pj < S + 1) (hJ : (J : Int) < S + 1) : (if pj < 0 then 0 else ((S : Int) + 1 - pj).toNat) < if (J : Int) < 0 then 0 else ((S : Int) + 1 - J).toNat := by
  rw [if_neg (by omega : ¬ (J : Int) < 0)]
  by_cases hq : pj < 0
  · rw [if_pos hq]; omega
  · rw [if_neg hq]; omega

theorem Pr.allocSet {a w : World} (h : Pr a w) (o : Obj) (j : Nat) (v : Value) : Pr a ((w.alloc o).setCell ⟨w.heap.size, j, none⟩ v) := (h.alloc' o).setCell h.size v

set_option maxRecDepth 100000 in
set_option maxHeartbeats 3200000 in
theorem orderStands_walk (l : ByteArray) (ks : List Tr) (oa cap) (n : Int) (w : World)
    (hl : l.size ≤ maxLen) (hk : Kids Any w ks oa cap) (hn : (Lit.int .i64 n).wf = true) :
    Calls Try.prog 7 #[.agg #[.string l, .slice oa ks.length cap], .int .i64 n] w fun e w' => e = .returned (.bool true) ∧ Pr w w' := by
  obtain ⟨W, hW⟩ : ∃ W, W = (w.alloc (.cells #[.string l, .slice oa ks.length cap] 24)) := ⟨_, rfl⟩
  have hwW : Pr w W := by rw [hW]; exact Pr.alloc _ _
  have c0 : W.cell? ⟨w.heap.size, 0, none⟩ = some (.string l) := by rw [hW]; simp [go_sem]
  have c1 : W.cell? ⟨w.heap.size, 1, none⟩ = some (.slice oa ks.length cap) := by rw [hW]; simp [go_sem]
  have s0 := stays c0; have s1 := stays c1
  have hk' := hk.pr hwW
  clear c0 c1 hk
  obtain ⟨ru1, ru2, ru3⟩ := Pr.rules W
  by_cases hf : fault (.node l ks) = 0
  case neg =>
    have hnz : ((fault (.node l ks) : Int) != 0) = true := by simp [bne_iff_ne]; omega
    have C2 := Lib.hid (fun (W' : World) (h : Pr W W') => orderOf_no l ks oa cap W' hl (hk'.pr h) hf)
    clear hf
    cases hg : great (.node l ks)
    all_goals
      have Hg1 := Lib.hid hg
      clear hg
      go_enter Try.func7, Try.ntmps7
      go_wp2_with fail
      rw [← hW]; clear hW
      go_wp2_with (first
        | (go_at_call 28; refine (orderBegun_any _).mono ?_; rintro e w' ⟨rfl, hc⟩)
        | (go_at_call 31; (with_reducible refine Calls.mono (C2.out _ hc) ?_); rintro e wD ⟨rfl, hb⟩; have hc := hc.trans hb)
        | (go_at_call 15; (with_reducible refine Calls.mono (great_any l ks _ _ _ (hk'.pr hc)) ?_); rintro e w' ⟨rfl, hb⟩; simp only [Hg1.out]; have hc := hc.trans hb))
      go_ret
      exact ⟨rfl, hwW.trans hc⟩
  have Hg1 := Lib.hid (great_fault hf)
  have hz := (fault_zero.1 hf).1
  simp only [Tr.sz_node] at hz
  have C2 := Lib.hid (fun (W' : World) (h : Pr W W') => orderOf_yes l ks oa cap W' hl (hk'.pr h) hf)
  by_cases hin : 0 ≤ n ∧ n < (Tr.szL ks + 1 : Nat)
  case neg =>
    have hor : n < 0 ∨ (¬ n < 0 ∧ (Tr.szL ks : Int) + 1 ≤ n) := by omega
    clear hin
    rcases hor with h0 | ⟨h0, h1⟩
    all_goals
      clear hf
      go_enter Try.func7, Try.ntmps7
      go_wp2_with fail
      rw [← hW]; clear hW
      go_wp2_with (first
        | (go_at_call 28; refine (orderBegun_any _).mono ?_; rintro e w' ⟨rfl, hc⟩)
        | (go_at_call 31; (with_reducible refine Calls.mono (C2.out _ hc) ?_); rintro e wD ⟨g, c, rfl, hn1, hb⟩; have hc := hc.trans hb)
        | (go_at_call 15; (with_reducible refine Calls.mono (great_any l ks _ _ _ (hk'.pr hc)) ?_); rintro e w' ⟨rfl, hb⟩; simp only [Hg1.out]; have hc := hc.trans hb))
      go_ret
      exact ⟨rfl, hwW.trans hc⟩
  obtain ⟨N, rfl⟩ : ∃ N : Nat, n = N := ⟨n.toNat, by omega⟩
  have hN : (N : Int) < (Tr.szL ks : Int) + 1 := by omega
  have hN0 : (0 : Int) ≤ N := by omega
  have C3 := Lib.hid (fun (W' : World) (h : Pr W W') => nodesOf_yes l ks oa cap W' (by omega) (hk'.pr h))
  have C4 : Hid (∀ (W' : World) o1 c1 o2 c2, Nds Any W' (nds (.node l ks)) o1 c1 → Nds Any W' (nds (.node l ks)) o2 c2 → Calls Try.prog 32 #[.slice o1 (Tr.szL ks + 1) c1, .slice o2 (Tr.szL ks + 1) c2] W' fun e w' => e = .returned (.bool true) ∧ Pr W' w') := fun W' o1 c1 o2 c2 h1 h2 => by
    have := sameNds_yes (.node l ks) _ _ _ _ W' h1 h2; rw [Tr.sz_node] at this; exact this
  clear hin hn
  have Hf := Lib.hid hf
  clear hf
  go_enter Try.func7, Try.ntmps7
  go_wp2_with fail
  rw [← hW]; clear hW
  go_wp2_with (first
    | (go_at_call 28; refine (orderBegun_any _).mono ?_; rintro e w' ⟨rfl, hc⟩)
    | (go_at_call 31; (with_reducible refine Calls.mono (C2.out _ hc) ?_); rintro e wD ⟨g, c, rfl, hn1, hb⟩; have hc := hc.trans hb)
    | (go_at_call 15; (with_reducible refine Calls.mono (great_any l ks _ _ _ (hk'.pr hc)) ?_); rintro e w' ⟨rfl, hb⟩; simp only [Hg1.out]; have hc := hc.trans hb; have hn1 := hn1.pr hb)
    | (go_at_call 33; (with_reducible refine Calls.mono (C3.out _ hc) ?_); rintro e wE ⟨g2, c2, rfl, hn2, hb⟩; have hc := hc.trans hb; have hn1 := hn1.pr hb)
    | (go_at_call 32; (with_reducible refine Calls.mono (C4.out _ _ _ _ _ hn1 hn2) ?_); rintro e wG ⟨rfl, hb⟩; have hc := hc.trans hb; have hn1 := hn1.pr hb; clear hn2))
  obtain ⟨bb, oo, hoa, hcell⟩ := hn1.at' (by rw [nds_length, Tr.sz_node]; omega)
  cases hoa
  simp only [Nat.zero_add] at hcell
  have hlen : (nds (.node l ks)).length = Tr.szL ks + 1 := by rw [nds_length, Tr.sz_node]
  have Hcell := Lib.hid hcell
  have Hlen := Lib.hid hlen
  have Hn1 := Lib.hid hn1
  have y0 := s0 _ hc; have y1 := s1 _ hc
  have Hc := Lib.hid hc
  clear hcell hlen hn1 hb s0 s1 ru1 ru2 ru3
  go_loop [7] (fun i => ∃ k : Nat, k ≤ Tr.szL ks + 1 ∧ i = .int .i64 k) (fun i => Tr.szL ks + 1 - (intOf i).toNat)
  case atStart => exact ⟨0, by omega, rfl⟩
  case round =>
    obtain ⟨k, hk1, rfl⟩ := hrel
    by_cases hlt : k < Tr.szL ks + 1
    · have hlt' : (k : Int) < (Tr.szL ks : Int) + 1 := by omega
      have hk0 : (0 : Int) ≤ k := by omega
      go_wp2_with fail
      go_loop [8, 9] (fun v8 v9 => ∃ (b : Bool) (j : Int), v8 = .bool b ∧ v9 = .int .i64 j ∧ -1 ≤ j ∧ j < Tr.szL ks + 1 ∧ (b || ben (nds (.node l ks)) N j) = ben (nds (.node l ks)) N k) (fun _ v9 => if intOf v9 < 0 then 0 else (Tr.szL ks + 1 - intOf v9).toNat)
      case atStart => exact ⟨false, k, rfl, rfl, by omega, by omega, by simp⟩
      case round =>
        obtain ⟨b, j, rfl, rfl, hj1, hj2, hbj⟩ := hrel
        have Hbj := Lib.hid hbj
        clear hbj
        by_cases hj0 : 0 ≤ j
        · obtain ⟨J, rfl⟩ : ∃ J : Nat, j = J := ⟨j.toNat, by omega⟩
          have hJ : J < (nds (.node l ks)).length := by rw [Hlen.out]; omega
          have hpar := nds_par (.node l ks) J hJ
          have hup := ben_up (.node l ks) N J (by rw [Hlen.out]; omega) hJ
          have hself := ben_self (nds (.node l ks)) N
          have d1 := (Hcell.out J hJ).2.1
          have hp2 : -1 ≤ (nds (.node l ks))[J].par ∧ (nds (.node l ks))[J].par < Tr.szL ks + 1 ∧ ((nds (.node l ks))[J].par < 0 ∨ (J : Int) < (nds (.node l ks))[J].par) := by
            rcases hpar with ⟨h1, _⟩ | ⟨m, hm, h1, h2, _⟩
            · rw [h1]; omega
            · rw [h2]; rw [Hlen.out] at hm; omega
          generalize (nds (.node l ks))[J].par = pj at *
          have Hup := Lib.hid hup
          have Hself := Lib.hid hself
          have Hp2 := Lib.hid hp2
          clear hpar hup hself hp2
          by_cases hJN : J = N
          · have hb1 : ((J : Int) == (N : Int)) = true := by simp [hJN]
            have HJN := Lib.hid hJN
            clear hJN
            cases b
            all_goals
              go_wp2_with fail
              have hp3 := Hp2.out
              refine ⟨⟨true, pj, rfl, rfl, by omega, by omega, ?_⟩, ?_⟩
              · have h1 := Hbj.out; rw [HJN.out, Hself.out] at h1; rw [← h1]; simp
              · simp only [intOf]; exact meas_up hp3.2.2 hp3.2.1 (by omega)
          · have hb1 : ((J : Int) == (N : Int)) = false := by simp; omega
            have HJN := Lib.hid hJN
            clear hJN
            cases b
            all_goals
              go_wp2_with fail
              have hp3 := Hp2.out
            · refine ⟨⟨false, pj, rfl, rfl, by omega, by omega, ?_⟩, ?_⟩
              · have h1 := Hbj.out; rw [Hup.out HJN.out] at h1; exact h1
              · simp only [intOf]; exact meas_up hp3.2.2 hp3.2.1 (by omega)
            · refine ⟨⟨true, pj, rfl, rfl, by omega, by omega, ?_⟩, ?_⟩
              · have h1 := Hbj.out; exact h1
              · simp only [intOf]; exact meas_up hp3.2.2 hp3.2.1 (by omega)
        · have hbe : b = ben (nds (.node l ks)) N k := by
            have h1 := Hbj.out; rw [ben_neg _ _ (by omega), Bool.or_false] at h1; exact h1
          have hln := (Hcell.out N (by rw [Hlen.out]; omega)).2.2
          have hlf := (fit_nds (.node l ks)).left N (by rw [Hlen.out]; omega)
          rw [hlf] at hln
          unfold ben at hbe
          generalize lfN (nds (.node l ks)) N = L at *
          clear hlf Hbj
          have hj9 : j < 0 := by omega
          by_cases hc1 : L ≤ k
          · by_cases hc2 : k ≤ N
            · have e1 : b = true := by rw [hbe]; simp; omega
              subst e1
              have b1 : decide ((L : Int) ≤ k) = true := by simp; omega
              have b2 : decide ((k : Int) ≤ N) = true := by simp; omega
              have b1' : decide (L ≤ k) = true := by simp; omega
              have b2' : decide (k ≤ N) = true := by simp; omega
              clear hbe hc1 hc2 hj0
              go_wp2_with fail
              refine ⟨⟨k + 1, by omega, by go_num⟩, ?_⟩
              simp [intOf]; omega
            · have e1 : b = false := by rw [hbe]; simp; omega
              subst e1
              have b1 : decide ((L : Int) ≤ k) = true := by simp; omega
              have b2 : decide ((k : Int) ≤ N) = false := by simp; omega
              have b1' : decide (L ≤ k) = true := by simp; omega
              have b2' : decide (k ≤ N) = false := by simp; omega
              clear hbe hc1 hc2 hj0
              go_wp2_with fail
              refine ⟨⟨k + 1, by omega, by go_num⟩, ?_⟩
              simp [intOf]; omega
          · have e1 : b = false := by rw [hbe]; simp; omega
            subst e1
            have b1 : decide ((L : Int) ≤ k) = false := by simp; omega
            have b1' : decide (L ≤ k) = false := by simp; omega
            clear hbe hc1 hj0
            go_wp2_with fail
            refine ⟨⟨k + 1, by omega, by go_num⟩, ?_⟩
            simp [intOf]; omega
    · have hkv : k = Tr.szL ks + 1 := by omega
      subst hkv
      obtain ⟨x, hx1, hx2, hx3⟩ := at_pathT (.node l ks) 0 (-1) N (by show N < (nds (.node l ks)).length; rw [Hlen.out]; omega)
      have hNl : N < (nds (.node l ks)).length := by rw [Hlen.out]; omega
      have hpar := nds_par (.node l ks) N hNl
      obtain ⟨g0, g1, g2⟩ := Hcell.out N hNl
      have hlf := (fit_nds (.node l ks)).left N hNl
      have hlf2 := lfN_le (nds (.node l ks)) N
      change x.label = (nds (.node l ks))[N].lab at hx2
      change (x.sz : Int) = _ - (nds (.node l ks))[N].left + 1 at hx3
      rw [hlf] at g2 hx3
      obtain ⟨lx, kx⟩ := x
      simp only [Tr.label] at hx2
      rw [← hx2] at g0
      have C5 := Lib.hid (fun (W' : World) (h : Nds Any W' (nds (.node l ks)) (some ⟨g, 0, none⟩) c) => path_ints (nds (.node l ks)) (by rw [nds_length, Tr.sz_node]; omega) N _ c W' h)
      rw [nds_length, Tr.sz_node, pathZ_nat, pathN_nds] at C5
      have C7 : Hid (∀ (W' : World) (S : Nat → Prop) o2 c2, Kids S W' ks oa cap → Ints Any W' (pathT (.node l ks) N) o2 c2 → Calls Try.prog 18 #[.agg #[.string l, .slice oa ks.length cap], .slice o2 (pathT (.node l ks) N).length c2] W' fun e w' => ∃ o4 c4, e = .returned (.tuple #[.agg #[.string lx, .slice o4 kx.length c4], .bool true]) ∧ Kids S w' kx o4 c4 ∧ Pr W' w') := Lib.hid fun W' S o2 c2 h h2 => by
        refine (rat_any (pathT (.node l ks) N) S l ks oa cap o2 c2 W' hl h h2).mono ?_
        rintro e w' ⟨l4, ks4, o4, c4, he, _, rfl, hk4, hb⟩
        rw [hx1] at he ⊢
        cases he
        exact ⟨o4, c4, rfl, hk4, hb⟩
      have hlx : lx.size ≤ maxLen := by rw [hx2]; exact nds_lab Hf.out _ (List.getElem_mem hNl)
      have hszx : sizeR (Tr.szL kx + 1) 1000 = ((Tr.szL kx + 1 : Nat) : Int) := by
        simp only [Tr.sz_node] at hx3; unfold sizeR; omega
      have hbig : Tr.szL kx + 1 ≤ 41 := by simp only [Tr.sz_node] at hx3; omega
      have C8 : Hid (∀ (W' : World) o4 c4, Kids Any W' kx o4 c4 → Calls Try.prog 24 #[.agg #[.string lx, .slice o4 kx.length c4], .int .i64 1000] W' fun e w' => e = .returned (.int .i64 ((N : Int) - (lfN (nds (.node l ks)) N : Int) + 1)) ∧ Pr W' w') := Lib.hid fun W' o4 c4 h => by
        have := sizeOf_any _ lx kx o4 c4 1000 W' (Nat.lt_succ_self _) (by omega) (by omega) h
        rw [hszx] at this
        simp only [Tr.sz_node] at hx3
        rw [show ((Tr.szL kx + 1 : Nat) : Int) = (N : Int) - (lfN (nds (.node l ks)) N : Int) + 1 by omega] at this
        exact this
      have hpm : ((nds (.node l ks))[N].par = -1 ∧ N = Tr.szL ks) ∨ (∃ m : Nat, m < Tr.szL ks + 1 ∧ N < m ∧ (nds (.node l ks))[N].par = (m : Int) ∧ ∃ hm : m < (nds (.node l ks)).length, (nds (.node l ks))[m].left ≤ (lfN (nds (.node l ks)) N : Int) ∧ ∀ j (hj : j < (nds (.node l ks)).length), N < j → j < m → (N : Int) < (nds (.node l ks))[j].left) := by
        rcases hpar with ⟨h1, h2⟩ | ⟨m, hm, h1, h2, h3, h4⟩
        · left; rw [Tr.sz_node] at h2; exact ⟨h1, by omega⟩
        · right; rw [hlf] at h3; exact ⟨m, by rw [Hlen.out] at hm; exact hm, h1, h2, hm, h3, h4⟩
      generalize (nds (.node l ks))[N].par = pN at *
      have Hpm := Lib.hid hpm
      have Hx1 := Lib.hid hx1
      have Hx2 := Lib.hid hx2
      have Hx3 := Lib.hid hx3
      have Hlf := Lib.hid hlf
      clear hpm hx1 hx2 hx3 hlf hpar hszx hlt
      obtain ⟨wh, hwh⟩ : ∃ wh, wh = wG := ⟨_, rfl⟩
      subst hwh
      go_upto_if 82 with fail
      go_cut [11] from 83 to 117 (fun _ wx => Pr wh wx)
      case first =>
        rcases Hpm.out with ⟨rfl, hN9⟩ | ⟨m, hm1, hm2, rfl, hml, hm3, hm4⟩
        · have b1 : ((N : Int) != (Tr.szL ks : Int)) = false := by rw [hN9]; simp
          clear hN9
          go_wp2_with fail
          go_meet
          case rel => exact Pr.refl _
        · have b1 : decide ((0 : Int) ≤ (m : Int)) = true := by simp
          have hm1' : (m : Int) < (Tr.szL ks : Int) + 1 := by omega
          have Hm4 := Lib.hid hm4
          clear hm4
          go_wp2_with fail
          go_loop [11] (fun v => ∃ k : Nat, N < k ∧ k ≤ m ∧ v = .int .i64 k) (fun v => m - (intOf v).toNat)
          case atStart => exact ⟨N + 1, by omega, by omega, by go_num⟩
          case round =>
            obtain ⟨k, hk1, hk2, rfl⟩ := hrel
            by_cases hkm : k < m
            · have hkm' : (k : Int) < m := by omega
              have hk0 : (0 : Int) ≤ k := by omega
              have hkl : k < (nds (.node l ks)).length := by omega
              have d1 := (Hcell.out k hkl).2.2
              have d2 := Hm4.out k hkl hk1 hkm
              generalize (nds (.node l ks))[k].left = lk at *
              have b2 : decide (lk ≤ (N : Int)) = false := by simp; omega
              have hkz : (k : Int) < (Tr.szL ks : Int) + 1 := by omega
              clear hkl d2
              go_wp2_with fail
              refine ⟨⟨k + 1, by omega, by omega, by go_num⟩, ?_⟩
              simp [intOf]; omega
            · have hkm2 : k = m := by omega
              subst hkm2
              have d1 := (Hcell.out k hml).2.2
              generalize (nds (.node l ks))[k].left = lk at *
              have b2 : decide ((k : Int) ≤ (N : Int)) = false := by simp; omega
              have b2' : decide (k ≤ N) = false := by simp; omega
              have b3 : decide ((lfN (nds (.node l ks)) N : Int) < lk) = false := by simp; omega
              have hk0 : (0 : Int) ≤ k := by omega
              clear hkm hm3 hml
              go_wp2_with fail
              go_quiet (fail)
              go_wp2_with fail
              go_meet
              case rel => exact Pr.drewN _ _
      case rest =>
        obtain ⟨wd, hwd⟩ : ∃ wd, wd = wc := ⟨_, rfl⟩
        subst hwd
        have hcw := Hc.out.trans hcut
        have z0 := stays (hcut.cell y0); have z1 := stays (hcut.cell y1)
        have e0 := stays (hcut.cell g0); have e2 := stays (hcut.cell g2)
        have hn1' := Lib.hid (fun W' (h : Pr wd W') => Hn1.out.pr (hcut.trans h))
        have C5' := Lib.hid (fun W' (h : Pr wd W') => C5.out W' (hn1'.out W' h))
        have hkc : Kids (fun j => j < wd.heap.size) wd ks oa cap := (hk'.pr hcw).mono fun _ _ h => h
        have C7' := Lib.hid (fun W' o2 c2 (h : Pr wd W') => C7.out W' _ o2 c2 (hkc.pr h))
        clear hkc
        clear hcut y0 y1 g0 g1 g2
        go_upto_region 29 with fail
        go_cut [12, 13] from 118 to 125 (fun v b wx => TV v (.node lx kx) wx ∧ b = .bool true ∧ Pr wd wx)
        case first =>
          have hc := Pr.drew wd
          go_region_held3 (fun W => Pr wd W) (first | exact hc | exact (Pr.alloc _ _).drew' | exact hc.alloc' _ | exact Pr.setCell (Pr.setCell hc hsP _) hsP _ | exact Pr.setCell (Pr.setCell hc (Nat.le_refl _) _) (Nat.le_refl _) _)
            (first
              | (go_at_call 35; (with_reducible refine Calls.mono (C5'.out _ hc) ?_); rintro e wP ⟨o2, c2, rfl, hi2, hb'⟩; have hc := hc.trans hb'; have hsP := hc.size)
              | (go_at_call 35; (with_reducible refine Calls.mono (C5'.out _ (Pr.alloc _ _).drew') ?_); rintro e wP ⟨o2, c2, rfl, hi2, hb'⟩; have hc := (Pr.alloc _ _).drew'.trans hb'; have HV := Lib.hid (hb'.blk ((Pr.drew _).blk (heap_alloc_new wd _))))
              | (go_at_call 18; (with_reducible refine Calls.mono (C7'.out _ _ _ hc hi2) ?_); rintro e wQ ⟨o4, c4, rfl, hk4, hb'⟩; have hc := hc.trans hb'; have HV2 := Lib.hid (hb'.blk HV.out); have v0 := blk_cell (o := 0) HV2.out; have v1 := blk_cell (o := 1) HV2.out; have f0 := blk_frozen (o := 0) HV2.out; have f1 := blk_frozen (o := 1) HV2.out)
              | (go_at_call 18; (with_reducible refine Calls.mono (C7'.out _ _ _ hc hi2) ?_); rintro e wQ ⟨o4, c4, rfl, hk4, hb'⟩; have hc := hc.trans hb')
              | (go_at_call 18; (with_reducible refine Calls.mono (C7'.out _ _ _ (hc.alloc' _) (Flat.pr (Pr.alloc _ _) hi2)) ?_); rintro e wQ ⟨o4, c4, rfl, hk4, hb'⟩; have hc := (hc.alloc' _).trans hb'; have HV2 := Lib.hid (hb'.blk (heap_alloc_new wP _)); have v0 := blk_cell (o := 0) HV2.out; have v1 := blk_cell (o := 1) HV2.out; have f0 := blk_frozen (o := 0) HV2.out; have f1 := blk_frozen (o := 1) HV2.out))
          all_goals
            go_wp2_with fail
            have hltS : ¬ (wd.heap.size < wd.heap.size) := Nat.lt_irrefl _
            go_meet
            case rel =>
              first
              | exact ⟨TV.new hlx hk4, rfl, hc.alloc' _⟩
              | exact ⟨TV.set HV2.out rfl hlx hk4 hltS, rfl, Pr.setCell (Pr.setCell hc (Nat.le_refl _) _) (Nat.le_refl _) _⟩
              | exact ⟨TV.set HV2.out rfl hlx hk4 (Nat.not_lt.2 hsP), rfl, Pr.setCell (Pr.setCell hc hsP _) hsP _⟩
        case rest =>
          obtain ⟨hTV, rfl, hb⟩ := hcut
          obtain ⟨B, lx', kx', o4, c4, rfl, he, -, v0, v1, hk4⟩ := hTV
          cases he
          have e0' := stays (e0 _ hb); have e2' := stays (e2 _ hb)
          have v0' := stays v0; have v1' := stays v1
          have C8' := Lib.hid (fun W' (h : Pr wc W') => C8.out W' o4 c4 (hk4.pr h))
          have hcx := Lib.hid (hcw.trans hb)
          have hsub : IntKind.i64.wrap ((N : Int) - (lfN (nds (.node l ks)) N : Int)) = (N : Int) - (lfN (nds (.node l ks)) N : Int) := IntWalk.i64_in _ (by omega)
          have hsub2 : IntKind.i64.wrap ((N : Int) - (lfN (nds (.node l ks)) N : Int) + 1) = (N : Int) - (lfN (nds (.node l ks)) N : Int) + 1 := IntWalk.i64_in _ (by omega)
          have hs0 : (0 : Int) ≤ (N : Int) - (lfN (nds (.node l ks)) N : Int) := by omega
          clear e0 e2 v0 v1 hk4 z0 z1 hb hcw
          go_upto_region 30 with fail
          have hc := Pr.drew wc
          go_region_held3 (fun W => Pr wc W) (exact hc)
            (first
              | (go_at_call 24; (with_reducible refine Calls.mono (C8'.out _ hc) ?_); rintro e wP ⟨rfl, hb'⟩; have hc := hc.trans hb'))
          go_wp2_with fail
          go_ret

          exact ⟨rfl, hwW.trans (hcx.out.trans hc)⟩
end Go.Proofs.Ytdbnfhpgmcjngaa
