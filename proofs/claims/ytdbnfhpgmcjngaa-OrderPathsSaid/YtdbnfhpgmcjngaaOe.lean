/- The law OrderPaths: its walk. -/
import Derived.Test.YtdbnfhpgmcjngaaOd
namespace Go.Proofs.Ytdbnfhpgmcjngaa
open Go Go.RowKit

theorem Ints.takeL {S : Nat → Prop} {w : World} {xs : List Int} {oa : Option Addr} {cap : Nat} (h : Ints S w xs oa cap) (n : Nat) : Ints S w (xs.take n) oa cap := by
  obtain ⟨⟨h1, h2⟩, b, o, h3, h4⟩ := h
  simp only [ints, List.length_map] at h1 h4
  refine ⟨⟨by simp only [ints, List.length_map, List.length_take]; omega, by omega⟩, b, o, fun hne => ?_, fun i hi => ?_⟩
  · exact h3 (by intro e; simp [ints] at e hne; exact hne.2 e)
  · simp only [ints, List.length_map, List.length_take] at hi
    have := h4 i (by omega)
    simpa [ints] using this
theorem pathT_up (l : ByteArray) (ks : List Tr) (N m : Nat) (hN : N < (nds (.node l ks)).length) (hm : N < m) (hp : (nds (.node l ks))[N].par = (m : Int)) : ∃ z, pathT (.node l ks) N = pathT (.node l ks) m ++ [z] := by
  have h := pathN_up hN (by rw [hp]; omega)
  rw [hp, Int.toNat_natCast, pathN_nds, pathN_nds] at h
  exact ⟨_, h⟩

set_option maxRecDepth 100000 in
set_option maxHeartbeats 3200000 in
theorem orderPaths_walk (l : ByteArray) (ks : List Tr) (oa cap) (n m : Int) (w : World)
    (hl : l.size ≤ maxLen) (hk : Kids Any w ks oa cap) (hn : (Lit.int .i64 n).wf = true) (hm : (Lit.int .i64 m).wf = true) :
    Calls Try.prog 8 #[.agg #[.string l, .slice oa ks.length cap], .int .i64 n, .int .i64 m] w fun e w' => e = .returned (.bool true) ∧ Pr w w' := by
  obtain ⟨W, hW⟩ : ∃ W, W = (w.alloc (.cells #[.string l, .slice oa ks.length cap] 24)) := ⟨_, rfl⟩
  have hwW : Pr w W := by rw [hW]; exact Pr.alloc _ _
  have c0 : W.cell? ⟨w.heap.size, 0, none⟩ = some (.string l) := by rw [hW]; simp [go_sem]
  have c1 : W.cell? ⟨w.heap.size, 1, none⟩ = some (.slice oa ks.length cap) := by rw [hW]; simp [go_sem]
  have s0 := stays c0; have s1 := stays c1
  have hk' := hk.pr hwW
  clear c0 c1 hk
  obtain ⟨ru1, ru2, ru3⟩ := Pr.rules W
  by_cases hf : fault (.node l ks) = 0
  case neg =>
    have hnz : ((fault (.node l ks) : Int) != 0) = true := by simp [bne_iff_ne]; omega
    have C2 := Lib.hid (fun (W' : World) (h : Pr W W') => orderOf_no l ks oa cap W' hl (hk'.pr h) hf)
    clear hf
    cases hg : great (.node l ks)
    all_goals
      have Hg1 := Lib.hid hg
      clear hg
      go_enter Try.func8, Try.ntmps8
      go_wp2_with fail
      rw [← hW]; clear hW
      go_wp2_with (first
        | (go_at_call 28; refine (orderBegun_any _).mono ?_; rintro e w' ⟨rfl, hc⟩)
        | (go_at_call 31; (with_reducible refine Calls.mono (C2.out _ hc) ?_); rintro e wD ⟨rfl, hb⟩; have hc := hc.trans hb)
        | (go_at_call 15; (with_reducible refine Calls.mono (great_any l ks _ _ _ (hk'.pr hc)) ?_); rintro e w' ⟨rfl, hb⟩; simp only [Hg1.out]; have hc := hc.trans hb))
      go_ret
      exact ⟨rfl, hwW.trans hc⟩
  have Hg1 := Lib.hid (great_fault hf)
  have hz := (fault_zero.1 hf).1
  simp only [Tr.sz_node] at hz
  have C2 := Lib.hid (fun (W' : World) (h : Pr W W') => orderOf_yes l ks oa cap W' hl (hk'.pr h) hf)
  by_cases hin : (0 ≤ n ∧ n < (Tr.szL ks + 1 : Nat)) ∧ (0 ≤ m ∧ m < (Tr.szL ks + 1 : Nat))
  case neg =>
    have hor : n < 0 ∨ (¬ n < 0 ∧ (Tr.szL ks : Int) + 1 ≤ n) ∨ (¬ n < 0 ∧ ¬ (Tr.szL ks : Int) + 1 ≤ n ∧ m < 0) ∨ (¬ n < 0 ∧ ¬ (Tr.szL ks : Int) + 1 ≤ n ∧ ¬ m < 0 ∧ (Tr.szL ks : Int) + 1 ≤ m) := by omega
    clear hin
    rcases hor with h0 | ⟨h0, h1⟩ | ⟨h0, h1, h2⟩ | ⟨h0, h1, h2, h3⟩
    all_goals
      clear hf
      go_enter Try.func8, Try.ntmps8
      go_wp2_with fail
      rw [← hW]; clear hW
      go_wp2_with (first
        | (go_at_call 28; refine (orderBegun_any _).mono ?_; rintro e w' ⟨rfl, hc⟩)
        | (go_at_call 31; (with_reducible refine Calls.mono (C2.out _ hc) ?_); rintro e wD ⟨g, c, rfl, hn1, hb⟩; have hc := hc.trans hb)
        | (go_at_call 15; (with_reducible refine Calls.mono (great_any l ks _ _ _ (hk'.pr hc)) ?_); rintro e w' ⟨rfl, hb⟩; simp only [Hg1.out]; have hc := hc.trans hb))
      go_ret
      exact ⟨rfl, hwW.trans hc⟩
  obtain ⟨N, rfl⟩ : ∃ N : Nat, n = N := ⟨n.toNat, by omega⟩
  obtain ⟨M, rfl⟩ : ∃ M : Nat, m = M := ⟨m.toNat, by omega⟩
  have hN : (N : Int) < (Tr.szL ks : Int) + 1 := by omega
  have hN0 : (0 : Int) ≤ N := by omega
  have hM : (M : Int) < (Tr.szL ks : Int) + 1 := by omega
  have hM0 : (0 : Int) ≤ M := by omega
  have hN1 : ¬ (Tr.szL ks : Int) + 1 ≤ N := by omega
  have hM1 : ¬ (Tr.szL ks : Int) + 1 ≤ M := by omega
  clear hin hn hm
  have hlen : (nds (.node l ks)).length = Tr.szL ks + 1 := by rw [nds_length, Tr.sz_node]
  have C5 : Hid (∀ (W' : World) (k : Nat) o1 c1, Nds Any W' (nds (.node l ks)) o1 c1 → Calls Try.prog 35 #[.slice o1 (Tr.szL ks + 1) c1, .int .i64 k] W' fun e w' => ∃ o2 c2, e = .returned (.slice o2 (pathT (.node l ks) k).length c2) ∧ Ints Any w' (pathT (.node l ks) k) o2 c2 ∧ Pr W' w') := Lib.hid fun W' k o1 c1 h => by
    have := path_ints (nds (.node l ks)) (by rw [nds_length, Tr.sz_node]; omega) k o1 c1 W' h
    rw [nds_length, Tr.sz_node, pathZ_nat, pathN_nds] at this; exact this
  have hinj := pathT_inj (.node l ks) N M (by rw [Tr.sz_node]; omega) (by rw [Tr.sz_node]; omega)
  have hNl : N < (nds (.node l ks)).length := by omega
  have hpar := nds_par (.node l ks) N hNl
  have hup : ((nds (.node l ks))[N].par = -1) ∨ ∃ m : Nat, m < Tr.szL ks + 1 ∧ (nds (.node l ks))[N].par = (m : Int) ∧ ∃ z, pathT (.node l ks) N = pathT (.node l ks) m ++ [z] := by
    rcases hpar with ⟨h1, h2⟩ | ⟨m, hm, h1, h2, h3, h4⟩
    · exact .inl h1
    · exact .inr ⟨m, by omega, h2, pathT_up l ks N m hNl h1 h2⟩
  have hah : N < M → Ahead (pathT (.node l ks) N) (pathT (.node l ks) M) := fun h => ahead_pathT (.node l ks) N M h (by rw [Tr.sz_node]; omega)
  have Hah := Lib.hid hah
  have Hup := Lib.hid hup
  have Hinj := Lib.hid hinj
  have Hlen := Lib.hid hlen
  have CS : Hid (∀ (W' : World) o1 c1 o2 c2, Ints Any W' (pathT (.node l ks) N) o1 c1 → Ints Any W' (pathT (.node l ks) M) o2 c2 → Calls Try.prog 34 #[.slice o1 (pathT (.node l ks) N).length c1, .slice o2 (pathT (.node l ks) M).length c2] W' fun e w' => e = .returned (.bool (decide (N = M))) ∧ Pr W' w') := Lib.hid fun W' o1 c1 o2 c2 h1 h2 => by
    have := sameInts_any _ _ o1 c1 o2 c2 W' h1 h2; rw [← hinj] at this; exact this
  clear hah hup hinj hlen hpar hf
  have hd : ((N : Int) == (M : Int)) = decide (N = M) := by
    rw [Bool.eq_iff_iff]; simp; omega
  have Hd := Lib.hid hd
  clear hd
  cases hb : decide (N = M)
  all_goals
    have Hb := Lib.hid hb
    clear hb
    have hd2 : ((N : Int) == (M : Int)) = _ := Hd.out.trans Hb.out
    have hd3 : decide (N = M) = _ := Hb.out
    go_enter Try.func8, Try.ntmps8
    go_wp2_with fail
    rw [← hW]; clear hW
    go_upto_region 10 with (first
      | (go_at_call 28; refine (orderBegun_any _).mono ?_; rintro e w' ⟨rfl, hc⟩)
      | (go_at_call 31; (with_reducible refine Calls.mono (C2.out _ hc) ?_); rintro e wD ⟨g, c, rfl, hn1, hb⟩; have hc := hc.trans hb)
      | (go_at_call 15; (with_reducible refine Calls.mono (great_any l ks _ _ _ (hk'.pr hc)) ?_); rintro e w' ⟨rfl, hb⟩; simp only [Hg1.out]; have hc := hc.trans hb; have hn1 := hn1.pr hb; obtain ⟨bb, oo, hoa, hcell⟩ := hn1.at' (by rw [Hlen.out]; omega); cases hoa; simp only [Nat.zero_add] at hcell; have gN := stays (hcell N (by rw [Hlen.out]; omega)).2.1; clear hcell)
      | (go_at_call 35; (with_reducible refine Calls.mono (C5.out _ N _ _ hn1) ?_); rintro e wE ⟨o2, c2, rfl, hi2, hb⟩; have hc := hc.trans hb; have hn1 := hn1.pr hb; have gN := stays (gN _ hb))
      | (go_at_call 35; (with_reducible refine Calls.mono (C5.out _ M _ _ hn1) ?_); rintro e wF ⟨o3, c3, rfl, hi3, hb⟩; have hc := hc.trans hb; have hn1 := hn1.pr hb; have hi2 := Flat.pr hb hi2; have gN := stays (gN _ hb))
      | (go_at_call 34; (with_reducible refine Calls.mono (CS.out _ _ _ _ _ hi2 hi3) ?_); rintro e wG ⟨rfl, hb⟩; simp only [Hb.out]; have hc := hc.trans hb; have hn1 := hn1.pr hb; have hi2 := Flat.pr hb hi2; have hi3 := Flat.pr hb hi3; have gN := gN _ hb))
    have Hn1 := Lib.hid hn1
    have Hc := Lib.hid hc
    have hcap2 := hi2.1
    simp only [ints, List.length_map] at hcap2
    clear hn1 hc hb s0 s1 ru1 ru2 ru3
    have Hgn := Lib.hid gN
    clear gN
    generalize (nds (.node l ks))[N].par = pN at *
    go_cut [82] from 64 to 81 (fun v wx => v = .bool false ∧ Pr wG wx)
    case first =>
      rcases Hup.out with rfl | ⟨m, hm, rfl, z, hz⟩
      · have b1 : decide ((0 : Int) ≤ -1) = false := by decide
        go_quiet (fail)
        go_wp2_with fail
        go_meet
        case rel => exact ⟨rfl, Pr.drewN _ _⟩
      · have b1 : decide ((0 : Int) ≤ (m : Int)) = true := by simp
        have hzl : (pathT (.node l ks) N).length = (pathT (.node l ks) m).length + 1 := by rw [hz]; simp
        have b2 : (((pathT (.node l ks) N).length : Int) == 0) = false := by rw [beq_eq_false_iff_ne]; omega
        have b5 : (1 : Int) ≤ ((pathT (.node l ks) N).length : Int) := by omega
        have b5' : 1 ≤ (pathT (.node l ks) N).length := by omega
        have b6 : (0 : Int) ≤ ((pathT (.node l ks) N).length : Int) - 1 := by omega
        have b7 : ((pathT (.node l ks) N).length : Int) - 1 ≤ (c2 : Int) := by omega
        have b8 : ((((pathT (.node l ks) N).length : Int) - 1)).toNat = (pathT (.node l ks) m).length := by omega
        have b10 : c2 ≤ 9223372036854775807 := by have := hcap2.2; unfold maxLen at this; omega
        have b9 : IntKind.i64.wrap (((pathT (.node l ks) N).length : Int) - 1) = ((pathT (.node l ks) N).length : Int) - 1 := IntWalk.i64_in _ (by omega)
        have CU : Hid (∀ W' o5 c5, Pr wG W' → Ints Any W' (pathT (.node l ks) m) o5 c5 → Calls Try.prog 34 #[.slice o5 (pathT (.node l ks) m).length c5, .slice o2 (pathT (.node l ks) m).length c2] W' fun e w' => e = .returned (.bool true) ∧ Pr W' w') := Lib.hid fun W' o5 c5 h h5 => by
          have h2 := (Ints.takeL hi2 (pathT (.node l ks) m).length)
          rw [hz, List.take_left' rfl] at h2
          have := sameInts_any _ _ o5 c5 o2 c2 W' h5 (Flat.pr h h2); simpa using this
        have C5' := Lib.hid fun W' (h : Pr wG W') => C5.out W' m _ _ (Hn1.out.pr h)
        clear hzl hz hcap2 b10
        have hc := Pr.drew wG
        go_region_held3 (fun W => Pr wG W) (exact hc)
          (first
            | (go_at_call 35; (with_reducible refine Calls.mono (C5'.out _ hc) ?_); rintro e w' ⟨o5, c5, rfl, hi5, hb'⟩; have hc := hc.trans hb')
            | (go_at_call 34; (with_reducible refine Calls.mono (CU.out _ _ _ hc hi5) ?_); rintro e w' ⟨rfl, hb'⟩; have hc := hc.trans hb'))
        go_wp2_with fail
        go_meet
        case rel => exact ⟨rfl, hc⟩
    case rest =>
      obtain ⟨rfl, hbx⟩ := hcut
      have hi2 := Flat.pr hbx hi2
      have hi3 := Flat.pr hbx hi3
      have Hcx := Lib.hid (Hc.out.trans hbx)
      have HAh := Hah
      clear hbx hcap2
      obtain ⟨wh, hwh⟩ : ∃ wh, wh = wc := ⟨_, rfl⟩
      subst hwh
      by_cases hge : M ≤ N
      · have hge' : (M : Int) ≤ (N : Int) := by omega
        go_wp2_with fail
        go_ret
        exact ⟨rfl, hwW.trans Hcx.out⟩
      · have hge' : ¬ (M : Int) ≤ (N : Int) := by omega
        have hA := HAh.out (by omega)
        generalize pathT (.node l ks) N = p at *
        generalize pathT (.node l ks) M = q at *
        have hpl := Ints.len hi2
        have Hi2 := Lib.hid hi2
        have Hi3 := Lib.hid hi3
        have HA := Lib.hid hA
        clear hi2 hi3 hA
        go_wp2_with fail
        go_loopw [12] (fun v wr => ∃ k : Nat, k ≤ p.length ∧ k ≤ q.length ∧ v = .int .i64 k ∧ Ahead (p.drop k) (q.drop k) ∧ Pr wh wr) (fun v _ => p.length - (intOf v).toNat)
        case atStart => exact ⟨0, by omega, by omega, rfl, HA.out, Pr.refl _⟩
        case round =>
          obtain ⟨k, hk1, hk2, rfl, hA, hb⟩ := hrel
          have hkp : k < p.length := by
            by_cases h : k < p.length
            · exact h
            · rw [List.drop_eq_nil_of_le (by omega)] at hA; exact hA.elim
          by_cases hkq : k < q.length
          · obtain ⟨b2, o4, rfl, d2⟩ := Ints.get (Flat.pr hb Hi2.out) k hkp
            obtain ⟨b3, o5, rfl, d3⟩ := Ints.get (Flat.pr hb Hi3.out) k hkq
            rw [List.drop_eq_getElem_cons hkp, List.drop_eq_getElem_cons hkq] at hA
            generalize p[k] = a2 at *
            generalize q[k] = a3 at *
            have hkp' : (k : Int) < p.length := by omega
            have hkq' : (k : Int) < q.length := by omega
            have hk0 : (0 : Int) ≤ k := by omega
            have HA2 := Lib.hid hA
            clear hA
            by_cases hne : a2 = a3
            · have e1 : (a2 != a3) = false := by simp [hne]
              have Hne := Lib.hid hne
              clear hne
              go_wp2_with fail
              go_quiet (fail)
              go_wp2_with fail
              refine ⟨⟨k + 1, by omega, by omega, by go_num, ?_, hb.drewN' _⟩, ?_⟩
              · rcases HA2.out with h | ⟨_, h⟩
                · have := Hne.out; omega
                · exact h
              · simp [intOf]; omega
            · have e1 : (a2 != a3) = true := by simp [hne]
              have hlt : a2 < a3 := by
                rcases HA2.out with h | ⟨h, _⟩
                · exact h
                · exact absurd h hne
              have e2 : decide (a2 < a3) = true := by simp [hlt]
              clear hne
              go_wp2_with fail
              go_quiet (fail)
              go_wp2_with fail
              go_quiet (fail)
              go_wp2_with fail
              go_ret
              exact ⟨rfl, hwW.trans (Hcx.out.trans ((hb.drewN' _).drewN' _))⟩
          · have hkp' : (k : Int) < p.length := by omega
            have hkq' : ¬ (k : Int) < q.length := by omega
            have hlt : (q.length : Int) < p.length := by omega
            go_wp2_with fail
            go_ret
            exact ⟨ret_bool (by first | (simp; done) | (simp; omega)), hwW.trans (Hcx.out.trans hb)⟩
end Go.Proofs.Ytdbnfhpgmcjngaa
