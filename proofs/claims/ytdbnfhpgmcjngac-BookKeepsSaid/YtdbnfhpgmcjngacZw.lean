/- The law BookKeeps: its walk. -/
import Derived.Test.YtdbnfhpgmcjngacZv
import Derived.Test.YtdbnfhpgmcjngacAf
namespace Go.Proofs.Ytdbnfhpgmcjngac
open Go Go.RowKit

theorem addC_cases (tb : List Tr) (t : Tr) : (fault t ≠ 0 ∧ addC tb t = fault t) ∨ (fault t = 0 ∧ tb.length = 30 ∧ addC tb t = 13) ∨ (fault t = 0 ∧ tb.length ≠ 30 ∧ addC tb t = 0) := by
  unfold addC
  by_cases hf : fault t = 0
  · rw [if_neg (by simpa using hf)]
    by_cases h3 : tb.length = 30
    · rw [if_pos h3]; exact .inr (.inl ⟨hf, h3, rfl⟩)
    · rw [if_neg h3]; exact .inr (.inr ⟨hf, h3, rfl⟩)
  · rw [if_pos hf]; exact .inl ⟨hf, rfl⟩
theorem inP_nil : inP [] = [] := rfl
set_option maxRecDepth 100000 in
set_option maxHeartbeats 6400000 in
theorem bookKeeps_walk (ls : List Tr) (oa cap) (w : World) (hk : Kids Any w ls oa cap) (_ : True) :
    Calls Try.prog 9 #[.slice oa ls.length cap] w fun e w' => e = .returned (.bool true) ∧ Pr w w' := by
  have G1 := Lib.hid fun W' (h : Pr w W') => greats_any ls oa cap W' (hk.pr h)
  have K0 : Hid (Kids (fun k => k < w.heap.size) w ls oa cap) := Lib.hid (hk.carry fun k _ hl => ⟨rfl, hl⟩)
  have hlen := hk.len
  clear hk
  go_enter Try.func9, Try.ntmps9
  go_upto_region 3 with (go_at_call 30; refine (bookBegun_any _).mono ?_; rintro e w1 ⟨rfl, hp⟩)
  go_cut [15] from 14 to 15 (fun v wx => (∃ b, v = .bool b ∧ (b = false → FewTs ls)) ∧ Pr w wx)
  case first =>
    go_wp2_with (go_at_call 31; (with_reducible refine Calls.mono (G1.out _ hp) ?_); rintro e w2 ⟨⟨b, rfl, hb⟩, hp2⟩)
    all_goals
      go_meet
      exact ⟨⟨b, rfl, hb⟩, hp.trans hp2⟩
  case rest =>
  obtain ⟨⟨b, rfl, hb⟩, hp2⟩ := hcut
  obtain ⟨w2, hw2⟩ : ∃ w2, w2 = wc := ⟨_, rfl⟩
  subst hw2
  cases b
  case true =>
    go_wp2_with fail
    go_ret
    exact ⟨rfl, hp2⟩
  case false =>
    have ft := hb rfl
    have hw2 := Below.size hp2
    have NW := Lib.hid (new_any (fun k => k < w.heap.size) w2 (by omega))
    obtain ⟨B, hB⟩ : ∃ B, B = w2.heap.size := ⟨_, rfl⟩
    rw [← hB] at NW
    have hBw : w.heap.size ≤ B := by omega
    have Hp2 := Lib.hid hp2; have Ft := Lib.hid ft
    clear hb ft hp2 hB hw2
    go_upto_region 6 with (go_at_call 32; (with_reducible refine Calls.mono NW.out ?_); rintro e w3 ⟨⟨rfl, hb3⟩, hp3⟩)
    have hpw3 := Hp2.out.trans hp3
    have h0 : BIn (fun k => k < w.heap.size) w.heap.size w3 B (.slice none 0 0) (.slice none 0 0) [] [] :=
      ⟨hb3, OwnsX.nil _ _ _ _, fun k h => (by cases h), fun k hk => Nat.lt_of_lt_of_le hk (Below.size hpw3)⟩
    have H0 := Lib.hid h0; have Hpw3 := Lib.hid hpw3
    clear hb3 hp3 h0 hpw3
    go_upto_region 8 with fail
    go_loopw [4, 5] (fun v4 vi wr => ∃ (i : Nat) (v : Value) (X : Nat → Prop), i ≤ ls.length ∧ vi = .int .i64 i ∧ BIn X w.heap.size wr B v v4 (inP (ls.take i)) (inP (ls.take i)) ∧ (∀ k, k < w.heap.size → X k) ∧ Pr w wr) (fun _ vi _ => ls.length - (intOf vi).toNat)
    case atStart => exact ⟨0, _, _, by omega, rfl, by rw [List.take_zero]; exact H0.out, fun _ h => h, Hpw3.out⟩
    case round =>
      obtain ⟨i, v, X, hi, rfl, hin, hXl, hpr⟩ := hrel
      have Hin := Lib.hid hin; have HXl := Lib.hid hXl; have Hpr := Lib.hid hpr
      have hfew := hin.book.few
      by_cases hlt : i < ls.length
      case pos =>
        obtain ⟨b, o, l', ks', oa', cap', e1, hl', rfl, c0, c1, hk'⟩ := (K0.out.pr hpr).get i hlt
        have hns := inP_succ ls i hlt
        rw [e1] at hns
        obtain ⟨tb, htb⟩ : ∃ tb, tb = inP (ls.take i) := ⟨_, rfl⟩
        rw [← htb] at hns hfew
        have Hns := Lib.hid hns; have Htb := Lib.hid htb
        have hin2 := hin
        rw [← htb] at hin2
        obtain ⟨o4, c4, hv4, hv1, hv2, hv3⟩ := ownsRow_slice hin2.row.choose_spec.1
        have Hin2 := Lib.hid hin2
        have hbb := lt_of_cell c0
        have hkb : Kids (BS NoX B v) wr ks' oa' cap' := hk'.mono fun k (hk : k < w.heap.size) _ => ⟨⟨by omega, fun e => by have := (hin2.book.lt.2 k e).1; omega⟩, fun h => h⟩
        have AD := Lib.hid (add_any B v tb l' ks' oa' cap' wr hin2.book hl' hkb hin2.top)
        have hbw : b < w.heap.size := by
          obtain ⟨_, b9, o9, hb9, _⟩ := K0.out
          have h9 := hb9 (by intro e; subst e; simp at hlt)
          cases h9.1
          exact h9.2
        have CP : Hid (∀ w4, Chg (fun k => k = B ∨ v.ownBlock = some k) wr w4 → w4.cell? ⟨b, o + i * 2, none⟩ = some (.string l') ∧ w4.cell? ⟨b, o + i * 2 + 1, none⟩ = some (.slice oa' ks'.length cap') ∧ Kids (fun k => k < w.heap.size) w4 ks' oa' cap') := Lib.hid fun w4 hc => by
          have hn : ∀ k, k < w.heap.size → ¬ (k = B ∨ v.ownBlock = some k) := fun k hk => by
            rintro (e | e)
            · omega
            · have := (hin2.book.lt.2 k e).1; omega
          refine ⟨?_, ?_, hk'.carry fun k hk hl => ⟨hc.block k hl (hn k hk), hk⟩⟩
          · rw [World.cell?_of_block (hc.block b hbb (hn b hbw))]; exact c0
          · rw [World.cell?_of_block (hc.block b hbb (hn b hbw))]; exact c1
        have PP : Hid (∀ w4, Chg (fun k => k = B ∨ v.ownBlock = some k) wr w4 → Pr w w4) := Lib.hid fun w4 hc => (hpr.chg (fun k => k = B ∨ v.ownBlock = some k)).trans hc (fun _ h => .inl h) |>.to_pr (fun k hk => by
          rcases hk with e | e
          · omega
          · have := (hin2.book.lt.2 k e).1; omega)
        have TF : Hid (∀ u, Kids (fun k => k < w.heap.size) u ks' oa' cap' → Calls Try.prog 26 #[.agg #[.string l', .slice oa' ks'.length cap']] u fun e w' => e = .returned (.int .i64 (fault (.node l' ks'))) ∧ Pr u w') := Lib.hid fun u h => treeFault_any l' ks' oa' cap' u hl' h.any
        clear hin2 hin hXl hpr hns htb hv1 hv2 hv3 hk' hkb e1
        subst hv4
        rcases addC_cases tb (.node l' ks') with ⟨hf, hc⟩ | ⟨hf, h30, hc⟩ | ⟨hf, h30, hc⟩
        · have hadd : addT tb (.node l' ks') = tb := by unfold addT; rw [if_neg (by rw [hc]; exact hf)]
          have AD2 : Hid (Calls Try.prog 33 #[.pointer (some ⟨B, 0, none⟩), .agg #[.string l', .slice oa' ks'.length cap']] wr fun e w' => e = .returned (.tuple #[.int .i64 0, .int .i64 (fault (.node l' ks') : Nat)]) ∧ ∃ v', BookOk X w' B v' tb ∧ Chg (fun k => k = B ∨ v.ownBlock = some k) wr w') := Lib.hid (AD.out.mono fun e w' ⟨he, v', h1, h2, _⟩ => by
            rw [hc, if_neg (by exact hf)] at he h1
            exact ⟨he, v', h1, h2⟩)
          rw [hadd] at Hns
          have e1 : ((fault (.node l' ks') : Int) == 0) = false := by rw [beq_eq_false_iff_ne]; omega
          have e2 : ((fault (.node l' ks') : Int) != 0) = true := by rw [bne_iff_ne]; omega
          clear AD hc hf hadd
          generalize fault (.node l' ks') = f at *
          go_wp2_with (first
            | (go_at_call 33; (with_reducible refine Calls.mono AD2.out ?_); rintro e w4 ⟨rfl, v', hb4, hc4⟩; obtain ⟨x0, x1, hk4⟩ := CP.out _ hc4)
            | (go_at_call 26; (with_reducible refine Calls.mono (TF.out _ hk4) ?_); rintro e w5 ⟨rfl, hp5⟩)
            | (go_at_call 34; (with_reducible refine Calls.mono (len_any B v' tb _ (hb4.pr hp5)) ?_); rintro e w6 ⟨rfl, rfl⟩))
          refine ⟨⟨i + 1, v', X, by omega, by go_num, ?_, HXl.out, (PP.out _ hc4).trans hp5⟩, ?_⟩
          · rw [Hns.out]; exact (Hin2.out.add hb4 hc4).pr hp5
          · simp [intOf]; omega
        · have hadd : addT tb (.node l' ks') = tb := by unfold addT; rw [if_neg (by rw [hc]; decide)]
          have AD2 : Hid (Calls Try.prog 33 #[.pointer (some ⟨B, 0, none⟩), .agg #[.string l', .slice oa' ks'.length cap']] wr fun e w' => e = .returned (.tuple #[.int .i64 0, .int .i64 (13 : Nat)]) ∧ ∃ v', BookOk X w' B v' tb ∧ Chg (fun k => k = B ∨ v.ownBlock = some k) wr w') := Lib.hid (AD.out.mono fun e w' ⟨he, v', h1, h2, _⟩ => by
            rw [hc, if_neg (by decide)] at he h1
            exact ⟨he, v', h1, h2⟩)
          rw [hadd] at Hns
          rw [hf] at TF
          clear AD hc hf hadd
          go_wp2_with (first
            | (go_at_call 33; (with_reducible refine Calls.mono AD2.out ?_); rintro e w4 ⟨rfl, v', hb4, hc4⟩; obtain ⟨x0, x1, hk4⟩ := CP.out _ hc4)
            | (go_at_call 26; (with_reducible refine Calls.mono (TF.out _ hk4) ?_); rintro e w5 ⟨rfl, hp5⟩)
            | (go_at_call 34; (with_reducible refine Calls.mono (len_any B v' tb _ (hb4.pr hp5)) ?_); rintro e w6 ⟨rfl, rfl⟩))
          refine ⟨⟨i + 1, v', X, by omega, by go_num, ?_, HXl.out, (PP.out _ hc4).trans hp5⟩, ?_⟩
          · rw [Hns.out]; have h := (Hin2.out.add hb4 hc4).pr hp5; rw [h30] at h; exact h
          · simp [intOf]; omega
        · have hadd : addT tb (.node l' ks') = tb ++ [.node l' ks'] := by unfold addT; rw [if_pos hc]
          have AD2 : Hid (Calls Try.prog 33 #[.pointer (some ⟨B, 0, none⟩), .agg #[.string l', .slice oa' ks'.length cap']] wr fun e w' => e = .returned (.tuple #[.int .i64 tb.length, .int .i64 0]) ∧ ∃ v', BookOk X w' B v' (tb ++ [.node l' ks']) ∧ Chg (fun k => k = B ∨ v.ownBlock = some k) wr w') := Lib.hid (AD.out.mono fun e w' ⟨he, v', h1, h2, _⟩ => by
            rw [hc, if_pos rfl] at he h1
            exact ⟨he, v', h1, h2⟩)
          rw [hadd] at Hns
          rw [hf] at TF
          have e1 : decide ((30 : Int) ≤ (tb.length : Int)) = false := decide_eq_false (by omega)
          have e2 : decide (30 ≤ tb.length) = false := decide_eq_false (by omega)
          have hl2 : (tb ++ [Tr.node l' ks']).length = tb.length + 1 := by simp
          have Hl2 := Lib.hid hl2
          have hnb : ∀ k, (Value.slice o4 tb.length c4).ownBlock = some k → w.heap.size ≤ k := fun k hk => (Hin2.out.row.block k hk).1
          have Hnb := Lib.hid hnb
          have LN : Hid (∀ (X' : Nat → Prop) u v2, BookOk X' u B v2 (tb ++ [.node l' ks']) → Calls Try.prog 34 #[.pointer (some ⟨B, 0, none⟩)] u fun e w' => e = .returned (.int .i64 ((tb.length : Int) + 1)) ∧ w' = u) := Lib.hid fun X' u v2 h => by
            have := len_any B v2 _ u h
            rw [hl2] at this; simpa using this
          clear AD hc hf hadd hl2 hnb
          go_wp2_with (first
            | (go_at_call 33; (with_reducible refine Calls.mono AD2.out ?_); rintro e w4 ⟨rfl, v', hb4, hc4⟩; obtain ⟨x0, x1, hk4⟩ := CP.out _ hc4)
            | (go_at_call 26; (with_reducible refine Calls.mono (TF.out _ hk4) ?_); rintro e w5 ⟨rfl, hp5⟩; have x0 := hp5.cell x0; have x1 := hp5.cell x1; have Hin5 := Lib.hid ((Hin2.out.add hb4 hc4).pr hp5); have hk5 := hk4.pr hp5)
            | (at_builtin; go_must (refine app_treeX rfl _ _ rfl (fun k => X k ∧ (Value.slice o4 tb.length c4).ownBlock ≠ some k) _ w.heap.size (.slice o4 tb.length c4) tb rfl (Hin5.out.pr (Pr.alloc _ _)).row w5.heap.size rfl (.node l' ks') _ _ (heap_alloc_new w5 _) (treeV_mk cap' hl' ((hk5.pr (Pr.alloc _ _)).mono fun k (hk : k < w.heap.size) _ => ⟨HXl.out k hk, fun e => by have := Hnb.out k e; omega⟩)) (by omega) (by have := Below.size ((PP.out _ hc4).trans hp5); simp; omega) ?_); intro g6 c6 w6 ho6 hg6 hd6; have Hin6 := Lib.hid ((Hin5.out.pr (Pr.alloc _ _)).app ho6 hg6 (fun k hk => by cases hk; exact hd6)))
            | (go_at_call 34; (with_reducible refine Calls.mono (LN.out _ _ _ Hin6.out.book) ?_); rintro e w7 ⟨rfl, rfl⟩))
          refine ⟨⟨i + 1, v', (fun k => X k ∨ (Value.slice (some ⟨g6, 0, none⟩) (tb.length + 1) c6).ownBlock = some k), by omega, by go_num, ?_, fun k hk => Or.inl (HXl.out k hk), ?_⟩, ?_⟩
          · rw [Hns.out]; exact Hin6.out
          · exact Below.grown (((PP.out _ hc4).trans hp5).alloc' _) hg6 (by have := Below.size ((PP.out _ hc4).trans hp5); simp; omega) (fun k hk => Hnb.out k hk)
          · simp [intOf]; omega
      case neg =>
        have hie : i = ls.length := by omega
        subst hie
        rw [List.take_length] at Hin hfew
        obtain ⟨tb, htb⟩ : ∃ tb, tb = inP ls := ⟨_, rfl⟩
        rw [← htb] at Hin hfew
        obtain ⟨o4, c4, hv4, hv1, hv2, hv3⟩ := ownsRow_slice Hin.out.row.choose_spec.1
        obtain ⟨oi, ci, hv5, hki⟩ := Hin.out.row.kids (Pr.refl wr)
        obtain ⟨N, hN⟩ : ∃ N, N = tb.length := ⟨_, rfl⟩
        have HN := Lib.hid hN
        have Hki := Lib.hid hki.any
        rw [← hN] at hv4 hv5 hfew
        subst hv5
        have HU := Lib.hid hpr
        have HBk := Lib.hid Hin.out.book
        clear hin hXl htb hv1 hv2 hv3 hv4 hN hki Hin HXl Hpr hpr
        obtain ⟨U, hUe⟩ : ∃ U, U = wr := ⟨_, rfl⟩
        subst hUe
        go_upto_region 21 with fail
        go_loopw [9] (fun vi wr => ∃ k : Nat, k ≤ N + 2 ∧ vi = .int .i64 ((k : Int) - 1) ∧ Pr U wr) (fun vi _ => N + 2 - (intOf vi + 1).toNat)
        case atStart => exact ⟨0, by omega, rfl, Pr.refl _⟩
        case round =>
          obtain ⟨k, hkN, rfl, hb⟩ := hrel
          have Hb := Lib.hid hb
          by_cases hlt : k ≤ N + 1
          case neg =>
            go_wp2_with fail
            go_ret
            exact ⟨rfl, HU.out.trans Hb.out⟩
          case pos =>
            have GT := get_any B v tb ((k : Int) - 1) wr (HBk.out.pr hb)
            have e0 : decide ((k : Int) - 1 ≤ (N : Int)) = true := decide_eq_true (by omega)
            by_cases hin : 1 ≤ k ∧ k ≤ N
            case pos =>
              obtain ⟨n, rfl⟩ : ∃ n, k = n + 1 := ⟨k - 1, by omega⟩
              have hz : ((n + 1 : Nat) : Int) - 1 = (n : Int) := by omega
              rw [hz] at GT e0 ⊢
              have hn : n < tb.length := by have := HN.out; omega
              have hh : hasT tb (n : Int) = true := by unfold hasT; simp; omega
              have hg : getT tb (n : Int) = tb[n] := by unfold getT; rw [if_pos (by omega)]; simp [List.getD, hn]
              obtain ⟨b, o, l', ks', oa', cap', e1, hl', hoi, c0, c1, hk'⟩ := (Hki.out.pr hb).get n hn
              have GT2 : Hid (Calls Try.prog 35 #[.pointer (some ⟨B, 0, none⟩), .int .i64 n] wr fun e w' => (∃ o c, e = .returned (.tuple #[.agg #[.string l', .slice o ks'.length c], .bool true]) ∧ Kids Any w' ks' o c) ∧ Pr wr w') := Lib.hid (GT.mono fun e w' ⟨l, ks, o, c, h1, _, h2, h3, h4⟩ => by
                rw [hg, e1] at h1
                cases h1
                rw [hh] at h2
                exact ⟨⟨o, c, h2, h3.any⟩, h4⟩)
              have i0 : (0 : Int) ≤ (n : Int) := by omega
              have i1 : (n : Int) < (N : Int) := by omega
              have i2 : decide ((n : Int) < (N : Int)) = true := decide_eq_true i1
              have i3 : decide (n < N) = true := decide_eq_true (by omega)
              have i4 : decide ((0 : Int) ≤ (n : Int)) = true := decide_eq_true i0
              subst hoi
              have Hk' := Lib.hid hk'
              have C0 := stays c0; have C1 := stays c1
              clear GT hz hn hh hg e1 hk' hb c0 c1 hin hkN hlt
              go_upto_region 24 with (go_at_call 35; (with_reducible refine Calls.mono GT2.out ?_); rintro e w4 ⟨⟨o5, c5, rfl, hk5⟩, hb4⟩)
              obtain ⟨V, hV⟩ : ∃ V, V = w4.alloc (.cells #[.string l', .slice o5 ks'.length c5] 24) := ⟨_, rfl⟩
              have hpV : Pr w4 V := by rw [hV]; exact Pr.alloc _ _
              have v0 := After.cell (show V.cell? ⟨w4.heap.size, 0, none⟩ = some (.string l') by rw [hV]; simp [go_sem])
              have v1 := After.cell (show V.cell? ⟨w4.heap.size, 1, none⟩ = some (.slice o5 ks'.length c5) by rw [hV]; simp [go_sem])
              rw [← hV]
              have c0 := After.cell (C0 _ (hb4.trans hpV)); have c1 := After.cell (C1 _ (hb4.trans hpV))
              have S1 := Lib.hid (After.call (P := Try.prog) (v := .bool true) fun W' (h : Pr V W') => by
                have := sameTree_any l' l' ks' ks' o5 c5 oa' cap' W' (hk5.pr (hpV.trans h)) (Hk'.out.pr ((hb4.trans hpV).trans h))
                rw [Tr.beq_self] at this; exact this)
              have Hq := Lib.hid (hb4.trans hpV)
              clear hV hpV hb4 hk5 C0 C1
              refine wp_region_after (by kernel_rfl) (by kernel_rfl) ?_
              repeat (go_big_quiet_step (first | (go_at_call 16; with_reducible exact S1.out _)))
              refine wpQuiet_nil ?_
              rintro _ ⟨⟨w9, hq⟩, rfl⟩
              go_wp2_with fail
              refine ⟨⟨n + 1 + 1, by omega, by go_num, (Hb.out.trans Hq.out).trans hq⟩, ?_⟩
              simp [intOf]; omega
            case neg =>
              rcases (show k = 0 ∨ k = N + 1 by omega) with rfl | rfl
              · have hz : ((0 : Nat) : Int) - 1 = -1 := by omega
                rw [hz] at GT e0 ⊢
                clear hz
                have Hno := Lib.hid (show ¬ (0 ≤ (-1) ∧ (-1) < (tb.length : Int)) by have := HN.out; omega)
                have hh : hasT tb (-1) = false := by unfold hasT; rw [decide_eq_false Hno.out]
                have hg : getT tb (-1) = .node ⟨#[]⟩ [] := by unfold getT; rw [if_neg Hno.out]; rfl
                have GT2 : Hid (Calls Try.prog 35 #[.pointer (some ⟨B, 0, none⟩), .int .i64 (-1)] wr fun e w' => (∃ o c, e = .returned (.tuple #[.agg #[.string ⟨#[]⟩, .slice o 0 c], .bool false]) ∧ Kids Any w' [] o c) ∧ Pr wr w') := Lib.hid (GT.mono fun e w' ⟨l, ks, o, c, h1, _, h2, h3, h4⟩ => by
                  rw [hg] at h1
                  cases h1
                  rw [hh] at h2
                  exact ⟨⟨o, c, h2, h3.any⟩, h4⟩)
                clear GT hh hg hb hin hkN hlt Hno
                go_upto_region 24 with (go_at_call 35; (with_reducible refine Calls.mono GT2.out ?_); rintro e w4 ⟨⟨o5, c5, rfl, hk5⟩, hb4⟩)
                obtain ⟨V, hV⟩ : ∃ V, V = w4.alloc (.cells #[.string ⟨#[]⟩, .slice o5 0 c5] 24) := ⟨_, rfl⟩
                have hpV : Pr w4 V := by rw [hV]; exact Pr.alloc _ _
                have v0 := After.cell (show V.cell? ⟨w4.heap.size, 0, none⟩ = some (.string ⟨#[]⟩) by rw [hV]; simp [go_sem])
                have v1 := After.cell (show V.cell? ⟨w4.heap.size, 1, none⟩ = some (.slice o5 0 c5) by rw [hV]; simp [go_sem])
                rw [← hV]
                have S1 := Lib.hid (After.call (P := Try.prog) (v := .bool true) fun W' (h : Pr V W') => by
                  have := sameTree_any ⟨#[]⟩ ⟨#[]⟩ [] [] o5 c5 none 0 W' (hk5.pr (hpV.trans h)) (Kids.nil _ _ _ _ (Nat.zero_le _))
                  rw [Tr.beq_self] at this; simp only [List.length_nil] at this; exact this)
                have Hq := Lib.hid (hb4.trans hpV)
                clear hV hpV hb4 hk5
                refine wp_region_after (by kernel_rfl) (by kernel_rfl) ?_
                repeat (go_big_quiet_step (first | (go_at_call 16; with_reducible exact S1.out _)))
                refine wpQuiet_nil ?_
                rintro _ ⟨⟨w9, hq⟩, rfl⟩
                go_wp2_with fail
                refine ⟨⟨0 + 1, by omega, by go_num, (Hb.out.trans Hq.out).trans hq⟩, ?_⟩
                simp [intOf] <;> omega
              · have hz : ((N + 1 : Nat) : Int) - 1 = (N : Int) := by omega
                rw [hz] at GT e0 ⊢
                clear hz
                have Hno := Lib.hid (show ¬ (0 ≤ ((N : Int)) ∧ ((N : Int)) < (tb.length : Int)) by have := HN.out; omega)
                have hh : hasT tb ((N : Int)) = false := by unfold hasT; rw [decide_eq_false Hno.out]
                have hg : getT tb ((N : Int)) = .node ⟨#[]⟩ [] := by unfold getT; rw [if_neg Hno.out]; rfl
                have GT2 : Hid (Calls Try.prog 35 #[.pointer (some ⟨B, 0, none⟩), .int .i64 ((N : Int))] wr fun e w' => (∃ o c, e = .returned (.tuple #[.agg #[.string ⟨#[]⟩, .slice o 0 c], .bool false]) ∧ Kids Any w' [] o c) ∧ Pr wr w') := Lib.hid (GT.mono fun e w' ⟨l, ks, o, c, h1, _, h2, h3, h4⟩ => by
                  rw [hg] at h1
                  cases h1
                  rw [hh] at h2
                  exact ⟨⟨o, c, h2, h3.any⟩, h4⟩)
                have i1 : decide ((N : Int) < (N : Int)) = false := decide_eq_false (by omega)
                have i4 : decide ((0 : Int) ≤ (N : Int)) = true := decide_eq_true (by omega)
                clear GT hh hg hb hin hkN hlt Hno
                go_upto_region 24 with (go_at_call 35; (with_reducible refine Calls.mono GT2.out ?_); rintro e w4 ⟨⟨o5, c5, rfl, hk5⟩, hb4⟩)
                obtain ⟨V, hV⟩ : ∃ V, V = w4.alloc (.cells #[.string ⟨#[]⟩, .slice o5 0 c5] 24) := ⟨_, rfl⟩
                have hpV : Pr w4 V := by rw [hV]; exact Pr.alloc _ _
                have v0 := After.cell (show V.cell? ⟨w4.heap.size, 0, none⟩ = some (.string ⟨#[]⟩) by rw [hV]; simp [go_sem])
                have v1 := After.cell (show V.cell? ⟨w4.heap.size, 1, none⟩ = some (.slice o5 0 c5) by rw [hV]; simp [go_sem])
                rw [← hV]
                have S1 := Lib.hid (After.call (P := Try.prog) (v := .bool true) fun W' (h : Pr V W') => by
                  have := sameTree_any ⟨#[]⟩ ⟨#[]⟩ [] [] o5 c5 none 0 W' (hk5.pr (hpV.trans h)) (Kids.nil _ _ _ _ (Nat.zero_le _))
                  rw [Tr.beq_self] at this; simp only [List.length_nil] at this; exact this)
                have Hq := Lib.hid (hb4.trans hpV)
                clear hV hpV hb4 hk5
                refine wp_region_after (by kernel_rfl) (by kernel_rfl) ?_
                repeat (go_big_quiet_step (first | (go_at_call 16; with_reducible exact S1.out _)))
                refine wpQuiet_nil ?_
                rintro _ ⟨⟨w9, hq⟩, rfl⟩
                go_wp2_with fail
                refine ⟨⟨N + 1 + 1, by omega, by go_num, (Hb.out.trans Hq.out).trans hq⟩, ?_⟩
                simp [intOf]; omega
end Go.Proofs.Ytdbnfhpgmcjngac
