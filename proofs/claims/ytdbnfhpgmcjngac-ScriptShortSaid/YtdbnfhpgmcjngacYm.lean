/- The law ScriptShort: its walk. -/
import Derived.Test.YtdbnfhpgmcjngacYh
import Derived.Test.YtdbnfhpgmcjngacYo
import Derived.Test.YtdbnfhpgmcjngacYk
import Derived.Test.YtdbnfhpgmcjngacBpl
import Derived.Deep.DeepCutAuto
namespace Go.Proofs.Ytdbnfhpgmcjngac
open Go Go.RowKit

set_option maxRecDepth 100000 in
set_option maxHeartbeats 12800000 in
theorem scriptShort_walk (l : ByteArray) (ks : List Tr) (oa cap) (ds : List Dee) (da dc) (w : World) (hl : l.size ≤ maxLen) (hk : Kids Any w ks oa cap) (hd : Dees Any w ds da dc) (_ : True) :
    Calls Try.prog 6 #[.agg #[.string l, .slice oa ks.length cap], .slice da ds.length dc] w fun e w' => e = .returned (.bool true) ∧ Pr w w' := by
  obtain ⟨W, hW⟩ : ∃ W, W = w.alloc (.cells #[.string l, .slice oa ks.length cap] 24) := ⟨_, rfl⟩
  have hwW : Pr w W := by rw [hW]; exact Pr.alloc _ _
  have s0 := stays (show W.cell? ⟨w.heap.size, 0, none⟩ = some (.string l) by rw [hW]; simp [go_sem])
  have s1 := stays (show W.cell? ⟨w.heap.size, 1, none⟩ = some (.slice oa ks.length cap) by rw [hW]; simp [go_sem])
  have hk := hk.pr hwW
  have hd := hd.pr hwW
  have hdl := hd.len
  obtain ⟨ga, hga⟩ : ∃ b, b = great (.node l ks) := ⟨_, rfl⟩
  obtain ⟨gd, hgd⟩ : ∃ b, b = greatDs ds := ⟨_, rfl⟩
  have hgo : (ga || gd) = false → great (.node l ks) = false ∧ FewDs ds := fun h => by
    simp only [Bool.or_eq_false_iff] at h
    exact ⟨by rw [← hga]; exact h.1, greatDs_few (by rw [← hgd]; exact h.2)⟩
  have Hgo := Lib.hid hgo
  have G1 : Hid (∀ W', Pr W W' → Calls Try.prog 13 #[.agg #[.string l, .slice oa ks.length cap]] W' fun e w' => e = .returned (.bool ga) ∧ Pr W' w') := Lib.hid fun W' h => by rw [hga]; exact great_any l ks _ _ _ (hk.pr h)
  have G2 : Hid (∀ W', Pr W W' → Calls Try.prog 20 #[.slice da ds.length dc] W' fun e w' => e = .returned (.bool gd) ∧ Pr W' w') := Lib.hid fun W' h => by rw [hgd]; exact greatDsE_any ds da dc W' (hd.pr h)
  have HK := Lib.hid hk; have HD := Lib.hid hd; have HW := Lib.hid hwW
  clear hga hgd hgo hk hd hwW
  go_enter Try.func6, Try.ntmps6
  go_upto_region 1 with fail
  rw [← hW]; clear hW
  go_upto_region 3 with (first
    | (go_at_call 19; (with_reducible refine Calls.mono (scriptBegun_any _) ?_); rintro e w1 ⟨rfl, hc⟩))
  have z0 := s0 _ hc; have z1 := s1 _ hc
  have Hc := Lib.hid hc
  clear hc
  go_cut [20] from 15 to 19 (fun v wx => v = .bool (ga || gd) ∧ Pr w1 wx)
  case first =>
    have hp := Pr.refl w1
    cases ga <;> cases gd
    all_goals
      go_wp2_with (first
        | (go_at_call 13; (with_reducible refine Calls.mono (G1.out _ (Hc.out.trans hp)) ?_); rintro e w2 ⟨rfl, hb⟩; have hp := hp.trans hb)
        | (go_at_call 20; (with_reducible refine Calls.mono (G2.out _ (Hc.out.trans hp)) ?_); rintro e w3 ⟨rfl, hb⟩; have hp := hp.trans hb))
      go_meet
      case rel => exact ⟨rfl, hp⟩
  case rest =>
    obtain ⟨rfl, hp⟩ := hcut
    cases hbad : (ga || gd)
    case true =>
      go_wp2_with fail
      go_ret
      exact ⟨rfl, HW.out.trans (Hc.out.trans hp)⟩
    case false =>
      obtain ⟨hgr, hf1, hf2⟩ := Hgo.out hbad
      have hsz := great_false hgr
      rw [Tr.sz_node] at hsz
      obtain ⟨w2, hw2⟩ : ∃ w2, w2 = wc := ⟨_, rfl⟩
      subst hw2
      have hWp := Hc.out.trans hp
      have x0 := s0 _ hWp; have x1 := s1 _ hWp
      have hpl : ∀ d ∈ ds, d.path.length ≤ 100000 := fun d h => by have := hf2 d h; omega
      have OW := Lib.hid (rown_any l ks oa cap w2 (by omega) (HK.out.pr hWp))
      have HWp := Lib.hid hWp; have Hpl := Lib.hid hpl
      have TF := Lib.hid fun u (h : Pr W u) => treeFault_any l ks oa cap u hl (HK.out.pr h)
      obtain ⟨f, hf⟩ : ∃ f, f = fault (.node l ks) := ⟨_, rfl⟩
      rw [← hf] at TF
      have Hf := Lib.hid hf
      clear hpl hf2 hgr hsz hWp hf
      go_upto_region 6 with (go_at_call 21; (with_reducible refine Calls.mono OW.out ?_); rintro e w3 ⟨oc, cc, rfl, hk3, hb3⟩)
      obtain ⟨V, hV⟩ : ∃ V, V = w3.alloc (.cells #[.string l, .slice oc ks.length cc] 24) := ⟨_, rfl⟩
      have hpV : Pr w3 V := by rw [hV]; exact Pr.alloc _ _
      have hUV : V.heap[w3.heap.size]? = some (.cells #[.string l, .slice oc ks.length cc] 24 (0, 0)) := by rw [hV]; exact heap_alloc_new w3 _
      have hWV := HWp.out.trans (hb3.trans hpV)
      obtain ⟨Bu, hBu⟩ : ∃ Bu, Bu = w3.heap.size := ⟨_, rfl⟩
      have hkV : Kids (fun j => j ≠ Bu) V ks oc cc := (hk3.mono (fun j _ hl => by rw [hBu]; omega)).pr hpV
      have hWB : W.heap.size ≤ Bu := by rw [hBu]; exact Below.size (HWp.out.trans hb3)
      rw [← hV, ← hBu]
      rw [← hBu] at hUV
      have HWV := Lib.hid hWV; have HUV := Lib.hid hUV; have HkV := Lib.hid hkV
      clear hV hpV hk3 hb3 hWV x0 x1 hUV hkV hBu OW
      go_wp2_with fail
      go_loopw [6, 7] (fun v vi wr => ∃ (i n : Nat) (lu : ByteArray) (ku : List Tr) (ou : Option Addr) (cu : Nat), i ≤ ds.length ∧ n ≤ i ∧ vi = .int .i64 i ∧ v = .int .i64 n ∧ wr.heap[Bu]? = some (.cells #[.string lu, .slice ou ku.length cu] 24 (0, 0)) ∧ lu.size ≤ maxLen ∧ Kids (fun j => j ≠ Bu) wr ku ou cu ∧ Chg (fun k => k = Bu) V wr ∧ (f ≠ 0 → Tr.node lu ku = .node l ks) ∧ (f = 0 → fault (.node lu ku) = 0 ∧ costT (.node l ks) (.node lu ku) ≤ n)) (fun _ vi _ => ds.length - (intOf vi).toNat)
      case atStart => exact ⟨0, 0, l, ks, oc, cc, by omega, by omega, rfl, rfl, HUV.out, hl, HkV.out, Chg.refl _ _, fun _ => rfl, fun h => ⟨by rw [← Hf.out]; exact h, by rw [cost_self]; omega⟩⟩
      case round =>
        obtain ⟨i, n, lu, ku, ou, cu, hi, hni, rfl, rfl, hT, hlu, hku, hc, hne, heq⟩ := hrel
        have hzV := hc.size
        have hcp : ∀ u, Chg (fun k => k = Bu) V u → Pr W u := fun u h => ((HWV.out.chg (fun k => k = Bu)).trans h (fun _ h => .inl h)).to_pr (fun k hk => by omega)
        have Hcp := Lib.hid hcp
        have Hc9 := Lib.hid hc; have HT := Lib.hid hT; have Hku := Lib.hid hku; have Hne := Lib.hid hne; have Heq := Lib.hid heq
        have X0 := stays (blk_cell (o := 0) hT); have X1 := stays (blk_cell (o := 1) hT)
        have HWr := Lib.hid (hcp wr hc)
        clear hcp hc hT hku hne heq
        by_cases hlt : i < ds.length
        case pos =>
          obtain ⟨b9, o9, pa, pc, e9, k0, k1, k2, k3, k4, hpi, hls⟩ := (HD.out.pr HWr.out).get i hlt
          subst e9
          have hpl1 := Hpl.out _ (List.getElem_mem hlt)
          obtain ⟨d, hd⟩ : ∃ d, d = ds[i] := ⟨_, rfl⟩
          rw [← hd] at k0 k1 k2 k3 k4 hpi hls hpl1
          obtain ⟨k, p, a, m, s⟩ := d
          simp only at k0 k1 k2 k3 k4 hpi hls hpl1
          have RU : Hid (∀ u, Pr wr u → Calls Try.prog 25 #[.agg #[.string lu, .slice ou ku.length cu], .agg #[.int .i64 k, .slice pa p.length pc, .int .i64 a, .int .i64 m, .string s]] u (RDeedPostS (fun _ => False) u (.node lu ku) ⟨k, p, a, m, s⟩)) := Lib.hid fun u h =>
            (deedDoF_any lu ku ou cu k p a m s pa pc u hlu (Hku.out.any.pr h) hls (Flat.pr h hpi) hpl1).mono fun _ _ ⟨l2, ks2, oa2, cap2, k2, p2, a2, m2, s2, bp, bc, c, h1, h2, h3, h4, h5, h6⟩ => ⟨l2, ks2, oa2, cap2, k2, p2, a2, m2, s2, bp, bc, c, h1, h2, h3, h4.mono (fun _ hj _ => .inr hj), Flat.mono (fun _ hj _ => .inr hj) h5, h6⟩
          have k0 := stays k0; have k1 := stays k1; have k2 := stays k2; have k3 := stays k3; have k4 := stays k4
          have hB0 : ∀ j, (fun _ : Nat => False) j → j < wr.heap.size := fun j h => h.elim
          clear hd hpi hls
          go_upto_region 10 with fail
          go_cut [8, 9, 10] from 29 to 38 (fun v8 v9 v10 wx => DoVars (fun _ => False) (doD (.node lu ku) ⟨k, p, a, m, s⟩) wr v8 v9 v10 wx)
          case first =>
            go_region_held3 (fun W' => Pr wr W')
              (first | with_reducible exact Pr.drew wr | with_reducible exact (Pr.alloc _ _).drew' | with_reducible exact ((Pr.alloc _ _).alloc' _).drew' | with_reducible exact hp4 | with_reducible exact hp4.alloc' _ | with_reducible exact (hp4.alloc' _).alloc' _ | with_reducible exact Pr.setCell (Pr.setCell hp4 hzA _) hzA _ | with_reducible exact (Pr.setCell (Pr.setCell hp4 hzA _) hzA _).alloc' _ | with_reducible exact set5_pr _ _ _ _ _ (Pr.setCell (Pr.setCell hp4 hzA _) hzA _) hzB | with_reducible exact set5_pr _ _ _ _ _ hp4 hzB | with_reducible exact (set5_pr _ _ _ _ _ hp4 hzB).alloc' _)
              (first
                | (go_at_call 25; (with_reducible refine Calls.mono (RU.out _ (Pr.drew wr)) ?_); rintro e w4 ⟨l4, k4, o4, c4, kk, pp, aa, mm, ss, bp4, bc4, cc, hr4, hl4, rfl, hk4, hi4, hb4⟩; have hp4 := (Pr.drew wr).trans hb4)
                | (go_at_call 25; (with_reducible refine Calls.mono (RU.out _ ((Pr.alloc wr (.cells #[.string ⟨#[]⟩, .slice none 0 0] 24)).drew')) ?_); rintro e w4 ⟨l4, k4, o4, c4, kk, pp, aa, mm, ss, bp4, bc4, cc, hr4, hl4, rfl, hk4, hi4, hb4⟩; have hp4 := ((Pr.alloc wr (.cells #[.string ⟨#[]⟩, .slice none 0 0] 24)).drew').trans hb4; have zA := hb4.blk ((Pr.drew _).blk (heap_alloc_new wr (.cells #[.string ⟨#[]⟩, .slice none 0 0] 24))); have a0 := blk_cell (o := 0) zA; have a1 := blk_cell (o := 1) zA; have a2 := blk_frozen (o := 0) zA; have a3 := blk_frozen (o := 1) zA; have hzA := Nat.le_refl wr.heap.size; have n3 := blk_lt zA; have n1 := Nat.ne_of_lt (blk_lt zA); have n2 := Nat.ne_of_gt (blk_lt zA))
                | (go_at_call 25; (with_reducible refine Calls.mono (RU.out _ ((Pr.alloc wr (.cells #[.int .i64 0, .slice none 0 0, .int .i64 0, .int .i64 0, .string ⟨#[]⟩] 45)).drew')) ?_); rintro e w4 ⟨l4, k4, o4, c4, kk, pp, aa, mm, ss, bp4, bc4, cc, hr4, hl4, rfl, hk4, hi4, hb4⟩; have hp4 := ((Pr.alloc wr (.cells #[.int .i64 0, .slice none 0 0, .int .i64 0, .int .i64 0, .string ⟨#[]⟩] 45)).drew').trans hb4; have zB := hb4.blk ((Pr.drew _).blk (heap_alloc_new wr (.cells #[.int .i64 0, .slice none 0 0, .int .i64 0, .int .i64 0, .string ⟨#[]⟩] 45))); have b0 := blk_cell (o := 0) zB; have f0 := blk_frozen (o := 0) zB; have b1 := blk_cell (o := 1) zB; have f1 := blk_frozen (o := 1) zB; have b2 := blk_cell (o := 2) zB; have f2 := blk_frozen (o := 2) zB; have b3 := blk_cell (o := 3) zB; have f3 := blk_frozen (o := 3) zB; have b4 := blk_cell (o := 4) zB; have f4 := blk_frozen (o := 4) zB; have hzB := Nat.le_refl wr.heap.size; have n3 := blk_lt zB; have n1 := Nat.ne_of_lt (blk_lt zB); have n2 := Nat.ne_of_gt (blk_lt zB))
                | (go_at_call 25; (with_reducible refine Calls.mono (RU.out _ (((Pr.alloc wr (.cells #[.string ⟨#[]⟩, .slice none 0 0] 24)).alloc' (.cells #[.int .i64 0, .slice none 0 0, .int .i64 0, .int .i64 0, .string ⟨#[]⟩] 45)).drew')) ?_); rintro e w4 ⟨l4, k4, o4, c4, kk, pp, aa, mm, ss, bp4, bc4, cc, hr4, hl4, rfl, hk4, hi4, hb4⟩; have hp4 := (((Pr.alloc wr (.cells #[.string ⟨#[]⟩, .slice none 0 0] 24)).alloc' (.cells #[.int .i64 0, .slice none 0 0, .int .i64 0, .int .i64 0, .string ⟨#[]⟩] 45)).drew').trans hb4; have zA := hb4.blk ((Pr.drew _).blk ((Pr.alloc _ _).blk (heap_alloc_new wr (.cells #[.string ⟨#[]⟩, .slice none 0 0] 24)))); have zB := hb4.blk ((Pr.drew _).blk (alloc_secondD wr (.cells #[.string ⟨#[]⟩, .slice none 0 0] 24) (.cells #[.int .i64 0, .slice none 0 0, .int .i64 0, .int .i64 0, .string ⟨#[]⟩] 45))); have a0 := blk_cell (o := 0) zA; have a1 := blk_cell (o := 1) zA; have a2 := blk_frozen (o := 0) zA; have a3 := blk_frozen (o := 1) zA; have b0 := blk_cell (o := 0) zB; have f0 := blk_frozen (o := 0) zB; have b1 := blk_cell (o := 1) zB; have f1 := blk_frozen (o := 1) zB; have b2 := blk_cell (o := 2) zB; have f2 := blk_frozen (o := 2) zB; have b3 := blk_cell (o := 3) zB; have f3 := blk_frozen (o := 3) zB; have b4 := blk_cell (o := 4) zB; have f4 := blk_frozen (o := 4) zB; have hzA := Nat.le_refl wr.heap.size; have hzB := Nat.le_succ wr.heap.size)
                | (go_at_call 25; (with_reducible refine Calls.mono (RU.out _ (((Pr.alloc wr (.cells #[.int .i64 0, .slice none 0 0, .int .i64 0, .int .i64 0, .string ⟨#[]⟩] 45)).alloc' (.cells #[.string ⟨#[]⟩, .slice none 0 0] 24)).drew')) ?_); rintro e w4 ⟨l4, k4, o4, c4, kk, pp, aa, mm, ss, bp4, bc4, cc, hr4, hl4, rfl, hk4, hi4, hb4⟩; have hp4 := (((Pr.alloc wr (.cells #[.int .i64 0, .slice none 0 0, .int .i64 0, .int .i64 0, .string ⟨#[]⟩] 45)).alloc' (.cells #[.string ⟨#[]⟩, .slice none 0 0] 24)).drew').trans hb4; have zB := hb4.blk ((Pr.drew _).blk ((Pr.alloc _ _).blk (heap_alloc_new wr (.cells #[.int .i64 0, .slice none 0 0, .int .i64 0, .int .i64 0, .string ⟨#[]⟩] 45)))); have zA := hb4.blk ((Pr.drew _).blk (alloc_secondD wr (.cells #[.int .i64 0, .slice none 0 0, .int .i64 0, .int .i64 0, .string ⟨#[]⟩] 45) (.cells #[.string ⟨#[]⟩, .slice none 0 0] 24))); have a0 := blk_cell (o := 0) zA; have a1 := blk_cell (o := 1) zA; have a2 := blk_frozen (o := 0) zA; have a3 := blk_frozen (o := 1) zA; have b0 := blk_cell (o := 0) zB; have f0 := blk_frozen (o := 0) zB; have b1 := blk_cell (o := 1) zB; have f1 := blk_frozen (o := 1) zB; have b2 := blk_cell (o := 2) zB; have f2 := blk_frozen (o := 2) zB; have b3 := blk_cell (o := 3) zB; have f3 := blk_frozen (o := 3) zB; have b4 := blk_cell (o := 4) zB; have f4 := blk_frozen (o := 4) zB; have hzB := Nat.le_refl wr.heap.size; have hzA := Nat.le_succ wr.heap.size))
            all_goals
              go_wp2_with fail
              go_meet
              have hz4 := Below.size hp4
            all_goals first
              | exact DoVars.mkb w4.heap.size (w4.heap.size + 1) hr4 hl4 hk4 hi4 hp4 hB0 (by simp) hz4 (by omega) (((Pr.alloc _ _).alloc' _).chg _) (.inr (Nat.le_refl _)) (.inr (by omega)) ((Pr.alloc _ _).blk (heap_alloc_new w4 _)) (alloc_secondD w4 _ _)
              | exact DoVars.mkb (w4.heap.size + 1) w4.heap.size hr4 hl4 hk4 hi4 hp4 hB0 (by simp) (by omega) hz4 (((Pr.alloc _ _).alloc' _).chg _) (.inr (by omega)) (.inr (Nat.le_refl _)) (alloc_secondD w4 _ _) ((Pr.alloc _ _).blk (heap_alloc_new w4 _))
              | (obtain ⟨g1, g2, g3⟩ := setA_both (.string l4) (.slice o4 k4.length c4) (.cells #[.int .i64 kk, .slice bp4 pp.length bc4, .int .i64 aa, .int .i64 mm, .string ss] 45) zA
                 exact DoVars.mkb wr.heap.size w4.heap.size hr4 hl4 hk4 hi4 hp4 hB0 (by simp) (Nat.le_refl _) hz4 g1 (.inl (by simp)) (.inr (Nat.le_refl _)) g2 g3)
              | (obtain ⟨g1, g2, g3⟩ := set25_both (.string l4) (.slice o4 k4.length c4) (.int .i64 kk) (.slice bp4 pp.length bc4) (.int .i64 aa) (.int .i64 mm) (.string ss) (Pr.refl w4) zA zB (show wr.heap.size ≠ wr.heap.size + 1 by omega)
                 exact DoVars.mkb wr.heap.size (wr.heap.size + 1) hr4 hl4 hk4 hi4 hp4 hB0 (by simp; omega) (Nat.le_refl _) (by omega) g1 (.inl (by simp; omega)) (.inl (by simp)) g2 g3)
              | (obtain ⟨g1, g2, g3⟩ := set25_both (.string l4) (.slice o4 k4.length c4) (.int .i64 kk) (.slice bp4 pp.length bc4) (.int .i64 aa) (.int .i64 mm) (.string ss) (Pr.refl w4) zA zB (show wr.heap.size + 1 ≠ wr.heap.size by omega)
                 exact DoVars.mkb (wr.heap.size + 1) wr.heap.size hr4 hl4 hk4 hi4 hp4 hB0 (by simp; omega) (by omega) (Nat.le_refl _) g1 (.inl (by simp)) (.inl (by simp; omega)) g2 g3)
              | (obtain ⟨g1, g2, g3⟩ := setB_both (.int .i64 kk) (.slice bp4 pp.length bc4) (.int .i64 aa) (.int .i64 mm) (.string ss) (.cells #[.string l4, .slice o4 k4.length c4] 24) zB
                 exact DoVars.mkb w4.heap.size wr.heap.size hr4 hl4 hk4 hi4 hp4 hB0 (by simp) hz4 (Nat.le_refl _) g1 (.inr (Nat.le_refl _)) (.inl (by simp)) g2 g3)
          case rest =>
            obtain ⟨B1, B2, l2, ks2, o2, c2, kb, pb, ab, mb, sb, bp, bc, c, rfl, rfl, rfl, hdo, hl2, hA, _, hzA, _, hk2, _, hp2⟩ := hcut
            obtain ⟨X, hX⟩ : ∃ X, X = wc := ⟨_, rfl⟩
            subst hX
            have hBw : Bu < wr.heap.size := blk_lt HT.out
            have hcX : Chg (fun k => k = Bu) V X := Hc9.out.pr hp2
            have HcX := Lib.hid hcX
            have hWX := Hcp.out X hcX
            have y0 := s0 _ hWX; have y1 := s1 _ hWX
            clear RU hB0 k0 k1 k2 k3 k4 hcX
            by_cases hz : c = 0
            case neg =>
              have e1 : ((c : Int) == 0) = false := by simp; omega
              have e2 : ((c : Int) != 0) = true := by simp [bne_iff_ne]; omega
              by_cases hf0 : f = 0
              case neg =>
                have e3 : ((f : Int) != 0) = true := by simp [bne_iff_ne]; omega
                have TF2 := Lib.hid (TF.out X hWX)
                have HWX := Lib.hid hWX
                clear hdo hz hA hk2 hf0
                go_wp2_with (go_at_call 26; (with_reducible refine Calls.mono TF2.out ?_); rintro e w5 ⟨rfl, hb5⟩)
                go_ret
                exact ⟨rfl, HW.out.trans (HWX.out.trans hb5)⟩
              case pos =>
                obtain ⟨hfu, hcost⟩ := Heq.out hf0
                have hft : fault (.node l ks) = 0 := by rw [← Hf.out]; exact hf0
                subst hf0
                have TF2 := Lib.hid (TF.out X hWX)
                have DF := Lib.hid fun u (h : Pr X u) => diff_yes l ks oa cap lu ku ou cu u hl (HK.out.pr (hWX.trans h)) hlu ((Hku.out.any.pr hp2).pr h) hft hfu
                have hdl2 := (diff_ok hft hfu).2
                unfold DiffPost at DF
                rw [hdl2] at DF
                obtain ⟨N, hN⟩ : ∃ N, N = costT (.node l ks) (.node lu ku) := ⟨_, rfl⟩
                rw [← hN] at DF hcost
                have hTX := hp2.blk HT.out
                have hkX := Hku.out.pr hp2
                have X0 := fun u (h : Pr X u) => X0 u (hp2.trans h); have X1 := fun u (h : Pr X u) => X1 u (hp2.trans h)
                have s0 := fun u (h : Pr X u) => s0 u (hWX.trans h); have s1 := fun u (h : Pr X u) => s1 u (hWX.trans h)
                have e10 : ¬ (n < N) := by omega
                have HTX := Lib.hid hTX; have HkX := Lib.hid hkX; have HN := Lib.hid hN; have Hfu := Lib.hid hfu; have Hcost := Lib.hid hcost
                clear hdo hz hA hk2 hTX hkX hN hdl2 hft hfu hcost hWX
                go_wp2_with (first
                  | (go_at_call 26; (with_reducible refine Calls.mono TF2.out ?_); rintro e w5 ⟨rfl, hb5⟩; have t0 := s0 _ hb5; have t1 := s1 _ hb5; have t2 := X0 _ hb5; have t3 := X1 _ hb5)
                  | (go_at_call 27; (with_reducible refine Calls.mono (DF.out _ hb5) ?_); rintro e w6 ⟨o6, c6, rfl, _, hb6⟩))
                have hbX := hb5.trans hb6
                refine ⟨⟨i + 1, n, lu, ku, ou, cu, by omega, by omega, by go_num, rfl, hbX.blk HTX.out, hlu, HkX.out.pr hbX, HcX.out.pr hbX, fun h => absurd rfl h, fun _ => ⟨Hfu.out, by rw [← HN.out]; exact Hcost.out⟩⟩, ?_⟩
                simp [intOf]; omega
            case pos =>
              subst hz
              have hdc : (doD (.node lu ku) ⟨k, p, a, m, s⟩).2.2 = 0 := by rw [hdo]
              have hf0 : f = 0 := by
                by_cases h : f = 0
                · exact h
                · have h1 := Hne.out h
                  have h2 := (doD_ok.1 hdc).1
                  rw [h1, ← Hf.out] at h2
                  exact absurd h2 h
              obtain ⟨hfu, hcost⟩ := Heq.out hf0
              have hft : fault (.node l ks) = 0 := by rw [← Hf.out]; exact hf0
              have hf2 : fault (.node l2 ks2) = 0 := by have := doD_fault hdc; rw [hdo] at this; exact this
              have hcost2 : costT (.node l ks) (.node l2 ks2) ≤ n + 1 := by
                have h1 := cost_do hdc
                rw [hdo] at h1
                have h2 := cost_tri (.node l ks) (.node lu ku) (.node l2 ks2)
                simp only [] at h1
                omega
              subst hf0
              have hTX := hp2.blk HT.out
              have t0 := blk_cell (o := 0) hTX; have t1 := blk_cell (o := 1) hTX; have f0 := blk_frozen (o := 0) hTX; have f1 := blk_frozen (o := 1) hTX
              have n0 := blk_cell (o := 0) hA; have n1 := blk_cell (o := 1) hA
              obtain ⟨Y, hY⟩ : ∃ Y, Y = (X.setCell ⟨Bu, 0, none⟩ (.string l2)).setCell ⟨Bu, 1, none⟩ (.slice o2 ks2.length c2) := ⟨_, rfl⟩
              have hcY : Chg (fun k => k = Bu) X Y := by rw [hY]; exact Chg.setCell (Chg.setCell (Chg.refl (fun k => k = Bu) X) _ _ (.inl rfl)) _ _ (.inl rfl)
              have hTY : Y.heap[Bu]? = some (.cells #[.string l2, .slice o2 ks2.length c2] 24 (0, 0)) := by rw [hY]; exact blk_set (o := 1) (blk_set (o := 0) hTX _) _
              have hkY : Kids (fun j => j ≠ Bu) Y ks2 o2 c2 := hk2.carry fun j hj hl => by
                have hj' : j ≠ Bu := by rcases hj with h | h; exact h.elim; omega
                exact ⟨hcY.block j hl hj', hj'⟩
              have hcVY := HcX.out.trans hcY (fun _ h => .inl h)
              have hWY := Hcp.out Y hcVY
              have HY := Lib.hid hY
              go_upto_region 13 with fail
              rw [← HY.out]
              have TF2 := Lib.hid (TF.out Y hWY)
              have DF := Lib.hid fun u (h : Pr Y u) => diff_yes l ks oa cap l2 ks2 o2 c2 u hl (HK.out.pr (hWY.trans h)) hl2 (hkY.any.pr h) hft hf2
              have hdl2 := (diff_ok hft hf2).2
              unfold DiffPost at DF
              rw [hdl2] at DF
              obtain ⟨N, hN⟩ : ∃ N, N = costT (.node l ks) (.node l2 ks2) := ⟨_, rfl⟩
              rw [← hN] at DF hcost2
              have e10 : ¬ ((n : Int) + 1 < (N : Int)) := by omega
              have u1 : IntKind.i64.wrap ((n : Int) + 1) = (n : Int) + 1 := IntWalk.i64_in _ (by omega)
              have Y0 := stays (blk_cell (o := 0) hTY); have Y1 := stays (blk_cell (o := 1) hTY)
              have s0 := fun u (h : Pr Y u) => s0 u (hWY.trans h); have s1 := fun u (h : Pr Y u) => s1 u (hWY.trans h)
              have x0 := s0 _ (Pr.refl _); have x1 := s1 _ (Pr.refl _)
              have HTY := Lib.hid hTY; have HkY := Lib.hid hkY; have HN := Lib.hid hN; have Hf2 := Lib.hid hf2; have Hcost := Lib.hid hcost2; have HcVY := Lib.hid hcVY
              clear hdo hdc hA hk2 hTX hkY hN hdl2 hft hfu hcost hcost2 hWX hWY hTY hcY hcVY HY hY t0 t1 f0 f1 n0 n1 y0 y1 hf2
              go_wp2_with (first
                | (go_at_call 26; (with_reducible refine Calls.mono TF2.out ?_); rintro e w5 ⟨rfl, hb5⟩; have t0 := s0 _ hb5; have t1 := s1 _ hb5; have t2 := Y0 _ hb5; have t3 := Y1 _ hb5)
                | (go_at_call 27; (with_reducible refine Calls.mono (DF.out _ hb5) ?_); rintro e w6 ⟨o6, c6, rfl, _, hb6⟩))
              have hbY := hb5.trans hb6
              refine ⟨⟨i + 1, n + 1, l2, ks2, o2, c2, by omega, by omega, by go_num, by go_num, hbY.blk HTY.out, hl2, HkY.out.pr hbY, HcVY.out.pr hbY, fun h => absurd rfl h, fun _ => ⟨Hf2.out, by rw [← HN.out]; exact Hcost.out⟩⟩, ?_⟩
              simp [intOf]; omega
        case neg =>
          go_wp2_with fail
          go_ret
          exact ⟨rfl, HW.out.trans HWr.out⟩
end Go.Proofs.Ytdbnfhpgmcjngac
