/- The law ScriptRuns: its walk. -/
import Derived.Test.YtdbnfhpgmcjngacYh
import Derived.Test.YtdbnfhpgmcjngacYl
import Derived.Test.YtdbnfhpgmcjngacYj
import Derived.Deep.DeepCutAuto
namespace Go.Proofs.Ytdbnfhpgmcjngac
open Go Go.RowKit

set_option maxRecDepth 100000 in
set_option maxHeartbeats 6400000 in
theorem scriptRuns_walk (l : ByteArray) (ks : List Tr) (oa cap) (ds : List Dee) (da dc) (w : World) (hl : l.size ≤ maxLen) (hk : Kids Any w ks oa cap) (hd : Dees Any w ds da dc) (_ : True) :
    Calls Try.prog 4 #[.agg #[.string l, .slice oa ks.length cap], .slice da ds.length dc] w fun e w' => e = .returned (.bool true) ∧ Pr w w' := by
  obtain ⟨W, hW⟩ : ∃ W, W = w.alloc (.cells #[.string l, .slice oa ks.length cap] 24) := ⟨_, rfl⟩
  have hwW : Pr w W := by rw [hW]; exact Pr.alloc _ _
  have s0 := stays (show W.cell? ⟨w.heap.size, 0, none⟩ = some (.string l) by rw [hW]; simp [go_sem])
  have s1 := stays (show W.cell? ⟨w.heap.size, 1, none⟩ = some (.slice oa ks.length cap) by rw [hW]; simp [go_sem])
  have hk := hk.pr hwW
  have hd := hd.pr hwW
  have hdl := hd.len
  obtain ⟨ga, hga⟩ : ∃ b, b = great (.node l ks) := ⟨_, rfl⟩
  obtain ⟨gd, hgd⟩ : ∃ b, b = greatDs ds := ⟨_, rfl⟩
  have hgo : (ga || gd) = false → great (.node l ks) = false ∧ FewDs ds := fun h => by
    simp only [Bool.or_eq_false_iff] at h
    exact ⟨by rw [← hga]; exact h.1, greatDs_few (by rw [← hgd]; exact h.2)⟩
  have Hgo := Lib.hid hgo
  have G1 : Hid (∀ W', Pr W W' → Calls Try.prog 13 #[.agg #[.string l, .slice oa ks.length cap]] W' fun e w' => e = .returned (.bool ga) ∧ Pr W' w') := Lib.hid fun W' h => by rw [hga]; exact great_any l ks _ _ _ (hk.pr h)
  have G2 : Hid (∀ W', Pr W W' → Calls Try.prog 20 #[.slice da ds.length dc] W' fun e w' => e = .returned (.bool gd) ∧ Pr W' w') := Lib.hid fun W' h => by rw [hgd]; exact greatDsE_any ds da dc W' (hd.pr h)
  have HK := Lib.hid hk; have HD := Lib.hid hd; have HW := Lib.hid hwW
  clear hga hgd hgo hk hd hwW
  go_enter Try.func4, Try.ntmps4
  go_upto_region 1 with fail
  rw [← hW]; clear hW
  go_upto_region 3 with (first
    | (go_at_call 19; (with_reducible refine Calls.mono (scriptBegun_any _) ?_); rintro e w1 ⟨rfl, hc⟩))
  have z0 := s0 _ hc; have z1 := s1 _ hc
  have Hc := Lib.hid hc
  clear hc
  go_cut [19] from 14 to 18 (fun v wx => v = .bool (ga || gd) ∧ Pr w1 wx)
  case first =>
    have hp := Pr.refl w1
    cases ga <;> cases gd
    all_goals
      go_wp2_with (first
        | (go_at_call 13; (with_reducible refine Calls.mono (G1.out _ (Hc.out.trans hp)) ?_); rintro e w2 ⟨rfl, hb⟩; have hp := hp.trans hb)
        | (go_at_call 20; (with_reducible refine Calls.mono (G2.out _ (Hc.out.trans hp)) ?_); rintro e w3 ⟨rfl, hb⟩; have hp := hp.trans hb))
      go_meet
      case rel => exact ⟨rfl, hp⟩
  case rest =>
    obtain ⟨rfl, hp⟩ := hcut
    cases hbad : (ga || gd)
    case true =>
      go_wp2_with fail
      go_ret
      exact ⟨rfl, HW.out.trans (Hc.out.trans hp)⟩
    case false =>
      obtain ⟨hgr, hf1, hf2⟩ := Hgo.out hbad
      have hsz := great_false hgr
      rw [Tr.sz_node] at hsz
      obtain ⟨w2, hw2⟩ : ∃ w2, w2 = wc := ⟨_, rfl⟩
      subst hw2
      have hWp := Hc.out.trans hp
      have x0 := s0 _ hWp; have x1 := s1 _ hWp
      have hpl : ∀ d ∈ ds, d.path.length ≤ 100000 := fun d h => by have := hf2 d h; omega
      have OW := Lib.hid (rown_any l ks oa cap w2 (by omega) (HK.out.pr hWp))
      have R1 := Lib.hid fun u o c (h : Pr W u) (hk : Kids Any u ks o c) => run_any l ks o c ds da dc u hl hk (HD.out.pr h) hpl
      have R2 := Lib.hid fun u (h : Pr W u) => rrun_any l ks oa cap ds da dc u hl (HK.out.pr h) (HD.out.pr h) hpl
      have HWp := Lib.hid hWp
      clear hpl hf1 hf2 hgr hsz hWp
      go_upto_region 6 with (go_at_call 21; (with_reducible refine Calls.mono OW.out ?_); rintro e w3 ⟨oc, cc, rfl, hk3, hb3⟩)
      obtain ⟨V, hV⟩ : ∃ V, V = w3.alloc (.cells #[.string l, .slice oc ks.length cc] 24) := ⟨_, rfl⟩
      have hpV : Pr w3 V := by rw [hV]; exact Pr.alloc _ _
      have o0 := stays (show V.cell? ⟨w3.heap.size, 0, none⟩ = some (.string l) by rw [hV]; simp [go_sem])
      have o1 := stays (show V.cell? ⟨w3.heap.size, 1, none⟩ = some (.slice oc ks.length cc) by rw [hV]; simp [go_sem])
      have hWV := HWp.out.trans (hb3.trans hpV)
      have R3 := Lib.hid (R1.out V oc cc hWV (hk3.any.pr hpV))
      rw [← hV]
      have p0 := o0 _ (Pr.refl _); have p1 := o1 _ (Pr.refl _)
      have HWV := Lib.hid hWV; have HOK := Lib.hid (hk3.any.pr hpV)
      clear hV hpV hk3 hb3 hWV x0 x1 R1
      go_upto_region 7 with (go_at_call 22; (with_reducible refine Calls.mono R3.out ?_); rintro e w4 ⟨l4, k4, o4, c4, bs4, ob4, cb4, rc4, ri4, hr4, hl4, rfl, hk4, hd4, _, hb4⟩)
      obtain ⟨U, hU⟩ : ∃ U, U = (w4.alloc (.cells #[.string l4, .slice o4 k4.length c4] 24)).alloc (.cells #[.int .i64 rc4, .int .i64 ri4] 39) := ⟨_, rfl⟩
      have hpU : Pr w4 U := by rw [hU]; exact (Pr.alloc _ _).alloc' _
      have y0 := stays (show U.cell? ⟨w4.heap.size, 0, none⟩ = some (.string l4) by rw [hU]; simp [go_sem])
      have y1 := stays (show U.cell? ⟨w4.heap.size, 1, none⟩ = some (.slice o4 k4.length c4) by rw [hU]; simp [go_sem])
      have y2 := stays (show U.cell? ⟨w4.heap.size + 1, 0, none⟩ = some (.int .i64 rc4) by rw [hU]; simp [go_sem])
      have y3 := stays (show U.cell? ⟨w4.heap.size + 1, 1, none⟩ = some (.int .i64 ri4) by rw [hU]; simp [go_sem])
      have hVU := hb4.trans hpU
      have hWU := HWV.out.trans hVU
      rw [← hU]
      have R4 := Lib.hid (R2.out U hWU)
      have x0 := s0 _ hWU; have x1 := s1 _ hWU
      have o0 := fun u (h : Pr U u) => o0 u (hVU.trans h); have o1 := fun u (h : Pr U u) => o1 u (hVU.trans h)
      have Hk4 := Lib.hid (hk4.any.pr hpU); have Hd4 := Lib.hid (hd4.any.pr hpU); have HWU := Lib.hid hWU; have HOU := Lib.hid (HOK.out.pr hVU); have Hr4 := Lib.hid hr4
      clear hU hpU hk4 hd4 hb4 hVU hWU p0 p1 R2 hr4
      go_upto_region 8 with (go_at_call 23; (with_reducible refine Calls.mono R4.out ?_); rintro e w5 ⟨l5, k5, o5, c5, bs5, ob5, cb5, rc5, ri5, hr5, hl5, rfl, hk5, hd5, hb5⟩)
      have he := Hr4.out.symm.trans hr5
      simp only [Prod.mk.injEq, Tr.node.injEq] at he
      obtain ⟨⟨rfl, rfl⟩, rfl, rfl, rfl⟩ := he
      obtain ⟨X, hX⟩ : ∃ X, X = (w5.alloc (.cells #[.string l4, .slice o5 k4.length c5] 24)).alloc (.cells #[.int .i64 rc4, .int .i64 ri4] 39) := ⟨_, rfl⟩
      have hpX : Pr w5 X := by rw [hX]; exact (Pr.alloc _ _).alloc' _
      have v0 := stays (show X.cell? ⟨w5.heap.size, 0, none⟩ = some (.string l4) by rw [hX]; simp [go_sem])
      have v1 := stays (show X.cell? ⟨w5.heap.size, 1, none⟩ = some (.slice o5 k4.length c5) by rw [hX]; simp [go_sem])
      have v2 := stays (show X.cell? ⟨w5.heap.size + 1, 0, none⟩ = some (.int .i64 rc4) by rw [hX]; simp [go_sem])
      have v3 := stays (show X.cell? ⟨w5.heap.size + 1, 1, none⟩ = some (.int .i64 ri4) by rw [hX]; simp [go_sem])
      have hUX := hb5.trans hpX
      have hWX := HWU.out.trans hUX
      rw [← hX]
      have a0 := y0 _ hUX; have a1 := y1 _ hUX; have a2 := v0 _ (Pr.refl _); have a3 := v1 _ (Pr.refl _)
      have S1 : Hid (Calls Try.prog 16 #[.agg #[.string l4, .slice o4 k4.length c4], .agg #[.string l4, .slice o5 k4.length c5]] X fun e w' => e = .returned (.bool true) ∧ Pr X w') := Lib.hid (by
        have := sameTree_any l4 l4 k4 k4 o4 c4 o5 c5 X (Hk4.out.pr hUX) (hk5.pr hpX); rw [Tr.beq_self] at this; exact this)
      have S2 : Hid (∀ W', Pr X W' → Calls Try.prog 24 #[.slice ob4 bs4.length cb4, .slice ob5 bs4.length cb5] W' fun e w' => e = .returned (.bool true) ∧ Pr W' w') := Lib.hid fun W' h => by
        have := sameDeeds_any bs4 bs4 ob4 cb4 ob5 cb5 W' (Hd4.out.pr (hUX.trans h)) ((hd5.pr hpX).pr h); rw [decide_eq_true rfl] at this; exact this
      have S3 : Hid (∀ W', Pr X W' → Calls Try.prog 16 #[.agg #[.string l, .slice oc ks.length cc], .agg #[.string l, .slice oa ks.length cap]] W' fun e w' => e = .returned (.bool true) ∧ Pr W' w') := Lib.hid fun W' h => by
        have := sameTree_any l l ks ks oc cc oa cap W' (HOU.out.pr (hUX.trans h)) (HK.out.pr (hWX.trans h)); rw [Tr.beq_self] at this; exact this
      have heq : ∀ W, (Op.equalIn 10000 39 (.agg #[.int .i64 rc4, .int .i64 ri4]) (.agg #[.int .i64 rc4, .int .i64 ri4])).run Try.prog W = .ok true W := fun W => by rw [fault_equalIn 9998]; simp
      have hgd := fun a b xs ys W => fault_guard .eql a b xs ys W
      have HWX := Lib.hid hWX; have HUX := Lib.hid hUX
      clear hX hpX hb5 hk5 hd5 hr5 hUX hWX x0 x1
      go_wp2_with (first
        | (go_at_call 16; (with_reducible refine Calls.mono S1.out ?_); rintro e w6 ⟨rfl, hb6⟩)
        | (go_at_call 24; (with_reducible refine Calls.mono (S2.out _ hb6) ?_); rintro e w7 ⟨rfl, hb7⟩; have h67 := hb6.trans hb7; have e0 := y2 _ (HUX.out.trans h67); have e1 := y3 _ (HUX.out.trans h67); have e2 := v2 _ h67; have e3 := v3 _ h67; have e4 := o0 _ (HUX.out.trans h67); have e5 := o1 _ (HUX.out.trans h67); have e6 := s0 _ (HWX.out.trans h67); have e7 := s1 _ (HWX.out.trans h67))
        | (go_at_call 16; (with_reducible refine Calls.mono (S3.out _ h67) ?_); rintro e w8 ⟨rfl, hb8⟩))
      go_ret
      exact ⟨rfl, HW.out.trans (HWX.out.trans (h67.trans hb8))⟩
end Go.Proofs.Ytdbnfhpgmcjngac
