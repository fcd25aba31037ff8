/- How the laws on deeds begin. -/
import Derived.Test.YtdbnfhpgmcjngabEj
namespace Go.Proofs.Ytdbnfhpgmcjngab
open Go Go.RowKit

def dgT : Tr := .node ⟨#[97]⟩ [.node ⟨#[98]⟩ [.node ⟨#[99]⟩ []]]
def dgX : Tr := .node ⟨#[97]⟩ [.node ⟨#[99]⟩ []]
def dgD : Dee := ⟨2, [0], 0, 0, ⟨#[]⟩⟩
def dgB : Dee := ⟨3, [], 0, 1, ⟨#[98]⟩⟩
theorem dg_do : doD dgT dgD = (dgX, dgB, 0) := by decide +kernel
theorem dg_undo : doD dgX dgB = (dgT, dgD, 0) := by decide +kernel
theorem dg_chk : dfault ⟨2, [], 0, 0, ⟨#[]⟩⟩ = 8 := by decide
set_option maxRecDepth 100000 in
set_option maxHeartbeats 3200000 in
theorem deedBegun_any (w : World) : Calls Try.prog 23 #[] w fun e w' => e = .returned (.bool true) ∧ Pr w w' := by
  go_enter Try.func23, Try.ntmps23
  go_upto_region 2 with fail
  obtain ⟨W, hW⟩ : ∃ W, W = ((w.alloc (.cells #[.string ⟨#[99]⟩, .slice none 0 0] 24)).alloc (.cells #[.string ⟨#[98]⟩, .slice (some ⟨w.heap.size, 0, none⟩) 1 1] 24)).alloc (.cells #[.string ⟨#[97]⟩, .slice (some ⟨w.heap.size + 1, 0, none⟩) 1 1] 24) := ⟨_, rfl⟩
  have hwW : Pr w W := by rw [hW]; exact ((Pr.alloc _ _).alloc' _).alloc' _
  have c0 := stays (show W.cell? ⟨w.heap.size + 1 + 1, 0, none⟩ = some (.string ⟨#[97]⟩) by rw [hW]; simp [go_sem])
  have c1 := stays (show W.cell? ⟨w.heap.size + 1 + 1, 1, none⟩ = some (.slice (some ⟨w.heap.size + 1, 0, none⟩) 1 1) by rw [hW]; simp [go_sem])
  have hk : Kids Any W [.node ⟨#[98]⟩ [.node ⟨#[99]⟩ []]] (some ⟨w.heap.size + 1, 0, none⟩) 1 := by
    rw [hW]
    refine Kids.mk (by decide) (by decide) trivial (KidsAt.cons (cap := 1) (oa := some ⟨w.heap.size, 0, none⟩) (by simp [go_sem]) (by simp [go_sem]) (by decide) (Kids.mk (by decide) (by decide) trivial (KidsAt.cons (cap := 0) (oa := none) (by simp [go_sem]) (by simp [go_sem]) (by decide) (Kids.nil0 _ _) trivial)) trivial)
  rw [← hW]
  clear hW
  have D1 : Hid (∀ W' B, Pr W W' → W'.cell? ⟨B, 0, none⟩ = some (.int .i64 0) → Calls Try.prog 25 #[.agg #[.string ⟨#[97]⟩, .slice (some ⟨w.heap.size + 1, 0, none⟩) 1 1], .agg #[.int .i64 2, .slice (some ⟨B, 0, none⟩) 1 1, .int .i64 0, .int .i64 0, .string ⟨#[]⟩]] W' fun e w' =>
      (∃ oa cap bp bc, e = .returned (.tuple #[.agg #[.string ⟨#[97]⟩, .slice oa 1 cap], .agg #[.int .i64 3, .slice bp 0 bc, .int .i64 0, .int .i64 1, .string ⟨#[98]⟩], .int .i64 0]) ∧ Kids Any w' [.node ⟨#[99]⟩ []] oa cap ∧ Ints Any w' [] bp bc) ∧ Pr W' w') := Lib.hid fun W' B h hc => by
    have hi : Ints Any W' [0] (some ⟨B, 0, none⟩) 1 := Flat.mk (by decide) (by decide) trivial fun i hi => by
      match i, hi with
      | 0, _ => exact hc
    refine (deedDo_any ⟨#[97]⟩ [.node ⟨#[98]⟩ [.node ⟨#[99]⟩ []]] _ 1 2 [0] 0 0 ⟨#[]⟩ _ 1 W' (by decide) (hk.pr h) (by decide) hi (by decide)).mono ?_
    rintro e w' ⟨l, ks, oa, cap, k, p, a, m, s, bp, bc, c, hd, -, rfl, hk2, hi2, hp⟩
    have hd2 := hd.symm.trans dg_do
    simp only [dgX, dgB, Prod.mk.injEq, Tr.node.injEq, Dee.mk.injEq] at hd2
    obtain ⟨⟨rfl, rfl⟩, ⟨rfl, rfl, rfl, rfl, rfl⟩, rfl⟩ := hd2
    exact ⟨⟨oa, cap, bp, bc, rfl, hk2.any, hi2⟩, hp⟩
  have D2 : Hid (∀ W' oa cap bp bc, Kids Any W' [.node ⟨#[99]⟩ []] oa cap → Ints Any W' [] bp bc → Calls Try.prog 25 #[.agg #[.string ⟨#[97]⟩, .slice oa 1 cap], .agg #[.int .i64 3, .slice bp 0 bc, .int .i64 0, .int .i64 1, .string ⟨#[98]⟩]] W' fun e w' =>
      (∃ oa cap bp bc, e = .returned (.tuple #[.agg #[.string ⟨#[97]⟩, .slice oa 1 cap], .agg #[.int .i64 2, .slice bp 1 bc, .int .i64 0, .int .i64 0, .string ⟨#[]⟩], .int .i64 0]) ∧ Kids Any w' [.node ⟨#[98]⟩ [.node ⟨#[99]⟩ []]] oa cap) ∧ Pr W' w') := Lib.hid fun W' oa cap bp bc hk1 hi => by
    refine (deedDo_any ⟨#[97]⟩ [.node ⟨#[99]⟩ []] oa cap 3 [] 0 1 ⟨#[98]⟩ bp bc W' (by decide) hk1 (by decide) hi (by decide)).mono ?_
    rintro e w' ⟨l, ks, oa, cap, k, p, a, m, s, bp, bc, c, hd, -, rfl, hk2, hi2, hp⟩
    have hd2 := hd.symm.trans dg_undo
    simp only [dgT, dgD, Prod.mk.injEq, Tr.node.injEq, Dee.mk.injEq] at hd2
    obtain ⟨⟨rfl, rfl⟩, ⟨rfl, rfl, rfl, rfl, rfl⟩, rfl⟩ := hd2
    exact ⟨⟨oa, cap, bp, bc, rfl, hk2.any⟩, hp⟩
  have D3 : Hid (∀ W' oa cap, Pr W W' → Kids Any W' [.node ⟨#[98]⟩ [.node ⟨#[99]⟩ []]] oa cap → Calls Try.prog 58 #[.agg #[.string ⟨#[97]⟩, .slice oa 1 cap], .agg #[.string ⟨#[97]⟩, .slice (some ⟨w.heap.size + 1, 0, none⟩) 1 1]] W' fun e w' => e = .returned (.bool true) ∧ Pr W' w') := Lib.hid fun W' oa cap h h2 => by
    have := psame_any ⟨#[97]⟩ ⟨#[97]⟩ [.node ⟨#[98]⟩ [.node ⟨#[99]⟩ []]] [.node ⟨#[98]⟩ [.node ⟨#[99]⟩ []]] oa cap _ 1 W' h2 (hk.pr h); rw [Tr.beq_self] at this; exact this
  have D4 : Hid (∀ W', Calls Try.prog 27 #[.agg #[.int .i64 2, .slice none 0 0, .int .i64 0, .int .i64 0, .string ⟨#[]⟩]] W' fun e w' => e = .returned (.int .i64 8) ∧ Pr W' w') := Lib.hid fun W' => by
    have := dcheck_any 2 [] 0 0 ⟨#[]⟩ none 0 W' (by decide) (Flat.nil _ _ _ _ (Nat.zero_le _)); rw [dg_chk] at this; exact this
  clear hk
  have x0 := c0 _ (Pr.refl _); have x1 := c1 _ (Pr.refl _)
  go_upto_region 3 with (first
    | (go_at_call 25; (refine Calls.mono (D1.out _ _ (Pr.alloc _ _) (by simp [go_sem])) ?_); rintro e w1 ⟨⟨oa, cap, bp, bc, rfl, hk1, hi1⟩, hb⟩))
  obtain ⟨V, hV⟩ : ∃ V, V = (w1.alloc (.cells #[.string ⟨#[97]⟩, .slice oa 1 cap] 24)).alloc (.cells #[.int .i64 3, .slice bp 0 bc, .int .i64 0, .int .i64 1, .string ⟨#[98]⟩] 40) := ⟨_, rfl⟩
  have hpV : Pr w1 V := by rw [hV]; exact (Pr.alloc _ _).alloc' _
  have e0 := stays (show V.cell? ⟨w1.heap.size, 0, none⟩ = some (.string ⟨#[97]⟩) by rw [hV]; simp [go_sem])
  have e1 := stays (show V.cell? ⟨w1.heap.size, 1, none⟩ = some (.slice oa 1 cap) by rw [hV]; simp [go_sem])
  have f0 := stays (show V.cell? ⟨w1.heap.size + 1, 0, none⟩ = some (.int .i64 3) by rw [hV]; simp [go_sem])
  have f1 := stays (show V.cell? ⟨w1.heap.size + 1, 1, none⟩ = some (.slice bp 0 bc) by rw [hV]; simp [go_sem])
  have f2 := stays (show V.cell? ⟨w1.heap.size + 1, 2, none⟩ = some (.int .i64 0) by rw [hV]; simp [go_sem])
  have f3 := stays (show V.cell? ⟨w1.heap.size + 1, 3, none⟩ = some (.int .i64 1) by rw [hV]; simp [go_sem])
  have f4 := stays (show V.cell? ⟨w1.heap.size + 1, 4, none⟩ = some (.string ⟨#[98]⟩) by rw [hV]; simp [go_sem])
  rw [← hV]
  have hk1 := hk1.pr hpV
  have hi1 := Flat.pr hpV hi1
  have hWV : Pr W V := ((Pr.alloc _ _).trans hb).trans hpV
  obtain ⟨cb, co, cl, cks, coa, ccap, ce, -, rfl, g0, -, -⟩ := hk1.get 0 (by simp)
  cases ce
  simp only [Nat.zero_mul, Nat.add_zero] at g0
  have g0 := stays g0
  have y0 := e0 _ (Pr.refl _); have y1 := e1 _ (Pr.refl _); have y2 := f0 _ (Pr.refl _); have y3 := f1 _ (Pr.refl _); have y4 := f2 _ (Pr.refl _); have y5 := f3 _ (Pr.refl _); have y6 := f4 _ (Pr.refl _)
  clear hV hb x0 x1
  go_upto_region 4 with (first
    | (go_at_call 25; (refine Calls.mono (D2.out _ _ _ _ _ hk1 hi1) ?_); rintro e w2 ⟨⟨oa2, cap2, bp2, bc2, rfl, hk2⟩, hb2⟩))
  obtain ⟨U, hU⟩ : ∃ U, U = (w2.alloc (.cells #[.string ⟨#[97]⟩, .slice oa2 1 cap2] 24)).alloc (.cells #[.int .i64 2, .slice bp2 1 bc2, .int .i64 0, .int .i64 0, .string ⟨#[]⟩] 40) := ⟨_, rfl⟩
  have hpU : Pr w2 U := by rw [hU]; exact (Pr.alloc _ _).alloc' _
  have i0 := stays (show U.cell? ⟨w2.heap.size, 0, none⟩ = some (.string ⟨#[97]⟩) by rw [hU]; simp [go_sem])
  have i1 := stays (show U.cell? ⟨w2.heap.size, 1, none⟩ = some (.slice oa2 1 cap2) by rw [hU]; simp [go_sem])
  rw [← hU]
  have hVU : Pr V U := hb2.trans hpU
  have hk2 := hk2.pr hpU
  have y0 := e0 _ hVU; have y1 := e1 _ hVU; have y2 := f0 _ hVU; have y3 := f1 _ hVU; have y4 := f2 _ hVU; have y5 := f3 _ hVU; have y6 := f4 _ hVU; have y7 := g0 _ hVU; have y8 := i0 _ (Pr.refl _); have y9 := i1 _ (Pr.refl _); have x0 := c0 _ (hWV.trans hVU); have x1 := c1 _ (hWV.trans hVU)
  have hp := hwW.trans (hWV.trans hVU)
  have hWU := hWV.trans hVU
  clear hU e0 e1 f0 f1 f2 f3 f4 g0 i0 i1 c0 c1
  go_wp2_with (first
    | (go_at_call 58; (refine Calls.mono (D3.out _ _ _ hWU hk2) ?_); rintro e w3 ⟨rfl, hb3⟩; have hp := hp.trans hb3)
    | (go_at_call 27; (refine Calls.mono (D4.out _) ?_); rintro e w4 ⟨rfl, hb4⟩; have hp := hp.trans hb4))
  go_ret
  exact ⟨rfl, hp⟩
end Go.Proofs.Ytdbnfhpgmcjngab
