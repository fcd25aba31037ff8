/- The laws on distance: how they begin; that it is a distance; what is put above or beside. -/
import Derived.Test.YtdbnfhpgmcjngaaDf
namespace Go.Proofs.Ytdbnfhpgmcjngaa
open Go Go.RowKit

def kA : List Tr := [.node ⟨#[98]⟩ [.node ⟨#[99]⟩ []]]
def kB : List Tr := [.node ⟨#[99]⟩ [], .node ⟨#[100]⟩ []]

set_option maxHeartbeats 1600000 in
theorem distBegun_any (w : World) : Calls Try.prog 37 #[] w fun e w' => e = .returned (.bool true) ∧ Pr w w' := by
  go_enter Try.func37, Try.ntmps37
  go_wp2_with fail
  obtain ⟨W, hW⟩ : ∃ W, W = ((((w.alloc (.cells #[.string ⟨#[99]⟩, .slice none 0 0] 24)).alloc (.cells #[.string ⟨#[98]⟩, .slice (some ⟨w.heap.size, 0, none⟩) 1 1] 24)).alloc (.cells #[.string ⟨#[97]⟩, .slice (some ⟨w.heap.size + 1, 0, none⟩) 1 1] 24)).alloc
    (.cells #[.string ⟨#[99]⟩, .slice none 0 0, .string ⟨#[100]⟩, .slice none 0 0] 24)).alloc (.cells #[.string ⟨#[97]⟩, .slice (some ⟨w.heap.size + 1 + 1 + 1, 0, none⟩) 2 2] 24) := ⟨_, rfl⟩
  have hwW : Pr w W := by rw [hW]; exact ((((Pr.alloc _ _).alloc' _).alloc' _).alloc' _).alloc' _
  have hkA : Kids Any W kA (some ⟨w.heap.size + 1, 0, none⟩) 1 := by
    rw [hW]
    exact Kids.mk (by decide) (by decide) trivial (KidsAt.cons (cap := 1) (oa := some ⟨w.heap.size, 0, none⟩) (by simp [go_sem]) (by simp [go_sem]) (by decide) (Kids.mk (by decide) (by decide) trivial (KidsAt.cons (cap := 0) (oa := none) (by simp [go_sem]) (by simp [go_sem]) (by decide) (Kids.nil0 _ _) trivial)) trivial)
  have hkB : Kids Any W kB (some ⟨w.heap.size + 1 + 1 + 1, 0, none⟩) 2 := by
    rw [hW]
    exact Kids.mk (by decide) (by decide) trivial (KidsAt.cons (cap := 0) (oa := none) (by simp [go_sem]) (by simp [go_sem]) (by decide) (Kids.nil0 _ _) (KidsAt.cons (cap := 0) (oa := none) (by simp [go_sem]) (by simp [go_sem]) (by decide) (Kids.nil0 _ _) trivial))
  have C1 : Hid (Calls Try.prog 39 #[.agg #[.string ⟨#[97]⟩, .slice (some ⟨w.heap.size + 1, 0, none⟩) 1 1], .agg #[.string ⟨#[97]⟩, .slice (some ⟨w.heap.size + 1 + 1 + 1, 0, none⟩) 2 2]] W fun e w' => ∃ B, e = .returned (.tuple #[.pointer (some ⟨B, 0, none⟩), .int .i64 0]) ∧ TblOk w' B (nds dA) (nds dB) ∧ Pr W w') :=
    Lib.hid (distOf_yes ⟨#[97]⟩ kA _ 1 ⟨#[97]⟩ kB _ 2 W (by decide) hkA (by decide) hkB dA_fault dB_fault)
  have C2 : Hid (∀ (W' : World) B, TblOk W' B (nds dA) (nds dB) → Calls Try.prog 41 #[.pointer (some ⟨B, 0, none⟩)] W' fun e w' => e = .returned (.int .i64 2) ∧ Pr W' w') := Lib.hid fun W' B h => by
    have := cost_nds dA dB B W' h dA_fault dB_fault; rw [dAB_cost] at this; exact this
  have hbl := dAB_best
  have C3 : Hid (∀ (W' : World) B, TblOk W' B (nds dA) (nds dB) → Calls Try.prog 47 #[.pointer (some ⟨B, 0, none⟩)] W' fun e w' => ∃ oa cap, e = .returned (.slice oa (bestT dA dB).length cap) ∧ Pr W' w') := Lib.hid fun W' B h => by
    refine (best_nds dA dB B W' h dA_fault dB_fault).mono ?_
    rintro e w' ⟨v, rfl, ho, hb⟩
    obtain ⟨oa, cap, rfl, _⟩ := ho.prs
    rw [zp_length]
    exact ⟨oa, cap, rfl, hb⟩
  have hs1 : (nds dA).length ≤ 1000 := by rw [nds_length]; decide
  have hs2 : (nds dB).length ≤ 1000 := by rw [nds_length]; decide
  have C4 : Hid (∀ (W' : World) B, TblOk W' B (nds dA) (nds dB) → Calls Try.prog 40 #[.pointer (some ⟨B, 0, none⟩), .int .i64 0, .int .i64 0] W' fun e w' => e = .returned (.int .i64 0) ∧ Pr W' w') := Lib.hid fun W' B h => by
    have := pairT_any (nds dA) (nds dB) B W' h hs1 hs2 0 0; rw [dAB_pair] at this; exact this
  have C5 : Hid (∀ (W' : World) B, TblOk W' B (nds dA) (nds dB) → Calls Try.prog 40 #[.pointer (some ⟨B, 0, none⟩), .int .i64 (-1), .int .i64 0] W' fun e w' => e = .returned (.int .i64 (-1)) ∧ Pr W' w') := Lib.hid fun W' B h => by
    have := pairT_any (nds dA) (nds dB) B W' h hs1 hs2 (-1) 0; rw [dAB_pair1] at this; exact this
  generalize (bestT dA dB).length = bl at *
  have hbl' : (2 : Int) ≤ (bl : Int) := by omega
  rw [← hW]
  clear hW hkA hkB hs1 hs2
  go_wp2_with (first
    | (go_at_call 39; (with_reducible refine Calls.mono C1.out ?_); rintro e w1 ⟨B, rfl, hT, hb1⟩)
    | (go_at_call 41; (with_reducible refine Calls.mono (C2.out _ _ hT) ?_); rintro e w2 ⟨rfl, hb2⟩)
    | (go_at_call 47; (with_reducible refine Calls.mono (C3.out _ _ (hT.pr hb2)) ?_); rintro e w3 ⟨o3, c3, rfl, hb3⟩)
    | (go_at_call 40; (with_reducible refine Calls.mono (C4.out _ _ ((hT.pr hb2).pr hb3)) ?_); rintro e w4 ⟨rfl, hb4⟩)
    | (go_at_call 40; (with_reducible refine Calls.mono (C5.out _ _ (((hT.pr hb2).pr hb3).pr hb4)) ?_); rintro e w5 ⟨rfl, hb5⟩))
  go_ret
  exact ⟨rfl, hwW.trans (hb1.trans (hb2.trans (hb3.trans (hb4.trans hb5))))⟩
end Go.Proofs.Ytdbnfhpgmcjngaa
