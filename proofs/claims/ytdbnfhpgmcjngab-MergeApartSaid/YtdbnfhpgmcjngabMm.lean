/- How the laws on merging begin. -/
import Derived.Test.YtdbnfhpgmcjngabMl
namespace Go.Proofs.Ytdbnfhpgmcjngab
open Go Go.RowKit

def lf (c : UInt8) : Tr := .node ⟨#[c]⟩ []
def mgO : List Tr := [lf 98, lf 99]
def mgA : List Tr := [lf 120, lf 98, lf 99]
def mgB : List Tr := [lf 98, lf 99, lf 121]
def mgT : List Tr := [lf 120, lf 98, lf 99, lf 121]
theorem mg_merge : mergeT (.node ⟨#[97]⟩ mgO) (.node ⟨#[97]⟩ mgA) (.node ⟨#[97]⟩ mgB) = (.node ⟨#[97]⟩ mgT, [], 0) := by decide +kernel
theorem mg_clash : mergeT (lf 111) (lf 97) (lf 98) = (Tr.zero, [], 12) := by decide +kernel
theorem mg_common : (common mgA mgB).length = 2 := by decide +kernel
theorem merge_is {w : World} {l1 l2 l3 : ByteArray} {k1 k2 k3 : List Tr} {o1 o2 o3 : Option Addr} {c1 c2 c3 : Nat} (hl1 : l1.size ≤ maxLen) (hl2 : l2.size ≤ maxLen) (hl3 : l3.size ≤ maxLen) (hk1 : Kids Any w k1 o1 c1) (hk2 : Kids Any w k2 o2 c2) (hk3 : Kids Any w k3 o3 c3)
    (l : ByteArray) (ks : List Tr) (p : List Int) (c : Nat) (h : mergeT (.node l1 k1) (.node l2 k2) (.node l3 k3) = (.node l ks, p, c)) :
    Calls Try.prog 36 #[.agg #[.string l1, .slice o1 k1.length c1], .agg #[.string l2, .slice o2 k2.length c2], .agg #[.string l3, .slice o3 k3.length c3]] w fun e w' =>
      ((∃ oa cap pa pc, e = .returned (.tuple #[.agg #[.string l, .slice oa ks.length cap], .slice pa p.length pc, .int .i64 c]) ∧ Kids Any w' ks oa cap ∧ Ints Any w' p pa pc) ∧ l.size ≤ maxLen) ∧ Pr w w' := by
  refine (merge_any hl1 hl2 hl3 hk1 hk2 hk3).mono ?_
  rintro e w' ⟨l5, ks5, oa, cap, pa, pc, h1, h2, rfl, h3, h4, h5⟩
  rw [h] at h1 h4
  cases h1
  exact ⟨⟨⟨oa, cap, pa, pc, by rw [h], h3, h4⟩, h2⟩, h5⟩
theorem leaf_any (s : ByteArray) (w : World) : Calls Try.prog 71 #[.string s] w fun e w' => e = .returned (.agg #[.string s, .slice none 0 0]) ∧ Pr w w' := by
  go_enter Try.func71, Try.ntmps71
  go_wp2_with fail
  refine bodyPost_ret (v := .agg #[.string s, .slice none 0 0]) (by simp [results, Try.results71, go_sem]) rfl ⟨rfl, ?_⟩
  exact Pr.alloc _ _
set_option maxRecDepth 100000 in
set_option maxHeartbeats 3200000 in
theorem mergeBegun_any (w : World) : Calls Try.prog 34 #[] w fun e w' => e = .returned (.bool true) ∧ Pr w w' := by
  have hp := Pr.refl w
  go_enter Try.func34, Try.ntmps34
  go_upto_region 2 with (go_at_call 71; refine (leaf_any _ _).mono ?_; rintro e w1 ⟨rfl, hb⟩; have hp := hp.trans hb)
  obtain ⟨V1, hV1⟩ : ∃ V, V = (w1.alloc (.cells #[.string ⟨#[98]⟩, .slice none 0 0, .string ⟨#[99]⟩, .slice none 0 0] 24)).alloc (.cells #[.string ⟨#[97]⟩, .slice (some ⟨w1.heap.size, 0, none⟩) 2 2] 24) := ⟨_, rfl⟩
  have hk1 : Kids Any V1 mgO (some ⟨w1.heap.size, 0, none⟩) 2 := by
    rw [hV1]
    exact Kids.mk (by decide) (by decide) trivial (KidsAt.cons (cap := 0) (oa := none) (by simp [go_sem]) (by simp [go_sem]) (by decide) (Kids.nil0 _ _) (KidsAt.cons (cap := 0) (oa := none) (by simp [go_sem]) (by simp [go_sem]) (by decide) (Kids.nil0 _ _) (trivial)))
  have a1 := stays (show V1.cell? ⟨w1.heap.size + 1, 0, none⟩ = some (.string ⟨#[97]⟩) by rw [hV1]; simp [go_sem])
  have b1 := stays (show V1.cell? ⟨w1.heap.size + 1, 1, none⟩ = some (.slice (some ⟨w1.heap.size, 0, none⟩) 2 2) by rw [hV1]; simp [go_sem])
  have hw1 : Pr w1 V1 := by rw [hV1]; exact (Pr.alloc _ _).alloc' _
  have hp := hp.trans hw1
  rw [← hV1]
  clear hV1
  have hp1 := hp
  clear hp
  have hp := Pr.refl V1
  go_upto_region 3 with (go_at_call 71; refine (leaf_any _ _).mono ?_; rintro e w2 ⟨rfl, hb⟩; have hp := hp.trans hb)
  obtain ⟨V2, hV2⟩ : ∃ V, V = (w2.alloc (.cells #[.string ⟨#[120]⟩, .slice none 0 0, .string ⟨#[98]⟩, .slice none 0 0, .string ⟨#[99]⟩, .slice none 0 0] 24)).alloc (.cells #[.string ⟨#[97]⟩, .slice (some ⟨w2.heap.size, 0, none⟩) 3 3] 24) := ⟨_, rfl⟩
  have hk2 : Kids Any V2 mgA (some ⟨w2.heap.size, 0, none⟩) 3 := by
    rw [hV2]
    exact Kids.mk (by decide) (by decide) trivial (KidsAt.cons (cap := 0) (oa := none) (by simp [go_sem]) (by simp [go_sem]) (by decide) (Kids.nil0 _ _) (KidsAt.cons (cap := 0) (oa := none) (by simp [go_sem]) (by simp [go_sem]) (by decide) (Kids.nil0 _ _) (KidsAt.cons (cap := 0) (oa := none) (by simp [go_sem]) (by simp [go_sem]) (by decide) (Kids.nil0 _ _) (trivial))))
  have a2 := stays (show V2.cell? ⟨w2.heap.size + 1, 0, none⟩ = some (.string ⟨#[97]⟩) by rw [hV2]; simp [go_sem])
  have b2 := stays (show V2.cell? ⟨w2.heap.size + 1, 1, none⟩ = some (.slice (some ⟨w2.heap.size, 0, none⟩) 3 3) by rw [hV2]; simp [go_sem])
  have hw2 : Pr w2 V2 := by rw [hV2]; exact (Pr.alloc _ _).alloc' _
  have hp := hp.trans hw2
  rw [← hV2]
  clear hV2
  have hp2 := hp
  clear hp
  have hp := Pr.refl V2
  go_upto_region 4 with (go_at_call 71; refine (leaf_any _ _).mono ?_; rintro e w3 ⟨rfl, hb⟩; have hp := hp.trans hb)
  obtain ⟨V3, hV3⟩ : ∃ V, V = (w3.alloc (.cells #[.string ⟨#[98]⟩, .slice none 0 0, .string ⟨#[99]⟩, .slice none 0 0, .string ⟨#[121]⟩, .slice none 0 0] 24)).alloc (.cells #[.string ⟨#[97]⟩, .slice (some ⟨w3.heap.size, 0, none⟩) 3 3] 24) := ⟨_, rfl⟩
  have hk3 : Kids Any V3 mgB (some ⟨w3.heap.size, 0, none⟩) 3 := by
    rw [hV3]
    exact Kids.mk (by decide) (by decide) trivial (KidsAt.cons (cap := 0) (oa := none) (by simp [go_sem]) (by simp [go_sem]) (by decide) (Kids.nil0 _ _) (KidsAt.cons (cap := 0) (oa := none) (by simp [go_sem]) (by simp [go_sem]) (by decide) (Kids.nil0 _ _) (KidsAt.cons (cap := 0) (oa := none) (by simp [go_sem]) (by simp [go_sem]) (by decide) (Kids.nil0 _ _) (trivial))))
  have a3 := stays (show V3.cell? ⟨w3.heap.size + 1, 0, none⟩ = some (.string ⟨#[97]⟩) by rw [hV3]; simp [go_sem])
  have b3 := stays (show V3.cell? ⟨w3.heap.size + 1, 1, none⟩ = some (.slice (some ⟨w3.heap.size, 0, none⟩) 3 3) by rw [hV3]; simp [go_sem])
  have hw3 : Pr w3 V3 := by rw [hV3]; exact (Pr.alloc _ _).alloc' _
  have hp := hp.trans hw3
  rw [← hV3]
  clear hV3
  have hp3 := hp
  clear hp
  have hp := Pr.refl V3
  have M1 : Hid (Calls Try.prog 36 #[.agg #[.string ⟨#[97]⟩, .slice (some ⟨w1.heap.size, 0, none⟩) 2 2], .agg #[.string ⟨#[97]⟩, .slice (some ⟨w2.heap.size, 0, none⟩) 3 3], .agg #[.string ⟨#[97]⟩, .slice (some ⟨w3.heap.size, 0, none⟩) 3 3]] V3 fun e w' =>
      ((∃ oa cap pa pc, e = .returned (.tuple #[.agg #[.string ⟨#[97]⟩, .slice oa 4 cap], .slice pa 0 pc, .int .i64 0]) ∧ Kids Any w' mgT oa cap ∧ Ints Any w' [] pa pc) ∧ ByteArray.size ⟨#[97]⟩ ≤ maxLen) ∧ Pr V3 w') :=
    Lib.hid (merge_is (by decide) (by decide) (by decide) (hk1.pr (hp2.trans hp3)) (hk2.pr hp3) hk3 _ _ _ _ mg_merge)
  have M2 : Hid (∀ W', Calls Try.prog 36 #[.agg #[.string ⟨#[111]⟩, .slice none 0 0], .agg #[.string ⟨#[97]⟩, .slice none 0 0], .agg #[.string ⟨#[98]⟩, .slice none 0 0]] W' fun e w' =>
      ((∃ oa cap pa pc, e = .returned (.tuple #[.agg #[.string ⟨#[]⟩, .slice oa 0 cap], .slice pa 0 pc, .int .i64 12]) ∧ Kids Any w' [] oa cap ∧ Ints Any w' [] pa pc) ∧ ByteArray.size ⟨#[]⟩ ≤ maxLen) ∧ Pr W' w') :=
    Lib.hid (fun (W' : World) => merge_is (w := W') (l1 := ⟨#[111]⟩) (l2 := ⟨#[97]⟩) (l3 := ⟨#[98]⟩) (by decide) (by decide) (by decide) (Kids.nil0 _ _) (Kids.nil0 _ _) (Kids.nil0 _ _) ⟨#[]⟩ [] [] 12 mg_clash)
  have C1 : Hid (∀ W', Pr V3 W' → Calls Try.prog 40 #[.slice (some ⟨w2.heap.size, 0, none⟩) 3 3, .slice (some ⟨w3.heap.size, 0, none⟩) 3 3] W' (ComPost W' (pz (common mgA mgB)))) :=
    Lib.hid (fun (W' : World) (h : Pr V3 W') => common_any mgA mgB _ _ _ _ W' (hk2.pr (hp3.trans h)) (hk3.pr h) (by decide) (by decide))
  have hlen : (pz (common mgA mgB)).length = 2 := by rw [pz_length]; exact mg_common
  have a1' := a1 _ (hp2.trans hp3); have b1' := b1 _ (hp2.trans hp3); have a2' := a2 _ hp3; have b2' := b2 _ hp3; have a3' := a3 _ hp; have b3' := b3 _ hp
  have b2 := stays (b2 _ hp3)
  have Hp0 := Lib.hid (hp1.trans (hp2.trans hp3)); have Hlen := Lib.hid hlen
  clear hk1 hk2 hk3 hp1 hp2 hp3 a1 a2 b1 a3 hlen
  go_upto_region 5 with (go_at_call 36; (with_reducible refine Calls.mono M1.out ?_); rintro e w4 ⟨⟨⟨oa4, cap4, pa4, pc4, rfl, hk4, hi4⟩, hl4⟩, hb4⟩)
  obtain ⟨V4, hV4⟩ : ∃ V, V = w4.alloc (.cells #[.string ⟨#[97]⟩, .slice oa4 4 cap4] 24) := ⟨_, rfl⟩
  have b4 := stays (show V4.cell? ⟨w4.heap.size, 1, none⟩ = some (.slice oa4 4 cap4) by rw [hV4]; simp [go_sem])
  have hw4 : Pr w4 V4 := by rw [hV4]; exact Pr.alloc _ _
  obtain ⟨b5, o5, l5, ks5, oa5, cap5, e5, hl5, rfl, x0, x1, hk5⟩ := (hk4.pr hw4).get 3 (by decide)
  have e5' : lf 121 = .node l5 ks5 := e5
  cases e5'
  have x0 := stays x0
  have hp4 := hb4.trans hw4
  have hq := Pr.refl V4
  rw [← hV4]
  clear hV4 hb4 hw4 hk4 hi4 x1 hk5
  go_upto_region 6 with (first
    | (go_at_call 71; refine (leaf_any _ _).mono ?_; rintro e w5 ⟨rfl, hb⟩; have hq := hq.trans hb)
    | (go_at_call 36; (with_reducible refine Calls.mono (M2.out _) ?_); rintro e w6 ⟨⟨⟨oa6, cap6, pa6, pc6, rfl, hk6, hi6⟩, hl6⟩, hb6⟩; have hq := hq.trans hb6))
  obtain ⟨V6, hV6⟩ : ∃ V, V = w6.alloc (.cells #[.string ⟨#[]⟩, .slice oa6 0 cap6] 24) := ⟨_, rfl⟩
  have hq6 : Pr V4 V6 := by rw [hV6]; exact hq.alloc' _
  rw [← hV6]
  clear hV6
  have b4' := b4 _ hq6; have x0' := x0 _ hq6; have b2' := b2 _ (hp4.trans hq6); have b3' := b3 _ (hp4.trans hq6)
  have HC := Lib.hid (hp4.trans hq6)
  clear x0 b4 b2 b3 hq
  go_wp2_with (go_at_call 40; (with_reducible refine Calls.mono (C1.out _ HC.out) ?_); rintro e w7 ⟨v7, rfl, hv7, hb7⟩; obtain ⟨o7, c7, rfl, hp7⟩ := hv7.prs; rw [Hlen.out])
  go_ret
  exact ⟨rfl, Hp0.out.trans (HC.out.trans hb7)⟩
end Go.Proofs.Ytdbnfhpgmcjngab
