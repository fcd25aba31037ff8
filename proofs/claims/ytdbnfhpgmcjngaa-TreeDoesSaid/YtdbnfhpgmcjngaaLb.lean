/- The law TreeDoes: its walk. -/
import Derived.Test.YtdbnfhpgmcjngaaLa
namespace Go.Proofs.Ytdbnfhpgmcjngaa
open Go Go.RowKit

theorem great_false {t : Tr} (h : great t = false) : t.sz ≤ 200 := by
  unfold great at h; simp at h; omega
theorem great_sz {l : ByteArray} {ks : List Tr} (h : great (.node l ks) = false) : Tr.szL ks ≤ 199 := by
  have := great_false h; simp only [Tr.sz] at this; omega
theorem Tr.beq_self (t : Tr) : t.beq t = true := (Tr.beq_iff t t).2 rfl

set_option maxHeartbeats 1600000 in
theorem treeDoes_walk (l : ByteArray) (ks : List Tr) (oa cap) (m : ByteArray) (js : List Tr) (ob cbp) (p : List Int) (pa pc) (s : ByteArray) (w : World)
    (hl : l.size ≤ maxLen) (hk : Kids Any w ks oa cap) (_ : m.size ≤ maxLen) (hj : Kids Any w js ob cbp) (hp : Ints Any w p pa pc) (_ : ∀ x ∈ p, (Lit.int .i64 x).wf = true) (hs : s.size ≤ maxLen) :
    Calls Try.prog 3 #[.agg #[.string l, .slice oa ks.length cap], .agg #[.string m, .slice ob js.length cbp], .slice pa p.length pc, .string s] w fun e w' => e = .returned (.bool true) ∧ Pr w w' := by
  obtain ⟨W, hW⟩ : ∃ W, W = (w.alloc (.cells #[.string l, .slice oa ks.length cap] 24)).alloc (.cells #[.string m, .slice ob js.length cbp] 24) := ⟨_, rfl⟩
  have hwW : Pr w W := by rw [hW]; exact (Pr.alloc _ _).alloc' _
  have c0 : W.cell? ⟨w.heap.size, 0, none⟩ = some (.string l) := by rw [hW]; simp [go_sem]
  have c1 : W.cell? ⟨w.heap.size, 1, none⟩ = some (.slice oa ks.length cap) := by rw [hW]; simp [go_sem]
  have c2 : W.cell? ⟨w.heap.size + 1, 0, none⟩ = some (.string m) := by rw [hW]; simp [go_sem]
  have c3 : W.cell? ⟨w.heap.size + 1, 1, none⟩ = some (.slice ob js.length cbp) := by rw [hW]; simp [go_sem]
  have s0 := stays c0; have s1 := stays c1; have s2 := stays c2; have s3 := stays c3
  have hk' := hk.pr hwW; have hj' := hj.pr hwW; have hp' := Flat.pr hwW hp
  clear c0 c1 c2 c3 hk hj hp
  obtain ⟨ru1, ru2, ru3⟩ := Pr.rules W
  by_cases hg1 : great (.node l ks) = true
  · have Hg1 := Lib.hid hg1; clear hg1
    go_enter Try.func3, Try.ntmps3
    go_wp2_with fail
    rw [← hW]; clear hW
    go_wp2_with (first
      | (go_at_call 14; refine (treeBegun_any _).mono ?_; rintro e w' ⟨rfl, hc⟩)
      | (go_at_call 15; (with_reducible refine Calls.mono (great_any l ks _ _ _ (hk'.pr hc)) ?_); rintro e w' ⟨rfl, hb⟩; simp only [Hg1.out]; have hc := hc.trans hb))
    go_ret
    exact ⟨rfl, hwW.trans hc⟩
  have hg1' : great (.node l ks) = false := by simpa using hg1
  have hz1 := great_sz hg1'
  have Hg1 := Lib.hid hg1'; clear hg1 hg1'
  by_cases hg2 : great (.node m js) = true
  · have Hg2 := Lib.hid hg2; clear hg2
    go_enter Try.func3, Try.ntmps3
    go_wp2_with fail
    rw [← hW]; clear hW
    go_wp2_with (first
      | (go_at_call 14; refine (treeBegun_any _).mono ?_; rintro e w' ⟨rfl, hc⟩)
      | (go_at_call 15; (with_reducible refine Calls.mono (great_any l ks _ _ _ (hk'.pr hc)) ?_); rintro e w' ⟨rfl, hb⟩; simp only [Hg1.out]; have hc := hc.trans hb)
      | (go_at_call 15; (with_reducible refine Calls.mono (great_any m js _ _ _ (hj'.pr hc)) ?_); rintro e w' ⟨rfl, hb⟩; simp only [Hg2.out]; have hc := hc.trans hb))
    go_ret
    exact ⟨rfl, hwW.trans hc⟩
  have hg2' : great (.node m js) = false := by simpa using hg2
  have hz2 := great_sz hg2'
  have Hg2 := Lib.hid hg2'; clear hg2 hg2'
  by_cases hpl : 100 < p.length
  · have hpl' : (100 : Int) < p.length := by omega
    go_enter Try.func3, Try.ntmps3
    go_wp2_with fail
    rw [← hW]; clear hW
    go_wp2_with (first
      | (go_at_call 14; refine (treeBegun_any _).mono ?_; rintro e w' ⟨rfl, hc⟩)
      | (go_at_call 15; (with_reducible refine Calls.mono (great_any l ks _ _ _ (hk'.pr hc)) ?_); rintro e w' ⟨rfl, hb⟩; simp only [Hg1.out]; have hc := hc.trans hb)
      | (go_at_call 15; (with_reducible refine Calls.mono (great_any m js _ _ _ (hj'.pr hc)) ?_); rintro e w' ⟨rfl, hb⟩; simp only [Hg2.out]; have hc := hc.trans hb))
    go_ret
    exact ⟨rfl, hwW.trans hc⟩
  have hpl' : ¬ ((100 : Int) < p.length) := by omega
  by_cases hsl : 1000 < s.size
  · have hsl' : (1000 : Int) < s.size := by omega
    go_enter Try.func3, Try.ntmps3
    go_wp2_with fail
    rw [← hW]; clear hW
    go_wp2_with (first
      | (go_at_call 14; refine (treeBegun_any _).mono ?_; rintro e w' ⟨rfl, hc⟩)
      | (go_at_call 15; (with_reducible refine Calls.mono (great_any l ks _ _ _ (hk'.pr hc)) ?_); rintro e w' ⟨rfl, hb⟩; simp only [Hg1.out]; have hc := hc.trans hb)
      | (go_at_call 15; (with_reducible refine Calls.mono (great_any m js _ _ _ (hj'.pr hc)) ?_); rintro e w' ⟨rfl, hb⟩; simp only [Hg2.out]; have hc := hc.trans hb))
    go_ret
    exact ⟨rfl, hwW.trans hc⟩
  have hsl' : ¬ ((1000 : Int) < s.size) := by omega
  go_enter Try.func3, Try.ntmps3
  go_wp2_with fail
  rw [← hW]; clear hW
  go_wp2_with (first
    | (go_at_call 14; refine (treeBegun_any _).mono ?_; rintro e w' ⟨rfl, hc⟩)
    | (go_at_call 15; (with_reducible refine Calls.mono (great_any l ks _ _ _ (hk'.pr hc)) ?_); rintro e w' ⟨rfl, hb⟩; simp only [Hg1.out]; have hc := hc.trans hb)
    | (go_at_call 15; (with_reducible refine Calls.mono (great_any m js _ _ _ (hj'.pr hc)) ?_); rintro e w' ⟨rfl, hb⟩; simp only [Hg2.out]; have hc := hc.trans hb)
    | (go_at_call 16; (with_reducible refine Calls.mono (rown_any l ks _ _ _ (by omega) (hk'.pr hc)) ?_); rintro e wA ⟨oo, oc, rfl, ho, hb⟩; have hc := hc.trans hb; have ho := ho.any)
    | (go_at_call 17; (with_reducible refine Calls.mono (at_any l ks _ _ p _ _ _ (by omega) hl (ho.pr (Pr.alloc _ _)) (Flat.pr (hc.alloc' _) hp')) ?_); rintro e wB ⟨l3, ks3, oa3, cap3, he3, hl3, rfl, hk3, hb3⟩; have He3 := Lib.hid he3; clear he3; have hc := (hc.alloc' _).trans hb3)
    | (go_at_call 18; (with_reducible refine Calls.mono (rat_any p Any l ks _ _ _ _ _ hl (hk'.pr (hc.alloc' _)) (Flat.pr (hc.alloc' _) hp')) ?_); rintro e wC ⟨l4, ks4, oa4, cap4, he4, hl4, rfl, hk4, hb4⟩; have He4 := Lib.hid he4; clear he4; have hc := (hc.alloc' _).trans hb4))
  obtain ⟨W0, hW0⟩ : ∃ W0, W0 = wC.alloc (.cells #[.string l4, .slice oa4 ks4.length cap4] 24) := ⟨_, rfl⟩
  have pB : Pr (wA.alloc (.cells #[.string l, .slice oo ks.length oc] 24)) W0 := by rw [hW0]; exact ((hb3.alloc' _).trans hb4).alloc' _
  have pC : Pr (wB.alloc (.cells #[.string l3, .slice oa3 ks3.length cap3] 24)) W0 := by rw [hW0]; exact hb4.alloc' _
  have pW : Pr W W0 := by rw [hW0]; exact hc.alloc' _
  have x0 := stays (pB.cell (b := wA.heap.size) (o := 0) (v := .string l) (by simp [go_sem]))
  have x1 := stays (pB.cell (b := wA.heap.size) (o := 1) (v := .slice oo ks.length oc) (by simp [go_sem]))
  have x2 := stays (pC.cell (b := wB.heap.size) (o := 0) (v := .string l3) (by simp [go_sem]))
  have x3 := stays (pC.cell (b := wB.heap.size) (o := 1) (v := .slice oa3 ks3.length cap3) (by simp [go_sem]))
  have x4 : ∀ W', Pr W0 W' → W'.cell? ⟨wC.heap.size, 0, none⟩ = some (.string l4) := stays (by rw [hW0]; simp [go_sem])
  have x5 : ∀ W', Pr W0 W' → W'.cell? ⟨wC.heap.size, 1, none⟩ = some (.slice oa4 ks4.length cap4) := stays (by rw [hW0]; simp [go_sem])
  have y0 := stays (s0 _ pW); have y1 := stays (s1 _ pW); have y2 := stays (s2 _ pW); have y3 := stays (s3 _ pW)
  have kT := hk'.pr pW; have kU := hj'.pr pW
  have kO := (ho.pr (Pr.alloc _ _)).pr pB
  have kX := ((hk3.pr (Pr.alloc _ _)).pr pC).any
  have kY : Kids Any W0 ks4 oa4 cap4 := by rw [hW0]; exact (hk4.pr (Pr.alloc _ _)).any
  rw [← hW0]
  have hxy : Tr.node l3 ks3 = .node l4 ks4 := by rw [← He3.out, ← He4.out]
  have hxy2 := (Tr.beq_iff _ _).2 hxy
  have hsz : sizeR (Tr.szL ks + 1) 1000 = ((Tr.szL ks + 1 : Nat) : Int) := by unfold sizeR; omega
  clear s0 s1 s2 s3 pB pC hW0 hk' hj' ho hk3 hk4 hb3 hb4 He3 He4 hxy ru1 ru2 ru3 hp'
  have C1 : Hid (∀ (W' : World), Pr W0 W' → Calls Try.prog 19 #[.string s] W' fun e w' => e = .returned (.bool (isLab s)) ∧ Pr W' w') := fun W' _ => (lab_any s W' hs).mono fun _ _ h => ⟨h.1, h.2 ▸ Pr.refl _⟩
  have C2 : Hid (∀ (W' : World), Pr W0 W' → Calls Try.prog 20 #[.string s] W' fun e w' => e = .returned (.bool (isLab s)) ∧ Pr W' w') := fun W' _ => (isLabel_any s W' hs).mono fun _ _ h => ⟨h.1, h.2 ▸ Pr.refl _⟩
  have C3 : Hid (∀ (W' : World), Pr W0 W' → Calls Try.prog 21 #[.agg #[.string l, .slice oo ks.length oc]] W' fun e w' => e = .returned (.int .i64 (fault (.node l ks))) ∧ Pr W' w') := fun W' h => check_any l ks oo oc W' hl (kO.pr h)
  have C4 : Hid (∀ (W' : World), Pr W0 W' → Calls Try.prog 22 #[.agg #[.string l, .slice oa ks.length cap]] W' fun e w' => e = .returned (.int .i64 (fault (.node l ks))) ∧ Pr W' w') := fun W' h => treeFault_any l ks oa cap W' hl (kT.pr h)
  have C5 : Hid (∀ (W' : World), Pr W0 W' → Calls Try.prog 23 #[.agg #[.string l, .slice oo ks.length oc]] W' fun e w' => e = .returned (.int .i64 ((Tr.szL ks + 1 : Nat) : Int)) ∧ Pr W' w') := fun W' h => size_any _ l ks oo oc W' (Nat.lt_succ_self _) (by omega) (kO.pr h)
  have C6 : Hid (∀ (W' : World), Pr W0 W' → Calls Try.prog 24 #[.agg #[.string l, .slice oa ks.length cap], .int .i64 1000] W' fun e w' => e = .returned (.int .i64 ((Tr.szL ks + 1 : Nat) : Int)) ∧ Pr W' w') := fun W' h => by
    have := sizeOf_any _ l ks oa cap 1000 W' (Nat.lt_succ_self _) (by omega) (by omega) (kT.pr h); rw [hsz] at this; exact this
  have C7 : Hid (∀ (W' : World), Pr W0 W' → Calls Try.prog 25 #[.agg #[.string l, .slice oo ks.length oc], .agg #[.string m, .slice ob js.length cbp]] W' fun e w' => e = .returned (.bool ((Tr.node l ks).beq (.node m js))) ∧ Pr W' w') := fun W' h => psame_any l m ks js _ _ _ _ W' (kO.pr h) (kU.pr h)
  have C8 : Hid (∀ (W' : World), Pr W0 W' → Calls Try.prog 26 #[.agg #[.string l, .slice oa ks.length cap], .agg #[.string m, .slice ob js.length cbp]] W' fun e w' => e = .returned (.bool ((Tr.node l ks).beq (.node m js))) ∧ Pr W' w') := fun W' h => sameTree_any l m ks js _ _ _ _ W' (kT.pr h) (kU.pr h)
  have C9 : Hid (∀ (W' : World), Pr W0 W' → Calls Try.prog 27 #[.agg #[.string l, .slice oo ks.length oc]] W' fun e w' => ∃ oa2 cap2, e = .returned (.agg #[.string l, .slice oa2 ks.length cap2]) ∧ Kids Any w' ks oa2 cap2 ∧ Pr W' w') := fun W' h => (own_any l ks oo oc W' (by omega) (kO.pr h)).mono fun _ _ ⟨a, b, h1, h2, h3⟩ => ⟨a, b, h1, h2.any, h3⟩
  have C10 : Hid (∀ oz zc (W' : World), Pr W0 W' → Kids Any W' ks oz zc → Calls Try.prog 26 #[.agg #[.string l, .slice oz ks.length zc], .agg #[.string l, .slice oa ks.length cap]] W' fun e w' => e = .returned (.bool true) ∧ Pr W' w') := fun oz zc W' h hz => by
    have := sameTree_any l l ks ks oz zc oa cap W' hz (kT.pr h); rw [Tr.beq_self] at this; exact this
  have C11 : Hid (∀ (W' : World), Pr W0 W' → Calls Try.prog 26 #[.agg #[.string l3, .slice oa3 ks3.length cap3], .agg #[.string l4, .slice oa4 ks4.length cap4]] W' fun e w' => e = .returned (.bool true) ∧ Pr W' w') := fun W' h => by
    have := sameTree_any l3 l4 ks3 ks4 _ _ _ _ W' (kX.pr h) (kY.pr h); rw [hxy2] at this; exact this
  have C12 : Hid (∀ (W' : World), Pr W0 W' → Calls Try.prog 26 #[.agg #[.string l, .slice oo ks.length oc], .agg #[.string l, .slice oa ks.length cap]] W' fun e w' => e = .returned (.bool true) ∧ Pr W' w') := fun W' h => by
    have := sameTree_any l l ks ks _ _ _ _ W' (kO.pr h) (kT.pr h); rw [Tr.beq_self] at this; exact this
  clear hxy2 hsz kT kU kO kX kY
  have hc := Pr.drew W0
  go_region_held3 (fun W => Pr W0 W) (exact hc)
    (first
      | (go_at_call 19; (with_reducible refine Calls.mono (C1.out _ hc) ?_); rintro e w' ⟨rfl, hb'⟩; have hc := hc.trans hb')
      | (go_at_call 20; (with_reducible refine Calls.mono (C2.out _ hc) ?_); rintro e w' ⟨rfl, hb'⟩; have hc := hc.trans hb')
      | (go_at_call 21; (with_reducible refine Calls.mono (C3.out _ hc) ?_); rintro e w' ⟨rfl, hb'⟩; have hc := hc.trans hb')
      | (go_at_call 22; (with_reducible refine Calls.mono (C4.out _ hc) ?_); rintro e w' ⟨rfl, hb'⟩; have hc := hc.trans hb')
      | (go_at_call 23; (with_reducible refine Calls.mono (C5.out _ hc) ?_); rintro e w' ⟨rfl, hb'⟩; have hc := hc.trans hb')
      | (go_at_call 24; (with_reducible refine Calls.mono (C6.out _ hc) ?_); rintro e w' ⟨rfl, hb'⟩; have hc := hc.trans hb')
      | (go_at_call 25; (with_reducible refine Calls.mono (C7.out _ hc) ?_); rintro e w' ⟨rfl, hb'⟩; have hc := hc.trans hb')
      | (go_at_call 26; (with_reducible refine Calls.mono (C8.out _ hc) ?_); rintro e w' ⟨rfl, hb'⟩; have hc := hc.trans hb')
      | (go_at_call 26; (with_reducible refine Calls.mono (C11.out _ hc) ?_); rintro e w' ⟨rfl, hb'⟩; have hc := hc.trans hb')
      | (go_at_call 26; (with_reducible refine Calls.mono (C12.out _ hc) ?_); rintro e w' ⟨rfl, hb'⟩; have hc := hc.trans hb')
      | (go_at_call 27; (with_reducible refine Calls.mono (C9.out _ hc) ?_); rintro e w' ⟨oz, zc, rfl, hz, hb'⟩; have hc := hc.trans hb')
      | (go_at_call 26; (with_reducible refine Calls.mono (C10.out _ _ _ hc hz) ?_); rintro e w' ⟨rfl, hb'⟩; have hc := hc.trans hb'))
  go_wp2_with fail
  go_ret
  refine ⟨rfl, hwW.trans (pW.trans hc)⟩
end Go.Proofs.Ytdbnfhpgmcjngaa
