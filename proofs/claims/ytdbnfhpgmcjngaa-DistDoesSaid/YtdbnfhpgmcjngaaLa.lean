/- The laws on trees: their walks. -/
import Derived.Test.YtdbnfhpgmcjngaaWf
namespace Go.Proofs.Ytdbnfhpgmcjngaa
open Go Go.RowKit

/-- A cell that is there stays. -/
theorem stays {W0 : World} {b o : Nat} {v : Value} (h : W0.cell? ⟨b, o, none⟩ = some v) : ∀ W, Pr W0 W → W.cell? ⟨b, o, none⟩ = some v := fun _ hp => hp.cell h

def tBeg : Tr := .node ⟨#[97]⟩ [.node ⟨#[98]⟩ [], .node ⟨#[99]⟩ [.node ⟨#[100]⟩ []]]

theorem great_false {t : Tr} (h : great t = false) : t.sz ≤ 200 := by
  unfold great at h; simp at h; omega
theorem great_sz {l : ByteArray} {ks : List Tr} (h : great (.node l ks) = false) : Tr.szL ks ≤ 199 := by
  have := great_false h; simp only [Tr.sz] at this; omega
theorem Tr.beq_self (t : Tr) : t.beq t = true := (Tr.beq_iff t t).2 rfl

/-- One tree more, ahead of others, where they lie. -/
theorem KidsAt.cons {S : Nat → Prop} {w : World} {l : ByteArray} {ks ts : List Tr} {oa : Option Addr} {cap b o : Nat} (h0 : w.cell? ⟨b, o, none⟩ = some (.string l)) (h1 : w.cell? ⟨b, o + 1, none⟩ = some (.slice oa ks.length cap)) (hl : l.size ≤ maxLen)
    (hk : Kids S w ks oa cap) (ht : KidsAt S w ts b (o + 2)) : KidsAt S w (.node l ks :: ts) b o := ⟨_, _, h0, h1, treeV_mk cap hl hk, ht⟩
theorem Kids.mk {S : Nat → Prop} {w : World} {ts : List Tr} {b o cap : Nat} (hc : ts.length ≤ cap) (hm : cap ≤ maxLen) (hS : S b) (h : KidsAt S w ts b o) : Kids S w ts (some ⟨b, o, none⟩) cap := ⟨⟨hc, hm⟩, b, o, fun _ => ⟨rfl, hS⟩, h⟩
theorem Kids.nil0 (S : Nat → Prop) (w : World) : Kids S w [] none 0 := Kids.nil _ _ _ _ (Nat.zero_le _)
theorem Flat.mk {S : Nat → Prop} {w : World} {vs : List Value} {b o cap : Nat} (hc : vs.length ≤ cap) (hm : cap ≤ maxLen) (hS : S b) (h : ∀ (i : Nat) (h : i < vs.length), w.cell? ⟨b, o + i, none⟩ = some vs[i]) : Flat S w vs (some ⟨b, o, none⟩) cap := ⟨⟨hc, hm⟩, b, o, fun _ => ⟨rfl, hS⟩, h⟩

def kBeg : List Tr := [.node ⟨#[98]⟩ [], .node ⟨#[99]⟩ [.node ⟨#[100]⟩ []]]
theorem beg_at : ((Tr.node ⟨#[97]⟩ kBeg).at? [1, 0]) = some (.node ⟨#[100]⟩ []) := by decide
theorem beg_fault : (fault (.node ⟨#[97]⟩ kBeg) : Int) = 0 := by decide
theorem zero_fault : (fault (.node ⟨#[]⟩ []) : Int) = 1 := by decide
theorem beg_size : Tr.szL kBeg + 1 = 4 := by decide
theorem beg_self : (Tr.node ⟨#[97]⟩ kBeg).beq (.node ⟨#[97]⟩ kBeg) = true := by decide
theorem beg_ne : (Tr.node ⟨#[97]⟩ kBeg).beq (.node ⟨#[100]⟩ []) = false := by decide
theorem abc_lab : isLab ⟨#[97, 98, 99]⟩ = true := by decide

set_option maxHeartbeats 800000 in
theorem treeBegun_any (w : World) : Calls Try.prog 14 #[] w fun e w' => e = .returned (.bool true) ∧ Pr w w' := by
  go_enter Try.func14, Try.ntmps14
  go_wp2_with fail
  obtain ⟨W, hW⟩ : ∃ W, W = (((w.alloc (.cells #[.string ⟨#[100]⟩, .slice none 0 0] 24)).alloc (.cells #[.string ⟨#[98]⟩, .slice none 0 0, .string ⟨#[99]⟩, .slice (some ⟨w.heap.size, 0, none⟩) 1 1] 24)).alloc (.cells #[.string ⟨#[97]⟩, .slice (some ⟨w.heap.size + 1, 0, none⟩) 2 2] 24)).alloc (.cells #[.int .i64 1, .int .i64 0] 3) := ⟨_, rfl⟩
  have hwW : Pr w W := by rw [hW]; exact (((Pr.alloc _ _).alloc' _).alloc' _).alloc' _
  have c0 : W.cell? ⟨w.heap.size + 1 + 1, 0, none⟩ = some (.string ⟨#[97]⟩) := by rw [hW]; simp [go_sem]
  have c1 : W.cell? ⟨w.heap.size + 1 + 1, 1, none⟩ = some (.slice (some ⟨w.heap.size + 1, 0, none⟩) 2 2) := by rw [hW]; simp [go_sem]
  have hk : Kids Any W kBeg (some ⟨w.heap.size + 1, 0, none⟩) 2 := by
    rw [hW]
    refine Kids.mk (by decide) (by decide) trivial (KidsAt.cons (cap := 0) (oa := none) (by simp [go_sem]) (by simp [go_sem]) (by decide) (Kids.nil0 _ _) (KidsAt.cons (cap := 1) (oa := some ⟨w.heap.size, 0, none⟩) (by simp [go_sem]) (by simp [go_sem]) (by decide) (Kids.mk (by decide) (by decide) trivial (KidsAt.cons (cap := 0) (oa := none) (by simp [go_sem]) (by simp [go_sem]) (by decide) (Kids.nil0 _ _) trivial)) trivial))
  have hp : Ints Any W [1, 0] (some ⟨w.heap.size + 1 + 1 + 1, 0, none⟩) 2 := by
    rw [hW]
    refine Flat.mk (by decide) (by decide) trivial fun i hi => ?_
    match i, hi with
    | 0, _ => simp [go_sem]
    | 1, _ => simp [go_sem]
  rw [← hW]
  clear hW
  refine (at_any _ kBeg _ 2 [1, 0] _ _ _ (by decide) (by decide) hk hp).mono ?_
  rintro e w1 ⟨l, ks, oa, cap, he, -, rfl, hk1, hb1⟩
  rw [beg_at] at he ⊢
  cases he
  go_wp2_with fail
  obtain ⟨W0, hW0⟩ : ∃ W0, W0 = w1.alloc (.cells #[.string ⟨#[100]⟩, .slice oa 0 cap] 24) := ⟨_, rfl⟩
  have h0 : Pr W W0 := by rw [hW0]; exact hb1.alloc' _
  have d0 : W0.cell? ⟨w1.heap.size, 0, none⟩ = some (.string ⟨#[100]⟩) := by rw [hW0]; simp [go_sem]
  have d1 : W0.cell? ⟨w1.heap.size, 1, none⟩ = some (.slice oa 0 cap) := by rw [hW0]; simp [go_sem]
  rw [← hW0]
  have hk1' : Kids Any W0 [] oa cap := by rw [hW0]; exact (hk1.pr (Pr.alloc _ _)).any
  clear hW0 hb1 hk1
  have s0 := stays (h0.cell c0); have s1 := stays (h0.cell c1); have s2 := stays d0; have s3 := stays d1
  have hk' := hk.pr h0
  have hc := Pr.drew W0
  have C1 : Hid (∀ W', Pr W0 W' → Calls Try.prog 21 #[.agg #[.string ⟨#[97]⟩, .slice (some ⟨w.heap.size + 1, 0, none⟩) 2 2]] W' fun e w' => e = .returned (.int .i64 0) ∧ Pr W' w') := fun W' h => by
    have := check_any ⟨#[97]⟩ kBeg _ 2 W' (by decide) (hk'.pr h); rw [beg_fault] at this; exact this
  have C2 : Hid (∀ W', Pr W0 W' → Calls Try.prog 23 #[.agg #[.string ⟨#[97]⟩, .slice (some ⟨w.heap.size + 1, 0, none⟩) 2 2]] W' fun e w' => e = .returned (.int .i64 4) ∧ Pr W' w') := fun W' h => by
    have := size_any _ ⟨#[97]⟩ kBeg _ 2 W' (Nat.lt_succ_self _) (by decide) (hk'.pr h); rw [beg_size] at this; exact this
  have C3 : Hid (∀ W', Pr W0 W' → Calls Try.prog 27 #[.agg #[.string ⟨#[97]⟩, .slice (some ⟨w.heap.size + 1, 0, none⟩) 2 2]] W' fun e w' => ∃ oa2 cap2, e = .returned (.agg #[.string ⟨#[97]⟩, .slice oa2 2 cap2]) ∧ Kids Any w' kBeg oa2 cap2 ∧ Pr W' w') := fun W' h => by
    refine (own_any ⟨#[97]⟩ kBeg _ 2 W' (by decide) (hk'.pr h)).mono ?_
    rintro e w' ⟨oa2, cap2, rfl, hk2, hb'⟩
    exact ⟨oa2, cap2, rfl, hk2.any, hb'⟩
  have C4 : Hid (∀ W' oa2 cap2, Pr W0 W' → Kids Any W' kBeg oa2 cap2 → Calls Try.prog 25 #[.agg #[.string ⟨#[97]⟩, .slice (some ⟨w.heap.size + 1, 0, none⟩) 2 2], .agg #[.string ⟨#[97]⟩, .slice oa2 2 cap2]] W' fun e w' => e = .returned (.bool true) ∧ Pr W' w') := fun W' oa2 cap2 h h2 => by
    have := psame_any ⟨#[97]⟩ ⟨#[97]⟩ kBeg kBeg _ 2 oa2 cap2 W' (hk'.pr h) h2; rw [beg_self] at this; exact this
  have C5 : Hid (∀ W', Pr W0 W' → Calls Try.prog 25 #[.agg #[.string ⟨#[97]⟩, .slice (some ⟨w.heap.size + 1, 0, none⟩) 2 2], .agg #[.string ⟨#[100]⟩, .slice oa 0 cap]] W' fun e w' => e = .returned (.bool false) ∧ Pr W' w') := fun W' h => by
    have := psame_any ⟨#[97]⟩ ⟨#[100]⟩ kBeg [] _ 2 oa cap W' (hk'.pr h) (hk1'.pr h); rw [beg_ne] at this; exact this
  have C6 : Hid (∀ W' : World, Calls Try.prog 19 #[.string ⟨#[97, 98, 99]⟩] W' fun e w' => e = .returned (.bool true) ∧ W' = w') := fun W' => by
    have := lab_any ⟨#[97, 98, 99]⟩ W' (by decide); rw [abc_lab] at this; exact this
  have C7 : Hid (∀ W' : World, Calls Try.prog 21 #[.agg #[.string ⟨#[]⟩, .slice none 0 0]] W' fun e w' => e = .returned (.int .i64 1) ∧ Pr W' w') := fun W' => by
    have := check_any ⟨#[]⟩ [] none 0 W' (by decide) (Kids.nil0 _ _); rw [zero_fault] at this; exact this
  clear c0 c1 d0 d1 hk hp hk' hk1'
  go_region_held3 (fun W => Pr W0 W) (exact hc)
    (first
      | (go_at_call 21; (with_reducible refine Calls.mono (C1.out _ hc) ?_); rintro e w' ⟨rfl, hb'⟩; have hc := hc.trans hb')
      | (go_at_call 23; (with_reducible refine Calls.mono (C2.out _ hc) ?_); rintro e w' ⟨rfl, hb'⟩; have hc := hc.trans hb')
      | (go_at_call 27; (with_reducible refine Calls.mono (C3.out _ hc) ?_); rintro e w' ⟨oa2, cap2, rfl, hk2, hb'⟩; have hc := hc.trans hb')
      | (go_at_call 25; (with_reducible refine Calls.mono (C4.out _ _ _ hc (by assumption)) ?_); rintro e w' ⟨rfl, hb'⟩; have hc := hc.trans hb')
      | (go_at_call 25; (with_reducible refine Calls.mono (C5.out _ hc) ?_); rintro e w' ⟨rfl, hb'⟩; have hc := hc.trans hb')
      | (go_at_call 19; (with_reducible refine Calls.mono (C6.out _) ?_); rintro e w' ⟨rfl, rfl⟩)
      | (go_at_call 21; (with_reducible refine Calls.mono (C7.out _) ?_); rintro e w' ⟨rfl, hb'⟩; have hc := hc.trans hb'))
  go_wp2_with fail
  go_ret
  exact ⟨rfl, hwW.trans (h0.trans hc)⟩
end Go.Proofs.Ytdbnfhpgmcjngaa
