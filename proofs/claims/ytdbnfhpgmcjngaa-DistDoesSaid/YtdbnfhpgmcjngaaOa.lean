/- The laws on nodes: how they begin. -/
import Derived.Test.YtdbnfhpgmcjngaaWt
import Derived.Test.YtdbnfhpgmcjngaaWq
import Derived.Test.YtdbnfhpgmcjngaaWr
import Derived.Test.YtdbnfhpgmcjngaaLa
namespace Go.Proofs.Ytdbnfhpgmcjngaa
open Go Go.RowKit

theorem treeP_nds (t : Tr) (h : fault t = 0) : treeP (nds t) = (t, 0) := by
  have h1 := (fault_zero.1 h).1
  have h2 := t.sz_pos
  unfold treeP
  rw [nds_length, if_neg (by omega), if_neg (by omega), stk_nds]
  simp [h]

theorem beg_nds : nds (.node ⟨#[97]⟩ kBeg) = [⟨⟨#[98]⟩, 3, 0⟩, ⟨⟨#[100]⟩, 2, 1⟩, ⟨⟨#[99]⟩, 3, 1⟩, ⟨⟨#[97]⟩, -1, 0⟩] := by decide
theorem beg_fault' : fault (.node ⟨#[97]⟩ kBeg) = 0 := by decide
theorem beg_pathZ : pathZ (nds (.node ⟨#[97]⟩ kBeg)) 1 = [1, 0] := by
  rw [show (1 : Int) = ((1 : Nat) : Int) from rfl, pathZ_nat, pathN_nds]; decide
theorem bN : [(⟨⟨#[98]⟩, 3, 0⟩ : Nd), ⟨⟨#[100]⟩, 2, 1⟩, ⟨⟨#[99]⟩, 3, 1⟩, ⟨⟨#[97]⟩, -1, 0⟩].length = 4 := rfl

theorem ints_two (w : World) (a b : Int) : Ints Any (w.alloc (.cells #[.int .i64 a, .int .i64 b] 3)) [a, b] (some ⟨w.heap.size, 0, none⟩) 2 := by
  refine Flat.mk (by simp) (by decide) trivial fun i hi => ?_
  match i, hi with
  | 0, _ => simp [go_sem]
  | 1, _ => simp [go_sem]

set_option maxHeartbeats 800000 in
theorem orderBegun_any (w : World) : Calls Try.prog 28 #[] w fun e w' => e = .returned (.bool true) ∧ Pr w w' := by
  go_enter Try.func28, Try.ntmps28
  go_wp2_with fail
  obtain ⟨W, hW⟩ : ∃ W, W = ((w.alloc (.cells #[.string ⟨#[100]⟩, .slice none 0 0] 24)).alloc (.cells #[.string ⟨#[98]⟩, .slice none 0 0, .string ⟨#[99]⟩, .slice (some ⟨w.heap.size, 0, none⟩) 1 1] 24)) := ⟨_, rfl⟩
  have hwW : Pr w W := by rw [hW]; exact (Pr.alloc _ _).alloc' _
  have hk : Kids Any W kBeg (some ⟨w.heap.size + 1, 0, none⟩) 2 := by
    rw [hW]
    refine Kids.mk (by decide) (by decide) trivial (KidsAt.cons (cap := 0) (oa := none) (by simp [go_sem]) (by simp [go_sem]) (by decide) (Kids.nil0 _ _) (KidsAt.cons (cap := 1) (oa := some ⟨w.heap.size, 0, none⟩) (by simp [go_sem]) (by simp [go_sem]) (by decide) (Kids.mk (by decide) (by decide) trivial (KidsAt.cons (cap := 0) (oa := none) (by simp [go_sem]) (by simp [go_sem]) (by decide) (Kids.nil0 _ _) trivial)) trivial))
  rw [← hW]
  clear hW
  have C1 : Calls Try.prog 31 #[.agg #[.string ⟨#[97]⟩, .slice (some ⟨w.heap.size + 1, 0, none⟩) 2 2]] W fun e w' => ∃ g c, e = .returned (.tuple #[.slice (some ⟨g, 0, none⟩) 4 c, .int .i64 0]) ∧ Nds Any w' (nds (.node ⟨#[97]⟩ kBeg)) (some ⟨g, 0, none⟩) c ∧ Pr W w' := by
    refine (orderOf_any ⟨#[97]⟩ kBeg _ 2 W (by decide) hk).mono ?_
    rintro e w' ⟨_, h2, hb⟩
    obtain ⟨g, c, rfl, ho⟩ := h2 beg_fault'
    obtain ⟨oa, cp, hv, hn⟩ := ho.nds
    rw [nds_length] at hv
    cases hv
    exact ⟨g, c, rfl, hn.any, hb⟩
  refine C1.mono ?_
  rintro e w1 ⟨g, c, rfl, hn, hb1⟩
  clear C1 hk
  have C2 : Calls Try.prog 29 #[.slice (some ⟨g, 0, none⟩) 4 c] w1 fun e w' => ∃ oa cap, e = .returned (.tuple #[.agg #[.string ⟨#[97]⟩, .slice oa 2 cap], .int .i64 0]) ∧ Pr w1 w' := by
    refine (ordTree_any (nds (.node ⟨#[97]⟩ kBeg)) (by rw [beg_nds]; decide) _ _ w1 hn).mono ?_
    rintro e w' ⟨l, ks, oa, cap, he, _, rfl, _, hb⟩
    rw [treeP_nds _ beg_fault'] at he ⊢
    cases he
    exact ⟨oa, cap, rfl, hb⟩
  go_wp2_with fail
  refine C2.mono ?_
  rintro e w2 ⟨oa, cap, rfl, hb2⟩
  clear C2
  have hn2 := hn.pr (hb2.alloc' (.cells #[.string ⟨#[97]⟩, .slice oa 2 cap] 24))
  have hn3 := hn2
  rw [beg_nds] at hn3
  obtain ⟨b1, o1, e1, k0, k1, k2⟩ := hn3.get 1 (by decide)
  cases e1
  obtain ⟨b3, o3, e3, m0, m1, m2⟩ := hn3.get 3 (by decide)
  cases e3
  simp at k0 k1 k2 m0 m1 m2
  have C3 : Calls Try.prog 35 #[.slice (some ⟨g, 0, none⟩) 4 c, .int .i64 1] (w2.alloc (.cells #[.string ⟨#[97]⟩, .slice oa 2 cap] 24)) fun e w' => ∃ oa2 cap2, e = .returned (.slice oa2 2 cap2) ∧ Ints Any w' [1, 0] oa2 cap2 ∧ Pr (w2.alloc (.cells #[.string ⟨#[97]⟩, .slice oa 2 cap] 24)) w' := by
    refine (path_any (nds (.node ⟨#[97]⟩ kBeg)) (by decide) 1 _ c _ hn2).mono ?_
    rintro e w' ⟨v, rfl, hv, hb⟩
    rw [beg_pathZ] at hv
    obtain ⟨oa2, cap2, rfl, hi⟩ := hv.ints
    exact ⟨oa2, cap2, rfl, Flat.any hi, hb⟩
  have C4 : Hid (∀ W' oa2 cap2 ob2 cb2, Ints Any W' [1, 0] oa2 cap2 → Ints Any W' [1, 0] ob2 cb2 → Calls Try.prog 34 #[.slice oa2 2 cap2, .slice ob2 2 cb2] W' fun e w' => e = .returned (.bool true) ∧ Pr W' w') := fun W' oa2 cap2 ob2 cb2 h1 h2 => by
    have := sameInts_any [1, 0] [1, 0] oa2 cap2 ob2 cb2 W' h1 h2; simpa using this
  clear hn hn2 hn3
  have heq1 : ∀ W, (Op.equalIn 10000 51 (.agg #[.string ⟨#[100]⟩, .int .i64 2, .int .i64 1]) (.agg #[.string ⟨#[100]⟩, .int .i64 2, .int .i64 1])).run Try.prog W = .ok true W := fun W => by rw [node_equalIn 9998]; simp
  have heq2 : ∀ W, (Op.equalIn 10000 51 (.agg #[.string ⟨#[97]⟩, .int .i64 (-1), .int .i64 0]) (.agg #[.string ⟨#[97]⟩, .int .i64 (-1), .int .i64 0])).run Try.prog W = .ok true W := fun W => by rw [node_equalIn 9998]; simp
  have hgd := fun a b xs ys W => node_guard .eql a b xs ys W
  go_wp2_with (first
    | (go_at_call 35; refine C3.mono ?_; rintro e w3 ⟨oa2, cap2, rfl, hi3, hb3⟩)
    | (go_at_call 34; refine (C4.out _ _ _ _ _ (Flat.pr (Pr.alloc _ _) hi3) (ints_two _ 1 0)).mono ?_; rintro e w4 ⟨rfl, hb4⟩))
  go_ret
  exact ⟨rfl, hwW.trans (hb1.trans ((hb2.alloc' _).trans (hb3.trans ((Pr.alloc _ _).trans hb4))))⟩
end Go.Proofs.Ytdbnfhpgmcjngaa
