/- Walks: textBegun. -/
import Derived.Test.YtdbnfhpgmcjngabTf
import Derived.Test.YtdbnfhpgmcjngabWc
namespace Go.Proofs.Ytdbnfhpgmcjngab
open Go Go.RowKit

def kText : List Tr := [.node ⟨#[98]⟩ [], .node ⟨#[99]⟩ [.node ⟨#[100]⟩ []]]
theorem kText_text : textT (.node ⟨#[97]⟩ kText) = [97, 40, 98, 32, 99, 40, 100, 41, 41] := by decide
theorem kText_fault : fault (.node ⟨#[97]⟩ kText) = 0 := by decide
theorem kText_pr : prT (.node ⟨#[97]⟩ kText) = ⟨#[97, 40, 98, 32, 99, 40, 100, 41, 41]⟩ := by
  unfold prT; rw [if_pos kText_fault, kText_text]
theorem kText_parse (w : World) : Calls Try.prog 20 #[.string ⟨#[97, 40, 98, 32, 99, 40, 100, 41, 41]⟩] w fun e w' => ∃ oa cap, (e = .returned (.tuple #[.agg #[.string ⟨#[97]⟩, .slice oa 2 cap], .agg #[.int .i64 0, .int .i64 0]]) ∧ Kids Any w' kText oa cap) ∧ Pr w w' := by
  have h := parse_any ⟨#[97, 40, 98, 32, 99, 40, 100, 41, 41]⟩ w (by decide)
  have e1 : parseP [97, 40, 98, 32, 99, 40, 100, 41, 41] = (.node ⟨#[97]⟩ kText, 0, 0) := by rw [← kText_text]; exact parse_text kText_fault
  rw [show (ByteArray.mk #[97, 40, 98, 32, 99, 40, 100, 41, 41]).data.toList = [97, 40, 98, 32, 99, 40, 100, 41, 41] from rfl, e1] at h
  refine h.mono ?_
  rintro e w' ⟨l, ks, oa, cap, h1, h2, rfl, h3, h4⟩
  cases h1
  exact ⟨oa, cap, ⟨rfl, h3.any⟩, h4⟩
set_option maxRecDepth 100000 in
set_option maxHeartbeats 3200000 in
theorem textBegun_any (w : World) : Calls Try.prog 14 #[] w fun e w' => e = .returned (.bool true) ∧ Pr w w' := by
  have H1 := Lib.hid (kText_parse w)
  have H2 : Hid (∀ (oa : Option Addr) (cap : Nat) (W : World), Kids Any W kText oa cap → Calls Try.prog 17 #[.agg #[.string ⟨#[97]⟩, .slice oa 2 cap]] W fun e w' => e = .returned (.tuple #[.string ⟨#[97, 40, 98, 32, 99, 40, 100, 41, 41]⟩, .int .i64 0]) ∧ Pr W w') := Lib.hid fun oa cap W h => by
    have := print_any ⟨#[97]⟩ kText oa cap W (by decide) h
    rw [kText_pr, kText_fault] at this
    exact this
  go_enter Try.func14, Try.ntmps14
  go_wp2_with (first
    | (go_at_call 20; (with_reducible refine Calls.mono H1.out ?_); rintro e w1 ⟨oa, cap, ⟨rfl, hk⟩, hb⟩)
    | (go_at_call 17; (with_reducible refine Calls.mono (H2.out _ _ _ ((hk.pr (Pr.alloc _ _)).pr (Pr.alloc _ _))) ?_); rintro e w2 ⟨rfl, hb2⟩
       have c0 := hb2.cell (b := w1.heap.size + 1) (o := 0) (v := .int .i64 0) (by simp [go_sem]); have c1 := hb2.cell (b := w1.heap.size) (o := 1) (v := .slice oa 2 cap) (by simp [go_sem])))
  go_ret
  exact ⟨rfl, hb.trans (((Pr.alloc _ _).alloc' _).trans hb2)⟩
end Go.Proofs.Ytdbnfhpgmcjngab
