/- A variable that holds a tree. -/
import Derived.Test.YtdbnfhpgmcjngaaLa
namespace Go.Proofs.Ytdbnfhpgmcjngaa
open Go Go.RowKit

/-- A variable that holds a tree. -/
def TV (v : Value) (t : Tr) (wx : World) : Prop :=
  ∃ B l ks oa cap, v = .pointer (some ⟨B, 0, none⟩) ∧ t = .node l ks ∧ l.size ≤ maxLen ∧ wx.cell? ⟨B, 0, none⟩ = some (.string l) ∧ wx.cell? ⟨B, 1, none⟩ = some (.slice oa ks.length cap) ∧ Kids Any wx ks oa cap
theorem TV.pr {v : Value} {t : Tr} {a b : World} (h : TV v t a) (hp : Pr a b) : TV v t b := by
  obtain ⟨B, l, ks, oa, cap, h1, h2, h3, h4, h5, h6⟩ := h
  exact ⟨B, l, ks, oa, cap, h1, h2, h3, hp.cell h4, hp.cell h5, h6.pr hp⟩
/-- The variable was made behind the call. -/
theorem TV.new {w : World} {S : Nat → Prop} {l : ByteArray} {ks : List Tr} {oa cap} (hl : l.size ≤ maxLen) (hk : Kids S w ks oa cap) :
    TV (.pointer (some ⟨w.heap.size, 0, none⟩)) (.node l ks) (w.alloc (.cells #[.string l, .slice oa ks.length cap] 24)) :=
  ⟨_, l, ks, oa, cap, rfl, rfl, hl, by simp [go_sem], by simp [go_sem], (hk.pr (Pr.alloc _ _)).any⟩
/-- The variable was made ahead of the call. -/
theorem TV.set {w : World} {B : Nat} {S : Nat → Prop} {x : Array Value} {T : TypeId} (h0 : w.heap[B]? = some (.cells x T (0, 0))) (hx : x.size = 2) {l : ByteArray} {ks : List Tr} {oa cap} (hl : l.size ≤ maxLen)
    (hk : Kids S w ks oa cap) (hS : ¬ S B) :
    TV (.pointer (some ⟨B, 0, none⟩)) (.node l ks) ((w.setCell ⟨B, 0, none⟩ (.string l)).setCell ⟨B, 1, none⟩ (.slice oa ks.length cap)) := by
  have h1 := blk_set (o := 1) (blk_set (o := 0) h0 (.string l)) (.slice oa ks.length cap)
  refine ⟨_, l, ks, oa, cap, rfl, rfl, hl, ?_, ?_, ?_⟩
  · rw [blk_cell h1]; simp [hx]
  · rw [blk_cell h1]; simp [hx]
  · exact ((hk.setCell _ _ hS).setCell _ _ hS).any
end Go.Proofs.Ytdbnfhpgmcjngaa
