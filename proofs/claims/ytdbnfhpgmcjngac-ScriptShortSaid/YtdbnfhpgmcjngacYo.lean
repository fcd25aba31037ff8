/- What a 'Do' told, in three variables. -/
import Derived.Test.YtdbnfhpgmcjngacVf
import Derived.Test.YtdbnfhpgmcjngacDs
import Derived.Deep.DeepCutAuto
namespace Go.Proofs.Ytdbnfhpgmcjngac
open Go Go.RowKit

theorem alloc_secondD (w : World) (o1 o2 : Obj) : ((w.alloc o1).alloc o2).heap[w.heap.size + 1]? = some o2 := by simpa using heap_alloc_new (w.alloc o1) o2
def DoVars (S0 : Nat → Prop) (r : Tr × Dee × Nat) (V : World) (v1 v2 v3 : Value) (wx : World) : Prop := ∃ B1 B2 l ks oa cap k p a m s bp bc c, v1 = .pointer (some ⟨B1, 0, none⟩) ∧ v2 = .pointer (some ⟨B2, 0, none⟩) ∧ v3 = .int .i64 (c : Nat) ∧ r = (.node l ks, ⟨k, p, a, m, s⟩, c) ∧ l.size ≤ maxLen ∧
  wx.heap[B1]? = some (.cells #[.string l, .slice oa ks.length cap] 24 (0, 0)) ∧ wx.heap[B2]? = some (.cells #[.int .i64 k, .slice bp p.length bc, .int .i64 a, .int .i64 m, .string s] 45 (0, 0)) ∧ V.heap.size ≤ B1 ∧ V.heap.size ≤ B2 ∧
  Kids (fun j => S0 j ∨ V.heap.size ≤ j) wx ks oa cap ∧ Ints (fun j => S0 j ∨ V.heap.size ≤ j) wx p bp bc ∧ Pr V wx
theorem DoVars.mkb {S0 : Nat → Prop} {r : Tr × Dee × Nat} {V wq w4 wx : World} {l : ByteArray} {ks : List Tr} {oa cap} {k : Int} {p : List Int} {a m : Int} {s : ByteArray} {bp bc} {c : Nat} (B1 B2 : Nat) (hr : r = (.node l ks, ⟨k, p, a, m, s⟩, c)) (hl : l.size ≤ maxLen)
    (hk : Kids (fun j => S0 j ∨ wq.heap.size ≤ j) w4 ks oa cap) (hi : Ints (fun j => S0 j ∨ wq.heap.size ≤ j) w4 p bp bc) (hp : Pr V w4) (hB0 : ∀ j, S0 j → j < V.heap.size) (hq : V.heap.size ≤ wq.heap.size)
    (hB1 : V.heap.size ≤ B1) (hB2 : V.heap.size ≤ B2) (hch : Chg (fun k => k = B1 ∨ k = B2) w4 wx) (hn1 : B1 < wq.heap.size ∨ w4.heap.size ≤ B1) (hn2 : B2 < wq.heap.size ∨ w4.heap.size ≤ B2)
    (hA : wx.heap[B1]? = some (.cells #[.string l, .slice oa ks.length cap] 24 (0, 0))) (hF : wx.heap[B2]? = some (.cells #[.int .i64 k, .slice bp p.length bc, .int .i64 a, .int .i64 m, .string s] 45 (0, 0))) :
    DoVars S0 r V (.pointer (some ⟨B1, 0, none⟩)) (.pointer (some ⟨B2, 0, none⟩)) (.int .i64 (c : Nat)) wx :=
  have hc : ∀ j, (S0 j ∨ wq.heap.size ≤ j) → j < w4.heap.size → wx.heap[j]? = w4.heap[j]? ∧ (S0 j ∨ V.heap.size ≤ j) := fun j hj hl => ⟨hch.block j hl (by rcases hj with h | h; (have := hB0 j h; omega); omega), hj.imp id (fun h => by omega)⟩
  ⟨B1, B2, l, ks, oa, cap, k, p, a, m, s, bp, bc, c, rfl, rfl, rfl, hr, hl, hA, hF, hB1, hB2, hk.carry hc, Flat.carry hc hi,
    ((hp.chg (fun k => k = B1 ∨ k = B2)).trans hch (fun _ h => .inl h)).to_pr (fun k hk => by rcases hk with rfl | rfl <;> assumption)⟩
theorem setA_both {w4 : World} {A t : Nat} {a0 a1 : Value} (x y : Value) (o : Obj) (hA : w4.heap[A]? = some (.cells #[a0, a1] t (0, 0))) :
    let wx := ((w4.setCell ⟨A, 0, none⟩ x).setCell ⟨A, 1, none⟩ y).alloc o
    Chg (fun k => k = A ∨ k = w4.heap.size) w4 wx ∧ wx.heap[A]? = some (.cells #[x, y] t (0, 0)) ∧ wx.heap[w4.heap.size]? = some o := by
  intro wx
  refine ⟨(Chg.setCell (Chg.setCell (Chg.refl (fun k => k = A ∨ k = w4.heap.size) w4) ⟨A, 0, none⟩ x (.inl (.inl rfl))) ⟨A, 1, none⟩ y (.inl (.inl rfl))).pr (Pr.alloc _ _), (Pr.alloc _ _).blk (blk_set (o := 1) (blk_set (o := 0) hA x) y), ?_⟩
  simpa [wx] using heap_alloc_new ((w4.setCell ⟨A, 0, none⟩ x).setCell ⟨A, 1, none⟩ y) o
theorem setB_both {w4 : World} {F t : Nat} {f0 f1 f2 f3 f4 : Value} (v0 v1 v2 v3 v4 : Value) (o : Obj) (hF : w4.heap[F]? = some (.cells #[f0, f1, f2, f3, f4] t (0, 0))) :
    let wx := (set5 w4 F v0 v1 v2 v3 v4).alloc o
    Chg (fun k => k = w4.heap.size ∨ k = F) w4 wx ∧ wx.heap[w4.heap.size]? = some o ∧ wx.heap[F]? = some (.cells #[v0, v1, v2, v3, v4] t (0, 0)) := by
  intro wx
  refine ⟨(set5_chg v0 v1 v2 v3 v4 (Chg.refl (fun k => k = w4.heap.size ∨ k = F) w4) (.inl (.inr rfl))).pr (Pr.alloc _ _), ?_, (Pr.alloc _ _).blk (set5_blk v0 v1 v2 v3 v4 hF)⟩
  have h := heap_alloc_new (set5 w4 F v0 v1 v2 v3 v4) o
  rw [set5_size] at h; exact h
theorem set25_both {w4 u : World} {A F t s : Nat} {a0 a1 f0 f1 f2 f3 f4 : Value} (x y v0 v1 v2 v3 v4 : Value) (hp : Pr w4 u) (hA : u.heap[A]? = some (.cells #[a0, a1] t (0, 0))) (hF : u.heap[F]? = some (.cells #[f0, f1, f2, f3, f4] s (0, 0))) (hne : A ≠ F) :
    let wx := set5 ((u.setCell ⟨A, 0, none⟩ x).setCell ⟨A, 1, none⟩ y) F v0 v1 v2 v3 v4
    Chg (fun k => k = A ∨ k = F) w4 wx ∧ wx.heap[A]? = some (.cells #[x, y] t (0, 0)) ∧ wx.heap[F]? = some (.cells #[v0, v1, v2, v3, v4] s (0, 0)) := by
  intro wx
  have h1 : Chg (fun k => k = A) u ((u.setCell ⟨A, 0, none⟩ x).setCell ⟨A, 1, none⟩ y) := Chg.setCell (Chg.setCell (Chg.refl (fun k => k = A) u) ⟨A, 0, none⟩ x (.inl rfl)) ⟨A, 1, none⟩ y (.inl rfl)
  refine ⟨set5_chg v0 v1 v2 v3 v4 ((hp.chg (fun k => k = A ∨ k = F)).trans h1 (fun _ h => .inl (.inl h))) (.inl (.inr rfl)), ?_, ?_⟩
  · exact (set5_chg v0 v1 v2 v3 v4 (Chg.refl (fun k => k = F) _) (.inl rfl)).blk (blk_set (o := 1) (blk_set (o := 0) hA x) y) hne
  · exact set5_blk v0 v1 v2 v3 v4 (h1.blk hF (fun e => hne e.symm))
end Go.Proofs.Ytdbnfhpgmcjngac
