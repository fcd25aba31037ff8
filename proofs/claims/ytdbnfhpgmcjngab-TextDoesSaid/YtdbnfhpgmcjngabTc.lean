/- Walks: text.Parse; what it gives up by is caught. -/
import Derived.Test.YtdbnfhpgmcjngabTb
import Derived.Test.YtdbnfhpgmcjngabWb
import Derived.Recover
import Derived.WalkLawsBesides
namespace Go.Proofs.Ytdbnfhpgmcjngab
open Go Go.RowKit

theorem under_tgone : Try.prog.underlying 78 = Try.prog.underlying 33 := by kernel_rfl
theorem assert_tgone (x : Value) (T : TypeId) (W : World) (f : Array Field) (hu : Try.prog.underlying 78 = some (.struct f)) : (Instr.typeAssert (.iface 78 x) T 78 true).run Try.prog W = .ok (.tuple #[x, .bool true]) W := by
  simp [Instr.typeAssert, run_underlying hu]
theorem struct_tgone : ∃ f, Try.prog.underlying 78 = some (.struct f) := by
  have h : (Try.prog.underlying 78).isSome = true := by kernel_rfl
  have h2 : (match Try.prog.underlying 78 with | some (.struct _) => true | _ => false) = true := by kernel_rfl
  split at h2
  · rename_i f hf; exact ⟨f, hf⟩
  · cases h2
theorem pcatch_idle (A B : Nat) (w : World) :
    CallsD Try.prog 49 #[.pointer (some ⟨A, 0, none⟩), .pointer (some ⟨B, 0, none⟩)] .returning w fun e u' w' => e = .returned (.tuple #[]) ∧ u' = .returning ∧ w' = w := by
  refine callsD_of_wpS Try.func49 rfl fun c₀ cs hu => ?_
  apply wpS_seq
  apply wpS_region
  simp [wpOpsS, go_sem, recoverD, hu, Try.ntmps49, Exit.thenS]
  apply wpS_seq
  apply wpS_region
  simp [wpOpsS, go_sem, Exit.thenS]
  refine wpS_cond (t := false) (by simp [Act.eval]) ?_
  simp only [Bool.false_eq_true, if_false]
  refine wpS_of_wp (wp_skip ?_)
  cases c₀
  simp_all [bodyPostS, results, Try.results49]
theorem catch_blocks {W : World} {A B : Nat} {a0 a1 b0 b1 : Value} {S T : TypeId} (hA : W.heap[A]? = some (.cells #[a0, a1] S (0, 0))) (hB : W.heap[B]? = some (.cells #[b0, b1] T (0, 0))) (ne : A ≠ B) (x y z u : Value) :
    (((((W.setCell ⟨A, 0, none⟩ x).setCell ⟨A, 1, none⟩ y).setCell ⟨B, 0, none⟩ z).setCell ⟨B, 1, none⟩ u).drew).heap[A]? = some (.cells #[x, y] S (0, 0)) ∧ (((((W.setCell ⟨A, 0, none⟩ x).setCell ⟨A, 1, none⟩ y).setCell ⟨B, 0, none⟩ z).setCell ⟨B, 1, none⟩ u).drew).heap[B]? = some (.cells #[z, u] T (0, 0)) := by
  have h1 : ((W.setCell ⟨A, 0, none⟩ x).setCell ⟨A, 1, none⟩ y).heap[A]? = some (.cells #[x, y] S (0, 0)) := blk_set (o := 1) (blk_set (o := 0) hA x) y
  have h2 : ((W.setCell ⟨A, 0, none⟩ x).setCell ⟨A, 1, none⟩ y).heap[B]? = some (.cells #[b0, b1] T (0, 0)) := by
    rw [Below.heap_setCell _ _ _ _ (fun e => ne e.symm), Below.heap_setCell _ _ _ _ (fun e => ne e.symm)]; exact hB
  refine ⟨?_, ?_⟩
  · show (((W.setCell ⟨A, 0, none⟩ x).setCell ⟨A, 1, none⟩ y).setCell ⟨B, 0, none⟩ z |>.setCell ⟨B, 1, none⟩ u).heap[A]? = _
    rw [Below.heap_setCell _ _ _ _ ne, Below.heap_setCell _ _ _ _ ne]; exact h1
  · exact blk_set (o := 1) (blk_set (o := 0) h2 z) u
/-- What gave up is caught. -/
theorem pcatch_fail (A B : Nat) (c k : Int) (older : List PanicEntry) (w : World) (a0 a1 b0 b1 : Value)
    (h0 : w.heap[A]? = some (.cells #[a0, a1] 24 (0, 0))) (h1 : w.heap[B]? = some (.cells #[b0, b1] 33 (0, 0))) (ne : A ≠ B) :
    CallsD Try.prog 49 #[.pointer (some ⟨A, 0, none⟩), .pointer (some ⟨B, 0, none⟩)] (.panicking ({ v := .iface 78 (.agg #[.int .i64 c, .int .i64 k]), recovered := false } :: older)) w fun e u' w' =>
      e = .returned (.tuple #[]) ∧ u' = .panicking ({ v := .iface 78 (.agg #[.int .i64 c, .int .i64 k]), recovered := true } :: older) ∧
        (w'.cell? ⟨A, 0, none⟩ = some (.string ⟨#[]⟩) ∧ w'.cell? ⟨A, 1, none⟩ = some (.slice none 0 0) ∧ w'.cell? ⟨B, 0, none⟩ = some (.int .i64 c) ∧ w'.cell? ⟨B, 1, none⟩ = some (.int .i64 k)) ∧ Chg (fun j => j = A ∨ j = B) w w' := by
  obtain ⟨ft, hft⟩ := struct_tgone
  have hA0 : w.cell? ⟨A, 0, none⟩ = some a0 := blk_cell h0
  have hA1 : w.cell? ⟨A, 1, none⟩ = some a1 := blk_cell h0
  have hB0 : w.cell? ⟨B, 0, none⟩ = some b0 := blk_cell h1
  have hB1 : w.cell? ⟨B, 1, none⟩ = some b1 := blk_cell h1
  refine callsD_of_wpS Try.func49 rfl fun c₀ cs hu => ?_
  apply wpS_seq
  apply wpS_region
  simp [wpOpsS, go_sem, recoverD, hu, Try.ntmps49, Exit.thenS]
  apply wpS_seq
  apply wpS_region
  simp [wpOpsS, go_sem, Exit.thenS]
  refine wpS_cond (t := true) (by simp [Act.eval]) ?_
  simp only [if_true]
  apply wpS_seq
  apply wpS_region
  simp [wpOpsS, go_sem, Exit.thenS, assert_tgone _ _ _ _ hft]
  apply wpS_seq
  apply wpS_seq
  apply wpS_region
  simp [wpOpsS, go_sem, Exit.thenS]
  refine wpS_cond (t := false) (by simp [Act.eval]) ?_
  simp only [Bool.false_eq_true, if_false]
  refine wpS_of_wp (wp_skip ?_)
  simp only [Exit.thenS]
  obtain ⟨W, hW⟩ : ∃ W, W = w.alloc (.cells #[.int .i64 c, .int .i64 k] 78) := ⟨_, rfl⟩
  have hwW : Pr w W := by rw [hW]; exact Pr.alloc _ _
  have g0 := stays (show W.cell? ⟨w.heap.size, 0, none⟩ = some (.int .i64 c) by rw [hW]; simp [go_sem])
  have g1 := stays (show W.cell? ⟨w.heap.size, 1, none⟩ = some (.int .i64 k) by rw [hW]; simp [go_sem])
  have hA := hwW.blk h0
  have hB := hwW.blk h1
  have hlA := blk_lt h0
  have hlB := blk_lt h1
  refine wpS_of_wp ?_
  generalize hfr : Act.mk _ _ = fr
  obtain rfl : fr = { tmps := #[.pointer (some ⟨A, 0, none⟩), .pointer (some ⟨B, 0, none⟩), .iface 78 (.agg #[.int .i64 c, .int .i64 k]), .pointer (some ⟨w.heap.size, 0, none⟩), .bool true, .iface 78 (.agg #[.int .i64 c, .int .i64 k]), .iface 78 (.agg #[.int .i64 c, .int .i64 k]), .bool true,
     .tuple #[.agg #[.int .i64 c, .int .i64 k], .bool true], .iface 78 (.agg #[.int .i64 c, .int .i64 k]), .tuple #[.agg #[.int .i64 c, .int .i64 k], .bool true], .agg #[.int .i64 c, .int .i64 k], .bool true, .bool true, .bool false, undef, undef, undef], defers := [] } := by
    rw [← hfr]; kernel_rfl
  clear hfr
  rw [← hW]
  clear hW
  have e0 := hwW.cell hA0; have e1 := hwW.cell hA1; have e2 := hwW.cell hB0; have e3 := hwW.cell hB1
  have f0 : W.frozen? ⟨A, 0, none⟩ = false := blk_frozen hA
  have f1 : W.frozen? ⟨A, 1, none⟩ = false := blk_frozen hA
  have f2 : W.frozen? ⟨B, 0, none⟩ = false := blk_frozen hB
  have f3 : W.frozen? ⟨B, 1, none⟩ = false := blk_frozen hB
  have g0 := g0 _ (Pr.refl _); have g1 := g1 _ (Pr.refl _)
  have ne2 : ¬ B = A := fun e => ne e.symm
  have hfin := fun (x y z u : Value) => catch_blocks hA hB ne x y z u
  clear h0 h1 hA hB hA0 hA1 hB0 hB1
  have hc := fun (x y z u : Value) => ((((((hwW.chg (fun j => j = A ∨ j = B)).setCell ⟨A, 0, none⟩ x (.inl (.inl rfl))).setCell ⟨A, 1, none⟩ y (.inl (.inl rfl))).setCell ⟨B, 0, none⟩ z (.inl (.inr rfl))).setCell ⟨B, 1, none⟩ u (.inl (.inr rfl))).pr (Pr.drew _))
  go_region
  all_goals
    refine ⟨rfl, _, rfl, .tuple #[], by simp [results, Try.results49], rfl, rfl, ?_, hc _ _ _ _⟩
    exact ⟨blk_cell (hfin _ _ _ _).1, blk_cell (hfin _ _ _ _).1, blk_cell (hfin _ _ _ _).2, blk_cell (hfin _ _ _ _).2⟩
end Go.Proofs.Ytdbnfhpgmcjngab
