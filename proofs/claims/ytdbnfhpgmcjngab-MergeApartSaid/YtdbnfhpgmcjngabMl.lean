/- Walks: merge.Merge; what it gives up by is caught. -/
import Derived.Test.YtdbnfhpgmcjngabMk
import Derived.Test.YtdbnfhpgmcjngabWb
import Derived.Recover
namespace Go.Proofs.Ytdbnfhpgmcjngab
open Go Go.RowKit

theorem under_gone : Try.prog.underlying 100 = some (.slice 3) := by kernel_rfl
theorem assert_gone (x : Value) (T : TypeId) (W : World) : (Instr.typeAssert (.iface 100 x) T 100 true).run Try.prog W = .ok (.tuple #[x, .bool true]) W := by
  simp [Instr.typeAssert, run_underlying under_gone]
theorem Chg.to_pr' {X : Nat → Prop} {w w1 w2 : World} (h : Chg X w1 w2) (hp : Pr w w1) (hX : ∀ k, X k → w.heap.size ≤ k) : Pr w w2 :=
  ((hp.chg X).trans h (fun _ h => .inl h)).to_pr hX
/-- What gave up is caught: the path is laid, and the code. -/
theorem mcatch_clash (A B C : Nat) (oa : Option Addr) (n cap : Nat) (older : List PanicEntry) (w : World) (a0 a1 b0 c0 : Value)
    (h0 : w.cell? ⟨A, 0, none⟩ = some a0) (h1 : w.cell? ⟨A, 1, none⟩ = some a1) (h2 : w.cell? ⟨B, 0, none⟩ = some b0) (h3 : w.cell? ⟨C, 0, none⟩ = some c0)
    (f0 : w.frozen? ⟨A, 0, none⟩ = false) (f1 : w.frozen? ⟨A, 1, none⟩ = false) (f2 : w.frozen? ⟨B, 0, none⟩ = false) (f3 : w.frozen? ⟨C, 0, none⟩ = false) (ne1 : A ≠ B) (ne2 : A ≠ C) (ne3 : B ≠ C) :
    CallsD Try.prog 72 #[.pointer (some ⟨A, 0, none⟩), .pointer (some ⟨B, 0, none⟩), .pointer (some ⟨C, 0, none⟩)] (.panicking ({ v := .iface 100 (.slice oa n cap), recovered := false } :: older)) w fun e u' w' =>
      e = .returned (.tuple #[]) ∧ u' = .panicking ({ v := .iface 100 (.slice oa n cap), recovered := true } :: older) ∧
        w' = (((w.setCell ⟨A, 0, none⟩ (.string ⟨#[]⟩)).setCell ⟨A, 1, none⟩ (.slice none 0 0)).setCell ⟨B, 0, none⟩ (.slice oa n cap)).setCell ⟨C, 0, none⟩ (.int .i64 12) := by
  refine callsD_of_wpS Try.func72 rfl fun c₀ cs hu => ?_
  apply wpS_seq
  apply wpS_region
  simp [wpOpsS, go_sem, recoverD, hu, Try.ntmps72, Exit.thenS]
  apply wpS_seq
  apply wpS_region
  simp [wpOpsS, go_sem, Exit.thenS]
  refine wpS_cond (t := true) (by simp [Act.eval]) ?_
  simp only [if_true]
  apply wpS_seq
  apply wpS_region
  simp [wpOpsS, go_sem, Exit.thenS, assert_gone]
  apply wpS_seq
  apply wpS_seq
  apply wpS_region
  simp [wpOpsS, go_sem, Exit.thenS]
  refine wpS_cond (t := false) (by simp [Act.eval]) ?_
  simp only [Bool.false_eq_true, if_false]
  refine wpS_of_wp (wp_skip ?_)
  simp only [Exit.thenS]
  have e1 : ∀ x, (w.setCell ⟨A, 0, none⟩ x).cell? ⟨A, 1, none⟩ = some a1 := fun x => by simp [go_sem, h1]
  have e2 : ∀ x y, ((w.setCell ⟨A, 0, none⟩ x).setCell ⟨A, 1, none⟩ y).cell? ⟨B, 0, none⟩ = some b0 := fun x y => cell_far (cell_far h2 ne1) ne1
  have e3 : ∀ x y z, (((w.setCell ⟨A, 0, none⟩ x).setCell ⟨A, 1, none⟩ y).setCell ⟨B, 0, none⟩ z).cell? ⟨C, 0, none⟩ = some c0 := fun x y z => cell_far (cell_far (cell_far h3 ne2) ne2) ne3
  apply wpS_region
  simp [wpOpsS, go_sem, h0, f0, f1, f2, f3, e1, e2, e3, bodyPostS, results, Try.results72]
theorem mcatch_idle (A B C : Nat) (w : World) :
    CallsD Try.prog 72 #[.pointer (some ⟨A, 0, none⟩), .pointer (some ⟨B, 0, none⟩), .pointer (some ⟨C, 0, none⟩)] .returning w fun e u' w' => e = .returned (.tuple #[]) ∧ u' = .returning ∧ w' = w := by
  refine callsD_of_wpS Try.func72 rfl fun c₀ cs hu => ?_
  apply wpS_seq
  apply wpS_region
  simp [wpOpsS, go_sem, recoverD, hu, Try.ntmps72, Exit.thenS]
  apply wpS_seq
  apply wpS_region
  simp [wpOpsS, go_sem, Exit.thenS]
  refine wpS_cond (t := false) (by simp [Act.eval]) ?_
  simp only [Bool.false_eq_true, if_false]
  refine wpS_of_wp (wp_skip ?_)
  cases c₀
  simp_all [bodyPostS, results, Try.results72]

theorem MOk.made (wr : World) : MOk (wr.alloc (.cells #[.slice none 0 0] 104)) wr.heap.size (.slice none 0 0) [] := ⟨heap_alloc_new _ _, OwnsIs.nil _ _, by simp⟩
/-- What merge.Merge tells: a tree, a path, a code. -/
def mergeT (o a b : Tr) : Tr × List Int × Nat :=
  if fault o ≠ 0 then (Tr.zero, [], fault o) else if fault a ≠ 0 then (Tr.zero, [], fault a) else if fault b ≠ 0 then (Tr.zero, [], fault b)
  else match mixT 100 o a b with
    | .error p => (Tr.zero, p, 12)
    | .ok t => if fault t ≠ 0 then (Tr.zero, [], fault t) else (t, [], 0)
def MergePostF (r : Tr × List Int × Nat) (w : World) (e : Ending) (w' : World) : Prop := ∃ l ks oa cap pa pc, r.1 = .node l ks ∧ l.size ≤ maxLen ∧
  e = .returned (.tuple #[.agg #[.string l, .slice oa ks.length cap], .slice pa r.2.1.length pc, .int .i64 r.2.2]) ∧ Kids (From w.heap.size) w' ks oa cap ∧ Ints (From w.heap.size) w' r.2.1 pa pc ∧ Pr w w'
section
variable {w : World} {l1 l2 l3 : ByteArray} {k1 k2 k3 : List Tr} {o1 o2 o3 : Option Addr} {c1 c2 c3 : Nat}
set_option maxRecDepth 100000 in
set_option maxHeartbeats 3200000 in
theorem merge_anyF (hl1 : l1.size ≤ maxLen) (hl2 : l2.size ≤ maxLen) (hl3 : l3.size ≤ maxLen) (hk1 : Kids Any w k1 o1 c1) (hk2 : Kids Any w k2 o2 c2) (hk3 : Kids Any w k3 o3 c3) :
    Calls Try.prog 36 #[.agg #[.string l1, .slice o1 k1.length c1], .agg #[.string l2, .slice o2 k2.length c2], .agg #[.string l3, .slice o3 k3.length c3]] w (MergePostF (mergeT (.node l1 k1) (.node l2 k2) (.node l3 k3)) w) := by
  have hmf : ∀ (fn : Fn) (first cap : Array Value) (w : World), (Instr.makeFunc fn first cap).run Try.prog w = .ok (.func fn first cap) w := fun _ _ _ _ => rfl
  obtain ⟨r, hr⟩ : ∃ r, r = mergeT (.node l1 k1) (.node l2 k2) (.node l3 k3) := ⟨_, rfl⟩
  rw [← hr]
  obtain ⟨W, hW⟩ : ∃ W, W = (((((w.alloc (.cells #[.string l1, .slice o1 k1.length c1] 24)).alloc (.cells #[.string l2, .slice o2 k2.length c2] 24)).alloc (.cells #[.string l3, .slice o3 k3.length c3] 24)).alloc (.cells #[.string ⟨#[]⟩, .slice none 0 0] 24)).alloc (.cells #[.slice none 0 0] 38)).alloc (.cells #[.int .i64 0] 3) := ⟨_, rfl⟩
  have hwW : Pr w W := by rw [hW]; exact (((((Pr.alloc _ _).alloc' _).alloc' _).alloc' _).alloc' _).alloc' _
  have hWs : W.heap.size = w.heap.size + 6 := by rw [hW]; simp
  have x0 := stays (show W.cell? ⟨w.heap.size, 0, none⟩ = some (.string l1) by rw [hW]; simp [go_sem])
  have x1 := stays (show W.cell? ⟨w.heap.size, 1, none⟩ = some (.slice o1 k1.length c1) by rw [hW]; simp [go_sem])
  have y0 := stays (show W.cell? ⟨w.heap.size + 1, 0, none⟩ = some (.string l2) by rw [hW]; simp [go_sem])
  have y1 := stays (show W.cell? ⟨w.heap.size + 1, 1, none⟩ = some (.slice o2 k2.length c2) by rw [hW]; simp [go_sem])
  have z0 := stays (show W.cell? ⟨w.heap.size + 1 + 1, 0, none⟩ = some (.string l3) by rw [hW]; simp [go_sem])
  have z1 := stays (show W.cell? ⟨w.heap.size + 1 + 1, 1, none⟩ = some (.slice o3 k3.length c3) by rw [hW]; simp [go_sem])
  have r0 := stays (show W.cell? ⟨w.heap.size + 1 + 1 + 1, 0, none⟩ = some (.string ⟨#[]⟩) by rw [hW]; simp [go_sem])
  have r1 := stays (show W.cell? ⟨w.heap.size + 1 + 1 + 1, 1, none⟩ = some (.slice none 0 0) by rw [hW]; simp [go_sem])
  have r2 := stays (show W.cell? ⟨w.heap.size + 1 + 1 + 1 + 1, 0, none⟩ = some (.slice none 0 0) by rw [hW]; simp [go_sem])
  have r3 := stays (show W.cell? ⟨w.heap.size + 1 + 1 + 1 + 1 + 1, 0, none⟩ = some (.int .i64 0) by rw [hW]; simp [go_sem])
  have f0 : W.frozen? ⟨w.heap.size + 1 + 1 + 1, 0, none⟩ = false := by rw [hW]; simp [go_sem]
  have f1 : W.frozen? ⟨w.heap.size + 1 + 1 + 1, 1, none⟩ = false := by rw [hW]; simp [go_sem]
  have f2 : W.frozen? ⟨w.heap.size + 1 + 1 + 1 + 1, 0, none⟩ = false := by rw [hW]; simp [go_sem]
  have f3 : W.frozen? ⟨w.heap.size + 1 + 1 + 1 + 1 + 1, 0, none⟩ = false := by rw [hW]; simp [go_sem]
  have hk1 := (hk1.mono (S' := fun k => k < w.heap.size) (fun k _ h => h)).pr hwW
  have hk2 := (hk2.mono (S' := fun k => k < w.heap.size) (fun k _ h => h)).pr hwW
  have hk3 := (hk3.mono (S' := fun k => k < w.heap.size) (fun k _ h => h)).pr hwW
  have C1 := Lib.hid (fun W' (h : Pr W W') => check_any l1 k1 o1 c1 W' hl1 (hk1.any.pr h))
  have C2 := Lib.hid (fun W' (h : Pr W W') => check_any l2 k2 o2 c2 W' hl2 (hk2.any.pr h))
  have C3 := Lib.hid (fun W' (h : Pr W W') => check_any l3 k3 o3 c3 W' hl3 (hk3.any.pr h))
  have HR := Lib.hid hr; have K1 := Lib.hid hk1; have K2 := Lib.hid hk2; have K3 := Lib.hid hk3; have HW := Lib.hid hwW; have HWs := Lib.hid hWs
  have F0 := Lib.hid f0; have F1 := Lib.hid f1; have F2 := Lib.hid f2; have F3 := Lib.hid f3
  clear hr hk1 hk2 hk3 hwW hWs f0 f1 f2 f3
  go_enter_defers Try.func36, Try.ntmps36
  go_upto_region 1 with fail
  rw [← hW]
  clear hW
  have x0' := x0 _ (Pr.refl _); have x1' := x1 _ (Pr.refl _); have y0' := y0 _ (Pr.refl _); have y1' := y1 _ (Pr.refl _); have z0' := z0 _ (Pr.refl _); have z1' := z1 _ (Pr.refl _)
  obtain ⟨W7, hW7⟩ : ∃ W7, W7 = W.alloc (.cells #[.string l1, .slice o1 k1.length c1, .string l2, .slice o2 k2.length c2, .string l3, .slice o3 k3.length c3] 24) := ⟨_, rfl⟩
  have h7 : Pr W W7 := by rw [hW7]; exact Pr.alloc _ _
  have a0 := stays (show W7.cell? ⟨W.heap.size, 0, none⟩ = some (.string l1) by rw [hW7]; simp [go_sem])
  have a1 := stays (show W7.cell? ⟨W.heap.size, 1, none⟩ = some (.slice o1 k1.length c1) by rw [hW7]; simp [go_sem])
  have a2 := stays (show W7.cell? ⟨W.heap.size, 2, none⟩ = some (.string l2) by rw [hW7]; simp [go_sem])
  have a3 := stays (show W7.cell? ⟨W.heap.size, 3, none⟩ = some (.slice o2 k2.length c2) by rw [hW7]; simp [go_sem])
  have a4 := stays (show W7.cell? ⟨W.heap.size, 4, none⟩ = some (.string l3) by rw [hW7]; simp [go_sem])
  have a5 := stays (show W7.cell? ⟨W.heap.size, 5, none⟩ = some (.slice o3 k3.length c3) by rw [hW7]; simp [go_sem])
  have H7 := Lib.hid h7
  go_wp2_with fail
  rw [← hW7]
  clear hW7 h7 x0' x1' y0' y1' z0' z1'
  obtain ⟨n1, hn1⟩ : ∃ n, n = fault (.node l1 k1) := ⟨_, rfl⟩
  obtain ⟨n2, hn2⟩ : ∃ n, n = fault (.node l2 k2) := ⟨_, rfl⟩
  obtain ⟨n3, hn3⟩ : ∃ n, n = fault (.node l3 k3) := ⟨_, rfl⟩
  rw [← hn1] at C1; rw [← hn2] at C2; rw [← hn3] at C3
  have N1 := Lib.hid hn1; have N2 := Lib.hid hn2; have N3 := Lib.hid hn3
  clear hn1 hn2 hn3
  have hbad : ∀ (W' W'' : World) (n : Nat), Pr w W'' → r = (Tr.zero, [], n) → MergePostF r w (.returned (.tuple #[.agg #[.string ⟨#[]⟩, .slice none 0 0], .slice none 0 0, .int .i64 n])) W'' := fun W' W'' n hp e => by
    rw [e]
    exact ⟨⟨#[]⟩, [], none, 0, none, 0, rfl, by simp [ByteArray.size, maxLen], rfl, Kids.nil _ _ _ _ (Nat.zero_le _), Flat.nil _ _ _ _ (Nat.zero_le _), hp⟩
  have Hbad := Lib.hid hbad
  clear hbad
  go_loopw [18] (fun v wr => ∃ k : Nat, k ≤ 3 ∧ v = .int .i64 k ∧ (1 ≤ k → n1 = 0) ∧ (2 ≤ k → n2 = 0) ∧ (3 ≤ k → n3 = 0) ∧ Pr W7 wr) (fun v _ => 3 - (intOf v).toNat)
  case atStart => exact ⟨0, by omega, rfl, by omega, by omega, by omega, Pr.refl _⟩
  case round =>
    obtain ⟨k, hk, rfl, g1, g2, g3, hb⟩ := hrel
    have hbW := H7.out.trans hb
    have hk4 : k = 0 ∨ k = 1 ∨ k = 2 ∨ k = 3 := by omega
    have a0 := stays (a0 _ hb); have a1 := stays (a1 _ hb); have a2 := stays (a2 _ hb); have a3 := stays (a3 _ hb); have a4 := stays (a4 _ hb); have a5 := stays (a5 _ hb)
    rcases hk4 with rfl | rfl | rfl | rfl
    · by_cases hz : n1 = 0
      · subst hz
        have aa := a0 _ (Pr.refl _); have ab := a1 _ (Pr.refl _)
        clear g1 g2 g3
        go_wp2_with (first
          | (go_at_call 29; (with_reducible refine Calls.mono (C1.out _ (hbW.alloc' _)) ?_); rintro e w1 ⟨rfl, hb1⟩))
        refine ⟨⟨1, by omega, by go_num, by intros; trivial, by omega, by omega, (hb.alloc' _).trans hb1⟩, ?_⟩
        simp [intOf]
      · have e1 : ((n1 : Int) != 0) = true := by simp [bne_iff_ne]; omega
        have hr2 := HR.out
        unfold mergeT at hr2
        rw [← N1.out, if_pos hz] at hr2
        have Hr2 := Lib.hid hr2
        clear hz hr2 g1 g2 g3
        have aa := a0 _ (Pr.refl _); have ab := a1 _ (Pr.refl _)
        go_wp2_with (first
          | (go_at_call 29; (with_reducible refine Calls.mono (C1.out _ (hbW.alloc' _)) ?_); rintro e w1 ⟨rfl, hb1⟩; have hp1 := (hbW.alloc' _).trans hb1; have q0 := r0 _ hp1; have q1 := r1 _ hp1; have q2 := r2 _ hp1; have q3 := r3 _ hp1
             have p0 : w1.frozen? ⟨w.heap.size + 1 + 1 + 1, 0, none⟩ = false := (by rw [hp1.frozen (by have := HWs.out; omega)]; exact F0.out); have p1 : w1.frozen? ⟨w.heap.size + 1 + 1 + 1, 1, none⟩ = false := (by rw [hp1.frozen (by have := HWs.out; omega)]; exact F1.out)
             have p2 : w1.frozen? ⟨w.heap.size + 1 + 1 + 1 + 1, 0, none⟩ = false := (by rw [hp1.frozen (by have := HWs.out; omega)]; exact F2.out); have p3 : w1.frozen? ⟨w.heap.size + 1 + 1 + 1 + 1 + 1, 0, none⟩ = false := (by rw [hp1.frozen (by have := HWs.out; omega)]; exact F3.out)))
        refine ⟨.tuple #[.agg #[.string ⟨#[]⟩, .slice none 0 0], .slice none 0 0, .int .i64 n1], by simp [results, Try.results36, go_sem, q0, q1, q2, q3], Hbad.out w _ _ ?_ Hr2.out⟩
        exact ((((HW.out.trans hp1).setCell (by simp; omega) _).setCell (by simp; omega) _).setCell (by simp; omega) _).setCell (by simp; omega) _
    · have z1 := g1 (by omega)
      subst z1
      by_cases hz : n2 = 0
      · subst hz
        have aa := a2 _ (Pr.refl _); have ab := a3 _ (Pr.refl _)
        clear g1 g2 g3
        go_wp2_with (first
          | (go_at_call 29; (with_reducible refine Calls.mono (C2.out _ (hbW.alloc' _)) ?_); rintro e w1 ⟨rfl, hb1⟩))
        refine ⟨⟨2, by omega, by go_num, by intros; trivial, by intros; trivial, by omega, (hb.alloc' _).trans hb1⟩, ?_⟩
        simp [intOf]
      · have e1 : ((n2 : Int) != 0) = true := by simp [bne_iff_ne]; omega
        have hr2 := HR.out
        unfold mergeT at hr2
        rw [← N1.out, ← N2.out, if_neg (by simp), if_pos hz] at hr2
        have Hr2 := Lib.hid hr2
        clear hz hr2 g1 g2 g3
        have aa := a2 _ (Pr.refl _); have ab := a3 _ (Pr.refl _)
        go_wp2_with (first
          | (go_at_call 29; (with_reducible refine Calls.mono (C2.out _ (hbW.alloc' _)) ?_); rintro e w1 ⟨rfl, hb1⟩; have hp1 := (hbW.alloc' _).trans hb1; have q0 := r0 _ hp1; have q1 := r1 _ hp1; have q2 := r2 _ hp1; have q3 := r3 _ hp1
             have p0 : w1.frozen? ⟨w.heap.size + 1 + 1 + 1, 0, none⟩ = false := (by rw [hp1.frozen (by have := HWs.out; omega)]; exact F0.out); have p1 : w1.frozen? ⟨w.heap.size + 1 + 1 + 1, 1, none⟩ = false := (by rw [hp1.frozen (by have := HWs.out; omega)]; exact F1.out)
             have p2 : w1.frozen? ⟨w.heap.size + 1 + 1 + 1 + 1, 0, none⟩ = false := (by rw [hp1.frozen (by have := HWs.out; omega)]; exact F2.out); have p3 : w1.frozen? ⟨w.heap.size + 1 + 1 + 1 + 1 + 1, 0, none⟩ = false := (by rw [hp1.frozen (by have := HWs.out; omega)]; exact F3.out)))
        refine ⟨.tuple #[.agg #[.string ⟨#[]⟩, .slice none 0 0], .slice none 0 0, .int .i64 n2], by simp [results, Try.results36, go_sem, q0, q1, q2, q3], Hbad.out w _ _ ?_ Hr2.out⟩
        exact ((((HW.out.trans hp1).setCell (by simp; omega) _).setCell (by simp; omega) _).setCell (by simp; omega) _).setCell (by simp; omega) _
    · have z1 := g1 (by omega)
      have z2 := g2 (by omega)
      subst z1
      subst z2
      by_cases hz : n3 = 0
      · subst hz
        have aa := a4 _ (Pr.refl _); have ab := a5 _ (Pr.refl _)
        clear g1 g2 g3
        go_wp2_with (first
          | (go_at_call 29; (with_reducible refine Calls.mono (C3.out _ (hbW.alloc' _)) ?_); rintro e w1 ⟨rfl, hb1⟩))
        refine ⟨⟨3, by omega, by go_num, by intros; trivial, by intros; trivial, by intros; trivial, (hb.alloc' _).trans hb1⟩, ?_⟩
        simp [intOf]
      · have e1 : ((n3 : Int) != 0) = true := by simp [bne_iff_ne]; omega
        have hr2 := HR.out
        unfold mergeT at hr2
        rw [← N1.out, ← N2.out, ← N3.out, if_neg (by simp), if_neg (by simp), if_pos hz] at hr2
        have Hr2 := Lib.hid hr2
        clear hz hr2 g1 g2 g3
        have aa := a4 _ (Pr.refl _); have ab := a5 _ (Pr.refl _)
        go_wp2_with (first
          | (go_at_call 29; (with_reducible refine Calls.mono (C3.out _ (hbW.alloc' _)) ?_); rintro e w1 ⟨rfl, hb1⟩; have hp1 := (hbW.alloc' _).trans hb1; have q0 := r0 _ hp1; have q1 := r1 _ hp1; have q2 := r2 _ hp1; have q3 := r3 _ hp1
             have p0 : w1.frozen? ⟨w.heap.size + 1 + 1 + 1, 0, none⟩ = false := (by rw [hp1.frozen (by have := HWs.out; omega)]; exact F0.out); have p1 : w1.frozen? ⟨w.heap.size + 1 + 1 + 1, 1, none⟩ = false := (by rw [hp1.frozen (by have := HWs.out; omega)]; exact F1.out)
             have p2 : w1.frozen? ⟨w.heap.size + 1 + 1 + 1 + 1, 0, none⟩ = false := (by rw [hp1.frozen (by have := HWs.out; omega)]; exact F2.out); have p3 : w1.frozen? ⟨w.heap.size + 1 + 1 + 1 + 1 + 1, 0, none⟩ = false := (by rw [hp1.frozen (by have := HWs.out; omega)]; exact F3.out)))
        refine ⟨.tuple #[.agg #[.string ⟨#[]⟩, .slice none 0 0], .slice none 0 0, .int .i64 n3], by simp [results, Try.results36, go_sem, q0, q1, q2, q3], Hbad.out w _ _ ?_ Hr2.out⟩
        exact ((((HW.out.trans hp1).setCell (by simp; omega) _).setCell (by simp; omega) _).setCell (by simp; omega) _).setCell (by simp; omega) _
    · have z1 := g1 (by omega)
      have z2 := g2 (by omega)
      have z3 := g3 (by omega)
      subst z1
      subst z2
      subst z3
      have hr2 := HR.out
      unfold mergeT at hr2
      rw [← N1.out, ← N2.out, ← N3.out, if_neg (by simp), if_neg (by simp), if_neg (by simp)] at hr2
      have hf1 := (fault_zero.1 N1.out.symm).1
      have hf2 := (fault_zero.1 N2.out.symm).1
      have hf3 := (fault_zero.1 N3.out.symm).1
      simp only [Tr.sz] at hf1 hf2 hf3
      obtain ⟨V, hV⟩ : ∃ V, V = wr.alloc (.cells #[.slice none 0 0] 104) := ⟨_, rfl⟩
      have hwV : Pr wr V := by rw [hV]; exact Pr.alloc _ _
      have hmV : MOk V wr.heap.size (.slice none 0 0) [] := ⟨by rw [hV]; exact heap_alloc_new _ _, OwnsIs.nil _ _, by simp⟩
      have hWV := hbW.trans hwV
      have hws := HW.out.size
      have hwr := hbW.size
      have low : ∀ {ks : List Tr} {oa : Option Addr} {cap : Nat}, Kids (fun k => k < w.heap.size) W ks oa cap → Kids (fun k => k < wr.heap.size) V ks oa cap := fun h => (h.pr hWV).mono (fun k hk _ => by have hk' : k < w.heap.size := hk; show k < wr.heap.size; omega)
      have T1 := Lib.hid (mtree_any 100 l1 l2 l3 k1 k2 k3 o1 o2 o3 c1 c2 c3 wr.heap.size (.slice none 0 0) [] V (by simp only [Tr.sz]; omega) (by omega) (by omega) (by omega) (by simp only [Tr.sz, List.length_nil]; omega) hl2 hl3 hmV (low K1.out) (low K2.out) (low K3.out))
      have x0' := x0 _ hWV; have x1' := x1 _ hWV; have y0' := y0 _ hWV; have y1' := y1 _ hWV; have z0' := z0 _ hWV; have z1' := z1 _ hWV
      have HwV := Lib.hid hWV
      clear g1 g2 g3 low hmV hwV hWV
      subst hV
      generalize mixT 100 (Tr.node l1 k1) (Tr.node l2 k2) (Tr.node l3 k3) = rt at *
      have q0 := r0 _ HwV.out; have q1 := r1 _ HwV.out; have q2 := r2 _ HwV.out; have q3 := r3 _ HwV.out
      have p0 : (wr.alloc (.cells #[.slice none 0 0] 104)).frozen? ⟨w.heap.size + 1 + 1 + 1, 0, none⟩ = false := (by rw [HwV.out.frozen (by have := HWs.out; omega)]; exact F0.out)
      have p1 : (wr.alloc (.cells #[.slice none 0 0] 104)).frozen? ⟨w.heap.size + 1 + 1 + 1, 1, none⟩ = false := (by rw [HwV.out.frozen (by have := HWs.out; omega)]; exact F1.out)
      have p2 : (wr.alloc (.cells #[.slice none 0 0] 104)).frozen? ⟨w.heap.size + 1 + 1 + 1 + 1, 0, none⟩ = false := (by rw [HwV.out.frozen (by have := HWs.out; omega)]; exact F2.out)
      have p3 : (wr.alloc (.cells #[.slice none 0 0] 104)).frozen? ⟨w.heap.size + 1 + 1 + 1 + 1 + 1, 0, none⟩ = false := (by rw [HwV.out.frozen (by have := HWs.out; omega)]; exact F3.out)
      have hW6 := HWs.out
      have hsame : ∀ (w5 : World), Chg (fun k => wr.heap.size ≤ k) (wr.alloc (.cells #[.slice none 0 0] 104)) w5 → ∀ b o, b < w.heap.size + 6 → w5.cell? ⟨b, o, none⟩ = (wr.alloc (.cells #[.slice none 0 0] 104)).cell? ⟨b, o, none⟩ ∧ w5.frozen? ⟨b, o, none⟩ = (wr.alloc (.cells #[.slice none 0 0] 104)).frozen? ⟨b, o, none⟩ := fun w5 h b o hb => by
        have hb2 := h.block b (by simp; omega) (by show ¬ wr.heap.size ≤ b; omega)
        exact ⟨World.cell?_of_block hb2, World.frozen?_of_block hb2⟩
      have Q0 := Lib.hid q0; have Q1 := Lib.hid q1; have Q2 := Lib.hid q2; have Q3 := Lib.hid q3
      have P0 := Lib.hid p0; have P1 := Lib.hid p1; have P2 := Lib.hid p2; have P3 := Lib.hid p3
      have Hs := Lib.hid hsame
      clear q0 q1 q2 q3 p0 p1 p2 p3 hsame r0 r1 r2 r3 x0 x1 y0 y1 z0 z1 a0 a1 a2 a3 a4 a5
      cases rt with
      | error e =>
        simp only [] at hr2
        have Hr2 := Lib.hid hr2
        clear hr2
        go_wp2_with (go_at_call 73; (with_reducible refine Calls.mono T1.out ?_); rintro e5 w5 ⟨oa5, cap5, rfl, hi5, hc5⟩)
        have s0 := (Hs.out w5 hc5 (w.heap.size + 1 + 1 + 1) 0 (by omega)); have s1 := (Hs.out w5 hc5 (w.heap.size + 1 + 1 + 1) 1 (by omega))
        have s2 := (Hs.out w5 hc5 (w.heap.size + 1 + 1 + 1 + 1) 0 (by omega)); have s3 := (Hs.out w5 hc5 (w.heap.size + 1 + 1 + 1 + 1 + 1) 0 (by omega))
        rw [Q0.out, P0.out] at s0; rw [Q1.out, P1.out] at s1; rw [Q2.out, P2.out] at s2; rw [Q3.out, P3.out] at s3
        refine leaves_cons (f := 72) (args := #[.pointer (some ⟨w.heap.size + 1 + 1 + 1, 0, none⟩), .pointer (some ⟨w.heap.size + 1 + 1 + 1 + 1, 0, none⟩), .pointer (some ⟨w.heap.size + 1 + 1 + 1 + 1 + 1, 0, none⟩)]) (by simp) (by simp [go_sem]) ?_
        refine (mcatch_clash _ _ _ oa5 _ cap5 [] w5 _ _ _ _ s0.1 s1.1 s2.1 s3.1 s0.2 s1.2 s2.2 s3.2 (by omega) (by omega) (by omega)).mono ?_
        rintro e u' w'' ⟨rfl, rfl, rfl⟩
        show ∃ v, (results Try.f36 _).run Try.prog _ = .ok v _ ∧ MergePostF r w (.returned v) _
        refine ⟨.tuple #[.agg #[.string ⟨#[]⟩, .slice none 0 0], .slice oa5 e.length cap5, .int .i64 12], by simp [results, Try.results36, go_sem, s0.1, s1.1, s2.1, s3.1], ?_⟩
        rw [Hr2.out]
        rw [List.nil_append] at hi5
        have hi6 : Ints (From wr.heap.size) ((((w5.setCell ⟨w.heap.size + 1 + 1 + 1, 0, none⟩ (.string ⟨#[]⟩)).setCell ⟨w.heap.size + 1 + 1 + 1, 1, none⟩ (.slice none 0 0)).setCell ⟨w.heap.size + 1 + 1 + 1 + 1, 0, none⟩ (.slice oa5 e.length cap5)).setCell ⟨w.heap.size + 1 + 1 + 1 + 1 + 1, 0, none⟩ (.int .i64 12)) e oa5 cap5 :=
          Flat.kept (kept_setCell _ _ _ _ (by show ¬ wr.heap.size ≤ _; simp; omega)) (Flat.kept (kept_setCell _ _ _ _ (by show ¬ wr.heap.size ≤ _; simp; omega)) (Flat.kept (kept_setCell _ _ _ _ (by show ¬ wr.heap.size ≤ _; simp; omega)) (Flat.kept (kept_setCell _ _ _ _ (by show ¬ wr.heap.size ≤ _; simp; omega)) hi5)))
        have hpr : Pr w w5 := (hc5.to_pr' (HW.out.trans HwV.out) (fun k hk => by show w.heap.size ≤ k; have hk' : wr.heap.size ≤ k := hk; omega))
        exact ⟨⟨#[]⟩, [], none, 0, oa5, cap5, rfl, by simp [ByteArray.size, maxLen], rfl, Kids.nil _ _ _ _ (Nat.zero_le _), hi6.mono (fun k hk _ => by have h1 := HwV.out.size; have h2 := HWs.out; have hk' : wr.heap.size ≤ k := hk; simp at h1; show w.heap.size ≤ k; omega), (((hpr.setCell (by simp; omega) _).setCell (by simp; omega) _).setCell (by simp; omega) _).setCell (by simp; omega) _⟩
      | ok t =>
        obtain ⟨l5, ks5⟩ := t
        simp only [] at hr2
        have Hr2 := Lib.hid hr2
        clear hr2
        go_upto_region 10 with (go_at_call 73; (with_reducible refine Calls.mono T1.out ?_); rintro e5 w5 ⟨l6, ks6, oa5, cap5, pv5, het, hl5, rfl, hk5, hm5, hs5⟩
                                have hc5 := hs5.low (MOk.made wr); have s0 := (Hs.out w5 hc5 (w.heap.size + 1 + 1 + 1) 0 (by omega)); have s1 := (Hs.out w5 hc5 (w.heap.size + 1 + 1 + 1) 1 (by omega))
                                have s2 := (Hs.out w5 hc5 (w.heap.size + 1 + 1 + 1 + 1) 0 (by omega)); have s3 := (Hs.out w5 hc5 (w.heap.size + 1 + 1 + 1 + 1 + 1) 0 (by omega))
                                rw [Q0.out, P0.out] at s0; rw [Q1.out, P1.out] at s1; rw [Q2.out, P2.out] at s2; rw [Q3.out, P3.out] at s3
                                have s00 := s0.1; have s01 := s0.2; have s10 := s1.1; have s11 := s1.2)
        cases het
        obtain ⟨w6, hw6⟩ : ∃ w6, w6 = (w5.setCell ⟨w.heap.size + 1 + 1 + 1, 0, none⟩ (.string l5)).setCell ⟨w.heap.size + 1 + 1 + 1, 1, none⟩ (.slice oa5 ks5.length cap5) := ⟨_, rfl⟩
        have m0 : w6.cell? ⟨w.heap.size + 1 + 1 + 1, 0, none⟩ = some (.string l5) := by rw [hw6]; simp [go_sem, s00]
        have m1 : w6.cell? ⟨w.heap.size + 1 + 1 + 1, 1, none⟩ = some (.slice oa5 ks5.length cap5) := by rw [hw6]; simp [go_sem, s10]
        have m2 : w6.cell? ⟨w.heap.size + 1 + 1 + 1 + 1, 0, none⟩ = some (.slice none 0 0) := by rw [hw6]; exact cell_far (cell_far s2.1 (by simp)) (by simp)
        have m3 : w6.cell? ⟨w.heap.size + 1 + 1 + 1 + 1 + 1, 0, none⟩ = some (.int .i64 0) := by rw [hw6]; exact cell_far (cell_far s3.1 (by simp)) (by simp)
        have n0 : w6.frozen? ⟨w.heap.size + 1 + 1 + 1, 0, none⟩ = false := by rw [hw6]; simp [go_sem, s01]
        have n1 : w6.frozen? ⟨w.heap.size + 1 + 1 + 1, 1, none⟩ = false := by rw [hw6]; simp [go_sem, s11]
        have n2 : w6.frozen? ⟨w.heap.size + 1 + 1 + 1 + 1, 0, none⟩ = false := by rw [hw6]; simp [go_sem, s2.2]
        have n3 : w6.frozen? ⟨w.heap.size + 1 + 1 + 1 + 1 + 1, 0, none⟩ = false := by rw [hw6]; simp [go_sem, s3.2]
        have hk6 : Kids (From wr.heap.size) w6 ks5 oa5 cap5 := by
          rw [hw6]
          have := hk5.mono (S' := From wr.heap.size) (fun k hk _ => by have := hk.1; simp at this; show wr.heap.size ≤ k; omega)
          exact (this.setCell _ _ (by show ¬ wr.heap.size ≤ _; simp; omega)).setCell _ _ (by show ¬ wr.heap.size ≤ _; simp; omega)
        have hpr : Pr w w6 := by
          rw [hw6]
          have : Pr w w5 := hc5.to_pr' (HW.out.trans HwV.out) (fun k hk => by show w.heap.size ≤ k; have hk' : wr.heap.size ≤ k := hk; omega)
          exact (this.setCell (by simp; omega) _).setCell (by simp; omega) _
        have hsz : w.heap.size + 6 ≤ w6.heap.size := by rw [hw6]; have := hc5.size; simp [World.setCell] at this ⊢; omega
        rw [← hw6]
        obtain ⟨n5, hn5⟩ : ∃ n, n = fault (.node l5 ks5) := ⟨_, rfl⟩
        have hcc := fun W' (h : Pr w6 W') => check_any l5 ks5 oa5 cap5 W' hl5 (hk6.any.pr h)
        rw [← hn5] at hcc
        have C6 := Lib.hid hcc
        have m2 := stays m2; have m3 := stays m3
        have HK6 := Lib.hid hk6; have Hpr := Lib.hid hpr; have Hl5 := Lib.hid hl5
        have m0s := stays m0; have m1s := stays m1
        clear hw6 s0 s1 s2 s3 s00 s01 s10 s11 hk5 hm5 hs5 hc5 hcc hk6 hpr hl5
        have arm : ∀ w7, Pr w6 w7 → w7.frozen? ⟨w.heap.size + 1 + 1 + 1, 0, none⟩ = false ∧ w7.frozen? ⟨w.heap.size + 1 + 1 + 1, 1, none⟩ = false ∧ w7.frozen? ⟨w.heap.size + 1 + 1 + 1 + 1, 0, none⟩ = false ∧ w7.frozen? ⟨w.heap.size + 1 + 1 + 1 + 1 + 1, 0, none⟩ = false := fun w7 h =>
          ⟨by rw [h.frozen (by omega)]; exact n0, by rw [h.frozen (by omega)]; exact n1, by rw [h.frozen (by omega)]; exact n2, by rw [h.frozen (by omega)]; exact n3⟩
        have Arm := Lib.hid arm
        clear arm n0 n1 n2 n3
        by_cases hz : n5 = 0
        · have e1 : ((n5 : Int) != 0) = false := by simp [hz]
          have hr3 : r = (.node l5 ks5, [], 0) := by
            rw [Hr2.out, if_neg (by rw [← hn5]; simpa using hz)]
          have Hr3 := Lib.hid hr3
          clear hr3 hz hn5
          go_wp2_with (go_at_call 29; (with_reducible refine Calls.mono (C6.out _ (Pr.refl _)) ?_); rintro e w7 ⟨rfl, hb7⟩; obtain ⟨i0, i1, i2, i3⟩ := Arm.out _ hb7; have j0 := m0s _ hb7; have j1 := m1s _ hb7; have j2 := m2 _ hb7; have j3 := m3 _ hb7)
          refine leaves_cons (f := 72) (args := #[.pointer (some ⟨w.heap.size + 1 + 1 + 1, 0, none⟩), .pointer (some ⟨w.heap.size + 1 + 1 + 1 + 1, 0, none⟩), .pointer (some ⟨w.heap.size + 1 + 1 + 1 + 1 + 1, 0, none⟩)]) (by simp) (by simp [go_sem]) ?_
          refine (mcatch_idle _ _ _ _).mono ?_
          rintro e u' w'' ⟨rfl, rfl, rfl⟩
          show ∃ v, (results Try.f36 _).run Try.prog _ = .ok v _ ∧ MergePostF r w (.returned v) _
          refine ⟨.tuple #[.agg #[.string l5, .slice oa5 ks5.length cap5], .slice none 0 0, .int .i64 0], by simp [results, Try.results36, go_sem, j0, j1, j2, j3], ?_⟩
          rw [Hr3.out]
          refine ⟨l5, ks5, oa5, cap5, none, 0, rfl, Hl5.out, rfl, ?_, Flat.nil _ _ _ _ (Nat.zero_le _), ((((Hpr.out.trans hb7).setCell (by simp; omega) _).setCell (by simp; omega) _).setCell (by simp; omega) _).setCell (by simp; omega) _⟩
          exact (((((HK6.out.pr hb7).setCell _ _ (by show ¬ wr.heap.size ≤ _; simp; omega)).setCell _ _ (by show ¬ wr.heap.size ≤ _; simp; omega)).setCell _ _ (by show ¬ wr.heap.size ≤ _; simp; omega)).setCell _ _ (by show ¬ wr.heap.size ≤ _; simp; omega)).mono (fun k hk _ => by have h1 := HwV.out.size; have h2 := HWs.out; have hk' : wr.heap.size ≤ k := hk; simp at h1; show w.heap.size ≤ k; omega)
        · have e1 : ((n5 : Int) != 0) = true := by simp [bne_iff_ne]; omega
          have hr3 : r = (Tr.zero, [], n5) := by
            rw [Hr2.out, if_pos (by rw [← hn5]; exact hz), hn5]
          have Hr3 := Lib.hid hr3
          clear hr3 hz hn5
          go_wp2_with (go_at_call 29; (with_reducible refine Calls.mono (C6.out _ (Pr.refl _)) ?_); rintro e w7 ⟨rfl, hb7⟩; obtain ⟨i0, i1, i2, i3⟩ := Arm.out _ hb7; have j0 := m0s _ hb7; have j1 := m1s _ hb7; have j2 := m2 _ hb7; have j3 := m3 _ hb7)
          refine leaves_cons (f := 72) (args := #[.pointer (some ⟨w.heap.size + 1 + 1 + 1, 0, none⟩), .pointer (some ⟨w.heap.size + 1 + 1 + 1 + 1, 0, none⟩), .pointer (some ⟨w.heap.size + 1 + 1 + 1 + 1 + 1, 0, none⟩)]) (by simp) (by simp [go_sem]) ?_
          refine (mcatch_idle _ _ _ _).mono ?_
          rintro e u' w'' ⟨rfl, rfl, rfl⟩
          show ∃ v, (results Try.f36 _).run Try.prog _ = .ok v _ ∧ MergePostF r w (.returned v) _
          refine ⟨.tuple #[.agg #[.string ⟨#[]⟩, .slice none 0 0], .slice none 0 0, .int .i64 n5], by simp [results, Try.results36, go_sem, j0, j1, j2, j3], ?_⟩
          exact Hbad.out w _ _ (((((Hpr.out.trans hb7).setCell (by simp; omega) _).setCell (by simp; omega) _).setCell (by simp; omega) _).setCell (by simp; omega) _) Hr3.out
/-- The same, of whatever memory. -/
def MergePost (r : Tr × List Int × Nat) (w : World) (e : Ending) (w' : World) : Prop := ∃ l ks oa cap pa pc, r.1 = .node l ks ∧ l.size ≤ maxLen ∧
  e = .returned (.tuple #[.agg #[.string l, .slice oa ks.length cap], .slice pa r.2.1.length pc, .int .i64 r.2.2]) ∧ Kids Any w' ks oa cap ∧ Ints Any w' r.2.1 pa pc ∧ Pr w w'
theorem merge_any (hl1 : l1.size ≤ maxLen) (hl2 : l2.size ≤ maxLen) (hl3 : l3.size ≤ maxLen) (hk1 : Kids Any w k1 o1 c1) (hk2 : Kids Any w k2 o2 c2) (hk3 : Kids Any w k3 o3 c3) :
    Calls Try.prog 36 #[.agg #[.string l1, .slice o1 k1.length c1], .agg #[.string l2, .slice o2 k2.length c2], .agg #[.string l3, .slice o3 k3.length c3]] w (MergePost (mergeT (.node l1 k1) (.node l2 k2) (.node l3 k3)) w) :=
  (merge_anyF hl1 hl2 hl3 hk1 hk2 hk3).mono fun _ _ ⟨l, ks, oa, cap, pa, pc, h1, h2, h3, h4, h5, h6⟩ => ⟨l, ks, oa, cap, pa, pc, h1, h2, h3, h4.any, Flat.any h5, h6⟩
end
end Go.Proofs.Ytdbnfhpgmcjngab
