/- Walks: what two made of one tree. -/
import Derived.Test.YtdbnfhpgmcjngabMj
namespace Go.Proofs.Ytdbnfhpgmcjngab
open Go Go.RowKit

theorem listAt0 {α : Type} {x0 : α} {l : List α} : (x0 :: l).toArray[0]? = some x0 := by simp
theorem listAt1 {α : Type} {x0 x1 : α} {l : List α} : (x0 :: x1 :: l).toArray[1]? = some x1 := by simp
theorem listAt2 {α : Type} {x0 x1 x2 : α} {l : List α} : (x0 :: x1 :: x2 :: l).toArray[2]? = some x2 := by simp
theorem listAt3 {α : Type} {x0 x1 x2 x3 : α} {l : List α} : (x0 :: x1 :: x2 :: x3 :: l).toArray[3]? = some x3 := by simp
theorem listAt4 {α : Type} {x0 x1 x2 x3 x4 : α} {l : List α} : (x0 :: x1 :: x2 :: x3 :: x4 :: l).toArray[4]? = some x4 := by simp
theorem listAt5 {α : Type} {x0 x1 x2 x3 x4 x5 : α} {l : List α} : (x0 :: x1 :: x2 :: x3 :: x4 :: x5 :: l).toArray[5]? = some x5 := by simp
theorem listAt6 {α : Type} {x0 x1 x2 x3 x4 x5 x6 : α} {l : List α} : (x0 :: x1 :: x2 :: x3 :: x4 :: x5 :: x6 :: l).toArray[6]? = some x6 := by simp
theorem listAt7 {α : Type} {x0 x1 x2 x3 x4 x5 x6 x7 : α} {l : List α} : (x0 :: x1 :: x2 :: x3 :: x4 :: x5 :: x6 :: x7 :: l).toArray[7]? = some x7 := by simp
theorem listAt8 {α : Type} {x0 x1 x2 x3 x4 x5 x6 x7 x8 : α} {l : List α} : (x0 :: x1 :: x2 :: x3 :: x4 :: x5 :: x6 :: x7 :: x8 :: l).toArray[8]? = some x8 := by simp
theorem listAt9 {α : Type} {x0 x1 x2 x3 x4 x5 x6 x7 x8 x9 : α} {l : List α} : (x0 :: x1 :: x2 :: x3 :: x4 :: x5 :: x6 :: x7 :: x8 :: x9 :: l).toArray[9]? = some x9 := by simp
theorem listAt10 {α : Type} {x0 x1 x2 x3 x4 x5 x6 x7 x8 x9 x10 : α} {l : List α} : (x0 :: x1 :: x2 :: x3 :: x4 :: x5 :: x6 :: x7 :: x8 :: x9 :: x10 :: l).toArray[10]? = some x10 := by simp
theorem listAt11 {α : Type} {x0 x1 x2 x3 x4 x5 x6 x7 x8 x9 x10 x11 : α} {l : List α} : (x0 :: x1 :: x2 :: x3 :: x4 :: x5 :: x6 :: x7 :: x8 :: x9 :: x10 :: x11 :: l).toArray[11]? = some x11 := by simp
theorem listAt12 {α : Type} {x0 x1 x2 x3 x4 x5 x6 x7 x8 x9 x10 x11 x12 : α} {l : List α} : (x0 :: x1 :: x2 :: x3 :: x4 :: x5 :: x6 :: x7 :: x8 :: x9 :: x10 :: x11 :: x12 :: l).toArray[12]? = some x12 := by simp
theorem listAt13 {α : Type} {x0 x1 x2 x3 x4 x5 x6 x7 x8 x9 x10 x11 x12 x13 : α} {l : List α} : (x0 :: x1 :: x2 :: x3 :: x4 :: x5 :: x6 :: x7 :: x8 :: x9 :: x10 :: x11 :: x12 :: x13 :: l).toArray[13]? = some x13 := by simp
theorem listAt14 {α : Type} {x0 x1 x2 x3 x4 x5 x6 x7 x8 x9 x10 x11 x12 x13 x14 : α} {l : List α} : (x0 :: x1 :: x2 :: x3 :: x4 :: x5 :: x6 :: x7 :: x8 :: x9 :: x10 :: x11 :: x12 :: x13 :: x14 :: l).toArray[14]? = some x14 := by simp

theorem MOk.setCell {w : World} {M : Nat} {pv : Value} {p : List Int} (h : MOk w M pv p) (a : Addr) (u : Value) (h1 : a.block ≠ M) (h2 : ∀ k, pv.ownBlock = some k → a.block ≠ k) : MOk (w.setCell a u) M pv p :=
  ⟨by rw [Below.heap_setCell _ _ _ _ (fun e => h1 e.symm)]; exact h.blk, h.own.kept (fun k hk => Below.heap_setCell _ _ _ _ (fun e => h2 k hk e.symm)), h.len⟩
section
variable {M : Nat} {pv : Value} {p : List Int} {w : World} {l1 l2 l3 : ByteArray} {k1 k2 k3 : List Tr} {o1 o2 o3 : Option Addr} {c1 c2 c3 : Nat}
theorem MixPost.own {l : ByteArray} {ks : List Tr} {oa : Option Addr} {cap : Nat} {w' : World} (hl : l.size ≤ maxLen) (hk : Kids (From w.heap.size) w' ks oa cap) (hm : MOk w M pv p) (hp : Pr w w') :
    MixPost M pv p w (.ok (.node l ks)) (.returned (.agg #[.string l, .slice oa ks.length cap])) w' :=
  ⟨l, ks, oa, cap, pv, rfl, hl, rfl, hk.mono (fun k hk _ => ⟨hk, fun e => by have := (hm.own.block k e).2; have hk' : w.heap.size ≤ k := hk; omega⟩), hm.pr hp, ⟨hp.chg _, fun _ h => .inl h⟩⟩
set_option maxRecDepth 100000 in
set_option maxHeartbeats 1600000 in
theorem mtree_a (s2 : Tr.szL k2 ≤ 1000) (hl2 : l2.size ≤ maxLen) (hm : MOk w M pv p) (hk1 : Kids Any w k1 o1 c1) (hk2 : Kids Any w k2 o2 c2) (hk3 : Kids Any w k3 o3 c3) (h : ((Tr.node l2 k2).beq (.node l3 k3) || (Tr.node l3 k3).beq (.node l1 k1)) = true) :
    Calls Try.prog 73 #[.pointer (some ⟨M, 0, none⟩), .agg #[.string l1, .slice o1 k1.length c1], .agg #[.string l2, .slice o2 k2.length c2], .agg #[.string l3, .slice o3 k3.length c3]] w (MixPost M pv p w (.ok (.node l2 k2))) := by
  obtain ⟨W, hW⟩ : ∃ W, W = (((w.alloc (.cells #[.string l1, .slice o1 k1.length c1] 24)).alloc (.cells #[.string l2, .slice o2 k2.length c2] 24)).alloc (.cells #[.string l3, .slice o3 k3.length c3] 24)).alloc (.cells #[.string ⟨#[]⟩, .slice none 0 0] 24) := ⟨_, rfl⟩
  have hwW : Pr w W := by rw [hW]; exact (((Pr.alloc _ _).alloc' _).alloc' _).alloc' _
  have hWs : W.heap.size = w.heap.size + 4 := by rw [hW]; simp
  have x0 := stays (show W.cell? ⟨w.heap.size, 0, none⟩ = some (.string l1) by rw [hW]; simp [go_sem])
  have x1 := stays (show W.cell? ⟨w.heap.size, 1, none⟩ = some (.slice o1 k1.length c1) by rw [hW]; simp [go_sem])
  have y0 := stays (show W.cell? ⟨w.heap.size + 1, 0, none⟩ = some (.string l2) by rw [hW]; simp [go_sem])
  have y1 := stays (show W.cell? ⟨w.heap.size + 1, 1, none⟩ = some (.slice o2 k2.length c2) by rw [hW]; simp [go_sem])
  have z0 := stays (show W.cell? ⟨w.heap.size + 1 + 1, 0, none⟩ = some (.string l3) by rw [hW]; simp [go_sem])
  have z1 := stays (show W.cell? ⟨w.heap.size + 1 + 1, 1, none⟩ = some (.slice o3 k3.length c3) by rw [hW]; simp [go_sem])
  have r0 := stays (show W.cell? ⟨w.heap.size + 1 + 1 + 1, 0, none⟩ = some (.string ⟨#[]⟩) by rw [hW]; simp [go_sem])
  have r1 := stays (show W.cell? ⟨w.heap.size + 1 + 1 + 1, 1, none⟩ = some (.slice none 0 0) by rw [hW]; simp [go_sem])
  have f0 : W.frozen? ⟨w.heap.size + 1 + 1 + 1, 0, none⟩ = false := by rw [hW]; simp [go_sem]
  have f1 : W.frozen? ⟨w.heap.size + 1 + 1 + 1, 1, none⟩ = false := by rw [hW]; simp [go_sem]
  have hk1 := hk1.pr hwW; have hk2 := hk2.pr hwW; have hk3 := hk3.pr hwW
  have S1 := Lib.hid (fun W' (h : Pr W W') => psame_any l2 l3 k2 k3 o2 c2 o3 c3 W' (hk2.pr h) (hk3.pr h))
  have S2 := Lib.hid (fun W' (h : Pr W W') => psame_any l3 l1 k3 k1 o3 c3 o1 c1 W' (hk3.pr h) (hk1.pr h))
  have O1 := Lib.hid (fun W' (h : Pr W W') => own_any l2 k2 o2 c2 W' (by omega) (hk2.pr h))
  generalize (Tr.node l2 k2).beq (.node l3 k3) = t1 at *
  generalize (Tr.node l3 k3).beq (.node l1 k1) = t2 at *
  have main : t1 = true ∨ (t1 = false ∧ t2 = true) := by cases t1 <;> cases t2 <;> simp at h ⊢
  have HM := Lib.hid hm; have HW := Lib.hid hwW; have HWs := Lib.hid hWs; have F0 := Lib.hid f0; have F1 := Lib.hid f1
  clear h hm hk1 hk2 hk3 hwW hWs f0 f1
  go_enter Try.func73, Try.ntmps73
  go_upto_region 1 with fail
  rw [← hW]
  clear hW
  have hp := Pr.refl W
  have y0' := y0 _ hp; have y1' := y1 _ hp; have z0' := z0 _ hp; have z1' := z1 _ hp
  rcases main with rfl | ⟨rfl, rfl⟩
  all_goals
    go_wp2_with (first
      | (go_at_call 58; (with_reducible refine Calls.mono (S1.out _ hp) ?_); rintro e w1 ⟨rfl, hb1⟩; have hp := hp.trans hb1; have y0' := y0 _ hp; have y1' := y1 _ hp; have z0' := z0 _ hp; have z1' := z1 _ hp; have x0' := x0 _ hp; have x1' := x1 _ hp)
      | (go_at_call 58; (with_reducible refine Calls.mono (S2.out _ hp) ?_); rintro e w2 ⟨rfl, hb2⟩; have hp := hp.trans hb2; have y0' := y0 _ hp; have y1' := y1 _ hp)
      | (go_at_call 59; (with_reducible refine Calls.mono (O1.out _ hp) ?_); rintro e w3 ⟨oa2, cap2, rfl, hkk, hb3⟩; have hcs := hp.size; have hp := hp.trans hb3; have r0' := r0 _ hp; have r1' := r1 _ hp; have f0' : w3.frozen? ⟨w.heap.size + 1 + 1 + 1, 0, none⟩ = false := (by rw [hp.frozen (by have := HWs.out; omega)]; exact F0.out); have f1' : w3.frozen? ⟨w.heap.size + 1 + 1 + 1, 1, none⟩ = false := (by rw [hp.frozen (by have := HWs.out; omega)]; exact F1.out)))
    refine bodyPost_ret (v := .agg #[.string l2, .slice oa2 k2.length cap2]) (by simp [results, Try.results73, go_sem, r0', r1']) rfl (MixPost.own hl2 ?_ HM.out ?_)
    · exact ((hkk.setCell _ _ (by have := HWs.out; simp; omega)).setCell _ _ (by have := HWs.out; simp; omega)).from (by have := HWs.out; omega)
    · exact ((HW.out.trans hp).setCell (by simp; omega) _).setCell (by simp; omega) _
set_option maxRecDepth 100000 in
set_option maxHeartbeats 1600000 in
theorem mtree_b (s3 : Tr.szL k3 ≤ 1000) (hl3 : l3.size ≤ maxLen) (hm : MOk w M pv p) (hk1 : Kids Any w k1 o1 c1) (hk2 : Kids Any w k2 o2 c2) (hk3 : Kids Any w k3 o3 c3) (h : ¬ ((Tr.node l2 k2).beq (.node l3 k3) || (Tr.node l3 k3).beq (.node l1 k1)) = true) (h1 : (Tr.node l2 k2).beq (.node l1 k1) = true) :
    Calls Try.prog 73 #[.pointer (some ⟨M, 0, none⟩), .agg #[.string l1, .slice o1 k1.length c1], .agg #[.string l2, .slice o2 k2.length c2], .agg #[.string l3, .slice o3 k3.length c3]] w (MixPost M pv p w (.ok (.node l3 k3))) := by
  obtain ⟨W, hW⟩ : ∃ W, W = (((w.alloc (.cells #[.string l1, .slice o1 k1.length c1] 24)).alloc (.cells #[.string l2, .slice o2 k2.length c2] 24)).alloc (.cells #[.string l3, .slice o3 k3.length c3] 24)).alloc (.cells #[.string ⟨#[]⟩, .slice none 0 0] 24) := ⟨_, rfl⟩
  have hwW : Pr w W := by rw [hW]; exact (((Pr.alloc _ _).alloc' _).alloc' _).alloc' _
  have hWs : W.heap.size = w.heap.size + 4 := by rw [hW]; simp
  have x0 := stays (show W.cell? ⟨w.heap.size, 0, none⟩ = some (.string l1) by rw [hW]; simp [go_sem])
  have x1 := stays (show W.cell? ⟨w.heap.size, 1, none⟩ = some (.slice o1 k1.length c1) by rw [hW]; simp [go_sem])
  have y0 := stays (show W.cell? ⟨w.heap.size + 1, 0, none⟩ = some (.string l2) by rw [hW]; simp [go_sem])
  have y1 := stays (show W.cell? ⟨w.heap.size + 1, 1, none⟩ = some (.slice o2 k2.length c2) by rw [hW]; simp [go_sem])
  have z0 := stays (show W.cell? ⟨w.heap.size + 1 + 1, 0, none⟩ = some (.string l3) by rw [hW]; simp [go_sem])
  have z1 := stays (show W.cell? ⟨w.heap.size + 1 + 1, 1, none⟩ = some (.slice o3 k3.length c3) by rw [hW]; simp [go_sem])
  have r0 := stays (show W.cell? ⟨w.heap.size + 1 + 1 + 1, 0, none⟩ = some (.string ⟨#[]⟩) by rw [hW]; simp [go_sem])
  have r1 := stays (show W.cell? ⟨w.heap.size + 1 + 1 + 1, 1, none⟩ = some (.slice none 0 0) by rw [hW]; simp [go_sem])
  have f0 : W.frozen? ⟨w.heap.size + 1 + 1 + 1, 0, none⟩ = false := by rw [hW]; simp [go_sem]
  have f1 : W.frozen? ⟨w.heap.size + 1 + 1 + 1, 1, none⟩ = false := by rw [hW]; simp [go_sem]
  have hk1 := hk1.pr hwW; have hk2 := hk2.pr hwW; have hk3 := hk3.pr hwW
  have S1 := Lib.hid (fun W' (h : Pr W W') => psame_any l2 l3 k2 k3 o2 c2 o3 c3 W' (hk2.pr h) (hk3.pr h))
  have S2 := Lib.hid (fun W' (h : Pr W W') => psame_any l3 l1 k3 k1 o3 c3 o1 c1 W' (hk3.pr h) (hk1.pr h))
  have S3 := Lib.hid (fun W' (h : Pr W W') => psame_any l2 l1 k2 k1 o2 c2 o1 c1 W' (hk2.pr h) (hk1.pr h))
  have O1 := Lib.hid (fun W' (h : Pr W W') => own_any l3 k3 o3 c3 W' (by omega) (hk3.pr h))
  generalize (Tr.node l2 k2).beq (.node l3 k3) = t1 at *
  generalize (Tr.node l3 k3).beq (.node l1 k1) = t2 at *
  rw [h1] at S3
  have main : t1 = false ∧ t2 = false := by cases t1 <;> cases t2 <;> simp at h ⊢
  have HM := Lib.hid hm; have HW := Lib.hid hwW; have HWs := Lib.hid hWs; have F0 := Lib.hid f0; have F1 := Lib.hid f1
  clear h h1 hm hk1 hk2 hk3 hwW hWs f0 f1
  go_enter Try.func73, Try.ntmps73
  go_upto_region 1 with fail
  rw [← hW]
  clear hW
  have hp := Pr.refl W
  have y0' := y0 _ hp; have y1' := y1 _ hp; have z0' := z0 _ hp; have z1' := z1 _ hp
  obtain ⟨rfl, rfl⟩ := main
  all_goals
    go_wp2_with (first
      | (go_at_call 58; (with_reducible refine Calls.mono (S1.out _ hp) ?_); rintro e w1 ⟨rfl, hb1⟩; have hp := hp.trans hb1; have y0' := y0 _ hp; have y1' := y1 _ hp; have z0' := z0 _ hp; have z1' := z1 _ hp; have x0' := x0 _ hp; have x1' := x1 _ hp)
      | (go_at_call 58; (with_reducible refine Calls.mono (S2.out _ hp) ?_); rintro e w2 ⟨rfl, hb2⟩; have hp := hp.trans hb2; have y0' := y0 _ hp; have y1' := y1 _ hp; have z0' := z0 _ hp; have z1' := z1 _ hp; have x0' := x0 _ hp; have x1' := x1 _ hp)
      | (go_at_call 58; (with_reducible refine Calls.mono (S3.out _ hp) ?_); rintro e w2 ⟨rfl, hb4⟩; have hp := hp.trans hb4; have y0' := y0 _ hp; have y1' := y1 _ hp; have z0' := z0 _ hp; have z1' := z1 _ hp; have x0' := x0 _ hp; have x1' := x1 _ hp)
      | (go_at_call 59; (with_reducible refine Calls.mono (O1.out _ hp) ?_); rintro e w3 ⟨oa2, cap2, rfl, hkk, hb3⟩; have hcs := hp.size; have hp := hp.trans hb3; have r0' := r0 _ hp; have r1' := r1 _ hp; have f0' : w3.frozen? ⟨w.heap.size + 1 + 1 + 1, 0, none⟩ = false := (by rw [hp.frozen (by have := HWs.out; omega)]; exact F0.out); have f1' : w3.frozen? ⟨w.heap.size + 1 + 1 + 1, 1, none⟩ = false := (by rw [hp.frozen (by have := HWs.out; omega)]; exact F1.out)))
    refine bodyPost_ret (v := .agg #[.string l3, .slice oa2 k3.length cap2]) (by simp [results, Try.results73, go_sem, r0', r1']) rfl (MixPost.own hl3 ?_ HM.out ?_)
    · exact ((hkk.setCell _ _ (by have := HWs.out; simp; omega)).setCell _ _ (by have := HWs.out; simp; omega)).from (by have := HWs.out; omega)
    · exact ((HW.out.trans hp).setCell (by simp; omega) _).setCell (by simp; omega) _

set_option maxRecDepth 100000 in
set_option maxHeartbeats 3200000 in
theorem mtree_c (N : Nat) (LC : ListsC N) (hsz : Tr.szL k1 ≤ N) (s1 : Tr.szL k1 ≤ 1000) (s2 : Tr.szL k2 ≤ 1000) (s3 : Tr.szL k3 ≤ 1000) (hpl : p.length + Tr.szL k1 ≤ 899) (hl2 : l2.size ≤ maxLen) (hl3 : l3.size ≤ maxLen) (hm : MOk w M pv p)
    (r : Ex Tr) (hr : r = match mixL l1 l2 l3 with
      | none => .error []
      | some l => exMap (Tr.node l) (segM (mixT N) k1 k2 k3 (held (common k1 k2) (common k1 k3)) 0 0 0))
    (hk1 : Kids (fun k => k < M) w k1 o1 c1) (hk2 : Kids (fun k => k < M) w k2 o2 c2) (hk3 : Kids (fun k => k < M) w k3 o3 c3) (h : ¬ ((Tr.node l2 k2).beq (.node l3 k3) || (Tr.node l3 k3).beq (.node l1 k1)) = true) (h1 : ¬ (Tr.node l2 k2).beq (.node l1 k1) = true) :
    Calls Try.prog 73 #[.pointer (some ⟨M, 0, none⟩), .agg #[.string l1, .slice o1 k1.length c1], .agg #[.string l2, .slice o2 k2.length c2], .agg #[.string l3, .slice o3 k3.length c3]] w (MixPost M pv p w r) := by
  have Hr := Lib.hid hr
  clear hr
  obtain ⟨W, hW⟩ : ∃ W, W = (((w.alloc (.cells #[.string l1, .slice o1 k1.length c1] 24)).alloc (.cells #[.string l2, .slice o2 k2.length c2] 24)).alloc (.cells #[.string l3, .slice o3 k3.length c3] 24)).alloc (.cells #[.string ⟨#[]⟩, .slice none 0 0] 24) := ⟨_, rfl⟩
  have hwW : Pr w W := by rw [hW]; exact (((Pr.alloc _ _).alloc' _).alloc' _).alloc' _
  have hWs : W.heap.size = w.heap.size + 4 := by rw [hW]; simp
  have x0 := stays (show W.cell? ⟨w.heap.size, 0, none⟩ = some (.string l1) by rw [hW]; simp [go_sem])
  have x1 := stays (show W.cell? ⟨w.heap.size, 1, none⟩ = some (.slice o1 k1.length c1) by rw [hW]; simp [go_sem])
  have y0 := stays (show W.cell? ⟨w.heap.size + 1, 0, none⟩ = some (.string l2) by rw [hW]; simp [go_sem])
  have y1 := stays (show W.cell? ⟨w.heap.size + 1, 1, none⟩ = some (.slice o2 k2.length c2) by rw [hW]; simp [go_sem])
  have z0 := stays (show W.cell? ⟨w.heap.size + 1 + 1, 0, none⟩ = some (.string l3) by rw [hW]; simp [go_sem])
  have z1 := stays (show W.cell? ⟨w.heap.size + 1 + 1, 1, none⟩ = some (.slice o3 k3.length c3) by rw [hW]; simp [go_sem])
  have r0 := stays (show W.cell? ⟨w.heap.size + 1 + 1 + 1, 0, none⟩ = some (.string ⟨#[]⟩) by rw [hW]; simp [go_sem])
  have r1 := stays (show W.cell? ⟨w.heap.size + 1 + 1 + 1, 1, none⟩ = some (.slice none 0 0) by rw [hW]; simp [go_sem])
  have f0 : W.frozen? ⟨w.heap.size + 1 + 1 + 1, 0, none⟩ = false := by rw [hW]; simp [go_sem]
  have f1 : W.frozen? ⟨w.heap.size + 1 + 1 + 1, 1, none⟩ = false := by rw [hW]; simp [go_sem]
  have hk1 := hk1.pr hwW; have hk2 := hk2.pr hwW; have hk3 := hk3.pr hwW
  have S1 := Lib.hid (fun W' (h : Pr W W') => psame_any l2 l3 k2 k3 o2 c2 o3 c3 W' (hk2.any.pr h) (hk3.any.pr h))
  have S2 := Lib.hid (fun W' (h : Pr W W') => psame_any l3 l1 k3 k1 o3 c3 o1 c1 W' (hk3.any.pr h) (hk1.any.pr h))
  have S3 := Lib.hid (fun W' (h : Pr W W') => psame_any l2 l1 k2 k1 o2 c2 o1 c1 W' (hk2.any.pr h) (hk1.any.pr h))
  generalize (Tr.node l2 k2).beq (.node l3 k3) = t1 at *
  generalize (Tr.node l3 k3).beq (.node l1 k1) = t2 at *
  generalize (Tr.node l2 k2).beq (.node l1 k1) = t3 at *
  have main : t1 = false ∧ t2 = false := by cases t1 <;> cases t2 <;> simp at h ⊢
  have main3 : t3 = false := by cases t3 <;> simp at h1 ⊢
  have hmW := hm.pr hwW
  have L1 := Lib.hid (fun W' (h : Pr W W') => LC k1 k2 k3 o1 o2 o3 c1 c2 c3 M pv p W' hsz s1 s2 s3 hpl (hmW.pr h) (hk1.pr h) (hk2.pr h) (hk3.pr h))
  have HM := Lib.hid hm; have HmW := Lib.hid hmW; have HW := Lib.hid hwW; have HWs := Lib.hid hWs; have F0 := Lib.hid f0; have F1 := Lib.hid f1
  clear h h1 hm hk1 hk2 hk3 hwW hWs f0 f1 LC hmW
  obtain ⟨rfl, rfl⟩ := main
  subst main3
  go_enter Try.func73, Try.ntmps73
  go_upto_region 1 with fail
  rw [← hW]
  clear hW
  have hp := Pr.refl W
  have y0' := y0 _ hp; have y1' := y1 _ hp; have z0' := z0 _ hp; have z1' := z1 _ hp
  go_upto_region 5 with (first
    | (go_at_call 58; (with_reducible refine Calls.mono (S1.out _ hp) ?_); rintro e w1 ⟨rfl, hb1⟩; have hp := hp.trans hb1; have y0' := y0 _ hp; have y1' := y1 _ hp; have z0' := z0 _ hp; have z1' := z1 _ hp; have x0' := x0 _ hp; have x1' := x1 _ hp)
    | (go_at_call 58; (with_reducible refine Calls.mono (S2.out _ hp) ?_); rintro e w2 ⟨rfl, hb2⟩; have hp := hp.trans hb2; have y0' := y0 _ hp; have y1' := y1 _ hp; have z0' := z0 _ hp; have z1' := z1 _ hp; have x0' := x0 _ hp; have x1' := x1 _ hp)
    | (go_at_call 58; (with_reducible refine Calls.mono (S3.out _ hp) ?_); rintro e w3 ⟨rfl, hb3⟩; have hp := hp.trans hb3))
  have hp3 := hp
  have x0 := stays (x0 _ hp3); have x1 := stays (x1 _ hp3); have y0 := stays (y0 _ hp3); have y1 := stays (y1 _ hp3); have z0 := stays (z0 _ hp3); have z1 := stays (z1 _ hp3)
  clear hp hb1 hb2 hb3 S1 S2 S3 y0' y1' z0' z1'
  cases hml : mixL l1 l2 l3 with
  | none =>
    have hq := Pr.drew w3
    have F2 := Lib.hid (fun W' (h : Pr w3 W') => mlabel_no W' M pv p l1 l2 l3 (HmW.out.pr (hp3.trans h)) hml)
    refine wp_region_held_drew (S := fun W' => Pr w3 W') (by kernel_rfl) hq (fun hHeld => ?_)
    refine wpAnyH_take (v := ?_) listAt0 (by kernel_rfl) (by kernel_rfl) (by kernel_rfl) (fun _ _ _ h => h) (Or.inl ⟨by rfl, ?_⟩) hHeld ?_
    rotate_left
    · (intro wz hSw; (try dsimp only at hSw); go_simp; first | done | with_reducible rfl)
    simp only [Act.put, List.setIfInBounds_toArray, List.set_cons_zero, List.set_cons_succ]
    refine wpAnyH_take (v := ?_) listAt1 (by kernel_rfl) (by kernel_rfl) (by kernel_rfl) (fun _ _ _ h => h) (Or.inl ⟨by rfl, ?_⟩) hHeld ?_
    rotate_left
    · (intro wz hSw; (try dsimp only at hSw); go_simp; first | done | with_reducible rfl)
    simp only [Act.put, List.setIfInBounds_toArray, List.set_cons_zero, List.set_cons_succ]
    refine wpAnyH_take (v := ?_) listAt2 (by kernel_rfl) (by kernel_rfl) (by kernel_rfl) (fun _ _ _ h => h) (Or.inl ⟨by rfl, ?_⟩) hHeld ?_
    rotate_left
    · (intro wz hSw; (try dsimp only at hSw); go_simp; first | done | with_reducible rfl)
    simp only [Act.put, List.setIfInBounds_toArray, List.set_cons_zero, List.set_cons_succ]
    refine wpAnyH_take (v := ?_) listAt3 (by kernel_rfl) (by kernel_rfl) (by kernel_rfl) (fun _ _ _ h => h) (Or.inl ⟨by rfl, ?_⟩) hHeld ?_
    rotate_left
    · (intro wz hSw; (try dsimp only at hSw); go_simp; first | done | with_reducible rfl)
    simp only [Act.put, List.setIfInBounds_toArray, List.set_cons_zero, List.set_cons_succ]
    refine wpAnyH_take (v := ?_) listAt4 (by kernel_rfl) (by kernel_rfl) (by kernel_rfl) (fun _ _ _ h => h) (Or.inl ⟨by rfl, ?_⟩) hHeld ?_
    rotate_left
    · (intro wz hSw; (try dsimp only at hSw); go_simp; first | done | with_reducible rfl)
    simp only [Act.put, List.setIfInBounds_toArray, List.set_cons_zero, List.set_cons_succ]
    refine wpAnyH_take (v := ?_) listAt5 (by kernel_rfl) (by kernel_rfl) (by kernel_rfl) (fun _ _ _ h => h) (Or.inl ⟨by rfl, ?_⟩) hHeld ?_
    rotate_left
    · (intro wz hSw; (try dsimp only at hSw); go_simp; first | done | with_reducible rfl)
    simp only [Act.put, List.setIfInBounds_toArray, List.set_cons_zero, List.set_cons_succ]
    refine wpAnyH_take (v := ?_) listAt6 (by kernel_rfl) (by kernel_rfl) (by kernel_rfl) (fun _ _ _ h => h) (Or.inl ⟨by rfl, ?_⟩) hHeld ?_
    rotate_left
    · (intro wz hSw; (try dsimp only at hSw); go_simp; first | done | with_reducible rfl)
    simp only [Act.put, List.setIfInBounds_toArray, List.set_cons_zero, List.set_cons_succ]
    refine wpAnyH_take (v := ?_) listAt8 (by kernel_rfl) (by kernel_rfl) (by kernel_rfl) (fun _ _ _ h => h) (Or.inl ⟨by rfl, ?_⟩) hHeld ?_
    rotate_left
    · (intro wz hSw; (try dsimp only at hSw); go_simp; first | done | with_reducible rfl)
    simp only [Act.put, List.setIfInBounds_toArray, List.set_cons_zero, List.set_cons_succ]
    refine wpAnyH_take (v := ?_) listAt9 (by kernel_rfl) (by kernel_rfl) (by kernel_rfl) (fun _ _ _ h => h) (Or.inl ⟨by rfl, ?_⟩) hHeld ?_
    rotate_left
    · (intro wz hSw; (try dsimp only at hSw); go_simp; first | done | with_reducible rfl)
    simp only [Act.put, List.setIfInBounds_toArray, List.set_cons_zero, List.set_cons_succ]
    refine wpAnyH_take (v := ?_) listAt10 (by kernel_rfl) (by kernel_rfl) (by kernel_rfl) (fun _ _ _ h => h) (Or.inl ⟨by rfl, ?_⟩) hHeld ?_
    rotate_left
    · (intro wz hSw; (try dsimp only at hSw); go_simp; first | done | with_reducible rfl)
    simp only [Act.put, List.setIfInBounds_toArray, List.set_cons_zero, List.set_cons_succ]
    refine wpAnyH_take (v := ?_) listAt11 (by kernel_rfl) (by kernel_rfl) (by kernel_rfl) (fun _ _ _ h => h) (Or.inl ⟨by rfl, ?_⟩) hHeld ?_
    rotate_left
    · (intro wz hSw; (try dsimp only at hSw); go_simp; first | done | with_reducible rfl)
    simp only [Act.put, List.setIfInBounds_toArray, List.set_cons_zero, List.set_cons_succ]
    refine wpAnyH_take (v := ?_) listAt12 (by kernel_rfl) (by kernel_rfl) (by kernel_rfl) (fun _ _ _ h => h) (Or.inl ⟨by rfl, ?_⟩) hHeld ?_
    rotate_left
    · (intro wz hSw; (try dsimp only at hSw); go_simp; first | done | with_reducible rfl)
    simp only [Act.put, List.setIfInBounds_toArray, List.set_cons_zero, List.set_cons_succ]
    refine wpAnyH_take (v := ?_) listAt13 (by kernel_rfl) (by kernel_rfl) (by kernel_rfl) (fun _ _ _ h => h) (Or.inl ⟨by rfl, ?_⟩) hHeld ?_
    rotate_left
    · (intro wz hSw; (try dsimp only at hSw); go_simp; first | done | with_reducible rfl)
    simp only [Act.put, List.setIfInBounds_toArray, List.set_cons_zero, List.set_cons_succ]
    refine wpAnyH_take (v := ?_) listAt14 (by kernel_rfl) (by kernel_rfl) (by kernel_rfl) (fun _ _ _ h => h) (Or.inl ⟨by rfl, ?_⟩) hHeld ?_
    rotate_left
    · (intro wz hSw; (try dsimp only at hSw); go_simp; first | done | with_reducible rfl)
    simp only [Act.put, List.setIfInBounds_toArray, List.set_cons_zero, List.set_cons_succ]
    refine wpAnyH_ready (rs := [7]) (by kernel_rfl) (by simp) ?_
    refine AllReadyH.cons listAt7 (fun K hK => ?_) AllReadyH.nil
    go_simp
    go_wp2_with (go_at_call 89; (with_reducible refine Calls.mono (F2.out _ hq) ?_); rintro e w5 ⟨oa5, cap5, rfl, hi5, hb5⟩)
    have hr2 := Hr.out
    rw [hml] at hr2
    rw [hr2]
    exact ⟨rfl, oa5, cap5, by simp, by rw [List.append_nil]; exact hi5.mono (fun k hk _ => by have := blk_lt HM.out.blk; have := (HW.out.trans (hp3.trans hq)).size; have hk' : w3.drew.heap.size ≤ k := hk; show M ≤ k; omega), (HW.out.trans (hp3.trans (hq.trans hb5))).chg _⟩
  | some l =>
    have hml2 := hml
    have hll : l.size ≤ maxLen := by
      unfold mixL at hml2
      split at hml2
      · cases hml2; exact hl2
      · split at hml2
        · cases hml2; exact hl3
        · cases hml2
    have F2 := Lib.hid (fun (W' : World) => mlabel_yes W' M l1 l2 l3 l hml)
    have Hll := Lib.hid hll
    have hr2 := Hr.out
    rw [hml] at hr2
    simp only [] at hr2
    have r0 := stays (r0 _ hp3); have r1 := stays (r1 _ hp3)
    clear hml hml2 hl2 hl3 hll
    have x0 := x0 _ (Pr.refl _); have x1 := x1 _ (Pr.refl _); have y0 := y0 _ (Pr.refl _); have y1 := y1 _ (Pr.refl _); have z0 := z0 _ (Pr.refl _); have z1 := z1 _ (Pr.refl _)
    generalize segM (mixT N) k1 k2 k3 (held (common k1 k2) (common k1 k3)) 0 0 0 = rt at *
    have Hr2 := Lib.hid hr2
    clear hr2
    refine wp_region_quiet_tail 15 (by kernel_rfl) (by kernel_rfl) ?_
    simp only [List.take_succ_cons, List.take_zero, List.drop_succ_cons, List.drop_zero]
    repeat (go_big_quiet_step ((go_at_call 89; exact Calls.quiet_of_same (F2.out _))))
    refine wpQuiet_nil ?_
    rintro _ ⟨nq, rfl⟩
    have hq := Pr.drewN w3 nq
    cases rt with
    | error e =>
      go_wp2_with (go_at_call 90; (with_reducible refine Calls.mono (L1.out _ (hp3.trans hq)) ?_); rintro e5 w5 ⟨oa5, cap5, rfl, hi5, hc5⟩)
      rw [Hr2.out]
      exact ⟨rfl, oa5, cap5, by simp, hi5, ((HW.out.trans (hp3.trans hq)).chg _).trans hc5 (fun _ h => .inl h)⟩
    | ok ks =>
      have hMw : M < w.heap.size := blk_lt HM.out.blk
      have hpb : ∀ k', pv.ownBlock = some k' → k' < w.heap.size := fun k' e => (HM.out.own.block k' e).2
      have hs3 := (hp3.trans hq).size
      go_wp2_with (go_at_call 90; (with_reducible refine Calls.mono (L1.out _ (hp3.trans hq)) ?_); rintro e5 w5 ⟨v5, pv5, rfl, ho5, hm5, hs5⟩; obtain ⟨o5, c5, rfl, hk5⟩ := ho5.kids
                   have hkp : ∀ (k' : Nat), k' = w.heap.size + 1 + 1 + 1 → w5.heap[k']? = (w3.drewN nq).heap[k']? := (fun k' e => hs5.chg.block k' (by rw [e]; have := HWs.out; omega) (by rintro (e2 | e2); omega; have := hpb k' e2; omega))
                   have r0' : w5.cell? ⟨w.heap.size + 1 + 1 + 1, 0, none⟩ = some (.string ⟨#[]⟩) := (by rw [World.cell?_of_block (hkp _ rfl)]; exact r0 _ hq)
                   have r1' : w5.cell? ⟨w.heap.size + 1 + 1 + 1, 1, none⟩ = some (.slice none 0 0) := (by rw [World.cell?_of_block (hkp _ rfl)]; exact r1 _ hq)
                   have f0' : w5.frozen? ⟨w.heap.size + 1 + 1 + 1, 0, none⟩ = false := (by rw [World.frozen?_of_block (hkp _ rfl), (hp3.trans hq).frozen (by have := HWs.out; omega)]; exact F0.out)
                   have f1' : w5.frozen? ⟨w.heap.size + 1 + 1 + 1, 1, none⟩ = false := (by rw [World.frozen?_of_block (hkp _ rfl), (hp3.trans hq).frozen (by have := HWs.out; omega)]; exact F1.out))
      have hst : Step M pv pv5 w w5 := (⟨(HW.out.trans (hp3.trans hq)).chg _, fun _ e => .inl e⟩ : Step M pv pv w (w3.drewN nq)).trans hs5
      have hWs := HWs.out
      rw [Hr2.out]
      refine bodyPost_ret (v := .agg #[.string l, .slice o5 ks.length c5]) (by simp [results, Try.results73, go_sem, r0', r1']) rfl ⟨l, ks, o5, c5, pv5, rfl, Hll.out, rfl, ?_, ?_, ?_⟩
      · refine ((hk5.setCell _ _ ?_).setCell _ _ ?_).mono (fun k' hS _ => ⟨by have := hS.1; omega, hS.2⟩)
        · rintro ⟨hx, _⟩
          have hx' : (w3.drewN nq).heap.size ≤ w.heap.size + 1 + 1 + 1 := hx
          omega
        · rintro ⟨hx, _⟩
          have hx' : (w3.drewN nq).heap.size ≤ w.heap.size + 1 + 1 + 1 := hx
          omega
      · have hne : ∀ k', pv5.ownBlock = some k' → w.heap.size + 1 + 1 + 1 ≠ k' := fun k' e => by
          rcases hs5.new k' e with e2 | e2
          · have := hpb k' e2; omega
          · omega
        exact (hm5.setCell _ _ (by show w.heap.size + 1 + 1 + 1 ≠ M; omega) hne).setCell _ _ (by show w.heap.size + 1 + 1 + 1 ≠ M; omega) hne
      · exact ⟨(hst.chg.setCell _ _ (.inr (by show w.heap.size ≤ w.heap.size + 1 + 1 + 1; omega))).setCell _ _ (.inr (by show w.heap.size ≤ w.heap.size + 1 + 1 + 1; omega)), hst.new⟩
end
theorem mtree_step (N : Nat) (LC : ListsC N) : TreeC (N + 1) := by
  intro l1 l2 l3 k1 k2 k3 o1 o2 o3 c1 c2 c3 M pv p w hsz s1 s2 s3 hpl hl2 hl3 hm hk1 hk2 hk3
  simp only [Tr.sz] at hsz hpl
  by_cases h : ((Tr.node l2 k2).beq (.node l3 k3) || (Tr.node l3 k3).beq (.node l1 k1)) = true
  · rw [mixT_same N _ _ _ h]; exact mtree_a s2 hl2 hm hk1.any hk2.any hk3.any h
  · by_cases h1 : (Tr.node l2 k2).beq (.node l1 k1) = true
    · rw [mixT_left N _ _ _ h h1]; exact mtree_b s3 hl3 hm hk1.any hk2.any hk3.any h h1
    · have := mtree_c N LC (by omega) s1 s2 s3 (by omega) hl2 hl3 hm _ rfl hk1 hk2 hk3 h h1
      have e : mixT (N + 1) (.node l1 k1) (.node l2 k2) (.node l3 k3) = (match mixL l1 l2 l3 with
        | none => .error []
        | some l => exMap (Tr.node l) (segM (mixT N) k1 k2 k3 (held (common k1 k2) (common k1 k3)) 0 0 0)) := by
        rw [mixT, if_neg h, if_neg h1]
        simp only [Tr.kids_node, Tr.label_node, heldT]
        cases mixL l1 l2 l3 with
        | none => rfl
        | some l => simp only []; cases segM (mixT N) k1 k2 k3 (held (common k1 k2) (common k1 k3)) 0 0 0 <;> rfl
      rw [e]; exact this
theorem mtree_any : ∀ N, TreeC N
  | 0 => fun l1 l2 l3 k1 k2 k3 o1 o2 o3 c1 c2 c3 M pv p w hsz => by simp only [Tr.sz] at hsz; omega
  | N + 1 => mtree_step N (lists_any N (mtree_any N))
end Go.Proofs.Ytdbnfhpgmcjngab
