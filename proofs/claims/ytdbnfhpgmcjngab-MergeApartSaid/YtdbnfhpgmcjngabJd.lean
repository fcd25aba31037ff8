/- Walks: pleachingref.mixed, where it ends early. -/
import Derived.Test.YtdbnfhpgmcjngabJc
namespace Go.Proofs.Ytdbnfhpgmcjngab
open Go Go.RowKit

section
variable {M : Nat} {w : World} {l1 l2 l3 : ByteArray} {k1 k2 k3 : List Tr} {o1 o2 o3 : Option Addr} {c1 c2 c3 : Nat}
set_option maxRecDepth 100000 in
set_option maxHeartbeats 3200000 in
theorem rmixed_a (_ : l1.size ≤ maxLen) (hl2 : l2.size ≤ maxLen) (_ : l3.size ≤ maxLen) (hM : M ≤ w.heap.size) (hk1 : Kids (fun k => k < M) w k1 o1 c1) (hk2 : Kids (fun k => k < M) w k2 o2 c2) (hk3 : Kids (fun k => k < M) w k3 o3 c3) (h : ((Tr.node l2 k2).beq (.node l3 k3) || (Tr.node l3 k3).beq (.node l1 k1)) = true) :
    Calls Try.prog 74 #[.agg #[.string l1, .slice o1 k1.length c1], .agg #[.string l2, .slice o2 k2.length c2], .agg #[.string l3, .slice o3 k3.length c3]] w (MixedPost M (.ok (.node l2 k2)) w) := by
  obtain ⟨W, hW⟩ : ∃ W, W = (((w.alloc (.cells #[.string l1, .slice o1 k1.length c1] 24)).alloc (.cells #[.string l2, .slice o2 k2.length c2] 24)).alloc (.cells #[.string l3, .slice o3 k3.length c3] 24)).alloc (.cells #[.string ⟨#[]⟩, .slice none 0 0] 24) := ⟨_, rfl⟩
  have hwW : Pr w W := by rw [hW]; exact (((Pr.alloc _ _).alloc' _).alloc' _).alloc' _
  have hWs : W.heap.size = w.heap.size + 4 := by rw [hW]; simp
  have x0 := stays (show W.cell? ⟨w.heap.size, 0, none⟩ = some (.string l1) by rw [hW]; simp [go_sem])
  have x1 := stays (show W.cell? ⟨w.heap.size, 1, none⟩ = some (.slice o1 k1.length c1) by rw [hW]; simp [go_sem])
  have y0 := stays (show W.cell? ⟨w.heap.size + 1, 0, none⟩ = some (.string l2) by rw [hW]; simp [go_sem])
  have y1 := stays (show W.cell? ⟨w.heap.size + 1, 1, none⟩ = some (.slice o2 k2.length c2) by rw [hW]; simp [go_sem])
  have z0 := stays (show W.cell? ⟨w.heap.size + 1 + 1, 0, none⟩ = some (.string l3) by rw [hW]; simp [go_sem])
  have z1 := stays (show W.cell? ⟨w.heap.size + 1 + 1, 1, none⟩ = some (.slice o3 k3.length c3) by rw [hW]; simp [go_sem])
  have r0 := stays (show W.cell? ⟨w.heap.size + 1 + 1 + 1, 0, none⟩ = some (.string ⟨#[]⟩) by rw [hW]; simp [go_sem])
  have r1 := stays (show W.cell? ⟨w.heap.size + 1 + 1 + 1, 1, none⟩ = some (.slice none 0 0) by rw [hW]; simp [go_sem])
  have f0 : W.frozen? ⟨w.heap.size + 1 + 1 + 1, 0, none⟩ = false := by rw [hW]; simp [go_sem]
  have f1 : W.frozen? ⟨w.heap.size + 1 + 1 + 1, 1, none⟩ = false := by rw [hW]; simp [go_sem]
  have hk1 := hk1.pr hwW; have hk2 := hk2.pr hwW; have hk3 := hk3.pr hwW
  have S1 := Lib.hid (fun W' (h : Pr W W') => sameTree_any l2 l3 k2 k3 o2 c2 o3 c3 W' (hk2.pr h).any (hk3.pr h).any)
  have S2 := Lib.hid (fun W' (h : Pr W W') => sameTree_any l3 l1 k3 k1 o3 c3 o1 c1 W' (hk3.pr h).any (hk1.pr h).any)
  have S3 := Lib.hid (fun W' (h : Pr W W') => sameTree_any l2 l1 k2 k1 o2 c2 o1 c1 W' (hk2.pr h).any (hk1.pr h).any)
  have hkk : Hid (Kids (fun k => k < M) W k2 o2 c2) := Lib.hid hk2
  generalize (Tr.node l2 k2).beq (.node l3 k3) = t1 at *
  generalize (Tr.node l3 k3).beq (.node l1 k1) = t2 at *
  generalize (Tr.node l2 k2).beq (.node l1 k1) = t3 at *
  have main : t1 = true ∨ (t1 = false ∧ t2 = true) := by cases t1 <;> cases t2 <;> simp at h ⊢
  have HW := Lib.hid hwW; have HWs := Lib.hid hWs; have F0 := Lib.hid f0; have F1 := Lib.hid f1; have HM := Lib.hid hM
  clear h  hk1 hk2 hk3 hwW hWs f0 f1 hM
  go_enter Try.func74, Try.ntmps74
  go_upto_region 1 with fail
  rw [← hW]
  clear hW
  have hp := Pr.refl W
  have x0' := x0 _ hp; have x1' := x1 _ hp; have y0' := y0 _ hp; have y1' := y1 _ hp; have z0' := z0 _ hp; have z1' := z1 _ hp; have r0' := r0 _ hp; have r1' := r1 _ hp
  have f0' : W.frozen? ⟨w.heap.size + 1 + 1 + 1, 0, none⟩ = false := (by rw [hp.frozen (by have := HWs.out; omega)]; exact F0.out); have f1' : W.frozen? ⟨w.heap.size + 1 + 1 + 1, 1, none⟩ = false := (by rw [hp.frozen (by have := HWs.out; omega)]; exact F1.out)
  rcases main with rfl | ⟨rfl, rfl⟩
  all_goals
    go_wp2_with (first
      | (go_at_call 22; (with_reducible refine Calls.mono (S1.out _ hp) ?_); rintro e w1 ⟨rfl, hb⟩; have hp := hp.trans hb; have x0' := x0 _ hp; have x1' := x1 _ hp; have y0' := y0 _ hp; have y1' := y1 _ hp; have z0' := z0 _ hp; have z1' := z1 _ hp; have r0' := r0 _ hp; have r1' := r1 _ hp; have f0' : w1.frozen? ⟨w.heap.size + 1 + 1 + 1, 0, none⟩ = false := (by rw [hp.frozen (by have := HWs.out; omega)]; exact F0.out); have f1' : w1.frozen? ⟨w.heap.size + 1 + 1 + 1, 1, none⟩ = false := (by rw [hp.frozen (by have := HWs.out; omega)]; exact F1.out))
      | (go_at_call 22; (with_reducible refine Calls.mono (S2.out _ hp) ?_); rintro e w2 ⟨rfl, hb⟩; have hp := hp.trans hb; have x0' := x0 _ hp; have x1' := x1 _ hp; have y0' := y0 _ hp; have y1' := y1 _ hp; have z0' := z0 _ hp; have z1' := z1 _ hp; have r0' := r0 _ hp; have r1' := r1 _ hp; have f0' : w2.frozen? ⟨w.heap.size + 1 + 1 + 1, 0, none⟩ = false := (by rw [hp.frozen (by have := HWs.out; omega)]; exact F0.out); have f1' : w2.frozen? ⟨w.heap.size + 1 + 1 + 1, 1, none⟩ = false := (by rw [hp.frozen (by have := HWs.out; omega)]; exact F1.out))
      | (go_at_call 22; (with_reducible refine Calls.mono (S3.out _ hp) ?_); rintro e w3 ⟨rfl, hb⟩; have hp := hp.trans hb; have x0' := x0 _ hp; have x1' := x1 _ hp; have y0' := y0 _ hp; have y1' := y1 _ hp; have z0' := z0 _ hp; have z1' := z1 _ hp; have r0' := r0 _ hp; have r1' := r1 _ hp; have f0' : w3.frozen? ⟨w.heap.size + 1 + 1 + 1, 0, none⟩ = false := (by rw [hp.frozen (by have := HWs.out; omega)]; exact F0.out); have f1' : w3.frozen? ⟨w.heap.size + 1 + 1 + 1, 1, none⟩ = false := (by rw [hp.frozen (by have := HWs.out; omega)]; exact F1.out)))
    refine bodyPost_ret (v := .tuple #[.agg #[.string l2, .slice o2 k2.length c2], .slice none 0 0, .bool true]) (by simp [results, Try.results74, go_sem, r0', r1']) rfl ⟨((HW.out.trans hp).setCell (by simp; omega) _).setCell (by simp; omega) _, l2, k2, o2, c2, rfl, hl2, rfl, ?_⟩
    exact (((hkk.out.pr hp).setCell _ _ (by have := HM.out; simp; omega)).setCell _ _ (by have := HM.out; simp; omega)).mono fun k hk _ => .inl hk
set_option maxRecDepth 100000 in
set_option maxHeartbeats 3200000 in
theorem rmixed_b (_ : l1.size ≤ maxLen) (_ : l2.size ≤ maxLen) (hl3 : l3.size ≤ maxLen) (hM : M ≤ w.heap.size) (hk1 : Kids (fun k => k < M) w k1 o1 c1) (hk2 : Kids (fun k => k < M) w k2 o2 c2) (hk3 : Kids (fun k => k < M) w k3 o3 c3) (h : ¬ ((Tr.node l2 k2).beq (.node l3 k3) || (Tr.node l3 k3).beq (.node l1 k1)) = true) (h1 : (Tr.node l2 k2).beq (.node l1 k1) = true) :
    Calls Try.prog 74 #[.agg #[.string l1, .slice o1 k1.length c1], .agg #[.string l2, .slice o2 k2.length c2], .agg #[.string l3, .slice o3 k3.length c3]] w (MixedPost M (.ok (.node l3 k3)) w) := by
  obtain ⟨W, hW⟩ : ∃ W, W = (((w.alloc (.cells #[.string l1, .slice o1 k1.length c1] 24)).alloc (.cells #[.string l2, .slice o2 k2.length c2] 24)).alloc (.cells #[.string l3, .slice o3 k3.length c3] 24)).alloc (.cells #[.string ⟨#[]⟩, .slice none 0 0] 24) := ⟨_, rfl⟩
  have hwW : Pr w W := by rw [hW]; exact (((Pr.alloc _ _).alloc' _).alloc' _).alloc' _
  have hWs : W.heap.size = w.heap.size + 4 := by rw [hW]; simp
  have x0 := stays (show W.cell? ⟨w.heap.size, 0, none⟩ = some (.string l1) by rw [hW]; simp [go_sem])
  have x1 := stays (show W.cell? ⟨w.heap.size, 1, none⟩ = some (.slice o1 k1.length c1) by rw [hW]; simp [go_sem])
  have y0 := stays (show W.cell? ⟨w.heap.size + 1, 0, none⟩ = some (.string l2) by rw [hW]; simp [go_sem])
  have y1 := stays (show W.cell? ⟨w.heap.size + 1, 1, none⟩ = some (.slice o2 k2.length c2) by rw [hW]; simp [go_sem])
  have z0 := stays (show W.cell? ⟨w.heap.size + 1 + 1, 0, none⟩ = some (.string l3) by rw [hW]; simp [go_sem])
  have z1 := stays (show W.cell? ⟨w.heap.size + 1 + 1, 1, none⟩ = some (.slice o3 k3.length c3) by rw [hW]; simp [go_sem])
  have r0 := stays (show W.cell? ⟨w.heap.size + 1 + 1 + 1, 0, none⟩ = some (.string ⟨#[]⟩) by rw [hW]; simp [go_sem])
  have r1 := stays (show W.cell? ⟨w.heap.size + 1 + 1 + 1, 1, none⟩ = some (.slice none 0 0) by rw [hW]; simp [go_sem])
  have f0 : W.frozen? ⟨w.heap.size + 1 + 1 + 1, 0, none⟩ = false := by rw [hW]; simp [go_sem]
  have f1 : W.frozen? ⟨w.heap.size + 1 + 1 + 1, 1, none⟩ = false := by rw [hW]; simp [go_sem]
  have hk1 := hk1.pr hwW; have hk2 := hk2.pr hwW; have hk3 := hk3.pr hwW
  have S1 := Lib.hid (fun W' (h : Pr W W') => sameTree_any l2 l3 k2 k3 o2 c2 o3 c3 W' (hk2.pr h).any (hk3.pr h).any)
  have S2 := Lib.hid (fun W' (h : Pr W W') => sameTree_any l3 l1 k3 k1 o3 c3 o1 c1 W' (hk3.pr h).any (hk1.pr h).any)
  have S3 := Lib.hid (fun W' (h : Pr W W') => sameTree_any l2 l1 k2 k1 o2 c2 o1 c1 W' (hk2.pr h).any (hk1.pr h).any)
  have hkk : Hid (Kids (fun k => k < M) W k3 o3 c3) := Lib.hid hk3
  generalize (Tr.node l2 k2).beq (.node l3 k3) = t1 at *
  generalize (Tr.node l3 k3).beq (.node l1 k1) = t2 at *
  generalize (Tr.node l2 k2).beq (.node l1 k1) = t3 at *
  have main : t1 = false ∧ t2 = false ∧ t3 = true := by cases t1 <;> cases t2 <;> simp at h h1 ⊢ <;> exact h1
  have HW := Lib.hid hwW; have HWs := Lib.hid hWs; have F0 := Lib.hid f0; have F1 := Lib.hid f1; have HM := Lib.hid hM
  clear h h1 hk1 hk2 hk3 hwW hWs f0 f1 hM
  go_enter Try.func74, Try.ntmps74
  go_upto_region 1 with fail
  rw [← hW]
  clear hW
  have hp := Pr.refl W
  have x0' := x0 _ hp; have x1' := x1 _ hp; have y0' := y0 _ hp; have y1' := y1 _ hp; have z0' := z0 _ hp; have z1' := z1 _ hp; have r0' := r0 _ hp; have r1' := r1 _ hp
  have f0' : W.frozen? ⟨w.heap.size + 1 + 1 + 1, 0, none⟩ = false := (by rw [hp.frozen (by have := HWs.out; omega)]; exact F0.out); have f1' : W.frozen? ⟨w.heap.size + 1 + 1 + 1, 1, none⟩ = false := (by rw [hp.frozen (by have := HWs.out; omega)]; exact F1.out)
  rcases main with ⟨rfl, rfl, rfl⟩
  all_goals
    go_wp2_with (first
      | (go_at_call 22; (with_reducible refine Calls.mono (S1.out _ hp) ?_); rintro e w1 ⟨rfl, hb⟩; have hp := hp.trans hb; have x0' := x0 _ hp; have x1' := x1 _ hp; have y0' := y0 _ hp; have y1' := y1 _ hp; have z0' := z0 _ hp; have z1' := z1 _ hp; have r0' := r0 _ hp; have r1' := r1 _ hp; have f0' : w1.frozen? ⟨w.heap.size + 1 + 1 + 1, 0, none⟩ = false := (by rw [hp.frozen (by have := HWs.out; omega)]; exact F0.out); have f1' : w1.frozen? ⟨w.heap.size + 1 + 1 + 1, 1, none⟩ = false := (by rw [hp.frozen (by have := HWs.out; omega)]; exact F1.out))
      | (go_at_call 22; (with_reducible refine Calls.mono (S2.out _ hp) ?_); rintro e w2 ⟨rfl, hb⟩; have hp := hp.trans hb; have x0' := x0 _ hp; have x1' := x1 _ hp; have y0' := y0 _ hp; have y1' := y1 _ hp; have z0' := z0 _ hp; have z1' := z1 _ hp; have r0' := r0 _ hp; have r1' := r1 _ hp; have f0' : w2.frozen? ⟨w.heap.size + 1 + 1 + 1, 0, none⟩ = false := (by rw [hp.frozen (by have := HWs.out; omega)]; exact F0.out); have f1' : w2.frozen? ⟨w.heap.size + 1 + 1 + 1, 1, none⟩ = false := (by rw [hp.frozen (by have := HWs.out; omega)]; exact F1.out))
      | (go_at_call 22; (with_reducible refine Calls.mono (S3.out _ hp) ?_); rintro e w3 ⟨rfl, hb⟩; have hp := hp.trans hb; have x0' := x0 _ hp; have x1' := x1 _ hp; have y0' := y0 _ hp; have y1' := y1 _ hp; have z0' := z0 _ hp; have z1' := z1 _ hp; have r0' := r0 _ hp; have r1' := r1 _ hp; have f0' : w3.frozen? ⟨w.heap.size + 1 + 1 + 1, 0, none⟩ = false := (by rw [hp.frozen (by have := HWs.out; omega)]; exact F0.out); have f1' : w3.frozen? ⟨w.heap.size + 1 + 1 + 1, 1, none⟩ = false := (by rw [hp.frozen (by have := HWs.out; omega)]; exact F1.out)))
    refine bodyPost_ret (v := .tuple #[.agg #[.string l3, .slice o3 k3.length c3], .slice none 0 0, .bool true]) (by simp [results, Try.results74, go_sem, r0', r1']) rfl ⟨((HW.out.trans hp).setCell (by simp; omega) _).setCell (by simp; omega) _, l3, k3, o3, c3, rfl, hl3, rfl, ?_⟩
    exact (((hkk.out.pr hp).setCell _ _ (by have := HM.out; simp; omega)).setCell _ _ (by have := HM.out; simp; omega)).mono fun k hk _ => .inl hk
set_option maxRecDepth 100000 in
set_option maxHeartbeats 3200000 in
theorem rmixed_c (_ : l1.size ≤ maxLen) (_ : l2.size ≤ maxLen) (_ : l3.size ≤ maxLen) (_ : M ≤ w.heap.size) (hk1 : Kids (fun k => k < M) w k1 o1 c1) (hk2 : Kids (fun k => k < M) w k2 o2 c2) (hk3 : Kids (fun k => k < M) w k3 o3 c3) (h : ¬ ((Tr.node l2 k2).beq (.node l3 k3) || (Tr.node l3 k3).beq (.node l1 k1)) = true) (h1 : ¬ (Tr.node l2 k2).beq (.node l1 k1) = true) (hm : mixL l1 l2 l3 = none) :
    Calls Try.prog 74 #[.agg #[.string l1, .slice o1 k1.length c1], .agg #[.string l2, .slice o2 k2.length c2], .agg #[.string l3, .slice o3 k3.length c3]] w (MixedPost M (.error []) w) := by
  obtain ⟨W, hW⟩ : ∃ W, W = (((w.alloc (.cells #[.string l1, .slice o1 k1.length c1] 24)).alloc (.cells #[.string l2, .slice o2 k2.length c2] 24)).alloc (.cells #[.string l3, .slice o3 k3.length c3] 24)).alloc (.cells #[.string ⟨#[]⟩, .slice none 0 0] 24) := ⟨_, rfl⟩
  have hwW : Pr w W := by rw [hW]; exact (((Pr.alloc _ _).alloc' _).alloc' _).alloc' _
  have hWs : W.heap.size = w.heap.size + 4 := by rw [hW]; simp
  have x0 := stays (show W.cell? ⟨w.heap.size, 0, none⟩ = some (.string l1) by rw [hW]; simp [go_sem])
  have x1 := stays (show W.cell? ⟨w.heap.size, 1, none⟩ = some (.slice o1 k1.length c1) by rw [hW]; simp [go_sem])
  have y0 := stays (show W.cell? ⟨w.heap.size + 1, 0, none⟩ = some (.string l2) by rw [hW]; simp [go_sem])
  have y1 := stays (show W.cell? ⟨w.heap.size + 1, 1, none⟩ = some (.slice o2 k2.length c2) by rw [hW]; simp [go_sem])
  have z0 := stays (show W.cell? ⟨w.heap.size + 1 + 1, 0, none⟩ = some (.string l3) by rw [hW]; simp [go_sem])
  have z1 := stays (show W.cell? ⟨w.heap.size + 1 + 1, 1, none⟩ = some (.slice o3 k3.length c3) by rw [hW]; simp [go_sem])
  have r0 := stays (show W.cell? ⟨w.heap.size + 1 + 1 + 1, 0, none⟩ = some (.string ⟨#[]⟩) by rw [hW]; simp [go_sem])
  have r1 := stays (show W.cell? ⟨w.heap.size + 1 + 1 + 1, 1, none⟩ = some (.slice none 0 0) by rw [hW]; simp [go_sem])
  have f0 : W.frozen? ⟨w.heap.size + 1 + 1 + 1, 0, none⟩ = false := by rw [hW]; simp [go_sem]
  have f1 : W.frozen? ⟨w.heap.size + 1 + 1 + 1, 1, none⟩ = false := by rw [hW]; simp [go_sem]
  have hk1 := hk1.pr hwW; have hk2 := hk2.pr hwW; have hk3 := hk3.pr hwW
  have S1 := Lib.hid (fun W' (h : Pr W W') => sameTree_any l2 l3 k2 k3 o2 c2 o3 c3 W' (hk2.pr h).any (hk3.pr h).any)
  have S2 := Lib.hid (fun W' (h : Pr W W') => sameTree_any l3 l1 k3 k1 o3 c3 o1 c1 W' (hk3.pr h).any (hk1.pr h).any)
  have S3 := Lib.hid (fun W' (h : Pr W W') => sameTree_any l2 l1 k2 k1 o2 c2 o1 c1 W' (hk2.pr h).any (hk1.pr h).any)
  generalize (Tr.node l2 k2).beq (.node l3 k3) = t1 at *
  generalize (Tr.node l3 k3).beq (.node l1 k1) = t2 at *
  generalize (Tr.node l2 k2).beq (.node l1 k1) = t3 at *
  have main : t1 = false ∧ t2 = false ∧ t3 = false := by cases t1 <;> cases t2 <;> simp at h h1 ⊢ <;> exact h1
  obtain ⟨rfl, rfl, rfl⟩ := main
  have HW := Lib.hid hwW; have HWs := Lib.hid hWs; have F0 := Lib.hid f0; have F1 := Lib.hid f1
  have hl : l2 ≠ l3 ∧ l3 ≠ l1 ∧ l2 ≠ l1 := by
    unfold mixL at hm
    split at hm
    · cases hm
    · rename_i hn
      split at hm
      · cases hm
      · rename_i hn2
        exact ⟨fun e => hn (.inl e), fun e => hn (.inr e), hn2⟩
  have e1 : (l2.toList == l3.toList) = false := by simpa using toList_ne hl.1
  have e2 : (l3.toList == l1.toList) = false := by simpa using toList_ne hl.2.1
  have e3 : (l2.toList == l1.toList) = false := by simpa using toList_ne hl.2.2
  clear h h1 hk1 hk2 hk3 hwW hWs f0 f1 hm hl
  go_enter Try.func74, Try.ntmps74
  go_upto_region 1 with fail
  rw [← hW]
  clear hW
  have hp := Pr.refl W
  have x0' := x0 _ hp; have x1' := x1 _ hp; have y0' := y0 _ hp; have y1' := y1 _ hp; have z0' := z0 _ hp; have z1' := z1 _ hp; have r0' := r0 _ hp; have r1' := r1 _ hp
  have f0' : W.frozen? ⟨w.heap.size + 1 + 1 + 1, 0, none⟩ = false := (by rw [hp.frozen (by have := HWs.out; omega)]; exact F0.out); have f1' : W.frozen? ⟨w.heap.size + 1 + 1 + 1, 1, none⟩ = false := (by rw [hp.frozen (by have := HWs.out; omega)]; exact F1.out)
  go_upto_region 6 with (first
      | (go_at_call 22; (with_reducible refine Calls.mono (S1.out _ hp) ?_); rintro e w1 ⟨rfl, hb⟩; have hp := hp.trans hb; have x0' := x0 _ hp; have x1' := x1 _ hp; have y0' := y0 _ hp; have y1' := y1 _ hp; have z0' := z0 _ hp; have z1' := z1 _ hp; have r0' := r0 _ hp; have r1' := r1 _ hp; have f0' : w1.frozen? ⟨w.heap.size + 1 + 1 + 1, 0, none⟩ = false := (by rw [hp.frozen (by have := HWs.out; omega)]; exact F0.out); have f1' : w1.frozen? ⟨w.heap.size + 1 + 1 + 1, 1, none⟩ = false := (by rw [hp.frozen (by have := HWs.out; omega)]; exact F1.out))
      | (go_at_call 22; (with_reducible refine Calls.mono (S2.out _ hp) ?_); rintro e w2 ⟨rfl, hb⟩; have hp := hp.trans hb; have x0' := x0 _ hp; have x1' := x1 _ hp; have y0' := y0 _ hp; have y1' := y1 _ hp; have z0' := z0 _ hp; have z1' := z1 _ hp; have r0' := r0 _ hp; have r1' := r1 _ hp; have f0' : w2.frozen? ⟨w.heap.size + 1 + 1 + 1, 0, none⟩ = false := (by rw [hp.frozen (by have := HWs.out; omega)]; exact F0.out); have f1' : w2.frozen? ⟨w.heap.size + 1 + 1 + 1, 1, none⟩ = false := (by rw [hp.frozen (by have := HWs.out; omega)]; exact F1.out))
      | (go_at_call 22; (with_reducible refine Calls.mono (S3.out _ hp) ?_); rintro e w3 ⟨rfl, hb⟩; have hp := hp.trans hb; have x0' := x0 _ hp; have x1' := x1 _ hp; have y0' := y0 _ hp; have y1' := y1 _ hp; have z0' := z0 _ hp; have z1' := z1 _ hp; have r0' := r0 _ hp; have r1' := r1 _ hp; have f0' : w3.frozen? ⟨w.heap.size + 1 + 1 + 1, 0, none⟩ = false := (by rw [hp.frozen (by have := HWs.out; omega)]; exact F0.out); have f1' : w3.frozen? ⟨w.heap.size + 1 + 1 + 1, 1, none⟩ = false := (by rw [hp.frozen (by have := HWs.out; omega)]; exact F1.out)))
  obtain ⟨V, hV⟩ : ∃ V, V = w3.alloc (.cells #[.string l2, .slice none 0 0] 24) := ⟨_, rfl⟩
  have hpV : Pr W V := by rw [hV]; exact hp.alloc' _
  have bV : V.heap[w3.heap.size]? = some (.cells #[.string l2, .slice none 0 0] 24 (0, 0)) := by rw [hV]; exact heap_alloc_new _ _
  rw [← hV]
  have hsV : V.heap.size = w3.heap.size + 1 := by rw [hV]; simp
  clear hV
  have o0 := blk_cell (o := 0) bV; have o1' := blk_cell (o := 1) bV
  have fo := blk_frozen (o := 0) bV
  simp only [List.getElem?_toArray, List.getElem?_cons_zero, List.getElem?_cons_succ] at o0 o1'
  have x0' := x0 _ hpV; have y0' := y0 _ hpV; have z0' := z0 _ hpV; have r0' := r0 _ hpV; have r1' := r1 _ hpV
  have f0' : V.frozen? ⟨w.heap.size + 1 + 1 + 1, 0, none⟩ = false := (by rw [hpV.frozen (by have := HWs.out; omega)]; exact F0.out); have f1' : V.frozen? ⟨w.heap.size + 1 + 1 + 1, 1, none⟩ = false := (by rw [hpV.frozen (by have := HWs.out; omega)]; exact F1.out)
  go_wp2_with fail
  refine bodyPost_ret (v := .tuple #[.agg #[.string l2, .slice none 0 0], .slice none 0 0, .bool false]) (by simp [results, Try.results74, go_sem, r0', r1']) rfl ⟨?_, l2, _, _, _, none, 0, rfl, Flat.nil _ _ _ _ (Nat.zero_le _)⟩
  exact ((HW.out.trans hpV).setCell (by simp; omega) _).setCell (by simp; omega) _
end
end Go.Proofs.Ytdbnfhpgmcjngab
