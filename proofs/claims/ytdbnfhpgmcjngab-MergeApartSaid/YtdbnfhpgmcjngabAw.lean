/- The law MergeApart: its walk. -/
import Derived.Test.YtdbnfhpgmcjngabAr
import Derived.Test.YtdbnfhpgmcjngabMq
namespace Go.Proofs.Ytdbnfhpgmcjngab
open Go Go.RowKit

theorem ap_ix (c : Int) (n : Nat) (h0 : 0 < n) (h : n ≤ 1000000) : ∃ K : Nat, K < n ∧ wrap64 ((IntKind.u64.wrap c).tmod (n : Int)) = K := by
  have h1 : 0 ≤ IntKind.u64.wrap c := by simp [IntKind.wrap, IntKind.signed, IntKind.bits]; omega
  generalize IntKind.u64.wrap c = u at h1
  have h2 : u.tmod (n : Int) = u % (n : Int) := Int.tmod_eq_emod_of_nonneg h1
  have h3 := Int.emod_nonneg u (show (n : Int) ≠ 0 by omega)
  have h4 := Int.emod_lt_of_pos u (show (0 : Int) < (n : Int) by omega)
  refine ⟨(u % (n : Int)).toNat, by omega, ?_⟩
  rw [h2, IntWalk.wrap64_in _ ⟨by omega, by omega⟩]; omega
/-- Three variables, each with a tree of its own. -/
def Three (V : World) (l0 : ByteArray) (k0 : List Tr) (tag : Nat → Nat) (T1 T2 T3 g1 q1 g2 q2 g3 q3 : Nat) (w : World) : Prop := Pr V w ∧
  (tag T1 = 11 ∧ V.heap.size ≤ T1 ∧ w.heap[T1]? = some (.cells #[.string l0, .slice (some ⟨g1, 0, none⟩) k0.length q1] 24 (0, 0))) ∧
  (tag T2 = 12 ∧ V.heap.size ≤ T2 ∧ w.heap[T2]? = some (.cells #[.string l0, .slice (some ⟨g2, 0, none⟩) k0.length q2] 24 (0, 0))) ∧
  (tag T3 = 13 ∧ V.heap.size ≤ T3 ∧ w.heap[T3]? = some (.cells #[.string l0, .slice (some ⟨g3, 0, none⟩) k0.length q3] 24 (0, 0))) ∧
  (V.heap.size ≤ g1 ∧ RowT (fun k => tag k = 1) g1 q1 w k0) ∧ (V.heap.size ≤ g2 ∧ RowT (fun k => tag k = 2) g2 q2 w k0) ∧ V.heap.size ≤ g3 ∧ RowT (fun k => tag k = 3) g3 q3 w k0
set_option maxRecDepth 100000 in
set_option maxHeartbeats 6400000 in
theorem mergeApart_walk (l0 : ByteArray) (k0 : List Tr) (o0 : Option Addr) (c0 : Nat) (l1 : ByteArray) (k1 : List Tr) (o1 : Option Addr) (c1 : Nat) (l2 : ByteArray) (k2 : List Tr) (o2 : Option Addr) (c2 : Nat) (i j : Int) (w : World) (hl0 : l0.size ≤ maxLen) (hk0 : Kids Any w k0 o0 c0) (hl1 : l1.size ≤ maxLen) (hk1 : Kids Any w k1 o1 c1) (hl2 : l2.size ≤ maxLen) (hk2 : Kids Any w k2 o2 c2) (_ : (Lit.int .i64 i).wf = true) (_ : (Lit.int .i64 j).wf = true) :
    Calls Try.prog 13 #[.agg #[.string l0, .slice o0 k0.length c0], .agg #[.string l1, .slice o1 k1.length c1], .agg #[.string l2, .slice o2 k2.length c2], .int .i64 i, .int .i64 j] w fun e w' => e = .returned (.bool true) ∧ Pr w w' := by
  obtain ⟨W, hW⟩ : ∃ W, W = ((w.alloc (.cells #[.string l0, .slice o0 k0.length c0] 24)).alloc (.cells #[.string l1, .slice o1 k1.length c1] 24)).alloc (.cells #[.string l2, .slice o2 k2.length c2] 24) := ⟨_, rfl⟩
  have hwW : Pr w W := by rw [hW]; exact ((Pr.alloc _ _).alloc' _).alloc' _
  have s00 := stays (show W.cell? ⟨w.heap.size, 0, none⟩ = some (.string l0) by rw [hW]; simp [go_sem])
  have s01 := stays (show W.cell? ⟨w.heap.size, 1, none⟩ = some (.slice o0 k0.length c0) by rw [hW]; simp [go_sem])
  have s10 := stays (show W.cell? ⟨w.heap.size + 1, 0, none⟩ = some (.string l1) by rw [hW]; simp [go_sem])
  have s11 := stays (show W.cell? ⟨w.heap.size + 1, 1, none⟩ = some (.slice o1 k1.length c1) by rw [hW]; simp [go_sem])
  have s20 := stays (show W.cell? ⟨w.heap.size + 1 + 1, 0, none⟩ = some (.string l2) by rw [hW]; simp [go_sem])
  have s21 := stays (show W.cell? ⟨w.heap.size + 1 + 1, 1, none⟩ = some (.slice o2 k2.length c2) by rw [hW]; simp [go_sem])
  have hk0 := hk0.pr hwW
  have hk1 := hk1.pr hwW
  have hk2 := hk2.pr hwW
  obtain ⟨ga, hga⟩ : ∃ b, b = great (.node l0 k0) := ⟨_, rfl⟩
  obtain ⟨gb, hgb⟩ : ∃ b, b = great (.node l1 k1) := ⟨_, rfl⟩
  obtain ⟨gc, hgc⟩ : ∃ b, b = great (.node l2 k2) := ⟨_, rfl⟩
  have G0 : Hid (∀ W', Pr W W' → Calls Try.prog 15 #[.agg #[.string l0, .slice o0 k0.length c0]] W' fun e w' => e = .returned (.bool ga) ∧ Pr W' w') := Lib.hid fun W' h => by rw [hga]; exact great_any l0 k0 _ _ _ (hk0.pr h)
  have G1 : Hid (∀ W', Pr W W' → Calls Try.prog 15 #[.agg #[.string l1, .slice o1 k1.length c1]] W' fun e w' => e = .returned (.bool gb) ∧ Pr W' w') := Lib.hid fun W' h => by rw [hgb]; exact great_any l1 k1 _ _ _ (hk1.pr h)
  have G2 : Hid (∀ W', Pr W W' → Calls Try.prog 15 #[.agg #[.string l2, .slice o2 k2.length c2]] W' fun e w' => e = .returned (.bool gc) ∧ Pr W' w') := Lib.hid fun W' h => by rw [hgc]; exact great_any l2 k2 _ _ _ (hk2.pr h)
  have HW := Lib.hid hwW; have HGa := Lib.hid hga; have HGb := Lib.hid hgb; have HGc := Lib.hid hgc
  have HK0 := Lib.hid hk0; have HK1 := Lib.hid hk1; have HK2 := Lib.hid hk2
  clear hga hgb hgc hk0 hk1 hk2 hwW
  by_cases hgr : ga = true ∨ gb = true ∨ gc = true ∨ k0.length < 2
  · have h4 : ga = true ∨ (ga = false ∧ gb = true) ∨ (ga = false ∧ gb = false ∧ gc = true) ∨ (ga = false ∧ gb = false ∧ gc = false ∧ k0.length < 2) := by cases ga <;> cases gb <;> cases gc <;> simp_all
    clear hgr
    rcases h4 with rfl | ⟨rfl, rfl⟩ | ⟨rfl, rfl, rfl⟩ | ⟨rfl, rfl, rfl, h2⟩
    case' inr.inr.inr => have h2' : (k0.length : Int) < 2 := by omega
    all_goals
      go_enter Try.func13, Try.ntmps13
      go_upto_region 1 with fail
      rw [← hW]; clear hW
      go_wp2_with (first
        | (go_at_call 34; refine (mergeBegun_any _).mono ?_; rintro e w1 ⟨rfl, hp⟩; have x0 := s00 _ hp; have x1 := s01 _ hp; have x2 := s10 _ hp; have x3 := s11 _ hp; have x4 := s20 _ hp; have x5 := s21 _ hp)
        | (go_at_call 15; (with_reducible refine Calls.mono (G0.out _ hp) ?_); rintro e w2 ⟨rfl, hb⟩; have hp := hp.trans hb; have x0 := s00 _ hp; have x1 := s01 _ hp; have x2 := s10 _ hp; have x3 := s11 _ hp; have x4 := s20 _ hp; have x5 := s21 _ hp)
        | (go_at_call 15; (with_reducible refine Calls.mono (G1.out _ hp) ?_); rintro e w2 ⟨rfl, hb⟩; have hp := hp.trans hb; have x0 := s00 _ hp; have x1 := s01 _ hp; have x2 := s10 _ hp; have x3 := s11 _ hp; have x4 := s20 _ hp; have x5 := s21 _ hp)
        | (go_at_call 15; (with_reducible refine Calls.mono (G2.out _ hp) ?_); rintro e w2 ⟨rfl, hb⟩; have hp := hp.trans hb; have x0 := s00 _ hp; have x1 := s01 _ hp; have x2 := s10 _ hp; have x3 := s11 _ hp; have x4 := s20 _ hp; have x5 := s21 _ hp))
      go_ret
      exact ⟨rfl, HW.out.trans hp⟩
  obtain ⟨rfl, rfl, rfl, hn2⟩ : ga = false ∧ gb = false ∧ gc = false ∧ 2 ≤ k0.length := by cases ga <;> cases gb <;> cases gc <;> simp at hgr ⊢; omega
  have hz0 := great_sz HGa.out.symm; have hz1 := great_sz HGb.out.symm; have hz2 := great_sz HGc.out.symm
  have hlk := Tr.length_le k0
  have n1 : decide ((k0.length : Int) < 2) = false := by simp; omega
  have n2 : decide (k0.length < 2) = false := by simp; omega
  have n3 : IntKind.u64.wrap (k0.length : Int) = k0.length := by simp [IntKind.wrap, IntKind.signed, IntKind.bits]; omega
  have n4 : ((k0.length : Int) == 0) = false := beq_eq_false_iff_ne.2 (by omega)
  have n5 : (k0.length == 0) = false := beq_eq_false_iff_ne.2 (by omega)
  obtain ⟨I, hI, eI⟩ := ap_ix i k0.length (by omega) (by omega)
  obtain ⟨J, hJ, eJ⟩ := ap_ix j k0.length (by omega) (by omega)
  go_enter Try.func13, Try.ntmps13
  go_upto_region 1 with fail
  rw [← hW]; clear hW
  go_upto_region 6 with (first
        | (go_at_call 34; refine (mergeBegun_any _).mono ?_; rintro e w1 ⟨rfl, hp⟩; have x0 := s00 _ hp; have x1 := s01 _ hp; have x2 := s10 _ hp; have x3 := s11 _ hp; have x4 := s20 _ hp; have x5 := s21 _ hp)
        | (go_at_call 15; (with_reducible refine Calls.mono (G0.out _ hp) ?_); rintro e w2 ⟨rfl, hb⟩; have hp := hp.trans hb; have x0 := s00 _ hp; have x1 := s01 _ hp; have x2 := s10 _ hp; have x3 := s11 _ hp; have x4 := s20 _ hp; have x5 := s21 _ hp)
        | (go_at_call 15; (with_reducible refine Calls.mono (G1.out _ hp) ?_); rintro e w2 ⟨rfl, hb⟩; have hp := hp.trans hb; have x0 := s00 _ hp; have x1 := s01 _ hp; have x2 := s10 _ hp; have x3 := s11 _ hp; have x4 := s20 _ hp; have x5 := s21 _ hp)
        | (go_at_call 15; (with_reducible refine Calls.mono (G2.out _ hp) ?_); rintro e w2 ⟨rfl, hb⟩; have hp := hp.trans hb; have x0 := s00 _ hp; have x1 := s01 _ hp; have x2 := s10 _ hp; have x3 := s11 _ hp; have x4 := s20 _ hp; have x5 := s21 _ hp))
  go_quiet (fail)
  simp only [eI, eJ]
  obtain ⟨w3, hw3⟩ : ∃ w3, w3 = w2.drewN nq := ⟨_, rfl⟩
  rw [← hw3]
  have hp : Pr W w3 := by rw [hw3]; exact hp.drewN' _
  clear hw3
  have Hp := Lib.hid hp
  by_cases hij : I = J
  · have e1 : ((I : Int) == (J : Int)) = true := by rw [hij]; exact beq_self_eq_true _
    have e2 : (I == J) = true := by rw [hij]; exact beq_self_eq_true _
    go_wp2_with fail
    go_ret
    exact ⟨rfl, HW.out.trans hp⟩
  have e1 : ((I : Int) == (J : Int)) = false := beq_eq_false_iff_ne.2 (by omega)
  have e2 : (I == J) = false := beq_eq_false_iff_ne.2 hij
  have X0 := stays (s00 _ hp); have X1 := stays (s01 _ hp); have X2 := stays (s10 _ hp); have X3 := stays (s11 _ hp); have X4 := stays (s20 _ hp); have X5 := stays (s21 _ hp)
  have O0 := Lib.hid fun W' (h : Pr w3 W') => rown_row l0 k0 o0 c0 W' (by omega) (HK0.out.pr (Hp.out.trans h))
  have O1 := Lib.hid fun W' (h : Pr w3 W') => rown_any l1 k1 o1 c1 W' (by omega) (HK1.out.pr (Hp.out.trans h))
  have O2 := Lib.hid fun W' (h : Pr w3 W') => rown_any l2 k2 o2 c2 W' (by omega) (HK2.out.pr (Hp.out.trans h))
  go_upto_region 9 with fail
  go_cut [12, 13, 14] from 57 to 62 (fun v12 v13 v14 wx => ∃ tag T1 T2 T3 g1 q1 g2 q2 g3 q3, v12 = .pointer (some ⟨T1, 0, none⟩) ∧ v13 = .pointer (some ⟨T2, 0, none⟩) ∧ v14 = .pointer (some ⟨T3, 0, none⟩) ∧ Three w3 l0 k0 tag T1 T2 T3 g1 q1 g2 q2 g3 q3 wx)
  case first =>
--BEGIN R9
    refine wp_region_inv' (by kernel_rfl) (by kernel_rfl) (fun a0 L a' w' => ∃ (tag : Nat → Nat) (v57 : Value) (v58 : Value) (v59 : Value) (v60 : Value) (v61 : Value) (v62 : Value) (v12 : Value) (v13 : Value) (v14 : Value), a' = (((((((((a0.put (some 57) v57).put (some 58) v58).put (some 59) v59).put (some 60) v60).put (some 61) v61).put (some 62) v62).put (some 12) v12).put (some 13) v13).put (some 14) v14) ∧ Pr w3 w' ∧
      (L.getD 0 false = true → v57 = .agg #[.string l0, .slice o0 k0.length c0]) ∧
      (L.getD 2 false = true → v59 = .agg #[.string l0, .slice o0 k0.length c0]) ∧
      (L.getD 4 false = true → v61 = .agg #[.string l0, .slice o0 k0.length c0]) ∧
      (L.getD 1 false = true → RowR w3 l0 k0 1 v58 tag w') ∧
      (L.getD 3 false = true → RowR w3 l0 k0 2 v60 tag w') ∧
      (L.getD 5 false = true → RowR w3 l0 k0 3 v62 tag w') ∧
      (L.getD 6 false = true → VarT w3 11 v12 tag w') ∧
      (L.getD 7 false = true → VarT w3 12 v13 tag w') ∧
      (L.getD 8 false = true → VarT w3 13 v14 tag w') ∧
      (L.getD 9 false = true → VarU 11 v12 v58 tag w') ∧
      (L.getD 10 false = true → VarU 12 v13 v60 tag w') ∧
      (L.getD 11 false = true → VarU 13 v14 v62 tag w') ∧
      (L.getD 9 false = true → L.getD 6 false = true) ∧
      (L.getD 9 false = true → L.getD 1 false = true) ∧
      (L.getD 10 false = true → L.getD 7 false = true) ∧
      (L.getD 10 false = true → L.getD 3 false = true) ∧
      (L.getD 11 false = true → L.getD 8 false = true) ∧
      (L.getD 11 false = true → L.getD 5 false = true)) ?_ ?_ ?_
    · exact ⟨fun _ => 0, undef, undef, undef, undef, undef, undef, undef, undef, undef, by simp [Act.put], Pr.drew _, rep_no, rep_no, rep_no, rep_no, rep_no, rep_no, rep_no, rep_no, rep_no, rep_no, rep_no, rep_no, rep_no, rep_no, rep_no, rep_no, rep_no, rep_no⟩
    · intro i L a' w' hI hi
      obtain ⟨tag, v57, v58, v59, v60, v61, v62, v12, v13, v14, rfl, hpr, f0, f2, f4, f1, f3, f5, f6, f7, f8, f9, f10, f11, d9v, d9r, d10v, d10r, d11v, d11r⟩ := hI
      have h12 : i < 12 := by have := (List.mem_filter.1 hi).1; simpa using this
      have hun : ∀ j, j ≠ i → (L.setIfInBounds i true).getD j false = L.getD j false := fun j hj => setD_ne hj
      rcases (show i = 0 ∨ i = 1 ∨ i = 2 ∨ i = 3 ∨ i = 4 ∨ i = 5 ∨ i = 6 ∨ i = 7 ∨ i = 8 ∨ i = 9 ∨ i = 10 ∨ i = 11 by omega) with rfl | rfl | rfl | rfl | rfl | rfl | rfl | rfl | rfl | rfl | rfl | rfl
      · refine wpOp_step rfl (fun K hK => ?_)
        simp only [Act.put, List.setIfInBounds_toArray, List.set_cons_zero, List.set_cons_succ]
        have x0 := X0 _ hpr; have x1 := X1 _ hpr
        go_simp
        exact hK _ _ ⟨tag, .agg #[.string l0, .slice o0 k0.length c0], v58, v59, v60, v61, v62, v12, v13, v14, by simp [Act.put], hpr, (fun _ => rfl), (fun h => f2 (by rwa [hun 2 (by decide)] at h)), (fun h => f4 (by rwa [hun 4 (by decide)] at h)), (fun h => f1 (by rwa [hun 1 (by decide)] at h)), (fun h => f3 (by rwa [hun 3 (by decide)] at h)), (fun h => f5 (by rwa [hun 5 (by decide)] at h)), (fun h => f6 (by rwa [hun 6 (by decide)] at h)), (fun h => f7 (by rwa [hun 7 (by decide)] at h)), (fun h => f8 (by rwa [hun 8 (by decide)] at h)), (fun h => f9 (by rwa [hun 9 (by decide)] at h)), (fun h => f10 (by rwa [hun 10 (by decide)] at h)), (fun h => f11 (by rwa [hun 11 (by decide)] at h)), (fun h => by rw [hun 6 (by decide)]; exact d9v (by rwa [hun 9 (by decide)] at h)), (fun h => by rw [hun 1 (by decide)]; exact d9r (by rwa [hun 9 (by decide)] at h)), (fun h => by rw [hun 7 (by decide)]; exact d10v (by rwa [hun 10 (by decide)] at h)), (fun h => by rw [hun 3 (by decide)]; exact d10r (by rwa [hun 10 (by decide)] at h)), (fun h => by rw [hun 8 (by decide)]; exact d11v (by rwa [hun 11 (by decide)] at h)), (fun h => by rw [hun 5 (by decide)]; exact d11r (by rwa [hun 11 (by decide)] at h))⟩
      · refine wpOp_step rfl (fun K hK => ?_)
        simp only [Act.put, List.setIfInBounds_toArray, List.set_cons_zero, List.set_cons_succ]
        have hd0 := (ready_dep hi rfl).2 { on := 0, ground := .data } (by simp) (by kernel_rfl)
        obtain rfl := f0 hd0
        go_simp
        go_at_call 16
        refine (O0.out _ hpr).mono ?_
        rintro e w5 ⟨v5, rfl, hown, hb⟩
        exact hK _ _ ⟨newTag tag w'.heap.size 1, .agg #[.string l0, .slice o0 k0.length c0], .agg #[.string l0, v5], v59, v60, v61, v62, v12, v13, v14, by simp [Act.put], hpr.trans hb, (fun h => f0 (by rwa [hun 0 (by decide)] at h)), (fun h => f2 (by rwa [hun 2 (by decide)] at h)), (fun h => f4 (by rwa [hun 4 (by decide)] at h)), (fun _ => RowR.own hpr.size (by omega) hown), (fun h => (f3 (by rwa [hun 3 (by decide)] at h)).step (Steps.pr hb 1)), (fun h => (f5 (by rwa [hun 5 (by decide)] at h)).step (Steps.pr hb 1)), (fun h => (f6 (by rwa [hun 6 (by decide)] at h)).step (Steps.pr hb 1)), (fun h => (f7 (by rwa [hun 7 (by decide)] at h)).step (Steps.pr hb 1)), (fun h => (f8 (by rwa [hun 8 (by decide)] at h)).step (Steps.pr hb 1)), (fun h => by have h2 := d9r (by rwa [hun 9 (by decide)] at h); rw [getD_un (ready_dep hi rfl).1] at h2; cases h2), (fun h => (f10 (by rwa [hun 10 (by decide)] at h)).step (Steps.pr hb 1)), (fun h => (f11 (by rwa [hun 11 (by decide)] at h)).step (Steps.pr hb 1)), (fun h => by rw [hun 6 (by decide)]; exact d9v (by rwa [hun 9 (by decide)] at h)), (fun _ => setD_eq (ready_dep hi rfl).1), (fun h => by rw [hun 7 (by decide)]; exact d10v (by rwa [hun 10 (by decide)] at h)), (fun h => by rw [hun 3 (by decide)]; exact d10r (by rwa [hun 10 (by decide)] at h)), (fun h => by rw [hun 8 (by decide)]; exact d11v (by rwa [hun 11 (by decide)] at h)), (fun h => by rw [hun 5 (by decide)]; exact d11r (by rwa [hun 11 (by decide)] at h))⟩
      · refine wpOp_step rfl (fun K hK => ?_)
        simp only [Act.put, List.setIfInBounds_toArray, List.set_cons_zero, List.set_cons_succ]
        have x0 := X0 _ hpr; have x1 := X1 _ hpr
        go_simp
        exact hK _ _ ⟨tag, v57, v58, .agg #[.string l0, .slice o0 k0.length c0], v60, v61, v62, v12, v13, v14, by simp [Act.put], hpr, (fun h => f0 (by rwa [hun 0 (by decide)] at h)), (fun _ => rfl), (fun h => f4 (by rwa [hun 4 (by decide)] at h)), (fun h => f1 (by rwa [hun 1 (by decide)] at h)), (fun h => f3 (by rwa [hun 3 (by decide)] at h)), (fun h => f5 (by rwa [hun 5 (by decide)] at h)), (fun h => f6 (by rwa [hun 6 (by decide)] at h)), (fun h => f7 (by rwa [hun 7 (by decide)] at h)), (fun h => f8 (by rwa [hun 8 (by decide)] at h)), (fun h => f9 (by rwa [hun 9 (by decide)] at h)), (fun h => f10 (by rwa [hun 10 (by decide)] at h)), (fun h => f11 (by rwa [hun 11 (by decide)] at h)), (fun h => by rw [hun 6 (by decide)]; exact d9v (by rwa [hun 9 (by decide)] at h)), (fun h => by rw [hun 1 (by decide)]; exact d9r (by rwa [hun 9 (by decide)] at h)), (fun h => by rw [hun 7 (by decide)]; exact d10v (by rwa [hun 10 (by decide)] at h)), (fun h => by rw [hun 3 (by decide)]; exact d10r (by rwa [hun 10 (by decide)] at h)), (fun h => by rw [hun 8 (by decide)]; exact d11v (by rwa [hun 11 (by decide)] at h)), (fun h => by rw [hun 5 (by decide)]; exact d11r (by rwa [hun 11 (by decide)] at h))⟩
      · refine wpOp_step rfl (fun K hK => ?_)
        simp only [Act.put, List.setIfInBounds_toArray, List.set_cons_zero, List.set_cons_succ]
        have hd0 := (ready_dep hi rfl).2 { on := 2, ground := .data } (by simp) (by kernel_rfl)
        obtain rfl := f2 hd0
        go_simp
        go_at_call 16
        refine (O0.out _ hpr).mono ?_
        rintro e w5 ⟨v5, rfl, hown, hb⟩
        exact hK _ _ ⟨newTag tag w'.heap.size 2, v57, v58, .agg #[.string l0, .slice o0 k0.length c0], .agg #[.string l0, v5], v61, v62, v12, v13, v14, by simp [Act.put], hpr.trans hb, (fun h => f0 (by rwa [hun 0 (by decide)] at h)), (fun h => f2 (by rwa [hun 2 (by decide)] at h)), (fun h => f4 (by rwa [hun 4 (by decide)] at h)), (fun h => (f1 (by rwa [hun 1 (by decide)] at h)).step (Steps.pr hb 2)), (fun _ => RowR.own hpr.size (by omega) hown), (fun h => (f5 (by rwa [hun 5 (by decide)] at h)).step (Steps.pr hb 2)), (fun h => (f6 (by rwa [hun 6 (by decide)] at h)).step (Steps.pr hb 2)), (fun h => (f7 (by rwa [hun 7 (by decide)] at h)).step (Steps.pr hb 2)), (fun h => (f8 (by rwa [hun 8 (by decide)] at h)).step (Steps.pr hb 2)), (fun h => (f9 (by rwa [hun 9 (by decide)] at h)).step (Steps.pr hb 2)), (fun h => by have h2 := d10r (by rwa [hun 10 (by decide)] at h); rw [getD_un (ready_dep hi rfl).1] at h2; cases h2), (fun h => (f11 (by rwa [hun 11 (by decide)] at h)).step (Steps.pr hb 2)), (fun h => by rw [hun 6 (by decide)]; exact d9v (by rwa [hun 9 (by decide)] at h)), (fun h => by rw [hun 1 (by decide)]; exact d9r (by rwa [hun 9 (by decide)] at h)), (fun h => by rw [hun 7 (by decide)]; exact d10v (by rwa [hun 10 (by decide)] at h)), (fun _ => setD_eq (ready_dep hi rfl).1), (fun h => by rw [hun 8 (by decide)]; exact d11v (by rwa [hun 11 (by decide)] at h)), (fun h => by rw [hun 5 (by decide)]; exact d11r (by rwa [hun 11 (by decide)] at h))⟩
      · refine wpOp_step rfl (fun K hK => ?_)
        simp only [Act.put, List.setIfInBounds_toArray, List.set_cons_zero, List.set_cons_succ]
        have x0 := X0 _ hpr; have x1 := X1 _ hpr
        go_simp
        exact hK _ _ ⟨tag, v57, v58, v59, v60, .agg #[.string l0, .slice o0 k0.length c0], v62, v12, v13, v14, by simp [Act.put], hpr, (fun h => f0 (by rwa [hun 0 (by decide)] at h)), (fun h => f2 (by rwa [hun 2 (by decide)] at h)), (fun _ => rfl), (fun h => f1 (by rwa [hun 1 (by decide)] at h)), (fun h => f3 (by rwa [hun 3 (by decide)] at h)), (fun h => f5 (by rwa [hun 5 (by decide)] at h)), (fun h => f6 (by rwa [hun 6 (by decide)] at h)), (fun h => f7 (by rwa [hun 7 (by decide)] at h)), (fun h => f8 (by rwa [hun 8 (by decide)] at h)), (fun h => f9 (by rwa [hun 9 (by decide)] at h)), (fun h => f10 (by rwa [hun 10 (by decide)] at h)), (fun h => f11 (by rwa [hun 11 (by decide)] at h)), (fun h => by rw [hun 6 (by decide)]; exact d9v (by rwa [hun 9 (by decide)] at h)), (fun h => by rw [hun 1 (by decide)]; exact d9r (by rwa [hun 9 (by decide)] at h)), (fun h => by rw [hun 7 (by decide)]; exact d10v (by rwa [hun 10 (by decide)] at h)), (fun h => by rw [hun 3 (by decide)]; exact d10r (by rwa [hun 10 (by decide)] at h)), (fun h => by rw [hun 8 (by decide)]; exact d11v (by rwa [hun 11 (by decide)] at h)), (fun h => by rw [hun 5 (by decide)]; exact d11r (by rwa [hun 11 (by decide)] at h))⟩
      · refine wpOp_step rfl (fun K hK => ?_)
        simp only [Act.put, List.setIfInBounds_toArray, List.set_cons_zero, List.set_cons_succ]
        have hd0 := (ready_dep hi rfl).2 { on := 4, ground := .data } (by simp) (by kernel_rfl)
        obtain rfl := f4 hd0
        go_simp
        go_at_call 16
        refine (O0.out _ hpr).mono ?_
        rintro e w5 ⟨v5, rfl, hown, hb⟩
        exact hK _ _ ⟨newTag tag w'.heap.size 3, v57, v58, v59, v60, .agg #[.string l0, .slice o0 k0.length c0], .agg #[.string l0, v5], v12, v13, v14, by simp [Act.put], hpr.trans hb, (fun h => f0 (by rwa [hun 0 (by decide)] at h)), (fun h => f2 (by rwa [hun 2 (by decide)] at h)), (fun h => f4 (by rwa [hun 4 (by decide)] at h)), (fun h => (f1 (by rwa [hun 1 (by decide)] at h)).step (Steps.pr hb 3)), (fun h => (f3 (by rwa [hun 3 (by decide)] at h)).step (Steps.pr hb 3)), (fun _ => RowR.own hpr.size (by omega) hown), (fun h => (f6 (by rwa [hun 6 (by decide)] at h)).step (Steps.pr hb 3)), (fun h => (f7 (by rwa [hun 7 (by decide)] at h)).step (Steps.pr hb 3)), (fun h => (f8 (by rwa [hun 8 (by decide)] at h)).step (Steps.pr hb 3)), (fun h => (f9 (by rwa [hun 9 (by decide)] at h)).step (Steps.pr hb 3)), (fun h => (f10 (by rwa [hun 10 (by decide)] at h)).step (Steps.pr hb 3)), (fun h => by have h2 := d11r (by rwa [hun 11 (by decide)] at h); rw [getD_un (ready_dep hi rfl).1] at h2; cases h2), (fun h => by rw [hun 6 (by decide)]; exact d9v (by rwa [hun 9 (by decide)] at h)), (fun h => by rw [hun 1 (by decide)]; exact d9r (by rwa [hun 9 (by decide)] at h)), (fun h => by rw [hun 7 (by decide)]; exact d10v (by rwa [hun 10 (by decide)] at h)), (fun h => by rw [hun 3 (by decide)]; exact d10r (by rwa [hun 10 (by decide)] at h)), (fun h => by rw [hun 8 (by decide)]; exact d11v (by rwa [hun 11 (by decide)] at h)), (fun _ => setD_eq (ready_dep hi rfl).1)⟩
      · refine wpOp_step rfl (fun K hK => ?_)
        simp only [Act.put, List.setIfInBounds_toArray, List.set_cons_zero, List.set_cons_succ]
        go_simp
        exact hK _ _ ⟨newTag tag w'.heap.size 11, v57, v58, v59, v60, v61, v62, (.pointer (some ⟨w'.heap.size, 0, none⟩)), v13, v14, by simp [Act.put], hpr.alloc' _, (fun h => f0 (by rwa [hun 0 (by decide)] at h)), (fun h => f2 (by rwa [hun 2 (by decide)] at h)), (fun h => f4 (by rwa [hun 4 (by decide)] at h)), (fun h => (f1 (by rwa [hun 1 (by decide)] at h)).step (Steps.pr (Pr.alloc _ _) 11)), (fun h => (f3 (by rwa [hun 3 (by decide)] at h)).step (Steps.pr (Pr.alloc _ _) 11)), (fun h => (f5 (by rwa [hun 5 (by decide)] at h)).step (Steps.pr (Pr.alloc _ _) 11)), (fun _ => VarT.alloc hpr.size _ _), (fun h => (f7 (by rwa [hun 7 (by decide)] at h)).step (Steps.pr (Pr.alloc _ _) 11)), (fun h => (f8 (by rwa [hun 8 (by decide)] at h)).step (Steps.pr (Pr.alloc _ _) 11)), (fun h => by have h2 := d9v (by rwa [hun 9 (by decide)] at h); rw [getD_un (ready_dep hi rfl).1] at h2; cases h2), (fun h => (f10 (by rwa [hun 10 (by decide)] at h)).step (Steps.pr (Pr.alloc _ _) 11)), (fun h => (f11 (by rwa [hun 11 (by decide)] at h)).step (Steps.pr (Pr.alloc _ _) 11)), (fun _ => setD_eq (ready_dep hi rfl).1), (fun h => by rw [hun 1 (by decide)]; exact d9r (by rwa [hun 9 (by decide)] at h)), (fun h => by rw [hun 7 (by decide)]; exact d10v (by rwa [hun 10 (by decide)] at h)), (fun h => by rw [hun 3 (by decide)]; exact d10r (by rwa [hun 10 (by decide)] at h)), (fun h => by rw [hun 8 (by decide)]; exact d11v (by rwa [hun 11 (by decide)] at h)), (fun h => by rw [hun 5 (by decide)]; exact d11r (by rwa [hun 11 (by decide)] at h))⟩
      · refine wpOp_step rfl (fun K hK => ?_)
        simp only [Act.put, List.setIfInBounds_toArray, List.set_cons_zero, List.set_cons_succ]
        go_simp
        exact hK _ _ ⟨newTag tag w'.heap.size 12, v57, v58, v59, v60, v61, v62, v12, (.pointer (some ⟨w'.heap.size, 0, none⟩)), v14, by simp [Act.put], hpr.alloc' _, (fun h => f0 (by rwa [hun 0 (by decide)] at h)), (fun h => f2 (by rwa [hun 2 (by decide)] at h)), (fun h => f4 (by rwa [hun 4 (by decide)] at h)), (fun h => (f1 (by rwa [hun 1 (by decide)] at h)).step (Steps.pr (Pr.alloc _ _) 12)), (fun h => (f3 (by rwa [hun 3 (by decide)] at h)).step (Steps.pr (Pr.alloc _ _) 12)), (fun h => (f5 (by rwa [hun 5 (by decide)] at h)).step (Steps.pr (Pr.alloc _ _) 12)), (fun h => (f6 (by rwa [hun 6 (by decide)] at h)).step (Steps.pr (Pr.alloc _ _) 12)), (fun _ => VarT.alloc hpr.size _ _), (fun h => (f8 (by rwa [hun 8 (by decide)] at h)).step (Steps.pr (Pr.alloc _ _) 12)), (fun h => (f9 (by rwa [hun 9 (by decide)] at h)).step (Steps.pr (Pr.alloc _ _) 12)), (fun h => by have h2 := d10v (by rwa [hun 10 (by decide)] at h); rw [getD_un (ready_dep hi rfl).1] at h2; cases h2), (fun h => (f11 (by rwa [hun 11 (by decide)] at h)).step (Steps.pr (Pr.alloc _ _) 12)), (fun h => by rw [hun 6 (by decide)]; exact d9v (by rwa [hun 9 (by decide)] at h)), (fun h => by rw [hun 1 (by decide)]; exact d9r (by rwa [hun 9 (by decide)] at h)), (fun _ => setD_eq (ready_dep hi rfl).1), (fun h => by rw [hun 3 (by decide)]; exact d10r (by rwa [hun 10 (by decide)] at h)), (fun h => by rw [hun 8 (by decide)]; exact d11v (by rwa [hun 11 (by decide)] at h)), (fun h => by rw [hun 5 (by decide)]; exact d11r (by rwa [hun 11 (by decide)] at h))⟩
      · refine wpOp_step rfl (fun K hK => ?_)
        simp only [Act.put, List.setIfInBounds_toArray, List.set_cons_zero, List.set_cons_succ]
        go_simp
        exact hK _ _ ⟨newTag tag w'.heap.size 13, v57, v58, v59, v60, v61, v62, v12, v13, (.pointer (some ⟨w'.heap.size, 0, none⟩)), by simp [Act.put], hpr.alloc' _, (fun h => f0 (by rwa [hun 0 (by decide)] at h)), (fun h => f2 (by rwa [hun 2 (by decide)] at h)), (fun h => f4 (by rwa [hun 4 (by decide)] at h)), (fun h => (f1 (by rwa [hun 1 (by decide)] at h)).step (Steps.pr (Pr.alloc _ _) 13)), (fun h => (f3 (by rwa [hun 3 (by decide)] at h)).step (Steps.pr (Pr.alloc _ _) 13)), (fun h => (f5 (by rwa [hun 5 (by decide)] at h)).step (Steps.pr (Pr.alloc _ _) 13)), (fun h => (f6 (by rwa [hun 6 (by decide)] at h)).step (Steps.pr (Pr.alloc _ _) 13)), (fun h => (f7 (by rwa [hun 7 (by decide)] at h)).step (Steps.pr (Pr.alloc _ _) 13)), (fun _ => VarT.alloc hpr.size _ _), (fun h => (f9 (by rwa [hun 9 (by decide)] at h)).step (Steps.pr (Pr.alloc _ _) 13)), (fun h => (f10 (by rwa [hun 10 (by decide)] at h)).step (Steps.pr (Pr.alloc _ _) 13)), (fun h => by have h2 := d11v (by rwa [hun 11 (by decide)] at h); rw [getD_un (ready_dep hi rfl).1] at h2; cases h2), (fun h => by rw [hun 6 (by decide)]; exact d9v (by rwa [hun 9 (by decide)] at h)), (fun h => by rw [hun 1 (by decide)]; exact d9r (by rwa [hun 9 (by decide)] at h)), (fun h => by rw [hun 7 (by decide)]; exact d10v (by rwa [hun 10 (by decide)] at h)), (fun h => by rw [hun 3 (by decide)]; exact d10r (by rwa [hun 10 (by decide)] at h)), (fun _ => setD_eq (ready_dep hi rfl).1), (fun h => by rw [hun 5 (by decide)]; exact d11r (by rwa [hun 11 (by decide)] at h))⟩
      · refine wpOp_step rfl (fun K hK => ?_)
        simp only [Act.put, List.setIfInBounds_toArray, List.set_cons_zero, List.set_cons_succ]
        have hdv := (ready_dep hi rfl).2 { on := 6, ground := .data } (by simp) (by kernel_rfl)
        have hdr := (ready_dep hi rfl).2 { on := 1, ground := .data } (by simp) (by kernel_rfl)
        obtain ⟨T, x, y, rfl, hT, hTt, hTb⟩ := f6 hdv
        obtain ⟨g5, q5, rfl, hg5, hk5⟩ := f1 hdr
        have z0 := blk_cell (o := 0) hTb; have z1 := blk_cell (o := 1) hTb; have z2 : w'.frozen? ⟨T, 0, none⟩ = false := blk_frozen hTb; have z3 : w'.frozen? ⟨T, 1, none⟩ = false := blk_frozen hTb
        have hB := blk_set (o := 1) (blk_set (o := 0) hTb (.string l0)) (.slice (some ⟨g5, 0, none⟩) k0.length q5)
        simp only [List.getElem?_toArray, List.getElem?_cons_zero, List.getElem?_cons_succ] at z0 z1
        go_simp
        exact hK _ _ ⟨tag, v57, (.agg #[.string l0, .slice (some ⟨g5, 0, none⟩) k0.length q5]), v59, v60, v61, v62, (.pointer (some ⟨T, 0, none⟩)), v13, v14, by simp [Act.put], (hpr.setCell hT _).setCell hT _, (fun h => f0 (by rwa [hun 0 (by decide)] at h)), (fun h => f2 (by rwa [hun 2 (by decide)] at h)), (fun h => f4 (by rwa [hun 4 (by decide)] at h)), (fun h => (f1 (by rwa [hun 1 (by decide)] at h)).step (Steps.two hTt (by decide) _ _ _ _)), (fun h => (f3 (by rwa [hun 3 (by decide)] at h)).step (Steps.two hTt (by decide) _ _ _ _)), (fun h => (f5 (by rwa [hun 5 (by decide)] at h)).step (Steps.two hTt (by decide) _ _ _ _)), (fun _ => ⟨T, _, _, rfl, hT, hTt, hB⟩), (fun h => (f7 (by rwa [hun 7 (by decide)] at h)).step (Steps.two hTt (by decide) _ _ _ _)), (fun h => (f8 (by rwa [hun 8 (by decide)] at h)).step (Steps.two hTt (by decide) _ _ _ _)), (fun _ => ⟨T, _, _, rfl, rfl, hTt, hB⟩), (fun h => (f10 (by rwa [hun 10 (by decide)] at h)).step (Steps.two hTt (by decide) _ _ _ _)), (fun h => (f11 (by rwa [hun 11 (by decide)] at h)).step (Steps.two hTt (by decide) _ _ _ _)), (fun _ => by rw [hun 6 (by decide)]; exact hdv), (fun _ => by rw [hun 1 (by decide)]; exact hdr), (fun h => by rw [hun 7 (by decide)]; exact d10v (by rwa [hun 10 (by decide)] at h)), (fun h => by rw [hun 3 (by decide)]; exact d10r (by rwa [hun 10 (by decide)] at h)), (fun h => by rw [hun 8 (by decide)]; exact d11v (by rwa [hun 11 (by decide)] at h)), (fun h => by rw [hun 5 (by decide)]; exact d11r (by rwa [hun 11 (by decide)] at h))⟩
      · refine wpOp_step rfl (fun K hK => ?_)
        simp only [Act.put, List.setIfInBounds_toArray, List.set_cons_zero, List.set_cons_succ]
        have hdv := (ready_dep hi rfl).2 { on := 7, ground := .data } (by simp) (by kernel_rfl)
        have hdr := (ready_dep hi rfl).2 { on := 3, ground := .data } (by simp) (by kernel_rfl)
        obtain ⟨T, x, y, rfl, hT, hTt, hTb⟩ := f7 hdv
        obtain ⟨g5, q5, rfl, hg5, hk5⟩ := f3 hdr
        have z0 := blk_cell (o := 0) hTb; have z1 := blk_cell (o := 1) hTb; have z2 : w'.frozen? ⟨T, 0, none⟩ = false := blk_frozen hTb; have z3 : w'.frozen? ⟨T, 1, none⟩ = false := blk_frozen hTb
        have hB := blk_set (o := 1) (blk_set (o := 0) hTb (.string l0)) (.slice (some ⟨g5, 0, none⟩) k0.length q5)
        simp only [List.getElem?_toArray, List.getElem?_cons_zero, List.getElem?_cons_succ] at z0 z1
        go_simp
        exact hK _ _ ⟨tag, v57, v58, v59, (.agg #[.string l0, .slice (some ⟨g5, 0, none⟩) k0.length q5]), v61, v62, v12, (.pointer (some ⟨T, 0, none⟩)), v14, by simp [Act.put], (hpr.setCell hT _).setCell hT _, (fun h => f0 (by rwa [hun 0 (by decide)] at h)), (fun h => f2 (by rwa [hun 2 (by decide)] at h)), (fun h => f4 (by rwa [hun 4 (by decide)] at h)), (fun h => (f1 (by rwa [hun 1 (by decide)] at h)).step (Steps.two hTt (by decide) _ _ _ _)), (fun h => (f3 (by rwa [hun 3 (by decide)] at h)).step (Steps.two hTt (by decide) _ _ _ _)), (fun h => (f5 (by rwa [hun 5 (by decide)] at h)).step (Steps.two hTt (by decide) _ _ _ _)), (fun h => (f6 (by rwa [hun 6 (by decide)] at h)).step (Steps.two hTt (by decide) _ _ _ _)), (fun _ => ⟨T, _, _, rfl, hT, hTt, hB⟩), (fun h => (f8 (by rwa [hun 8 (by decide)] at h)).step (Steps.two hTt (by decide) _ _ _ _)), (fun h => (f9 (by rwa [hun 9 (by decide)] at h)).step (Steps.two hTt (by decide) _ _ _ _)), (fun _ => ⟨T, _, _, rfl, rfl, hTt, hB⟩), (fun h => (f11 (by rwa [hun 11 (by decide)] at h)).step (Steps.two hTt (by decide) _ _ _ _)), (fun h => by rw [hun 6 (by decide)]; exact d9v (by rwa [hun 9 (by decide)] at h)), (fun h => by rw [hun 1 (by decide)]; exact d9r (by rwa [hun 9 (by decide)] at h)), (fun _ => by rw [hun 7 (by decide)]; exact hdv), (fun _ => by rw [hun 3 (by decide)]; exact hdr), (fun h => by rw [hun 8 (by decide)]; exact d11v (by rwa [hun 11 (by decide)] at h)), (fun h => by rw [hun 5 (by decide)]; exact d11r (by rwa [hun 11 (by decide)] at h))⟩
      · refine wpOp_step rfl (fun K hK => ?_)
        simp only [Act.put, List.setIfInBounds_toArray, List.set_cons_zero, List.set_cons_succ]
        have hdv := (ready_dep hi rfl).2 { on := 8, ground := .data } (by simp) (by kernel_rfl)
        have hdr := (ready_dep hi rfl).2 { on := 5, ground := .data } (by simp) (by kernel_rfl)
        obtain ⟨T, x, y, rfl, hT, hTt, hTb⟩ := f8 hdv
        obtain ⟨g5, q5, rfl, hg5, hk5⟩ := f5 hdr
        have z0 := blk_cell (o := 0) hTb; have z1 := blk_cell (o := 1) hTb; have z2 : w'.frozen? ⟨T, 0, none⟩ = false := blk_frozen hTb; have z3 : w'.frozen? ⟨T, 1, none⟩ = false := blk_frozen hTb
        have hB := blk_set (o := 1) (blk_set (o := 0) hTb (.string l0)) (.slice (some ⟨g5, 0, none⟩) k0.length q5)
        simp only [List.getElem?_toArray, List.getElem?_cons_zero, List.getElem?_cons_succ] at z0 z1
        go_simp
        exact hK _ _ ⟨tag, v57, v58, v59, v60, v61, (.agg #[.string l0, .slice (some ⟨g5, 0, none⟩) k0.length q5]), v12, v13, (.pointer (some ⟨T, 0, none⟩)), by simp [Act.put], (hpr.setCell hT _).setCell hT _, (fun h => f0 (by rwa [hun 0 (by decide)] at h)), (fun h => f2 (by rwa [hun 2 (by decide)] at h)), (fun h => f4 (by rwa [hun 4 (by decide)] at h)), (fun h => (f1 (by rwa [hun 1 (by decide)] at h)).step (Steps.two hTt (by decide) _ _ _ _)), (fun h => (f3 (by rwa [hun 3 (by decide)] at h)).step (Steps.two hTt (by decide) _ _ _ _)), (fun h => (f5 (by rwa [hun 5 (by decide)] at h)).step (Steps.two hTt (by decide) _ _ _ _)), (fun h => (f6 (by rwa [hun 6 (by decide)] at h)).step (Steps.two hTt (by decide) _ _ _ _)), (fun h => (f7 (by rwa [hun 7 (by decide)] at h)).step (Steps.two hTt (by decide) _ _ _ _)), (fun _ => ⟨T, _, _, rfl, hT, hTt, hB⟩), (fun h => (f9 (by rwa [hun 9 (by decide)] at h)).step (Steps.two hTt (by decide) _ _ _ _)), (fun h => (f10 (by rwa [hun 10 (by decide)] at h)).step (Steps.two hTt (by decide) _ _ _ _)), (fun _ => ⟨T, _, _, rfl, rfl, hTt, hB⟩), (fun h => by rw [hun 6 (by decide)]; exact d9v (by rwa [hun 9 (by decide)] at h)), (fun h => by rw [hun 1 (by decide)]; exact d9r (by rwa [hun 9 (by decide)] at h)), (fun h => by rw [hun 7 (by decide)]; exact d10v (by rwa [hun 10 (by decide)] at h)), (fun h => by rw [hun 3 (by decide)]; exact d10r (by rwa [hun 10 (by decide)] at h)), (fun _ => by rw [hun 8 (by decide)]; exact hdv), (fun _ => by rw [hun 5 (by decide)]; exact hdr)⟩
    · intro L a' w' hall hI
      obtain ⟨tag, v57, v58, v59, v60, v61, v62, v12, v13, v14, rfl, hpr, f0, f2, f4, f1, f3, f5, f6, f7, f8, f9, f10, f11, d9v, d9r, d10v, d10r, d11v, d11r⟩ := hI
      have h1 := f1 (hall 1 (by decide)); have h3 := f3 (hall 3 (by decide)); have h5 := f5 (hall 5 (by decide))
      have h6 := f6 (hall 6 (by decide)); have h7 := f7 (hall 7 (by decide)); have h8 := f8 (hall 8 (by decide))
      have h9 := f9 (hall 9 (by decide)); have h10 := f10 (hall 10 (by decide)); have h11 := f11 (hall 11 (by decide))
      clear f0 f2 f4 f1 f3 f5 f6 f7 f8 f9 f10 f11 d9v d9r d10v d10r d11v d11r hall
      obtain ⟨T1, x1, y1, rfl, rfl, hT1, hB1⟩ := h9
      obtain ⟨T2, x2, y2, rfl, rfl, hT2, hB2⟩ := h10
      obtain ⟨T3, x3, y3, rfl, rfl, hT3, hB3⟩ := h11
      obtain ⟨T1', _, _, e1, hV1, _, _⟩ := h6; obtain rfl := Bp.inj e1
      obtain ⟨T2', _, _, e2, hV2, _, _⟩ := h7; obtain rfl := Bp.inj e2
      obtain ⟨T3', _, _, e3, hV3, _, _⟩ := h8; obtain rfl := Bp.inj e3
      clear e1 e2 e3
      obtain ⟨g1, q1, e1, hg1, K1⟩ := h1
      obtain ⟨g2, q2, e2, hg2, K2⟩ := h3
      obtain ⟨g3, q3, e3, hg3, K3⟩ := h5
      obtain ⟨rfl, rfl⟩ : x1 = .string l0 ∧ y1 = .slice (some ⟨g1, 0, none⟩) k0.length q1 := by simpa using e1
      obtain ⟨rfl, rfl⟩ : x2 = .string l0 ∧ y2 = .slice (some ⟨g2, 0, none⟩) k0.length q2 := by simpa using e2
      obtain ⟨rfl, rfl⟩ : x3 = .string l0 ∧ y3 = .slice (some ⟨g3, 0, none⟩) k0.length q3 := by simpa using e3
      simp only [Act.put, List.setIfInBounds_toArray, List.set_cons_zero, List.set_cons_succ]
      have hR : Hid (Three w3 l0 k0 tag T1 T2 T3 g1 q1 g2 q2 g3 q3 w') := Lib.hid ⟨hpr, ⟨hT1, hV1, hB1⟩, ⟨hT2, hV2, hB2⟩, ⟨hT3, hV3, hB3⟩, ⟨hg1, K1⟩, ⟨hg2, K2⟩, hg3, K3⟩
      clear e1 e2 e3 hB1 hB2 hB3 K1 K2 K3 hpr hT1 hT2 hT3 hV1 hV2 hV3 hg1 hg2 hg3
      go_wp2_with fail
      go_meet
      case rel => exact ⟨tag, T1, T2, T3, g1, q1, g2, q2, g3, q3, rfl, rfl, rfl, hR.out⟩
--END R9
  case rest =>
  obtain ⟨tag4, T1, T2, T3, g1, q1, g2, q2, g3, q3, rfl, rfl, rfl, hcut⟩ := hcut
  obtain ⟨w4, hw4⟩ : ∃ w4, w4 = wc := ⟨_, rfl⟩
  subst hw4
  obtain ⟨h34, ⟨hT1, hV1, hB1⟩, ⟨hT2, hV2, hB2⟩, ⟨hT3, hV3, hB3⟩, ⟨hg1, K1⟩, ⟨hg2, K2⟩, hg3, K3⟩ := hcut
  have hgt1 : tag4 g1 = 1 := K1.2.2.1
  have hgt2 : tag4 g2 = 2 := K2.2.2.1
  have hgt3 : tag4 g3 = 3 := K3.2.2.1
  have hgl1 := K1.lt; have hgl2 := K2.lt; have hgl3 := K3.lt
  have KA : Hid (RowP (fun n => n = 1 ∨ n = 4) tag4 g1 q1 w4 k0) := Lib.hid (K1.mono fun k hk => .inl hk)
  have KB : Hid (RowP (fun n => n = 2 ∨ n = 5) tag4 g2 q2 w4 k0) := Lib.hid (K2.mono fun k hk => .inl hk)
  have KC : Hid (RowP (fun n => n = 3 ∨ n = 6 ∨ n = 7) tag4 g3 q3 w4 k0) := Lib.hid (K3.mono fun k hk => .inl hk)
  have H34 := Lib.hid h34
  have HB1 := Lib.hid hB1; have HB2 := Lib.hid hB2; have HB3 := Lib.hid hB3
  have dI1 : decide ((k0.length : Int) ≤ (I : Int)) = false := by simp; omega
  have dI2 : decide (k0.length ≤ I) = false := by simp; omega
  have dI3 : (0 : Int) ≤ (I : Int) := by omega
  have dI4 : (I : Int) < (k0.length : Int) := by omega
  have dJ1 : decide ((k0.length : Int) ≤ (J : Int)) = false := by simp; omega
  have dJ2 : decide (k0.length ≤ J) = false := by simp; omega
  have dJ3 : (0 : Int) ≤ (J : Int) := by omega
  have dJ4 : (J : Int) < (k0.length : Int) := by omega
  have hT1t := hT1; have hT2t := hT2; have hT3t := hT3
  clear K1 K2 K3 h34 hB1 hB2 hB3
  go_upto_region 10 with fail
  go_cut [63] from 63 to 74 (fun _ wx => ∃ tag, Off (fun n => n = 1 ∨ n = 2) tag4 w4 tag wx ∧ RowP (fun n => n = 1 ∨ n = 4) tag g1 q1 wx (k0.set I (.node l1 k1)) ∧ RowP (fun n => n = 2 ∨ n = 5) tag g2 q2 wx (k0.set J (.node l2 k2)) ∧ Pr w3 wx)
  case first =>
--BEGIN R10
    refine wp_region_invA (by kernel_rfl) (by kernel_rfl) (fun a0 L a' w' => ∃ (tag : Nat → Nat) (v63 : Value) (v64 : Value) (v65 : Value) (v66 : Value) (v67 : Value) (v68 : Value) (v69 : Value) (v70 : Value) (v71 : Value) (v72 : Value) (v73 : Value) (v74 : Value), a' = ((((((((((((a0.put (some 63) v63).put (some 64) v64).put (some 65) v65).put (some 66) v66).put (some 67) v67).put (some 68) v68).put (some 69) v69).put (some 70) v70).put (some 71) v71).put (some 72) v72).put (some 73) v73).put (some 74) v74) ∧ Pr w3 w' ∧ Off (fun n => n = 1 ∨ n = 2) tag4 w4 tag w' ∧
      (RowP (fun n => n = 1 ∨ n = 4) tag g1 q1 w' (bif L.getD 11 false then k0.set I (.node l1 k1) else k0)) ∧
      (RowP (fun n => n = 2 ∨ n = 5) tag g2 q2 w' (bif L.getD 13 false then k0.set J (.node l2 k2) else k0)) ∧
      (L.getD 0 false = true → v63 = .pointer (some ⟨T1, 1, none⟩)) ∧
      (L.getD 1 false = true → v64 = .slice (some ⟨g1, 0, none⟩) k0.length q1) ∧
      (L.getD 2 false = true → v65 = .int .i64 (I : Int)) ∧
      (L.getD 3 false = true → v66 = .pointer (some ⟨T2, 1, none⟩)) ∧
      (L.getD 4 false = true → v67 = .slice (some ⟨g2, 0, none⟩) k0.length q2) ∧
      (L.getD 5 false = true → v68 = .int .i64 (J : Int)) ∧
      (L.getD 6 false = true → v69 = .agg #[.string l1, .slice o1 k1.length c1]) ∧
      (L.getD 8 false = true → v71 = .agg #[.string l2, .slice o2 k2.length c2]) ∧
      (L.getD 10 false = true → v73 = .pointer (some ⟨g1, I * 2, none⟩)) ∧
      (L.getD 12 false = true → v74 = .pointer (some ⟨g2, J * 2, none⟩)) ∧
      (L.getD 7 false = true → OwnX l1 k1 4 v70 tag w') ∧
      (L.getD 9 false = true → OwnX l2 k2 5 v72 tag w')) ?_ ?_ ?_
    · exact ⟨tag4, undef, undef, undef, undef, undef, undef, undef, undef, undef, undef, undef, undef, by simp [Act.put], H34.out.drew', Off.drew _ _ _, RowT.carry KA.out fun k hk _ => ⟨rfl, hk⟩, RowT.carry KB.out fun k hk _ => ⟨rfl, hk⟩, rep_no, rep_no, rep_no, rep_no, rep_no, rep_no, rep_no, rep_no, rep_no, rep_no, rep_no, rep_no⟩
    · intro i L a' w' hI' hi
      obtain ⟨tag, v63, v64, v65, v66, v67, v68, v69, v70, v71, v72, v73, v74, rfl, hpr, hoff, r0, r1, f0, f1, f2, f3, f4, f5, f6, f8, f10, f12, f7, f9⟩ := hI'
      have h14 : i < 14 := by have := (List.mem_filter.1 hi).1; simpa using this
      have hun : ∀ j, j ≠ i → (L.setIfInBounds i true).getD j false = L.getD j false := fun j hj => setD_ne hj
      rcases (show i = 0 ∨ i = 1 ∨ i = 2 ∨ i = 3 ∨ i = 4 ∨ i = 5 ∨ i = 6 ∨ i = 7 ∨ i = 8 ∨ i = 9 ∨ i = 10 ∨ i = 11 ∨ i = 12 ∨ i = 13 by omega) with rfl | rfl | rfl | rfl | rfl | rfl | rfl | rfl | rfl | rfl | rfl | rfl | rfl | rfl
      · refine wpOp_step rfl (fun K hK => ?_)
        simp only [Act.put, List.setIfInBounds_toArray, List.set_cons_zero, List.set_cons_succ]
        go_simp
        exact hK _ _ ⟨tag, .pointer (some ⟨T1, 1, none⟩), v64, v65, v66, v67, v68, v69, v70, v71, v72, v73, v74, by simp [Act.put], hpr, hoff, (by rw [hun 11 (by decide)]; exact r0), (by rw [hun 13 (by decide)]; exact r1), (fun _ => rfl), (fun h => f1 (by rwa [hun 1 (by decide)] at h)), (fun h => f2 (by rwa [hun 2 (by decide)] at h)), (fun h => f3 (by rwa [hun 3 (by decide)] at h)), (fun h => f4 (by rwa [hun 4 (by decide)] at h)), (fun h => f5 (by rwa [hun 5 (by decide)] at h)), (fun h => f6 (by rwa [hun 6 (by decide)] at h)), (fun h => f8 (by rwa [hun 8 (by decide)] at h)), (fun h => f10 (by rwa [hun 10 (by decide)] at h)), (fun h => f12 (by rwa [hun 12 (by decide)] at h)), (fun h => f7 (by rwa [hun 7 (by decide)] at h)), (fun h => f9 (by rwa [hun 9 (by decide)] at h))⟩
      · refine wpOp_step rfl (fun K hK => ?_)
        simp only [Act.put, List.setIfInBounds_toArray, List.set_cons_zero, List.set_cons_succ]
        have hd0 := (ready_dep hi rfl).2 { on := 0, ground := .data } (by simp) (by kernel_rfl)
        obtain rfl := f0 hd0
        have x0 : w'.cell? ⟨T1, 1, none⟩ = some (.slice (some ⟨g1, 0, none⟩) k0.length q1) := blk_cell (hoff.blk HB1.out (by rw [hT1t]; decide))
        go_simp
        exact hK _ _ ⟨tag, .pointer (some ⟨T1, 1, none⟩), .slice (some ⟨g1, 0, none⟩) k0.length q1, v65, v66, v67, v68, v69, v70, v71, v72, v73, v74, by simp [Act.put], hpr, hoff, (by rw [hun 11 (by decide)]; exact r0), (by rw [hun 13 (by decide)]; exact r1), (fun h => f0 (by rwa [hun 0 (by decide)] at h)), (fun _ => rfl), (fun h => f2 (by rwa [hun 2 (by decide)] at h)), (fun h => f3 (by rwa [hun 3 (by decide)] at h)), (fun h => f4 (by rwa [hun 4 (by decide)] at h)), (fun h => f5 (by rwa [hun 5 (by decide)] at h)), (fun h => f6 (by rwa [hun 6 (by decide)] at h)), (fun h => f8 (by rwa [hun 8 (by decide)] at h)), (fun h => f10 (by rwa [hun 10 (by decide)] at h)), (fun h => f12 (by rwa [hun 12 (by decide)] at h)), (fun h => f7 (by rwa [hun 7 (by decide)] at h)), (fun h => f9 (by rwa [hun 9 (by decide)] at h))⟩
      · refine wpOp_step rfl (fun K hK => ?_)
        simp only [Act.put, List.setIfInBounds_toArray, List.set_cons_zero, List.set_cons_succ]
        go_simp
        exact hK _ _ ⟨tag, v63, v64, .int .i64 (I : Int), v66, v67, v68, v69, v70, v71, v72, v73, v74, by simp [Act.put], hpr, hoff, (by rw [hun 11 (by decide)]; exact r0), (by rw [hun 13 (by decide)]; exact r1), (fun h => f0 (by rwa [hun 0 (by decide)] at h)), (fun h => f1 (by rwa [hun 1 (by decide)] at h)), (fun _ => rfl), (fun h => f3 (by rwa [hun 3 (by decide)] at h)), (fun h => f4 (by rwa [hun 4 (by decide)] at h)), (fun h => f5 (by rwa [hun 5 (by decide)] at h)), (fun h => f6 (by rwa [hun 6 (by decide)] at h)), (fun h => f8 (by rwa [hun 8 (by decide)] at h)), (fun h => f10 (by rwa [hun 10 (by decide)] at h)), (fun h => f12 (by rwa [hun 12 (by decide)] at h)), (fun h => f7 (by rwa [hun 7 (by decide)] at h)), (fun h => f9 (by rwa [hun 9 (by decide)] at h))⟩
      · refine wpOp_step rfl (fun K hK => ?_)
        simp only [Act.put, List.setIfInBounds_toArray, List.set_cons_zero, List.set_cons_succ]
        go_simp
        exact hK _ _ ⟨tag, v63, v64, v65, .pointer (some ⟨T2, 1, none⟩), v67, v68, v69, v70, v71, v72, v73, v74, by simp [Act.put], hpr, hoff, (by rw [hun 11 (by decide)]; exact r0), (by rw [hun 13 (by decide)]; exact r1), (fun h => f0 (by rwa [hun 0 (by decide)] at h)), (fun h => f1 (by rwa [hun 1 (by decide)] at h)), (fun h => f2 (by rwa [hun 2 (by decide)] at h)), (fun _ => rfl), (fun h => f4 (by rwa [hun 4 (by decide)] at h)), (fun h => f5 (by rwa [hun 5 (by decide)] at h)), (fun h => f6 (by rwa [hun 6 (by decide)] at h)), (fun h => f8 (by rwa [hun 8 (by decide)] at h)), (fun h => f10 (by rwa [hun 10 (by decide)] at h)), (fun h => f12 (by rwa [hun 12 (by decide)] at h)), (fun h => f7 (by rwa [hun 7 (by decide)] at h)), (fun h => f9 (by rwa [hun 9 (by decide)] at h))⟩
      · refine wpOp_step rfl (fun K hK => ?_)
        simp only [Act.put, List.setIfInBounds_toArray, List.set_cons_zero, List.set_cons_succ]
        have hd3 := (ready_dep hi rfl).2 { on := 3, ground := .data } (by simp) (by kernel_rfl)
        obtain rfl := f3 hd3
        have x0 : w'.cell? ⟨T2, 1, none⟩ = some (.slice (some ⟨g2, 0, none⟩) k0.length q2) := blk_cell (hoff.blk HB2.out (by rw [hT2t]; decide))
        go_simp
        exact hK _ _ ⟨tag, v63, v64, v65, .pointer (some ⟨T2, 1, none⟩), .slice (some ⟨g2, 0, none⟩) k0.length q2, v68, v69, v70, v71, v72, v73, v74, by simp [Act.put], hpr, hoff, (by rw [hun 11 (by decide)]; exact r0), (by rw [hun 13 (by decide)]; exact r1), (fun h => f0 (by rwa [hun 0 (by decide)] at h)), (fun h => f1 (by rwa [hun 1 (by decide)] at h)), (fun h => f2 (by rwa [hun 2 (by decide)] at h)), (fun h => f3 (by rwa [hun 3 (by decide)] at h)), (fun _ => rfl), (fun h => f5 (by rwa [hun 5 (by decide)] at h)), (fun h => f6 (by rwa [hun 6 (by decide)] at h)), (fun h => f8 (by rwa [hun 8 (by decide)] at h)), (fun h => f10 (by rwa [hun 10 (by decide)] at h)), (fun h => f12 (by rwa [hun 12 (by decide)] at h)), (fun h => f7 (by rwa [hun 7 (by decide)] at h)), (fun h => f9 (by rwa [hun 9 (by decide)] at h))⟩
      · refine wpOp_step rfl (fun K hK => ?_)
        simp only [Act.put, List.setIfInBounds_toArray, List.set_cons_zero, List.set_cons_succ]
        go_simp
        exact hK _ _ ⟨tag, v63, v64, v65, v66, v67, .int .i64 (J : Int), v69, v70, v71, v72, v73, v74, by simp [Act.put], hpr, hoff, (by rw [hun 11 (by decide)]; exact r0), (by rw [hun 13 (by decide)]; exact r1), (fun h => f0 (by rwa [hun 0 (by decide)] at h)), (fun h => f1 (by rwa [hun 1 (by decide)] at h)), (fun h => f2 (by rwa [hun 2 (by decide)] at h)), (fun h => f3 (by rwa [hun 3 (by decide)] at h)), (fun h => f4 (by rwa [hun 4 (by decide)] at h)), (fun _ => rfl), (fun h => f6 (by rwa [hun 6 (by decide)] at h)), (fun h => f8 (by rwa [hun 8 (by decide)] at h)), (fun h => f10 (by rwa [hun 10 (by decide)] at h)), (fun h => f12 (by rwa [hun 12 (by decide)] at h)), (fun h => f7 (by rwa [hun 7 (by decide)] at h)), (fun h => f9 (by rwa [hun 9 (by decide)] at h))⟩
      · refine wpOp_step rfl (fun K hK => ?_)
        simp only [Act.put, List.setIfInBounds_toArray, List.set_cons_zero, List.set_cons_succ]
        have x0 := X2 _ hpr; have x1 := X3 _ hpr
        go_simp
        exact hK _ _ ⟨tag, v63, v64, v65, v66, v67, v68, .agg #[.string l1, .slice o1 k1.length c1], v70, v71, v72, v73, v74, by simp [Act.put], hpr, hoff, (by rw [hun 11 (by decide)]; exact r0), (by rw [hun 13 (by decide)]; exact r1), (fun h => f0 (by rwa [hun 0 (by decide)] at h)), (fun h => f1 (by rwa [hun 1 (by decide)] at h)), (fun h => f2 (by rwa [hun 2 (by decide)] at h)), (fun h => f3 (by rwa [hun 3 (by decide)] at h)), (fun h => f4 (by rwa [hun 4 (by decide)] at h)), (fun h => f5 (by rwa [hun 5 (by decide)] at h)), (fun _ => rfl), (fun h => f8 (by rwa [hun 8 (by decide)] at h)), (fun h => f10 (by rwa [hun 10 (by decide)] at h)), (fun h => f12 (by rwa [hun 12 (by decide)] at h)), (fun h => f7 (by rwa [hun 7 (by decide)] at h)), (fun h => f9 (by rwa [hun 9 (by decide)] at h))⟩
      · refine wpOp_step rfl (fun K hK => ?_)
        simp only [Act.put, List.setIfInBounds_toArray, List.set_cons_zero, List.set_cons_succ]
        have hd6 := (ready_dep hi rfl).2 { on := 6, ground := .data } (by simp) (by kernel_rfl)
        obtain rfl := f6 hd6
        go_simp
        go_at_call 16
        refine (O1.out _ hpr).mono ?_
        rintro e wn ⟨p5, q5, rfl, hown, hb⟩
        exact hK _ _ ⟨newTag tag w'.heap.size 4, v63, v64, v65, v66, v67, v68, .agg #[.string l1, .slice o1 k1.length c1], .agg #[.string l1, .slice p5 k1.length q5], v71, v72, v73, v74, by simp [Act.put], hpr.trans hb, hoff.pr hb _, (by rw [hun 11 (by decide)]; exact r0.pr hb _), (by rw [hun 13 (by decide)]; exact r1.pr hb _), (fun h => f0 (by rwa [hun 0 (by decide)] at h)), (fun h => f1 (by rwa [hun 1 (by decide)] at h)), (fun h => f2 (by rwa [hun 2 (by decide)] at h)), (fun h => f3 (by rwa [hun 3 (by decide)] at h)), (fun h => f4 (by rwa [hun 4 (by decide)] at h)), (fun h => f5 (by rwa [hun 5 (by decide)] at h)), (fun h => f6 (by rwa [hun 6 (by decide)] at h)), (fun h => f8 (by rwa [hun 8 (by decide)] at h)), (fun h => f10 (by rwa [hun 10 (by decide)] at h)), (fun h => f12 (by rwa [hun 12 (by decide)] at h)), (fun _ => OwnX.own hown), (fun h => (f9 (by rwa [hun 9 (by decide)] at h)).step (Steps.pr hb 4))⟩
      · refine wpOp_step rfl (fun K hK => ?_)
        simp only [Act.put, List.setIfInBounds_toArray, List.set_cons_zero, List.set_cons_succ]
        have x0 := X4 _ hpr; have x1 := X5 _ hpr
        go_simp
        exact hK _ _ ⟨tag, v63, v64, v65, v66, v67, v68, v69, v70, .agg #[.string l2, .slice o2 k2.length c2], v72, v73, v74, by simp [Act.put], hpr, hoff, (by rw [hun 11 (by decide)]; exact r0), (by rw [hun 13 (by decide)]; exact r1), (fun h => f0 (by rwa [hun 0 (by decide)] at h)), (fun h => f1 (by rwa [hun 1 (by decide)] at h)), (fun h => f2 (by rwa [hun 2 (by decide)] at h)), (fun h => f3 (by rwa [hun 3 (by decide)] at h)), (fun h => f4 (by rwa [hun 4 (by decide)] at h)), (fun h => f5 (by rwa [hun 5 (by decide)] at h)), (fun h => f6 (by rwa [hun 6 (by decide)] at h)), (fun _ => rfl), (fun h => f10 (by rwa [hun 10 (by decide)] at h)), (fun h => f12 (by rwa [hun 12 (by decide)] at h)), (fun h => f7 (by rwa [hun 7 (by decide)] at h)), (fun h => f9 (by rwa [hun 9 (by decide)] at h))⟩
      · refine wpOp_step rfl (fun K hK => ?_)
        simp only [Act.put, List.setIfInBounds_toArray, List.set_cons_zero, List.set_cons_succ]
        have hd8 := (ready_dep hi rfl).2 { on := 8, ground := .data } (by simp) (by kernel_rfl)
        obtain rfl := f8 hd8
        go_simp
        go_at_call 16
        refine (O2.out _ hpr).mono ?_
        rintro e wn ⟨p5, q5, rfl, hown, hb⟩
        exact hK _ _ ⟨newTag tag w'.heap.size 5, v63, v64, v65, v66, v67, v68, v69, v70, .agg #[.string l2, .slice o2 k2.length c2], .agg #[.string l2, .slice p5 k2.length q5], v73, v74, by simp [Act.put], hpr.trans hb, hoff.pr hb _, (by rw [hun 11 (by decide)]; exact r0.pr hb _), (by rw [hun 13 (by decide)]; exact r1.pr hb _), (fun h => f0 (by rwa [hun 0 (by decide)] at h)), (fun h => f1 (by rwa [hun 1 (by decide)] at h)), (fun h => f2 (by rwa [hun 2 (by decide)] at h)), (fun h => f3 (by rwa [hun 3 (by decide)] at h)), (fun h => f4 (by rwa [hun 4 (by decide)] at h)), (fun h => f5 (by rwa [hun 5 (by decide)] at h)), (fun h => f6 (by rwa [hun 6 (by decide)] at h)), (fun h => f8 (by rwa [hun 8 (by decide)] at h)), (fun h => f10 (by rwa [hun 10 (by decide)] at h)), (fun h => f12 (by rwa [hun 12 (by decide)] at h)), (fun h => (f7 (by rwa [hun 7 (by decide)] at h)).step (Steps.pr hb 5)), (fun _ => OwnX.own hown)⟩
      · refine wpOp_step rfl (fun K hK => ?_)
        simp only [Act.put, List.setIfInBounds_toArray, List.set_cons_zero, List.set_cons_succ]
        have hd1 := (ready_dep hi rfl).2 { on := 1, ground := .data } (by simp) (by kernel_rfl)
        obtain rfl := f1 hd1
        have hd2 := (ready_dep hi rfl).2 { on := 2, ground := .data } (by simp) (by kernel_rfl)
        obtain rfl := f2 hd2
        go_simp
        exact hK _ _ ⟨tag, v63, .slice (some ⟨g1, 0, none⟩) k0.length q1, .int .i64 (I : Int), v66, v67, v68, v69, v70, v71, v72, .pointer (some ⟨g1, I * 2, none⟩), v74, by simp [Act.put], hpr, hoff, (by rw [hun 11 (by decide)]; exact r0), (by rw [hun 13 (by decide)]; exact r1), (fun h => f0 (by rwa [hun 0 (by decide)] at h)), (fun h => f1 (by rwa [hun 1 (by decide)] at h)), (fun h => f2 (by rwa [hun 2 (by decide)] at h)), (fun h => f3 (by rwa [hun 3 (by decide)] at h)), (fun h => f4 (by rwa [hun 4 (by decide)] at h)), (fun h => f5 (by rwa [hun 5 (by decide)] at h)), (fun h => f6 (by rwa [hun 6 (by decide)] at h)), (fun h => f8 (by rwa [hun 8 (by decide)] at h)), (fun _ => rfl), (fun h => f12 (by rwa [hun 12 (by decide)] at h)), (fun h => f7 (by rwa [hun 7 (by decide)] at h)), (fun h => f9 (by rwa [hun 9 (by decide)] at h))⟩
      · refine wpOp_step rfl (fun K hK => ?_)
        simp only [Act.put, List.setIfInBounds_toArray, List.set_cons_zero, List.set_cons_succ]
        have hd10 := (ready_dep hi rfl).2 { on := 10, ground := .data } (by simp) (by kernel_rfl)
        obtain rfl := f10 hd10
        have hd7 := (ready_dep hi rfl).2 { on := 7, ground := .data } (by simp) (by kernel_rfl)
        obtain ⟨p7, u7, rfl, kk7⟩ := f7 hd7
        have hgt : tag g1 = 1 := by rw [hoff.2.1 _ hgl1]; exact hgt1
        have hgo : (fun n => n = 1 ∨ n = 2) (tag4 g1) := by first | (rw [hgt1]; decide) | rw [hgt1]
        have hrowr0 : RowP (fun n => n = 1 ∨ n = 4) tag g1 q1 ((w'.setCell ⟨g1, I * 2, none⟩ (.string l1)).setCell ⟨g1, I * 2 + 1, none⟩ (.slice p7 k1.length u7)) (bif (L.setIfInBounds 11 true).getD 11 false then k0.set I (.node l1 k1) else k0) := by
          rw [setD_eq (ready_dep hi rfl).1]
          rw [getD_un (ready_dep hi rfl).1] at r0
          exact r0.set hI hl1 kk7 (by decide) (by rw [hgt]; decide)
        have hgz := r0.frozen; have hgc := r0.get (i := I) (by first | (cases L.getD 11 false <;> cases L.getD 13 false <;> simp <;> omega))
        obtain ⟨⟨z0, hz0⟩, z1, hz1⟩ := hgc
        have y0 := hgz (I * 2); have y1 := hgz (I * 2 + 1)
        go_simp
        exact hK _ _ ⟨tag, v63, v64, v65, v66, v67, v68, v69, .agg #[.string l1, .slice p7 k1.length u7], v71, v72, .pointer (some ⟨g1, I * 2, none⟩), v74, by simp [Act.put], (hpr.setCell hg1 _).setCell hg1 _, hoff.two hgo _ _ _ _, (hrowr0), (by rw [hun 13 (by decide)]; exact r1.two (by rw [hgt]; decide) _ _ _ _), (fun h => f0 (by rwa [hun 0 (by decide)] at h)), (fun h => f1 (by rwa [hun 1 (by decide)] at h)), (fun h => f2 (by rwa [hun 2 (by decide)] at h)), (fun h => f3 (by rwa [hun 3 (by decide)] at h)), (fun h => f4 (by rwa [hun 4 (by decide)] at h)), (fun h => f5 (by rwa [hun 5 (by decide)] at h)), (fun h => f6 (by rwa [hun 6 (by decide)] at h)), (fun h => f8 (by rwa [hun 8 (by decide)] at h)), (fun h => f10 (by rwa [hun 10 (by decide)] at h)), (fun h => f12 (by rwa [hun 12 (by decide)] at h)), (fun h => (f7 (by rwa [hun 7 (by decide)] at h)).step (Steps.two hgt (by decide) _ _ _ _)), (fun h => (f9 (by rwa [hun 9 (by decide)] at h)).step (Steps.two hgt (by decide) _ _ _ _))⟩
      · refine wpOp_step rfl (fun K hK => ?_)
        simp only [Act.put, List.setIfInBounds_toArray, List.set_cons_zero, List.set_cons_succ]
        have hd4 := (ready_dep hi rfl).2 { on := 4, ground := .data } (by simp) (by kernel_rfl)
        obtain rfl := f4 hd4
        have hd5 := (ready_dep hi rfl).2 { on := 5, ground := .data } (by simp) (by kernel_rfl)
        obtain rfl := f5 hd5
        go_simp
        exact hK _ _ ⟨tag, v63, v64, v65, v66, .slice (some ⟨g2, 0, none⟩) k0.length q2, .int .i64 (J : Int), v69, v70, v71, v72, v73, .pointer (some ⟨g2, J * 2, none⟩), by simp [Act.put], hpr, hoff, (by rw [hun 11 (by decide)]; exact r0), (by rw [hun 13 (by decide)]; exact r1), (fun h => f0 (by rwa [hun 0 (by decide)] at h)), (fun h => f1 (by rwa [hun 1 (by decide)] at h)), (fun h => f2 (by rwa [hun 2 (by decide)] at h)), (fun h => f3 (by rwa [hun 3 (by decide)] at h)), (fun h => f4 (by rwa [hun 4 (by decide)] at h)), (fun h => f5 (by rwa [hun 5 (by decide)] at h)), (fun h => f6 (by rwa [hun 6 (by decide)] at h)), (fun h => f8 (by rwa [hun 8 (by decide)] at h)), (fun h => f10 (by rwa [hun 10 (by decide)] at h)), (fun _ => rfl), (fun h => f7 (by rwa [hun 7 (by decide)] at h)), (fun h => f9 (by rwa [hun 9 (by decide)] at h))⟩
      · refine wpOp_step rfl (fun K hK => ?_)
        simp only [Act.put, List.setIfInBounds_toArray, List.set_cons_zero, List.set_cons_succ]
        have hd12 := (ready_dep hi rfl).2 { on := 12, ground := .data } (by simp) (by kernel_rfl)
        obtain rfl := f12 hd12
        have hd9 := (ready_dep hi rfl).2 { on := 9, ground := .data } (by simp) (by kernel_rfl)
        obtain ⟨p9, u9, rfl, kk9⟩ := f9 hd9
        have hgt : tag g2 = 2 := by rw [hoff.2.1 _ hgl2]; exact hgt2
        have hgo : (fun n => n = 1 ∨ n = 2) (tag4 g2) := by first | (rw [hgt2]; decide) | rw [hgt2]
        have hrowr1 : RowP (fun n => n = 2 ∨ n = 5) tag g2 q2 ((w'.setCell ⟨g2, J * 2, none⟩ (.string l2)).setCell ⟨g2, J * 2 + 1, none⟩ (.slice p9 k2.length u9)) (bif (L.setIfInBounds 13 true).getD 13 false then k0.set J (.node l2 k2) else k0) := by
          rw [setD_eq (ready_dep hi rfl).1]
          rw [getD_un (ready_dep hi rfl).1] at r1
          exact r1.set hJ hl2 kk9 (by decide) (by rw [hgt]; decide)
        have hgz := r1.frozen; have hgc := r1.get (i := J) (by first | (cases L.getD 11 false <;> cases L.getD 13 false <;> simp <;> omega))
        obtain ⟨⟨z0, hz0⟩, z1, hz1⟩ := hgc
        have y0 := hgz (J * 2); have y1 := hgz (J * 2 + 1)
        go_simp
        exact hK _ _ ⟨tag, v63, v64, v65, v66, v67, v68, v69, v70, v71, .agg #[.string l2, .slice p9 k2.length u9], v73, .pointer (some ⟨g2, J * 2, none⟩), by simp [Act.put], (hpr.setCell hg2 _).setCell hg2 _, hoff.two hgo _ _ _ _, (by rw [hun 11 (by decide)]; exact r0.two (by rw [hgt]; decide) _ _ _ _), (hrowr1), (fun h => f0 (by rwa [hun 0 (by decide)] at h)), (fun h => f1 (by rwa [hun 1 (by decide)] at h)), (fun h => f2 (by rwa [hun 2 (by decide)] at h)), (fun h => f3 (by rwa [hun 3 (by decide)] at h)), (fun h => f4 (by rwa [hun 4 (by decide)] at h)), (fun h => f5 (by rwa [hun 5 (by decide)] at h)), (fun h => f6 (by rwa [hun 6 (by decide)] at h)), (fun h => f8 (by rwa [hun 8 (by decide)] at h)), (fun h => f10 (by rwa [hun 10 (by decide)] at h)), (fun h => f12 (by rwa [hun 12 (by decide)] at h)), (fun h => (f7 (by rwa [hun 7 (by decide)] at h)).step (Steps.two hgt (by decide) _ _ _ _)), (fun h => (f9 (by rwa [hun 9 (by decide)] at h)).step (Steps.two hgt (by decide) _ _ _ _))⟩
    · intro L a' w' hall hI'
      obtain ⟨tag, v63, v64, v65, v66, v67, v68, v69, v70, v71, v72, v73, v74, rfl, hpr, hoff, r0, r1, f0, f1, f2, f3, f4, f5, f6, f8, f10, f12, f7, f9⟩ := hI'
      rw [hall 11 (by decide)] at r0
      rw [hall 13 (by decide)] at r1
      simp only [Act.put, List.setIfInBounds_toArray, List.set_cons_zero, List.set_cons_succ]
      have hR := Lib.hid (show _ ∧ _ ∧ _ ∧ _ from ⟨hoff, r0, r1, hpr⟩)
      clear r0 r1 f0 f1 f2 f3 f4 f5 f6 f8 f10 f12 f7 f9 hall hoff hpr
      go_wp2_with fail
      go_meet
      case rel => exact ⟨tag, hR.out⟩
--END R10
  case rest =>
  obtain ⟨tag5, ho5, KA5, KB5, h35⟩ := hcut
  obtain ⟨w5, hw5⟩ : ∃ w5, w5 = wc := ⟨_, rfl⟩
  subst hw5
  have hb1l := blk_lt HB1.out; have hb2l := blk_lt HB2.out; have hb3l := blk_lt HB3.out
  have HB1 := Lib.hid (ho5.blk HB1.out (by rw [hT1t]; decide)); have HB2 := Lib.hid (ho5.blk HB2.out (by rw [hT2t]; decide)); have HB3 := Lib.hid (ho5.blk HB3.out (by rw [hT3t]; decide))
  have hT1t : tag5 T1 = 11 := (ho5.2.1 _ hb1l).trans hT1t; have hT2t : tag5 T2 = 12 := (ho5.2.1 _ hb2l).trans hT2t; have hT3t : tag5 T3 = 13 := (ho5.2.1 _ hb3l).trans hT3t
  have hgt3c : tag5 g3 = 3 := (ho5.2.1 _ hgl3).trans hgt3
  have hgl3 : g3 < w5.heap.size := Nat.lt_of_lt_of_le hgl3 ho5.1
  have KC5 : Hid (RowP (fun n => n = 3 ∨ n = 6 ∨ n = 7) tag5 g3 q3 w5 k0) := Lib.hid (ho5.row KC.out (by intro n h; show ¬ (n = 1 ∨ n = 2); omega))
  have KA5 := Lib.hid KA5; have KB5 := Lib.hid KB5; have H35 := Lib.hid h35
  clear ho5 h35 KA KB KC
  go_upto_region 11 with fail
  go_cut [75] from 75 to 86 (fun _ wx => ∃ tag, Off (fun n => n = 3) tag5 w5 tag wx ∧ RowP (fun n => n = 3 ∨ n = 6 ∨ n = 7) tag g3 q3 wx ((k0.set I (.node l1 k1)).set J (.node l2 k2)) ∧ Pr w3 wx)
  case first =>
--BEGIN R11
    refine wp_region_invA (by kernel_rfl) (by kernel_rfl) (fun a0 L a' w' => ∃ (tag : Nat → Nat) (v75 : Value) (v76 : Value) (v77 : Value) (v78 : Value) (v79 : Value) (v80 : Value) (v81 : Value) (v82 : Value) (v83 : Value) (v84 : Value) (v85 : Value) (v86 : Value), a' = ((((((((((((a0.put (some 75) v75).put (some 76) v76).put (some 77) v77).put (some 78) v78).put (some 79) v79).put (some 80) v80).put (some 81) v81).put (some 82) v82).put (some 83) v83).put (some 84) v84).put (some 85) v85).put (some 86) v86) ∧ Pr w3 w' ∧ Off (fun n => n = 3) tag5 w5 tag w' ∧
      (RowP (fun n => n = 3 ∨ n = 6 ∨ n = 7) tag g3 q3 w' (bif L.getD 13 false then (bif L.getD 11 false then k0.set I (.node l1 k1) else k0).set J (.node l2 k2) else (bif L.getD 11 false then k0.set I (.node l1 k1) else k0))) ∧
      (L.getD 0 false = true → v75 = .pointer (some ⟨T3, 1, none⟩)) ∧
      (L.getD 1 false = true → v76 = .slice (some ⟨g3, 0, none⟩) k0.length q3) ∧
      (L.getD 2 false = true → v77 = .int .i64 (I : Int)) ∧
      (L.getD 3 false = true → v78 = .pointer (some ⟨T3, 1, none⟩)) ∧
      (L.getD 4 false = true → v79 = .slice (some ⟨g3, 0, none⟩) k0.length q3) ∧
      (L.getD 5 false = true → v80 = .int .i64 (J : Int)) ∧
      (L.getD 6 false = true → v81 = .agg #[.string l1, .slice o1 k1.length c1]) ∧
      (L.getD 8 false = true → v83 = .agg #[.string l2, .slice o2 k2.length c2]) ∧
      (L.getD 10 false = true → v85 = .pointer (some ⟨g3, I * 2, none⟩)) ∧
      (L.getD 12 false = true → v86 = .pointer (some ⟨g3, J * 2, none⟩)) ∧
      (L.getD 7 false = true → OwnX l1 k1 6 v82 tag w') ∧
      (L.getD 9 false = true → OwnX l2 k2 7 v84 tag w')) ?_ ?_ ?_
    · exact ⟨tag5, undef, undef, undef, undef, undef, undef, undef, undef, undef, undef, undef, undef, by simp [Act.put], H35.out.drew', Off.drew _ _ _, RowT.carry KC5.out fun k hk _ => ⟨rfl, hk⟩, rep_no, rep_no, rep_no, rep_no, rep_no, rep_no, rep_no, rep_no, rep_no, rep_no, rep_no, rep_no⟩
    · intro i L a' w' hI' hi
      obtain ⟨tag, v75, v76, v77, v78, v79, v80, v81, v82, v83, v84, v85, v86, rfl, hpr, hoff, r0, f0, f1, f2, f3, f4, f5, f6, f8, f10, f12, f7, f9⟩ := hI'
      have h14 : i < 14 := by have := (List.mem_filter.1 hi).1; simpa using this
      have hun : ∀ j, j ≠ i → (L.setIfInBounds i true).getD j false = L.getD j false := fun j hj => setD_ne hj
      rcases (show i = 0 ∨ i = 1 ∨ i = 2 ∨ i = 3 ∨ i = 4 ∨ i = 5 ∨ i = 6 ∨ i = 7 ∨ i = 8 ∨ i = 9 ∨ i = 10 ∨ i = 11 ∨ i = 12 ∨ i = 13 by omega) with rfl | rfl | rfl | rfl | rfl | rfl | rfl | rfl | rfl | rfl | rfl | rfl | rfl | rfl
      · refine wpOp_step rfl (fun K hK => ?_)
        simp only [Act.put, List.setIfInBounds_toArray, List.set_cons_zero, List.set_cons_succ]
        go_simp
        exact hK _ _ ⟨tag, .pointer (some ⟨T3, 1, none⟩), v76, v77, v78, v79, v80, v81, v82, v83, v84, v85, v86, by simp [Act.put], hpr, hoff, (by rw [hun 11 (by decide), hun 13 (by decide)]; exact r0), (fun _ => rfl), (fun h => f1 (by rwa [hun 1 (by decide)] at h)), (fun h => f2 (by rwa [hun 2 (by decide)] at h)), (fun h => f3 (by rwa [hun 3 (by decide)] at h)), (fun h => f4 (by rwa [hun 4 (by decide)] at h)), (fun h => f5 (by rwa [hun 5 (by decide)] at h)), (fun h => f6 (by rwa [hun 6 (by decide)] at h)), (fun h => f8 (by rwa [hun 8 (by decide)] at h)), (fun h => f10 (by rwa [hun 10 (by decide)] at h)), (fun h => f12 (by rwa [hun 12 (by decide)] at h)), (fun h => f7 (by rwa [hun 7 (by decide)] at h)), (fun h => f9 (by rwa [hun 9 (by decide)] at h))⟩
      · refine wpOp_step rfl (fun K hK => ?_)
        simp only [Act.put, List.setIfInBounds_toArray, List.set_cons_zero, List.set_cons_succ]
        have hd0 := (ready_dep hi rfl).2 { on := 0, ground := .data } (by simp) (by kernel_rfl)
        obtain rfl := f0 hd0
        have x0 : w'.cell? ⟨T3, 1, none⟩ = some (.slice (some ⟨g3, 0, none⟩) k0.length q3) := blk_cell (hoff.blk HB3.out (by rw [hT3t]; decide))
        go_simp
        exact hK _ _ ⟨tag, .pointer (some ⟨T3, 1, none⟩), .slice (some ⟨g3, 0, none⟩) k0.length q3, v77, v78, v79, v80, v81, v82, v83, v84, v85, v86, by simp [Act.put], hpr, hoff, (by rw [hun 11 (by decide), hun 13 (by decide)]; exact r0), (fun h => f0 (by rwa [hun 0 (by decide)] at h)), (fun _ => rfl), (fun h => f2 (by rwa [hun 2 (by decide)] at h)), (fun h => f3 (by rwa [hun 3 (by decide)] at h)), (fun h => f4 (by rwa [hun 4 (by decide)] at h)), (fun h => f5 (by rwa [hun 5 (by decide)] at h)), (fun h => f6 (by rwa [hun 6 (by decide)] at h)), (fun h => f8 (by rwa [hun 8 (by decide)] at h)), (fun h => f10 (by rwa [hun 10 (by decide)] at h)), (fun h => f12 (by rwa [hun 12 (by decide)] at h)), (fun h => f7 (by rwa [hun 7 (by decide)] at h)), (fun h => f9 (by rwa [hun 9 (by decide)] at h))⟩
      · refine wpOp_step rfl (fun K hK => ?_)
        simp only [Act.put, List.setIfInBounds_toArray, List.set_cons_zero, List.set_cons_succ]
        go_simp
        exact hK _ _ ⟨tag, v75, v76, .int .i64 (I : Int), v78, v79, v80, v81, v82, v83, v84, v85, v86, by simp [Act.put], hpr, hoff, (by rw [hun 11 (by decide), hun 13 (by decide)]; exact r0), (fun h => f0 (by rwa [hun 0 (by decide)] at h)), (fun h => f1 (by rwa [hun 1 (by decide)] at h)), (fun _ => rfl), (fun h => f3 (by rwa [hun 3 (by decide)] at h)), (fun h => f4 (by rwa [hun 4 (by decide)] at h)), (fun h => f5 (by rwa [hun 5 (by decide)] at h)), (fun h => f6 (by rwa [hun 6 (by decide)] at h)), (fun h => f8 (by rwa [hun 8 (by decide)] at h)), (fun h => f10 (by rwa [hun 10 (by decide)] at h)), (fun h => f12 (by rwa [hun 12 (by decide)] at h)), (fun h => f7 (by rwa [hun 7 (by decide)] at h)), (fun h => f9 (by rwa [hun 9 (by decide)] at h))⟩
      · refine wpOp_step rfl (fun K hK => ?_)
        simp only [Act.put, List.setIfInBounds_toArray, List.set_cons_zero, List.set_cons_succ]
        go_simp
        exact hK _ _ ⟨tag, v75, v76, v77, .pointer (some ⟨T3, 1, none⟩), v79, v80, v81, v82, v83, v84, v85, v86, by simp [Act.put], hpr, hoff, (by rw [hun 11 (by decide), hun 13 (by decide)]; exact r0), (fun h => f0 (by rwa [hun 0 (by decide)] at h)), (fun h => f1 (by rwa [hun 1 (by decide)] at h)), (fun h => f2 (by rwa [hun 2 (by decide)] at h)), (fun _ => rfl), (fun h => f4 (by rwa [hun 4 (by decide)] at h)), (fun h => f5 (by rwa [hun 5 (by decide)] at h)), (fun h => f6 (by rwa [hun 6 (by decide)] at h)), (fun h => f8 (by rwa [hun 8 (by decide)] at h)), (fun h => f10 (by rwa [hun 10 (by decide)] at h)), (fun h => f12 (by rwa [hun 12 (by decide)] at h)), (fun h => f7 (by rwa [hun 7 (by decide)] at h)), (fun h => f9 (by rwa [hun 9 (by decide)] at h))⟩
      · refine wpOp_step rfl (fun K hK => ?_)
        simp only [Act.put, List.setIfInBounds_toArray, List.set_cons_zero, List.set_cons_succ]
        have hd3 := (ready_dep hi rfl).2 { on := 3, ground := .data } (by simp) (by kernel_rfl)
        obtain rfl := f3 hd3
        have x0 : w'.cell? ⟨T3, 1, none⟩ = some (.slice (some ⟨g3, 0, none⟩) k0.length q3) := blk_cell (hoff.blk HB3.out (by rw [hT3t]; decide))
        go_simp
        exact hK _ _ ⟨tag, v75, v76, v77, .pointer (some ⟨T3, 1, none⟩), .slice (some ⟨g3, 0, none⟩) k0.length q3, v80, v81, v82, v83, v84, v85, v86, by simp [Act.put], hpr, hoff, (by rw [hun 11 (by decide), hun 13 (by decide)]; exact r0), (fun h => f0 (by rwa [hun 0 (by decide)] at h)), (fun h => f1 (by rwa [hun 1 (by decide)] at h)), (fun h => f2 (by rwa [hun 2 (by decide)] at h)), (fun h => f3 (by rwa [hun 3 (by decide)] at h)), (fun _ => rfl), (fun h => f5 (by rwa [hun 5 (by decide)] at h)), (fun h => f6 (by rwa [hun 6 (by decide)] at h)), (fun h => f8 (by rwa [hun 8 (by decide)] at h)), (fun h => f10 (by rwa [hun 10 (by decide)] at h)), (fun h => f12 (by rwa [hun 12 (by decide)] at h)), (fun h => f7 (by rwa [hun 7 (by decide)] at h)), (fun h => f9 (by rwa [hun 9 (by decide)] at h))⟩
      · refine wpOp_step rfl (fun K hK => ?_)
        simp only [Act.put, List.setIfInBounds_toArray, List.set_cons_zero, List.set_cons_succ]
        go_simp
        exact hK _ _ ⟨tag, v75, v76, v77, v78, v79, .int .i64 (J : Int), v81, v82, v83, v84, v85, v86, by simp [Act.put], hpr, hoff, (by rw [hun 11 (by decide), hun 13 (by decide)]; exact r0), (fun h => f0 (by rwa [hun 0 (by decide)] at h)), (fun h => f1 (by rwa [hun 1 (by decide)] at h)), (fun h => f2 (by rwa [hun 2 (by decide)] at h)), (fun h => f3 (by rwa [hun 3 (by decide)] at h)), (fun h => f4 (by rwa [hun 4 (by decide)] at h)), (fun _ => rfl), (fun h => f6 (by rwa [hun 6 (by decide)] at h)), (fun h => f8 (by rwa [hun 8 (by decide)] at h)), (fun h => f10 (by rwa [hun 10 (by decide)] at h)), (fun h => f12 (by rwa [hun 12 (by decide)] at h)), (fun h => f7 (by rwa [hun 7 (by decide)] at h)), (fun h => f9 (by rwa [hun 9 (by decide)] at h))⟩
      · refine wpOp_step rfl (fun K hK => ?_)
        simp only [Act.put, List.setIfInBounds_toArray, List.set_cons_zero, List.set_cons_succ]
        have x0 := X2 _ hpr; have x1 := X3 _ hpr
        go_simp
        exact hK _ _ ⟨tag, v75, v76, v77, v78, v79, v80, .agg #[.string l1, .slice o1 k1.length c1], v82, v83, v84, v85, v86, by simp [Act.put], hpr, hoff, (by rw [hun 11 (by decide), hun 13 (by decide)]; exact r0), (fun h => f0 (by rwa [hun 0 (by decide)] at h)), (fun h => f1 (by rwa [hun 1 (by decide)] at h)), (fun h => f2 (by rwa [hun 2 (by decide)] at h)), (fun h => f3 (by rwa [hun 3 (by decide)] at h)), (fun h => f4 (by rwa [hun 4 (by decide)] at h)), (fun h => f5 (by rwa [hun 5 (by decide)] at h)), (fun _ => rfl), (fun h => f8 (by rwa [hun 8 (by decide)] at h)), (fun h => f10 (by rwa [hun 10 (by decide)] at h)), (fun h => f12 (by rwa [hun 12 (by decide)] at h)), (fun h => f7 (by rwa [hun 7 (by decide)] at h)), (fun h => f9 (by rwa [hun 9 (by decide)] at h))⟩
      · refine wpOp_step rfl (fun K hK => ?_)
        simp only [Act.put, List.setIfInBounds_toArray, List.set_cons_zero, List.set_cons_succ]
        have hd6 := (ready_dep hi rfl).2 { on := 6, ground := .data } (by simp) (by kernel_rfl)
        obtain rfl := f6 hd6
        go_simp
        go_at_call 16
        refine (O1.out _ hpr).mono ?_
        rintro e wn ⟨p5, q5, rfl, hown, hb⟩
        exact hK _ _ ⟨newTag tag w'.heap.size 6, v75, v76, v77, v78, v79, v80, .agg #[.string l1, .slice o1 k1.length c1], .agg #[.string l1, .slice p5 k1.length q5], v83, v84, v85, v86, by simp [Act.put], hpr.trans hb, hoff.pr hb _, (by rw [hun 11 (by decide), hun 13 (by decide)]; exact r0.pr hb _), (fun h => f0 (by rwa [hun 0 (by decide)] at h)), (fun h => f1 (by rwa [hun 1 (by decide)] at h)), (fun h => f2 (by rwa [hun 2 (by decide)] at h)), (fun h => f3 (by rwa [hun 3 (by decide)] at h)), (fun h => f4 (by rwa [hun 4 (by decide)] at h)), (fun h => f5 (by rwa [hun 5 (by decide)] at h)), (fun h => f6 (by rwa [hun 6 (by decide)] at h)), (fun h => f8 (by rwa [hun 8 (by decide)] at h)), (fun h => f10 (by rwa [hun 10 (by decide)] at h)), (fun h => f12 (by rwa [hun 12 (by decide)] at h)), (fun _ => OwnX.own hown), (fun h => (f9 (by rwa [hun 9 (by decide)] at h)).step (Steps.pr hb 6))⟩
      · refine wpOp_step rfl (fun K hK => ?_)
        simp only [Act.put, List.setIfInBounds_toArray, List.set_cons_zero, List.set_cons_succ]
        have x0 := X4 _ hpr; have x1 := X5 _ hpr
        go_simp
        exact hK _ _ ⟨tag, v75, v76, v77, v78, v79, v80, v81, v82, .agg #[.string l2, .slice o2 k2.length c2], v84, v85, v86, by simp [Act.put], hpr, hoff, (by rw [hun 11 (by decide), hun 13 (by decide)]; exact r0), (fun h => f0 (by rwa [hun 0 (by decide)] at h)), (fun h => f1 (by rwa [hun 1 (by decide)] at h)), (fun h => f2 (by rwa [hun 2 (by decide)] at h)), (fun h => f3 (by rwa [hun 3 (by decide)] at h)), (fun h => f4 (by rwa [hun 4 (by decide)] at h)), (fun h => f5 (by rwa [hun 5 (by decide)] at h)), (fun h => f6 (by rwa [hun 6 (by decide)] at h)), (fun _ => rfl), (fun h => f10 (by rwa [hun 10 (by decide)] at h)), (fun h => f12 (by rwa [hun 12 (by decide)] at h)), (fun h => f7 (by rwa [hun 7 (by decide)] at h)), (fun h => f9 (by rwa [hun 9 (by decide)] at h))⟩
      · refine wpOp_step rfl (fun K hK => ?_)
        simp only [Act.put, List.setIfInBounds_toArray, List.set_cons_zero, List.set_cons_succ]
        have hd8 := (ready_dep hi rfl).2 { on := 8, ground := .data } (by simp) (by kernel_rfl)
        obtain rfl := f8 hd8
        go_simp
        go_at_call 16
        refine (O2.out _ hpr).mono ?_
        rintro e wn ⟨p5, q5, rfl, hown, hb⟩
        exact hK _ _ ⟨newTag tag w'.heap.size 7, v75, v76, v77, v78, v79, v80, v81, v82, .agg #[.string l2, .slice o2 k2.length c2], .agg #[.string l2, .slice p5 k2.length q5], v85, v86, by simp [Act.put], hpr.trans hb, hoff.pr hb _, (by rw [hun 11 (by decide), hun 13 (by decide)]; exact r0.pr hb _), (fun h => f0 (by rwa [hun 0 (by decide)] at h)), (fun h => f1 (by rwa [hun 1 (by decide)] at h)), (fun h => f2 (by rwa [hun 2 (by decide)] at h)), (fun h => f3 (by rwa [hun 3 (by decide)] at h)), (fun h => f4 (by rwa [hun 4 (by decide)] at h)), (fun h => f5 (by rwa [hun 5 (by decide)] at h)), (fun h => f6 (by rwa [hun 6 (by decide)] at h)), (fun h => f8 (by rwa [hun 8 (by decide)] at h)), (fun h => f10 (by rwa [hun 10 (by decide)] at h)), (fun h => f12 (by rwa [hun 12 (by decide)] at h)), (fun h => (f7 (by rwa [hun 7 (by decide)] at h)).step (Steps.pr hb 7)), (fun _ => OwnX.own hown)⟩
      · refine wpOp_step rfl (fun K hK => ?_)
        simp only [Act.put, List.setIfInBounds_toArray, List.set_cons_zero, List.set_cons_succ]
        have hd1 := (ready_dep hi rfl).2 { on := 1, ground := .data } (by simp) (by kernel_rfl)
        obtain rfl := f1 hd1
        have hd2 := (ready_dep hi rfl).2 { on := 2, ground := .data } (by simp) (by kernel_rfl)
        obtain rfl := f2 hd2
        go_simp
        exact hK _ _ ⟨tag, v75, .slice (some ⟨g3, 0, none⟩) k0.length q3, .int .i64 (I : Int), v78, v79, v80, v81, v82, v83, v84, .pointer (some ⟨g3, I * 2, none⟩), v86, by simp [Act.put], hpr, hoff, (by rw [hun 11 (by decide), hun 13 (by decide)]; exact r0), (fun h => f0 (by rwa [hun 0 (by decide)] at h)), (fun h => f1 (by rwa [hun 1 (by decide)] at h)), (fun h => f2 (by rwa [hun 2 (by decide)] at h)), (fun h => f3 (by rwa [hun 3 (by decide)] at h)), (fun h => f4 (by rwa [hun 4 (by decide)] at h)), (fun h => f5 (by rwa [hun 5 (by decide)] at h)), (fun h => f6 (by rwa [hun 6 (by decide)] at h)), (fun h => f8 (by rwa [hun 8 (by decide)] at h)), (fun _ => rfl), (fun h => f12 (by rwa [hun 12 (by decide)] at h)), (fun h => f7 (by rwa [hun 7 (by decide)] at h)), (fun h => f9 (by rwa [hun 9 (by decide)] at h))⟩
      · refine wpOp_step rfl (fun K hK => ?_)
        simp only [Act.put, List.setIfInBounds_toArray, List.set_cons_zero, List.set_cons_succ]
        have hd10 := (ready_dep hi rfl).2 { on := 10, ground := .data } (by simp) (by kernel_rfl)
        obtain rfl := f10 hd10
        have hd7 := (ready_dep hi rfl).2 { on := 7, ground := .data } (by simp) (by kernel_rfl)
        obtain ⟨p7, u7, rfl, kk7⟩ := f7 hd7
        have hgt : tag g3 = 3 := by rw [hoff.2.1 _ hgl3]; exact hgt3c
        have hgo : (fun n => n = 3) (tag5 g3) := by first | (rw [hgt3c]; decide) | rw [hgt3c]
        have hrowr0 : RowP (fun n => n = 3 ∨ n = 6 ∨ n = 7) tag g3 q3 ((w'.setCell ⟨g3, I * 2, none⟩ (.string l1)).setCell ⟨g3, I * 2 + 1, none⟩ (.slice p7 k1.length u7)) (bif (L.setIfInBounds 11 true).getD 13 false then (bif (L.setIfInBounds 11 true).getD 11 false then k0.set I (.node l1 k1) else k0).set J (.node l2 k2) else (bif (L.setIfInBounds 11 true).getD 11 false then k0.set I (.node l1 k1) else k0)) := by
          rw [setD_eq (ready_dep hi rfl).1, hun 13 (by decide)]
          rw [getD_un (ready_dep hi rfl).1] at r0
          generalize L.getD 13 false = bb at r0 ⊢
          have hs := r0.set (i := I) (by cases bb <;> simpa using hI) hl1 kk7 (by decide) (by rw [hgt]; decide)
          cases bb
          · exact hs
          · simp only [cond_true, cond_false] at hs ⊢; rw [List.set_comm _ _ hij]; exact hs
        have hgz := r0.frozen; have hgc := r0.get (i := I) (by first | (cases L.getD 11 false <;> cases L.getD 13 false <;> simp <;> omega))
        obtain ⟨⟨z0, hz0⟩, z1, hz1⟩ := hgc
        have y0 := hgz (I * 2); have y1 := hgz (I * 2 + 1)
        go_simp
        exact hK _ _ ⟨tag, v75, v76, v77, v78, v79, v80, v81, .agg #[.string l1, .slice p7 k1.length u7], v83, v84, .pointer (some ⟨g3, I * 2, none⟩), v86, by simp [Act.put], (hpr.setCell hg3 _).setCell hg3 _, hoff.two hgo _ _ _ _, (hrowr0), (fun h => f0 (by rwa [hun 0 (by decide)] at h)), (fun h => f1 (by rwa [hun 1 (by decide)] at h)), (fun h => f2 (by rwa [hun 2 (by decide)] at h)), (fun h => f3 (by rwa [hun 3 (by decide)] at h)), (fun h => f4 (by rwa [hun 4 (by decide)] at h)), (fun h => f5 (by rwa [hun 5 (by decide)] at h)), (fun h => f6 (by rwa [hun 6 (by decide)] at h)), (fun h => f8 (by rwa [hun 8 (by decide)] at h)), (fun h => f10 (by rwa [hun 10 (by decide)] at h)), (fun h => f12 (by rwa [hun 12 (by decide)] at h)), (fun h => (f7 (by rwa [hun 7 (by decide)] at h)).step (Steps.two hgt (by decide) _ _ _ _)), (fun h => (f9 (by rwa [hun 9 (by decide)] at h)).step (Steps.two hgt (by decide) _ _ _ _))⟩
      · refine wpOp_step rfl (fun K hK => ?_)
        simp only [Act.put, List.setIfInBounds_toArray, List.set_cons_zero, List.set_cons_succ]
        have hd4 := (ready_dep hi rfl).2 { on := 4, ground := .data } (by simp) (by kernel_rfl)
        obtain rfl := f4 hd4
        have hd5 := (ready_dep hi rfl).2 { on := 5, ground := .data } (by simp) (by kernel_rfl)
        obtain rfl := f5 hd5
        go_simp
        exact hK _ _ ⟨tag, v75, v76, v77, v78, .slice (some ⟨g3, 0, none⟩) k0.length q3, .int .i64 (J : Int), v81, v82, v83, v84, v85, .pointer (some ⟨g3, J * 2, none⟩), by simp [Act.put], hpr, hoff, (by rw [hun 11 (by decide), hun 13 (by decide)]; exact r0), (fun h => f0 (by rwa [hun 0 (by decide)] at h)), (fun h => f1 (by rwa [hun 1 (by decide)] at h)), (fun h => f2 (by rwa [hun 2 (by decide)] at h)), (fun h => f3 (by rwa [hun 3 (by decide)] at h)), (fun h => f4 (by rwa [hun 4 (by decide)] at h)), (fun h => f5 (by rwa [hun 5 (by decide)] at h)), (fun h => f6 (by rwa [hun 6 (by decide)] at h)), (fun h => f8 (by rwa [hun 8 (by decide)] at h)), (fun h => f10 (by rwa [hun 10 (by decide)] at h)), (fun _ => rfl), (fun h => f7 (by rwa [hun 7 (by decide)] at h)), (fun h => f9 (by rwa [hun 9 (by decide)] at h))⟩
      · refine wpOp_step rfl (fun K hK => ?_)
        simp only [Act.put, List.setIfInBounds_toArray, List.set_cons_zero, List.set_cons_succ]
        have hd12 := (ready_dep hi rfl).2 { on := 12, ground := .data } (by simp) (by kernel_rfl)
        obtain rfl := f12 hd12
        have hd9 := (ready_dep hi rfl).2 { on := 9, ground := .data } (by simp) (by kernel_rfl)
        obtain ⟨p9, u9, rfl, kk9⟩ := f9 hd9
        have hgt : tag g3 = 3 := by rw [hoff.2.1 _ hgl3]; exact hgt3c
        have hgo : (fun n => n = 3) (tag5 g3) := by first | (rw [hgt3c]; decide) | rw [hgt3c]
        have hrowr0 : RowP (fun n => n = 3 ∨ n = 6 ∨ n = 7) tag g3 q3 ((w'.setCell ⟨g3, J * 2, none⟩ (.string l2)).setCell ⟨g3, J * 2 + 1, none⟩ (.slice p9 k2.length u9)) (bif (L.setIfInBounds 13 true).getD 13 false then (bif (L.setIfInBounds 13 true).getD 11 false then k0.set I (.node l1 k1) else k0).set J (.node l2 k2) else (bif (L.setIfInBounds 13 true).getD 11 false then k0.set I (.node l1 k1) else k0)) := by
          rw [setD_eq (ready_dep hi rfl).1, hun 11 (by decide)]
          rw [getD_un (ready_dep hi rfl).1] at r0
          generalize L.getD 11 false = bb at r0 ⊢
          have hs := r0.set (i := J) (by cases bb <;> simpa using hJ) hl2 kk9 (by decide) (by rw [hgt]; decide)
          cases bb
          · exact hs
          · exact hs
        have hgz := r0.frozen; have hgc := r0.get (i := J) (by first | (cases L.getD 11 false <;> cases L.getD 13 false <;> simp <;> omega))
        obtain ⟨⟨z0, hz0⟩, z1, hz1⟩ := hgc
        have y0 := hgz (J * 2); have y1 := hgz (J * 2 + 1)
        go_simp
        exact hK _ _ ⟨tag, v75, v76, v77, v78, v79, v80, v81, v82, v83, .agg #[.string l2, .slice p9 k2.length u9], v85, .pointer (some ⟨g3, J * 2, none⟩), by simp [Act.put], (hpr.setCell hg3 _).setCell hg3 _, hoff.two hgo _ _ _ _, (hrowr0), (fun h => f0 (by rwa [hun 0 (by decide)] at h)), (fun h => f1 (by rwa [hun 1 (by decide)] at h)), (fun h => f2 (by rwa [hun 2 (by decide)] at h)), (fun h => f3 (by rwa [hun 3 (by decide)] at h)), (fun h => f4 (by rwa [hun 4 (by decide)] at h)), (fun h => f5 (by rwa [hun 5 (by decide)] at h)), (fun h => f6 (by rwa [hun 6 (by decide)] at h)), (fun h => f8 (by rwa [hun 8 (by decide)] at h)), (fun h => f10 (by rwa [hun 10 (by decide)] at h)), (fun h => f12 (by rwa [hun 12 (by decide)] at h)), (fun h => (f7 (by rwa [hun 7 (by decide)] at h)).step (Steps.two hgt (by decide) _ _ _ _)), (fun h => (f9 (by rwa [hun 9 (by decide)] at h)).step (Steps.two hgt (by decide) _ _ _ _))⟩
    · intro L a' w' hall hI'
      obtain ⟨tag, v75, v76, v77, v78, v79, v80, v81, v82, v83, v84, v85, v86, rfl, hpr, hoff, r0, f0, f1, f2, f3, f4, f5, f6, f8, f10, f12, f7, f9⟩ := hI'
      rw [hall 11 (by decide)] at r0
      rw [hall 13 (by decide)] at r0
      simp only [Act.put, List.setIfInBounds_toArray, List.set_cons_zero, List.set_cons_succ]
      have hR := Lib.hid (show _ ∧ _ ∧ _ from ⟨hoff, r0, hpr⟩)
      clear r0 f0 f1 f2 f3 f4 f5 f6 f8 f10 f12 f7 f9 hall hoff hpr
      go_wp2_with fail
      go_meet
      case rel => exact ⟨tag, hR.out⟩
--END R11
  case rest =>
  obtain ⟨tag6, ho6, KC6, h36⟩ := hcut
  obtain ⟨w6, hw6⟩ : ∃ w6, w6 = wc := ⟨_, rfl⟩
  subst hw6
  have B1 := ho6.blk HB1.out (by rw [hT1t]; decide); have B2 := ho6.blk HB2.out (by rw [hT2t]; decide); have B3 := ho6.blk HB3.out (by rw [hT3t]; decide)
  obtain ⟨ka, hka⟩ : ∃ x, x = k0.set I (.node l1 k1) := ⟨_, rfl⟩
  obtain ⟨kb, hkb⟩ : ∃ x, x = k0.set J (.node l2 k2) := ⟨_, rfl⟩
  obtain ⟨kc, hkc⟩ : ∃ x, x = (k0.set I (.node l1 k1)).set J (.node l2 k2) := ⟨_, rfl⟩
  have hla : ka.length = k0.length := by rw [hka, List.length_set]
  have hlb : kb.length = k0.length := by rw [hkb, List.length_set]
  have hlc : kc.length = k0.length := by rw [hkc, List.length_set, List.length_set]
  have LA : Hid (Kids Any w6 ka (some ⟨g1, 0, none⟩) q1) := Lib.hid (by rw [hka]; exact (RowT.kids (ho6.row KA5.out (by intro n h; show ¬ n = 3; omega))).any)
  have LB : Hid (Kids Any w6 kb (some ⟨g2, 0, none⟩) q2) := Lib.hid (by rw [hkb]; exact (RowT.kids (ho6.row KB5.out (by intro n h; show ¬ n = 3; omega))).any)
  have LC : Hid (Kids Any w6 kc (some ⟨g3, 0, none⟩) q3) := Lib.hid (by rw [hkc]; exact (RowT.kids KC6).any)
  have y10 := stays (show w6.cell? ⟨T1, 0, none⟩ = some (.string l0) from by rw [blk_cell (o := 0) B1]; rfl)
  have y11 := stays (show w6.cell? ⟨T1, 1, none⟩ = some (.slice (some ⟨g1, 0, none⟩) k0.length q1) from by rw [blk_cell (o := 1) B1]; rfl)
  have y20 := stays (show w6.cell? ⟨T2, 0, none⟩ = some (.string l0) from by rw [blk_cell (o := 0) B2]; rfl)
  have y21 := stays (show w6.cell? ⟨T2, 1, none⟩ = some (.slice (some ⟨g2, 0, none⟩) k0.length q2) from by rw [blk_cell (o := 1) B2]; rfl)
  have y30 := stays (show w6.cell? ⟨T3, 0, none⟩ = some (.string l0) from by rw [blk_cell (o := 0) B3]; rfl)
  have y31 := stays (show w6.cell? ⟨T3, 1, none⟩ = some (.slice (some ⟨g3, 0, none⟩) k0.length q3) from by rw [blk_cell (o := 1) B3]; rfl)
  have X0 := stays (X0 _ h36); have X1 := stays (X1 _ h36); have X2 := stays (X2 _ h36); have X3 := stays (X3 _ h36); have X4 := stays (X4 _ h36); have X5 := stays (X5 _ h36)
  have H06 := Lib.hid (Hp.out.trans h36)
  obtain ⟨fo, hfo⟩ : ∃ x, x = fault (.node l0 k0) := ⟨_, rfl⟩
  obtain ⟨fa, hfa⟩ : ∃ x, x = fault (.node l0 ka) := ⟨_, rfl⟩
  obtain ⟨fb, hfb⟩ : ∃ x, x = fault (.node l0 kb) := ⟨_, rfl⟩
  obtain ⟨fc, hfc⟩ : ∃ x, x = fault (.node l0 kc) := ⟨_, rfl⟩
  have F0 := Lib.hid fun W' (h : Pr w6 W') => (by rw [hfo]; exact treeFault_any l0 k0 _ _ _ hl0 (HK0.out.pr (H06.out.trans h)) : Calls Try.prog 18 #[.agg #[.string l0, .slice o0 k0.length c0]] W' fun e w' => e = .returned (.int .i64 fo) ∧ Pr W' w')
  have F1 := Lib.hid fun W' (h : Pr w6 W') => (by rw [hfa, ← hla]; exact treeFault_any l0 ka _ _ _ hl0 (LA.out.pr h) : Calls Try.prog 18 #[.agg #[.string l0, .slice (some ⟨g1, 0, none⟩) k0.length q1]] W' fun e w' => e = .returned (.int .i64 fa) ∧ Pr W' w')
  have F2 := Lib.hid fun W' (h : Pr w6 W') => (by rw [hfb, ← hlb]; exact treeFault_any l0 kb _ _ _ hl0 (LB.out.pr h) : Calls Try.prog 18 #[.agg #[.string l0, .slice (some ⟨g2, 0, none⟩) k0.length q2]] W' fun e w' => e = .returned (.int .i64 fb) ∧ Pr W' w')
  have F3 := Lib.hid fun W' (h : Pr w6 W') => (by rw [hfc, ← hlc]; exact treeFault_any l0 kc _ _ _ hl0 (LC.out.pr h) : Calls Try.prog 18 #[.agg #[.string l0, .slice (some ⟨g3, 0, none⟩) k0.length q3]] W' fun e w' => e = .returned (.int .i64 fc) ∧ Pr W' w')
  have Hla := Lib.hid hla; have Hlb := Lib.hid hlb; have Hlc := Lib.hid hlc
  have Hka := Lib.hid hka; have Hkb := Lib.hid hkb; have Hkc := Lib.hid hkc
  have Hfo := Lib.hid hfo; have Hfa := Lib.hid hfa; have Hfb := Lib.hid hfb; have Hfc := Lib.hid hfc
  clear hla hlb hlc ho6 KC6 h36 B1 B2 B3 KA5 KB5 KC5 HB1 HB2 HB3 hka hkb hkc hfo hfa hfb hfc O0 O1 O2 hp e1 e2
  have hd := Pr.refl w6
  have x0 := X0 _ hd; have x1 := X1 _ hd; have x2 := y10 _ hd; have x3 := y11 _ hd; have x4 := y20 _ hd; have x5 := y21 _ hd; have x6 := y30 _ hd; have x7 := y31 _ hd
  by_cases hf : fo = 0 ∧ fa = 0 ∧ fb = 0 ∧ fc = 0
  case neg =>
    have h4 : fo ≠ 0 ∨ (fo = 0 ∧ fa ≠ 0) ∨ (fo = 0 ∧ fa = 0 ∧ fb ≠ 0) ∨ (fo = 0 ∧ fa = 0 ∧ fb = 0 ∧ fc ≠ 0) := by omega
    clear hf
    rcases h4 with h | ⟨rfl, h⟩ | ⟨rfl, rfl, h⟩ | ⟨rfl, rfl, rfl, h⟩
    case' inl => have m0 : ((fo : Int) == 0) = false := by simpa using h
    case' inr.inl => have m0 : ((fa : Int) == 0) = false := by simpa using h
    case' inr.inr.inl => have m0 : ((fb : Int) == 0) = false := by simpa using h
    case' inr.inr.inr => have m0 : ((fc : Int) == 0) = false := by simpa using h
    case' inl => have m1 : (fo == 0) = false := by simpa using h
    case' inr.inl => have m1 : (fa == 0) = false := by simpa using h
    case' inr.inr.inl => have m1 : (fb == 0) = false := by simpa using h
    case' inr.inr.inr => have m1 : (fc == 0) = false := by simpa using h
    all_goals
      go_wp2_with (first
        | (go_at_call 18; (with_reducible refine Calls.mono (F0.out _ hd) ?_); rintro e w7 ⟨rfl, hb⟩; have hd := hd.trans hb; have x2 := y10 _ hd; have x3 := y11 _ hd; have x4 := y20 _ hd; have x5 := y21 _ hd; have x6 := y30 _ hd; have x7 := y31 _ hd)
        | (go_at_call 18; (with_reducible refine Calls.mono (F1.out _ hd) ?_); rintro e w8 ⟨rfl, hb⟩; have hd := hd.trans hb; have x4 := y20 _ hd; have x5 := y21 _ hd; have x6 := y30 _ hd; have x7 := y31 _ hd)
        | (go_at_call 18; (with_reducible refine Calls.mono (F2.out _ hd) ?_); rintro e w9 ⟨rfl, hb⟩; have hd := hd.trans hb; have x6 := y30 _ hd; have x7 := y31 _ hd)
        | (go_at_call 18; (with_reducible refine Calls.mono (F3.out _ hd) ?_); rintro e wa ⟨rfl, hb⟩; have hd := hd.trans hb))
      go_ret
      exact ⟨rfl, HW.out.trans (H06.out.trans hd)⟩
  obtain ⟨rfl, rfl, rfl, rfl⟩ := hf
  go_upto_region 14 with (first
        | (go_at_call 18; (with_reducible refine Calls.mono (F0.out _ hd) ?_); rintro e w7 ⟨rfl, hb⟩; have hd := hd.trans hb; have x2 := y10 _ hd; have x3 := y11 _ hd; have x4 := y20 _ hd; have x5 := y21 _ hd; have x6 := y30 _ hd; have x7 := y31 _ hd)
        | (go_at_call 18; (with_reducible refine Calls.mono (F1.out _ hd) ?_); rintro e w8 ⟨rfl, hb⟩; have hd := hd.trans hb; have x4 := y20 _ hd; have x5 := y21 _ hd; have x6 := y30 _ hd; have x7 := y31 _ hd)
        | (go_at_call 18; (with_reducible refine Calls.mono (F2.out _ hd) ?_); rintro e w9 ⟨rfl, hb⟩; have hd := hd.trans hb; have x6 := y30 _ hd; have x7 := y31 _ hd)
        | (go_at_call 18; (with_reducible refine Calls.mono (F3.out _ hd) ?_); rintro e wa ⟨rfl, hb⟩; have hd := hd.trans hb))
  have hd := Lib.hid hd
  obtain ⟨w7, hw7⟩ : ∃ w7', w7' = wa := ⟨_, rfl⟩
  rw [← hw7]
  have hd : Pr w6 w7 := by rw [hw7]; exact hd.out
  clear hw7 x0 x1 x2 x3 x4 x5 x6 x7
  have X0 := stays (X0 _ hd); have X1 := stays (X1 _ hd); have X2 := stays (X2 _ hd); have X3 := stays (X3 _ hd); have X4 := stays (X4 _ hd); have X5 := stays (X5 _ hd)
  have y10 := stays (y10 _ hd); have y11 := stays (y11 _ hd); have y20 := stays (y20 _ hd); have y21 := stays (y21 _ hd); have y30 := stays (y30 _ hd); have y31 := stays (y31 _ hd)
  have H07 := Lib.hid (H06.out.trans hd)
  have LA := Lib.hid (LA.out.pr hd); have LB := Lib.hid (LB.out.pr hd); have LC := Lib.hid (LC.out.pr hd)
  have OL := Lib.hid fun W' (h : Pr w7 W') => rownList_any k0 o0 c0 W' (by omega) (HK0.out.pr (H07.out.trans h))
  have L1 := Lib.hid (HK1.out.pr H07.out); have L2 := Lib.hid (HK2.out.pr H07.out)
  clear hd F0 F1 F2 F3
  go_cut [15] from 105 to 111 (fun v15 wx => ∃ p q, v15 = .slice p (k0.length + 2) q ∧ Kids Any wx (k0 ++ [.node l1 k1, .node l2 k2]) p q ∧ Pr w7 wx)
  case first =>
--BEGIN R14
    refine wp_region_invA (by kernel_rfl) (by kernel_rfl) (fun a0 L a' w' => ∃ (v105 : Value) (v106 : Value) (v107 : Value) (v108 : Value) (v109 : Value) (v110 : Value) (v111 : Value) (v15 : Value), a' = ((((((((a0.put (some 105) v105).put (some 106) v106).put (some 107) v107).put (some 108) v108).put (some 109) v109).put (some 110) v110).put (some 111) v111).put (some 15) v15) ∧ Pr w7 w' ∧
      (L.getD 0 false = true → v105 = .pointer (some ⟨w.heap.size, 1, none⟩)) ∧
      (L.getD 1 false = true → v106 = .slice o0 k0.length c0) ∧
      (L.getD 3 false = true → v108 = .agg #[.string l1, .slice o1 k1.length c1]) ∧
      (L.getD 4 false = true → v109 = .agg #[.string l2, .slice o2 k2.length c2]) ∧
      (L.getD 2 false = true → L.getD 6 false = false → OwnsTs w7.heap.size w' v107 k0) ∧
      (L.getD 5 false = true → L.getD 6 false = false → ∃ B, v110 = .slice (some ⟨B, 0, none⟩) 2 2 ∧ w'.heap[B]? = some (.cells #[.string l1, .slice o1 k1.length c1, .string l2, .slice o2 k2.length c2] 24 (0, 0))) ∧
      (L.getD 6 false = true → ∃ p q, v111 = .slice p (k0.length + 2) q ∧ Kids Any w' (k0 ++ [.node l1 k1, .node l2 k2]) p q) ∧
      (L.getD 7 false = true → v15 = v111) ∧
      (L.getD 7 false = true → L.getD 6 false = true) ∧
      (L.getD 6 false = true → L.getD 2 false = true) ∧
      (L.getD 6 false = true → L.getD 5 false = true)) ?_ ?_ ?_
    · exact ⟨undef, undef, undef, undef, undef, undef, undef, undef, by simp [Act.put], Pr.drew _, rep_no, rep_no, rep_no, rep_no, rep_no, rep_no, rep_no, rep_no, rep_no, rep_no, rep_no⟩
    · intro i L a' w' hI' hi
      obtain ⟨v105, v106, v107, v108, v109, v110, v111, v15, rfl, hpr, f0, f1, f3, f4, f2, f5, f6, f7, d7, d6a, d6b⟩ := hI'
      have h8 : i < 8 := by have := (List.mem_filter.1 hi).1; simpa using this
      have hun : ∀ j, j ≠ i → (L.setIfInBounds i true).getD j false = L.getD j false := fun j hj => setD_ne hj
      rcases (show i = 0 ∨ i = 1 ∨ i = 2 ∨ i = 3 ∨ i = 4 ∨ i = 5 ∨ i = 6 ∨ i = 7 by omega) with rfl | rfl | rfl | rfl | rfl | rfl | rfl | rfl
      · refine wpOp_step rfl (fun K hK => ?_)
        simp only [Act.put, List.setIfInBounds_toArray, List.set_cons_zero, List.set_cons_succ]
        go_simp
        exact hK _ _ ⟨.pointer (some ⟨w.heap.size, 1, none⟩), v106, v107, v108, v109, v110, v111, v15, by simp [Act.put], hpr, (fun _ => rfl), (fun h => f1 (by rwa [hun 1 (by decide)] at h)), (fun h => f3 (by rwa [hun 3 (by decide)] at h)), (fun h => f4 (by rwa [hun 4 (by decide)] at h)), (fun h h2 => f2 (by rwa [hun 2 (by decide)] at h) (by rwa [hun 6 (by decide)] at h2)), (fun h h2 => f5 (by rwa [hun 5 (by decide)] at h) (by rwa [hun 6 (by decide)] at h2)), (fun h => f6 (by rwa [hun 6 (by decide)] at h)), (fun h => f7 (by rwa [hun 7 (by decide)] at h)), (fun h => by rw [hun 6 (by decide)]; exact d7 (by rwa [hun 7 (by decide)] at h)), (fun h => by rw [hun 2 (by decide)]; exact d6a (by rwa [hun 6 (by decide)] at h)), (fun h => by rw [hun 5 (by decide)]; exact d6b (by rwa [hun 6 (by decide)] at h))⟩
      · refine wpOp_step rfl (fun K hK => ?_)
        simp only [Act.put, List.setIfInBounds_toArray, List.set_cons_zero, List.set_cons_succ]
        have hd0 := (ready_dep hi rfl).2 { on := 0, ground := .data } (by simp) (by kernel_rfl)
        obtain rfl := f0 hd0
        have x0 := X1 _ hpr
        go_simp
        exact hK _ _ ⟨.pointer (some ⟨w.heap.size, 1, none⟩), .slice o0 k0.length c0, v107, v108, v109, v110, v111, v15, by simp [Act.put], hpr, (fun h => f0 (by rwa [hun 0 (by decide)] at h)), (fun _ => rfl), (fun h => f3 (by rwa [hun 3 (by decide)] at h)), (fun h => f4 (by rwa [hun 4 (by decide)] at h)), (fun h h2 => f2 (by rwa [hun 2 (by decide)] at h) (by rwa [hun 6 (by decide)] at h2)), (fun h h2 => f5 (by rwa [hun 5 (by decide)] at h) (by rwa [hun 6 (by decide)] at h2)), (fun h => f6 (by rwa [hun 6 (by decide)] at h)), (fun h => f7 (by rwa [hun 7 (by decide)] at h)), (fun h => by rw [hun 6 (by decide)]; exact d7 (by rwa [hun 7 (by decide)] at h)), (fun h => by rw [hun 2 (by decide)]; exact d6a (by rwa [hun 6 (by decide)] at h)), (fun h => by rw [hun 5 (by decide)]; exact d6b (by rwa [hun 6 (by decide)] at h))⟩
      · refine wpOp_step rfl (fun K hK => ?_)
        simp only [Act.put, List.setIfInBounds_toArray, List.set_cons_zero, List.set_cons_succ]
        have hd1 := (ready_dep hi rfl).2 { on := 1, ground := .data } (by simp) (by kernel_rfl)
        obtain rfl := f1 hd1
        go_simp
        go_at_call 42
        refine (OL.out _ hpr).mono ?_
        rintro e wn ⟨v5, rfl, hown', hb⟩
        have hown : OwnsTs w7.heap.size wn v5 k0 := hown'.mono hpr.size
        exact hK _ _ ⟨v105, .slice o0 k0.length c0, v5, v108, v109, v110, v111, v15, by simp [Act.put], hpr.trans hb, (fun h => f0 (by rwa [hun 0 (by decide)] at h)), (fun h => f1 (by rwa [hun 1 (by decide)] at h)), (fun h => f3 (by rwa [hun 3 (by decide)] at h)), (fun h => f4 (by rwa [hun 4 (by decide)] at h)), (fun _ _ => hown), (fun h h2 => by obtain ⟨B, e1, e2⟩ := f5 (by rwa [hun 5 (by decide)] at h) (by rwa [hun 6 (by decide)] at h2); exact ⟨B, e1, hb.blk e2⟩), (fun h => by obtain ⟨p, q, e1, e2⟩ := f6 (by rwa [hun 6 (by decide)] at h); exact ⟨p, q, e1, e2.pr hb⟩), (fun h => f7 (by rwa [hun 7 (by decide)] at h)), (fun h => by rw [hun 6 (by decide)]; exact d7 (by rwa [hun 7 (by decide)] at h)), (fun _ => setD_eq (ready_dep hi rfl).1), (fun h => by rw [hun 5 (by decide)]; exact d6b (by rwa [hun 6 (by decide)] at h))⟩
      · refine wpOp_step rfl (fun K hK => ?_)
        simp only [Act.put, List.setIfInBounds_toArray, List.set_cons_zero, List.set_cons_succ]
        have x0 := X2 _ hpr; have x1 := X3 _ hpr
        go_simp
        exact hK _ _ ⟨v105, v106, v107, .agg #[.string l1, .slice o1 k1.length c1], v109, v110, v111, v15, by simp [Act.put], hpr, (fun h => f0 (by rwa [hun 0 (by decide)] at h)), (fun h => f1 (by rwa [hun 1 (by decide)] at h)), (fun _ => rfl), (fun h => f4 (by rwa [hun 4 (by decide)] at h)), (fun h h2 => f2 (by rwa [hun 2 (by decide)] at h) (by rwa [hun 6 (by decide)] at h2)), (fun h h2 => f5 (by rwa [hun 5 (by decide)] at h) (by rwa [hun 6 (by decide)] at h2)), (fun h => f6 (by rwa [hun 6 (by decide)] at h)), (fun h => f7 (by rwa [hun 7 (by decide)] at h)), (fun h => by rw [hun 6 (by decide)]; exact d7 (by rwa [hun 7 (by decide)] at h)), (fun h => by rw [hun 2 (by decide)]; exact d6a (by rwa [hun 6 (by decide)] at h)), (fun h => by rw [hun 5 (by decide)]; exact d6b (by rwa [hun 6 (by decide)] at h))⟩
      · refine wpOp_step rfl (fun K hK => ?_)
        simp only [Act.put, List.setIfInBounds_toArray, List.set_cons_zero, List.set_cons_succ]
        have x0 := X4 _ hpr; have x1 := X5 _ hpr
        go_simp
        exact hK _ _ ⟨v105, v106, v107, v108, .agg #[.string l2, .slice o2 k2.length c2], v110, v111, v15, by simp [Act.put], hpr, (fun h => f0 (by rwa [hun 0 (by decide)] at h)), (fun h => f1 (by rwa [hun 1 (by decide)] at h)), (fun h => f3 (by rwa [hun 3 (by decide)] at h)), (fun _ => rfl), (fun h h2 => f2 (by rwa [hun 2 (by decide)] at h) (by rwa [hun 6 (by decide)] at h2)), (fun h h2 => f5 (by rwa [hun 5 (by decide)] at h) (by rwa [hun 6 (by decide)] at h2)), (fun h => f6 (by rwa [hun 6 (by decide)] at h)), (fun h => f7 (by rwa [hun 7 (by decide)] at h)), (fun h => by rw [hun 6 (by decide)]; exact d7 (by rwa [hun 7 (by decide)] at h)), (fun h => by rw [hun 2 (by decide)]; exact d6a (by rwa [hun 6 (by decide)] at h)), (fun h => by rw [hun 5 (by decide)]; exact d6b (by rwa [hun 6 (by decide)] at h))⟩
      · refine wpOp_step rfl (fun K hK => ?_)
        simp only [Act.put, List.setIfInBounds_toArray, List.set_cons_zero, List.set_cons_succ]
        have hd3 := (ready_dep hi rfl).2 { on := 3, ground := .data } (by simp) (by kernel_rfl)
        obtain rfl := f3 hd3
        have hd4 := (ready_dep hi rfl).2 { on := 4, ground := .data } (by simp) (by kernel_rfl)
        obtain rfl := f4 hd4
        go_simp
        exact hK _ _ ⟨v105, v106, v107, .agg #[.string l1, .slice o1 k1.length c1], .agg #[.string l2, .slice o2 k2.length c2], .slice (some ⟨w'.heap.size, 0, none⟩) 2 2, v111, v15, by simp [Act.put], hpr.alloc' _, (fun h => f0 (by rwa [hun 0 (by decide)] at h)), (fun h => f1 (by rwa [hun 1 (by decide)] at h)), (fun h => f3 (by rwa [hun 3 (by decide)] at h)), (fun h => f4 (by rwa [hun 4 (by decide)] at h)), (fun h h2 => (f2 (by rwa [hun 2 (by decide)] at h) (by rwa [hun 6 (by decide)] at h2)).pr (Pr.alloc _ _)), (fun _ _ => ⟨w'.heap.size, rfl, heap_alloc_new _ _⟩), (fun h => by obtain ⟨p, q, e1, e2⟩ := f6 (by rwa [hun 6 (by decide)] at h); exact ⟨p, q, e1, e2.pr (Pr.alloc _ _)⟩), (fun h => f7 (by rwa [hun 7 (by decide)] at h)), (fun h => by rw [hun 6 (by decide)]; exact d7 (by rwa [hun 7 (by decide)] at h)), (fun h => by rw [hun 2 (by decide)]; exact d6a (by rwa [hun 6 (by decide)] at h)), (fun _ => setD_eq (ready_dep hi rfl).1)⟩
      · refine wpOp_step rfl (fun K hK => ?_)
        simp only [Act.put, List.setIfInBounds_toArray, List.set_cons_zero, List.set_cons_succ]
        have hd2 := (ready_dep hi rfl).2 { on := 2, ground := .data } (by simp) (by kernel_rfl)
        have hd5 := (ready_dep hi rfl).2 { on := 5, ground := .data } (by simp) (by kernel_rfl)
        have hnot : L.getD 6 false = false := getD_un (ready_dep hi rfl).1
        have hown := f2 hd2 hnot
        obtain ⟨B, rfl, hB⟩ := f5 hd5 hnot
        have hsz := hpr.size
        have hbk : ∀ k, v107.ownBlock = some k → w7.heap.size ≤ k := fun k hk => (hown.block k hk).1
        have hlt : ∀ {ks : List Tr} {p q}, Kids Any w7 ks p q → Kids (Apart 0 v107) w' ks p q := fun h => (h.mono (S' := fun k => k < w7.heap.size) (fun k _ h => h)).carry fun k hk _ => ⟨Below.block hpr k hk, Nat.zero_le _, fun e => by have := hbk k e; omega⟩
        simp only [List.getElem_toArray, List.getElem_cons_succ, List.getElem_cons_zero]
        rw [if_pos (by rfl)]
        refine step_two ?_ (.tmp 107) (.tmp 110) ?_ 0 v107 k0 ?_ (hown.mono (Nat.zero_le _)) B ?_ (.node l1 k1) (.node l2 k2) _ _ _ _ hB (treeV_mk c1 hl1 (hlt L1.out)) (treeV_mk c2 hl2 (hlt L2.out)) (by omega) (Nat.zero_le _) ?_
        · rfl
        · rfl
        · rfl
        · rfl
        intro g cap wn ho hg hat
        have hall : Kids Any wn (k0 ++ [.node l1 k1, .node l2 k2]) (some ⟨g, 0, none⟩) cap := by
          obtain ⟨oa, cp, e1, hk⟩ := ho.kids
          injection e1 with ea eb ec; subst ea; subst ec; exact hk.any
        exact hK _ _ ⟨v105, v106, v107, v108, v109, .slice (some ⟨B, 0, none⟩) 2 2, .slice (some ⟨g, 0, none⟩) (k0.length + 2) cap, v15, by simp [Act.put], Pr.grown hpr hown hg, (fun h => f0 (by rwa [hun 0 (by decide)] at h)), (fun h => f1 (by rwa [hun 1 (by decide)] at h)), (fun h => f3 (by rwa [hun 3 (by decide)] at h)), (fun h => f4 (by rwa [hun 4 (by decide)] at h)), (fun _ h => by rw [setD_eq (ready_dep hi rfl).1] at h; cases h), (fun _ h => by rw [setD_eq (ready_dep hi rfl).1] at h; cases h), (fun _ => ⟨_, _, rfl, hall⟩), (fun h => by have h2 := d7 (by rwa [hun 7 (by decide)] at h); rw [getD_un (ready_dep hi rfl).1] at h2; cases h2), (fun _ => setD_eq (ready_dep hi rfl).1), (fun _ => by rw [hun 2 (by decide)]; exact hd2), (fun _ => by rw [hun 5 (by decide)]; exact hd5)⟩
      · refine wpOp_step rfl (fun K hK => ?_)
        simp only [Act.put, List.setIfInBounds_toArray, List.set_cons_zero, List.set_cons_succ]
        have hd6 := (ready_dep hi rfl).2 { on := 6, ground := .data } (by simp) (by kernel_rfl)
        go_simp
        exact hK _ _ ⟨v105, v106, v107, v108, v109, v110, v111, v111, by simp [Act.put], hpr, (fun h => f0 (by rwa [hun 0 (by decide)] at h)), (fun h => f1 (by rwa [hun 1 (by decide)] at h)), (fun h => f3 (by rwa [hun 3 (by decide)] at h)), (fun h => f4 (by rwa [hun 4 (by decide)] at h)), (fun h h2 => f2 (by rwa [hun 2 (by decide)] at h) (by rwa [hun 6 (by decide)] at h2)), (fun h h2 => f5 (by rwa [hun 5 (by decide)] at h) (by rwa [hun 6 (by decide)] at h2)), (fun h => f6 (by rwa [hun 6 (by decide)] at h)), (fun _ => rfl), (fun _ => by rw [hun 6 (by decide)]; exact hd6), (fun h => by rw [hun 2 (by decide)]; exact d6a (by rwa [hun 6 (by decide)] at h)), (fun h => by rw [hun 5 (by decide)]; exact d6b (by rwa [hun 6 (by decide)] at h))⟩
    · intro L a' w' hall hI'
      obtain ⟨v105, v106, v107, v108, v109, v110, v111, v15, rfl, hpr, f0, f1, f3, f4, f2, f5, f6, f7, d7, d6a, d6b⟩ := hI'
      obtain ⟨p, q, rfl, hk⟩ := f6 (hall 6 (by decide))
      obtain rfl := f7 (hall 7 (by decide))
      simp only [Act.put, List.setIfInBounds_toArray, List.set_cons_zero, List.set_cons_succ]
      have hR := Lib.hid (show _ ∧ _ from ⟨hk, hpr⟩)
      clear f0 f1 f3 f4 f2 f5 f6 f7 d7 d6a d6b hall hk hpr
      go_wp2_with fail
      go_meet
      case rel => exact ⟨p, q, rfl, hR.out⟩
--END R14
  case rest =>
  obtain ⟨pa, qa, rfl, hka, h78⟩ := hcut
  obtain ⟨w8, hw8⟩ : ∃ w8, w8 = wc := ⟨_, rfl⟩
  subst hw8
  obtain ⟨al, hal⟩ : ∃ x, x = k0 ++ [.node l1 k1, .node l2 k2] := ⟨_, rfl⟩
  rw [← hal] at hka
  have hln : al.length = k0.length + 2 := by rw [hal]; simp
  have HAL := Lib.hid hka; have H78 := Lib.hid h78
  have Hal := Lib.hid hal
  clear hka h78 hal L1 L2 OL
  go_wp2_with fail
  go_loopw [16, 17] (fun v _ wr => ∃ i : Nat, i ≤ al.length ∧ v = .int .i64 i ∧ (∀ a b x y, a < i → b < a → al[a]? = some x → al[b]? = some y → x.beq y = false) ∧ Pr w8 wr) (fun v _ _ => al.length - (intOf v).toNat)
  case atStart => exact ⟨0, by omega, rfl, fun a b x y ha => by omega, Pr.refl _⟩
  case round =>
    obtain ⟨i, hi, rfl, hdis, hp⟩ := hrel
    by_cases hlt : i < al.length
    · have c1' : (i : Int) < (k0.length : Int) + 2 := by omega
      have c2' : ((i : Int) < (((k0.length + 2 : Nat)) : Int)) := by omega
      have Hdis := Lib.hid hdis; have Hln := Lib.hid hln
      clear hdis hln
      go_wp2_with fail
      go_loopw [17] (fun v wr => ∃ m : Nat, m ≤ i ∧ v = .int .i64 m ∧ (∀ b y, b < m → al[b]? = some y → al[i].beq y = false) ∧ Pr w8 wr) (fun v _ => i - (intOf v).toNat)
      case atStart => exact ⟨0, by omega, rfl, fun b y hb => by omega, hp⟩
      case round =>
        obtain ⟨m, hm, rfl, hd2, hp⟩ := hrel
        have hln := Hln.out
        by_cases hmi : m < i
        · obtain ⟨bk, ok, ly, kky, oy, cy, ey, hly, rfl, d0, d1, hky⟩ := (HAL.out.pr hp).get m (by omega)
          obtain ⟨bk', ok', lx, kkx, ox, cx, ex, hlx, ebk, f0, f1, hkx⟩ := (HAL.out.pr hp).get i hlt
          obtain ⟨rfl, rfl⟩ : bk = bk' ∧ ok = ok' := by simpa using ebk
          obtain ⟨bb, hbb⟩ : ∃ x, x = (Tr.node lx kkx).beq (.node ly kky) := ⟨_, rfl⟩
          have T1 := Lib.hid (After.call (P := Try.prog) (V := wr) (v := .bool bb) fun W' (h : Pr wr W') => by
            rw [hbb]; exact sameTree_any lx ly kkx kky ox cx oy cy W' (hkx.pr h) (hky.pr h))
          have z0 := After.cell d0; have z1 := After.cell d1; have z2 := After.cell f0; have z3 := After.cell f1
          have b1 : (m : Int) < (i : Int) := by omega
          have b2 : (m : Int) < (k0.length : Int) + 2 := by omega
          have b3 : (0 : Int) ≤ (m : Int) := by omega
          have b4 : (0 : Int) ≤ (i : Int) := by omega
          have b5 : m < k0.length + 2 := by omega
          have b6 : i < k0.length + 2 := by omega
          have Hbb := Lib.hid hbb; have Hd2 := Lib.hid hd2; have Hex := Lib.hid ex; have Hey := Lib.hid ey
          clear hbb hd2 ex ey ebk hkx hky d0 d1 f0 f1
          go_upto_region 21 with fail
          refine wp_region_after (by kernel_rfl) (by kernel_rfl) ?_
          repeat (go_big_quiet_step (first | (go_at_call 22; with_reducible exact T1.out _)))
          refine wpQuiet_nil ?_
          rintro wq ⟨⟨_, hq⟩, rfl⟩
          cases bb
          · go_wp2_with fail
            refine ⟨⟨m + 1, by omega, by go_num, ?_, hp.trans hq⟩, by simp [intOf]; omega⟩
            intro b y hb hy
            by_cases hbm : b < m
            · exact Hd2.out b y hbm hy
            · obtain rfl : b = m := by omega
              rw [List.getElem?_eq_getElem (by omega)] at hy
              obtain rfl := Option.some.inj hy
              rw [Hex.out, Hey.out]; exact Hbb.out.symm
          · go_wp2_with fail
            go_ret
            exact ⟨rfl, HW.out.trans (H07.out.trans (H78.out.trans (hp.trans hq)))⟩
        · have n1' : decide ((m : Int) < (i : Int)) = false := by simp; omega
          have n2' : decide (m < i) = false := by simp; omega
          obtain rfl : m = i := by omega
          go_wp2_with fail
          refine ⟨⟨m + 1, by omega, by go_num, ?_, hp⟩, by simp [intOf]; omega⟩
          intro a b x y ha hb hx hy
          by_cases ham : a < m
          · exact Hdis.out a b x y ham hb hx hy
          · obtain rfl : a = m := by omega
            rw [List.getElem?_eq_getElem hlt] at hx
            obtain rfl := Option.some.inj hx
            exact hd2 b y hb hy
    · have hie : i = k0.length + 2 := by omega
      have n1' : decide ((i : Int) < (k0.length : Int) + 2) = false := by simp; omega
      have n2' : decide (i < k0.length + 2) = false := by simp; omega
      have n3' : ¬ ((i : Int) < (k0.length : Int) + 2) := by omega
      have hg := H78.out.trans hp
      have hx : Tr.node l1 k1 ∉ k0 := fun hm => by
        obtain ⟨b, hb, e⟩ := List.getElem_of_mem hm
        have := hdis k0.length b (.node l1 k1) (.node l1 k1) (by omega) hb (by rw [Hal.out]; simp) (by rw [Hal.out, List.getElem?_append_left hb, List.getElem?_eq_getElem hb, e])
        rw [Tr.beq_self] at this; cases this
      have hy : Tr.node l2 k2 ∉ k0 := fun hm => by
        obtain ⟨b, hb, e⟩ := List.getElem_of_mem hm
        have := hdis (k0.length + 1) b (.node l2 k2) (.node l2 k2) (by omega) (by omega) (by rw [Hal.out]; simp) (by rw [Hal.out, List.getElem?_append_left hb, List.getElem?_eq_getElem hb, e])
        rw [Tr.beq_self] at this; cases this
      have hmix := mix_apart 98 l0 k0 (.node l1 k1) (.node l2 k2) hij hI hJ hx hy
      rw [← Hkc.out, ← Hka.out, ← Hkb.out] at hmix
      have hmg : mergeT (.node l0 k0) (.node l0 ka) (.node l0 kb) = (.node l0 kc, [], 0) := by
        unfold mergeT
        rw [← Hfo.out, ← Hfa.out, ← Hfb.out]
        simp only [ne_eq, not_true_eq_false, if_false]
        rw [show mixT 100 (.node l0 k0) (.node l0 ka) (.node l0 kb) = .ok (.node l0 kc) from hmix]
        simp only []
        rw [← Hfc.out]
        simp
      have M1 := merge_is hl0 hl0 hl0 (HK0.out.pr (H07.out.trans hg)) (LA.out.pr hg) (LB.out.pr hg) l0 kc [] 0 hmg
      rw [Hla.out, Hlb.out, Hlc.out] at M1
      have M1 := Lib.hid M1
      have x0 := X0 _ hg; have x1 := X1 _ hg; have x2 := y10 _ hg; have x3 := y11 _ hg; have x4 := y20 _ hg; have x5 := y21 _ hg
      clear hdis hx hy hmix hmg hln
      go_upto_region 24 with (go_at_call 36; (with_reducible refine Calls.mono M1.out ?_); rintro e wb ⟨⟨⟨ob, cb, pb, pcb, rfl, hkb, _⟩, _⟩, hb⟩)
      obtain ⟨V, hV⟩ : ∃ V, V = wb.alloc (.cells #[.string l0, .slice ob k0.length cb] 24) := ⟨_, rfl⟩
      have f0 : V.cell? ⟨wb.heap.size, 0, none⟩ = some (.string l0) := by rw [hV]; simp [go_sem]
      have f1 : V.cell? ⟨wb.heap.size, 1, none⟩ = some (.slice ob k0.length cb) := by rw [hV]; simp [go_sem]
      have hwV : Pr wb V := by rw [hV]; exact Pr.alloc _ _
      have hgV := hg.trans (hb.trans hwV)
      have S1 := tree_yes l0 kc ob cb (some ⟨g3, 0, none⟩) q3 V (hkb.pr hwV) (LC.out.pr hgV)
      rw [Hlc.out] at S1
      have S1 := Lib.hid S1
      have x6 := y30 _ hgV; have x7 := y31 _ hgV
      rw [← hV]
      have HgV := Lib.hid hgV
      clear hV hwV hkb hb hgV x0 x1 x2 x3 x4 x5
      go_wp2_with (go_at_call 22; (with_reducible refine Calls.mono S1.out ?_); rintro e wd ⟨rfl, hbd⟩)
      go_ret
      exact ⟨rfl, HW.out.trans (H07.out.trans (HgV.out.trans hbd))⟩
end Go.Proofs.Ytdbnfhpgmcjngab
