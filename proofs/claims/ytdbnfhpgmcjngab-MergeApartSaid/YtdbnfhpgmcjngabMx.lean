/- The law MergeDoes: its walk. -/
import Derived.Test.YtdbnfhpgmcjngabMm
import Derived.Test.YtdbnfhpgmcjngabGl
import Derived.Test.YtdbnfhpgmcjngabJf
import Derived.Test.YtdbnfhpgmcjngabJg
import Derived.Test.YtdbnfhpgmcjngabWe
import Derived.Test.YtdbnfhpgmcjngabWd
import Derived.Test.YtdbnfhpgmcjngabJb
import Derived.Test.YtdbnfhpgmcjngabJs
import Derived.Test.YtdbnfhpgmcjngabSi
import Derived.Test.YtdbnfhpgmcjngabGn
namespace Go.Proofs.Ytdbnfhpgmcjngab
open Go Go.RowKit

/-- A call's result: a tree of one's own, that keeps off the variables' blocks. -/
def OwnR (V : World) (l : ByteArray) (ks : List Tr) (r p q t : Value) (w : World) : Prop :=
  ∃ oa cap, r = .agg #[.string l, .slice oa ks.length cap] ∧ Kids (fun b => V.heap.size ≤ b ∧ p ≠ .pointer (some ⟨b, 0, none⟩) ∧ q ≠ .pointer (some ⟨b, 0, none⟩) ∧ t ≠ .pointer (some ⟨b, 0, none⟩)) w ks oa cap
/-- A variable's block. -/
def VarB (V : World) (p : Value) (w : World) : Prop := ∃ T x y, p = .pointer (some ⟨T, 0, none⟩) ∧ V.heap.size ≤ T ∧ w.heap[T]? = some (.cells #[x, y] 24 (0, 0))
/-- .. and what was stored in it. -/
def VarS (p r : Value) (w : World) : Prop := ∃ T x y, p = .pointer (some ⟨T, 0, none⟩) ∧ r = .agg #[x, y] ∧ w.heap[T]? = some (.cells #[x, y] 24 (0, 0))
section
variable {V w w' : World} {l : ByteArray} {ks : List Tr} {r p q t p' q' t' : Value}
abbrev Bp (b : Nat) : Value := .pointer (some ⟨b, 0, none⟩)
theorem Bp.inj {a b : Nat} (h : Bp a = Bp b) : a = b := by cases h; rfl
theorem OwnR.carry (h : OwnR V l ks r p q t w) (hk : ∀ k, k < w.heap.size → V.heap.size ≤ k → p ≠ Bp k → q ≠ Bp k → t ≠ Bp k → w'.heap[k]? = w.heap[k]? ∧ p' ≠ Bp k ∧ q' ≠ Bp k ∧ t' ≠ Bp k) : OwnR V l ks r p' q' t' w' := by
  obtain ⟨oa, cap, h1, h2⟩ := h
  exact ⟨oa, cap, h1, h2.carry fun k ⟨a, b, c, d⟩ hl => ⟨(hk k hl a b c d).1, a, (hk k hl a b c d).2⟩⟩
theorem OwnR.pr (h : OwnR V l ks r p q t w) (hp : Pr w w') : OwnR V l ks r p q t w' := h.carry fun k hl _ b c d => ⟨Below.block hp k hl, b, c, d⟩
theorem VarB.pr (h : VarB V p w) (hp : Pr w w') : VarB V p w' := by
  obtain ⟨T, x, y, h1, h2, h3⟩ := h
  exact ⟨T, x, y, h1, h2, hp.blk h3⟩
theorem VarS.pr (h : VarS p r w) (hp : Pr w w') : VarS p r w' := by
  obtain ⟨T, x, y, h1, h2, h3⟩ := h
  exact ⟨T, x, y, h1, h2, hp.blk h3⟩
/-- A variable that is not made yet is nothing; one that is made lies lower. -/
theorem var_off {b : Nat} {c : Bool} (hu : c = false → p = undef) (hv : c = true → VarB V p w) (hb : w.heap.size ≤ b) : p ≠ Bp b := by
  cases c with
  | false => rw [hu rfl]; intro e; cases e
  | true =>
    obtain ⟨T, x, y, h1, _, h3⟩ := hv rfl
    rw [h1]; intro e
    have := Bp.inj e
    have := blk_lt h3
    omega
/-- What a store into the one variable leaves of another one. -/
theorem VarB.far {T : Nat} (h : VarB V p w) (hne : p ≠ Bp T) (u v : Value) : VarB V p ((w.setCell ⟨T, 0, none⟩ u).setCell ⟨T, 1, none⟩ v) := by
  obtain ⟨S, x, y, h1, h2, h3⟩ := h
  have hn : T ≠ S := fun e => hne (by rw [h1, e])
  exact ⟨S, x, y, h1, h2, by rw [Below.heap_setCell _ _ _ _ (fun e => hn e.symm), Below.heap_setCell _ _ _ _ (fun e => hn e.symm)]; exact h3⟩
theorem VarS.far {T : Nat} (h : VarS p r w) (hne : p ≠ Bp T) (u v : Value) : VarS p r ((w.setCell ⟨T, 0, none⟩ u).setCell ⟨T, 1, none⟩ v) := by
  obtain ⟨S, x, y, h1, h2, h3⟩ := h
  have hn : T ≠ S := fun e => hne (by rw [h1, e])
  exact ⟨S, x, y, h1, h2, by rw [Below.heap_setCell _ _ _ _ (fun e => hn e.symm), Below.heap_setCell _ _ _ _ (fun e => hn e.symm)]; exact h3⟩
theorem own_far {T k : Nat} (hne : k ≠ T) (u v : Value) : ((w.setCell ⟨T, 0, none⟩ u).setCell ⟨T, 1, none⟩ v).heap[k]? = w.heap[k]? := by
  rw [Below.heap_setCell _ _ _ _ (fun e => hne e), Below.heap_setCell _ _ _ _ (fun e => hne e)]
end
theorem rmerge_is {w : World} {l1 l2 l3 : ByteArray} {k1 k2 k3 : List Tr} {o1 o2 o3 : Option Addr} {c1 c2 c3 : Nat} (hl1 : l1.size ≤ maxLen) (hl2 : l2.size ≤ maxLen) (hl3 : l3.size ≤ maxLen) (hk1 : Kids Any w k1 o1 c1) (hk2 : Kids Any w k2 o2 c2) (hk3 : Kids Any w k3 o3 c3)
    (l : ByteArray) (ks : List Tr) (p : List Int) (c : Nat) (h : mergeT (.node l1 k1) (.node l2 k2) (.node l3 k3) = (.node l ks, p, c)) :
    Calls Try.prog 37 #[.agg #[.string l1, .slice o1 k1.length c1], .agg #[.string l2, .slice o2 k2.length c2], .agg #[.string l3, .slice o3 k3.length c3]] w fun e w' =>
      ((∃ oa cap pa pc, e = .returned (.tuple #[.agg #[.string l, .slice oa ks.length cap], .slice pa p.length pc, .int .i64 c]) ∧ Kids Any w' ks oa cap ∧ Ints Any w' p pa pc) ∧ l.size ≤ maxLen) ∧ Pr w w' := by
  refine (rmerge_any hl1 hl2 hl3 hk1 hk2 hk3).mono ?_
  rintro e w' ⟨l5, ks5, oa, cap, pa, pc, h1, h2, rfl, h3, h4, h5⟩
  rw [h] at h1 h4
  cases h1
  exact ⟨⟨⟨oa, cap, pa, pc, by rw [h], h3, h4⟩, h2⟩, h5⟩
theorem tree_yes (l : ByteArray) (ks : List Tr) (oa cap ob cbp) (w : World) (hk : Kids Any w ks oa cap) (hj : Kids Any w ks ob cbp) :
    Calls Try.prog 22 #[.agg #[.string l, .slice oa ks.length cap], .agg #[.string l, .slice ob ks.length cbp]] w fun e w' => e = .returned (.bool true) ∧ Pr w w' := by
  have := sameTree_any l l ks ks oa cap ob cbp w hk hj
  rwa [Tr.beq_self] at this
set_option maxRecDepth 100000 in
set_option maxHeartbeats 6400000 in
theorem mergeDoes_walk (l0 : ByteArray) (k0 : List Tr) (o0 : Option Addr) (c0 : Nat) (l1 : ByteArray) (k1 : List Tr) (o1 : Option Addr) (c1 : Nat) (l2 : ByteArray) (k2 : List Tr) (o2 : Option Addr) (c2 : Nat) (ls : List Tr) (oa cap) (ms : List Tr) (ob cbp) (w : World) (hl0 : l0.size ≤ maxLen) (hk0 : Kids Any w k0 o0 c0) (hl1 : l1.size ≤ maxLen) (hk1 : Kids Any w k1 o1 c1) (hl2 : l2.size ≤ maxLen) (hk2 : Kids Any w k2 o2 c2) (hls : Kids Any w ls oa cap) (_ : True) (hms : Kids Any w ms ob cbp) (_ : True) :
    Calls Try.prog 9 #[.agg #[.string l0, .slice o0 k0.length c0], .agg #[.string l1, .slice o1 k1.length c1], .agg #[.string l2, .slice o2 k2.length c2], .slice oa ls.length cap, .slice ob ms.length cbp] w fun e w' => e = .returned (.bool true) ∧ Pr w w' := by
  obtain ⟨W, hW⟩ : ∃ W, W = ((w.alloc (.cells #[.string l0, .slice o0 k0.length c0] 24)).alloc (.cells #[.string l1, .slice o1 k1.length c1] 24)).alloc (.cells #[.string l2, .slice o2 k2.length c2] 24) := ⟨_, rfl⟩
  have hwW : Pr w W := by rw [hW]; exact ((Pr.alloc _ _).alloc' _).alloc' _
  have s00 := stays (show W.cell? ⟨w.heap.size, 0, none⟩ = some (.string l0) by rw [hW]; simp [go_sem])
  have s01 := stays (show W.cell? ⟨w.heap.size, 1, none⟩ = some (.slice o0 k0.length c0) by rw [hW]; simp [go_sem])
  have s10 := stays (show W.cell? ⟨w.heap.size + 1, 0, none⟩ = some (.string l1) by rw [hW]; simp [go_sem])
  have s11 := stays (show W.cell? ⟨w.heap.size + 1, 1, none⟩ = some (.slice o1 k1.length c1) by rw [hW]; simp [go_sem])
  have s20 := stays (show W.cell? ⟨w.heap.size + 1 + 1, 0, none⟩ = some (.string l2) by rw [hW]; simp [go_sem])
  have s21 := stays (show W.cell? ⟨w.heap.size + 1 + 1, 1, none⟩ = some (.slice o2 k2.length c2) by rw [hW]; simp [go_sem])
  have hk0 := hk0.pr hwW
  have hk1 := hk1.pr hwW
  have hk2 := hk2.pr hwW
  obtain ⟨ga, hga⟩ : ∃ b, b = great (.node l0 k0) := ⟨_, rfl⟩
  obtain ⟨gb, hgb⟩ : ∃ b, b = great (.node l1 k1) := ⟨_, rfl⟩
  obtain ⟨gc, hgc⟩ : ∃ b, b = great (.node l2 k2) := ⟨_, rfl⟩
  have G0 : Hid (∀ W', Pr W W' → Calls Try.prog 15 #[.agg #[.string l0, .slice o0 k0.length c0]] W' fun e w' => e = .returned (.bool ga) ∧ Pr W' w') := Lib.hid fun W' h => by rw [hga]; exact great_any l0 k0 _ _ _ (hk0.pr h)
  have G1 : Hid (∀ W', Pr W W' → Calls Try.prog 15 #[.agg #[.string l1, .slice o1 k1.length c1]] W' fun e w' => e = .returned (.bool gb) ∧ Pr W' w') := Lib.hid fun W' h => by rw [hgb]; exact great_any l1 k1 _ _ _ (hk1.pr h)
  have G2 : Hid (∀ W', Pr W W' → Calls Try.prog 15 #[.agg #[.string l2, .slice o2 k2.length c2]] W' fun e w' => e = .returned (.bool gc) ∧ Pr W' w') := Lib.hid fun W' h => by rw [hgc]; exact great_any l2 k2 _ _ _ (hk2.pr h)
  have A1 := Lib.hid fun W' (h : Pr W W') => greats_any ls oa cap W' (hls.pr (hwW.trans h))
  have A2 := Lib.hid fun W' (h : Pr W W') => greats_any ms ob cbp W' (hms.pr (hwW.trans h))
  have HW := Lib.hid hwW; have HGa := Lib.hid hga; have HGb := Lib.hid hgb; have HGc := Lib.hid hgc
  have HLs := Lib.hid hls; have HMs := Lib.hid hms; have HK0 := Lib.hid hk0; have HK1 := Lib.hid hk1; have HK2 := Lib.hid hk2; have HL := Lib.hid (hls.pr hwW); have HM := Lib.hid (hms.pr hwW)
  have hlen1 := hls.len; have hlen2 := hms.len
  clear hga hgb hgc hk0 hk1 hk2 hwW hls hms
  go_enter Try.func9, Try.ntmps9
  go_upto_region 1 with fail
  rw [← hW]; clear hW
  go_upto_region 3 with (first
    | (go_at_call 34; refine (mergeBegun_any _).mono ?_; rintro e w1 ⟨rfl, hc⟩))
  have Hc := Lib.hid hc
  go_cut [39] from 22 to 39 (fun v wx => (∃ b, v = .bool b ∧ (b = false → ga = false ∧ gb = false ∧ gc = false ∧ FewTs ls ∧ FewTs ms)) ∧ Pr W wx)
  case first =>
    have hp := hc
    have x0 := s00 _ hp; have x1 := s01 _ hp; have x2 := s10 _ hp; have x3 := s11 _ hp; have x4 := s20 _ hp; have x5 := s21 _ hp
    clear hc
    have h4 : ga = true ∨ (ga = false ∧ gb = true) ∨ (ga = false ∧ gb = false ∧ gc = true) ∨ (ga = false ∧ gb = false ∧ gc = false) := by cases ga <;> cases gb <;> cases gc <;> simp
    rcases h4 with rfl | ⟨rfl, rfl⟩ | ⟨rfl, rfl, rfl⟩ | ⟨rfl, rfl, rfl⟩
    all_goals
      go_wp2_with (first
        | (go_at_call 15; (with_reducible refine Calls.mono (G0.out _ hp) ?_); rintro e w2 ⟨rfl, hb⟩; have hp := hp.trans hb; have x0 := s00 _ hp; have x1 := s01 _ hp; have x2 := s10 _ hp; have x3 := s11 _ hp; have x4 := s20 _ hp; have x5 := s21 _ hp)
        | (go_at_call 15; (with_reducible refine Calls.mono (G1.out _ hp) ?_); rintro e w2 ⟨rfl, hb⟩; have hp := hp.trans hb; have x0 := s00 _ hp; have x1 := s01 _ hp; have x2 := s10 _ hp; have x3 := s11 _ hp; have x4 := s20 _ hp; have x5 := s21 _ hp)
        | (go_at_call 15; (with_reducible refine Calls.mono (G2.out _ hp) ?_); rintro e w2 ⟨rfl, hb⟩; have hp := hp.trans hb)
        | (go_at_call 35; (with_reducible refine Calls.mono (A1.out _ hp) ?_); rintro e w3 ⟨⟨b1, rfl, hb1⟩, hb⟩; have hp := hp.trans hb)
        | (go_at_call 35; (with_reducible refine Calls.mono (A2.out _ hp) ?_); rintro e w4 ⟨⟨b2, rfl, hb2⟩, hb⟩; have hp := hp.trans hb))
    all_goals go_meet
    all_goals first
      | (case rel => exact ⟨⟨true, rfl, fun h => by cases h⟩, hp⟩)
      | (case rel => exact ⟨⟨b2, rfl, fun h => ⟨trivial, trivial, trivial, hb1 (by simpa using ‹¬b1 = true›), hb2 h⟩⟩, hp⟩)
      | (case rel => exact ⟨⟨b2, rfl, fun h => ⟨rfl, rfl, rfl, hb1 (by simpa using ‹¬b1 = true›), hb2 h⟩⟩, hp⟩)
      | trace_state
  case rest =>
  obtain ⟨⟨b, rfl, hbd⟩, hp⟩ := hcut
  obtain ⟨w2, hw2⟩ : ∃ w2, w2 = wc := ⟨_, rfl⟩
  subst hw2
  cases b
  case true =>
    go_wp2_with fail
    go_ret
    exact ⟨rfl, HW.out.trans hp⟩
  case false =>
  obtain ⟨rfl, rfl, rfl, fl, fm⟩ := hbd rfl
  have hz0 := great_sz HGa.out.symm; have hz1 := great_sz HGb.out.symm; have hz2 := great_sz HGc.out.symm
  have Hp := Lib.hid hp
  clear hbd hc
  have X0 := stays (s00 _ hp); have X1 := stays (s01 _ hp); have X2 := stays (s10 _ hp); have X3 := stays (s11 _ hp); have X4 := stays (s20 _ hp); have X5 := stays (s21 _ hp)
  have O0 := Lib.hid fun W' (h : Pr w2 W') => rown_any l0 k0 o0 c0 W' (by omega) (HK0.out.pr (Hp.out.trans h))
  have O1 := Lib.hid fun W' (h : Pr w2 W') => rown_any l1 k1 o1 c1 W' (by omega) (HK1.out.pr (Hp.out.trans h))
  have O2 := Lib.hid fun W' (h : Pr w2 W') => rown_any l2 k2 o2 c2 W' (by omega) (HK2.out.pr (Hp.out.trans h))
  go_upto_region 5 with fail
  go_cut [11, 12, 13] from 40 to 45 (fun v11 v12 v13 wx => ∃ T1 T2 T3 p1 q1 p2 q2 p3 q3, v11 = .pointer (some ⟨T1, 0, none⟩) ∧ v12 = .pointer (some ⟨T2, 0, none⟩) ∧ v13 = .pointer (some ⟨T3, 0, none⟩) ∧
    wx.heap[T1]? = some (.cells #[.string l0, .slice p1 k0.length q1] 24 (0, 0)) ∧ wx.heap[T2]? = some (.cells #[.string l1, .slice p2 k1.length q2] 24 (0, 0)) ∧ wx.heap[T3]? = some (.cells #[.string l2, .slice p3 k2.length q3] 24 (0, 0)) ∧
    Kids Any wx k0 p1 q1 ∧ Kids Any wx k1 p2 q2 ∧ Kids Any wx k2 p3 q3 ∧ Pr w2 wx)
  case first =>
    refine wp_region_inv' (by kernel_rfl) (by kernel_rfl) (fun a0 L a' w' => ∃ v40 v41 v42 v43 v44 v45 v11 v12 v13, a' = ((((((((a0.put (some 40) v40).put (some 41) v41).put (some 42) v42).put (some 43) v43).put (some 44) v44).put (some 45) v45).put (some 11) v11).put (some 12) v12).put (some 13) v13 ∧ Pr w2 w' ∧
      (L.getD 0 false = true → v40 = .agg #[.string l0, .slice o0 k0.length c0]) ∧
      (L.getD 2 false = true → v42 = .agg #[.string l1, .slice o1 k1.length c1]) ∧
      (L.getD 4 false = true → v44 = .agg #[.string l2, .slice o2 k2.length c2]) ∧
      (L.getD 1 false = true → OwnR w2 l0 k0 v41 v11 v12 v13 w') ∧
      (L.getD 3 false = true → OwnR w2 l1 k1 v43 v11 v12 v13 w') ∧
      (L.getD 5 false = true → OwnR w2 l2 k2 v45 v11 v12 v13 w') ∧
      (L.getD 6 false = true → VarB w2 v11 w') ∧
      (L.getD 7 false = true → VarB w2 v12 w') ∧
      (L.getD 8 false = true → VarB w2 v13 w') ∧
      (L.getD 9 false = true → VarS v11 v41 w') ∧
      (L.getD 10 false = true → VarS v12 v43 w') ∧
      (L.getD 11 false = true → VarS v13 v45 w') ∧
      (L.getD 6 false = false → v11 = undef) ∧
      (L.getD 7 false = false → v12 = undef) ∧
      (L.getD 8 false = false → v13 = undef) ∧
      (L.getD 6 false = true → L.getD 7 false = true → v11 ≠ v12) ∧
      (L.getD 6 false = true → L.getD 8 false = true → v11 ≠ v13) ∧
      (L.getD 7 false = true → L.getD 8 false = true → v12 ≠ v13) ∧
      (L.getD 9 false = true → L.getD 6 false = true) ∧
      (L.getD 9 false = true → L.getD 1 false = true) ∧
      (L.getD 10 false = true → L.getD 7 false = true) ∧
      (L.getD 10 false = true → L.getD 3 false = true) ∧
      (L.getD 11 false = true → L.getD 8 false = true) ∧
      (L.getD 11 false = true → L.getD 5 false = true)) ?_ ?_ ?_
    · exact ⟨undef, undef, undef, undef, undef, undef, undef, undef, undef, by simp [Act.put], Pr.drew _, rep_no, rep_no, rep_no, rep_no, rep_no, rep_no, rep_no, rep_no, rep_no, rep_no, rep_no, rep_no, fun _ => rfl, fun _ => rfl, fun _ => rfl, rep_no, rep_no, rep_no, rep_no, rep_no, rep_no, rep_no, rep_no, rep_no⟩
    · intro i L a' w' hI hi
      obtain ⟨v40, v41, v42, v43, v44, v45, v11, v12, v13, rfl, hpr, f0, f2, f4, f1, f3, f5, f6, f7, f8, f9, f10, f11, u6, u7, u8, n67, n68, n78, d9v, d9r, d10v, d10r, d11v, d11r⟩ := hI
      have h12 : i < 12 := by have := (List.mem_filter.1 hi).1; simpa using this
      have hun : ∀ j, j ≠ i → (L.setIfInBounds i true).getD j false = L.getD j false := fun j hj => setD_ne hj
      rcases (show i = 0 ∨ i = 1 ∨ i = 2 ∨ i = 3 ∨ i = 4 ∨ i = 5 ∨ i = 6 ∨ i = 7 ∨ i = 8 ∨ i = 9 ∨ i = 10 ∨ i = 11 by omega) with rfl | rfl | rfl | rfl | rfl | rfl | rfl | rfl | rfl | rfl | rfl | rfl
      · refine wpOp_step rfl (fun K hK => ?_)
        simp only [Act.put, List.setIfInBounds_toArray, List.set_cons_zero, List.set_cons_succ]
        have x0 := X0 _ hpr; have x1 := X1 _ hpr
        go_simp
        exact hK _ _ ⟨.agg #[.string l0, .slice o0 k0.length c0], v41, v42, v43, v44, v45, v11, v12, v13, by simp [Act.put], hpr, (fun _ => rfl), (fun h => f2 (by rwa [hun 2 (by decide)] at h)), (fun h => f4 (by rwa [hun 4 (by decide)] at h)), (fun h => f1 (by rwa [hun 1 (by decide)] at h)), (fun h => f3 (by rwa [hun 3 (by decide)] at h)), (fun h => f5 (by rwa [hun 5 (by decide)] at h)), (fun h => f6 (by rwa [hun 6 (by decide)] at h)), (fun h => f7 (by rwa [hun 7 (by decide)] at h)), (fun h => f8 (by rwa [hun 8 (by decide)] at h)), (fun h => f9 (by rwa [hun 9 (by decide)] at h)), (fun h => f10 (by rwa [hun 10 (by decide)] at h)), (fun h => f11 (by rwa [hun 11 (by decide)] at h)), (fun h => u6 (by rwa [hun 6 (by decide)] at h)), (fun h => u7 (by rwa [hun 7 (by decide)] at h)), (fun h => u8 (by rwa [hun 8 (by decide)] at h)), (fun h h' => n67 (by rwa [hun 6 (by decide)] at h) (by rwa [hun 7 (by decide)] at h')), (fun h h' => n68 (by rwa [hun 6 (by decide)] at h) (by rwa [hun 8 (by decide)] at h')), (fun h h' => n78 (by rwa [hun 7 (by decide)] at h) (by rwa [hun 8 (by decide)] at h')), (fun h => by rw [hun 6 (by decide)]; exact d9v (by rwa [hun 9 (by decide)] at h)), (fun h => by rw [hun 1 (by decide)]; exact d9r (by rwa [hun 9 (by decide)] at h)), (fun h => by rw [hun 7 (by decide)]; exact d10v (by rwa [hun 10 (by decide)] at h)), (fun h => by rw [hun 3 (by decide)]; exact d10r (by rwa [hun 10 (by decide)] at h)), (fun h => by rw [hun 8 (by decide)]; exact d11v (by rwa [hun 11 (by decide)] at h)), (fun h => by rw [hun 5 (by decide)]; exact d11r (by rwa [hun 11 (by decide)] at h))⟩
      · refine wpOp_step rfl (fun K hK => ?_)
        simp only [Act.put, List.setIfInBounds_toArray, List.set_cons_zero, List.set_cons_succ]
        have hd0 := (ready_dep hi rfl).2 { on := 0, ground := .data } (by simp) (by kernel_rfl)
        obtain rfl := f0 hd0
        go_simp
        go_at_call 16
        refine (O0.out _ hpr).mono ?_
        rintro e w5 ⟨p5, q5, rfl, hk5, hb⟩
        exact hK _ _ ⟨.agg #[.string l0, .slice o0 k0.length c0], .agg #[.string l0, .slice p5 k0.length q5], v42, v43, v44, v45, v11, v12, v13, by simp [Act.put], hpr.trans hb, (fun h => f0 (by rwa [hun 0 (by decide)] at h)), (fun h => f2 (by rwa [hun 2 (by decide)] at h)), (fun h => f4 (by rwa [hun 4 (by decide)] at h)), (fun _ => ⟨p5, q5, rfl, hk5.mono fun b (hb' : w'.heap.size ≤ b) _ => ⟨Nat.le_trans hpr.size hb', var_off u6 f6 hb', var_off u7 f7 hb', var_off u8 f8 hb'⟩⟩), (fun h => (f3 (by rwa [hun 3 (by decide)] at h)).pr hb), (fun h => (f5 (by rwa [hun 5 (by decide)] at h)).pr hb), (fun h => (f6 (by rwa [hun 6 (by decide)] at h)).pr hb), (fun h => (f7 (by rwa [hun 7 (by decide)] at h)).pr hb), (fun h => (f8 (by rwa [hun 8 (by decide)] at h)).pr hb), (fun h => by have h2 := d9r (by rwa [hun 9 (by decide)] at h); rw [getD_un (ready_dep hi rfl).1] at h2; cases h2), (fun h => (f10 (by rwa [hun 10 (by decide)] at h)).pr hb), (fun h => (f11 (by rwa [hun 11 (by decide)] at h)).pr hb), (fun h => u6 (by rwa [hun 6 (by decide)] at h)), (fun h => u7 (by rwa [hun 7 (by decide)] at h)), (fun h => u8 (by rwa [hun 8 (by decide)] at h)), (fun h h' => n67 (by rwa [hun 6 (by decide)] at h) (by rwa [hun 7 (by decide)] at h')), (fun h h' => n68 (by rwa [hun 6 (by decide)] at h) (by rwa [hun 8 (by decide)] at h')), (fun h h' => n78 (by rwa [hun 7 (by decide)] at h) (by rwa [hun 8 (by decide)] at h')), (fun h => by rw [hun 6 (by decide)]; exact d9v (by rwa [hun 9 (by decide)] at h)), (fun _ => setD_eq (ready_dep hi rfl).1), (fun h => by rw [hun 7 (by decide)]; exact d10v (by rwa [hun 10 (by decide)] at h)), (fun h => by rw [hun 3 (by decide)]; exact d10r (by rwa [hun 10 (by decide)] at h)), (fun h => by rw [hun 8 (by decide)]; exact d11v (by rwa [hun 11 (by decide)] at h)), (fun h => by rw [hun 5 (by decide)]; exact d11r (by rwa [hun 11 (by decide)] at h))⟩
      · refine wpOp_step rfl (fun K hK => ?_)
        simp only [Act.put, List.setIfInBounds_toArray, List.set_cons_zero, List.set_cons_succ]
        have x0 := X2 _ hpr; have x1 := X3 _ hpr
        go_simp
        exact hK _ _ ⟨v40, v41, .agg #[.string l1, .slice o1 k1.length c1], v43, v44, v45, v11, v12, v13, by simp [Act.put], hpr, (fun h => f0 (by rwa [hun 0 (by decide)] at h)), (fun _ => rfl), (fun h => f4 (by rwa [hun 4 (by decide)] at h)), (fun h => f1 (by rwa [hun 1 (by decide)] at h)), (fun h => f3 (by rwa [hun 3 (by decide)] at h)), (fun h => f5 (by rwa [hun 5 (by decide)] at h)), (fun h => f6 (by rwa [hun 6 (by decide)] at h)), (fun h => f7 (by rwa [hun 7 (by decide)] at h)), (fun h => f8 (by rwa [hun 8 (by decide)] at h)), (fun h => f9 (by rwa [hun 9 (by decide)] at h)), (fun h => f10 (by rwa [hun 10 (by decide)] at h)), (fun h => f11 (by rwa [hun 11 (by decide)] at h)), (fun h => u6 (by rwa [hun 6 (by decide)] at h)), (fun h => u7 (by rwa [hun 7 (by decide)] at h)), (fun h => u8 (by rwa [hun 8 (by decide)] at h)), (fun h h' => n67 (by rwa [hun 6 (by decide)] at h) (by rwa [hun 7 (by decide)] at h')), (fun h h' => n68 (by rwa [hun 6 (by decide)] at h) (by rwa [hun 8 (by decide)] at h')), (fun h h' => n78 (by rwa [hun 7 (by decide)] at h) (by rwa [hun 8 (by decide)] at h')), (fun h => by rw [hun 6 (by decide)]; exact d9v (by rwa [hun 9 (by decide)] at h)), (fun h => by rw [hun 1 (by decide)]; exact d9r (by rwa [hun 9 (by decide)] at h)), (fun h => by rw [hun 7 (by decide)]; exact d10v (by rwa [hun 10 (by decide)] at h)), (fun h => by rw [hun 3 (by decide)]; exact d10r (by rwa [hun 10 (by decide)] at h)), (fun h => by rw [hun 8 (by decide)]; exact d11v (by rwa [hun 11 (by decide)] at h)), (fun h => by rw [hun 5 (by decide)]; exact d11r (by rwa [hun 11 (by decide)] at h))⟩
      · refine wpOp_step rfl (fun K hK => ?_)
        simp only [Act.put, List.setIfInBounds_toArray, List.set_cons_zero, List.set_cons_succ]
        have hd0 := (ready_dep hi rfl).2 { on := 2, ground := .data } (by simp) (by kernel_rfl)
        obtain rfl := f2 hd0
        go_simp
        go_at_call 16
        refine (O1.out _ hpr).mono ?_
        rintro e w5 ⟨p5, q5, rfl, hk5, hb⟩
        exact hK _ _ ⟨v40, v41, .agg #[.string l1, .slice o1 k1.length c1], .agg #[.string l1, .slice p5 k1.length q5], v44, v45, v11, v12, v13, by simp [Act.put], hpr.trans hb, (fun h => f0 (by rwa [hun 0 (by decide)] at h)), (fun h => f2 (by rwa [hun 2 (by decide)] at h)), (fun h => f4 (by rwa [hun 4 (by decide)] at h)), (fun h => (f1 (by rwa [hun 1 (by decide)] at h)).pr hb), (fun _ => ⟨p5, q5, rfl, hk5.mono fun b (hb' : w'.heap.size ≤ b) _ => ⟨Nat.le_trans hpr.size hb', var_off u6 f6 hb', var_off u7 f7 hb', var_off u8 f8 hb'⟩⟩), (fun h => (f5 (by rwa [hun 5 (by decide)] at h)).pr hb), (fun h => (f6 (by rwa [hun 6 (by decide)] at h)).pr hb), (fun h => (f7 (by rwa [hun 7 (by decide)] at h)).pr hb), (fun h => (f8 (by rwa [hun 8 (by decide)] at h)).pr hb), (fun h => (f9 (by rwa [hun 9 (by decide)] at h)).pr hb), (fun h => by have h2 := d10r (by rwa [hun 10 (by decide)] at h); rw [getD_un (ready_dep hi rfl).1] at h2; cases h2), (fun h => (f11 (by rwa [hun 11 (by decide)] at h)).pr hb), (fun h => u6 (by rwa [hun 6 (by decide)] at h)), (fun h => u7 (by rwa [hun 7 (by decide)] at h)), (fun h => u8 (by rwa [hun 8 (by decide)] at h)), (fun h h' => n67 (by rwa [hun 6 (by decide)] at h) (by rwa [hun 7 (by decide)] at h')), (fun h h' => n68 (by rwa [hun 6 (by decide)] at h) (by rwa [hun 8 (by decide)] at h')), (fun h h' => n78 (by rwa [hun 7 (by decide)] at h) (by rwa [hun 8 (by decide)] at h')), (fun h => by rw [hun 6 (by decide)]; exact d9v (by rwa [hun 9 (by decide)] at h)), (fun h => by rw [hun 1 (by decide)]; exact d9r (by rwa [hun 9 (by decide)] at h)), (fun h => by rw [hun 7 (by decide)]; exact d10v (by rwa [hun 10 (by decide)] at h)), (fun _ => setD_eq (ready_dep hi rfl).1), (fun h => by rw [hun 8 (by decide)]; exact d11v (by rwa [hun 11 (by decide)] at h)), (fun h => by rw [hun 5 (by decide)]; exact d11r (by rwa [hun 11 (by decide)] at h))⟩
      · refine wpOp_step rfl (fun K hK => ?_)
        simp only [Act.put, List.setIfInBounds_toArray, List.set_cons_zero, List.set_cons_succ]
        have x0 := X4 _ hpr; have x1 := X5 _ hpr
        go_simp
        exact hK _ _ ⟨v40, v41, v42, v43, .agg #[.string l2, .slice o2 k2.length c2], v45, v11, v12, v13, by simp [Act.put], hpr, (fun h => f0 (by rwa [hun 0 (by decide)] at h)), (fun h => f2 (by rwa [hun 2 (by decide)] at h)), (fun _ => rfl), (fun h => f1 (by rwa [hun 1 (by decide)] at h)), (fun h => f3 (by rwa [hun 3 (by decide)] at h)), (fun h => f5 (by rwa [hun 5 (by decide)] at h)), (fun h => f6 (by rwa [hun 6 (by decide)] at h)), (fun h => f7 (by rwa [hun 7 (by decide)] at h)), (fun h => f8 (by rwa [hun 8 (by decide)] at h)), (fun h => f9 (by rwa [hun 9 (by decide)] at h)), (fun h => f10 (by rwa [hun 10 (by decide)] at h)), (fun h => f11 (by rwa [hun 11 (by decide)] at h)), (fun h => u6 (by rwa [hun 6 (by decide)] at h)), (fun h => u7 (by rwa [hun 7 (by decide)] at h)), (fun h => u8 (by rwa [hun 8 (by decide)] at h)), (fun h h' => n67 (by rwa [hun 6 (by decide)] at h) (by rwa [hun 7 (by decide)] at h')), (fun h h' => n68 (by rwa [hun 6 (by decide)] at h) (by rwa [hun 8 (by decide)] at h')), (fun h h' => n78 (by rwa [hun 7 (by decide)] at h) (by rwa [hun 8 (by decide)] at h')), (fun h => by rw [hun 6 (by decide)]; exact d9v (by rwa [hun 9 (by decide)] at h)), (fun h => by rw [hun 1 (by decide)]; exact d9r (by rwa [hun 9 (by decide)] at h)), (fun h => by rw [hun 7 (by decide)]; exact d10v (by rwa [hun 10 (by decide)] at h)), (fun h => by rw [hun 3 (by decide)]; exact d10r (by rwa [hun 10 (by decide)] at h)), (fun h => by rw [hun 8 (by decide)]; exact d11v (by rwa [hun 11 (by decide)] at h)), (fun h => by rw [hun 5 (by decide)]; exact d11r (by rwa [hun 11 (by decide)] at h))⟩
      · refine wpOp_step rfl (fun K hK => ?_)
        simp only [Act.put, List.setIfInBounds_toArray, List.set_cons_zero, List.set_cons_succ]
        have hd0 := (ready_dep hi rfl).2 { on := 4, ground := .data } (by simp) (by kernel_rfl)
        obtain rfl := f4 hd0
        go_simp
        go_at_call 16
        refine (O2.out _ hpr).mono ?_
        rintro e w5 ⟨p5, q5, rfl, hk5, hb⟩
        exact hK _ _ ⟨v40, v41, v42, v43, .agg #[.string l2, .slice o2 k2.length c2], .agg #[.string l2, .slice p5 k2.length q5], v11, v12, v13, by simp [Act.put], hpr.trans hb, (fun h => f0 (by rwa [hun 0 (by decide)] at h)), (fun h => f2 (by rwa [hun 2 (by decide)] at h)), (fun h => f4 (by rwa [hun 4 (by decide)] at h)), (fun h => (f1 (by rwa [hun 1 (by decide)] at h)).pr hb), (fun h => (f3 (by rwa [hun 3 (by decide)] at h)).pr hb), (fun _ => ⟨p5, q5, rfl, hk5.mono fun b (hb' : w'.heap.size ≤ b) _ => ⟨Nat.le_trans hpr.size hb', var_off u6 f6 hb', var_off u7 f7 hb', var_off u8 f8 hb'⟩⟩), (fun h => (f6 (by rwa [hun 6 (by decide)] at h)).pr hb), (fun h => (f7 (by rwa [hun 7 (by decide)] at h)).pr hb), (fun h => (f8 (by rwa [hun 8 (by decide)] at h)).pr hb), (fun h => (f9 (by rwa [hun 9 (by decide)] at h)).pr hb), (fun h => (f10 (by rwa [hun 10 (by decide)] at h)).pr hb), (fun h => by have h2 := d11r (by rwa [hun 11 (by decide)] at h); rw [getD_un (ready_dep hi rfl).1] at h2; cases h2), (fun h => u6 (by rwa [hun 6 (by decide)] at h)), (fun h => u7 (by rwa [hun 7 (by decide)] at h)), (fun h => u8 (by rwa [hun 8 (by decide)] at h)), (fun h h' => n67 (by rwa [hun 6 (by decide)] at h) (by rwa [hun 7 (by decide)] at h')), (fun h h' => n68 (by rwa [hun 6 (by decide)] at h) (by rwa [hun 8 (by decide)] at h')), (fun h h' => n78 (by rwa [hun 7 (by decide)] at h) (by rwa [hun 8 (by decide)] at h')), (fun h => by rw [hun 6 (by decide)]; exact d9v (by rwa [hun 9 (by decide)] at h)), (fun h => by rw [hun 1 (by decide)]; exact d9r (by rwa [hun 9 (by decide)] at h)), (fun h => by rw [hun 7 (by decide)]; exact d10v (by rwa [hun 10 (by decide)] at h)), (fun h => by rw [hun 3 (by decide)]; exact d10r (by rwa [hun 10 (by decide)] at h)), (fun h => by rw [hun 8 (by decide)]; exact d11v (by rwa [hun 11 (by decide)] at h)), (fun _ => setD_eq (ready_dep hi rfl).1)⟩
      · refine wpOp_step rfl (fun K hK => ?_)
        simp only [Act.put, List.setIfInBounds_toArray, List.set_cons_zero, List.set_cons_succ]
        go_simp
        exact hK _ _ ⟨v40, v41, v42, v43, v44, v45, (.pointer (some ⟨w'.heap.size, 0, none⟩)), v12, v13, by simp [Act.put], hpr.alloc' _, (fun h => f0 (by rwa [hun 0 (by decide)] at h)), (fun h => f2 (by rwa [hun 2 (by decide)] at h)), (fun h => f4 (by rwa [hun 4 (by decide)] at h)), (fun h => (f1 (by rwa [hun 1 (by decide)] at h)).carry fun k' hl _ b c d => ⟨Below.block (Pr.alloc _ _) k' hl, fun e => by have := Bp.inj e; omega, c, d⟩), (fun h => (f3 (by rwa [hun 3 (by decide)] at h)).carry fun k' hl _ b c d => ⟨Below.block (Pr.alloc _ _) k' hl, fun e => by have := Bp.inj e; omega, c, d⟩), (fun h => (f5 (by rwa [hun 5 (by decide)] at h)).carry fun k' hl _ b c d => ⟨Below.block (Pr.alloc _ _) k' hl, fun e => by have := Bp.inj e; omega, c, d⟩), (fun _ => ⟨w'.heap.size, _, _, rfl, hpr.size, heap_alloc_new _ _⟩), (fun h => (f7 (by rwa [hun 7 (by decide)] at h)).pr (Pr.alloc _ _)), (fun h => (f8 (by rwa [hun 8 (by decide)] at h)).pr (Pr.alloc _ _)), (fun h => by have h2 := d9v (by rwa [hun 9 (by decide)] at h); rw [getD_un (ready_dep hi rfl).1] at h2; cases h2), (fun h => (f10 (by rwa [hun 10 (by decide)] at h)).pr (Pr.alloc _ _)), (fun h => (f11 (by rwa [hun 11 (by decide)] at h)).pr (Pr.alloc _ _)), (fun h => by rw [setD_eq (ready_dep hi rfl).1] at h; cases h), (fun h => u7 (by rwa [hun 7 (by decide)] at h)), (fun h => u8 (by rwa [hun 8 (by decide)] at h)), (fun _ h => fun e => by obtain ⟨T, x, y, h1, _, h3⟩ := f7 (by rwa [hun 7 (by decide)] at h); rw [h1] at e; have := Bp.inj e; have := blk_lt h3; omega), (fun _ h => fun e => by obtain ⟨T, x, y, h1, _, h3⟩ := f8 (by rwa [hun 8 (by decide)] at h); rw [h1] at e; have := Bp.inj e; have := blk_lt h3; omega), (fun h h' => n78 (by rwa [hun 7 (by decide)] at h) (by rwa [hun 8 (by decide)] at h')), (fun _ => setD_eq (ready_dep hi rfl).1), (fun h => by rw [hun 1 (by decide)]; exact d9r (by rwa [hun 9 (by decide)] at h)), (fun h => by rw [hun 7 (by decide)]; exact d10v (by rwa [hun 10 (by decide)] at h)), (fun h => by rw [hun 3 (by decide)]; exact d10r (by rwa [hun 10 (by decide)] at h)), (fun h => by rw [hun 8 (by decide)]; exact d11v (by rwa [hun 11 (by decide)] at h)), (fun h => by rw [hun 5 (by decide)]; exact d11r (by rwa [hun 11 (by decide)] at h))⟩
      · refine wpOp_step rfl (fun K hK => ?_)
        simp only [Act.put, List.setIfInBounds_toArray, List.set_cons_zero, List.set_cons_succ]
        go_simp
        exact hK _ _ ⟨v40, v41, v42, v43, v44, v45, v11, (.pointer (some ⟨w'.heap.size, 0, none⟩)), v13, by simp [Act.put], hpr.alloc' _, (fun h => f0 (by rwa [hun 0 (by decide)] at h)), (fun h => f2 (by rwa [hun 2 (by decide)] at h)), (fun h => f4 (by rwa [hun 4 (by decide)] at h)), (fun h => (f1 (by rwa [hun 1 (by decide)] at h)).carry fun k' hl _ b c d => ⟨Below.block (Pr.alloc _ _) k' hl, b, fun e => by have := Bp.inj e; omega, d⟩), (fun h => (f3 (by rwa [hun 3 (by decide)] at h)).carry fun k' hl _ b c d => ⟨Below.block (Pr.alloc _ _) k' hl, b, fun e => by have := Bp.inj e; omega, d⟩), (fun h => (f5 (by rwa [hun 5 (by decide)] at h)).carry fun k' hl _ b c d => ⟨Below.block (Pr.alloc _ _) k' hl, b, fun e => by have := Bp.inj e; omega, d⟩), (fun h => (f6 (by rwa [hun 6 (by decide)] at h)).pr (Pr.alloc _ _)), (fun _ => ⟨w'.heap.size, _, _, rfl, hpr.size, heap_alloc_new _ _⟩), (fun h => (f8 (by rwa [hun 8 (by decide)] at h)).pr (Pr.alloc _ _)), (fun h => (f9 (by rwa [hun 9 (by decide)] at h)).pr (Pr.alloc _ _)), (fun h => by have h2 := d10v (by rwa [hun 10 (by decide)] at h); rw [getD_un (ready_dep hi rfl).1] at h2; cases h2), (fun h => (f11 (by rwa [hun 11 (by decide)] at h)).pr (Pr.alloc _ _)), (fun h => u6 (by rwa [hun 6 (by decide)] at h)), (fun h => by rw [setD_eq (ready_dep hi rfl).1] at h; cases h), (fun h => u8 (by rwa [hun 8 (by decide)] at h)), (fun h _ => fun e => by obtain ⟨T, x, y, h1, _, h3⟩ := f6 (by rwa [hun 6 (by decide)] at h); rw [h1] at e; have := Bp.inj e; have := blk_lt h3; omega), (fun h h' => n68 (by rwa [hun 6 (by decide)] at h) (by rwa [hun 8 (by decide)] at h')), (fun _ h => fun e => by obtain ⟨T, x, y, h1, _, h3⟩ := f8 (by rwa [hun 8 (by decide)] at h); rw [h1] at e; have := Bp.inj e; have := blk_lt h3; omega), (fun h => by rw [hun 6 (by decide)]; exact d9v (by rwa [hun 9 (by decide)] at h)), (fun h => by rw [hun 1 (by decide)]; exact d9r (by rwa [hun 9 (by decide)] at h)), (fun _ => setD_eq (ready_dep hi rfl).1), (fun h => by rw [hun 3 (by decide)]; exact d10r (by rwa [hun 10 (by decide)] at h)), (fun h => by rw [hun 8 (by decide)]; exact d11v (by rwa [hun 11 (by decide)] at h)), (fun h => by rw [hun 5 (by decide)]; exact d11r (by rwa [hun 11 (by decide)] at h))⟩
      · refine wpOp_step rfl (fun K hK => ?_)
        simp only [Act.put, List.setIfInBounds_toArray, List.set_cons_zero, List.set_cons_succ]
        go_simp
        exact hK _ _ ⟨v40, v41, v42, v43, v44, v45, v11, v12, (.pointer (some ⟨w'.heap.size, 0, none⟩)), by simp [Act.put], hpr.alloc' _, (fun h => f0 (by rwa [hun 0 (by decide)] at h)), (fun h => f2 (by rwa [hun 2 (by decide)] at h)), (fun h => f4 (by rwa [hun 4 (by decide)] at h)), (fun h => (f1 (by rwa [hun 1 (by decide)] at h)).carry fun k' hl _ b c d => ⟨Below.block (Pr.alloc _ _) k' hl, b, c, fun e => by have := Bp.inj e; omega⟩), (fun h => (f3 (by rwa [hun 3 (by decide)] at h)).carry fun k' hl _ b c d => ⟨Below.block (Pr.alloc _ _) k' hl, b, c, fun e => by have := Bp.inj e; omega⟩), (fun h => (f5 (by rwa [hun 5 (by decide)] at h)).carry fun k' hl _ b c d => ⟨Below.block (Pr.alloc _ _) k' hl, b, c, fun e => by have := Bp.inj e; omega⟩), (fun h => (f6 (by rwa [hun 6 (by decide)] at h)).pr (Pr.alloc _ _)), (fun h => (f7 (by rwa [hun 7 (by decide)] at h)).pr (Pr.alloc _ _)), (fun _ => ⟨w'.heap.size, _, _, rfl, hpr.size, heap_alloc_new _ _⟩), (fun h => (f9 (by rwa [hun 9 (by decide)] at h)).pr (Pr.alloc _ _)), (fun h => (f10 (by rwa [hun 10 (by decide)] at h)).pr (Pr.alloc _ _)), (fun h => by have h2 := d11v (by rwa [hun 11 (by decide)] at h); rw [getD_un (ready_dep hi rfl).1] at h2; cases h2), (fun h => u6 (by rwa [hun 6 (by decide)] at h)), (fun h => u7 (by rwa [hun 7 (by decide)] at h)), (fun h => by rw [setD_eq (ready_dep hi rfl).1] at h; cases h), (fun h h' => n67 (by rwa [hun 6 (by decide)] at h) (by rwa [hun 7 (by decide)] at h')), (fun h _ => fun e => by obtain ⟨T, x, y, h1, _, h3⟩ := f6 (by rwa [hun 6 (by decide)] at h); rw [h1] at e; have := Bp.inj e; have := blk_lt h3; omega), (fun h _ => fun e => by obtain ⟨T, x, y, h1, _, h3⟩ := f7 (by rwa [hun 7 (by decide)] at h); rw [h1] at e; have := Bp.inj e; have := blk_lt h3; omega), (fun h => by rw [hun 6 (by decide)]; exact d9v (by rwa [hun 9 (by decide)] at h)), (fun h => by rw [hun 1 (by decide)]; exact d9r (by rwa [hun 9 (by decide)] at h)), (fun h => by rw [hun 7 (by decide)]; exact d10v (by rwa [hun 10 (by decide)] at h)), (fun h => by rw [hun 3 (by decide)]; exact d10r (by rwa [hun 10 (by decide)] at h)), (fun _ => setD_eq (ready_dep hi rfl).1), (fun h => by rw [hun 5 (by decide)]; exact d11r (by rwa [hun 11 (by decide)] at h))⟩
      · refine wpOp_step rfl (fun K hK => ?_)
        simp only [Act.put, List.setIfInBounds_toArray, List.set_cons_zero, List.set_cons_succ]
        have hdv := (ready_dep hi rfl).2 { on := 6, ground := .data } (by simp) (by kernel_rfl)
        have hdr := (ready_dep hi rfl).2 { on := 1, ground := .data } (by simp) (by kernel_rfl)
        obtain ⟨T, x, y, rfl, hT, hTb⟩ := f6 hdv
        obtain ⟨p5, q5, rfl, hk5⟩ := f1 hdr
        have z0 := blk_cell (o := 0) hTb; have z1 := blk_cell (o := 1) hTb; have z2 : w'.frozen? ⟨T, 0, none⟩ = false := blk_frozen hTb; have z3 : w'.frozen? ⟨T, 1, none⟩ = false := blk_frozen hTb
        have hB := blk_set (o := 1) (blk_set (o := 0) hTb (.string l0)) (.slice p5 k0.length q5)
        simp only [List.getElem?_toArray, List.getElem?_cons_zero, List.getElem?_cons_succ] at z0 z1
        go_simp
        exact hK _ _ ⟨v40, (.agg #[.string l0, .slice p5 k0.length q5]), v42, v43, v44, v45, (.pointer (some ⟨T, 0, none⟩)), v12, v13, by simp [Act.put], (hpr.setCell hT _).setCell hT _, (fun h => f0 (by rwa [hun 0 (by decide)] at h)), (fun h => f2 (by rwa [hun 2 (by decide)] at h)), (fun h => f4 (by rwa [hun 4 (by decide)] at h)), (fun h => (f1 (by rwa [hun 1 (by decide)] at h)).carry fun k' hl _ b c d => ⟨own_far (fun e => b (by rw [e])) _ _, b, c, d⟩), (fun h => (f3 (by rwa [hun 3 (by decide)] at h)).carry fun k' hl _ b c d => ⟨own_far (fun e => b (by rw [e])) _ _, b, c, d⟩), (fun h => (f5 (by rwa [hun 5 (by decide)] at h)).carry fun k' hl _ b c d => ⟨own_far (fun e => b (by rw [e])) _ _, b, c, d⟩), (fun _ => ⟨T, _, _, rfl, hT, hB⟩), (fun h => (f7 (by rwa [hun 7 (by decide)] at h)).far (fun e => n67 hdv (by rwa [hun 7 (by decide)] at h) e.symm) _ _), (fun h => (f8 (by rwa [hun 8 (by decide)] at h)).far (fun e => n68 hdv (by rwa [hun 8 (by decide)] at h) e.symm) _ _), (fun _ => ⟨T, _, _, rfl, rfl, hB⟩), (fun h => (f10 (by rwa [hun 10 (by decide)] at h)).far (fun e => n67 hdv (d10v (by rwa [hun 10 (by decide)] at h)) e.symm) _ _), (fun h => (f11 (by rwa [hun 11 (by decide)] at h)).far (fun e => n68 hdv (d11v (by rwa [hun 11 (by decide)] at h)) e.symm) _ _), (fun h => u6 (by rwa [hun 6 (by decide)] at h)), (fun h => u7 (by rwa [hun 7 (by decide)] at h)), (fun h => u8 (by rwa [hun 8 (by decide)] at h)), (fun h h' => n67 (by rwa [hun 6 (by decide)] at h) (by rwa [hun 7 (by decide)] at h')), (fun h h' => n68 (by rwa [hun 6 (by decide)] at h) (by rwa [hun 8 (by decide)] at h')), (fun h h' => n78 (by rwa [hun 7 (by decide)] at h) (by rwa [hun 8 (by decide)] at h')), (fun _ => by rw [hun 6 (by decide)]; exact hdv), (fun _ => by rw [hun 1 (by decide)]; exact hdr), (fun h => by rw [hun 7 (by decide)]; exact d10v (by rwa [hun 10 (by decide)] at h)), (fun h => by rw [hun 3 (by decide)]; exact d10r (by rwa [hun 10 (by decide)] at h)), (fun h => by rw [hun 8 (by decide)]; exact d11v (by rwa [hun 11 (by decide)] at h)), (fun h => by rw [hun 5 (by decide)]; exact d11r (by rwa [hun 11 (by decide)] at h))⟩
      · refine wpOp_step rfl (fun K hK => ?_)
        simp only [Act.put, List.setIfInBounds_toArray, List.set_cons_zero, List.set_cons_succ]
        have hdv := (ready_dep hi rfl).2 { on := 7, ground := .data } (by simp) (by kernel_rfl)
        have hdr := (ready_dep hi rfl).2 { on := 3, ground := .data } (by simp) (by kernel_rfl)
        obtain ⟨T, x, y, rfl, hT, hTb⟩ := f7 hdv
        obtain ⟨p5, q5, rfl, hk5⟩ := f3 hdr
        have z0 := blk_cell (o := 0) hTb; have z1 := blk_cell (o := 1) hTb; have z2 : w'.frozen? ⟨T, 0, none⟩ = false := blk_frozen hTb; have z3 : w'.frozen? ⟨T, 1, none⟩ = false := blk_frozen hTb
        have hB := blk_set (o := 1) (blk_set (o := 0) hTb (.string l1)) (.slice p5 k1.length q5)
        simp only [List.getElem?_toArray, List.getElem?_cons_zero, List.getElem?_cons_succ] at z0 z1
        go_simp
        exact hK _ _ ⟨v40, v41, v42, (.agg #[.string l1, .slice p5 k1.length q5]), v44, v45, v11, (.pointer (some ⟨T, 0, none⟩)), v13, by simp [Act.put], (hpr.setCell hT _).setCell hT _, (fun h => f0 (by rwa [hun 0 (by decide)] at h)), (fun h => f2 (by rwa [hun 2 (by decide)] at h)), (fun h => f4 (by rwa [hun 4 (by decide)] at h)), (fun h => (f1 (by rwa [hun 1 (by decide)] at h)).carry fun k' hl _ b c d => ⟨own_far (fun e => c (by rw [e])) _ _, b, c, d⟩), (fun h => (f3 (by rwa [hun 3 (by decide)] at h)).carry fun k' hl _ b c d => ⟨own_far (fun e => c (by rw [e])) _ _, b, c, d⟩), (fun h => (f5 (by rwa [hun 5 (by decide)] at h)).carry fun k' hl _ b c d => ⟨own_far (fun e => c (by rw [e])) _ _, b, c, d⟩), (fun h => (f6 (by rwa [hun 6 (by decide)] at h)).far (n67 (by rwa [hun 6 (by decide)] at h) hdv) _ _), (fun _ => ⟨T, _, _, rfl, hT, hB⟩), (fun h => (f8 (by rwa [hun 8 (by decide)] at h)).far (fun e => n78 hdv (by rwa [hun 8 (by decide)] at h) e.symm) _ _), (fun h => (f9 (by rwa [hun 9 (by decide)] at h)).far (n67 (d9v (by rwa [hun 9 (by decide)] at h)) hdv) _ _), (fun _ => ⟨T, _, _, rfl, rfl, hB⟩), (fun h => (f11 (by rwa [hun 11 (by decide)] at h)).far (fun e => n78 hdv (d11v (by rwa [hun 11 (by decide)] at h)) e.symm) _ _), (fun h => u6 (by rwa [hun 6 (by decide)] at h)), (fun h => u7 (by rwa [hun 7 (by decide)] at h)), (fun h => u8 (by rwa [hun 8 (by decide)] at h)), (fun h h' => n67 (by rwa [hun 6 (by decide)] at h) (by rwa [hun 7 (by decide)] at h')), (fun h h' => n68 (by rwa [hun 6 (by decide)] at h) (by rwa [hun 8 (by decide)] at h')), (fun h h' => n78 (by rwa [hun 7 (by decide)] at h) (by rwa [hun 8 (by decide)] at h')), (fun h => by rw [hun 6 (by decide)]; exact d9v (by rwa [hun 9 (by decide)] at h)), (fun h => by rw [hun 1 (by decide)]; exact d9r (by rwa [hun 9 (by decide)] at h)), (fun _ => by rw [hun 7 (by decide)]; exact hdv), (fun _ => by rw [hun 3 (by decide)]; exact hdr), (fun h => by rw [hun 8 (by decide)]; exact d11v (by rwa [hun 11 (by decide)] at h)), (fun h => by rw [hun 5 (by decide)]; exact d11r (by rwa [hun 11 (by decide)] at h))⟩
      · refine wpOp_step rfl (fun K hK => ?_)
        simp only [Act.put, List.setIfInBounds_toArray, List.set_cons_zero, List.set_cons_succ]
        have hdv := (ready_dep hi rfl).2 { on := 8, ground := .data } (by simp) (by kernel_rfl)
        have hdr := (ready_dep hi rfl).2 { on := 5, ground := .data } (by simp) (by kernel_rfl)
        obtain ⟨T, x, y, rfl, hT, hTb⟩ := f8 hdv
        obtain ⟨p5, q5, rfl, hk5⟩ := f5 hdr
        have z0 := blk_cell (o := 0) hTb; have z1 := blk_cell (o := 1) hTb; have z2 : w'.frozen? ⟨T, 0, none⟩ = false := blk_frozen hTb; have z3 : w'.frozen? ⟨T, 1, none⟩ = false := blk_frozen hTb
        have hB := blk_set (o := 1) (blk_set (o := 0) hTb (.string l2)) (.slice p5 k2.length q5)
        simp only [List.getElem?_toArray, List.getElem?_cons_zero, List.getElem?_cons_succ] at z0 z1
        go_simp
        exact hK _ _ ⟨v40, v41, v42, v43, v44, (.agg #[.string l2, .slice p5 k2.length q5]), v11, v12, (.pointer (some ⟨T, 0, none⟩)), by simp [Act.put], (hpr.setCell hT _).setCell hT _, (fun h => f0 (by rwa [hun 0 (by decide)] at h)), (fun h => f2 (by rwa [hun 2 (by decide)] at h)), (fun h => f4 (by rwa [hun 4 (by decide)] at h)), (fun h => (f1 (by rwa [hun 1 (by decide)] at h)).carry fun k' hl _ b c d => ⟨own_far (fun e => d (by rw [e])) _ _, b, c, d⟩), (fun h => (f3 (by rwa [hun 3 (by decide)] at h)).carry fun k' hl _ b c d => ⟨own_far (fun e => d (by rw [e])) _ _, b, c, d⟩), (fun h => (f5 (by rwa [hun 5 (by decide)] at h)).carry fun k' hl _ b c d => ⟨own_far (fun e => d (by rw [e])) _ _, b, c, d⟩), (fun h => (f6 (by rwa [hun 6 (by decide)] at h)).far (n68 (by rwa [hun 6 (by decide)] at h) hdv) _ _), (fun h => (f7 (by rwa [hun 7 (by decide)] at h)).far (n78 (by rwa [hun 7 (by decide)] at h) hdv) _ _), (fun _ => ⟨T, _, _, rfl, hT, hB⟩), (fun h => (f9 (by rwa [hun 9 (by decide)] at h)).far (n68 (d9v (by rwa [hun 9 (by decide)] at h)) hdv) _ _), (fun h => (f10 (by rwa [hun 10 (by decide)] at h)).far (n78 (d10v (by rwa [hun 10 (by decide)] at h)) hdv) _ _), (fun _ => ⟨T, _, _, rfl, rfl, hB⟩), (fun h => u6 (by rwa [hun 6 (by decide)] at h)), (fun h => u7 (by rwa [hun 7 (by decide)] at h)), (fun h => u8 (by rwa [hun 8 (by decide)] at h)), (fun h h' => n67 (by rwa [hun 6 (by decide)] at h) (by rwa [hun 7 (by decide)] at h')), (fun h h' => n68 (by rwa [hun 6 (by decide)] at h) (by rwa [hun 8 (by decide)] at h')), (fun h h' => n78 (by rwa [hun 7 (by decide)] at h) (by rwa [hun 8 (by decide)] at h')), (fun h => by rw [hun 6 (by decide)]; exact d9v (by rwa [hun 9 (by decide)] at h)), (fun h => by rw [hun 1 (by decide)]; exact d9r (by rwa [hun 9 (by decide)] at h)), (fun h => by rw [hun 7 (by decide)]; exact d10v (by rwa [hun 10 (by decide)] at h)), (fun h => by rw [hun 3 (by decide)]; exact d10r (by rwa [hun 10 (by decide)] at h)), (fun _ => by rw [hun 8 (by decide)]; exact hdv), (fun _ => by rw [hun 5 (by decide)]; exact hdr)⟩
    · intro L a' w' hall hI
      obtain ⟨v40, v41, v42, v43, v44, v45, v11, v12, v13, rfl, hpr, f0, f2, f4, f1, f3, f5, f6, f7, f8, f9, f10, f11, u6, u7, u8, n67, n68, n78, d9v, d9r, d10v, d10r, d11v, d11r⟩ := hI
      have h1 := f1 (hall 1 (by decide)); have h3 := f3 (hall 3 (by decide)); have h5 := f5 (hall 5 (by decide))
      have h9 := f9 (hall 9 (by decide)); have h10 := f10 (hall 10 (by decide)); have h11 := f11 (hall 11 (by decide))
      clear f0 f2 f4 f1 f3 f5 f6 f7 f8 f9 f10 f11 u6 u7 u8 n67 n68 n78 d9v d9r d10v d10r d11v d11r hall
      obtain ⟨T1, x1, y1, rfl, rfl, hB1⟩ := h9
      obtain ⟨T2, x2, y2, rfl, rfl, hB2⟩ := h10
      obtain ⟨T3, x3, y3, rfl, rfl, hB3⟩ := h11
      obtain ⟨p1, q1, e1, K1⟩ := h1
      obtain ⟨p2, q2, e2, K2⟩ := h3
      obtain ⟨p3, q3, e3, K3⟩ := h5
      obtain ⟨rfl, rfl⟩ : x1 = .string l0 ∧ y1 = .slice p1 k0.length q1 := by simpa using e1
      obtain ⟨rfl, rfl⟩ : x2 = .string l1 ∧ y2 = .slice p2 k1.length q2 := by simpa using e2
      obtain ⟨rfl, rfl⟩ : x3 = .string l2 ∧ y3 = .slice p3 k2.length q3 := by simpa using e3
      simp only [Act.put, List.setIfInBounds_toArray, List.set_cons_zero, List.set_cons_succ]
      have hR := Lib.hid (show _ ∧ _ ∧ _ ∧ _ ∧ _ ∧ _ ∧ _ from ⟨hB1, hB2, hB3, K1.any, K2.any, K3.any, hpr⟩)
      clear e1 e2 e3 hB1 hB2 hB3 K1 K2 K3 hpr
      go_wp2_with fail
      go_meet
      case rel => exact ⟨T1, T2, T3, p1, q1, p2, q2, p3, q3, rfl, rfl, rfl, hR.out⟩
  case rest =>
  obtain ⟨T1, T2, T3, p1, q1, p2, q2, p3, q3, rfl, rfl, rfl, hB1, hB2, hB3, hk1, hk2, hk3, hq⟩ := hcut
  obtain ⟨w3, hw3⟩ : ∃ w3, w3 = wc := ⟨_, rfl⟩
  subst hw3
  obtain ⟨l, ks, p, c, hr⟩ : ∃ l ks p c, mergeT (.node l0 k0) (.node l1 k1) (.node l2 k2) = (.node l ks, p, c) := by
    obtain ⟨⟨l, ks⟩, p, c⟩ := mergeT (.node l0 k0) (.node l1 k1) (.node l2 k2)
    exact ⟨l, ks, p, c, rfl⟩
  have hd := Pr.refl w3
  have y0 := stays (show w3.cell? ⟨T1, 0, none⟩ = some (.string l0) from by rw [blk_cell (o := 0) hB1]; rfl)
  have y1 := stays (show w3.cell? ⟨T1, 1, none⟩ = some (.slice p1 k0.length q1) from by rw [blk_cell (o := 1) hB1]; rfl)
  have y2 := stays (show w3.cell? ⟨T2, 0, none⟩ = some (.string l1) from by rw [blk_cell (o := 0) hB2]; rfl)
  have y3 := stays (show w3.cell? ⟨T2, 1, none⟩ = some (.slice p2 k1.length q2) from by rw [blk_cell (o := 1) hB2]; rfl)
  have y4 := stays (show w3.cell? ⟨T3, 0, none⟩ = some (.string l2) from by rw [blk_cell (o := 0) hB3]; rfl)
  have y5 := stays (show w3.cell? ⟨T3, 1, none⟩ = some (.slice p3 k2.length q3) from by rw [blk_cell (o := 1) hB3]; rfl)
  have X0 := stays (X0 _ hq); have X1 := stays (X1 _ hq); have X2 := stays (X2 _ hq); have X3 := stays (X3 _ hq); have X4 := stays (X4 _ hq); have X5 := stays (X5 _ hq)
  have Hq := Lib.hid hq
  have hp3 := (Hp.out.trans hq)
  have M1 : Hid (∀ W', Pr w3 W' → Calls Try.prog 36 #[.agg #[.string l0, .slice p1 k0.length q1], .agg #[.string l1, .slice p2 k1.length q2], .agg #[.string l2, .slice p3 k2.length q3]] W' fun e w' =>
      ((∃ oa cap pa pc, e = .returned (.tuple #[.agg #[.string l, .slice oa ks.length cap], .slice pa p.length pc, .int .i64 c]) ∧ Kids Any w' ks oa cap ∧ Ints Any w' p pa pc) ∧ l.size ≤ maxLen) ∧ Pr W' w') :=
    Lib.hid fun W' h => merge_is hl0 hl1 hl2 (hk1.pr h) (hk2.pr h) (hk3.pr h) l ks p c hr
  have M2 : Hid (∀ W', Pr w3 W' → Calls Try.prog 37 #[.agg #[.string l0, .slice o0 k0.length c0], .agg #[.string l1, .slice o1 k1.length c1], .agg #[.string l2, .slice o2 k2.length c2]] W' fun e w' =>
      ((∃ oa cap pa pc, e = .returned (.tuple #[.agg #[.string l, .slice oa ks.length cap], .slice pa p.length pc, .int .i64 c]) ∧ Kids Any w' ks oa cap ∧ Ints Any w' p pa pc) ∧ l.size ≤ maxLen) ∧ Pr W' w') :=
    Lib.hid fun W' h => rmerge_is hl0 hl1 hl2 (HK0.out.pr (hp3.trans h)) (HK1.out.pr (hp3.trans h)) (HK2.out.pr (hp3.trans h)) l ks p c hr
  have S0 := Lib.hid fun W' (h : Pr w3 W') => tree_yes l0 k0 p1 q1 o0 c0 W' (hk1.pr h) (HK0.out.pr (hp3.trans h))
  have S1 := Lib.hid fun W' (h : Pr w3 W') => tree_yes l1 k1 p2 q2 o1 c1 W' (hk2.pr h) (HK1.out.pr (hp3.trans h))
  have S2 := Lib.hid fun W' (h : Pr w3 W') => tree_yes l2 k2 p3 q3 o2 c2 W' (hk3.pr h) (HK2.out.pr (hp3.trans h))
  have hls := HLs.out.pr (HW.out.trans hp3); have hms := HMs.out.pr (HW.out.trans hp3)
  obtain ⟨cs, hcs⟩ : ∃ cs, cs = pz (common ls ms) := ⟨_, rfl⟩
  have C1 := Lib.hid fun W' (h : Pr w3 W') => common_any ls ms oa cap ob cbp W' (hls.pr h) (hms.pr h) (by have := fl.1; omega) (by have := fm.1; omega)
  have C2 := Lib.hid fun W' (h : Pr w3 W') => rcommon_any ls ms oa cap ob cbp W' (hls.pr h) (hms.pr h) (by have := fl.1; omega) (by have := fm.1; omega)
  rw [← hcs] at C1 C2
  have Hb := Lib.hid (HW.out.trans hp3)
  clear hk1 hk2 hk3 hls hms hB1 hB2 hB3 hq hp3 hr hcs fl fm O0 O1 O2
  have x0 := y0 _ hd; have x1 := y1 _ hd; have x2 := y2 _ hd; have x3 := y3 _ hd; have x4 := y4 _ hd; have x5 := y5 _ hd
  go_upto_region 7 with (go_at_call 36; (with_reducible refine Calls.mono (M1.out _ hd) ?_); rintro e w4 ⟨⟨⟨oa4, cap4, pa4, pc4, rfl, hk4, hi4⟩, hl4⟩, hb4⟩)
  obtain ⟨V4, hV4⟩ : ∃ V, V = w4.alloc (.cells #[.string l, .slice oa4 ks.length cap4] 24) := ⟨_, rfl⟩
  have f40 := stays (show V4.cell? ⟨w4.heap.size, 0, none⟩ = some (.string l) by rw [hV4]; simp [go_sem])
  have f41 := stays (show V4.cell? ⟨w4.heap.size, 1, none⟩ = some (.slice oa4 ks.length cap4) by rw [hV4]; simp [go_sem])
  have hw4 : Pr w4 V4 := by rw [hV4]; exact Pr.alloc _ _
  have hd4 := hb4.trans hw4
  have hk4 := Lib.hid (hk4.pr hw4); have hi4 := Lib.hid (Flat.pr hw4 hi4)
  rw [← hV4]
  clear hV4 hw4 hb4 hd x0 x1 x2 x3 x4 x5 M1
  have x0 := X0 _ hd4; have x1 := X1 _ hd4; have x2 := X2 _ hd4; have x3 := X3 _ hd4; have x4 := X4 _ hd4; have x5 := X5 _ hd4
  go_upto_region 8 with (go_at_call 37; (with_reducible refine Calls.mono (M2.out _ hd4) ?_); rintro e w5 ⟨⟨⟨oa5, cap5, pa5, pc5, rfl, hk5, hi5⟩, hl5⟩, hb5⟩)
  obtain ⟨V5, hV5⟩ : ∃ V, V = w5.alloc (.cells #[.string l, .slice oa5 ks.length cap5] 24) := ⟨_, rfl⟩
  have f50 : V5.cell? ⟨w5.heap.size, 0, none⟩ = some (.string l) := by rw [hV5]; simp [go_sem]
  have f51 : V5.cell? ⟨w5.heap.size, 1, none⟩ = some (.slice oa5 ks.length cap5) := by rw [hV5]; simp [go_sem]
  have hw5 : Pr w5 V5 := by rw [hV5]; exact Pr.alloc _ _
  have h45 := hb5.trans hw5
  have hk5 := Lib.hid (hk5.pr hw5); have hi5 := Lib.hid (Flat.pr hw5 hi5)
  rw [← hV5]
  have g0 := f40 _ h45; have g1 := f41 _ h45
  have H35 := Lib.hid (hd4.trans h45)
  have hq := Pr.refl V5
  have S3 : Hid (∀ W', Pr V5 W' → Calls Try.prog 22 #[.agg #[.string l, .slice oa4 ks.length cap4], .agg #[.string l, .slice oa5 ks.length cap5]] W' fun e w' => e = .returned (.bool true) ∧ Pr W' w') :=
    Lib.hid fun W' h => tree_yes l ks oa4 cap4 oa5 cap5 W' (hk4.out.pr (h45.trans h)) (hk5.out.pr h)
  have S4 : Hid (∀ W', Pr V5 W' → Calls Try.prog 38 #[.slice pa4 p.length pc4, .slice pa5 p.length pc5] W' fun e w' => e = .returned (.bool true) ∧ Pr W' w') := Lib.hid fun W' h => by
    have := sints_any p p pa4 pc4 pa5 pc5 W' (Flat.pr (h45.trans h) hi4.out) (Flat.pr h hi5.out); simpa using this
  have PS := Lib.hid (jsamePairs_yes cs)
  clear hV5 hw5 hb5 hd4 h45 x0 x1 x2 x3 x4 x5 M2 f40 f41
  go_wp2_with (first
    | (go_at_call 22; (with_reducible refine Calls.mono (S3.out _ hq) ?_); rintro e w6 ⟨rfl, hb⟩; have hq := hq.trans hb)
    | (go_at_call 38; (with_reducible refine Calls.mono (S4.out _ hq) ?_); rintro e w7 ⟨rfl, hb⟩; have hq := hq.trans hb; have hr := H35.out.trans hq; have x0 := y0 _ hr; have x1 := y1 _ hr; have x2 := X0 _ hr; have x3 := X1 _ hr)
    | (go_at_call 22; (with_reducible refine Calls.mono (S0.out _ (H35.out.trans hq)) ?_); rintro e w8 ⟨rfl, hb⟩; have hq := hq.trans hb; have hr := H35.out.trans hq; have x0 := y2 _ hr; have x1 := y3 _ hr; have x2 := X2 _ hr; have x3 := X3 _ hr)
    | (go_at_call 22; (with_reducible refine Calls.mono (S1.out _ (H35.out.trans hq)) ?_); rintro e w9 ⟨rfl, hb⟩; have hq := hq.trans hb; have hr := H35.out.trans hq; have x0 := y4 _ hr; have x1 := y5 _ hr; have x2 := X4 _ hr; have x3 := X5 _ hr)
    | (go_at_call 22; (with_reducible refine Calls.mono (S2.out _ (H35.out.trans hq)) ?_); rintro e wa ⟨rfl, hb⟩; have hq := hq.trans hb)
    | (go_at_call 40; (with_reducible refine Calls.mono (C1.out _ (H35.out.trans hq)) ?_); rintro e wb ⟨v7, rfl, hv7, hb⟩; obtain ⟨o7, c7, rfl, hp7⟩ := hv7.prs; clear hv7; have hp7 := Lib.hid hp7.any; have hq := hq.trans hb)
    | (go_at_call 41; (with_reducible refine Calls.mono (C2.out _ (H35.out.trans hq)) ?_); rintro e wd ⟨v8, rfl, hv8, hb⟩; obtain ⟨o8, c8, rfl, hp8⟩ := hv8.prs; clear hv8; have hp8 := Lib.hid hp8.any; have hp7 := Lib.hid (hp7.out.pr hb); have hq := hq.trans hb)
    | (go_at_call 39; (with_reducible refine Calls.mono (PS.out _ _ _ _ _ hp7.out hp8.out) ?_); rintro e wf ⟨rfl, hb⟩; have hq := hq.trans hb))
  go_ret
  exact ⟨rfl, Hb.out.trans (H35.out.trans hq)⟩
end Go.Proofs.Ytdbnfhpgmcjngab
