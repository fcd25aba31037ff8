/- Walks: the document's deed done: a node named; a place that is not. -/
import Derived.Test.YtdbnfhpgmcjngabDx
import Derived.Test.YtdbnfhpgmcjngabWf
import Derived.Test.YtdbnfhpgmcjngabCl
import Derived.Test.YtdbnfhpgmcjngabAf
import Derived.Test.YtdbnfhpgmcjngabMa
import Derived.Test.YtdbnfhpgmcjngabMg
import Derived.Test.YtdbnfhpgmcjngabGn
import Derived.Deep.CutBlock
import Derived.Deep.DeepCutAuto
import Derived.Outline
import Derived.Deep.RegionWith
namespace Go.Proofs.Ytdbnfhpgmcjngab
open Go Go.RowKit

/-- What the document's done tells: a tree, a code. -/
def DonePost (S : Nat → Prop) (r : Tr × Nat) (w : World) (e : Ending) (w' : World) : Prop := ∃ l' ks' oa' cap', r.1 = .node l' ks' ∧ l'.size ≤ maxLen ∧ e = .returned (.tuple #[.agg #[.string l', .slice oa' ks'.length cap'], .int .i64 (r.2 : Nat)]) ∧ Kids (fun j => S j ∨ w.heap.size ≤ j) w' ks' oa' cap' ∧ Pr w w'
theorem done_fin {S : Nat → Prop} {w w9 : World} {l' : ByteArray} {ks' : List Tr} {oa' : Option Addr} {cap' c : Nat} {r : Tr × Nat} (hr : r = (.node l' ks', c)) (hl : l'.size ≤ maxLen) (hp : Pr w w9) (hk : Kids (fun j => (S j ∧ j < w.heap.size) ∨ w.heap.size + 3 ≤ j) w9 ks' oa' cap') :
    DonePost S r w (.returned (.tuple #[.agg #[.string l', .slice oa' ks'.length cap'], .int .i64 (c : Nat)])) ((w9.setCell ⟨w.heap.size + 1 + 1, 0, none⟩ (.string l')).setCell ⟨w.heap.size + 1 + 1, 1, none⟩ (.slice oa' ks'.length cap')) := by
  rw [hr]
  exact ⟨l', ks', oa', cap', rfl, hl, rfl, ((hk.setCell _ _ (by show ¬ _; simp; omega)).setCell _ _ (by show ¬ _; simp; omega)).mono (fun j hj _ => hj.elim (fun h => .inl h.1) (fun h => .inr (by omega))), (hp.setCell (by simp; omega) _).setCell (by simp; omega) _⟩
section
variable {S : Nat → Prop} {l : ByteArray} {ks : List Tr} {oa : Option Addr} {cap : Nat} {k a m : Int} {s : ByteArray} {pa : Option Addr} {np pc : Nat} {qa : Option Addr} {qc : Nat} {w : World}

set_option maxRecDepth 100000 in
set_option maxHeartbeats 3200000 in
/-- The path goes on where there is no kid. -/
theorem rdone_far (x : Int) (q : List Int) (hl : l.size ≤ maxLen) (hk : Kids S w ks oa cap) (hq : Ints Any w (x :: q) qa qc) (hlast : k = 2 → q ≠ []) (hx : (ks.length : Int) ≤ x) :
    Calls Try.prog 67 #[.agg #[.string l, .slice oa ks.length cap], .agg #[.int .i64 k, .slice pa np pc, .int .i64 a, .int .i64 m, .string s], .slice qa (q.length + 1) qc] w (DonePost S (.node l ks, 7) w) := by
  have hm := hk.len
  have hmq := Ints.len hq
  simp only [List.length_cons] at hmq
  obtain ⟨bq, oq, rfl, cq⟩ := Ints.get hq 0 (by simp)
  simp only [List.getElem_cons_zero, Nat.add_zero] at cq

  obtain ⟨W, hW⟩ : ∃ W, W = ((w.alloc (.cells #[.string l, .slice oa ks.length cap] 24)).alloc (.cells #[.int .i64 k, .slice pa np pc, .int .i64 a, .int .i64 m, .string s] 40)).alloc (.cells #[.string ⟨#[]⟩, .slice none 0 0] 24) := ⟨_, rfl⟩
  have hwW : Pr w W := by rw [hW]; exact ((Pr.alloc _ _).alloc' _).alloc' _
  have hWs : W.heap.size = w.heap.size + 3 := by rw [hW]; simp
  have s0 := stays (show W.cell? ⟨w.heap.size, 0, none⟩ = some (.string l) by rw [hW]; simp [go_sem])
  have s1 := stays (show W.cell? ⟨w.heap.size, 1, none⟩ = some (.slice oa ks.length cap) by rw [hW]; simp [go_sem])
  have d0 := stays (show W.cell? ⟨w.heap.size + 1, 0, none⟩ = some (.int .i64 k) by rw [hW]; simp [go_sem])
  have d1 := stays (show W.cell? ⟨w.heap.size + 1, 1, none⟩ = some (.slice pa np pc) by rw [hW]; simp [go_sem])
  have d2 := stays (show W.cell? ⟨w.heap.size + 1, 2, none⟩ = some (.int .i64 a) by rw [hW]; simp [go_sem])
  have d3 := stays (show W.cell? ⟨w.heap.size + 1, 3, none⟩ = some (.int .i64 m) by rw [hW]; simp [go_sem])
  have d4 := stays (show W.cell? ⟨w.heap.size + 1, 4, none⟩ = some (.string s) by rw [hW]; simp [go_sem])
  have hR : W.heap[w.heap.size + 1 + 1]? = some (.cells #[.string ⟨#[]⟩, .slice none 0 0] 24 (0, 0)) := by
    rw [hW]; simpa using heap_alloc_new ((w.alloc (.cells #[.string l, .slice oa ks.length cap] 24)).alloc (.cells #[.int .i64 k, .slice pa np pc, .int .i64 a, .int .i64 m, .string s] 40)) (.cells #[.string ⟨#[]⟩, .slice none 0 0] 24)
  have HR := Lib.hid hR; have HW := Lib.hid hwW; have HWs := Lib.hid hWs; have HK := Lib.hid ((hk.mono (S' := fun j => S j ∧ j < w.heap.size) (fun j h1 h2 => ⟨h1, h2⟩)).pr hwW)
  clear hR hk

  have cq := stays (hwW.cell cq)
  have hd1 : decide ((ks.length : Int) ≤ x) = true := by simpa using hx
  have z1 : ((q.length : Int) + 1 == 0) = false := by simp; omega
  clear hwW hq hWs
  by_cases hk2 : k = 2
  case pos =>
    have e2 : (k == 2) = true := by simp [hk2]
    have hne := hlast hk2
    have hql : 0 < q.length := List.length_pos_iff.2 hne
    have z2 : ((q.length : Int) + 1 == 1) = false := by simp; omega
    have z3 : ((q.length : Int) == 0) = false := by simp; omega
    clear hk2 hne
    go_enter Try.func67, Try.ntmps67
    go_upto_region 1 with fail
    rw [← hW]; clear hW
    have x0 := d0 _ (Pr.refl _); have x1 := cq _ (Pr.refl _); have x2 := s1 _ (Pr.refl _); have x3 := s0 _ (Pr.refl _)
    have r0 := blk_cell (o := 0) HR.out; have r1 := blk_cell (o := 1) HR.out; have f0 := blk_frozen (o := 0) HR.out; have f1 := blk_frozen (o := 1) HR.out
    go_wp2_with fail
    refine bodyPost_ret (v := .tuple #[.agg #[.string l, .slice oa ks.length cap], .int .i64 7]) (by simp [results, Try.results67, go_sem, r0, r1]) rfl ?_
    exact done_fin (c := 7) rfl hl HW.out (HK.out.mono (fun j hj _ => .inl hj))
  case neg =>
    have e2 : (k == 2) = false := by simp [hk2]
    clear hk2
    go_enter Try.func67, Try.ntmps67
    go_upto_region 1 with fail
    rw [← hW]; clear hW
    have x0 := d0 _ (Pr.refl _); have x1 := cq _ (Pr.refl _); have x2 := s1 _ (Pr.refl _); have x3 := s0 _ (Pr.refl _)
    have r0 := blk_cell (o := 0) HR.out; have r1 := blk_cell (o := 1) HR.out; have f0 := blk_frozen (o := 0) HR.out; have f1 := blk_frozen (o := 1) HR.out
    go_wp2_with fail
    refine bodyPost_ret (v := .tuple #[.agg #[.string l, .slice oa ks.length cap], .int .i64 7]) (by simp [results, Try.results67, go_sem, r0, r1]) rfl ?_
    exact done_fin (c := 7) rfl hl HW.out (HK.out.mono (fun j hj _ => .inl hj))

set_option maxRecDepth 100000 in
set_option maxHeartbeats 3200000 in
/-- The node has another label. -/
theorem rdone_name (hs : s.size ≤ maxLen) (hsz : Tr.szL ks ≤ 1000000) (hk : Kids S w ks oa cap) (hk1 : k = 1) :
    Calls Try.prog 67 #[.agg #[.string l, .slice oa ks.length cap], .agg #[.int .i64 k, .slice pa np pc, .int .i64 a, .int .i64 m, .string s], .slice qa 0 qc] w (DonePost S (.node s ks, 0) w) := by

  obtain ⟨W, hW⟩ : ∃ W, W = ((w.alloc (.cells #[.string l, .slice oa ks.length cap] 24)).alloc (.cells #[.int .i64 k, .slice pa np pc, .int .i64 a, .int .i64 m, .string s] 40)).alloc (.cells #[.string ⟨#[]⟩, .slice none 0 0] 24) := ⟨_, rfl⟩
  have hwW : Pr w W := by rw [hW]; exact ((Pr.alloc _ _).alloc' _).alloc' _
  have hWs : W.heap.size = w.heap.size + 3 := by rw [hW]; simp
  have s0 := stays (show W.cell? ⟨w.heap.size, 0, none⟩ = some (.string l) by rw [hW]; simp [go_sem])
  have s1 := stays (show W.cell? ⟨w.heap.size, 1, none⟩ = some (.slice oa ks.length cap) by rw [hW]; simp [go_sem])
  have d0 := stays (show W.cell? ⟨w.heap.size + 1, 0, none⟩ = some (.int .i64 k) by rw [hW]; simp [go_sem])
  have d1 := stays (show W.cell? ⟨w.heap.size + 1, 1, none⟩ = some (.slice pa np pc) by rw [hW]; simp [go_sem])
  have d2 := stays (show W.cell? ⟨w.heap.size + 1, 2, none⟩ = some (.int .i64 a) by rw [hW]; simp [go_sem])
  have d3 := stays (show W.cell? ⟨w.heap.size + 1, 3, none⟩ = some (.int .i64 m) by rw [hW]; simp [go_sem])
  have d4 := stays (show W.cell? ⟨w.heap.size + 1, 4, none⟩ = some (.string s) by rw [hW]; simp [go_sem])
  have hR : W.heap[w.heap.size + 1 + 1]? = some (.cells #[.string ⟨#[]⟩, .slice none 0 0] 24 (0, 0)) := by
    rw [hW]; simpa using heap_alloc_new ((w.alloc (.cells #[.string l, .slice oa ks.length cap] 24)).alloc (.cells #[.int .i64 k, .slice pa np pc, .int .i64 a, .int .i64 m, .string s] 40)) (.cells #[.string ⟨#[]⟩, .slice none 0 0] 24)
  have HR := Lib.hid hR; have HW := Lib.hid hwW; have HWs := Lib.hid hWs; have HK := Lib.hid ((hk.mono (S' := fun j => S j ∧ j < w.heap.size) (fun j h1 h2 => ⟨h1, h2⟩)).pr hwW)
  clear hR hk

  have OL := Lib.hid fun (W' : World) (h : Pr W W') => rownList_any ks oa cap W' hsz (HK.out.any.pr h)
  subst hk1
  clear hwW hWs
  go_enter Try.func67, Try.ntmps67
  go_upto_region 1 with fail
  rw [← hW]; clear hW
  have x0 := d0 _ (Pr.refl _); have x2 := s1 _ (Pr.refl _); have x3 := s0 _ (Pr.refl _)
  have y0 := fun o => d0 _ (Pr.alloc W o); have y4 := fun o => d4 _ (Pr.alloc W o); have y1 := fun o => s1 _ (Pr.alloc W o)
  go_wp2_with (go_at_call 42; (with_reducible refine Calls.mono (OL.out _ (Pr.alloc _ _)) ?_); rintro e w1 ⟨v, rfl, hown, hb⟩; obtain ⟨ob, cb, rfl, hkb⟩ := hown.kids; have hB3 := hb.blk (heap_alloc_new W _); have hB2 := hb.blk ((Pr.alloc W _).blk HR.out); have g0 := blk_cell (o := 0) hB3; have g1 := blk_cell (o := 1) hB3; have h1 := blk_frozen (o := 1) hB3; have r0 := blk_cell (o := 0) hB2; have r1 := blk_cell (o := 1) hB2; have f0 := blk_frozen (o := 0) hB2; have f1 := blk_frozen (o := 1) hB2; have hne : ¬ W.heap.size = w.heap.size + 1 + 1 := by have := HWs.out; omega)
  refine bodyPost_ret (v := .tuple #[.agg #[.string s, .slice ob ks.length cb], .int .i64 0]) (by simp [results, Try.results67, go_sem, r0, r1]) rfl ?_
  exact done_fin (c := 0) rfl hs (((HW.out.trans (Pr.alloc W _)).trans hb).setCell (by have := HWs.out; simp; omega) _) ((hkb.setCell _ _ (by show ¬ (W.alloc _).heap.size ≤ _; simp)).mono (fun j hj _ => .inr (by have hj' : (W.alloc _).heap.size ≤ j := hj; have := HWs.out; simp at hj'; omega)))

set_option maxRecDepth 100000 in
set_option maxHeartbeats 3200000 in
/-- There is no kid to delete. -/
theorem rdone_delfar (x : Int) (hl : l.size ≤ maxLen) (hk : Kids S w ks oa cap) (hq : Ints Any w [x] qa qc) (hk2 : k = 2) (hx : (ks.length : Int) ≤ x) :
    Calls Try.prog 67 #[.agg #[.string l, .slice oa ks.length cap], .agg #[.int .i64 k, .slice pa np pc, .int .i64 a, .int .i64 m, .string s], .slice qa 1 qc] w (DonePost S (.node l ks, 7) w) := by
  have hm := hk.len
  obtain ⟨bq, oq, rfl, cq⟩ := Ints.get hq 0 (by simp)
  simp only [List.getElem_cons_zero, Nat.add_zero] at cq

  obtain ⟨W, hW⟩ : ∃ W, W = ((w.alloc (.cells #[.string l, .slice oa ks.length cap] 24)).alloc (.cells #[.int .i64 k, .slice pa np pc, .int .i64 a, .int .i64 m, .string s] 40)).alloc (.cells #[.string ⟨#[]⟩, .slice none 0 0] 24) := ⟨_, rfl⟩
  have hwW : Pr w W := by rw [hW]; exact ((Pr.alloc _ _).alloc' _).alloc' _
  have hWs : W.heap.size = w.heap.size + 3 := by rw [hW]; simp
  have s0 := stays (show W.cell? ⟨w.heap.size, 0, none⟩ = some (.string l) by rw [hW]; simp [go_sem])
  have s1 := stays (show W.cell? ⟨w.heap.size, 1, none⟩ = some (.slice oa ks.length cap) by rw [hW]; simp [go_sem])
  have d0 := stays (show W.cell? ⟨w.heap.size + 1, 0, none⟩ = some (.int .i64 k) by rw [hW]; simp [go_sem])
  have d1 := stays (show W.cell? ⟨w.heap.size + 1, 1, none⟩ = some (.slice pa np pc) by rw [hW]; simp [go_sem])
  have d2 := stays (show W.cell? ⟨w.heap.size + 1, 2, none⟩ = some (.int .i64 a) by rw [hW]; simp [go_sem])
  have d3 := stays (show W.cell? ⟨w.heap.size + 1, 3, none⟩ = some (.int .i64 m) by rw [hW]; simp [go_sem])
  have d4 := stays (show W.cell? ⟨w.heap.size + 1, 4, none⟩ = some (.string s) by rw [hW]; simp [go_sem])
  have hR : W.heap[w.heap.size + 1 + 1]? = some (.cells #[.string ⟨#[]⟩, .slice none 0 0] 24 (0, 0)) := by
    rw [hW]; simpa using heap_alloc_new ((w.alloc (.cells #[.string l, .slice oa ks.length cap] 24)).alloc (.cells #[.int .i64 k, .slice pa np pc, .int .i64 a, .int .i64 m, .string s] 40)) (.cells #[.string ⟨#[]⟩, .slice none 0 0] 24)
  have HR := Lib.hid hR; have HW := Lib.hid hwW; have HWs := Lib.hid hWs; have HK := Lib.hid ((hk.mono (S' := fun j => S j ∧ j < w.heap.size) (fun j h1 h2 => ⟨h1, h2⟩)).pr hwW)
  clear hR hk

  have cq := stays (hwW.cell cq)
  have hd1 : decide ((ks.length : Int) ≤ x) = true := by simpa using hx
  subst hk2
  clear hwW hq
  go_enter Try.func67, Try.ntmps67
  go_upto_region 1 with fail
  rw [← hW]; clear hW
  have x0 := d0 _ (Pr.refl _); have x3 := s0 _ (Pr.refl _)
  have y0 := fun o => d0 _ (Pr.alloc W o)
  go_upto_region 23 with fail
  obtain ⟨V, hV⟩ : ∃ V, V = W.alloc (.cells #[.string l, .slice none 0 0] 24) := ⟨_, rfl⟩
  have hwV : Pr W V := by rw [hV]; exact Pr.alloc _ _
  rw [← hV]
  have x1 := cq _ hwV; have x2 := s1 _ hwV; have x4 := s0 _ hwV
  have hB2 := hwV.blk HR.out
  have r0 := blk_cell (o := 0) hB2; have r1 := blk_cell (o := 1) hB2; have f0 := blk_frozen (o := 0) hB2; have f1 := blk_frozen (o := 1) hB2
  have Hp := Lib.hid (HW.out.trans hwV); have HkV := Lib.hid (HK.out.pr hwV)
  clear hV hwV hB2 y0
  go_quiet (fail)
  go_wp2_with fail
  refine bodyPost_ret (v := .tuple #[.agg #[.string l, .slice oa ks.length cap], .int .i64 7]) (by simp [results, Try.results67, go_sem, r0, r1]) rfl ?_
  exact done_fin (c := 7) rfl hl (Hp.out.drewN' _) ((HkV.out.pr (Pr.drewN _ _)).mono (fun j hj _ => .inl hj))

set_option maxRecDepth 100000 in
set_option maxHeartbeats 3200000 in
/-- There are no such kids to insert above. -/
theorem rdone_insfar (hl : l.size ≤ maxLen) (hk : Kids S w ks oa cap) (hk3 : k = 3) (ha : 0 ≤ a) (hfar : (ks.length : Int) < a ∨ (ks.length : Int) - a < m) :
    Calls Try.prog 67 #[.agg #[.string l, .slice oa ks.length cap], .agg #[.int .i64 k, .slice pa np pc, .int .i64 a, .int .i64 m, .string s], .slice qa 0 qc] w (DonePost S (.node l ks, 9) w) := by
  have hm := hk.len

  obtain ⟨W, hW⟩ : ∃ W, W = ((w.alloc (.cells #[.string l, .slice oa ks.length cap] 24)).alloc (.cells #[.int .i64 k, .slice pa np pc, .int .i64 a, .int .i64 m, .string s] 40)).alloc (.cells #[.string ⟨#[]⟩, .slice none 0 0] 24) := ⟨_, rfl⟩
  have hwW : Pr w W := by rw [hW]; exact ((Pr.alloc _ _).alloc' _).alloc' _
  have hWs : W.heap.size = w.heap.size + 3 := by rw [hW]; simp
  have s0 := stays (show W.cell? ⟨w.heap.size, 0, none⟩ = some (.string l) by rw [hW]; simp [go_sem])
  have s1 := stays (show W.cell? ⟨w.heap.size, 1, none⟩ = some (.slice oa ks.length cap) by rw [hW]; simp [go_sem])
  have d0 := stays (show W.cell? ⟨w.heap.size + 1, 0, none⟩ = some (.int .i64 k) by rw [hW]; simp [go_sem])
  have d1 := stays (show W.cell? ⟨w.heap.size + 1, 1, none⟩ = some (.slice pa np pc) by rw [hW]; simp [go_sem])
  have d2 := stays (show W.cell? ⟨w.heap.size + 1, 2, none⟩ = some (.int .i64 a) by rw [hW]; simp [go_sem])
  have d3 := stays (show W.cell? ⟨w.heap.size + 1, 3, none⟩ = some (.int .i64 m) by rw [hW]; simp [go_sem])
  have d4 := stays (show W.cell? ⟨w.heap.size + 1, 4, none⟩ = some (.string s) by rw [hW]; simp [go_sem])
  have hR : W.heap[w.heap.size + 1 + 1]? = some (.cells #[.string ⟨#[]⟩, .slice none 0 0] 24 (0, 0)) := by
    rw [hW]; simpa using heap_alloc_new ((w.alloc (.cells #[.string l, .slice oa ks.length cap] 24)).alloc (.cells #[.int .i64 k, .slice pa np pc, .int .i64 a, .int .i64 m, .string s] 40)) (.cells #[.string ⟨#[]⟩, .slice none 0 0] 24)
  have HR := Lib.hid hR; have HW := Lib.hid hwW; have HWs := Lib.hid hWs; have HK := Lib.hid ((hk.mono (S' := fun j => S j ∧ j < w.heap.size) (fun j h1 h2 => ⟨h1, h2⟩)).pr hwW)
  clear hR hk

  subst hk3
  clear hwW
  by_cases h1 : (ks.length : Int) < a
  case pos =>
    have hd1 : decide ((ks.length : Int) < a) = true := by simpa using h1
    clear h1 hfar
    go_enter Try.func67, Try.ntmps67
    go_upto_region 1 with fail
    rw [← hW]; clear hW
    have x0 := d0 _ (Pr.refl _); have x3 := s0 _ (Pr.refl _)
    have y0 := fun o => d0 _ (Pr.alloc W o)
    go_upto_region 14 with fail
    obtain ⟨V, hV⟩ : ∃ V, V = W.alloc (.cells #[.string l, .slice none 0 0] 24) := ⟨_, rfl⟩
    have hwV : Pr W V := by rw [hV]; exact Pr.alloc _ _
    rw [← hV]
    have x1 := d2 _ hwV; have x2 := s1 _ hwV; have x4 := s0 _ hwV; have x5 := d3 _ hwV
    have hB2 := hwV.blk HR.out
    have r0 := blk_cell (o := 0) hB2; have r1 := blk_cell (o := 1) hB2; have f0 := blk_frozen (o := 0) hB2; have f1 := blk_frozen (o := 1) hB2
    have Hp := Lib.hid (HW.out.trans hwV); have HkV := Lib.hid (HK.out.pr hwV)
    clear hV hwV hB2 y0
    go_wp2_with fail
    refine bodyPost_ret (v := .tuple #[.agg #[.string l, .slice oa ks.length cap], .int .i64 9]) (by simp [results, Try.results67, go_sem, r0, r1]) rfl ?_
    exact done_fin (c := 9) rfl hl Hp.out (HkV.out.mono (fun j hj _ => .inl hj))
  case neg =>
    have hd1 : decide ((ks.length : Int) < a) = false := by simpa using h1
    have hd2 : decide ((ks.length : Int) - a < m) = true := by simp; omega
    have hle : a ≤ (ks.length : Int) := by omega
    clear h1 hfar
    go_enter Try.func67, Try.ntmps67
    go_upto_region 1 with fail
    rw [← hW]; clear hW
    have x0 := d0 _ (Pr.refl _); have x3 := s0 _ (Pr.refl _)
    have y0 := fun o => d0 _ (Pr.alloc W o)
    go_upto_region 14 with fail
    obtain ⟨V, hV⟩ : ∃ V, V = W.alloc (.cells #[.string l, .slice none 0 0] 24) := ⟨_, rfl⟩
    have hwV : Pr W V := by rw [hV]; exact Pr.alloc _ _
    rw [← hV]
    have x1 := d2 _ hwV; have x2 := s1 _ hwV; have x4 := s0 _ hwV; have x5 := d3 _ hwV
    have hB2 := hwV.blk HR.out
    have r0 := blk_cell (o := 0) hB2; have r1 := blk_cell (o := 1) hB2; have f0 := blk_frozen (o := 0) hB2; have f1 := blk_frozen (o := 1) hB2
    have Hp := Lib.hid (HW.out.trans hwV); have HkV := Lib.hid (HK.out.pr hwV)
    clear hV hwV hB2 y0
    go_wp2_with fail
    refine bodyPost_ret (v := .tuple #[.agg #[.string l, .slice oa ks.length cap], .int .i64 9]) (by simp [results, Try.results67, go_sem, r0, r1]) rfl ?_
    exact done_fin (c := 9) rfl hl Hp.out (HkV.out.mono (fun j hj _ => .inl hj))
end
end Go.Proofs.Ytdbnfhpgmcjngab
