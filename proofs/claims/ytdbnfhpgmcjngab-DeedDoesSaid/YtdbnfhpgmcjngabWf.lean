/- Walks: the node at a path. -/
import Derived.Test.YtdbnfhpgmcjngabWe
namespace Go.Proofs.Ytdbnfhpgmcjngab
open Go Go.RowKit

/-- What At tells: the tree, and whether there is one. All beneath it is in S. -/
def AtPost (S : Nat → Prop) (w : World) (r : Option Tr) (e : Ending) (w' : World) : Prop :=
  ∃ l ks oa cap, r.getD Tr.zero = .node l ks ∧ l.size ≤ maxLen ∧ e = .returned (.tuple #[.agg #[.string l, .slice oa ks.length cap], .bool r.isSome]) ∧ Kids S w' ks oa cap ∧ Pr w w'

set_option maxHeartbeats 800000 in
/-- pleachingref.At: it hands on what came in. -/
theorem rat_any (p : List Int) : ∀ (S : Nat → Prop) (l : ByteArray) (ks : List Tr) (oa cap) (pa pc) (w : World), l.size ≤ maxLen → Kids S w ks oa cap → Ints Any w p pa pc →
    Calls Try.prog 68 #[.agg #[.string l, .slice oa ks.length cap], .slice pa p.length pc] w (AtPost S w ((Tr.node l ks).at? p)) := by
  induction p with
  | nil =>
    intro S l ks oa cap pa pc w hl hk hp
    go_enter Try.func68, Try.ntmps68
    go_wp2_with fail
    exact bodyPost_ret (v := .tuple #[.agg #[.string l, .slice oa ks.length cap], .bool true]) (by simp [results, Try.results68, go_sem]) rfl ⟨l, ks, oa, cap, rfl, hl, rfl, (hk.pr (Pr.alloc _ _)).pr (Pr.alloc _ _), (Pr.alloc _ _).alloc' _⟩
  | cons x p ih =>
    intro S l ks oa cap pa pc w hl hk hp
    have Ih := Lib.hid ih; clear ih
    have hm := Ints.len hp
    have hm2 := hk.len
    obtain ⟨b, o, rfl, cp⟩ := Ints.get hp 0 (by simp)
    simp only [List.getElem_cons_zero, Nat.add_zero] at cp
    have cp1 : ∀ o1 o2, ((w.alloc o1).alloc o2).cell? ⟨b, o, none⟩ = some (.int .i64 x) := fun o1 o2 => (Pr.alloc' (Pr.alloc _ _) _).cell cp
    have hlp : (x :: p).length = p.length + 1 := rfl
    have none_case : ∀ W, Pr w W → (Tr.node l ks).kid? x = none → AtPost S w ((Tr.node l ks).at? (x :: p)) (.returned (.tuple #[.agg #[.string ⟨#[]⟩, .slice none 0 0], .bool false])) W := by
      intro W hW hz
      have hz2 : (Tr.node l ks).at? (x :: p) = none := by simp only [Tr.at?, hz]; rfl
      rw [hz2]
      exact ⟨⟨#[]⟩, [], none, 0, rfl, by simp [ByteArray.size], rfl, Kids.nil _ _ _ _ (Nat.zero_le _), hW⟩
    have Hnc := Lib.hid none_case; clear none_case
    by_cases hneg : x < 0
    · go_enter Try.func68, Try.ntmps68
      go_wp2_with fail
      go_quiet (fail)
      go_wp2_with fail
      exact bodyPost_ret (v := .tuple #[.agg #[.string ⟨#[]⟩, .slice none 0 0], .bool false]) (by simp [results, Try.results68, go_sem]) rfl (Hnc.out _ ((((Pr.alloc _ _).alloc' _).drewN' _ |>.setCell (by simp) _).setCell (by simp) _) (Tr.kid?_neg _ hneg))
    · have hn1 : decide (x < 0) = false := by simpa using hneg
      by_cases hge : (ks.length : Int) ≤ x
      · have hg1 : decide ((ks.length : Int) ≤ x) = true := by simpa using hge
        go_enter Try.func68, Try.ntmps68
        go_wp2_with fail
        go_quiet (fail)
        go_wp2_with fail
        exact bodyPost_ret (v := .tuple #[.agg #[.string ⟨#[]⟩, .slice none 0 0], .bool false]) (by simp [results, Try.results68, go_sem]) rfl (Hnc.out _ ((((Pr.alloc _ _).alloc' _).drewN' _ |>.setCell (by simp) _).setCell (by simp) _) (Tr.kid?_ge _ _ hge))
      · have hg1 : decide ((ks.length : Int) ≤ x) = false := by simpa using hge
        obtain ⟨n, rfl⟩ := Int.eq_ofNat_of_zero_le (by omega : 0 ≤ x)
        have hnl : n < ks.length := by omega
        obtain ⟨b', o', l2, ks2, oa2, cap2, e1, hl2, rfl, d0, d1, hk2⟩ := hk.get n hnl
        have hat : (Tr.node l ks).at? ((n : Int) :: p) = (Tr.node l2 ks2).at? p := by simp only [Tr.at?, Tr.kid?_in l ks hnl, e1]; rfl
        have Hat := Lib.hid hat; clear hat e1
        have hcap : (1 : Int) ≤ pc := by have := hp.1; simp at this; omega
        have ht := Lib.hid (Flat.tail (v := .int .i64 n) (vs := ints p) hp)
        have d0' : ∀ o1 o2, ((w.alloc o1).alloc o2).cell? ⟨b', o' + n * 2, none⟩ = some (.string l2) := fun o1 o2 => (Pr.alloc' (Pr.alloc _ _) _).cell d0
        have d1' : ∀ o1 o2, ((w.alloc o1).alloc o2).cell? ⟨b', o' + n * 2 + 1, none⟩ = some (.slice oa2 ks2.length cap2) := fun o1 o2 => (Pr.alloc' (Pr.alloc _ _) _).cell d1
        have hpl : (0 : Int) ≤ p.length := by omega
        have lb := lt_of_cell cp
        have lb' := lt_of_cell d0
        have hpc2 : ((p.length : Int) + 1) ≤ pc := by have := hp.1; simp at this; omega
        by_cases hpc : pc = 1
        · subst hpc
          have hp0 : p = [] := List.eq_nil_of_length_eq_zero (by omega)
          subst hp0
          have ht2 := Lib.hid (ht.out : Flat Any w (ints []) (some ⟨b, o, none⟩) 0)
          clear ht
          go_enter Try.func68, Try.ntmps68
          go_wp2_with fail
          go_quiet (fail)
          go_wp2_with fail
          go_region_held3 (fun w' => w'.cell? ⟨w.heap.size, 1, none⟩ = some (.slice (some ⟨b', o', none⟩) ks.length cap) ∧ w'.cell? ⟨b, o, none⟩ = some (.int .i64 n) ∧ w'.cell? ⟨b', o' + n * 2, none⟩ = some (.string l2) ∧ w'.cell? ⟨b', o' + n * 2 + 1, none⟩ = some (.slice oa2 ks2.length cap2))
            (first | exact ⟨s1, s2, s3, s4⟩ | exact ⟨cell_far (cell_far s1 (by simp)) (by simp), cell_far (cell_far s2 (by simp; omega)) (by simp; omega), cell_far (cell_far s3 (by simp; omega)) (by simp; omega), cell_far (cell_far s4 (by simp; omega)) (by simp; omega)⟩ | go_keep)
            (first | (go_at_call 68; refine (Ih.out (fun k => S k ∧ k < w.heap.size) _ _ _ _ _ _ _ hl2 ((hk2.mono (fun k h1 h2 => ⟨h1, h2⟩)).pr (Pr.drew' (Pr.drewN' (Pr.alloc' (Pr.alloc _ _) _) _))) (Flat.pr (Pr.drew' (Pr.drewN' (Pr.alloc' (Pr.alloc _ _) _) _)) ht2.out)).mono ?_; rintro e w1 ⟨l3, ks3, oa3, cap3, he3, hl3, rfl, hk3, hb3⟩; have He3 := Lib.hid he3; clear he3; have s1 := hb3.cell (b := w.heap.size) (o := 1) (v := .slice (some ⟨b', o', none⟩) ks.length cap) (by simp [go_sem]); have s2 := hb3.cell ((Pr.drew' (Pr.drewN' (Pr.alloc' (Pr.alloc _ _) _) _)).cell cp); have s3 := hb3.cell ((Pr.drew' (Pr.drewN' (Pr.alloc' (Pr.alloc _ _) _) _)).cell d0); have s4 := hb3.cell ((Pr.drew' (Pr.drewN' (Pr.alloc' (Pr.alloc _ _) _) _)).cell d1); have r0 := hb3.cell (b := w.heap.size + 1) (o := 0) (v := .string ⟨#[]⟩) (by simp [go_sem]); have r1 := hb3.cell (b := w.heap.size + 1) (o := 1) (v := .slice none 0 0) (by simp [go_sem]); have f0 : w1.frozen? ⟨w.heap.size + 1, 0, none⟩ = false := (by rw [hb3.frozen (by simp)]; simp [go_sem]); have f1 : w1.frozen? ⟨w.heap.size + 1, 1, none⟩ = false := (by rw [hb3.frozen (by simp)]; simp [go_sem])))
          go_wp2_with fail
          refine bodyPost_ret (v := .tuple #[.agg #[.string l3, .slice oa3 ks3.length cap3], .bool ((Tr.node l2 ks2).at? []).isSome]) (by simp [results, Try.results68, go_sem, r0, r1]) rfl ?_
          rw [Hat.out]
          exact ⟨l3, ks3, oa3, cap3, He3.out, hl3, rfl, ((hk3.setCell _ _ (by simp)).setCell _ _ (by simp)).mono (fun k h _ => h.1), (((Pr.drew' (Pr.drewN' (Pr.alloc' (Pr.alloc _ _) _) _)).trans hb3).setCell (by simp) _).setCell (by simp) _⟩
        · have ht2 := ht.out
          rw [if_neg hpc] at ht2
          have Ht := Lib.hid ht2
          clear ht ht2
          have hpl1 : ¬ ((p.length : Int) + 1 < 1) := by omega
          go_enter Try.func68, Try.ntmps68
          go_wp2_with fail
          go_quiet (fail)
          go_wp2_with fail
          go_region_held3 (fun w' => w'.cell? ⟨w.heap.size, 1, none⟩ = some (.slice (some ⟨b', o', none⟩) ks.length cap) ∧ w'.cell? ⟨b, o, none⟩ = some (.int .i64 n) ∧ w'.cell? ⟨b', o' + n * 2, none⟩ = some (.string l2) ∧ w'.cell? ⟨b', o' + n * 2 + 1, none⟩ = some (.slice oa2 ks2.length cap2))
            (first | exact ⟨s1, s2, s3, s4⟩ | exact ⟨cell_far (cell_far s1 (by simp)) (by simp), cell_far (cell_far s2 (by simp; omega)) (by simp; omega), cell_far (cell_far s3 (by simp; omega)) (by simp; omega), cell_far (cell_far s4 (by simp; omega)) (by simp; omega)⟩ | go_keep)
            (first | (go_at_call 68; refine (Ih.out (fun k => S k ∧ k < w.heap.size) _ _ _ _ _ _ _ hl2 ((hk2.mono (fun k h1 h2 => ⟨h1, h2⟩)).pr (Pr.drew' (Pr.drewN' (Pr.alloc' (Pr.alloc _ _) _) _))) (Flat.pr (Pr.drew' (Pr.drewN' (Pr.alloc' (Pr.alloc _ _) _) _)) Ht.out)).mono ?_; rintro e w1 ⟨l3, ks3, oa3, cap3, he3, hl3, rfl, hk3, hb3⟩; have He3 := Lib.hid he3; clear he3; have s1 := hb3.cell (b := w.heap.size) (o := 1) (v := .slice (some ⟨b', o', none⟩) ks.length cap) (by simp [go_sem]); have s2 := hb3.cell ((Pr.drew' (Pr.drewN' (Pr.alloc' (Pr.alloc _ _) _) _)).cell cp); have s3 := hb3.cell ((Pr.drew' (Pr.drewN' (Pr.alloc' (Pr.alloc _ _) _) _)).cell d0); have s4 := hb3.cell ((Pr.drew' (Pr.drewN' (Pr.alloc' (Pr.alloc _ _) _) _)).cell d1); have r0 := hb3.cell (b := w.heap.size + 1) (o := 0) (v := .string ⟨#[]⟩) (by simp [go_sem]); have r1 := hb3.cell (b := w.heap.size + 1) (o := 1) (v := .slice none 0 0) (by simp [go_sem]); have f0 : w1.frozen? ⟨w.heap.size + 1, 0, none⟩ = false := (by rw [hb3.frozen (by simp)]; simp [go_sem]); have f1 : w1.frozen? ⟨w.heap.size + 1, 1, none⟩ = false := (by rw [hb3.frozen (by simp)]; simp [go_sem])))
          go_wp2_with fail
          refine bodyPost_ret (v := .tuple #[.agg #[.string l3, .slice oa3 ks3.length cap3], .bool ((Tr.node l2 ks2).at? p).isSome]) (by simp [results, Try.results68, go_sem, r0, r1]) rfl ?_
          rw [Hat.out]
          exact ⟨l3, ks3, oa3, cap3, He3.out, hl3, rfl, ((hk3.setCell _ _ (by simp)).setCell _ _ (by simp)).mono (fun k h _ => h.1), (((Pr.drew' (Pr.drewN' (Pr.alloc' (Pr.alloc _ _) _) _)).trans hb3).setCell (by simp) _).setCell (by simp) _⟩
end Go.Proofs.Ytdbnfhpgmcjngab
