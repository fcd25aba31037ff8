/- Walks: the node at a path. -/
import Derived.Test.YtdbnfhpgmcjngacWe
namespace Go.Proofs.Ytdbnfhpgmcjngac
open Go Go.RowKit

/-- What At tells: the tree, and whether there is one. All beneath it is in S. -/
def AtPost (S : Nat → Prop) (w : World) (r : Option Tr) (e : Ending) (w' : World) : Prop :=
  ∃ l ks oa cap, r.getD Tr.zero = .node l ks ∧ l.size ≤ maxLen ∧ e = .returned (.tuple #[.agg #[.string l, .slice oa ks.length cap], .bool r.isSome]) ∧ Kids S w' ks oa cap ∧ Pr w w'

set_option maxHeartbeats 800000 in
theorem at_any (l : ByteArray) (ks : List Tr) (oa cap) (p : List Int) (pa pc) (w : World) (h : Tr.szL ks ≤ 1000000) (hl : l.size ≤ maxLen) (hk : Kids Any w ks oa cap) (hp : Ints Any w p pa pc) :
    Calls Try.prog 18 #[.agg #[.string l, .slice oa ks.length cap], .slice pa p.length pc] w (AtPost (From w.heap.size) w ((Tr.node l ks).at? p)) := by
  have hm := hp.len
  have hk' := hk.mono (S' := fun k => k < w.heap.size) (fun k _ h => h)
  clear hk
  go_enter Try.func18, Try.ntmps18
  go_wp2_with fail
  go_loopw [10] (fun i wr => ∃ (k : Nat) (l' : ByteArray) (ks' : List Tr) (oa' : Option Addr) (cap' : Nat), k ≤ p.length ∧ i = .int .i64 k ∧ (Tr.node l ks).at? (p.take k) = some (.node l' ks') ∧ l'.size ≤ maxLen ∧
    Kids (fun k => k < w.heap.size) wr ks' oa' cap' ∧ wr.heap[w.heap.size]? = some (.cells #[.string l', .slice oa' ks'.length cap'] 24 (0, 0)) ∧
    wr.heap[w.heap.size + 1]? = some (.cells #[.string ⟨#[]⟩, .slice none 0 0] 24 (0, 0)) ∧ Pr w wr) (fun i _ => p.length - (intOf i).toNat)
  case atStart => exact ⟨0, l, ks, oa, cap, by omega, rfl, rfl, hl, (hk'.pr (Pr.alloc _ _)).pr (Pr.alloc _ _), (Pr.alloc _ _).blk (heap_alloc_new w _), by simpa using heap_alloc_new (w.alloc (.cells #[.string l, .slice oa ks.length cap] 24)) (.cells #[.string ⟨#[]⟩, .slice none 0 0] 24), (Pr.alloc _ _).alloc' _⟩
  case round =>
    obtain ⟨k, l', ks', oa', cap', hkl, rfl, hat, hl', hkids, hb0, hb1, hb⟩ := hrel
    have Hat := Lib.hid hat; clear hat
    have c0 : wr.cell? ⟨w.heap.size, 0, none⟩ = some (.string l') := blk_cell hb0
    have c1 : wr.cell? ⟨w.heap.size, 1, none⟩ = some (.slice oa' ks'.length cap') := blk_cell hb0
    have r0 : wr.cell? ⟨w.heap.size + 1, 0, none⟩ = some (.string ⟨#[]⟩) := blk_cell hb1
    have r1 : wr.cell? ⟨w.heap.size + 1, 1, none⟩ = some (.slice none 0 0) := blk_cell hb1
    have f0 : wr.frozen? ⟨w.heap.size, 0, none⟩ = false := blk_frozen hb0
    have f1 : wr.frozen? ⟨w.heap.size, 1, none⟩ = false := blk_frozen hb0
    have f2 : wr.frozen? ⟨w.heap.size + 1, 0, none⟩ = false := blk_frozen hb1
    have f3 : wr.frozen? ⟨w.heap.size + 1, 1, none⟩ = false := blk_frozen hb1
    have Hb0 := Lib.hid hb0; have Hb1 := Lib.hid hb1; clear hb0 hb1
    have hm2 := hkids.len
    by_cases hlt : k < p.length
    · obtain ⟨b, o, rfl, cp⟩ := Ints.get (hp.pr hb) k hlt
      have Hn := Lib.hid ((Tr.node l ks).at?_take p k hlt Hat.out)
      have Hs := Lib.hid ((Tr.node l ks).at?_stop p (k + 1))
      have Hsz := Lib.hid (Tr.at?_sz Hat.out)
      generalize hx : p[k] = x at cp Hn
      have Hx := Lib.hid hx; clear hx
      have none_case : ∀ W, Pr w W → (Tr.node l' ks').kid? x = none → AtPost (From w.heap.size) w ((Tr.node l ks).at? p) (.returned (.tuple #[.agg #[.string ⟨#[]⟩, .slice none 0 0], .bool false])) W := by
        intro W hW hz
        have hz2 : (Tr.node l ks).at? p = none := Hs.out (by rw [Hn.out, hz])
        rw [hz2]
        exact ⟨⟨#[]⟩, [], none, 0, rfl, by simp [ByteArray.size], rfl, Kids.nil _ _ _ _ (Nat.zero_le _), hW⟩
      have Hnc := Lib.hid none_case; clear none_case
      by_cases hneg : x < 0
      · go_wp2_with fail
        exact bodyPost_ret (v := .tuple #[.agg #[.string ⟨#[]⟩, .slice none 0 0], .bool false]) (by simp [results, Try.results18, go_sem, r0, r1]) rfl (Hnc.out _ ((hb.setCell (by simp) _).setCell (by simp) _) (Tr.kid?_neg _ hneg))
      · by_cases hge : (ks'.length : Int) ≤ x
        · go_wp2_with fail
          exact bodyPost_ret (v := .tuple #[.agg #[.string ⟨#[]⟩, .slice none 0 0], .bool false]) (by simp [results, Try.results18, go_sem, r0, r1]) rfl (Hnc.out _ ((hb.setCell (by simp) _).setCell (by simp) _) (Tr.kid?_ge _ _ hge))
        · obtain ⟨n, rfl⟩ := Int.eq_ofNat_of_zero_le (by omega : 0 ≤ x)
          have hnl : n < ks'.length := by omega
          obtain ⟨b', o', l2, ks2, oa2, cap2, e1, hl2, rfl, d0, d1, hk2⟩ := hkids.get n hnl
          have Hkid := Lib.hid (Tr.kid?_in l' ks' hnl)
          rw [e1] at Hkid
          clear e1
          go_wp2_with fail
          refine ⟨⟨k + 1, l2, ks2, oa2, cap2, by omega, by go_num, by rw [Hn.out]; exact Hkid.out, hl2, ?_, ?_, ?_, (hb.setCell (by simp) _).setCell (by simp) _⟩, ?_⟩
          · exact (hk2.setCell _ _ (by simp)).setCell _ _ (by simp)
          · exact blk_set (o := 1) (blk_set (o := 0) Hb0.out _) _
          · rw [Below.heap_setCell _ _ _ _ (by simp), Below.heap_setCell _ _ _ _ (by simp)]; exact Hb1.out
          · simp [intOf]; omega
    · have hkv : k = p.length := by omega
      have Hsz := Lib.hid (Tr.at?_sz Hat.out)
      have hsz : Tr.szL ks' ≤ 1000000 := by have := Hsz.out; simp at this; omega
      subst hkv
      rw [List.take_length] at Hat
      have hkids' := hkids.any
      go_wp2_with (go_at_call 52; refine (own_any _ _ _ _ _ hsz hkids').mono ?_; rintro e w1 ⟨oa2, cap2, rfl, hk2, hb1⟩; have q0 := hb1.cell r0; have q1 := hb1.cell r1; have q2 : w1.frozen? ⟨w.heap.size + 1, 0, none⟩ = false := blk_frozen (hb1.blk Hb1.out); have q3 : w1.frozen? ⟨w.heap.size + 1, 1, none⟩ = false := blk_frozen (hb1.blk Hb1.out))
      refine bodyPost_ret (v := .tuple #[.agg #[.string l', .slice oa2 ks'.length cap2], .bool true]) (by simp [results, Try.results18, go_sem, q0, q1]) rfl ?_
      have hsize := blk_lt Hb1.out
      rw [Hat.out]
      exact ⟨l', ks', oa2, cap2, rfl, hl', rfl, ((hk2.setCell _ _ (by simp; omega)).setCell _ _ (by simp; omega)).from (by have := hb.size; omega), ((hb.trans hb1).setCell (by simp) _).setCell (by simp) _⟩
set_option maxHeartbeats 800000 in
/-- pleachingref.At: it hands on what came in. -/
theorem rat_any (p : List Int) : ∀ (S : Nat → Prop) (l : ByteArray) (ks : List Tr) (oa cap) (pa pc) (w : World), l.size ≤ maxLen → Kids S w ks oa cap → Ints Any w p pa pc →
    Calls Try.prog 89 #[.agg #[.string l, .slice oa ks.length cap], .slice pa p.length pc] w (AtPost S w ((Tr.node l ks).at? p)) := by
  induction p with
  | nil =>
    intro S l ks oa cap pa pc w hl hk hp
    go_enter Try.func89, Try.ntmps89
    go_wp2_with fail
    exact bodyPost_ret (v := .tuple #[.agg #[.string l, .slice oa ks.length cap], .bool true]) (by simp [results, Try.results89, go_sem]) rfl ⟨l, ks, oa, cap, rfl, hl, rfl, (hk.pr (Pr.alloc _ _)).pr (Pr.alloc _ _), (Pr.alloc _ _).alloc' _⟩
  | cons x p ih =>
    intro S l ks oa cap pa pc w hl hk hp
    have Ih := Lib.hid ih; clear ih
    have hm := Ints.len hp
    have hm2 := hk.len
    obtain ⟨b, o, rfl, cp⟩ := Ints.get hp 0 (by simp)
    simp only [List.getElem_cons_zero, Nat.add_zero] at cp
    have cp1 : ∀ o1 o2, ((w.alloc o1).alloc o2).cell? ⟨b, o, none⟩ = some (.int .i64 x) := fun o1 o2 => (Pr.alloc' (Pr.alloc _ _) _).cell cp
    have hlp : (x :: p).length = p.length + 1 := rfl
    have none_case : ∀ W, Pr w W → (Tr.node l ks).kid? x = none → AtPost S w ((Tr.node l ks).at? (x :: p)) (.returned (.tuple #[.agg #[.string ⟨#[]⟩, .slice none 0 0], .bool false])) W := by
      intro W hW hz
      have hz2 : (Tr.node l ks).at? (x :: p) = none := by simp only [Tr.at?, hz]; rfl
      rw [hz2]
      exact ⟨⟨#[]⟩, [], none, 0, rfl, by simp [ByteArray.size], rfl, Kids.nil _ _ _ _ (Nat.zero_le _), hW⟩
    have Hnc := Lib.hid none_case; clear none_case
    by_cases hneg : x < 0
    · go_enter Try.func89, Try.ntmps89
      go_wp2_with fail
      go_quiet (fail)
      go_wp2_with fail
      exact bodyPost_ret (v := .tuple #[.agg #[.string ⟨#[]⟩, .slice none 0 0], .bool false]) (by simp [results, Try.results89, go_sem]) rfl (Hnc.out _ ((((Pr.alloc _ _).alloc' _).drewN' _ |>.setCell (by simp) _).setCell (by simp) _) (Tr.kid?_neg _ hneg))
    · have hn1 : decide (x < 0) = false := by simpa using hneg
      by_cases hge : (ks.length : Int) ≤ x
      · have hg1 : decide ((ks.length : Int) ≤ x) = true := by simpa using hge
        go_enter Try.func89, Try.ntmps89
        go_wp2_with fail
        go_quiet (fail)
        go_wp2_with fail
        exact bodyPost_ret (v := .tuple #[.agg #[.string ⟨#[]⟩, .slice none 0 0], .bool false]) (by simp [results, Try.results89, go_sem]) rfl (Hnc.out _ ((((Pr.alloc _ _).alloc' _).drewN' _ |>.setCell (by simp) _).setCell (by simp) _) (Tr.kid?_ge _ _ hge))
      · have hg1 : decide ((ks.length : Int) ≤ x) = false := by simpa using hge
        obtain ⟨n, rfl⟩ := Int.eq_ofNat_of_zero_le (by omega : 0 ≤ x)
        have hnl : n < ks.length := by omega
        obtain ⟨b', o', l2, ks2, oa2, cap2, e1, hl2, rfl, d0, d1, hk2⟩ := hk.get n hnl
        have hat : (Tr.node l ks).at? ((n : Int) :: p) = (Tr.node l2 ks2).at? p := by simp only [Tr.at?, Tr.kid?_in l ks hnl, e1]; rfl
        have Hat := Lib.hid hat; clear hat e1
        have hcap : (1 : Int) ≤ pc := by have := hp.1; simp at this; omega
        have ht := Lib.hid (Flat.tail (v := .int .i64 n) (vs := ints p) hp)
        have d0' : ∀ o1 o2, ((w.alloc o1).alloc o2).cell? ⟨b', o' + n * 2, none⟩ = some (.string l2) := fun o1 o2 => (Pr.alloc' (Pr.alloc _ _) _).cell d0
        have d1' : ∀ o1 o2, ((w.alloc o1).alloc o2).cell? ⟨b', o' + n * 2 + 1, none⟩ = some (.slice oa2 ks2.length cap2) := fun o1 o2 => (Pr.alloc' (Pr.alloc _ _) _).cell d1
        have hpl : (0 : Int) ≤ p.length := by omega
        have lb := lt_of_cell cp
        have lb' := lt_of_cell d0
        have hpc2 : ((p.length : Int) + 1) ≤ pc := by have := hp.1; simp at this; omega
        by_cases hpc : pc = 1
        · subst hpc
          have hp0 : p = [] := List.eq_nil_of_length_eq_zero (by omega)
          subst hp0
          have ht2 := Lib.hid (ht.out : Flat Any w (ints []) (some ⟨b, o, none⟩) 0)
          clear ht
          go_enter Try.func89, Try.ntmps89
          go_wp2_with fail
          go_quiet (fail)
          go_wp2_with fail
          go_region_held3 (fun w' => w'.cell? ⟨w.heap.size, 1, none⟩ = some (.slice (some ⟨b', o', none⟩) ks.length cap) ∧ w'.cell? ⟨b, o, none⟩ = some (.int .i64 n) ∧ w'.cell? ⟨b', o' + n * 2, none⟩ = some (.string l2) ∧ w'.cell? ⟨b', o' + n * 2 + 1, none⟩ = some (.slice oa2 ks2.length cap2))
            (first | exact ⟨s1, s2, s3, s4⟩ | exact ⟨cell_far (cell_far s1 (by simp)) (by simp), cell_far (cell_far s2 (by simp; omega)) (by simp; omega), cell_far (cell_far s3 (by simp; omega)) (by simp; omega), cell_far (cell_far s4 (by simp; omega)) (by simp; omega)⟩ | go_keep)
            (first | (go_at_call 89; refine (Ih.out (fun k => S k ∧ k < w.heap.size) _ _ _ _ _ _ _ hl2 ((hk2.mono (fun k h1 h2 => ⟨h1, h2⟩)).pr (Pr.drew' (Pr.drewN' (Pr.alloc' (Pr.alloc _ _) _) _))) (Flat.pr (Pr.drew' (Pr.drewN' (Pr.alloc' (Pr.alloc _ _) _) _)) ht2.out)).mono ?_; rintro e w1 ⟨l3, ks3, oa3, cap3, he3, hl3, rfl, hk3, hb3⟩; have He3 := Lib.hid he3; clear he3; have s1 := hb3.cell (b := w.heap.size) (o := 1) (v := .slice (some ⟨b', o', none⟩) ks.length cap) (by simp [go_sem]); have s2 := hb3.cell ((Pr.drew' (Pr.drewN' (Pr.alloc' (Pr.alloc _ _) _) _)).cell cp); have s3 := hb3.cell ((Pr.drew' (Pr.drewN' (Pr.alloc' (Pr.alloc _ _) _) _)).cell d0); have s4 := hb3.cell ((Pr.drew' (Pr.drewN' (Pr.alloc' (Pr.alloc _ _) _) _)).cell d1); have r0 := hb3.cell (b := w.heap.size + 1) (o := 0) (v := .string ⟨#[]⟩) (by simp [go_sem]); have r1 := hb3.cell (b := w.heap.size + 1) (o := 1) (v := .slice none 0 0) (by simp [go_sem]); have f0 : w1.frozen? ⟨w.heap.size + 1, 0, none⟩ = false := (by rw [hb3.frozen (by simp)]; simp [go_sem]); have f1 : w1.frozen? ⟨w.heap.size + 1, 1, none⟩ = false := (by rw [hb3.frozen (by simp)]; simp [go_sem])))
          go_wp2_with fail
          refine bodyPost_ret (v := .tuple #[.agg #[.string l3, .slice oa3 ks3.length cap3], .bool ((Tr.node l2 ks2).at? []).isSome]) (by simp [results, Try.results89, go_sem, r0, r1]) rfl ?_
          rw [Hat.out]
          exact ⟨l3, ks3, oa3, cap3, He3.out, hl3, rfl, ((hk3.setCell _ _ (by simp)).setCell _ _ (by simp)).mono (fun k h _ => h.1), (((Pr.drew' (Pr.drewN' (Pr.alloc' (Pr.alloc _ _) _) _)).trans hb3).setCell (by simp) _).setCell (by simp) _⟩
        · have ht2 := ht.out
          rw [if_neg hpc] at ht2
          have Ht := Lib.hid ht2
          clear ht ht2
          have hpl1 : ¬ ((p.length : Int) + 1 < 1) := by omega
          go_enter Try.func89, Try.ntmps89
          go_wp2_with fail
          go_quiet (fail)
          go_wp2_with fail
          go_region_held3 (fun w' => w'.cell? ⟨w.heap.size, 1, none⟩ = some (.slice (some ⟨b', o', none⟩) ks.length cap) ∧ w'.cell? ⟨b, o, none⟩ = some (.int .i64 n) ∧ w'.cell? ⟨b', o' + n * 2, none⟩ = some (.string l2) ∧ w'.cell? ⟨b', o' + n * 2 + 1, none⟩ = some (.slice oa2 ks2.length cap2))
            (first | exact ⟨s1, s2, s3, s4⟩ | exact ⟨cell_far (cell_far s1 (by simp)) (by simp), cell_far (cell_far s2 (by simp; omega)) (by simp; omega), cell_far (cell_far s3 (by simp; omega)) (by simp; omega), cell_far (cell_far s4 (by simp; omega)) (by simp; omega)⟩ | go_keep)
            (first | (go_at_call 89; refine (Ih.out (fun k => S k ∧ k < w.heap.size) _ _ _ _ _ _ _ hl2 ((hk2.mono (fun k h1 h2 => ⟨h1, h2⟩)).pr (Pr.drew' (Pr.drewN' (Pr.alloc' (Pr.alloc _ _) _) _))) (Flat.pr (Pr.drew' (Pr.drewN' (Pr.alloc' (Pr.alloc _ _) _) _)) Ht.out)).mono ?_; rintro e w1 ⟨l3, ks3, oa3, cap3, he3, hl3, rfl, hk3, hb3⟩; have He3 := Lib.hid he3; clear he3; have s1 := hb3.cell (b := w.heap.size) (o := 1) (v := .slice (some ⟨b', o', none⟩) ks.length cap) (by simp [go_sem]); have s2 := hb3.cell ((Pr.drew' (Pr.drewN' (Pr.alloc' (Pr.alloc _ _) _) _)).cell cp); have s3 := hb3.cell ((Pr.drew' (Pr.drewN' (Pr.alloc' (Pr.alloc _ _) _) _)).cell d0); have s4 := hb3.cell ((Pr.drew' (Pr.drewN' (Pr.alloc' (Pr.alloc _ _) _) _)).cell d1); have r0 := hb3.cell (b := w.heap.size + 1) (o := 0) (v := .string ⟨#[]⟩) (by simp [go_sem]); have r1 := hb3.cell (b := w.heap.size + 1) (o := 1) (v := .slice none 0 0) (by simp [go_sem]); have f0 : w1.frozen? ⟨w.heap.size + 1, 0, none⟩ = false := (by rw [hb3.frozen (by simp)]; simp [go_sem]); have f1 : w1.frozen? ⟨w.heap.size + 1, 1, none⟩ = false := (by rw [hb3.frozen (by simp)]; simp [go_sem])))
          go_wp2_with fail
          refine bodyPost_ret (v := .tuple #[.agg #[.string l3, .slice oa3 ks3.length cap3], .bool ((Tr.node l2 ks2).at? p).isSome]) (by simp [results, Try.results89, go_sem, r0, r1]) rfl ?_
          rw [Hat.out]
          exact ⟨l3, ks3, oa3, cap3, He3.out, hl3, rfl, ((hk3.setCell _ _ (by simp)).setCell _ _ (by simp)).mono (fun k h _ => h.1), (((Pr.drew' (Pr.drewN' (Pr.alloc' (Pr.alloc _ _) _) _)).trans hb3).setCell (by simp) _).setCell (by simp) _⟩
end Go.Proofs.Ytdbnfhpgmcjngac
