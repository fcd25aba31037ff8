/- Walks: the functions that look at a tree: its size, its depth, its labels. -/
import Derived.Test.YtdbnfhpgmcjngabMem
import Derived.Test.YtdbnfhpgmcjngabProg
namespace Go.Proofs.Ytdbnfhpgmcjngab
open Go Go.RowKit

theorem ret_int {k : IntKind} {a b : Int} (h : a = b) : Ending.returned (.int k a) = .returned (.int k b) := by rw [h]
theorem ret_bool {a b : Bool} (h : a = b) : Ending.returned (.bool a) = .returned (.bool b) := by rw [h]

/-- What tree.left tells. -/
def leftR (s : Nat) (n : Int) : Int := max (n - s) (-1)

set_option maxHeartbeats 400000 in
theorem left_any (N : Nat) : ∀ (l : ByteArray) (ks : List Tr) (oa cap) (n : Int) (w : World), Tr.szL ks < N → 0 ≤ n → n ≤ 1000 → Kids Any w ks oa cap →
    Calls Try.prog 64 #[.agg #[.string l, .slice oa ks.length cap], .int .i64 n] w fun e w' => e = .returned (.int .i64 (leftR (Tr.szL ks + 1) n)) ∧ Pr w w' := by
  induction N with
  | zero => intro l ks oa cap n w hN; omega
  | succ N ih =>
    intro l ks oa cap n w hN h0 h1 hk
    have Ih := Lib.hid ih; clear ih
    have hm := hk.len
    go_enter Try.func64, Try.ntmps64
    go_wp2_with fail
    go_loopw [1, 5] (fun v i wr => ∃ (k : Nat) (r : Int), k ≤ ks.length ∧ i = .int .i64 k ∧ v = .int .i64 r ∧ r = max (n - 1 - Tr.szL (ks.take k)) (-1) ∧ Pr (w.alloc (.cells #[.string l, .slice oa ks.length cap] 24)) wr) (fun _ i _ => ks.length - (intOf i).toNat)
    case atStart => exact ⟨0, _, by omega, rfl, rfl, by simp; omega, Pr.refl _⟩
    case round =>
      obtain ⟨k, r, hkl, rfl, rfl, hr, hb⟩ := hrel
      have hc0 : wr.cell? ⟨w.heap.size, 1, none⟩ = some (.slice oa ks.length cap) := hb.cell (by simp [go_sem])
      have Hr := Lib.hid hr
      have r0 : -1 ≤ r := by omega
      have r1 : r ≤ n := by omega
      clear hr
      by_cases hlt : k < ks.length
      · obtain ⟨b, o, l', ks', oa', cap', e1, _, rfl, c0, c1, hk'⟩ := ((hk.pr (Pr.alloc _ _)).pr hb).get k hlt
        have hs := Tr.szL_take_succ ks k hlt
        have hsz := Tr.szL_get ks k hlt
        have htl := Tr.szL_take_le ks k
        rw [e1] at hs hsz
        have Hs := Lib.hid hs
        have He := Lib.hid e1
        clear hs e1
        simp only [Tr.sz] at hsz
        go_wp2_with (go_at_call 64; refine (Ih.out _ _ _ _ _ _ (by omega) (by omega) (by omega) hk').mono ?_; rintro e w' ⟨rfl, hb'⟩)
        · refine ⟨⟨k + 1, _, by omega, by go_num, rfl, ?_, hb.trans hb'⟩, ?_⟩
          · have h1 := Hr.out; have h2 := Hs.out; simp only [leftR, Tr.sz] at *; omega
          · simp [intOf]; omega
        · go_ret
          exact ⟨ret_int (by have h1 := Hr.out; simp only [leftR]; omega), (Pr.alloc _ _).trans hb⟩
      · have hkv : k = ks.length := by omega
        go_wp2_with fail
        go_ret
        exact ⟨ret_int (by have h1 := Hr.out; subst hkv; simp only [leftR, List.take_length] at *; omega), (Pr.alloc _ _).trans hb⟩

/-- What pleachingref.SizeOf tells. -/
def sizeR (s : Nat) (m : Int) : Int := min (s : Int) (m + 1)

set_option maxHeartbeats 400000 in
theorem sizeOf_any (N : Nat) : ∀ (l : ByteArray) (ks : List Tr) (oa cap) (n : Int) (w : World), Tr.szL ks < N → 0 ≤ n → n ≤ 100000 → Kids Any w ks oa cap →
    Calls Try.prog 43 #[.agg #[.string l, .slice oa ks.length cap], .int .i64 n] w fun e w' => e = .returned (.int .i64 (sizeR (Tr.szL ks + 1) n)) ∧ Pr w w' := by
  induction N with
  | zero => intro l ks oa cap n w hN; omega
  | succ N ih =>
    intro l ks oa cap n w hN h0 h1 hk
    have Ih := Lib.hid ih; clear ih
    have hm := hk.len
    go_enter Try.func43, Try.ntmps43
    go_wp2_with fail
    go_loopw [5, 6] (fun v i wr => ∃ (k : Nat) (r : Int), k ≤ ks.length ∧ i = .int .i64 k ∧ v = .int .i64 r ∧ r = min (Tr.szL (ks.take k) + 1 : Int) (n + 1) ∧ Pr (w.alloc (.cells #[.string l, .slice oa ks.length cap] 24)) wr) (fun _ i _ => ks.length - (intOf i).toNat)
    case atStart => exact ⟨0, _, by omega, rfl, rfl, by simp; omega, Pr.refl _⟩
    case round =>
      obtain ⟨k, r, hkl, rfl, rfl, hr, hb⟩ := hrel
      have hc0 : wr.cell? ⟨w.heap.size, 1, none⟩ = some (.slice oa ks.length cap) := hb.cell (by simp [go_sem])
      have Hr := Lib.hid hr
      have r0 : 1 ≤ r := by omega
      have r1 : r ≤ n + 1 := by omega
      clear hr
      by_cases hlt : k < ks.length
      · obtain ⟨b, o, l', ks', oa', cap', e1, _, rfl, c0, c1, hk'⟩ := ((hk.pr (Pr.alloc _ _)).pr hb).get k hlt
        have hs := Tr.szL_take_succ ks k hlt
        have hsz := Tr.szL_get ks k hlt
        have htl := Tr.szL_take_le ks k
        rw [e1] at hs hsz
        have Hs := Lib.hid hs
        have He := Lib.hid e1
        clear hs e1
        simp only [Tr.sz] at hsz
        have hss : 0 ≤ sizeR (Tr.szL ks' + 1) (n - r) ∨ n < r := by unfold sizeR; omega
        have hst : sizeR (Tr.szL ks' + 1) (n - r) ≤ n - r + 1 := by unfold sizeR; omega
        by_cases hrn : r ≤ n
        · have hs2 : 0 ≤ sizeR (Tr.szL ks' + 1) (n - r) := by omega
          clear hss
          go_wp2_with (go_at_call 43; refine (Ih.out _ _ _ _ _ _ (by omega) (by omega) (by omega) hk').mono ?_; rintro e w' ⟨rfl, hb'⟩)
          refine ⟨⟨k + 1, _, by omega, by go_num, rfl, ?_, hb.trans hb'⟩, ?_⟩
          · have h1 := Hr.out; have h2 := Hs.out; simp only [sizeR, Tr.sz] at *; omega
          · simp [intOf]; omega
        · go_wp2_with fail
          go_ret
          exact ⟨ret_int (by have h1 := Hr.out; have h2 := Hs.out; simp only [sizeR, Tr.sz] at *; omega), (Pr.alloc _ _).trans hb⟩
      · have hkv : k = ks.length := by omega
        go_wp2_with fail
        go_ret
        exact ⟨ret_int (by have h1 := Hr.out; subst hkv; simp only [sizeR, List.take_length] at *; omega), (Pr.alloc _ _).trans hb⟩

set_option maxHeartbeats 400000 in
theorem size_any (N : Nat) : ∀ (l : ByteArray) (ks : List Tr) (oa cap) (w : World), Tr.szL ks < N → Tr.szL ks ≤ 1000000 → Kids Any w ks oa cap →
    Calls Try.prog 28 #[.agg #[.string l, .slice oa ks.length cap]] w fun e w' => e = .returned (.int .i64 ((Tr.szL ks + 1 : Nat) : Int)) ∧ Pr w w' := by
  induction N with
  | zero => intro l ks oa cap w hN; omega
  | succ N ih =>
    intro l ks oa cap w hN h1 hk
    have Ih := Lib.hid ih; clear ih
    have hm := hk.len
    go_enter Try.func28, Try.ntmps28
    go_wp2_with fail
    go_loopw [3, 9] (fun v i wr => ∃ (k r : Nat), k ≤ ks.length ∧ i = .int .i64 k ∧ v = .int .i64 r ∧ r = Tr.szL (ks.take k) + 1 ∧ Pr (w.alloc (.cells #[.string l, .slice oa ks.length cap] 24)) wr) (fun _ i _ => ks.length - (intOf i).toNat)
    case atStart => exact ⟨0, _, by omega, rfl, rfl, by simp, Pr.refl _⟩
    case round =>
      obtain ⟨k, r, hkl, rfl, rfl, hr, hb⟩ := hrel
      have htl := Tr.szL_take_le ks k
      have Hr := Lib.hid hr
      have r0 : 1 ≤ r := by omega
      have r1 : r ≤ Tr.szL ks + 1 := by omega
      clear hr
      by_cases hlt : k < ks.length
      · obtain ⟨b, o, l', ks', oa', cap', e1, _, rfl, c0, c1, hk'⟩ := ((hk.pr (Pr.alloc _ _)).pr hb).get k hlt
        have hs := Tr.szL_take_succ ks k hlt
        have hsz := Tr.szL_get ks k hlt
        rw [e1] at hs hsz
        have Hs := Lib.hid hs
        have He := Lib.hid e1
        clear hs e1
        simp only [Tr.sz] at hsz
        go_wp2_with (go_at_call 28; refine (Ih.out _ _ _ _ _ (by omega) (by omega) (hk'.pr (Pr.alloc _ _))).mono ?_; rintro e w' ⟨rfl, hb'⟩)
        refine ⟨⟨k + 1, r + (Tr.szL ks' + 1), by omega, by go_num, by go_num, ?_, (hb.alloc' _).trans hb'⟩, ?_⟩
        · have h1 := Hr.out; have h2 := Hs.out; simp only [Tr.sz] at *; omega
        · simp [intOf]; omega
      · have hkv : k = ks.length := by omega
        go_wp2_with fail
        go_ret
        exact ⟨ret_int (by have h1 := Hr.out; subst hkv; simp only [List.take_length] at *; omega), (Pr.alloc _ _).trans hb⟩
end Go.Proofs.Ytdbnfhpgmcjngab
