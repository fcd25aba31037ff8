/- Walks: are two lists of numbers the same? (R.SameInts, slices.Equal.) -/
import Derived.Test.YtdbnfhpgmcjngabWa
import Derived.Test.YtdbnfhpgmcjngabMn
namespace Go.Proofs.Ytdbnfhpgmcjngab
open Go Go.RowKit

theorem snoc_gen {α : Type} {a b : List α} (i : Nat) (h : i < a.length) (h' : i < b.length) (he : a.take i = b.take i) (hf : a[i] = b[i]) : a.take (i + 1) = b.take (i + 1) := by
  rw [List.take_succ_eq_append_getElem h, List.take_succ_eq_append_getElem h', he, hf]

set_option maxHeartbeats 800000 in
theorem sints_any (xs ys : List Int) (oa cap ob cbp) (w : World) (hx : Ints Any w xs oa cap) (hy : Ints Any w ys ob cbp) :
    Calls Try.prog 38 #[.slice oa xs.length cap, .slice ob ys.length cbp] w fun e w' => e = .returned (.bool (decide (xs = ys))) ∧ Pr w w' := by
  have hm := Ints.len hx
  have hm2 := Ints.len hy
  by_cases hlen : xs.length = ys.length
  case neg =>
    have Hf : Hid (decide (xs = ys) = false) := decide_eq_false (fun e => hlen (by rw [e]))
    have hne : ((xs.length : Int) != ys.length) = true := by simp [bne_iff_ne]; omega
    clear hlen
    go_enter Try.func38, Try.ntmps38
    go_wp2_with fail
    go_ret
    exact ⟨ret_bool Hf.out.symm, Pr.refl _⟩
  have hne : ((xs.length : Int) != ys.length) = false := by simp [hlen]
  have Hlen := Lib.hid hlen
  clear hlen
  go_enter Try.func38, Try.ntmps38
  go_wp2_with fail
  go_loopw [5] (fun i wr => ∃ (k : Nat), k ≤ xs.length ∧ i = .int .i64 k ∧ xs.take k = ys.take k ∧ Pr w wr) (fun i _ => xs.length - (intOf i).toNat)
  case atStart => exact ⟨0, by omega, rfl, by simp, Pr.refl _⟩
  case round =>
    obtain ⟨k, hkl, rfl, hr, hb⟩ := hrel
    have Hr := Lib.hid hr
    clear hr
    by_cases hlt : k < xs.length
    · have hlt' : k < ys.length := by have := Hlen.out; omega
      obtain ⟨b, o, rfl, c0⟩ := Ints.get (Flat.pr hb hx) k hlt
      obtain ⟨b', o', rfl, d0⟩ := Ints.get (Flat.pr hb hy) k hlt'
      have hk0 : (0 : Int) ≤ k := by omega
      have hk1 : (k : Int) < xs.length := by omega
      have hk2 : (k : Int) < ys.length := by omega
      have hsn := snoc_gen k hlt hlt' Hr.out
      have hst : xs[k] ≠ ys[k] → ¬ xs = ys := fun h e => h (by subst e; rfl)
      generalize xs[k] = x at *
      generalize ys[k] = y at *
      have Hsn := Lib.hid hsn
      have Hst := Lib.hid hst
      clear hsn hst
      by_cases hp : x = y
      · have hb1 : (x != y) = false := by simp [hp]
        have Hp := Lib.hid hp
        clear hp
        go_wp2_with fail
        go_quiet (fail)
        go_wp2_with fail
        refine ⟨⟨k + 1, by omega, by go_num, Hsn.out Hp.out, hb.drewN' _⟩, ?_⟩
        simp [intOf]; omega
      · have hb1 : (x != y) = true := by simp [hp]
        have Hp := Lib.hid hp
        clear hp
        go_wp2_with fail
        go_quiet (fail)
        go_wp2_with fail
        go_ret
        exact ⟨ret_bool (decide_eq_false (Hst.out Hp.out)).symm, hb.drewN' _⟩
    · have hkv : k = xs.length := by omega
      go_wp2_with fail
      go_ret
      exact ⟨ret_bool (by have h1 := Hr.out; have h2 := Hlen.out; subst hkv; rw [List.take_length, h2, List.take_length] at h1; exact (decide_eq_true h1).symm), hb⟩
set_option maxHeartbeats 800000 in
theorem eqints_any (xs ys : List Int) (oa cap ob cbp) (w : World) (hx : Ints Any w xs oa cap) (hy : Ints Any w ys ob cbp) :
    Calls Try.prog 70 #[.slice oa xs.length cap, .slice ob ys.length cbp] w fun e w' => e = .returned (.bool (decide (xs = ys))) ∧ Pr w w' := by
  have hm := Ints.len hx
  have hm2 := Ints.len hy
  by_cases hlen : xs.length = ys.length
  case neg =>
    have Hf : Hid (decide (xs = ys) = false) := decide_eq_false (fun e => hlen (by rw [e]))
    have hne : ((xs.length : Int) != ys.length) = true := by simp [bne_iff_ne]; omega
    clear hlen
    go_enter Try.func70, Try.ntmps70
    go_wp2_with fail
    go_ret
    exact ⟨ret_bool Hf.out.symm, Pr.refl _⟩
  have hne : ((xs.length : Int) != ys.length) = false := by simp [hlen]
  have Hlen := Lib.hid hlen
  clear hlen
  go_enter Try.func70, Try.ntmps70
  go_wp2_with fail
  go_loopw [13] (fun i wr => ∃ (k : Nat), k ≤ xs.length ∧ i = .int .i64 k ∧ xs.take k = ys.take k ∧ Pr w wr) (fun i _ => xs.length - (intOf i).toNat)
  case atStart => exact ⟨0, by omega, rfl, by simp, Pr.refl _⟩
  case round =>
    obtain ⟨k, hkl, rfl, hr, hb⟩ := hrel
    have Hr := Lib.hid hr
    clear hr
    by_cases hlt : k < xs.length
    · have hlt' : k < ys.length := by have := Hlen.out; omega
      obtain ⟨b, o, rfl, c0⟩ := Ints.get (Flat.pr hb hx) k hlt
      obtain ⟨b', o', rfl, d0⟩ := Ints.get (Flat.pr hb hy) k hlt'
      have hk0 : (0 : Int) ≤ k := by omega
      have hk1 : (k : Int) < xs.length := by omega
      have hk2 : (k : Int) < ys.length := by omega
      have hsn := snoc_gen k hlt hlt' Hr.out
      have hst : xs[k] ≠ ys[k] → ¬ xs = ys := fun h e => h (by subst e; rfl)
      generalize xs[k] = x at *
      generalize ys[k] = y at *
      have Hsn := Lib.hid hsn
      have Hst := Lib.hid hst
      clear hsn hst
      by_cases hp : x = y
      · have hb1 : (x != y) = false := by simp [hp]
        have Hp := Lib.hid hp
        clear hp
        go_wp2_with fail
        go_quiet (fail)
        go_wp2_with fail
        refine ⟨⟨k + 1, by omega, by go_num, Hsn.out Hp.out, hb.drewN' _⟩, ?_⟩
        simp [intOf]; omega
      · have hb1 : (x != y) = true := by simp [hp]
        have Hp := Lib.hid hp
        clear hp
        go_wp2_with fail
        go_quiet (fail)
        go_wp2_with fail
        go_ret
        exact ⟨ret_bool (decide_eq_false (Hst.out Hp.out)).symm, hb.drewN' _⟩
    · have hkv : k = xs.length := by omega
      go_wp2_with fail
      go_ret
      exact ⟨ret_bool (by have h1 := Hr.out; have h2 := Hlen.out; subst hkv; rw [List.take_length, h2, List.take_length] at h1; exact (decide_eq_true h1).symm), hb⟩
end Go.Proofs.Ytdbnfhpgmcjngab
