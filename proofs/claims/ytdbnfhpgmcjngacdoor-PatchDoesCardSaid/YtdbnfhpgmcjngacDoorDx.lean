/- Walks: may a deed be done, by the document? -/
import Derived.Test.YtdbnfhpgmcjngacDoorDw
namespace Go.Proofs.YtdbnfhpgmcjngacDoor
open Go Go.RowKit
set_option maxRecDepth 100000 in
set_option maxHeartbeats 6400000 in
theorem dfault_any (k : Int) (p : List Int) (a m : Int) (s : ByteArray) (pa pc) (w : World) (hs : s.size ≤ maxLen) (hp : Ints Any w p pa pc) :
    Calls Tryd.prog 63 #[.agg #[.int .i64 k, .slice pa p.length pc, .int .i64 a, .int .i64 m, .string s]] w fun e w' => e = .returned (.int .i64 (dfault ⟨k, p, a, m, s⟩)) ∧ Pr w w' := by
  have hm := Ints.len hp
  have L1 := Lib.hid (fun W' => isLabel_any s W' hs)
  obtain ⟨n, hn⟩ : ∃ n, n = negP p := ⟨_, rfl⟩
  obtain ⟨b, hb⟩ : ∃ n, n = isLab s := ⟨_, rfl⟩
  have H1 := Lib.hid hn
  have H2 := Lib.hid hb
  rw [← hb] at L1
  clear hn hb
  obtain ⟨f, hf⟩ : ∃ f : Nat, f = dfault ⟨k, p, a, m, s⟩ := ⟨_, rfl⟩
  rw [← hf]
  unfold dfault at hf
  simp only [← H1.out, ← H2.out] at hf
  have Hp := Lib.hid hp
  clear hp
  by_cases hk : k = 1 ∨ k = 2 ∨ k = 3
  case neg =>
    rw [if_pos (by omega)] at hf
    have e1 : (k != 1) = true := by simp; omega
    have e2 : (k != 2) = true := by simp; omega
    have e3 : (k != 3) = true := by simp; omega
    subst hf
    go_enter Tryd.func63, Tryd.ntmps63
    go_wp2_with fail
    go_ret
    exact ⟨rfl, Pr.alloc _ _⟩
  rw [if_neg (by omega)] at hf
  rcases hk with rfl | rfl | rfl
  · by_cases ha : a = 0
    case neg =>
      rw [if_pos (.inl ⟨by decide, .inl ha⟩)] at hf
      have e1 : (a != 0) = true := by simpa using ha
      subst hf
      go_enter Tryd.func63, Tryd.ntmps63
      go_wp2_with fail
      go_ret
      exact ⟨rfl, Pr.alloc _ _⟩
    subst ha
    by_cases hz : m = 0
    case neg =>
      rw [if_pos (.inl ⟨by decide, .inr hz⟩)] at hf
      have e1 : (m != 0) = true := by simpa using hz
      subst hf
      go_enter Tryd.func63, Tryd.ntmps63
      go_wp2_with fail
      go_ret
      exact ⟨rfl, Pr.alloc _ _⟩
    subst hz
    rw [if_neg (by simp)] at hf
    cases n
    case true =>
      rw [if_pos (by simp)] at hf
      subst hf
      go_enter Tryd.func63, Tryd.ntmps63
      go_wp2_with fail
      go_loopw [3, 4] (fun b i wr => ∃ j : Nat, j ≤ p.length ∧ i = .int .i64 j ∧ b = .bool (false || negP (p.take j)) ∧ wr = w.alloc (.cells #[.int .i64 1, .slice pa p.length pc, .int .i64 0, .int .i64 0, .string s] 52)) (fun _ i _ => p.length - (intOf i).toNat)
      case atStart => exact ⟨0, by omega, rfl, by simp [negP], rfl⟩
      case round =>
        obtain ⟨j, hj, rfl, rfl, rfl⟩ := hrel
        by_cases hlt : j < p.length
        · obtain ⟨bb, oo, rfl, c0⟩ := Ints.get (Flat.pr (Pr.alloc w (.cells #[.int .i64 1, .slice pa p.length pc, .int .i64 0, .int .i64 0, .string s] 52)) Hp.out) j hlt
          have hsn := negP_take p j hlt
          have hlt' : (j : Int) < p.length := by omega
          have hj0 : (0 : Int) ≤ j := by omega
          generalize p[j] = x at *
          have Hsn := Lib.hid hsn
          clear hsn
          cases hv : (false || negP (p.take j))
          · have hv2 : (false || negP (p.take (j + 1))) = decide (x < 0) := by rw [Hsn.out, ← Bool.or_assoc, hv]; rfl
            have Hv := Lib.hid hv2
            clear hv hv2
            go_wp2_with fail
            refine ⟨⟨j + 1, by omega, by go_num, by rw [Hv.out], trivial⟩, ?_⟩
            simp [intOf]; omega
          · have hv2 : (false || negP (p.take (j + 1))) = true := by rw [Hsn.out, ← Bool.or_assoc, hv]; rfl
            have Hv := Lib.hid hv2
            clear hv hv2
            go_wp2_with fail
            refine ⟨⟨j + 1, by omega, by go_num, by rw [Hv.out], trivial⟩, ?_⟩
            simp [intOf]; omega
        · have hje : j = p.length := by omega
          subst hje
          have hv : (false || negP (p.take p.length)) = true := by rw [List.take_length]; simp [← H1.out]
          have Hj : Hid (negP (p.take p.length) = negP (p.take p.length)) := Lib.hid rfl
          rw [hv]
          go_wp2_with (first
        | (go_at_call 77; refine (L1.out _).mono ?_; rintro e w' ⟨rfl, rfl⟩))
          go_ret
          exact ⟨rfl, Pr.alloc _ _⟩
    rw [if_neg (by simp)] at hf
    cases b
    · rw [if_pos (by simp)] at hf
      subst hf
      go_enter Tryd.func63, Tryd.ntmps63
      go_wp2_with fail
      go_loopw [3, 4] (fun b i wr => ∃ j : Nat, j ≤ p.length ∧ i = .int .i64 j ∧ b = .bool (false || negP (p.take j)) ∧ wr = w.alloc (.cells #[.int .i64 1, .slice pa p.length pc, .int .i64 0, .int .i64 0, .string s] 52)) (fun _ i _ => p.length - (intOf i).toNat)
      case atStart => exact ⟨0, by omega, rfl, by simp [negP], rfl⟩
      case round =>
        obtain ⟨j, hj, rfl, rfl, rfl⟩ := hrel
        by_cases hlt : j < p.length
        · obtain ⟨bb, oo, rfl, c0⟩ := Ints.get (Flat.pr (Pr.alloc w (.cells #[.int .i64 1, .slice pa p.length pc, .int .i64 0, .int .i64 0, .string s] 52)) Hp.out) j hlt
          have hsn := negP_take p j hlt
          have hlt' : (j : Int) < p.length := by omega
          have hj0 : (0 : Int) ≤ j := by omega
          generalize p[j] = x at *
          have Hsn := Lib.hid hsn
          clear hsn
          cases hv : (false || negP (p.take j))
          · have hv2 : (false || negP (p.take (j + 1))) = decide (x < 0) := by rw [Hsn.out, ← Bool.or_assoc, hv]; rfl
            have Hv := Lib.hid hv2
            clear hv hv2
            go_wp2_with fail
            refine ⟨⟨j + 1, by omega, by go_num, by rw [Hv.out], trivial⟩, ?_⟩
            simp [intOf]; omega
          · have hv2 : (false || negP (p.take (j + 1))) = true := by rw [Hsn.out, ← Bool.or_assoc, hv]; rfl
            have Hv := Lib.hid hv2
            clear hv hv2
            go_wp2_with fail
            refine ⟨⟨j + 1, by omega, by go_num, by rw [Hv.out], trivial⟩, ?_⟩
            simp [intOf]; omega
        · have hje : j = p.length := by omega
          subst hje
          have hv : (false || negP (p.take p.length)) = false := by rw [List.take_length]; simp [← H1.out]
          have Hj : Hid (negP (p.take p.length) = negP (p.take p.length)) := Lib.hid rfl
          rw [hv]
          go_wp2_with (first
        | (go_at_call 77; refine (L1.out _).mono ?_; rintro e w' ⟨rfl, rfl⟩))
          go_ret
          exact ⟨rfl, Pr.alloc _ _⟩
    · rw [if_neg (by simp), if_neg (by simp)] at hf
      subst hf
      go_enter Tryd.func63, Tryd.ntmps63
      go_wp2_with fail
      go_loopw [3, 4] (fun b i wr => ∃ j : Nat, j ≤ p.length ∧ i = .int .i64 j ∧ b = .bool (false || negP (p.take j)) ∧ wr = w.alloc (.cells #[.int .i64 1, .slice pa p.length pc, .int .i64 0, .int .i64 0, .string s] 52)) (fun _ i _ => p.length - (intOf i).toNat)
      case atStart => exact ⟨0, by omega, rfl, by simp [negP], rfl⟩
      case round =>
        obtain ⟨j, hj, rfl, rfl, rfl⟩ := hrel
        by_cases hlt : j < p.length
        · obtain ⟨bb, oo, rfl, c0⟩ := Ints.get (Flat.pr (Pr.alloc w (.cells #[.int .i64 1, .slice pa p.length pc, .int .i64 0, .int .i64 0, .string s] 52)) Hp.out) j hlt
          have hsn := negP_take p j hlt
          have hlt' : (j : Int) < p.length := by omega
          have hj0 : (0 : Int) ≤ j := by omega
          generalize p[j] = x at *
          have Hsn := Lib.hid hsn
          clear hsn
          cases hv : (false || negP (p.take j))
          · have hv2 : (false || negP (p.take (j + 1))) = decide (x < 0) := by rw [Hsn.out, ← Bool.or_assoc, hv]; rfl
            have Hv := Lib.hid hv2
            clear hv hv2
            go_wp2_with fail
            refine ⟨⟨j + 1, by omega, by go_num, by rw [Hv.out], trivial⟩, ?_⟩
            simp [intOf]; omega
          · have hv2 : (false || negP (p.take (j + 1))) = true := by rw [Hsn.out, ← Bool.or_assoc, hv]; rfl
            have Hv := Lib.hid hv2
            clear hv hv2
            go_wp2_with fail
            refine ⟨⟨j + 1, by omega, by go_num, by rw [Hv.out], trivial⟩, ?_⟩
            simp [intOf]; omega
        · have hje : j = p.length := by omega
          subst hje
          have hv : (false || negP (p.take p.length)) = false := by rw [List.take_length]; simp [← H1.out]
          have Hj : Hid (negP (p.take p.length) = negP (p.take p.length)) := Lib.hid rfl
          rw [hv]
          go_wp2_with (first
        | (go_at_call 77; refine (L1.out _).mono ?_; rintro e w' ⟨rfl, rfl⟩))
          go_ret
          exact ⟨rfl, Pr.alloc _ _⟩
  · by_cases ha : a = 0
    case neg =>
      rw [if_pos (.inl ⟨by decide, .inl ha⟩)] at hf
      have e1 : (a != 0) = true := by simpa using ha
      subst hf
      go_enter Tryd.func63, Tryd.ntmps63
      go_wp2_with fail
      go_ret
      exact ⟨rfl, Pr.alloc _ _⟩
    subst ha
    by_cases hz : m = 0
    case neg =>
      rw [if_pos (.inl ⟨by decide, .inr hz⟩)] at hf
      have e1 : (m != 0) = true := by simpa using hz
      subst hf
      go_enter Tryd.func63, Tryd.ntmps63
      go_wp2_with fail
      go_ret
      exact ⟨rfl, Pr.alloc _ _⟩
    subst hz
    by_cases hse : s = ⟨#[]⟩
    case neg =>
      rw [if_pos (.inr ⟨rfl, hse⟩)] at hf
      obtain ⟨e1, e2, e3⟩ := str_ne hse
      subst hf
      go_enter Tryd.func63, Tryd.ntmps63
      go_wp2_with fail
      go_ret
      exact ⟨rfl, Pr.alloc _ _⟩
    subst hse
    rw [if_neg (by simp)] at hf
    cases n
    case true =>
      rw [if_pos (by simp)] at hf
      subst hf
      go_enter Tryd.func63, Tryd.ntmps63
      go_wp2_with fail
      go_loopw [3, 4] (fun b i wr => ∃ j : Nat, j ≤ p.length ∧ i = .int .i64 j ∧ b = .bool (false || negP (p.take j)) ∧ wr = w.alloc (.cells #[.int .i64 2, .slice pa p.length pc, .int .i64 0, .int .i64 0, .string ⟨#[]⟩] 52)) (fun _ i _ => p.length - (intOf i).toNat)
      case atStart => exact ⟨0, by omega, rfl, by simp [negP], rfl⟩
      case round =>
        obtain ⟨j, hj, rfl, rfl, rfl⟩ := hrel
        by_cases hlt : j < p.length
        · obtain ⟨bb, oo, rfl, c0⟩ := Ints.get (Flat.pr (Pr.alloc w (.cells #[.int .i64 2, .slice pa p.length pc, .int .i64 0, .int .i64 0, .string ⟨#[]⟩] 52)) Hp.out) j hlt
          have hsn := negP_take p j hlt
          have hlt' : (j : Int) < p.length := by omega
          have hj0 : (0 : Int) ≤ j := by omega
          generalize p[j] = x at *
          have Hsn := Lib.hid hsn
          clear hsn
          cases hv : (false || negP (p.take j))
          · have hv2 : (false || negP (p.take (j + 1))) = decide (x < 0) := by rw [Hsn.out, ← Bool.or_assoc, hv]; rfl
            have Hv := Lib.hid hv2
            clear hv hv2
            go_wp2_with fail
            refine ⟨⟨j + 1, by omega, by go_num, by rw [Hv.out], trivial⟩, ?_⟩
            simp [intOf]; omega
          · have hv2 : (false || negP (p.take (j + 1))) = true := by rw [Hsn.out, ← Bool.or_assoc, hv]; rfl
            have Hv := Lib.hid hv2
            clear hv hv2
            go_wp2_with fail
            refine ⟨⟨j + 1, by omega, by go_num, by rw [Hv.out], trivial⟩, ?_⟩
            simp [intOf]; omega
        · have hje : j = p.length := by omega
          subst hje
          have hv : (false || negP (p.take p.length)) = true := by rw [List.take_length]; simp [← H1.out]
          have Hj : Hid (negP (p.take p.length) = negP (p.take p.length)) := Lib.hid rfl
          rw [hv]
          go_wp2_with (first
        | (go_at_call 77; refine (L1.out _).mono ?_; rintro e w' ⟨rfl, rfl⟩))
          go_ret
          exact ⟨rfl, Pr.alloc _ _⟩
    rw [if_neg (by simp), if_neg (by simp)] at hf
    by_cases hpe : p.length = 0
    · rw [if_pos ⟨rfl, List.eq_nil_of_length_eq_zero hpe⟩] at hf
      have e1 : ((p.length : Int) == 0) = true := by rw [hpe]; rfl
      have e2 : (p.length == 0) = true := by rw [hpe]; rfl
      clear hpe
      subst hf
      go_enter Tryd.func63, Tryd.ntmps63
      go_wp2_with fail
      go_loopw [3, 4] (fun b i wr => ∃ j : Nat, j ≤ p.length ∧ i = .int .i64 j ∧ b = .bool (false || negP (p.take j)) ∧ wr = w.alloc (.cells #[.int .i64 2, .slice pa p.length pc, .int .i64 0, .int .i64 0, .string ⟨#[]⟩] 52)) (fun _ i _ => p.length - (intOf i).toNat)
      case atStart => exact ⟨0, by omega, rfl, by simp [negP], rfl⟩
      case round =>
        obtain ⟨j, hj, rfl, rfl, rfl⟩ := hrel
        by_cases hlt : j < p.length
        · obtain ⟨bb, oo, rfl, c0⟩ := Ints.get (Flat.pr (Pr.alloc w (.cells #[.int .i64 2, .slice pa p.length pc, .int .i64 0, .int .i64 0, .string ⟨#[]⟩] 52)) Hp.out) j hlt
          have hsn := negP_take p j hlt
          have hlt' : (j : Int) < p.length := by omega
          have hj0 : (0 : Int) ≤ j := by omega
          generalize p[j] = x at *
          have Hsn := Lib.hid hsn
          clear hsn
          cases hv : (false || negP (p.take j))
          · have hv2 : (false || negP (p.take (j + 1))) = decide (x < 0) := by rw [Hsn.out, ← Bool.or_assoc, hv]; rfl
            have Hv := Lib.hid hv2
            clear hv hv2
            go_wp2_with fail
            refine ⟨⟨j + 1, by omega, by go_num, by rw [Hv.out], trivial⟩, ?_⟩
            simp [intOf]; omega
          · have hv2 : (false || negP (p.take (j + 1))) = true := by rw [Hsn.out, ← Bool.or_assoc, hv]; rfl
            have Hv := Lib.hid hv2
            clear hv hv2
            go_wp2_with fail
            refine ⟨⟨j + 1, by omega, by go_num, by rw [Hv.out], trivial⟩, ?_⟩
            simp [intOf]; omega
        · have hje : j = p.length := by omega
          subst hje
          have hv : (false || negP (p.take p.length)) = false := by rw [List.take_length]; simp [← H1.out]
          have Hj : Hid (negP (p.take p.length) = negP (p.take p.length)) := Lib.hid rfl
          rw [hv]
          go_wp2_with (first
        | (go_at_call 77; refine (L1.out _).mono ?_; rintro e w' ⟨rfl, rfl⟩))
          go_ret
          exact ⟨rfl, Pr.alloc _ _⟩
    · rw [if_neg (fun e => hpe (by rw [e.2]; rfl))] at hf
      have e1 : ((p.length : Int) == 0) = false := by rw [beq_eq_false_iff_ne]; omega
      have e2 : (p.length == 0) = false := by rw [beq_eq_false_iff_ne]; omega
      subst hf
      go_enter Tryd.func63, Tryd.ntmps63
      go_wp2_with fail
      go_loopw [3, 4] (fun b i wr => ∃ j : Nat, j ≤ p.length ∧ i = .int .i64 j ∧ b = .bool (false || negP (p.take j)) ∧ wr = w.alloc (.cells #[.int .i64 2, .slice pa p.length pc, .int .i64 0, .int .i64 0, .string ⟨#[]⟩] 52)) (fun _ i _ => p.length - (intOf i).toNat)
      case atStart => exact ⟨0, by omega, rfl, by simp [negP], rfl⟩
      case round =>
        obtain ⟨j, hj, rfl, rfl, rfl⟩ := hrel
        by_cases hlt : j < p.length
        · obtain ⟨bb, oo, rfl, c0⟩ := Ints.get (Flat.pr (Pr.alloc w (.cells #[.int .i64 2, .slice pa p.length pc, .int .i64 0, .int .i64 0, .string ⟨#[]⟩] 52)) Hp.out) j hlt
          have hsn := negP_take p j hlt
          have hlt' : (j : Int) < p.length := by omega
          have hj0 : (0 : Int) ≤ j := by omega
          generalize p[j] = x at *
          have Hsn := Lib.hid hsn
          clear hsn
          cases hv : (false || negP (p.take j))
          · have hv2 : (false || negP (p.take (j + 1))) = decide (x < 0) := by rw [Hsn.out, ← Bool.or_assoc, hv]; rfl
            have Hv := Lib.hid hv2
            clear hv hv2
            go_wp2_with fail
            refine ⟨⟨j + 1, by omega, by go_num, by rw [Hv.out], trivial⟩, ?_⟩
            simp [intOf]; omega
          · have hv2 : (false || negP (p.take (j + 1))) = true := by rw [Hsn.out, ← Bool.or_assoc, hv]; rfl
            have Hv := Lib.hid hv2
            clear hv hv2
            go_wp2_with fail
            refine ⟨⟨j + 1, by omega, by go_num, by rw [Hv.out], trivial⟩, ?_⟩
            simp [intOf]; omega
        · have hje : j = p.length := by omega
          subst hje
          have hv : (false || negP (p.take p.length)) = false := by rw [List.take_length]; simp [← H1.out]
          have Hj : Hid (negP (p.take p.length) = negP (p.take p.length)) := Lib.hid rfl
          rw [hv]
          go_wp2_with (first
        | (go_at_call 77; refine (L1.out _).mono ?_; rintro e w' ⟨rfl, rfl⟩))
          go_ret
          exact ⟨rfl, Pr.alloc _ _⟩
  · rw [if_neg (by simp)] at hf
    by_cases ha : a < 0
    · rw [if_pos (.inl (.inl ha))] at hf
      subst hf
      go_enter Tryd.func63, Tryd.ntmps63
      go_wp2_with fail
      go_loopw [3, 4] (fun b i wr => ∃ j : Nat, j ≤ p.length ∧ i = .int .i64 j ∧ b = .bool (true || negP (p.take j)) ∧ wr = w.alloc (.cells #[.int .i64 3, .slice pa p.length pc, .int .i64 a, .int .i64 m, .string s] 52)) (fun _ i _ => p.length - (intOf i).toNat)
      case atStart => exact ⟨0, by omega, rfl, by simp [negP], rfl⟩
      case round =>
        obtain ⟨j, hj, rfl, rfl, rfl⟩ := hrel
        by_cases hlt : j < p.length
        · obtain ⟨bb, oo, rfl, c0⟩ := Ints.get (Flat.pr (Pr.alloc w (.cells #[.int .i64 3, .slice pa p.length pc, .int .i64 a, .int .i64 m, .string s] 52)) Hp.out) j hlt
          have hsn := negP_take p j hlt
          have hlt' : (j : Int) < p.length := by omega
          have hj0 : (0 : Int) ≤ j := by omega
          generalize p[j] = x at *
          have Hsn := Lib.hid hsn
          clear hsn
          cases hv : (true || negP (p.take j))
          · have hv2 : (true || negP (p.take (j + 1))) = decide (x < 0) := by rw [Hsn.out, ← Bool.or_assoc, hv]; rfl
            have Hv := Lib.hid hv2
            clear hv hv2
            go_wp2_with fail
            refine ⟨⟨j + 1, by omega, by go_num, by rw [Hv.out], trivial⟩, ?_⟩
            simp [intOf]; omega
          · have hv2 : (true || negP (p.take (j + 1))) = true := by rw [Hsn.out, ← Bool.or_assoc, hv]; rfl
            have Hv := Lib.hid hv2
            clear hv hv2
            go_wp2_with fail
            refine ⟨⟨j + 1, by omega, by go_num, by rw [Hv.out], trivial⟩, ?_⟩
            simp [intOf]; omega
        · have hje : j = p.length := by omega
          subst hje
          have hv : (true || negP (p.take p.length)) = true := by rw [List.take_length]; simp [← H1.out]
          have Hj : Hid (negP (p.take p.length) = negP (p.take p.length)) := Lib.hid rfl
          rw [hv]
          go_wp2_with (first
        | (go_at_call 77; refine (L1.out _).mono ?_; rintro e w' ⟨rfl, rfl⟩))
          go_ret
          exact ⟨rfl, Pr.alloc _ _⟩
    by_cases hz : m < 0
    · rw [if_pos (.inl (.inr hz))] at hf
      subst hf
      go_enter Tryd.func63, Tryd.ntmps63
      go_wp2_with fail
      go_loopw [3, 4] (fun b i wr => ∃ j : Nat, j ≤ p.length ∧ i = .int .i64 j ∧ b = .bool (true || negP (p.take j)) ∧ wr = w.alloc (.cells #[.int .i64 3, .slice pa p.length pc, .int .i64 a, .int .i64 m, .string s] 52)) (fun _ i _ => p.length - (intOf i).toNat)
      case atStart => exact ⟨0, by omega, rfl, by simp [negP], rfl⟩
      case round =>
        obtain ⟨j, hj, rfl, rfl, rfl⟩ := hrel
        by_cases hlt : j < p.length
        · obtain ⟨bb, oo, rfl, c0⟩ := Ints.get (Flat.pr (Pr.alloc w (.cells #[.int .i64 3, .slice pa p.length pc, .int .i64 a, .int .i64 m, .string s] 52)) Hp.out) j hlt
          have hsn := negP_take p j hlt
          have hlt' : (j : Int) < p.length := by omega
          have hj0 : (0 : Int) ≤ j := by omega
          generalize p[j] = x at *
          have Hsn := Lib.hid hsn
          clear hsn
          cases hv : (true || negP (p.take j))
          · have hv2 : (true || negP (p.take (j + 1))) = decide (x < 0) := by rw [Hsn.out, ← Bool.or_assoc, hv]; rfl
            have Hv := Lib.hid hv2
            clear hv hv2
            go_wp2_with fail
            refine ⟨⟨j + 1, by omega, by go_num, by rw [Hv.out], trivial⟩, ?_⟩
            simp [intOf]; omega
          · have hv2 : (true || negP (p.take (j + 1))) = true := by rw [Hsn.out, ← Bool.or_assoc, hv]; rfl
            have Hv := Lib.hid hv2
            clear hv hv2
            go_wp2_with fail
            refine ⟨⟨j + 1, by omega, by go_num, by rw [Hv.out], trivial⟩, ?_⟩
            simp [intOf]; omega
        · have hje : j = p.length := by omega
          subst hje
          have hv : (true || negP (p.take p.length)) = true := by rw [List.take_length]; simp [← H1.out]
          have Hj : Hid (negP (p.take p.length) = negP (p.take p.length)) := Lib.hid rfl
          rw [hv]
          go_wp2_with (first
        | (go_at_call 77; refine (L1.out _).mono ?_; rintro e w' ⟨rfl, rfl⟩))
          go_ret
          exact ⟨rfl, Pr.alloc _ _⟩
    cases n
    case true =>
      rw [if_pos (by simp)] at hf
      subst hf
      go_enter Tryd.func63, Tryd.ntmps63
      go_wp2_with fail
      go_loopw [3, 4] (fun b i wr => ∃ j : Nat, j ≤ p.length ∧ i = .int .i64 j ∧ b = .bool (false || negP (p.take j)) ∧ wr = w.alloc (.cells #[.int .i64 3, .slice pa p.length pc, .int .i64 a, .int .i64 m, .string s] 52)) (fun _ i _ => p.length - (intOf i).toNat)
      case atStart => exact ⟨0, by omega, rfl, by simp [negP], rfl⟩
      case round =>
        obtain ⟨j, hj, rfl, rfl, rfl⟩ := hrel
        by_cases hlt : j < p.length
        · obtain ⟨bb, oo, rfl, c0⟩ := Ints.get (Flat.pr (Pr.alloc w (.cells #[.int .i64 3, .slice pa p.length pc, .int .i64 a, .int .i64 m, .string s] 52)) Hp.out) j hlt
          have hsn := negP_take p j hlt
          have hlt' : (j : Int) < p.length := by omega
          have hj0 : (0 : Int) ≤ j := by omega
          generalize p[j] = x at *
          have Hsn := Lib.hid hsn
          clear hsn
          cases hv : (false || negP (p.take j))
          · have hv2 : (false || negP (p.take (j + 1))) = decide (x < 0) := by rw [Hsn.out, ← Bool.or_assoc, hv]; rfl
            have Hv := Lib.hid hv2
            clear hv hv2
            go_wp2_with fail
            refine ⟨⟨j + 1, by omega, by go_num, by rw [Hv.out], trivial⟩, ?_⟩
            simp [intOf]; omega
          · have hv2 : (false || negP (p.take (j + 1))) = true := by rw [Hsn.out, ← Bool.or_assoc, hv]; rfl
            have Hv := Lib.hid hv2
            clear hv hv2
            go_wp2_with fail
            refine ⟨⟨j + 1, by omega, by go_num, by rw [Hv.out], trivial⟩, ?_⟩
            simp [intOf]; omega
        · have hje : j = p.length := by omega
          subst hje
          have hv : (false || negP (p.take p.length)) = true := by rw [List.take_length]; simp [← H1.out]
          have Hj : Hid (negP (p.take p.length) = negP (p.take p.length)) := Lib.hid rfl
          rw [hv]
          go_wp2_with (first
        | (go_at_call 77; refine (L1.out _).mono ?_; rintro e w' ⟨rfl, rfl⟩))
          go_ret
          exact ⟨rfl, Pr.alloc _ _⟩
    rw [if_neg (by simp; omega)] at hf
    cases b
    · rw [if_pos (by simp)] at hf
      subst hf
      go_enter Tryd.func63, Tryd.ntmps63
      go_wp2_with fail
      go_loopw [3, 4] (fun b i wr => ∃ j : Nat, j ≤ p.length ∧ i = .int .i64 j ∧ b = .bool (false || negP (p.take j)) ∧ wr = w.alloc (.cells #[.int .i64 3, .slice pa p.length pc, .int .i64 a, .int .i64 m, .string s] 52)) (fun _ i _ => p.length - (intOf i).toNat)
      case atStart => exact ⟨0, by omega, rfl, by simp [negP], rfl⟩
      case round =>
        obtain ⟨j, hj, rfl, rfl, rfl⟩ := hrel
        by_cases hlt : j < p.length
        · obtain ⟨bb, oo, rfl, c0⟩ := Ints.get (Flat.pr (Pr.alloc w (.cells #[.int .i64 3, .slice pa p.length pc, .int .i64 a, .int .i64 m, .string s] 52)) Hp.out) j hlt
          have hsn := negP_take p j hlt
          have hlt' : (j : Int) < p.length := by omega
          have hj0 : (0 : Int) ≤ j := by omega
          generalize p[j] = x at *
          have Hsn := Lib.hid hsn
          clear hsn
          cases hv : (false || negP (p.take j))
          · have hv2 : (false || negP (p.take (j + 1))) = decide (x < 0) := by rw [Hsn.out, ← Bool.or_assoc, hv]; rfl
            have Hv := Lib.hid hv2
            clear hv hv2
            go_wp2_with fail
            refine ⟨⟨j + 1, by omega, by go_num, by rw [Hv.out], trivial⟩, ?_⟩
            simp [intOf]; omega
          · have hv2 : (false || negP (p.take (j + 1))) = true := by rw [Hsn.out, ← Bool.or_assoc, hv]; rfl
            have Hv := Lib.hid hv2
            clear hv hv2
            go_wp2_with fail
            refine ⟨⟨j + 1, by omega, by go_num, by rw [Hv.out], trivial⟩, ?_⟩
            simp [intOf]; omega
        · have hje : j = p.length := by omega
          subst hje
          have hv : (false || negP (p.take p.length)) = false := by rw [List.take_length]; simp [← H1.out]
          have Hj : Hid (negP (p.take p.length) = negP (p.take p.length)) := Lib.hid rfl
          rw [hv]
          go_wp2_with (first
        | (go_at_call 77; refine (L1.out _).mono ?_; rintro e w' ⟨rfl, rfl⟩))
          go_ret
          exact ⟨rfl, Pr.alloc _ _⟩
    · rw [if_neg (by simp), if_neg (by simp)] at hf
      subst hf
      go_enter Tryd.func63, Tryd.ntmps63
      go_wp2_with fail
      go_loopw [3, 4] (fun b i wr => ∃ j : Nat, j ≤ p.length ∧ i = .int .i64 j ∧ b = .bool (false || negP (p.take j)) ∧ wr = w.alloc (.cells #[.int .i64 3, .slice pa p.length pc, .int .i64 a, .int .i64 m, .string s] 52)) (fun _ i _ => p.length - (intOf i).toNat)
      case atStart => exact ⟨0, by omega, rfl, by simp [negP], rfl⟩
      case round =>
        obtain ⟨j, hj, rfl, rfl, rfl⟩ := hrel
        by_cases hlt : j < p.length
        · obtain ⟨bb, oo, rfl, c0⟩ := Ints.get (Flat.pr (Pr.alloc w (.cells #[.int .i64 3, .slice pa p.length pc, .int .i64 a, .int .i64 m, .string s] 52)) Hp.out) j hlt
          have hsn := negP_take p j hlt
          have hlt' : (j : Int) < p.length := by omega
          have hj0 : (0 : Int) ≤ j := by omega
          generalize p[j] = x at *
          have Hsn := Lib.hid hsn
          clear hsn
          cases hv : (false || negP (p.take j))
          · have hv2 : (false || negP (p.take (j + 1))) = decide (x < 0) := by rw [Hsn.out, ← Bool.or_assoc, hv]; rfl
            have Hv := Lib.hid hv2
            clear hv hv2
            go_wp2_with fail
            refine ⟨⟨j + 1, by omega, by go_num, by rw [Hv.out], trivial⟩, ?_⟩
            simp [intOf]; omega
          · have hv2 : (false || negP (p.take (j + 1))) = true := by rw [Hsn.out, ← Bool.or_assoc, hv]; rfl
            have Hv := Lib.hid hv2
            clear hv hv2
            go_wp2_with fail
            refine ⟨⟨j + 1, by omega, by go_num, by rw [Hv.out], trivial⟩, ?_⟩
            simp [intOf]; omega
        · have hje : j = p.length := by omega
          subst hje
          have hv : (false || negP (p.take p.length)) = false := by rw [List.take_length]; simp [← H1.out]
          have Hj : Hid (negP (p.take p.length) = negP (p.take p.length)) := Lib.hid rfl
          rw [hv]
          go_wp2_with (first
        | (go_at_call 77; refine (L1.out _).mono ?_; rintro e w' ⟨rfl, rfl⟩))
          go_ret
          exact ⟨rfl, Pr.alloc _ _⟩
end Go.Proofs.YtdbnfhpgmcjngacDoor
