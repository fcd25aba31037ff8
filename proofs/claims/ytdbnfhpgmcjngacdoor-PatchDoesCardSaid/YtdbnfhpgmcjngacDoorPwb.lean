/- Walks: a small number out of a text; the program's and the document's. -/
import Derived.Test.YtdbnfhpgmcjngacDoorPwa
import Derived.Lib.AtoiAllCases
import Derived.IntWalk
namespace Go.Proofs.YtdbnfhpgmcjngacDoor
open Go Go.RowKit

def FewPost (l : List UInt8) (w : World) (e : Ending) (w' : World) : Prop := ∃ v : Int, e = .returned (.tuple #[.int .i64 v, .bool (fewN l).isSome]) ∧ (∀ n, fewN l = some n → v = (n : Int)) ∧ Pr w w'
set_option maxRecDepth 100000 in
set_option maxHeartbeats 3200000 in
theorem small_any (s : ByteArray) (hs : s.size ≤ 1000000) (w : World) (hw : Lv w) :
    Calls Tryd.prog 58 #[.string s] w (FewPost s.data.toList w) := by
  have HW := Lib.hid hw
  have hsf := small_few s.data.toList
  unfold smallP at hsf
  have hno : (∀ v, Lib.atoiAll s.data.toList ≠ .ok v) → fewN s.data.toList = none → Calls Tryd.prog 58 #[.string s] w (FewPost s.data.toList w) := by
    intro h1 h2
    have A := Lib.hid (atoi_no s (by omega) h1 w hw)
    have H2 := Lib.hid h2
    clear h1 h2 hsf hw
    go_enter Tryd.func58, Tryd.ntmps58
    go_wp2_with (go_at_call 87; (with_reducible refine Calls.mono A.out ?_); rintro e w5 ⟨⟨v5, T5, p5, rfl⟩, hp5⟩)
    go_ret2
    exact ⟨_, by rw [H2.out]; rfl, (by rw [H2.out]; intro n h; cases h), hp5⟩
  rcases ha : Lib.atoiAll s.data.toList with v | _ | _
  · clear hno
    have hbd := Lib.atoiAll_bounds ha
    rw [ha] at hsf
    simp only [] at hsf
    have A := Lib.hid (atoi_ok s (by omega) v ha w)
    have I := Lib.hid fun W' (h : Pr w W') => itoa_any v hbd.1 hbd.2 W' (HW.out.pr h)
    clear ha hw
    by_cases hi : Lib.itoa v = s.data.toList
    · have hb : (Lib.itoa v == s.toList) = true := by rw [ByteArray.toList_eq, hi]; simp
      have Hi := Lib.hid hi
      by_cases h0 : 0 ≤ v
      · by_cases h1 : v < 1000
        · rw [if_pos ⟨hi, h0, h1⟩] at hsf
          have Hsf := Lib.hid hsf.symm
          clear hsf hi
          go_enter Tryd.func58, Tryd.ntmps58
          go_wp2_with (first
            | (go_at_call 87; (with_reducible refine Calls.mono A.out ?_); rintro e w5 ⟨rfl, hp5⟩)
            | (go_at_call 60; (with_reducible refine Calls.mono (I.out _ hp5) ?_); rintro e w6 ⟨rfl, hp6⟩))
          go_ret2
          exact ⟨_, by rw [Hsf.out]; rfl, (by rw [Hsf.out]; intro n h; cases h; omega), hp5.trans hp6⟩
        · rw [if_neg (by rintro ⟨_, _, h⟩; exact h1 h)] at hsf
          have Hsf := Lib.hid hsf.symm
          clear hsf hi
          have h1' : decide (v < 1000) = false := by simpa using h1
          go_enter Tryd.func58, Tryd.ntmps58
          go_wp2_with (first
            | (go_at_call 87; (with_reducible refine Calls.mono A.out ?_); rintro e w5 ⟨rfl, hp5⟩)
            | (go_at_call 60; (with_reducible refine Calls.mono (I.out _ hp5) ?_); rintro e w6 ⟨rfl, hp6⟩))
          go_ret2
          exact ⟨_, by rw [Hsf.out]; rfl, (by rw [Hsf.out]; intro n h; cases h), hp5.trans hp6⟩
      · rw [if_neg (by rintro ⟨_, h, _⟩; exact h0 h)] at hsf
        have Hsf := Lib.hid hsf.symm
        clear hsf hi
        have h0' : decide (0 ≤ v) = false := by simpa using h0
        go_enter Tryd.func58, Tryd.ntmps58
        go_wp2_with (first
          | (go_at_call 87; (with_reducible refine Calls.mono A.out ?_); rintro e w5 ⟨rfl, hp5⟩)
          | (go_at_call 60; (with_reducible refine Calls.mono (I.out _ hp5) ?_); rintro e w6 ⟨rfl, hp6⟩))
        go_ret2
        exact ⟨_, by rw [Hsf.out]; rfl, (by rw [Hsf.out]; intro n h; cases h), hp5.trans hp6⟩
    · rw [if_neg (by rintro ⟨h, _⟩; exact hi h)] at hsf
      have Hsf := Lib.hid hsf.symm
      have hb : (Lib.itoa v == s.toList) = false := by rw [ByteArray.toList_eq]; simpa using hi
      clear hsf hi
      go_enter Tryd.func58, Tryd.ntmps58
      go_wp2_with (first
        | (go_at_call 87; (with_reducible refine Calls.mono A.out ?_); rintro e w5 ⟨rfl, hp5⟩)
        | (go_at_call 60; (with_reducible refine Calls.mono (I.out _ hp5) ?_); rintro e w6 ⟨rfl, hp6⟩))
      go_ret2
      exact ⟨_, by rw [Hsf.out]; rfl, (by rw [Hsf.out]; intro n h; cases h), hp5.trans hp6⟩
  · exact hno (fun v => by rw [ha]; simp) (by rw [ha] at hsf; exact hsf.symm)
  · exact hno (fun v => by rw [ha]; simp) (by rw [ha] at hsf; exact hsf.symm)
/-- The digits so far. -/
theorem decFrom_none : ∀ (l : List UInt8) (i acc : Nat) (h : i < l.length), Lib.digitVal l[i] = none → Lib.decFrom acc l = none
  | [], i, _, h, _ => absurd h (Nat.not_lt_zero _)
  | b :: r, 0, acc, _, hd => by simp only [List.getElem_cons_zero] at hd; simp [Lib.decFrom, hd]
  | b :: r, i + 1, acc, h, hd => by
    simp only [List.getElem_cons_succ] at hd
    unfold Lib.decFrom
    cases Lib.digitVal b with
    | none => rfl
    | some d => exact decFrom_none r i _ (by simpa using h) hd
theorem ba_get (s : ByteArray) (i : Nat) (h : i < s.size) : s.data.toList[i]'(by rw [sizeL]; exact h) = s[i] := rfl
set_option maxRecDepth 100000 in
set_option maxHeartbeats 3200000 in
theorem few_any (s : ByteArray) (hs : s.size ≤ 1000000) (w : World) :
    Calls Tryd.prog 59 #[.string s] w (FewPost s.data.toList w) := by
  have hsz := sizeL s
  by_cases h1 : s.size < 1
  · have hf : fewN s.data.toList = none := by unfold fewN; rw [if_pos (.inl (by omega))]
    have Hf := Lib.hid hf
    clear hf
    go_enter Tryd.func59, Tryd.ntmps59
    go_wp2_with fail
    go_ret2
    exact ⟨_, by rw [Hf.out]; rfl, (by rw [Hf.out]; intro n h; cases h), Pr.refl _⟩
  · by_cases h3 : 3 < s.size
    · have hf : fewN s.data.toList = none := by unfold fewN; rw [if_pos (.inr (.inl (by omega)))]
      have Hf := Lib.hid hf
      clear hf
      go_enter Tryd.func59, Tryd.ntmps59
      go_wp2_with fail
      go_ret2
      exact ⟨_, by rw [Hf.out]; rfl, (by rw [Hf.out]; intro n h; cases h), Pr.refl _⟩
    · have hl1 : (1 : Int) ≤ s.size := by omega
      have hl3 : (s.size : Int) ≤ 3 := by omega
      have h0 : 0 < s.size := by omega
      obtain ⟨z, hz⟩ : ∃ z, z = ((s[0].toNat : Int) == 48) := ⟨_, rfl⟩
      have hz2 : z = true ↔ s.data.toList.head? = some 48 := by
        rw [hz, List.head?_eq_getElem?, List.getElem?_eq_getElem (by omega), ba_get s 0 h0]
        simp only [beq_iff_eq, Option.some.injEq]
        rw [← UInt8.toNat_inj]
        constructor
        · intro h; have h' : s[0].toNat = 48 := by omega
          rw [h']; rfl
        · intro h; rw [h]; rfl
      have hz' := hz.symm
      clear hz
      by_cases hlead : z = true ∧ 1 < s.size
      · obtain ⟨rfl, hm⟩ := hlead
        have hf : fewN s.data.toList = none := by unfold fewN; rw [if_pos (.inr (.inr ⟨hz2.1 rfl, by omega⟩))]
        have Hf := Lib.hid hf
        have hm1 : (1 : Int) < s.size := by omega
        clear hf hz2
        go_enter Tryd.func59, Tryd.ntmps59
        go_wp2_with fail
        go_ret2
        exact ⟨_, by rw [Hf.out]; rfl, (by rw [Hf.out]; intro n h; cases h), Pr.refl _⟩
      · have hf : fewN s.data.toList = Lib.decFrom 0 s.data.toList := by
          unfold fewN
          rw [if_neg]
          · unfold Lib.decNat
            rw [if_neg (by intro e; rw [List.isEmpty_iff] at e; rw [e] at hsz; simp at hsz; omega)]
          · rintro (h | h | ⟨h, h'⟩)
            · omega
            · omega
            · exact hlead ⟨hz2.2 h, by omega⟩
        have Hf := Lib.hid hf
        clear hf hz2
        have hz1 : z = true → decide ((1 : Int) < s.size) = false ∧ decide (1 < s.size) = false := fun e => by
          have : ¬ 1 < s.size := fun h => hlead ⟨e, h⟩
          simp; omega
        clear hlead
        cases z
        case false =>
          clear hz1
          go_enter Tryd.func59, Tryd.ntmps59
          go_wp2_with fail
          go_loop [4, 5] (fun n i => ∃ (k acc : Nat), k ≤ s.size ∧ i = .int .i64 k ∧ n = .int .i64 acc ∧ Lib.decFrom 0 s.data.toList = Lib.decFrom acc (s.data.toList.drop k) ∧ (k = 0 → acc = 0) ∧ (k = 1 → acc < 10) ∧ (k = 2 → acc < 100) ∧ (k = 3 → acc < 1000)) (fun _ i => s.size - (intOf i).toNat)
          case atStart => exact ⟨0, 0, by omega, rfl, rfl, rfl, by omega, by omega, by omega, by omega⟩
          case round =>
            obtain ⟨k, acc, hk, rfl, rfl, hd, hk0, hk1, hk2, hk3⟩ := hrel
            have hacc : acc < 1000 := by rcases (show k = 0 ∨ k = 1 ∨ k = 2 ∨ k = 3 by omega) with h | h | h | h <;> simp [h] at hk0 hk1 hk2 hk3 <;> omega
            by_cases hlt : k < s.size
            · have hdr : s.data.toList.drop k = s[k] :: s.data.toList.drop (k + 1) := by
                rw [List.drop_eq_getElem_cons (by omega)]; rfl
              have c0 : s[k].toNat < 256 := UInt8.toNat_lt _
              rw [hdr] at hd
              by_cases hdig : 48 ≤ s[k].toNat ∧ s[k].toNat ≤ 57
              · have hdv : Lib.digitVal s[k] = some (s[k].toNat - 48) := by unfold Lib.digitVal; rw [if_pos hdig]
                have hd2 : Lib.decFrom 0 s.data.toList = Lib.decFrom (acc * 10 + (s[k].toNat - 48)) (s.data.toList.drop (k + 1)) := by
                  rw [hd]; simp only [Lib.decFrom, hdv]
                have Hd := Lib.hid hd2
                clear hd hd2 hdv hdr
                have d1 : decide ((s[k].toNat : Int) < 48) = false := by simp; omega
                have d2 : decide ((57 : Int) < s[k].toNat) = false := by simp; omega
                have d3 : decide (s[k].toNat < 48) = false := by simp; omega
                have d4 : decide (57 < s[k].toNat) = false := by simp; omega
                go_wp2_with fail
                exact ⟨⟨k + 1, acc * 10 + (s[k].toNat - 48), by omega, by go_num, by go_num, Hd.out, by omega, by omega, by omega, by omega⟩, by simp [intOf]; omega⟩
              · have hdv : Lib.digitVal s[k] = none := by unfold Lib.digitVal; rw [if_neg hdig]
                have hd2 : Lib.decFrom 0 s.data.toList = none := by rw [hd]; simp only [Lib.decFrom, hdv]
                have Hd := Lib.hid hd2
                clear hd hd2 hdv hdr
                by_cases hlo : s[k].toNat < 48
                · have d1 : decide ((s[k].toNat : Int) < 48) = true := by simp; omega
                  have d3 : decide (s[k].toNat < 48) = true := by simp; omega
                  go_wp2_with fail
                  go_ret2
                  exact ⟨_, by rw [Hf.out, Hd.out]; rfl, (by rw [Hf.out, Hd.out]; intro n h; cases h), Pr.refl _⟩
                · have d1 : decide ((s[k].toNat : Int) < 48) = false := by simp; omega
                  have d3 : decide (s[k].toNat < 48) = false := by simp; omega
                  have d2 : decide ((57 : Int) < s[k].toNat) = true := by simp; omega
                  have d4 : decide (57 < s[k].toNat) = true := by simp; omega
                  go_wp2_with fail
                  go_ret2
                  exact ⟨_, by rw [Hf.out, Hd.out]; rfl, (by rw [Hf.out, Hd.out]; intro n h; cases h), Pr.refl _⟩
            · have hks : k = s.size := by omega
              have hdr : s.data.toList.drop k = [] := by rw [List.drop_eq_nil_iff]; omega
              rw [hdr] at hd
              have hd2 : Lib.decFrom 0 s.data.toList = some acc := by rw [hd]; rfl
              have Hd := Lib.hid hd2
              clear hd hd2 hdr
              have d1 : decide ((k : Int) < s.size) = false := by simp; omega
              have d3 : decide (k < s.size) = false := by simp; omega
              clear hks
              go_wp2_with fail
              go_ret2
              exact ⟨_, by rw [Hf.out, Hd.out]; rfl, (by rw [Hf.out, Hd.out]; intro n h; cases h; rfl), Pr.refl _⟩
        case true =>
          obtain ⟨hm1, hm2⟩ := hz1 rfl
          go_enter Tryd.func59, Tryd.ntmps59
          go_wp2_with fail
          go_loop [4, 5] (fun n i => ∃ (k acc : Nat), k ≤ s.size ∧ i = .int .i64 k ∧ n = .int .i64 acc ∧ Lib.decFrom 0 s.data.toList = Lib.decFrom acc (s.data.toList.drop k) ∧ (k = 0 → acc = 0) ∧ (k = 1 → acc < 10) ∧ (k = 2 → acc < 100) ∧ (k = 3 → acc < 1000)) (fun _ i => s.size - (intOf i).toNat)
          case atStart => exact ⟨0, 0, by omega, rfl, rfl, rfl, by omega, by omega, by omega, by omega⟩
          case round =>
            obtain ⟨k, acc, hk, rfl, rfl, hd, hk0, hk1, hk2, hk3⟩ := hrel
            have hacc : acc < 1000 := by rcases (show k = 0 ∨ k = 1 ∨ k = 2 ∨ k = 3 by omega) with h | h | h | h <;> simp [h] at hk0 hk1 hk2 hk3 <;> omega
            by_cases hlt : k < s.size
            · have hdr : s.data.toList.drop k = s[k] :: s.data.toList.drop (k + 1) := by
                rw [List.drop_eq_getElem_cons (by omega)]; rfl
              have c0 : s[k].toNat < 256 := UInt8.toNat_lt _
              rw [hdr] at hd
              by_cases hdig : 48 ≤ s[k].toNat ∧ s[k].toNat ≤ 57
              · have hdv : Lib.digitVal s[k] = some (s[k].toNat - 48) := by unfold Lib.digitVal; rw [if_pos hdig]
                have hd2 : Lib.decFrom 0 s.data.toList = Lib.decFrom (acc * 10 + (s[k].toNat - 48)) (s.data.toList.drop (k + 1)) := by
                  rw [hd]; simp only [Lib.decFrom, hdv]
                have Hd := Lib.hid hd2
                clear hd hd2 hdv hdr
                have d1 : decide ((s[k].toNat : Int) < 48) = false := by simp; omega
                have d2 : decide ((57 : Int) < s[k].toNat) = false := by simp; omega
                have d3 : decide (s[k].toNat < 48) = false := by simp; omega
                have d4 : decide (57 < s[k].toNat) = false := by simp; omega
                go_wp2_with fail
                exact ⟨⟨k + 1, acc * 10 + (s[k].toNat - 48), by omega, by go_num, by go_num, Hd.out, by omega, by omega, by omega, by omega⟩, by simp [intOf]; omega⟩
              · have hdv : Lib.digitVal s[k] = none := by unfold Lib.digitVal; rw [if_neg hdig]
                have hd2 : Lib.decFrom 0 s.data.toList = none := by rw [hd]; simp only [Lib.decFrom, hdv]
                have Hd := Lib.hid hd2
                clear hd hd2 hdv hdr
                by_cases hlo : s[k].toNat < 48
                · have d1 : decide ((s[k].toNat : Int) < 48) = true := by simp; omega
                  have d3 : decide (s[k].toNat < 48) = true := by simp; omega
                  go_wp2_with fail
                  go_ret2
                  exact ⟨_, by rw [Hf.out, Hd.out]; rfl, (by rw [Hf.out, Hd.out]; intro n h; cases h), Pr.refl _⟩
                · have d1 : decide ((s[k].toNat : Int) < 48) = false := by simp; omega
                  have d3 : decide (s[k].toNat < 48) = false := by simp; omega
                  have d2 : decide ((57 : Int) < s[k].toNat) = true := by simp; omega
                  have d4 : decide (57 < s[k].toNat) = true := by simp; omega
                  go_wp2_with fail
                  go_ret2
                  exact ⟨_, by rw [Hf.out, Hd.out]; rfl, (by rw [Hf.out, Hd.out]; intro n h; cases h), Pr.refl _⟩
            · have hks : k = s.size := by omega
              have hdr : s.data.toList.drop k = [] := by rw [List.drop_eq_nil_iff]; omega
              rw [hdr] at hd
              have hd2 : Lib.decFrom 0 s.data.toList = some acc := by rw [hd]; rfl
              have Hd := Lib.hid hd2
              clear hd hd2 hdr
              have d1 : decide ((k : Int) < s.size) = false := by simp; omega
              have d3 : decide (k < s.size) = false := by simp; omega
              clear hks
              go_wp2_with fail
              go_ret2
              exact ⟨_, by rw [Hf.out, Hd.out]; rfl, (by rw [Hf.out, Hd.out]; intro n h; cases h; rfl), Pr.refl _⟩
end Go.Proofs.YtdbnfhpgmcjngacDoor
