/- The law PatchBack: its walk. -/
import Derived.Test.YtdbnfhpgmcjngacDoorPwm
namespace Go.Proofs.YtdbnfhpgmcjngacDoor
open Go Go.RowKit

theorem path_count : ∀ l : List (List UInt8), (∀ x ∈ l, x ≠ []) → l.length ≤ (joinC 46 l).length
  | [], _ => by simp [joinC]
  | [x], h => by
    have := h x (by simp)
    simp only [joinC, List.length_cons, List.length_nil]
    exact List.length_pos_iff.2 this
  | x :: y :: r, h => by
    have h1 := List.length_pos_iff.2 (h x (by simp))
    have h2 := path_count (y :: r) (fun z hz => h z (by simp [hz]))
    simp only [joinC, List.length_append, List.length_cons] at h2 ⊢; omega
theorem pathTx_count (p : List Int) : p.length ≤ (pathTx p).length := by
  unfold pathTx
  by_cases h : p = []
  · subst h; simp
  · rw [if_neg h]
    have := path_count (p.map Lib.itoa) (fun x hx => by obtain ⟨n, _, rfl⟩ := List.mem_map.1 hx; exact itoa_ne n)
    simpa using this
theorem line_parts {d : Dee} (h : lineC d = 0) : d.path.length ≤ (lineT d).length ∧ d.lab.size ≤ (lineT d).length := by
  obtain ⟨h0, _⟩ := lineC_zero h
  obtain ⟨hk, _, h2, _⟩ := dfault_zero.1 h0
  have h1 := pathTx_count d.path
  have h4 : d.lab.data.toList.length = d.lab.size := sizeL _
  rcases (show d.kind = 1 ∨ d.kind = 2 ∨ d.kind = 3 by omega) with h | h | h
  · rw [line1 h]; simp only [List.length_append, List.length_cons, List.length_nil]; omega
  · rw [line2 h, (h2 h).1]; simp only [List.length_append, List.length_cons, List.length_nil]
    exact ⟨by omega, Nat.zero_le _⟩
  · rw [line3 h]; simp only [List.length_append, List.length_cons, List.length_nil]; omega
theorem ended_part {x : List UInt8} : ∀ {l : List (List UInt8)}, x ∈ l → x.length ≤ (ended l).length
  | y :: l, h => by
    simp only [ended, List.length_append, List.length_cons]
    rcases List.mem_cons.1 h with rfl | h
    · omega
    · have := ended_part h; omega
/-- What is read of a short text is no great deed. -/
theorem readP_few {s : List UInt8} (h : s.length ≤ 100000) : FewD (readP s).1 := by
  by_cases hc : (readP s).2.1 = 0
  · have hb := read_back hc
    obtain ⟨_, h2, h3⟩ := print_ok (by rw [hb] : (printP (readP s).1).2.1 = 0)
    rw [hb] at h3
    have hs : s = ended ((readP s).1.map lineT) := congrArg Prod.fst h3
    intro d hd
    have h5 := ended_part (List.mem_map_of_mem (f := lineT) hd)
    rw [← hs] at h5
    have := line_parts (h2 d hd)
    omega
  · rw [read_no hc]; intro d hd; simp at hd
theorem line_few {d : Dee} (h : lineC d = 0) (hp : d.path.length ≤ 60) (hl : d.lab.size ≤ 100) : (lineT d).length ≤ 2000 := by
  obtain ⟨h0, hpp, ha, hm0, hm1⟩ := lineC_zero h
  have hk := (dfault_zero.1 h0).1
  have h1 := pathT_le d.path (fun x hx => by have := hpp x hx; omega)
  have h2 := Lib.itoa_length_le d.pos (by omega) (by omega)
  have h3 := Lib.itoa_length_le d.many (by omega) (by omega)
  have h4 : d.lab.data.toList.length = d.lab.size := sizeL _
  rcases (show d.kind = 1 ∨ d.kind = 2 ∨ d.kind = 3 by omega) with h | h | h
  · rw [line1 h]; simp only [List.length_append, List.length_cons, List.length_nil]; omega
  · rw [line2 h]; simp only [List.length_append, List.length_cons, List.length_nil]; omega
  · rw [line3 h]; simp only [List.length_append, List.length_cons, List.length_nil]; omega
theorem ended_few {ds : List Dee} (h : ∀ d ∈ ds, (lineT d).length ≤ 2000) : (ended (ds.map lineT)).length ≤ 2001 * ds.length := by
  induction ds with
  | nil => simp [ended]
  | cons d r ih =>
    have h1 := h d (by simp)
    have h2 := ih (fun x hx => h x (by simp [hx]))
    simp only [List.map_cons, ended, List.length_append, List.length_cons]; omega
/-- Deeds that are not great. -/
theorem great_few {ds : List Dee} (h : greatDs ds = false) : ds.length ≤ 100 ∧ ∀ d ∈ ds, d.path.length ≤ 60 ∧ d.lab.size ≤ 100 := by
  unfold greatDs at h
  simp only [Bool.or_eq_false_iff, decide_eq_false_iff_not] at h
  obtain ⟨h1, h2⟩ := h
  rw [List.take_of_length_le (by omega)] at h1
  refine ⟨by omega, fun d hd => ?_⟩
  have h3 := List.any_eq_false.1 h1 d hd
  unfold greatDB greatD at h3
  simp only [Bool.or_eq_true, decide_eq_true_eq, not_or] at h3
  omega
theorem print_short {ds : List Dee} (h : greatDs ds = false) : (printP ds).1.length ≤ 200000 := by
  obtain ⟨_, h2⟩ := great_few h
  by_cases hc : (printP ds).2.1 = 0
  · obtain ⟨h80, h3, h4⟩ := print_ok hc
    rw [h4]
    have := ended_few (fun d hd => line_few (h3 d hd) (h2 d hd).1 (h2 d hd).2)
    show (ended (ds.map lineT)).length ≤ _
    omega
  · rw [print_no hc]; simp
end Go.Proofs.YtdbnfhpgmcjngacDoor
