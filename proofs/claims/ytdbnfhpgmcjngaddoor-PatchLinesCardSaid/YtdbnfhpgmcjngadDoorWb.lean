/- Walks: the functions that look at a tree's labels and depth. -/
import Derived.Test.YtdbnfhpgmcjngadDoorWa
namespace Go.Proofs.YtdbnfhpgmcjngadDoor
open Go Go.RowKit

theorem lab_any (s : ByteArray) (w : World) (hs : s.size ≤ maxLen) :
    Calls Tryd.prog 29 #[.string s] w fun e w' => e = .returned (.bool (isLab s)) ∧ w = w' := by
  unfold maxLen at hs
  go_enter Tryd.func29, Tryd.ntmps29
  go_wp2_with fail
  go_loopw [6] (fun i wr => ∃ k : Nat, k ≤ s.size ∧ i = .int .i64 k ∧ (s.data.toList.take k).all okC = true ∧ wr = w) (fun i _ => s.size - (intOf i).toNat)
  case atStart => exact ⟨0, by omega, rfl, by simp, rfl⟩
  case round =>
    obtain ⟨k, hk, rfl, hr, rfl⟩ := hrel
    have Hr := Lib.hid hr; clear hr
    by_cases hlt : k < s.size
    · have Hiff := Lib.hid (okC_iff s[k])
      go_wp2_with fail
      · go_ret
        exact ⟨ret_bool (isLab_bad s k hlt (by rw [Bool.eq_false_iff, Ne, Hiff.out]; omega)).symm, rfl⟩
      · refine ⟨⟨k + 1, by omega, by go_num, okC_snoc s k hlt Hr.out (by rw [Hiff.out]; omega), trivial⟩, ?_⟩
        simp [intOf]; omega
      · go_ret
        exact ⟨ret_bool (isLab_bad s k hlt (by rw [Bool.eq_false_iff, Ne, Hiff.out]; omega)).symm, rfl⟩
    · have hkv : k = s.size := by omega
      have He : Hid (isLab s = (decide (0 < s.size) && decide (s.size ≤ 6))) := okC_end s (hkv ▸ Hr.out)
      go_wp2_with fail
      all_goals
        go_ret
        refine ⟨ret_bool ?_, rfl⟩
        rw [He.out]
        have hsz : s.size = s.toList.length := by rw [ByteArray.toList_eq]; simp
      · rename_i h
        rw [hsz, h]; rfl
      · rename_i h
        have h0 : 0 < s.toList.length := List.length_pos_iff.2 h
        have h1 : s.toList.isEmpty = false := by simpa using h
        rw [← hsz] at h0
        rw [h1, Bool.eq_iff_iff]; simp; omega

end Go.Proofs.YtdbnfhpgmcjngadDoor
