/- A cut: a number from 0 to n. No program here. -/
import Derived.Test.YtdbnfhpgmcjngacMem
namespace Go.Proofs.Ytdbnfhpgmcjngac
open Go Go.RowKit

/-- 'int(uint(cut) % uint(n+1))' is a number from 0 to n. -/
theorem cutn_ix (c : Int) (n : Nat) (h : n ≤ 1000000) : ∃ K : Nat, K ≤ n ∧ wrap64 ((IntKind.u64.wrap c).tmod ((n : Int) + 1)) = K := by
  have h0 : 0 ≤ IntKind.u64.wrap c := by simp [IntKind.wrap, IntKind.signed, IntKind.bits]; omega
  generalize IntKind.u64.wrap c = u at h0
  have h1 : u.tmod ((n : Int) + 1) = u % ((n : Int) + 1) := Int.tmod_eq_emod_of_nonneg h0
  have h2 := Int.emod_nonneg u (show ((n : Int) + 1) ≠ 0 by omega)
  have h3 := Int.emod_lt_of_pos u (show (0 : Int) < (n : Int) + 1 by omega)
  refine ⟨(u % ((n : Int) + 1)).toNat, by omega, ?_⟩
  rw [h1, IntWalk.wrap64_in _ ⟨by omega, by omega⟩]; omega
end Go.Proofs.Ytdbnfhpgmcjngac
