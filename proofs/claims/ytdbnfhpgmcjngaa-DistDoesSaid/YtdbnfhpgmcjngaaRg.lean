/- Walks: the document's SamePairs, of pairs that are the same. -/
import Derived.Test.YtdbnfhpgmcjngaaDj
namespace Go.Proofs.Ytdbnfhpgmcjngaa
open Go Go.RowKit
set_option maxHeartbeats 3200000 in
theorem samePairs_yes (ps : List (Int × Int)) (oa ob : Option Addr) (ca cb : Nat) (w : World) (ha : Prs Any w ps oa ca) (hb : Prs Any w ps ob cb) :
    Calls Try.prog 46 #[.slice oa ps.length ca, .slice ob ps.length cb] w fun e w' => e = .returned (.bool true) ∧ Pr w w' := by
  have hlen := ha.len
  go_enter Try.func46, Try.ntmps46
  go_wp2_with fail
  go_loopw [5] (fun v wr => ∃ i : Nat, i ≤ ps.length ∧ v = .int .i64 i ∧ Pr w wr) (fun v _ => ps.length - (intOf v).toNat)
  case atStart => exact ⟨0, by omega, rfl, Pr.refl _⟩
  case round =>
    obtain ⟨i, hi, rfl, hp⟩ := hrel
    by_cases hil : i < ps.length
    · have hil' : (i : Int) < ps.length := by omega
      have hi0 : (0 : Int) ≤ i := by omega
      obtain ⟨b1, o1, rfl, h1⟩ := (ha.pr hp).get (by omega)
      obtain ⟨b2, o2, rfl, h2⟩ := (hb.pr hp).get (by omega)
      obtain ⟨d0, d1⟩ := h1 i hil
      obtain ⟨f0, f1⟩ := h2 i hil
      have hu : IntKind.i64.wrap ((i : Int) + 1) = (i : Int) + 1 := IntWalk.i64_in _ (by omega)
      have heq : ∀ W, (Op.equalIn 10000 70 (.agg #[.int .i64 ps[i].1, .int .i64 ps[i].2]) (.agg #[.int .i64 ps[i].1, .int .i64 ps[i].2])).run Try.prog W = .ok true W := fun W => by rw [pair_equalIn 9998]; simp
      have hgd := fun a b xs ys W => pair_guard .neq a b xs ys W
      clear h1 h2 ha hb
      generalize ps[i].1 = u at *
      generalize ps[i].2 = v at *
      go_wp2_with fail
      go_quiet (fail)
      go_wp2_with fail
      refine ⟨⟨i + 1, by omega, by go_num, hp.drewN' _⟩, ?_⟩
      simp [intOf]; omega
    · have hil' : ¬ (i : Int) < ps.length := by omega
      clear ha hb
      go_wp2_with fail
      go_ret
      exact ⟨rfl, hp⟩
end Go.Proofs.Ytdbnfhpgmcjngaa
