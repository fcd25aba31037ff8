/- Walks: the document's SamePairs, of pairs that are the same (as Rg, without the texts on distances). -/
import Derived.Test.YtdbnfhpgmcjngabPs
import Derived.Test.YtdbnfhpgmcjngabMg
namespace Go.Proofs.Ytdbnfhpgmcjngab
open Go Go.RowKit
theorem jpair_guard (op : BinOp) (a b : Operand) (xs ys : Array Value) (w : World) : (eqGuard op 62 a b (.agg xs) (.agg ys)).run Try.prog w = .ok () w :=
  run_eqGuard_agg w _ _ _ _ _ _ (by kernel_rfl)
theorem jpair_fields : (Try.prog.fieldsOf 62).toList.map (fun f => (decide (f.name = "_"), f.type, f.offset)) = [(false, 3, 0), (false, 3, 1)] := by kernel_rfl
theorem jpair_equalIn (d : Nat) (p1 p2 f1 f2 : Int) (w : World) : (Op.equalIn (d + 2) 62 (.agg #[.int .i64 p1, .int .i64 f1]) (.agg #[.int .i64 p2, .int .i64 f2])).run Try.prog w = .ok (decide ((p1, f1) = (p2, f2))) w := by
  rw [run_equalIn_agg w _ _ _ _ (by kernel_rfl) (by kernel_rfl)]
  have h := jpair_fields
  generalize (Try.prog.fieldsOf 62).toList = fs at h
  have hl : fs.length = 2 := by have := congrArg List.length h; simpa using this
  match fs, hl, h with
  | [g0, g1], _, h =>
    simp at h
    obtain ⟨⟨n0, t0, o0⟩, ⟨n1, t1, o1⟩⟩ := h
    have u1 : Try.prog.underlying 3 = some (.int .i64) := by kernel_rfl
    simp only [Op.eqFields, ne_eq, n0, n1, t0, t1, o0, o1, not_false_eq_true, if_true]
    simp [go_sem, part, isAgg, u1]
    by_cases h2 : p1 = p2
    · by_cases h3 : f1 = f2 <;> simp [h2, h3]
    · simp [h2]
set_option maxHeartbeats 3200000 in
theorem jsamePairs_yes (ps : List (Int × Int)) (oa ob : Option Addr) (ca cb : Nat) (w : World) (ha : Prs Any w ps oa ca) (hb : Prs Any w ps ob cb) :
    Calls Try.prog 39 #[.slice oa ps.length ca, .slice ob ps.length cb] w fun e w' => e = .returned (.bool true) ∧ Pr w w' := by
  have hlen := ha.len
  go_enter Try.func39, Try.ntmps39
  go_wp2_with fail
  go_loopw [5] (fun v wr => ∃ i : Nat, i ≤ ps.length ∧ v = .int .i64 i ∧ Pr w wr) (fun v _ => ps.length - (intOf v).toNat)
  case atStart => exact ⟨0, by omega, rfl, Pr.refl _⟩
  case round =>
    obtain ⟨i, hi, rfl, hp⟩ := hrel
    by_cases hil : i < ps.length
    · have hil' : (i : Int) < ps.length := by omega
      have hi0 : (0 : Int) ≤ i := by omega
      obtain ⟨b1, o1, rfl, h1⟩ := (ha.pr hp).get (by omega)
      obtain ⟨b2, o2, rfl, h2⟩ := (hb.pr hp).get (by omega)
      obtain ⟨d0, d1⟩ := h1 i hil
      obtain ⟨f0, f1⟩ := h2 i hil
      have hu : IntKind.i64.wrap ((i : Int) + 1) = (i : Int) + 1 := IntWalk.i64_in _ (by omega)
      have heq : ∀ W, (Op.equalIn 10000 62 (.agg #[.int .i64 ps[i].1, .int .i64 ps[i].2]) (.agg #[.int .i64 ps[i].1, .int .i64 ps[i].2])).run Try.prog W = .ok true W := fun W => by rw [jpair_equalIn 9998]; simp
      have hgd := fun a b xs ys W => jpair_guard .neq a b xs ys W
      clear h1 h2 ha hb
      generalize ps[i].1 = u at *
      generalize ps[i].2 = v at *
      go_wp2_with fail
      go_quiet (fail)
      go_wp2_with fail
      refine ⟨⟨i + 1, by omega, by go_num, hp.drewN' _⟩, ?_⟩
      simp [intOf]; omega
    · have hil' : ¬ (i : Int) < ps.length := by omega
      clear ha hb
      go_wp2_with fail
      go_ret
      exact ⟨rfl, hp⟩
end Go.Proofs.Ytdbnfhpgmcjngab
