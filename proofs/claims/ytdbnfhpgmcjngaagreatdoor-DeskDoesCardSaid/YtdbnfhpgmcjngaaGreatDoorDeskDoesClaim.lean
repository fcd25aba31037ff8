/- The desk tells what the document says: deskDoes_holds. Conditions: those of the given statement alone. -/
import Derived.Test.YtdbnfhpgmcjngaaGreatDoorCards
import Derived.Test.YtdbnfhpgmcjngaaGreatDoorTie
import Derived.Test.YtdbnfhpgmcjngaaGreatDoorC24
open Bool renaming false->D
open Go renaming laidMetH->YR
open Go.Proofs.Tryz renaming prog->E
namespace Go.Proofs.YtdbnfhpgmcjngaaGreatDoor
open Go.ChangeShapes Go.WideShapes Go.ChangeAt Go.RowKit Go.Proofs.Tryz
set_option maxHeartbeats 12800000
set_option maxRecDepth 100000
set_option linter.all false
open Go.ChangeMaps (open_string shut_string)
theorem Ane:ownKnob E.godebug=none:=by kernel_rfl
theorem Ae0:laidOutB E=true:=by kernel_rfl
theorem Anf:E.underlying 4=some .bool:=by kernel_rfl
theorem Ang (os : Os) (a5 : os.Started) (A : Type) (enc : TypeId × Value → A) :
    ReturnsInHanded {} checked os 3 .any (fun w args => (Rows.deskDoesSpec.pre enc E f3 Rows.deskDoesRow.domain D w args ∧ YR E Rows.deskDoesRow.laid w) ∧ sizedMet enc E f3 (OpenSpec.ofChange Rows.deskDoesSpec) D w args) (Rows.deskDoesSpec.post enc E f3 D true D D) := by
  refine Anb (C := checked) (X := fun w _ => YR E Rows.deskDoesRow.laid w) (fun _ _ _ Q h => h.of_heap Q) Ane a5 Ax func3
    (ChangeSpec.witness_shaped (enc := enc) (C := checked) (os := os) (X := fun w _ => YR E Rows.deskDoesRow.laid w) D (World.laidAll E os Rows.deskDoesRow.laid) #[.slice none 0 0, .slice none 0 0] 8 (World.laidAll_os _ _ _)
      (World.shaped_of_ZipB Ax Ax) Ax Ax Ax
      (by rw [AnH _ _ _ Ax]; exact laidMet_laidAll _ Ax Ax)) ?_
  intro W base args ds L a6 r n o a T
  have d : (DataW.weightsEach E (f3.params.toList ++ Rows.deskDoesSpec.plain.varTypes E) (ds ++ L)).all (· ≤ reachBytes) = true := o
  clear o
  have f : ∀ (j : Nat) t v, f3.params[j]? = some t → args[j]? = some v → Value.okWide E W .any base t v := r
  have N := n
  obtain ⟨p, q, l, M, rfl, aa, ab⟩ := n
  have k : DataW.TrodAll enc E W 0 (fun _ => true) true f3.params.toList args.toList ds p := l
  rw [params3] at k f d
  obtain ⟨y, ac, d0, a7, p0, q0, a9, rfl, rfl, g, r0⟩ := trodAll_cons k
  obtain ⟨z, ad, d1, a8, p1, q1, rfl, rfl, rfl, i, r1⟩ := trodAll_cons r0
  obtain ⟨rfl, rfl, rfl⟩ := trodAll_nil r1
  obtain rfl : args = #[y, z] := by cases args; simp_all
  obtain ⟨rfl, rfl⟩ := trodVars_none M
  have s := g
  have a3 : ∀ x ∈ p0, x.block < W.heap.size := by obtain ⟨m, c⟩ := s; exact DataW.trod_lt m _ _ _ c
  obtain ⟨x0, B, I, rfl, a1, Y⟩ := Aey (f 0 22 y rfl rfl) g (Aez d (j := 0) rfl rfl)
  have u := i
  have a4 : ∀ x ∈ p1, x.block < W.heap.size := by obtain ⟨m, c⟩ := u; exact DataW.trod_lt m _ _ _ c
  obtain ⟨x1, F, K, rfl, a2, a0⟩ := Aey (f 1 22 z rfl rfl) i (Aez d (j := 1) rfl rfl)
  clear l r
  have a : YR E Rows.deskDoesRow.laid W := a
  rw [AnH _ _ _ Ax] at a
  have S : Lv W := Ana a.tail.tail a.tail.tail.tail.tail a.tail.tail.tail.tail.tail T
  refine (AmR x0 B I x1 F K W a1 Y a2 a0 S).mono fun e W' ⟨P, b⟩ => ?_
  subst P
  exact ⟨_, rfl, _, _, _, [], _, [], N, trodAll_mk1 (shut_bool Anf _), (trodAll_cons_mk (Below.trod Ae0 Ax (Fc Ax) s b a3) (trodAll_cons_mk (Below.trod Ae0 Ax (Fc Ax) u b a4) trodAll_mk0)), rfl, b.frame _, fun h => by cases h⟩
theorem Anh:Rows.DeskDoesSaid:=OpenClaim.holds_of_wide 3 f3 rfl rfl rfl rfl rfl rfl rfl ⟨rfl,rfl,rfl,rfl,rfl⟩ rfl rfl rfl rfl rfl Ax func3 Ax (Fc Ax) (by unfold Func.isWrapper;first|(rw[A7 (by decide+kernel)];kernel_rfl)|(rw[Aw (by decide+kernel)];exact⟨rfl,rfl⟩)) (λos b a enc _=>Ang os b a enc)
theorem deskDoes_holds:Rows.DeskDoesCardSaid:=Claim7.holds_tied_plain_at .later [] _ true _ _ Anh (λ_ h=>by cases h) Ax (λ_ h=>by cases h) deskDoes_row_tie rfl ⟨rfl,rfl⟩ Ax rfl (λf fn c d=>by obtain rfl:f=3:=JL ((show E.funcNamed _=some 3 from Ax).symm.trans c)|>.symm;obtain rfl:fn=f3:=(JL (func3.symm.trans d)).symm;exact⟨Ax,λj t a=>by rw[params3]at a;have e:t∈[22,22]:=AB (Array.mem_of_getElem? a);have b:([22,22].all λu=>!E.wantsStandIn u)=true:=Ax;exact(show E.wantsStandIn t=D from AB (UI.1 b t e))⟩) Ax
#print axioms deskDoes_holds
end Go.Proofs.YtdbnfhpgmcjngaaGreatDoor
