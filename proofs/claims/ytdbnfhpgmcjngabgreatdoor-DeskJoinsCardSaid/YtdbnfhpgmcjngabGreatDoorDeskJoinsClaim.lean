/- It is proved that the law DeskJoins returns true for every input, and that each argument reads behind the call as it read before. Conditions: those of the given row alone. -/
import Derived.Test.YtdbnfhpgmcjngabGreatDoorRows
import Derived.Test.YtdbnfhpgmcjngabGreatDoorBks
import Derived.Test.YtdbnfhpgmcjngabGreatDoorTie
import Derived.Test.YtdbnfhpgmcjngabGreatDoorCards
import Derived.Test.YtdbnfhpgmcjngabGreatDoorRl
import Derived.Test.YtdbnfhpgmcjngabGreatDoorBop
import Derived.ProofKit
import Derived.OpenShut
import Derived.ShutString
import Derived.ChangeOld
import Derived.Below
namespace Go.Proofs.YtdbnfhpgmcjngabGreatDoor
open Go.ChangeShapes Go.WideShapes Go.ChangeAt Go.RowKit
open Go.ChangeMaps (open_string shut_string)
theorem deskJoins_own:ownKnob Tryz.prog.godebug=none:=by kernel_rfl
theorem deskJoins_laid:laidOutB Tryz.prog=true:=by kernel_rfl
theorem deskJoins_bool:Tryz.prog.underlying 4=some .bool:=by kernel_rfl
set_option maxRecDepth 100000 in
theorem deskJoins_lifted (os:Os) (started:os.Started) (H:Type) (enc:TypeId × Value→H) :
    ReturnsInHanded {} Tryz.checked os 3 .any (fun w args=>(Rows.deskJoinsSpec.pre enc Tryz.prog Tryz.f3 Rows.deskJoinsRow.domain false w args∧laidMetH Tryz.prog Rows.deskJoinsRow.laid w)∧sizedMet enc Tryz.prog Tryz.f3 (OpenSpec.ofChange Rows.deskJoinsSpec) false w args) (Rows.deskJoinsSpec.post enc Tryz.prog Tryz.f3 false true false false):=by
  refine handed_and_shaped (C:=Tryz.checked) (X:=fun w _=>laidMetH Tryz.prog Rows.deskJoinsRow.laid w) (fun _ _ _ hh h=>h.of_heap hh) deskJoins_own started (by kernel_rfl) Tryz.func3
    (ChangeSpec.witness_shaped (enc:=enc) (C:=Tryz.checked) (os:=os) (X:=fun w _=>laidMetH Tryz.prog Rows.deskJoinsRow.laid w) false (World.laidAll Tryz.prog os Rows.deskJoinsRow.laid) #[.slice none 0 0,.int .i64 0] 8 (World.laidAll_os _ _ _)
      (World.shaped_of_ZipB (by kernel_rfl) (by kernel_rfl)) (by kernel_rfl) (by kernel_rfl) (by kernel_rfl)
      (by rw [MakeChecks.laidMetH_plain _ _ _ (by kernel_rfl)];exact laidMet_laidAll _ (by kernel_rfl) (by kernel_rfl))) ?_
  intro W base args ds gs before hval0 hW hsz0 hL hsh
  have hsz:(DataW.weightsEach Tryz.prog (Tryz.f3.params.toList ++ Rows.deskJoinsSpec.plain.varTypes Tryz.prog) (ds ++ gs)).all (·≤reachBytes)=true:=hsz0
  clear hsz0
  have hval:∀ (j:Nat) t v,Tryz.f3.params[j]? = some t→args[j]? = some v→Value.okWide Tryz.prog W .any base t v:=hval0
  have hW':=hW
  obtain ⟨p,q,hA0,hV,rfl,hfz,hnd⟩:=hW
  have hA:DataW.TrodAll enc Tryz.prog W 0 (fun _=>true) true Tryz.f3.params.toList args.toList ds p:=hA0
  rw [Tryz.params3] at hA hval hsz
  obtain ⟨v0,vs0,d0,ds0,p0,q0,hargs,rfl,rfl,h0,r0⟩:=trodAll_cons hA
  obtain ⟨v1,vs1,d1,ds1,p1,q1,rfl,rfl,rfl,h1,r1⟩:=trodAll_cons r0
  obtain ⟨rfl,rfl,rfl⟩:=trodAll_nil r1
  obtain rfl:args=#[v0,v1]:=by cases args;simp_all
  obtain ⟨rfl,rfl⟩:=trodVars_none hV
  have k0:=h0
  have lt0:∀ x∈p0,x.block < W.heap.size:=by obtain ⟨m,hm⟩:=k0;exact DataW.trod_lt m _ _ _ hm
  obtain ⟨x0,a0,c0,rfl,hx0,hw0⟩:=open_strs (hval 0 22 v0 rfl rfl) h0 (sized_strs hsz (j:=0) rfl rfl)
  have k1:=h1
  have lt1:∀ x∈p1,x.block < W.heap.size:=by obtain ⟨m,hm⟩:=k1;exact DataW.trod_lt m _ _ _ hm
  obtain ⟨n1,rfl,rfl,rfl,hn1⟩:=open_int under_int (hval 1 3 v1 rfl rfl) h1
  clear hA0 hval0
  have hL:laidMetH Tryz.prog Rows.deskJoinsRow.laid W:=hL
  rw [MakeChecks.laidMetH_plain _ _ _ (by kernel_rfl)] at hL
  have hlv:Lv W:=lv_of hL.tail.tail hL.tail.tail.tail.tail hL.tail.tail.tail.tail.tail hsh
  refine (deskJoins_walk x0 a0 c0 n1 W hx0 hw0 hn1 hlv).mono fun e W' ⟨he,bel⟩=>?_
  subst he
  exact ⟨_,rfl,_,_,_,[],_,[],hW',trodAll_mk1 (shut_bool deskJoins_bool _),(trodAll_cons_mk (Below.trod deskJoins_laid (by kernel_rfl) (of_decide_eq_true (by kernel_rfl)) k0 bel lt0) (trodAll_cons_mk (Below.trod deskJoins_laid (by kernel_rfl) (of_decide_eq_true (by kernel_rfl)) k1 bel lt1) trodAll_mk0)),rfl,bel.frame _,fun h=>by cases h⟩
theorem deskJoins_row:Rows.DeskJoinsSaid :=
  OpenClaim.holds_of_wide 3 Tryz.f3 rfl rfl rfl rfl rfl rfl rfl ⟨rfl,rfl,rfl,rfl,rfl⟩ rfl rfl rfl rfl rfl (by kernel_rfl) Tryz.func3 (by kernel_rfl)
    (of_decide_eq_true (by kernel_rfl)) (by unfold Func.isWrapper;first | (rw [if_pos (by decide +kernel)];kernel_rfl) | (rw [if_neg (by decide +kernel)];exact ⟨rfl,rfl⟩))
    (fun os started H enc _=>deskJoins_lifted os started H enc)
theorem deskJoins_holds:Rows.DeskJoinsCardSaid :=
  Claim7.holds_tied_plain_at .later [] _ true _ _
    deskJoins_row (fun _ h=>by cases h) (by kernel_rfl) (fun _ h=>by cases h) deskJoins_row_tie rfl ⟨rfl,rfl⟩ (by kernel_rfl) rfl
    (fun f fn hf hfn=>by
      obtain rfl:f=3:=Option.some.inj ((show Tryz.prog.funcNamed _=some 3 by kernel_rfl).symm.trans hf) |>.symm
      obtain rfl:fn=Tryz.f3:=(Option.some.inj (Tryz.func3.symm.trans hfn)).symm
      exact ⟨by kernel_rfl,fun j t ht=>by
        rw [Tryz.params3] at ht
        have hm:t∈[22,3]:=by simpa using Array.mem_of_getElem? ht
        have hall:([22,3].all fun u=>!Tryz.prog.wantsStandIn u)=true:=by kernel_rfl
        exact (show Tryz.prog.wantsStandIn t=false by simpa using List.all_eq_true.1 hall t hm)⟩)
    (by kernel_rfl)
#print axioms deskJoins_holds
end Go.Proofs.YtdbnfhpgmcjngabGreatDoor
