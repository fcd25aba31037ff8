/- It is proved that the law ScriptDiffs returns true for every input, and that each argument reads behind the call as it read before. Conditions: those of the given row alone. -/
import Derived.Test.YtdbnfhpgmcjngacDoorRows
import Derived.Test.YtdbnfhpgmcjngacDoorYv
import Derived.Test.YtdbnfhpgmcjngacDoorTie
import Derived.Test.YtdbnfhpgmcjngacDoorCards
import Derived.Test.YtdbnfhpgmcjngacDoorRl
import Derived.Test.YtdbnfhpgmcjngacDoorBop
import Derived.ProofKit
import Derived.OpenShut
import Derived.ShutString
import Derived.ChangeOld
import Derived.Below
namespace Go.Proofs.YtdbnfhpgmcjngacDoor
open Go.ChangeShapes Go.WideShapes Go.ChangeAt Go.RowKit
open Go.ChangeMaps (open_string shut_string)
theorem scriptDiffs_own:ownKnob Tryd.prog.godebug=none:=by kernel_rfl
theorem scriptDiffs_laid:laidOutB Tryd.prog=true:=by kernel_rfl
theorem scriptDiffs_bool:Tryd.prog.underlying 4=some .bool:=by kernel_rfl
set_option maxRecDepth 100000 in
theorem scriptDiffs_lifted (os:Os) (started:os.Started) (H:Type) (enc:TypeId × Value→H) :
    ReturnsInHanded {} Tryd.checked os 3 .any (fun w args=>(Rows.scriptDiffsSpec.pre enc Tryd.prog Tryd.f3 Rows.scriptDiffsRow.domain false w args∧laidMetH Tryd.prog Rows.scriptDiffsRow.laid w)∧sizedMet enc Tryd.prog Tryd.f3 (OpenSpec.ofChange Rows.scriptDiffsSpec) false w args) (Rows.scriptDiffsSpec.post enc Tryd.prog Tryd.f3 false true false false):=by
  refine handed_and_shaped (C:=Tryd.checked) (X:=fun w _=>laidMetH Tryd.prog Rows.scriptDiffsRow.laid w) (fun _ _ _ hh h=>h.of_heap hh) scriptDiffs_own started (by kernel_rfl) Tryd.func3
    (ChangeSpec.witness_shaped (enc:=enc) (C:=Tryd.checked) (os:=os) (X:=fun w _=>laidMetH Tryd.prog Rows.scriptDiffsRow.laid w) false (World.laidAll Tryd.prog os Rows.scriptDiffsRow.laid) #[.agg #[.string ⟨#[]⟩,.slice none 0 0],.agg #[.string ⟨#[]⟩,.slice none 0 0]] 8 (World.laidAll_os _ _ _)
      (World.shaped_of_ZipB (by kernel_rfl) (by kernel_rfl)) (by kernel_rfl) (by kernel_rfl) (by kernel_rfl)
      (by rw [MakeChecks.laidMetH_plain _ _ _ (by kernel_rfl)];exact laidMet_laidAll _ (by kernel_rfl) (by kernel_rfl))) ?_
  intro W base args ds gs before hval0 hW hsz0 hL hsh
  have hsz:(DataW.weightsEach Tryd.prog (Tryd.f3.params.toList ++ Rows.scriptDiffsSpec.plain.varTypes Tryd.prog) (ds ++ gs)).all (·≤reachBytes)=true:=hsz0
  clear hsz0
  have hval:∀ (j:Nat) t v,Tryd.f3.params[j]? = some t→args[j]? = some v→Value.okWide Tryd.prog W .any base t v:=hval0
  have hW':=hW
  obtain ⟨p,q,hA0,hV,rfl,hfz,hnd⟩:=hW
  have hA:DataW.TrodAll enc Tryd.prog W 0 (fun _=>true) true Tryd.f3.params.toList args.toList ds p:=hA0
  rw [Tryd.params3] at hA hval hsz
  obtain ⟨v0,vs0,d0,ds0,p0,q0,hargs,rfl,rfl,h0,r0⟩:=trodAll_cons hA
  obtain ⟨v1,vs1,d1,ds1,p1,q1,rfl,rfl,rfl,h1,r1⟩:=trodAll_cons r0
  obtain ⟨rfl,rfl,rfl⟩:=trodAll_nil r1
  obtain rfl:args=#[v0,v1]:=by cases args;simp_all
  obtain ⟨rfl,rfl⟩:=trodVars_none hV
  have k0:=h0
  have lt0:∀ x∈p0,x.block < W.heap.size:=by obtain ⟨m,hm⟩:=k0;exact DataW.trod_lt m _ _ _ hm
  obtain ⟨l0,ks0,oa0,cap0,rfl,hl0,hk0⟩:=open_tree (hval 0 24 v0 rfl rfl) h0
  have k1:=h1
  have lt1:∀ x∈p1,x.block < W.heap.size:=by obtain ⟨m,hm⟩:=k1;exact DataW.trod_lt m _ _ _ hm
  obtain ⟨l1,ks1,oa1,cap1,rfl,hl1,hk1⟩:=open_tree (hval 1 24 v1 rfl rfl) h1
  clear hA0 hval0
  have hL:laidMetH Tryd.prog Rows.scriptDiffsRow.laid W:=hL
  rw [MakeChecks.laidMetH_plain _ _ _ (by kernel_rfl)] at hL
  have hlv:Lt W:=rl_tab hL.tail.tail
  refine (scriptDiffs_walk l0 ks0 oa0 cap0 l1 ks1 oa1 cap1 W hl0 hk0 hl1 hk1 hlv).mono fun e W' ⟨he,bel⟩=>?_
  subst he
  exact ⟨_,rfl,_,_,_,[],_,[],hW',trodAll_mk1 (shut_bool scriptDiffs_bool _),(trodAll_cons_mk (Below.trod scriptDiffs_laid (by kernel_rfl) (of_decide_eq_true (by kernel_rfl)) k0 bel lt0) (trodAll_cons_mk (Below.trod scriptDiffs_laid (by kernel_rfl) (of_decide_eq_true (by kernel_rfl)) k1 bel lt1) trodAll_mk0)),rfl,bel.frame _,fun h=>by cases h⟩
theorem scriptDiffs_row:Rows.ScriptDiffsSaid :=
  OpenClaim.holds_of_wide 3 Tryd.f3 rfl rfl rfl rfl rfl rfl rfl ⟨rfl,rfl,rfl,rfl,rfl⟩ rfl rfl rfl rfl rfl (by kernel_rfl) Tryd.func3 (by kernel_rfl)
    (of_decide_eq_true (by kernel_rfl)) (by unfold Func.isWrapper;first | (rw [if_pos (by decide +kernel)];kernel_rfl) | (rw [if_neg (by decide +kernel)];exact ⟨rfl,rfl⟩))
    (fun os started H enc _=>scriptDiffs_lifted os started H enc)
theorem scriptDiffs_holds:Rows.ScriptDiffsCardSaid :=
  Claim7.holds_tied_plain_at .later [] _ true _ _
    scriptDiffs_row (fun _ h=>by cases h) (by kernel_rfl) (fun _ h=>by cases h) scriptDiffs_row_tie rfl ⟨rfl,rfl⟩ (by kernel_rfl) rfl
    (fun f fn hf hfn=>by
      obtain rfl:f=3:=Option.some.inj ((show Tryd.prog.funcNamed _=some 3 by kernel_rfl).symm.trans hf) |>.symm
      obtain rfl:fn=Tryd.f3:=(Option.some.inj (Tryd.func3.symm.trans hfn)).symm
      exact ⟨by kernel_rfl,fun j t ht=>by
        rw [Tryd.params3] at ht
        have hm:t∈[24,24]:=by simpa using Array.mem_of_getElem? ht
        have hall:([24,24].all fun u=>!Tryd.prog.wantsStandIn u)=true:=by kernel_rfl
        exact (show Tryd.prog.wantsStandIn t=false by simpa using List.all_eq_true.1 hall t hm)⟩)
    (by kernel_rfl)
#print axioms scriptDiffs_holds
end Go.Proofs.YtdbnfhpgmcjngacDoor
