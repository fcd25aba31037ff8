/- A cut: a number from 0 to n. No program here. -/
import Derived.Test.YtdbnfhpgmcjngabGreatDoorMem
import Derived.Test.YtdbnfhpgmcjngabGreatDoorBzv
import Derived.Test.YtdbnfhpgmcjngabGreatDoorBgl
import Derived.Test.YtdbnfhpgmcjngabGreatDoorLa
import Derived.Test.YtdbnfhpgmcjngabGreatDoorBpl
import Derived.Deep.DeepCutAuto
namespace Go.Proofs.YtdbnfhpgmcjngabGreatDoor
open Go Go.RowKit
theorem cutn_ix (c:Int) (n:Nat) (h:n≤1000000):∃ K:Nat,K≤n∧wrap64 ((IntKind.u64.wrap c).tmod ((n:Int)+1))=K:=by
  have h0:0≤IntKind.u64.wrap c:=by simp [IntKind.wrap,IntKind.signed,IntKind.bits];omega
  generalize IntKind.u64.wrap c=u at h0
  have h1:u.tmod ((n:Int)+1)=u % ((n:Int)+1):=Int.tmod_eq_emod_of_nonneg h0
  have h2:=Int.emod_nonneg u (show ((n:Int)+1)≠0 by omega)
  have h3:=Int.emod_lt_of_pos u (show (0:Int) < (n:Int)+1 by omega)
  refine ⟨(u % ((n:Int)+1)).toNat,by omega,?_⟩
  rw [h1,IntWalk.wrap64_in _ ⟨by omega,by omega⟩];omega
end Go.Proofs.YtdbnfhpgmcjngabGreatDoor
/- The law BookFirst: its walk. -/
namespace Go.Proofs.YtdbnfhpgmcjngabGreatDoor
open Go Go.RowKit
end Go.Proofs.YtdbnfhpgmcjngabGreatDoor
/- The law BookSteps: its walk. -/
namespace Go.Proofs.YtdbnfhpgmcjngabGreatDoor
open Go Go.RowKit
theorem cntD_le {ts:List Tr} (hf:∀ t∈ts,fault t=0) (h30:ts.length≤30) (k:Nat):cntD (ts.take k)≤10000:=by
  have h1:∀ t∈ts.take k,fault t=0:=fun t ht=>hf t (List.mem_of_mem_take ht)
  have h2:=cntS9_le _ (stepsP_few h1)
  have h3:(stepsP (ts.take k)).length≤30:=by
    cases hx:ts.take k with
    | nil=>simp [stepsP]
    | cons t r =>
      have:=stepsP_length (t :: r) (by simp)
      have h4:(t :: r).length≤30:=by rw [← hx,List.length_take];omega
      omega
  unfold cntD
  omega
end Go.Proofs.YtdbnfhpgmcjngabGreatDoor
/- The law TreeParts: its walk. -/
namespace Go.Proofs.YtdbnfhpgmcjngabGreatDoor
open Go Go.RowKit
theorem Flat.take {S:Nat→Prop} {w:World} {vs:List Value} {oa:Option Addr} {cap:Nat} (h:Flat S w vs oa cap) (k:Nat):Flat S w (vs.take k) oa cap:=by
  obtain ⟨⟨hc,hm⟩,b,o,h1,h2⟩:=h
  refine ⟨⟨by rw [List.length_take];omega,hm⟩,b,o,fun hn=>h1 (by intro e;subst e;simp at hn),fun i hi=>?_⟩
  rw [List.length_take] at hi
  rw [h2 i (by omega)];simp
theorem Flat.drop {S:Nat→Prop} {w:World} {vs:List Value} {oa:Option Addr} {cap:Nat} (h:Flat S w vs oa cap) (k:Nat) (hk:k≤vs.length) :
    Flat S w (vs.drop k) (if cap=k then oa else oa.map (·.add k)) (cap - k):=by
  obtain ⟨⟨hc,hm⟩,b,o,h1,h2⟩:=h
  refine ⟨⟨by rw [List.length_drop];omega,by omega⟩,b,o+k,fun hn=>?_,fun i hi=>?_⟩
  · have h3:0 < (vs.drop k).length:=List.length_pos_iff.2 hn
    rw [List.length_drop] at h3
    obtain ⟨rfl,hS⟩:=h1 (by intro e;subst e;simp at h3)
    rw [if_neg (by omega)]
    refine ⟨?_,hS⟩
    by_cases h0:k=0
    · subst h0;rfl
    · simp [Addr.add,h0]
  · rw [List.length_drop] at hi
    have:=h2 (k+i) (by omega)
    rw [show o+k+i=o+(k+i) by omega,this];simp
end Go.Proofs.YtdbnfhpgmcjngabGreatDoor
