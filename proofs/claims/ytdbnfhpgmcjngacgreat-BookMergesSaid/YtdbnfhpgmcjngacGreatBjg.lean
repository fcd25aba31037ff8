/- A region that draws its order, walked by what holds once some of its operations are done: one proof an operation. -/
import Derived.Test.YtdbnfhpgmcjngacGreatBqt
import Derived.Test.YtdbnfhpgmcjngacGreatMem
namespace Go.Proofs.YtdbnfhpgmcjngacGreat
open Go
section
variable {P:Program} {md:Region.Mode} {ops:Array Oper} {Q:Exit→Act→World→Prop}
def undoneN (ops:Array Oper) (listed:Array Bool):Nat:=((List.range ops.size).filter fun i=>!listed.getD i true).length
theorem countP_lt {l:List Nat} {p q:Nat→Bool} (h:∀ x∈l,q x=true→p x=true) {i:Nat} (hi:i∈l) (hp:p i=true) (hq:q i=false):(l.filter q).length < (l.filter p).length:=by
  induction l with
  | nil=>cases hi
  | cons x l ih =>
    have hle:∀ l':List Nat,(∀ x∈l',q x=true→p x=true)→(l'.filter q).length≤(l'.filter p).length:=by
      intro l'
      induction l' with
      | nil=>intro _;simp
      | cons y l' ih' =>
        intro h'
        have h1:=ih' fun z hz=>h' z (by simp [hz])
        have h2:=h' y (by simp)
        simp only [List.filter_cons]
        cases hqy:q y
        · cases hpy:p y <;> simp <;> omega
        · rw [h2 hqy];simp;omega
    simp only [List.filter_cons]
    rcases List.mem_cons.1 hi with rfl | hi
    · rw [hp,hq]
      have:=hle l fun z hz=>h z (by simp [hz])
      simp;omega
    · have h1:=ih (fun z hz=>h z (by simp [hz])) hi
      have h2:=h x (by simp)
      cases hqy:q x
      · cases hpy:p x <;> simp <;> omega
      · rw [h2 hqy];simp;omega
theorem undone_step {listed:Array Bool} {i:Nat} (h:i∈Region.ready md ops listed):undoneN ops (listed.setIfInBounds i true) < undoneN ops listed:=by
  simp only [Region.ready,List.mem_filter,Bool.and_eq_true] at h
  obtain ⟨h1,h2,_⟩:=h
  refine countP_lt (i:=i) (fun x _ hx=>?_) h1 h2 ?_
  · by_cases e:x=i
    · subst e;exact h2
    · have:(listed.setIfInBounds i true).getD x true=listed.getD x true:=by
        simp only [Array.getD_eq_getD_getElem?]
        rw [Array.getElem?_setIfInBounds_ne (fun e'=>e e'.symm)]
      rw [this] at hx;exact hx
  · have hlt:i < listed.size:=by
      rcases Nat.lt_or_ge i listed.size with h | h
      · exact h
      · simp [Array.getD,Nat.not_lt.2 h] at h2
    simp [Array.getD,hlt]
theorem undone_ready {listed:Array Bool} (h:undoneN ops listed=0):Region.ready md ops listed=[]:=by
  have h0:((List.range ops.size).filter fun i=>!listed.getD i true)=[]:=List.eq_nil_of_length_eq_zero h
  rw [List.filter_eq_nil_iff] at h0
  unfold Region.ready
  rw [List.filter_eq_nil_iff]
  intro x hx
  have:=h0 x hx
  simp only [Bool.and_eq_true,not_and]
  intro h1
  exact absurd h1 this
theorem setD_ne {L:Array Bool} {i j:Nat} (h:j≠i):(L.setIfInBounds i true).getD j false=L.getD j false:=by
  simp only [Array.getD_eq_getD_getElem?]
  rw [Array.getElem?_setIfInBounds_ne (fun e=>h e.symm)]
theorem setD_eq {L:Array Bool} {i:Nat} (h:L.getD i true=false):(L.setIfInBounds i true).getD i false=true:=by
  have hlt:i < L.size:=by
    rcases Nat.lt_or_ge i L.size with h' | h'
    · exact h'
    · simp [Array.getD,Nat.not_lt.2 h'] at h
  simp [Array.getD,hlt]
theorem getD_un {L:Array Bool} {i:Nat} (h:L.getD i true=false):L.getD i false=false:=by
  have hlt:i < L.size:=by
    rcases Nat.lt_or_ge i L.size with h' | h'
    · exact h'
    · simp [Array.getD,Nat.not_lt.2 h'] at h
  simpa [Array.getD,hlt] using h
theorem rep_false (n k:Nat):(Array.replicate n false).getD k false=false:=by
  simp only [Array.getD_eq_getD_getElem?,Array.getElem?_replicate]
  split <;> rfl
theorem rep_no {n k:Nat} {p:Prop} (h:(Array.replicate n false).getD k false=true):p:=by rw [rep_false] at h;cases h
theorem ready_dep {listed:Array Bool} {i:Nat} {o:Oper} (h:i∈Region.ready md ops listed) (ho:ops[i]? = some o):listed.getD i true=false∧∀ e∈o.after,Region.binds md e=true→listed.getD e.on false=true:=by
  simp only [Region.ready,List.mem_filter,Bool.and_eq_true] at h
  obtain ⟨_,h2,h3⟩:=h
  rw [ho] at h3
  simp only [Option.map_some,Option.getD_some] at h3
  rw [Array.all_eq_true'] at h3
  refine ⟨by simpa using h2,fun e he hb=>?_⟩
  have:=h3 e he
  rw [hb] at this
  simpa using this
end
end Go.Proofs.YtdbnfhpgmcjngacGreat
/- Regions that draw their order: an invariant where some waits do not bind; ghost tags of blocks. -/
namespace Go.Proofs.YtdbnfhpgmcjngacGreat
open Go Go.RowKit
section
variable {P:Program} {md:Region.Mode} {ops:Array Oper} {Q:Exit→Act→World→Prop}
def backA (md:Region.Mode) (ops:Array Oper):Bool:=(List.range ops.size).all fun i=>((ops[i]?).map fun o=>o.after.all fun e=>!Region.binds md e || decide (e.on < i)).getD true
theorem ready_doneA (hb:backA md ops=true) {listed:Array Bool} (hsz:listed.size=ops.size) (h:Region.ready md ops listed=[]):∀ i,i < ops.size→listed.getD i false=true:=by
  intro i
  induction i using Nat.strongRecOn with
  | _ i ih =>
    intro hi
    have hl:i < listed.size:=by omega
    cases hx:listed.getD i true with
    | true=>simpa [Array.getD,hl] using hx
    | false =>
      exfalso
      have hm:i∈Region.ready md ops listed:=by
        simp only [Region.ready,List.mem_filter,List.mem_range,Bool.and_eq_true]
        refine ⟨hi,by rw [hx];rfl,?_⟩
        have hoi:ops[i]? = some ops[i]:=Array.getElem?_eq_getElem hi
        have hbi:=List.all_eq_true.1 hb i (List.mem_range.2 hi)
        rw [hoi] at hbi ⊢
        simp only [Option.map_some,Option.getD_some] at hbi ⊢
        rw [Array.all_eq_true'] at hbi ⊢
        intro e he
        have h0:=hbi e he
        cases hbe:Region.binds md e with
        | false=>simp
        | true =>
          rw [hbe] at h0
          have h1:e.on < i:=by simpa using h0
          rw [ih e.on h1 (by omega)];simp
      rw [h] at hm;cases hm
theorem wpAny_invA (hb:backA md ops=true) (I:Array Bool→Act→World→Prop) (hstep:∀ i listed a w,I listed a w→i∈Region.ready md ops listed→wpOp P ops Q i (fun a' w'=>I (listed.setIfInBounds i true) a' w') a w)
    (hfin:∀ listed a w,(∀ i,i < ops.size→listed.getD i false=true)→I listed a w→Q .normal a w) :
    ∀ (fuel:Nat) (listed:Array Bool) (a:Act) (w:World),listed.size=ops.size→undoneN ops listed≤fuel→I listed a w→wpAny P md ops Q fuel listed a w
  | 0,listed,a,w,hsz,hf,h=>by
    have hr:Region.ready md ops listed=[]:=undone_ready (by omega)
    exact ⟨hr,hfin _ _ _ (ready_doneA hb hsz hr) h⟩
  | fuel+1,listed,a,w,hsz,hf,h=>by
    refine ⟨fun hr=>hfin _ _ _ (ready_doneA hb hsz hr) h,fun i hi=>?_⟩
    have h2:=undone_step hi
    exact wpOp_mono (fun a' w' h'=>wpAny_invA hb I hstep hfin fuel _ a' w' (by simpa using hsz) (by omega) h') (hstep i listed a w h hi)
theorem wp_region_invA {id:Nat} {a:Act} {w:World} (hm:P.follows .mixedOrders=true) (hb:backA .any ops=true) (I:Act→Array Bool→Act→World→Prop)
    (h0:I a (Array.replicate ops.size false) a w.drew) (hstep:∀ i listed a' w',I a listed a' w'→i∈Region.ready .any ops listed→wpOp P ops Q i (fun a' w'=>I a (listed.setIfInBounds i true) a' w') a' w')
    (hfin:∀ listed a' w',(∀ i,i < ops.size→listed.getD i false=true)→I a listed a' w'→Q .normal a' w'):(Code.region id ops true).wp P Q a w:=by
  refine wp_region_any hm ?_
  refine wpAny_invA hb (I a) hstep hfin _ _ _ _ (by simp) ?_ h0
  unfold undoneN
  exact Nat.le_trans (List.length_filter_le _ _) (by simp)
end
def newTag (tag:Nat→Nat) (n i:Nat):Nat→Nat:=fun k=>if n≤k then i else tag k
theorem newTag_lt {tag:Nat→Nat} {n i k:Nat} (h:k < n):newTag tag n i k=tag k:=if_neg (by omega)
theorem newTag_ge {tag:Nat→Nat} {n i k:Nat} (h:n≤k):newTag tag n i k=i:=if_pos h
theorem far5 {w:World} {T k:Nat} (hn:k≠T) (u0 u1 u2 u3 u4:Value):(((((w.setCell ⟨T,0,none⟩ u0).setCell ⟨T,1,none⟩ u1).setCell ⟨T,2,none⟩ u2).setCell ⟨T,3,none⟩ u3).setCell ⟨T,4,none⟩ u4).heap[k]? = w.heap[k]? := by
  rw [Below.heap_setCell _ _ _ _ hn,Below.heap_setCell _ _ _ _ hn,Below.heap_setCell _ _ _ _ hn,Below.heap_setCell _ _ _ _ hn,Below.heap_setCell _ _ _ _ hn]
end Go.Proofs.YtdbnfhpgmcjngacGreat
