/- Plain: marks as trees whose labels tell them; what the document's Since tells. No program here. -/
import Derived.Test.YtdbnfhpgmcjngadGreatDoorBzt
import Derived.Test.YtdbnfhpgmcjngadGreatDoorYr
import Derived.Test.YtdbnfhpgmcjngadGreatDoorBpl
namespace Go.Proofs.YtdbnfhpgmcjngadGreatDoor
mutual
def trM:Mk→Tr | .node s ms=>.node (numB s) (trL ms)
def trL:List Mk→List Tr | []=>[] | m :: ms=>trM m :: trL ms
end
theorem trM_node (s:Int) (ms:List Mk):trM (.node s ms)=.node (numB s) (trL ms):=by rw [trM]
theorem trL_map:∀ ms:List Mk,trL ms=ms.map trM
  | []=>rfl
  | m :: ms=>by rw [trL,List.map_cons,trL_map ms]
theorem trL_length (ms:List Mk):(trL ms).length=ms.length:=by rw [trL_map,List.length_map]
mutual
theorem trM_sz:∀ m:Mk,(trM m).sz=(listM m).length
  | .node s ms=>by rw [trM_node,Tr.sz_node,listM_node,List.length_append,trL_sz ms];rfl
theorem trL_sz:∀ ms:List Mk,Tr.szL (trL ms)=(listL ms).length
  | []=>by rw [trL,listL];rfl
  | m :: ms=>by rw [trL,listL,Tr.szL_cons,List.length_append,trM_sz m,trL_sz ms]
end
mutual
theorem relT_marks (f:Nat→ByteArray):∀ (t:Tr) (m:Mk) (p:Nat),Form t m→(∀ i (h:i < (listM m).length),f (p+i)=numB (listM m)[i])→relT f p t=trM m
  | .node l ks,.node s ms,p,hf,h=>by
    have hl:=FormL.list (Form.node.1 hf)
    rw [listM_node] at h
    have hr:=h (listL ms).length (by simp)
    rw [List.getElem_append_right (Nat.le_refl _)] at hr
    simp only [Nat.sub_self,List.getElem_cons_zero] at hr
    rw [relT_node,trM_node,← hl,hr,relF_marks f ks ms p (Form.node.1 hf) (fun i hi=>by
      have:=h i (by simp;omega)
      rw [List.getElem_append_left hi] at this;exact this)]
theorem relF_marks (f:Nat→ByteArray):∀ (ks:List Tr) (ms:List Mk) (p:Nat),FormL ks ms→(∀ i (h:i < (listL ms).length),f (p+i)=numB (listL ms)[i])→relF f p ks=trL ms
  | [],[],p,_,_=>by rw [relF,trL]
  | k :: ks,m :: ms,p,hf,h=>by
    have hs:=Form.list hf.1
    rw [listL] at h
    rw [relF,trL,relT_marks f k m p hf.1 (fun i hi=>by
      have:=h i (by rw [List.length_append];omega)
      rw [List.getElem_append_left hi] at this;exact this),relF_marks f ks ms (p+k.sz) hf.2 (fun i hi=>by
      have:=h ((listM m).length+i) (by rw [List.length_append];omega)
      rw [List.getElem_append_right (Nat.le_add_right _ _)] at this
      rw [Nat.add_assoc,← hs,this];simp)]
end
theorem since_is {t:Tr} {m:Mk} (h:Form t m):relT (sinL (listM m)) 0 t=trM m:=relT_marks _ t m 0 h (fun i hi=>by
  unfold sinL
  rw [Nat.zero_add,List.getD_eq_getElem?_getD,List.getElem?_eq_getElem hi];rfl)
theorem kid_tr {ms:List Mk} {k:Int} (h0:0≤k) (hk:k < ms.length):kidN (trL ms) k=trM (kidM ms k):=by
  obtain ⟨n,rfl⟩:=Int.eq_ofNat_of_zero_le h0
  have hn:n < ms.length:=by omega
  rw [kidN_in _ n (by rw [trL_length];exact hn)]
  simp [trL_map,kidM,hn]
theorem kids_tr (m:Mk):(trM m).kids=trL m.kids:=by cases m with | node s ms=>rw [trM_node];rfl
theorem done_marks (d:Dee) (q:List Int) (now:Int) (h1:d.kind≠1) (hk:1≤d.kind∧d.kind≤3) (hp0:0≤d.pos) (hm0:0≤d.many):∀ (p:List Int) (m:Mk),okM d p m→doneT ⟨d.kind,q,d.pos,d.many,numB now⟩ p (trM m)=(trM (doM d now p m),0)
  | [],.node s ms,h=>by
    obtain ⟨_,h2,h3⟩:=h
    have hk3:d.kind=3:=by omega
    obtain ⟨_,_,h5⟩:=h3 hk3
    rw [trM_node]
    show leafT _ _ 0=_
    rw [leafT_node,if_neg h1,if_neg h2,if_neg (by rw [trL_length];show ¬ ((ms.length:Int) < d.pos∨(ms.length:Int) - d.pos < d.many);omega)]
    simp only [doM]
    rw [if_pos hk3,trM_node]
    simp [trL_map,trM_node]
  | k :: p,.node s ms,h=>by
    obtain ⟨_,_,⟨h0,hlt⟩,h3⟩:=h
    rw [trM_node,doneT_node]
    simp only [doM]
    by_cases hc:d.kind=2∧p=[]
    · rw [if_pos hc,if_pos hc,leafT_node,if_neg h1,if_pos hc.1,if_neg (by rw [trL_length];omega),kid_tr h0 hlt,kids_tr,trM_node]
      simp [trL_map]
    · rw [if_neg hc,if_neg hc,if_neg (by rw [trL_length];omega),kid_tr h0 hlt,done_marks d q now h1 hk hp0 hm0 p _ (h3 hc),trM_node]
      simp [trL_map,List.map_set]
theorem set_self (ms:List Mk) (k:Int) (h0:0≤k) (hk:k < ms.length):ms.set k.toNat (kidM ms k)=ms:=by
  obtain ⟨n,rfl⟩:=Int.eq_ofNat_of_zero_le h0
  have hn:n < ms.length:=by omega
  have:kidM ms (n:Int)=ms[n]:=by simp [kidM,hn]
  rw [this]
  simp
theorem name_marks (d:Dee) (now:Int) (h1:d.kind=1):∀ (p:List Int) (m:Mk),okM d p m→doM d now p m=m
  | [],.node s ms,_=>by simp only [doM];rw [if_neg (by omega)]
  | k :: p,.node s ms,h=>by
    obtain ⟨_,_,⟨h0,hlt⟩,h3⟩:=h
    simp only [doM]
    rw [if_neg (by omega),name_marks d now h1 p _ (h3 (by omega)),set_self ms k h0 hlt]
mutual
theorem nds_marks:∀ (m:Mk) (p:Nat) (r:Int),(ndsT p r (trM m)).map (·.lab)=(listM m).map numB
  | .node s ms,p,r=>by
    rw [trM_node,ndsT,List.map_append,ndsF_marks ms,listM_node,List.map_append];rfl
theorem ndsF_marks:∀ (ms:List Mk) (p:Nat) (r:Int),(ndsF p r (trL ms)).map (·.lab)=(listL ms).map numB
  | [],p,r=>by rw [trL,ndsF,listL];rfl
  | m :: ms,p,r=>by rw [trL,ndsF,List.map_append,nds_marks m,ndsF_marks ms,listL,List.map_append]
end
def allM (P:Int→Prop) (m:Mk):Prop:=∀ x∈listM m,P x
theorem allM_node {P:Int→Prop} {s:Int} {ms:List Mk}:allM P (.node s ms)↔P s∧∀ k∈ms,allM P k:=by
  have hl:∀ ms:List Mk,(∀ x∈listL ms,P x)↔∀ k∈ms,allM P k:=by
    intro ms
    induction ms with
    | nil=>simp [listL]
    | cons m ms ih => rw [listL]; simp only [List.mem_append, List.mem_cons]; constructor
                      · intro h k hk
                        rcases hk with rfl | hk
                        · exact fun x hx=>h x (.inl hx)
                        · exact ih.1 (fun x hx=>h x (.inr hx)) k hk
                      · intro h x hx
                        rcases hx with hx | hx
                        · exact h m (.inl rfl) x hx
                        · exact ih.2 (fun k hk=>h k (.inr hk)) x hx
  unfold allM
  rw [listM_node]
  simp only [List.mem_append,List.mem_singleton]
  constructor
  · intro h;exact ⟨h s (.inr rfl),(hl ms).1 fun x hx=>h x (.inl hx)⟩
  · rintro ⟨h1,h2⟩ x (hx | rfl)
    · exact (hl ms).2 h2 x hx
    · exact h1
theorem allM_kid {P:Int→Prop} {ms:List Mk} (h:∀ k∈ms,allM P k) {k:Int} (h0:0≤k) (hk:k < ms.length):allM P (kidM ms k):=by
  obtain ⟨n,rfl⟩:=Int.eq_ofNat_of_zero_le h0
  have hn:n < ms.length:=by omega
  have:kidM ms (n:Int)=ms[n]:=by simp [kidM,hn]
  rw [this];exact h _ (List.getElem_mem hn)
theorem allM_kids {P:Int→Prop} {m:Mk} (h:allM P m):∀ k∈m.kids,allM P k:=by
  cases m with | node s ms=>exact (allM_node.1 h).2
theorem doM_all {P:Int→Prop} (d:Dee) (now:Int) (hn:P now):∀ (p:List Int) (m:Mk),okM d p m→allM P m→allM P (doM d now p m)
  | [],.node s ms,_,h=>by
    simp only [doM]
    split
    · obtain ⟨h1,h2⟩:=allM_node.1 h
      refine allM_node.2 ⟨h1,fun k hk=>?_⟩
      simp only [List.append_assoc,List.mem_append,List.mem_singleton] at hk
      rcases hk with hk | rfl | hk
      · exact h2 k (List.mem_of_mem_take hk)
      · exact allM_node.2 ⟨hn,fun k hk=>h2 k (List.mem_of_mem_drop (List.mem_of_mem_take hk))⟩
      · exact h2 k (List.mem_of_mem_drop hk)
    · exact h
  | k :: p,.node s ms,ho,h=>by
    obtain ⟨_,_,⟨h0,hlt⟩,h3⟩:=ho
    obtain ⟨h1,h2⟩:=allM_node.1 h
    simp only [doM]
    split
    · refine allM_node.2 ⟨h1,fun j hj=>?_⟩
      simp only [List.append_assoc,List.mem_append] at hj
      rcases hj with hj | hj | hj
      · exact h2 j (List.mem_of_mem_take hj)
      · exact allM_kids (allM_kid h2 h0 hlt) j hj
      · exact h2 j (List.mem_of_mem_drop hj)
    · rename_i hc
      refine allM_node.2 ⟨h1,fun j hj=>?_⟩
      rcases List.mem_or_eq_of_mem_set hj with hj | rfl
      · exact h2 j hj
      · exact doM_all d now hn p _ (h3 hc) (allM_kid h2 h0 hlt)
theorem doMs_all {P:Int→Prop} (now:Int) (hn:P now):∀ (ds:List Dee) (m:Mk),(∀ (j:Nat) (h:j < ds.length),okM ds[j] ds[j].path (doMs now (ds.take j) m))→allM P m→allM P (doMs now ds m)
  | [],m,_,h=>h
  | d :: ds,m,ho,h=>by
    rw [doMs]
    refine doMs_all now hn ds _ (fun j hj=>?_) (doM_all d now hn d.path m (ho 0 (by simp)) h)
    have:=ho (j+1) (by simpa using hj)
    simpa [doMs] using this
mutual
theorem markP_all {P:Int→Prop} {s:Int} (h:P s):∀ t:Tr,allM P (markP s t)
  | .node l ks=>by rw [markP];exact allM_node.2 ⟨h,markL_all h ks⟩
theorem markL_all {P:Int→Prop} {s:Int} (h:P s):∀ ks:List Tr,∀ k∈markL s ks,allM P k
  | []=>by simp [markL]
  | t :: ks=>by
    intro k hk
    rw [markL] at hk
    rcases List.mem_cons.1 hk with rfl | hk
    · exact markP_all h t
    · exact markL_all h ks k hk
end
mutual
theorem listM_markP (s:Int):∀ t:Tr,listM (markP s t)=List.replicate t.sz s
  | .node l ks=>by rw [markP,listM_node,listL_markL s ks,Tr.sz_node,List.replicate_succ']
theorem listL_markL (s:Int):∀ ks:List Tr,listL (markL s ks)=List.replicate (Tr.szL ks) s
  | []=>by rw [markL,listL];rfl
  | k :: ks=>by rw [markL,listL,listM_markP s k,listL_markL s ks,Tr.szL_cons,List.replicate_append_replicate]
end
theorem blM_all {ts:List Tr} (hf:∀ t∈ts,fault t=0):∀ (n:Nat) (_:n < ts.length),allM (fun x=>0≤x∧x≤(n:Int)) (blM ts n)
  | 0,h=>by simp only [blM];exact markP_all ⟨by omega,by omega⟩ _
  | n+1,h=>by
    simp only [blM]
    refine doMs_all _ ⟨by omega,by omega⟩ _ _ (fun j hj=>blM_ok hf n h j hj) ?_
    intro x hx
    have:=blM_all hf n (by omega) x hx
    constructor
    · exact this.1
    · have:=this.2;omega
theorem blM_same {ts:List Tr} (hf:∀ t∈ts,fault t=0) (n:Nat) (h:n+1 < ts.length) (he:ts[n]=ts[n+1]):blM ts (n+1)=blM ts n:=by
  simp only [blM]
  rw [stepD_get ts n h,← he]
  have hfa:=hf _ (List.getElem_mem (by omega:n < ts.length))
  obtain ⟨_,hl⟩:=diff_ok hfa hfa
  rw [cost_self] at hl
  have:(stepP ts[n] ts[n]).1=[]:=List.eq_nil_of_length_eq_zero hl
  rw [this];rfl
end Go.Proofs.YtdbnfhpgmcjngadGreatDoor
