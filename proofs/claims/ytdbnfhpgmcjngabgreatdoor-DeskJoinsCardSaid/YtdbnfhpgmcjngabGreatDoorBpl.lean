/- Plain trees with labels, and what the tree functions compute of them. No program here. -/
namespace Go.Proofs.YtdbnfhpgmcjngabGreatDoor
inductive Tr where
  | node (label:ByteArray) (kids:List Tr)
def Tr.kids:Tr→List Tr | .node _ ks=>ks
def Tr.label:Tr→ByteArray | .node l _=>l
mutual
def Tr.sz:Tr→Nat | .node _ ks=>Tr.szL ks+1
def Tr.szL:List Tr→Nat | []=>0 | k :: ks=>k.sz+Tr.szL ks
end
theorem Tr.sz_pos (t:Tr):1≤t.sz:=by cases t;simp [Tr.sz]
@[simp] theorem Tr.szL_nil:Tr.szL []=0:=rfl
@[simp] theorem Tr.szL_cons (k:Tr) (ks:List Tr):Tr.szL (k :: ks)=k.sz+Tr.szL ks:=rfl
@[simp] theorem Tr.sz_node (l:ByteArray) (ks:List Tr):(Tr.node l ks).sz=Tr.szL ks+1:=rfl
@[simp] theorem Tr.szL_append:∀ (xs ys:List Tr),Tr.szL (xs ++ ys)=Tr.szL xs+Tr.szL ys
  | [],ys=>by simp
  | x :: xs,ys=>by simp [Tr.szL_append xs ys];omega
@[simp] theorem Tr.szL_reverse:∀ (xs:List Tr),Tr.szL xs.reverse=Tr.szL xs
  | []=>rfl
  | x :: xs=>by simp [Tr.szL_reverse xs];omega
theorem Tr.szL_get:∀ (ks:List Tr) (i:Nat) (h:i < ks.length),ks[i].sz≤Tr.szL ks
  | k :: ks,0,_=>by simp
  | k :: ks,i+1,h=>by have:=Tr.szL_get ks i (by simpa using h);simp;omega
theorem Tr.length_le:∀ (ks:List Tr),ks.length≤Tr.szL ks
  | []=>Nat.le_refl _
  | k :: ks=>by have:=Tr.length_le ks;have:=k.sz_pos;simp;omega
theorem Tr.szL_take_succ (ks:List Tr) (i:Nat) (h:i < ks.length):Tr.szL (ks.take (i+1))=Tr.szL (ks.take i)+ks[i].sz:=by
  rw [List.take_succ_eq_append_getElem h,Tr.szL_append];simp only [Tr.szL_cons,Tr.szL_nil,Nat.add_zero]
theorem Tr.szL_take_le (ks:List Tr) (i:Nat):Tr.szL (ks.take i)≤Tr.szL ks:=by
  have:Tr.szL ks=Tr.szL (ks.take i)+Tr.szL (ks.drop i):=by rw [← Tr.szL_append,List.take_append_drop]
  omega
theorem Tr.ind {P:Tr→Prop} (h:∀ l ks,(∀ k∈ks,P k)→P (.node l ks)):∀ t,P t:=by
  suffices hh:∀ n t,t.sz≤n→P t from fun t=>hh t.sz t (Nat.le_refl _)
  intro n
  induction n with
  | zero=>intro t ht;have:=t.sz_pos;omega
  | succ n ih =>
    intro t ht
    cases t with
    | node l ks =>
      refine h l ks fun k hk=>ih k ?_
      obtain ⟨i,hi,rfl⟩:=List.getElem_of_mem hk
      have:=Tr.szL_get ks i hi
      simp at ht;omega
mutual
def Tr.beq:Tr→Tr→Bool | .node l ks,.node m js=>decide (l=m) && Tr.beqL ks js
def Tr.beqL:List Tr→List Tr→Bool
  | [],[]=>true
  | k :: ks,j :: js=>k.beq j && Tr.beqL ks js
  | _,_=>false
end
mutual
theorem Tr.beq_iff:∀ (a b:Tr),a.beq b=true↔a=b
  | .node l ks,.node m js=>by simp [Tr.beq,Tr.beqL_iff ks js]
theorem Tr.beqL_iff:∀ (a b:List Tr),Tr.beqL a b=true↔a=b
  | [],[]=>by simp [Tr.beqL]
  | k :: ks,j :: js=>by simp [Tr.beqL,Tr.beq_iff k j,Tr.beqL_iff ks js]
  | [],j :: js=>by simp [Tr.beqL]
  | k :: ks,[]=>by simp [Tr.beqL]
end
instance:DecidableEq Tr:=fun a b=>decidable_of_iff _ (Tr.beq_iff a b)
def isLab (s:ByteArray):Bool:=s.data.toList.all (fun c=>97≤c && c≤122) && (0 < s.size && s.size≤6)
def okC (c:UInt8):Bool:=97≤c && c≤122
theorem okC_iff (c:UInt8):okC c=true↔97≤(c.toNat:Int)∧(c.toNat:Int)≤122:=by
  unfold okC;simp [UInt8.le_iff_toNat_le];omega
theorem isLab_eq (s:ByteArray):isLab s=(s.data.toList.all okC && (0 < s.size && s.size≤6)):=rfl
theorem getElem_toList (s:ByteArray) (k:Nat) (h:k < s.size):s.data.toList[k]'(by simpa using h)=s[k]:=rfl
theorem isLab_bad (s:ByteArray) (k:Nat) (h:k < s.size) (hb:okC s[k]=false):isLab s=false:=by
  have:s.data.toList.all okC=false:=by
    rw [List.all_eq_false]
    refine ⟨s[k],?_,by simp [hb]⟩
    rw [← getElem_toList s k h];exact List.getElem_mem _
  simp [isLab_eq,this]
theorem okC_snoc (s:ByteArray) (k:Nat) (h:k < s.size) (hk:(s.data.toList.take k).all okC=true) (hb:okC s[k]=true):(s.data.toList.take (k+1)).all okC=true:=by
  have hl:k < s.data.toList.length:=by simpa using h
  rw [List.take_succ_eq_append_getElem hl,List.all_append,hk]
  simp [getElem_toList s k h,hb]
theorem okC_end (s:ByteArray) (hk:(s.data.toList.take s.size).all okC=true):isLab s=(decide (0 < s.size) && decide (s.size≤6)):=by
  rw [List.take_of_length_le (by simp)] at hk
  rw [isLab_eq,hk];rfl
mutual
def Tr.deepZ:Tr→Int→Bool | .node _ ks,n=>decide (0≤n) && Tr.deepZL ks (n - 1)
def Tr.deepZL:List Tr→Int→Bool | [],_=>true | k :: ks,n=>k.deepZ n && Tr.deepZL ks n
end
mutual
def Tr.named:Tr→Bool | .node l ks=>isLab l && Tr.namedL ks
def Tr.namedL:List Tr→Bool | []=>true | k :: ks=>k.named && Tr.namedL ks
end
def fault (t:Tr):Nat:=if 40 < t.sz then 2 else if t.deepZ 10=false then 3 else if t.named=false then 1 else 0
theorem Tr.deepZL_iff:∀ (ks:List Tr) (n:Int),Tr.deepZL ks n=true↔∀ k∈ks,k.deepZ n=true
  | [],n=>by simp [Tr.deepZL]
  | k :: ks,n=>by simp [Tr.deepZL,Tr.deepZL_iff ks n]
theorem Tr.namedL_iff:∀ (ks:List Tr),Tr.namedL ks=true↔∀ k∈ks,k.named=true
  | []=>by simp [Tr.namedL]
  | k :: ks=>by simp [Tr.namedL,Tr.namedL_iff ks]
theorem Tr.named_node (l:ByteArray) (ks:List Tr):(Tr.node l ks).named=true↔isLab l=true∧∀ k∈ks,k.named=true:=by
  simp [Tr.named,Tr.namedL_iff]
def Tr.kid? : Tr→Int→Option Tr
  | .node _ ks,k=>if k < 0 then none else ks[k.toNat]?
def Tr.at? : Tr→List Int→Option Tr
  | t,[]=>some t
  | t,k :: p=>(t.kid? k).bind (·.at? p)
def Tr.zero:Tr:=.node ⟨#[]⟩ []
theorem Tr.at?_append (t:Tr) (p q:List Int):t.at? (p ++ q)=(t.at? p).bind (·.at? q):=by
  induction p generalizing t with
  | nil=>rfl
  | cons k p ih =>
    simp only [List.cons_append,Tr.at?]
    cases t.kid? k with
    | none=>rfl
    | some u=>exact ih u
theorem Tr.at?_take (t:Tr) (p:List Int) (i:Nat) (h:i < p.length) {u:Tr} (hu:t.at? (p.take i)=some u):t.at? (p.take (i+1))=u.kid? p[i]:=by
  rw [List.take_succ_eq_append_getElem h,Tr.at?_append,hu]
  show (u.kid? p[i]).bind _=_
  cases u.kid? p[i] <;> rfl
theorem Tr.at?_stop (t:Tr) (p:List Int) (i:Nat) (hu:t.at? (p.take i)=none):t.at? p=none:=by
  have:=Tr.at?_append t (p.take i) (p.drop i)
  rw [List.take_append_drop,hu] at this;exact this
theorem Tr.kid?_neg (t:Tr) {k:Int} (h:k < 0):t.kid? k=none:=by cases t;simp [Tr.kid?,h]
theorem Tr.kid?_ge (l:ByteArray) (ks:List Tr) {k:Int} (h:(ks.length:Int)≤k):(Tr.node l ks).kid? k=none:=by
  simp only [Tr.kid?];rw [if_neg (by omega)];exact List.getElem?_eq_none (by omega)
theorem Tr.kid?_in (l:ByteArray) (ks:List Tr) {n:Nat} (h:n < ks.length):(Tr.node l ks).kid? (n:Int)=some ks[n]:=by
  simp only [Tr.kid?];rw [if_neg (by omega)];simp [h]
theorem Tr.kid?_sz {t u:Tr} {k:Int} (h:t.kid? k=some u):u.sz < t.sz:=by
  cases t with
  | node l ks =>
    simp only [Tr.kid?] at h
    split at h
    · cases h
    · obtain ⟨hi,rfl⟩:=List.getElem?_eq_some_iff.1 h
      have:=Tr.szL_get ks k.toNat hi;simp;omega
theorem Tr.at?_sz {t u:Tr} {p:List Int} (h:t.at? p=some u):u.sz≤t.sz:=by
  induction p generalizing t with
  | nil=>cases h;exact Nat.le_refl _
  | cons k p ih =>
    simp only [Tr.at?] at h
    cases hk:t.kid? k with
    | none=>rw [hk] at h;cases h
    | some v=>rw [hk] at h;have:=ih h;have:=Tr.kid?_sz hk;omega
end Go.Proofs.YtdbnfhpgmcjngabGreatDoor
/- More on plain trees: parts of a tree are trees. No program here. -/
namespace Go.Proofs.YtdbnfhpgmcjngabGreatDoor
theorem Tr.deepZ_mono:∀ (t:Tr) (n m:Int),n≤m→t.deepZ n=true→t.deepZ m=true:=by
  intro t
  induction t using Tr.ind with
  | h l ks ih =>
    intro n m h hd
    simp only [Tr.deepZ,Bool.and_eq_true,decide_eq_true_eq,Tr.deepZL_iff] at hd ⊢
    exact ⟨by omega,fun k hk=>ih k hk (n - 1) (m - 1) (by omega) (hd.2 k hk)⟩
theorem fault_zero {t:Tr}:fault t=0↔t.sz≤40∧t.deepZ 10=true∧t.named=true:=by
  unfold fault
  by_cases h1:40 < t.sz
  · rw [if_pos h1];constructor
    · intro h;cases h
    · intro h;omega
  · rw [if_neg h1]
    cases t.deepZ 10 <;> cases t.named <;> simp <;> omega
theorem Tr.kid?_mem {l:ByteArray} {ks:List Tr} {k:Int} {u:Tr} (h:(Tr.node l ks).kid? k=some u):u∈ks:=by
  simp only [Tr.kid?] at h
  split at h
  · cases h
  · exact List.mem_of_getElem? h
theorem fault_kid {t u:Tr} {k:Int} (h:t.kid? k=some u) (hf:fault t=0):fault u=0:=by
  rw [fault_zero] at hf ⊢
  obtain ⟨h1,h2,h3⟩:=hf
  have hs:=Tr.kid?_sz h
  cases t with
  | node l ks =>
    have hm:=Tr.kid?_mem h
    simp only [Tr.deepZ,Bool.and_eq_true,decide_eq_true_eq,Tr.deepZL_iff] at h2
    rw [Tr.named_node] at h3
    exact ⟨by omega,Tr.deepZ_mono u _ _ (by omega) (h2.2 u hm),h3.2 u hm⟩
theorem fault_at {t u:Tr} {p:List Int} (h:t.at? p=some u) (hf:fault t=0):fault u=0:=by
  induction p generalizing t with
  | nil=>cases h;exact hf
  | cons k p ih =>
    simp only [Tr.at?] at h
    cases hk:t.kid? k with
    | none=>rw [hk] at h;cases h
    | some v=>rw [hk] at h;exact ih h (fault_kid hk hf)
end Go.Proofs.YtdbnfhpgmcjngabGreatDoor
/- Plain deeds: what they do to a tree, and what undoes them. No program here. -/
namespace Go.Proofs.YtdbnfhpgmcjngabGreatDoor
theorem Tr.kids_node (l:ByteArray) (ks:List Tr):(Tr.node l ks).kids=ks:=rfl
theorem Tr.label_node (l:ByteArray) (ks:List Tr):(Tr.node l ks).label=l:=rfl
structure Dee where
  kind:Int
  path:List Int
  pos:Int
  many:Int
  lab:ByteArray
deriving DecidableEq
def Dee.zero:Dee:=⟨0,[],0,0,⟨#[]⟩⟩
def negP (p:List Int):Bool:=p.any fun x=>decide (x < 0)
theorem negP_false {p:List Int}:negP p=false↔∀ x∈p,0≤x:=by simp [negP]
theorem negP_append (p q:List Int):negP (p ++ q)=(negP p || negP q):=by simp [negP]
def dfault (d:Dee):Nat :=
  if d.kind < 1∨3 < d.kind then 10
  else if (d.kind≠3∧(d.pos≠0∨d.many≠0))∨(d.kind=2∧d.lab≠⟨#[]⟩) then 6
  else if (d.pos < 0∨d.many < 0)∨negP d.path=true then 9
  else if d.kind≠2∧isLab d.lab=false then 1
  else if d.kind=2∧d.path=[] then 8 else 0
theorem dfault_zero {d:Dee}:dfault d=0↔(1≤d.kind∧d.kind≤3)∧(d.kind≠3→d.pos=0∧d.many=0)∧(d.kind=2→d.lab=⟨#[]⟩∧d.path≠[])∧0≤d.pos∧0≤d.many∧(∀ x∈d.path,0≤x)∧(d.kind≠2→isLab d.lab=true):=by
  unfold dfault
  rw [← negP_false]
  by_cases h1:d.kind < 1∨3 < d.kind
  · rw [if_pos h1];constructor
    · intro h;cases h
    · intro h;omega
  rw [if_neg h1]
  by_cases h2:(d.kind≠3∧(d.pos≠0∨d.many≠0))∨(d.kind=2∧d.lab≠⟨#[]⟩)
  · rw [if_pos h2];constructor
    · intro h;cases h
    · rintro ⟨_,a,b,_⟩
      rcases h2 with ⟨c,e⟩ | ⟨c,e⟩
      · have:=a c;omega
      · exact absurd (b c).1 e
  rw [if_neg h2]
  by_cases h3:(d.pos < 0∨d.many < 0)∨negP d.path=true
  · rw [if_pos h3];constructor
    · intro h;cases h
    · rintro ⟨_,_,_,a,b,c,_⟩
      rcases h3 with h | h
      · omega
      · rw [c] at h;cases h
  rw [if_neg h3]
  by_cases h4:d.kind≠2∧isLab d.lab=false
  · rw [if_pos h4];constructor
    · intro h;cases h
    · rintro ⟨_,_,_,_,_,_,a⟩
      rw [a h4.1] at h4;cases h4.2
  rw [if_neg h4]
  have k3:0≤d.pos∧0≤d.many∧negP d.path=false:=by
    refine ⟨by omega,by omega,?_⟩
    cases h:negP d.path with
    | false=>rfl
    | true=>exact absurd (.inr h) h3
  have k4:d.kind≠2→isLab d.lab=true:=fun h=>by
    cases hl:isLab d.lab with
    | true=>rfl
    | false=>exact absurd ⟨h,hl⟩ h4
  have k2:d.kind≠3→d.pos=0∧d.many=0:=fun h=>by
    constructor
    · exact Decidable.byContradiction fun e=>h2 (.inl ⟨h,.inl e⟩)
    · exact Decidable.byContradiction fun e=>h2 (.inl ⟨h,.inr e⟩)
  have k5:d.kind=2→d.lab=⟨#[]⟩:=fun h=>Decidable.byContradiction fun e=>h2 (.inr ⟨h,e⟩)
  by_cases h5:d.kind=2∧d.path=[]
  · rw [if_pos h5];constructor
    · intro h;cases h
    · rintro ⟨_,_,a,_⟩;exact absurd h5.2 (a h5.1).2
  · rw [if_neg h5]
    exact ⟨fun _=>⟨by omega,k2,fun h=>⟨k5 h,fun e=>h5 ⟨h,e⟩⟩,k3.1,k3.2.1,k3.2.2,k4⟩,fun _=>rfl⟩
def kidN (ks:List Tr) (k:Int):Tr:=ks.getD k.toNat Tr.zero
theorem kidN_in (ks:List Tr) (n:Nat) (h:n < ks.length):kidN ks (n:Int)=ks[n]:=by simp [kidN,h]
theorem kid?_some {l:ByteArray} {ks:List Tr} {k:Int} {u:Tr} (h:(Tr.node l ks).kid? k=some u):0≤k∧k.toNat < ks.length∧kidN ks k=u∧(ks.length:Int) > k:=by
  simp only [Tr.kid?] at h
  split at h
  · cases h
  · obtain ⟨hi,he⟩:=List.getElem?_eq_some_iff.1 h
    refine ⟨by omega,hi,?_,by omega⟩
    simp [kidN,hi,he]
theorem kid?_none {l:ByteArray} {ks:List Tr} {k:Int} (h0:0≤k) (h:(Tr.node l ks).kid? k=none):(ks.length:Int)≤k:=by
  simp only [Tr.kid?] at h
  rw [if_neg (by omega),List.getElem?_eq_none_iff] at h
  omega
def leafT (d:Dee) (t:Tr) (k:Int):Tr × Nat :=
  if d.kind=1 then (.node d.lab t.kids,0)
  else if d.kind=2 then
    if (t.kids.length:Int)≤k then (t,7) else (.node t.label (t.kids.take k.toNat ++ (kidN t.kids k).kids ++ t.kids.drop (k.toNat+1)),0)
  else if (t.kids.length:Int) < d.pos∨(t.kids.length:Int) - d.pos < d.many then (t,9)
  else (.node t.label (t.kids.take d.pos.toNat ++ [.node d.lab ((t.kids.drop d.pos.toNat).take d.many.toNat)] ++ t.kids.drop (d.pos.toNat+d.many.toNat)),0)
def doneT (d:Dee):List Int→Tr→Tr × Nat
  | [],t=>leafT d t 0
  | k :: p,t=>if d.kind=2∧p=[] then leafT d t k
    else if (t.kids.length:Int)≤k then (t,7)
    else (.node t.label (t.kids.set k.toNat (doneT d p (kidN t.kids k)).1),(doneT d p (kidN t.kids k)).2)
theorem leafT_node (d:Dee) (l:ByteArray) (ks:List Tr) (k:Int):leafT d (.node l ks) k =
  if d.kind=1 then (.node d.lab ks,0)
  else if d.kind=2 then
    if (ks.length:Int)≤k then (.node l ks,7) else (.node l (ks.take k.toNat ++ (kidN ks k).kids ++ ks.drop (k.toNat+1)),0)
  else if (ks.length:Int) < d.pos∨(ks.length:Int) - d.pos < d.many then (.node l ks,9)
  else (.node l (ks.take d.pos.toNat ++ [.node d.lab ((ks.drop d.pos.toNat).take d.many.toNat)] ++ ks.drop (d.pos.toNat+d.many.toNat)),0):=rfl
theorem doneT_node (d:Dee) (k:Int) (p:List Int) (l:ByteArray) (ks:List Tr):doneT d (k :: p) (.node l ks) =
  if d.kind=2∧p=[] then leafT d (.node l ks) k
    else if (ks.length:Int)≤k then (.node l ks,7)
    else (.node l (ks.set k.toNat (doneT d p (kidN ks k)).1),(doneT d p (kidN ks k)).2):=rfl
def Tr.setAt:Tr→List Int→Tr→Tr
  | _,[],x=>x
  | t,k :: p,x=>.node t.label (t.kids.set k.toNat ((kidN t.kids k).setAt p x))
theorem Tr.setAt_node (l:ByteArray) (ks:List Tr) (k:Int) (p:List Int) (x:Tr):(Tr.node l ks).setAt (k :: p) x=.node l (ks.set k.toNat ((kidN ks k).setAt p x)):=rfl
theorem Tr.setAt_append (t:Tr) (p q:List Int) (x u:Tr) (h:t.at? p=some u):t.setAt (p ++ q) x=t.setAt p (u.setAt q x):=by
  induction p generalizing t with
  | nil=>cases h;rfl
  | cons k p ih =>
    cases t with
    | node l ks =>
      simp only [Tr.at?] at h
      cases hk:(Tr.node l ks).kid? k with
      | none=>rw [hk] at h;cases h
      | some v =>
        rw [hk] at h
        obtain ⟨_,_,hv,_⟩:=kid?_some hk
        rw [List.cons_append,Tr.setAt_node,Tr.setAt_node,hv,ih v h]
theorem Tr.at?_setAt (t:Tr) (p:List Int) (x u:Tr) (h:t.at? p=some u):(t.setAt p x).at? p=some x:=by
  induction p generalizing t with
  | nil=>rfl
  | cons k p ih =>
    cases t with
    | node l ks =>
      simp only [Tr.at?] at h
      cases hk:(Tr.node l ks).kid? k with
      | none=>rw [hk] at h;cases h
      | some v =>
        rw [hk] at h
        obtain ⟨h0,hi,hv,_⟩:=kid?_some hk
        rw [Tr.setAt_node,hv]
        simp only [Tr.at?,Tr.kid?]
        rw [if_neg (by omega)]
        simp only [List.getElem?_set_self hi]
        exact ih v h
theorem Tr.setAt_back (t:Tr) (p:List Int) (x u:Tr) (h:t.at? p=some u):(t.setAt p x).setAt p u=t:=by
  induction p generalizing t with
  | nil=>cases h;rfl
  | cons k p ih =>
    cases t with
    | node l ks =>
      simp only [Tr.at?] at h
      cases hk:(Tr.node l ks).kid? k with
      | none=>rw [hk] at h;cases h
      | some v =>
        rw [hk] at h
        obtain ⟨h0,hi,hv,_⟩:=kid?_some hk
        have hg:kidN (ks.set k.toNat (v.setAt p x)) k=v.setAt p x:=by simp [kidN,hi]
        rw [Tr.setAt_node,hv,Tr.setAt_node,hg,ih v h]
        congr 1
        rw [List.set_set]
        have:v=ks[k.toNat]:=by rw [← hv];simp [kidN,hi]
        rw [this];exact List.set_getElem_self hi
theorem doneT_none (d:Dee) (h2:d.kind≠2):∀ (p:List Int) (t:Tr),(∀ x∈p,0≤x)→t.at? p=none→(doneT d p t).2=7
  | [],t,_,h=>by cases h
  | k :: p,.node l ks,hp,h=>by
    simp only [Tr.at?] at h
    rw [doneT_node,if_neg (fun e=>h2 e.1)]
    cases hk:(Tr.node l ks).kid? k with
    | none=>rw [if_pos (kid?_none (hp k (by simp)) hk)]
    | some v =>
      rw [hk] at h
      obtain ⟨_,_,hv,hl⟩:=kid?_some hk
      rw [if_neg (by omega),hv]
      exact doneT_none d h2 p v (fun x hx=>hp x (by simp [hx])) h
theorem doneT_some (d:Dee) (h2:d.kind≠2):∀ (p:List Int) (t x:Tr),t.at? p=some x→doneT d p t=(t.setAt p (leafT d x 0).1,(leafT d x 0).2)
  | [],t,x,h=>by cases h;rfl
  | k :: p,.node l ks,x,h=>by
    simp only [Tr.at?] at h
    rw [doneT_node,Tr.setAt_node,if_neg (fun e=>h2 e.1)]
    cases hk:(Tr.node l ks).kid? k with
    | none=>rw [hk] at h;cases h
    | some v =>
      rw [hk] at h
      obtain ⟨_,_,hv,hl⟩:=kid?_some hk
      rw [if_neg (by omega),hv,doneT_some d h2 p v x h]
theorem doneD_none (d:Dee) (h2:d.kind=2):∀ (p:List Int) (t:Tr),p≠[]→(∀ x∈p,0≤x)→t.at? p=none→(doneT d p t).2=7
  | [],t,hn,_,_=>absurd rfl hn
  | k :: p,.node l ks,_,hp,h=>by
    simp only [Tr.at?] at h
    rw [doneT_node]
    cases hk:(Tr.node l ks).kid? k with
    | none =>
      have hl:=kid?_none (hp k (by simp)) hk
      by_cases hpn:p=[]
      · rw [if_pos ⟨h2,hpn⟩,leafT_node,if_neg (by omega),if_pos h2,if_pos hl]
      · rw [if_neg (fun e=>hpn e.2),if_pos hl]
    | some v =>
      rw [hk] at h
      obtain ⟨_,_,hv,hl⟩:=kid?_some hk
      have hpn:p≠[]:=by rintro rfl;cases h
      rw [if_neg (fun e=>hpn e.2),if_neg (by omega),hv]
      exact doneD_none d h2 p v hpn (fun x hx=>hp x (by simp [hx])) h
theorem doneD_some (d:Dee) (h2:d.kind=2) (k:Int):∀ (p:List Int) (t u x:Tr),t.at? p=some u→u.kid? k=some x →
    doneT d (p ++ [k]) t=(t.setAt p (.node u.label (u.kids.take k.toNat ++ x.kids ++ u.kids.drop (k.toNat+1))),0)
  | [],t,u,x,h,hx=>by
    cases h
    cases t with
    | node l ks =>
      obtain ⟨_,_,hv,hl⟩:=kid?_some hx
      rw [List.nil_append,doneT_node,if_pos ⟨h2,rfl⟩,leafT_node,if_neg (by omega),if_pos h2,if_neg (by omega),hv]
      rfl
  | j :: p,.node l ks,u,x,h,hx=>by
    simp only [Tr.at?] at h
    rw [List.cons_append,doneT_node,Tr.setAt_node,if_neg (fun e=>by simp at e)]
    cases hk:(Tr.node l ks).kid? j with
    | none=>rw [hk] at h;cases h
    | some v =>
      rw [hk] at h
      obtain ⟨_,_,hv,hl⟩:=kid?_some hk
      rw [if_neg (by omega),hv,doneD_some d h2 k p v u x h hx]
def backD (t:Tr) (d:Dee):Dee :=
  if d.kind=2 then ⟨3,d.path.dropLast,d.path.getLast?.getD 0,(((t.at? d.path).getD Tr.zero).kids.length:Int),((t.at? d.path).getD Tr.zero).label⟩
  else if d.kind=3 then ⟨2,d.path ++ [d.pos],0,0,⟨#[]⟩⟩
  else ⟨1,d.path,0,0,((t.at? d.path).getD Tr.zero).label⟩
def doD (t:Tr) (d:Dee):Tr × Dee × Nat :=
  if fault t≠0 then (Tr.zero,Dee.zero,fault t)
  else if dfault d≠0 then (Tr.zero,Dee.zero,dfault d)
  else if (doneT d d.path t).2≠0 then (Tr.zero,Dee.zero,(doneT d d.path t).2)
  else if fault (doneT d d.path t).1≠0 then (Tr.zero,Dee.zero,fault (doneT d d.path t).1)
  else ((doneT d d.path t).1,backD t d,0)
theorem doD_ok {t:Tr} {d:Dee}:(doD t d).2.2=0↔fault t=0∧dfault d=0∧(doneT d d.path t).2=0∧fault (doneT d d.path t).1=0:=by
  unfold doD
  by_cases h1:fault t=0
  · rw [if_neg (by simpa using h1)]
    by_cases h2:dfault d=0
    · rw [if_neg (by simpa using h2)]
      by_cases h3:(doneT d d.path t).2=0
      · rw [if_neg (by simpa using h3)]
        by_cases h4:fault (doneT d d.path t).1=0
        · rw [if_neg (by simpa using h4)];simp [h1,h2,h3,h4]
        · rw [if_pos h4];simp [h4]
      · rw [if_pos h3];simp [h3]
    · rw [if_pos h2];simp [h2]
  · rw [if_pos h1];simp [h1]
theorem doD_is {t:Tr} {d:Dee} (h:(doD t d).2.2=0):doD t d=((doneT d d.path t).1,backD t d,0):=by
  obtain ⟨h1,h2,h3,h4⟩:=doD_ok.1 h
  unfold doD
  rw [if_neg (by simpa using h1),if_neg (by simpa using h2),if_neg (by simpa using h3),if_neg (by simpa using h4)]
theorem done_cases {t:Tr} {d:Dee} (hd:dfault d=0) (h:(doneT d d.path t).2=0) :
    (d.kind=1∧∃ x,t.at? d.path=some x∧(doneT d d.path t).1=t.setAt d.path (.node d.lab x.kids)) ∨
    (d.kind=3∧∃ x,t.at? d.path=some x∧d.pos≤x.kids.length∧d.many≤x.kids.length - d.pos∧(doneT d d.path t).1=t.setAt d.path
      (.node x.label (x.kids.take d.pos.toNat ++ [.node d.lab ((x.kids.drop d.pos.toNat).take d.many.toNat)] ++ x.kids.drop (d.pos.toNat+d.many.toNat)))) ∨
    (d.kind=2∧∃ up k u x,d.path=up ++ [k]∧t.at? up=some u∧u.kid? k=some x∧(doneT d d.path t).1=t.setAt up (.node u.label (u.kids.take k.toNat ++ x.kids ++ u.kids.drop (k.toNat+1)))):=by
  obtain ⟨⟨k1,k3⟩,_,e2,_,_,hp,_⟩:=dfault_zero.1 hd
  by_cases h2:d.kind=2
  · refine .inr (.inr ⟨h2,?_⟩)
    have hne:=(e2 h2).2
    obtain ⟨up,k,hpe⟩:∃ up k,d.path=up ++ [k]:=⟨d.path.dropLast,d.path.getLast hne,(List.dropLast_concat_getLast hne).symm⟩
    cases hat:t.at? d.path with
    | none=>rw [doneD_none d h2 d.path t hne hp hat] at h;cases h
    | some x =>
      rw [hpe,Tr.at?_append] at hat
      cases hu:t.at? up with
      | none=>rw [hu] at hat;cases hat
      | some u =>
        rw [hu] at hat
        have hk:u.kid? k=some x:=by
          simp only [Option.bind_some,Tr.at?] at hat
          cases hk:u.kid? k with
          | none=>rw [hk] at hat;cases hat
          | some v=>rw [hk] at hat;cases hat;rfl
        exact ⟨up,k,u,x,hpe,hu,hk,by rw [hpe,doneD_some d h2 k up t u x hu hk]⟩
  · cases hat:t.at? d.path with
    | none=>rw [doneT_none d h2 d.path t hp hat] at h;cases h
    | some x =>
      rw [doneT_some d h2 d.path t x hat] at h ⊢
      by_cases h1:d.kind=1
      · refine .inl ⟨h1,x,rfl,?_⟩
        unfold leafT;rw [if_pos h1]
      · refine .inr (.inl ⟨by omega,x,rfl,?_⟩)
        unfold leafT at h ⊢
        rw [if_neg h1,if_neg h2] at h ⊢
        by_cases hr:(x.kids.length:Int) < d.pos∨(x.kids.length:Int) - d.pos < d.many
        · rw [if_pos hr] at h;cases h
        · rw [if_neg hr];exact ⟨by omega,by omega,rfl⟩
theorem Tr.label_named {t x:Tr} {p:List Int} (h:t.at? p=some x) (hf:fault t=0):isLab x.label=true:=by
  have h3:=(fault_zero.1 (fault_at h hf)).2.2
  cases x with
  | node l ks=>exact (Tr.named_node l ks).1 h3 |>.1
theorem Tr.eta (t:Tr):Tr.node t.label t.kids=t:=by cases t;rfl
theorem undone {t:Tr} {d:Dee} (h:(doD t d).2.2=0):doD (doD t d).1 (backD t d)=(t,d,0)∧dfault (backD t d)=0:=by
  obtain ⟨ht,hd,h0,hf⟩:=doD_ok.1 h
  rw [doD_is h]
  have hk:=dfault_zero.1 hd
  obtain ⟨⟨k1,k3⟩,e1,e2,p0,m0,hp,hl⟩:=hk
  have main:dfault (backD t d)=0∧doneT (backD t d) (backD t d).path (doneT d d.path t).1=(t,0)∧backD (doneT d d.path t).1 (backD t d)=d:=by
    rcases done_cases hd h0 with ⟨hk,x,hx,hr⟩ | ⟨hk,x,hx,hx1,hx2,hr⟩ | ⟨hk,up,k,u,x,hpe,hu,hx,hr⟩
    · have hb:backD t d=⟨1,d.path,0,0,x.label⟩:=by unfold backD;rw [if_neg (by omega),if_neg (by omega),hx];rfl
      rw [hb,hr]
      refine ⟨dfault_zero.2 ⟨by simp,by simp,by simp,by simp,by simp,hp,fun _=>Tr.label_named hx ht⟩,?_,?_⟩
      · rw [doneT_some _ (by simp) _ _ _ (Tr.at?_setAt t d.path _ x hx)]
        rw [show leafT ⟨1,d.path,0,0,x.label⟩ (.node d.lab x.kids) 0=(.node x.label x.kids,0) from rfl,Tr.eta,Tr.setAt_back t d.path _ x hx]
      · unfold backD
        simp only [Tr.at?_setAt t d.path _ x hx]
        have:=e1 (by omega)
        cases d;simp_all [Tr.label_node]
    · have hb:backD t d=⟨2,d.path ++ [d.pos],0,0,⟨#[]⟩⟩:=by unfold backD;rw [if_neg (by omega),if_pos hk]
      obtain ⟨n,hn⟩:=Int.eq_ofNat_of_zero_le p0
      obtain ⟨m,hm⟩:=Int.eq_ofNat_of_zero_le m0
      rw [hn] at hx1;rw [hn,hm] at hx2
      have hn1:n≤x.kids.length:=by omega
      have hm1:m≤x.kids.length - n:=by omega
      rw [hn,hm] at hr
      simp only [Int.toNat_natCast] at hr
      have hlt:(x.kids.take n).length=n:=by simp;omega
      have hat:=Tr.at?_setAt t d.path (.node x.label (x.kids.take n ++ [.node d.lab ((x.kids.drop n).take m)] ++ x.kids.drop (n+m))) x hx
      have hkid:(Tr.node x.label (x.kids.take n ++ [.node d.lab ((x.kids.drop n).take m)] ++ x.kids.drop (n+m))).kid? (n:Int)=some (.node d.lab ((x.kids.drop n).take m)):=by
        simp only [Tr.kid?];rw [if_neg (by omega)]
        simp [hlt]
      rw [hb,hr,hn]
      refine ⟨dfault_zero.2 ⟨by simp,by simp,by simp,by simp,by simp,?_,by simp⟩,?_,?_⟩
      · intro y hy;simp at hy;rcases hy with hy | rfl
        · exact hp y hy
        · omega
      · rw [doneD_some _ rfl (n:Int) d.path _ _ _ hat hkid]
        simp only [Tr.kids_node,Tr.label_node,Int.toNat_natCast]
        have e:List.take n (x.kids.take n ++ [Tr.node d.lab ((x.kids.drop n).take m)] ++ x.kids.drop (n+m)) ++ (x.kids.drop n).take m ++ List.drop (n+1) (x.kids.take n ++ [Tr.node d.lab ((x.kids.drop n).take m)] ++ x.kids.drop (n+m))=x.kids:=by
          rw [List.append_assoc (x.kids.take n),List.take_left' hlt]
          rw [show x.kids.take n ++ ([Tr.node d.lab ((x.kids.drop n).take m)] ++ x.kids.drop (n+m))=(x.kids.take n ++ [Tr.node d.lab ((x.kids.drop n).take m)]) ++ x.kids.drop (n+m) by simp]
          rw [List.drop_left' (by simp;omega),List.append_assoc]
          rw [show x.kids.drop (n+m)=(x.kids.drop n).drop m by rw [List.drop_drop],List.take_append_drop,List.take_append_drop]
        rw [e,Tr.eta,Tr.setAt_back t d.path _ x hx]
      · unfold backD
        rw [Tr.at?_append,hat]
        simp only [Option.bind_some,Tr.at?,hkid]
        have hml:((x.kids.drop n).take m).length=m:=by simp;omega
        simp [Tr.kids_node,Tr.label_node,hml]
        cases d;simp_all
    · have hat:t.at? d.path=some x:=by rw [hpe,Tr.at?_append,hu];simp [Tr.at?,hx]
      have hb:backD t d=⟨3,up,k,x.kids.length,x.label⟩:=by unfold backD;rw [if_pos hk,hat,hpe];simp
      cases u with
      | node ul uks =>
      obtain ⟨hk0,hki,hkv,hkl⟩:=kid?_some hx
      obtain ⟨n,rfl⟩:=Int.eq_ofNat_of_zero_le hk0
      simp only [Int.toNat_natCast] at hki hr
      simp only [Tr.kids_node,Tr.label_node] at hr
      have hlt:(uks.take n).length=n:=by simp;omega
      have hat2:=Tr.at?_setAt t up (.node ul (uks.take n ++ x.kids ++ uks.drop (n+1))) _ hu
      have hxv:uks[n]=x:=by rw [← hkv,kidN_in uks n hki]
      rw [hb,hr]
      refine ⟨dfault_zero.2 ⟨by simp,by simp,by simp,by simp,by simp,fun y hy=>hp y (by rw [hpe];simp [hy]),fun _=>Tr.label_named hat ht⟩,?_,?_⟩
      · rw [doneT_some _ (by simp) _ _ _ hat2]
        have hlen:(uks.take n ++ x.kids ++ uks.drop (n+1)).length=n+x.kids.length+(uks.length - (n+1)):=by simp;omega
        have hle:leafT ⟨3,up,(n:Int),(x.kids.length:Int),x.label⟩ (.node ul (uks.take n ++ x.kids ++ uks.drop (n+1))) 0=(.node ul uks,0):=by
          rw [leafT_node,if_neg (by simp),if_neg (by simp),if_neg (by rw [hlen];simp only [];omega)]
          simp only [Int.toNat_natCast]
          congr 2
          rw [List.append_assoc (uks.take n),List.take_left' hlt,List.drop_left' hlt]
          rw [List.take_left' rfl]
          rw [← List.append_assoc (uks.take n),List.drop_left' (by simp;omega)]
          have:[Tr.node x.label x.kids]=[uks[n]]:=by rw [Tr.eta,hxv]
          rw [this,List.append_assoc]
          rw [show [uks[n]] ++ uks.drop (n+1)=uks.drop n from (by rw [List.drop_eq_getElem_cons hki];rfl),List.take_append_drop]
        rw [hle,Tr.setAt_back t up _ _ hu]
      · unfold backD
        simp only [hat2]
        have h1:=(e2 hk).1
        have h2:=e1 (by omega)
        cases d;simp_all
  obtain ⟨m1,m2,m3⟩:=main
  have hok:(doD (doneT d d.path t).1 (backD t d)).2.2=0:=doD_ok.2 ⟨hf,m1,by rw [m2],by rw [m2];exact ht⟩
  exact ⟨by rw [doD_is hok,m2,m3],m1⟩
end Go.Proofs.YtdbnfhpgmcjngabGreatDoor
/- The nodes of a tree, each behind all beneath it. No program here. -/
namespace Go.Proofs.YtdbnfhpgmcjngabGreatDoor
structure Nd where
  lab:ByteArray
  par:Int
  left:Int
deriving DecidableEq
mutual
def ndsT (p:Nat) (par:Int):Tr→List Nd | .node l ks=>ndsF p ((p+Tr.szL ks:Nat):Int) ks ++ [⟨l,par,(p:Int)⟩]
def ndsF (p:Nat) (par:Int):List Tr→List Nd | []=>[] | k :: ks=>ndsT p par k ++ ndsF (p+k.sz) par ks
end
def nds (t:Tr):List Nd:=ndsT 0 (-1) t
mutual
theorem ndsT_length:∀ (t:Tr) (p:Nat) (par:Int),(ndsT p par t).length=t.sz
  | .node l ks,p,par=>by simp [ndsT,ndsF_length ks p]
theorem ndsF_length:∀ (ks:List Tr) (p:Nat) (par:Int),(ndsF p par ks).length=Tr.szL ks
  | [],p,par=>by simp [ndsF]
  | k :: ks,p,par=>by simp [ndsF,ndsT_length k p par,ndsF_length ks (p+k.sz) par]
end
theorem ndsF_append:∀ (xs ys:List Tr) (p:Nat) (par:Int),ndsF p par (xs ++ ys)=ndsF p par xs ++ ndsF (p+Tr.szL xs) par ys
  | [],ys,p,par=>by simp [ndsF]
  | x :: xs,ys,p,par=>by simp [ndsF,ndsF_append xs ys,Nat.add_assoc]
theorem ndsF_one (k:Tr) (p:Nat) (par:Int):ndsF p par [k]=ndsT p par k:=by simp [ndsF]
theorem ndsF_take (ks:List Tr) (i:Nat) (h:i < ks.length) (p:Nat) (par:Int):ndsF p par (ks.take (i+1))=ndsF p par (ks.take i) ++ ndsT (p+Tr.szL (ks.take i)) par ks[i]:=by
  rw [List.take_succ_eq_append_getElem h,ndsF_append,ndsF_one]
theorem nds_length (t:Tr):(nds t).length=t.sz:=ndsT_length t 0 (-1)
def kidIdx (p:Nat):List Tr→List Nat | []=>[] | k :: ks=>(p+k.sz - 1) :: kidIdx (p+k.sz) ks
theorem kidIdx_append:∀ (xs ys:List Tr) (p:Nat),kidIdx p (xs ++ ys)=kidIdx p xs ++ kidIdx (p+Tr.szL xs) ys
  | [],ys,p=>by simp [kidIdx]
  | x :: xs,ys,p=>by simp [kidIdx,kidIdx_append xs ys,Nat.add_assoc]
theorem kidIdx_take (ks:List Tr) (i:Nat) (h:i < ks.length) (p:Nat):kidIdx p (ks.take (i+1))=kidIdx p (ks.take i) ++ [p+Tr.szL (ks.take i)+ks[i].sz - 1]:=by
  rw [List.take_succ_eq_append_getElem h,kidIdx_append];rfl
theorem kidIdx_length:∀ (ks:List Tr) (p:Nat),(kidIdx p ks).length=ks.length
  | [],p=>rfl
  | k :: ks,p=>by simp [kidIdx,kidIdx_length ks]
theorem kidIdx_lt:∀ (ks:List Tr) (p:Nat),∀ i∈kidIdx p ks,p≤i∧i < p+Tr.szL ks
  | [],p,i,h=>by cases h
  | k :: ks,p,i,h=>by
    have:=k.sz_pos
    simp only [kidIdx,List.mem_cons] at h
    rcases h with rfl | h
    · simp;omega
    · have:=kidIdx_lt ks _ i h;simp;omega
def setPar (l:List Nd) (i:Nat) (p:Int):List Nd:=l.modify i fun x=>{ x with par:=p }
theorem setPar_length (l:List Nd) (i:Nat) (p:Int):(setPar l i p).length=l.length:=by simp [setPar]
theorem setPar_at (xs:List Nd) (x:Nd) (ys:List Nd) (p:Int):setPar (xs ++ x :: ys) xs.length p=xs ++ { x with par:=p } :: ys:=by
  unfold setPar
  induction xs with
  | nil=>rfl
  | cons a xs ih=>simpa using ih
theorem setPars_length (is:List Nat) (p:Int):∀ (l:List Nd),(is.foldl (fun l i=>setPar l i p) l).length=l.length:=by
  induction is with
  | nil=>intro l;rfl
  | cons i is ih=>intro l;simp [ih,setPar_length]
theorem setPars (me par:Int):∀ (ks:List Tr) (xs:List Nd),(kidIdx xs.length ks).foldl (fun l i=>setPar l i me) (xs ++ ndsF xs.length par ks)=xs ++ ndsF xs.length me ks
  | [],xs=>by simp [kidIdx,ndsF]
  | .node l js :: ks,xs=>by
    simp only [kidIdx,List.foldl_cons,ndsF,ndsT,Tr.sz_node]
    have e1:xs.length+(Tr.szL js+1) - 1=(xs ++ ndsF xs.length ((xs.length+Tr.szL js:Nat):Int) js).length:=by rw [List.length_append,ndsF_length];omega
    have e2:xs ++ (ndsF xs.length ((xs.length+Tr.szL js:Nat):Int) js ++ [Nd.mk l par (xs.length:Int)] ++ ndsF (xs.length+(Tr.szL js+1)) par ks)
        = (xs ++ ndsF xs.length ((xs.length+Tr.szL js:Nat):Int) js) ++ Nd.mk l par (xs.length:Int) :: ndsF (xs.length+(Tr.szL js+1)) par ks:=by simp
    rw [e1,e2,setPar_at]
    have ih:=setPars me par ks (xs ++ ndsF xs.length ((xs.length+Tr.szL js:Nat):Int) js ++ [Nd.mk l me (xs.length:Int)])
    have e3:(xs ++ ndsF xs.length ((xs.length+Tr.szL js:Nat):Int) js ++ [Nd.mk l me (xs.length:Int)]).length=xs.length+(Tr.szL js+1):=by simp only [List.length_append,ndsF_length,List.length_singleton];omega
    rw [e3] at ih
    simp only [List.append_assoc,List.cons_append,List.nil_append] at ih ⊢
    exact ih
end Go.Proofs.YtdbnfhpgmcjngabGreatDoor
/- Paths of nodes. No program here. -/
namespace Go.Proofs.YtdbnfhpgmcjngabGreatDoor
def cntPar (l:List Nd) (n:Nat) (up:Int):Nat:=(l.take n).countP (fun x=>decide (x.par=up))
theorem cntPar_succ (l:List Nd) (n:Nat) (h:n < l.length) (up:Int):cntPar l (n+1) up=cntPar l n up+if l[n].par=up then 1 else 0:=by
  unfold cntPar
  rw [List.take_succ_eq_append_getElem h,List.countP_append]
  simp [List.countP_cons]
def pathN (l:List Nd) (n:Nat):List Int :=
  if h:n < l.length then
    if (n:Int) < l[n].par then pathN l l[n].par.toNat ++ [(cntPar l n l[n].par:Int)] else []
  else []
termination_by l.length - n
decreasing_by omega
theorem pathN_out {l:List Nd} {n:Nat} (h:¬ n < l.length):pathN l n=[]:=by rw [pathN,dif_neg h]
theorem pathN_root {l:List Nd} {n:Nat} (h:n < l.length) (hp:¬ (n:Int) < l[n].par):pathN l n=[]:=by rw [pathN,dif_pos h,if_neg hp]
theorem pathN_up {l:List Nd} {n:Nat} (h:n < l.length) (hp:(n:Int) < l[n].par):pathN l n=pathN l l[n].par.toNat ++ [(cntPar l n l[n].par:Int)]:=by rw [pathN,dif_pos h,if_pos hp]
theorem pathN_length (l:List Nd):∀ (k n:Nat),l.length - n≤k→(pathN l n).length≤k:=by
  intro k
  induction k with
  | zero=>intro n h;rw [pathN_out (by omega)];simp
  | succ k ih =>
    intro n h
    by_cases h1:n < l.length
    · by_cases h2:(n:Int) < l[n].par
      · rw [pathN_up h1 h2,List.length_append]
        have:=ih l[n].par.toNat (by omega)
        simp;omega
      · rw [pathN_root h1 h2];simp
    · rw [pathN_out h1];simp
def pathZ (l:List Nd) (n:Int):List Int:=if n < 0 then [] else pathN l n.toNat
theorem pathZ_neg {l:List Nd} {n:Int} (h:n < 0):pathZ l n=[]:=if_pos h
theorem pathZ_nat (l:List Nd) (n:Nat):pathZ l n=pathN l n:=by unfold pathZ;rw [if_neg (by omega),Int.toNat_natCast]
theorem pathZ_pos {l:List Nd} {n:Int} (h:¬ n < 0):pathZ l n=pathN l n.toNat:=if_neg h
mutual
def pathT:Tr→Nat→List Int | .node _ ks,n=>pathF ks 0 n
def pathF:List Tr→Nat→Nat→List Int
  | [],_,_=>[]
  | k :: ks,i,n=>if n < k.sz then (i:Int) :: pathT k n else pathF ks (i+1) (n - k.sz)
end
theorem pathF_drop:∀ (ks:List Tr) (j i n:Nat),j≤ks.length→Tr.szL (ks.take j)≤n→pathF ks i n=pathF (ks.drop j) (i+j) (n - Tr.szL (ks.take j))
  | ks,0,i,n,_,_=>by simp
  | [],j+1,i,n,h,_=>by simp at h
  | k :: ks,j+1,i,n,h,hn=>by
    simp only [List.take_succ_cons,Tr.szL_cons] at hn
    rw [pathF,if_neg (by omega),pathF_drop ks j (i+1) (n - k.sz) (by simpa using h) (by omega)]
    simp only [List.take_succ_cons,Tr.szL_cons,List.drop_succ_cons]
    congr 1 <;> omega
theorem pathF_hit (ks:List Tr) (j n:Nat) (h:j < ks.length) (h1:Tr.szL (ks.take j)≤n) (h2:n < Tr.szL (ks.take j)+ks[j].sz):pathF ks 0 n=(j:Int) :: pathT ks[j] (n - Tr.szL (ks.take j)):=by
  rw [pathF_drop ks j 0 n (by omega) h1,List.drop_eq_getElem_cons h,pathF,if_pos (by omega),Nat.zero_add]
theorem pathF_out (ks:List Tr) (i n:Nat) (h:Tr.szL ks≤n):pathF ks i n=[]:=by
  have:=pathF_drop ks ks.length i n (Nat.le_refl _) (by rw [List.take_length];exact h)
  rw [this,List.drop_length,pathF]
mutual
theorem pathT_length:∀ (t:Tr) (n:Nat),(pathT t n).length≤t.sz
  | .node _ ks,n=>by have:=pathF_length ks 0 n;simp only [pathT,Tr.sz_node];omega
theorem pathF_length:∀ (ks:List Tr) (i n:Nat),(pathF ks i n).length≤Tr.szL ks+1
  | [],i,n=>by simp [pathF]
  | k :: ks,i,n=>by
    have h1:=pathT_length k n
    have h2:=pathF_length ks (i+1) (n - k.sz)
    have:=k.sz_pos
    simp only [pathF,Tr.szL_cons];split
    · simp;omega
    · omega
end
end Go.Proofs.YtdbnfhpgmcjngabGreatDoor
/- Plain: deeds done one behind the other. No program here. -/
namespace Go.Proofs.YtdbnfhpgmcjngabGreatDoor
def runGo:Nat→Tr→List Dee→Except (Nat × Nat) (Tr × List Dee)
  | _,t,[]=>.ok (t,[])
  | i,t,d :: l =>
    if (doD t d).2.2≠0 then .error ((doD t d).2.2,i)
    else match runGo (i+1) (doD t d).1 l with
      | .error e=>.error e
      | .ok r=>.ok (r.1,r.2 ++ [(doD t d).2.1])
theorem runGo_nil (i:Nat) (t:Tr):runGo i t []=.ok (t,[]):=rfl
theorem runGo_no {i:Nat} {t:Tr} {d:Dee} {l:List Dee} (h:(doD t d).2.2≠0):runGo i t (d :: l)=.error ((doD t d).2.2,i):=by rw [runGo,if_pos h]
theorem runGo_err {i:Nat} {t:Tr} {d:Dee} {l:List Dee} {e:Nat × Nat} (h:(doD t d).2.2=0) (h1:runGo (i+1) (doD t d).1 l=.error e):runGo i t (d :: l)=.error e:=by rw [runGo,if_neg (by simpa using h),h1]
theorem runGo_ok {i:Nat} {t:Tr} {d:Dee} {l:List Dee} {r:Tr × List Dee} (h:(doD t d).2.2=0) (h1:runGo (i+1) (doD t d).1 l=.ok r):runGo i t (d :: l)=.ok (r.1,r.2 ++ [(doD t d).2.1]):=by rw [runGo,if_neg (by simpa using h),h1]
theorem runGo_append:∀ (l1 l2:List Dee) (i:Nat) (t:Tr),runGo i t (l1 ++ l2)=match runGo i t l1 with
    | .error e=>.error e
    | .ok y=>match runGo (i+l1.length) y.1 l2 with
      | .error e=>.error e
      | .ok z=>.ok (z.1,z.2 ++ y.2)
  | [],l2,i,t=>by
    simp only [List.nil_append,runGo_nil,List.length_nil,Nat.add_zero,List.append_nil]
    cases runGo i t l2 <;> rfl
  | d :: l1,l2,i,t=>by
    rw [List.cons_append]
    by_cases h:(doD t d).2.2=0
    · have ih:=runGo_append l1 l2 (i+1) (doD t d).1
      rw [show i+1+l1.length=i+(d :: l1).length by simp;omega] at ih
      cases hx:runGo (i+1) (doD t d).1 l1 with
      | error e=>rw [hx] at ih;rw [runGo_err h ih,runGo_err h hx]
      | ok y =>
        rw [hx] at ih
        simp only [] at ih
        rw [runGo_ok h hx]
        simp only []
        cases hz:runGo (i+(d :: l1).length) y.1 l2 with
        | error e=>rw [hz] at ih;rw [runGo_err h ih]
        | ok z=>rw [hz] at ih;rw [runGo_ok h ih];simp
    · rw [runGo_no h,runGo_no h]
theorem runGo_length:∀ {l:List Dee} {i:Nat} {t:Tr} {r:Tr × List Dee},runGo i t l=.ok r→r.2.length=l.length
  | [],i,t,r,h=>by cases h;rfl
  | d :: l,i,t,r,h=>by
    by_cases h0:(doD t d).2.2=0
    · cases hx:runGo (i+1) (doD t d).1 l with
      | error e=>rw [runGo_err h0 hx] at h;cases h
      | ok y=>rw [runGo_ok h0 hx] at h;cases h;have:=runGo_length hx;simp [this]
    · rw [runGo_no h0] at h;cases h
theorem doD_fault {t:Tr} {d:Dee} (h:(doD t d).2.2=0):fault (doD t d).1=0:=by
  rw [doD_is h];exact (doD_ok.1 h).2.2.2
theorem runGo_fault:∀ {l:List Dee} {i:Nat} {t:Tr} {r:Tr × List Dee},runGo i t l=.ok r→fault t=0→fault r.1=0
  | [],i,t,r,h,hf=>by cases h;exact hf
  | d :: l,i,t,r,h,hf=>by
    by_cases h0:(doD t d).2.2=0
    · cases hx:runGo (i+1) (doD t d).1 l with
      | error e=>rw [runGo_err h0 hx] at h;cases h
      | ok y=>rw [runGo_ok h0 hx] at h;cases h;have:=runGo_fault hx (doD_fault h0);exact this
    · rw [runGo_no h0] at h;cases h
theorem runGo_code:∀ {l:List Dee} {i:Nat} {t:Tr} {e:Nat × Nat},runGo i t l=.error e→e.1≠0∧i≤e.2∧e.2 < i+l.length
  | [],i,t,e,h=>by cases h
  | d :: l,i,t,e,h=>by
    by_cases h0:(doD t d).2.2=0
    · cases hx:runGo (i+1) (doD t d).1 l with
      | error e=>rw [runGo_err h0 hx] at h;cases h;have:=runGo_code hx;simp;omega
      | ok y=>rw [runGo_ok h0 hx] at h;cases h
    · rw [runGo_no h0] at h;cases h;simp only [List.length_cons];exact ⟨h0,Nat.le_refl _,by omega⟩
theorem runGo_back:∀ {l:List Dee} {i:Nat} {t:Tr} {r:Tr × List Dee} (j:Nat),runGo i t l=.ok r→runGo j r.1 r.2=.ok (t,l)
  | [],i,t,r,j,h=>by cases h;rfl
  | d :: l,i,t,r,j,h=>by
    by_cases h0:(doD t d).2.2=0
    · cases hx:runGo (i+1) (doD t d).1 l with
      | error e=>rw [runGo_err h0 hx] at h;cases h
      | ok y =>
        rw [runGo_ok h0 hx] at h;cases h
        have ih:=runGo_back j hx
        have hu:=(undone h0).1
        have hb:(doD t d).2.1=backD t d:=by rw [doD_is h0]
        simp only []
        rw [runGo_append,ih]
        simp only []
        rw [hb,runGo_ok (r:=(t,[])) (by rw [hu]) (by rw [hu];rfl),hu];rfl
    · rw [runGo_no h0] at h;cases h
def runT (t:Tr) (l:List Dee):Tr × List Dee × Int × Int :=
  if fault t≠0 then (Tr.zero,[],fault t,-1)
  else if 80 < l.length then (Tr.zero,[],2,-1)
  else match runGo 0 t l with
    | .error e=>(Tr.zero,[],e.1,e.2)
    | .ok r=>(r.1,r.2,0,0)
theorem runT_fault {t:Tr} {l:List Dee} (h:fault t≠0):runT t l=(Tr.zero,[],(fault t:Int),-1):=by unfold runT;rw [if_pos h]
theorem runT_many {t:Tr} {l:List Dee} (h:fault t=0) (h1:80 < l.length):runT t l=(Tr.zero,[],2,-1):=by unfold runT;rw [if_neg (by simpa using h),if_pos h1]
theorem runT_err {t:Tr} {l:List Dee} {e:Nat × Nat} (h:fault t=0) (h1:l.length≤80) (h2:runGo 0 t l=.error e):runT t l=(Tr.zero,[],(e.1:Int),(e.2:Int)):=by unfold runT;rw [if_neg (by simpa using h),if_neg (by omega),h2]
theorem runT_ok {t:Tr} {l:List Dee} {r:Tr × List Dee} (h:fault t=0) (h1:l.length≤80) (h2:runGo 0 t l=.ok r):runT t l=(r.1,r.2,0,0):=by unfold runT;rw [if_neg (by simpa using h),if_neg (by omega),h2]
theorem runT_code {t:Tr} {l:List Dee} (h:(runT t l).2.2.1=0):fault t=0∧l.length≤80∧runGo 0 t l=.ok ((runT t l).1,(runT t l).2.1)∧(runT t l).2.2.2=0:=by
  by_cases h0:fault t=0
  · by_cases h1:l.length≤80
    · cases h2:runGo 0 t l with
      | error e =>
        rw [runT_err h0 h1 h2] at h
        have:=(runGo_code h2).1
        simp only [] at h;omega
      | ok r=>refine ⟨h0,h1,?_,?_⟩ <;> rw [runT_ok h0 h1 h2]
    · rw [runT_many h0 (by omega)] at h;simp at h
  · rw [runT_fault h0] at h;simp only [] at h;omega
theorem runT_back {t:Tr} {l:List Dee} (h:(runT t l).2.2.1=0):runT (runT t l).1 (runT t l).2.1=(t,l,0,0)∧(runT t l).2.1.length=l.length:=by
  obtain ⟨h0,h1,h2,_⟩:=runT_code h
  have hl:=runGo_length h2
  simp only [] at hl
  exact ⟨runT_ok (runGo_fault h2 h0) (by rw [hl];exact h1) (runGo_back 0 h2),hl⟩
end Go.Proofs.YtdbnfhpgmcjngabGreatDoor
/- Plain: trees without some of their nodes; deeds that take these away one by one. No program here. -/
namespace Go.Proofs.YtdbnfhpgmcjngabGreatDoor
mutual
def prT (g:Nat→Bool) (p:Nat):Tr→List Tr | .node l ks=>if g (p+Tr.szL ks) then prF g p ks else [.node l (prF g p ks)]
def prF (g:Nat→Bool) (p:Nat):List Tr→List Tr | []=>[] | k :: ks=>prT g p k ++ prF g (p+k.sz) ks
end
mutual
def whT (g:Nat→Bool) (p:Nat):Tr→Nat→List Int | .node _ ks,n=>whF g p ks 0 n
def whF (g:Nat→Bool) (p:Nat):List Tr→Nat→Nat→List Int
  | [],_,_=>[]
  | k :: ks,c,n=>if n < p+k.sz then (c:Int) :: whT g p k n else whF g (p+k.sz) ks (c+(prT g p k).length) n
end
theorem prT_node (g:Nat→Bool) (p:Nat) (l:ByteArray) (ks:List Tr):prT g p (.node l ks)=if g (p+Tr.szL ks) then prF g p ks else [.node l (prF g p ks)]:=by rw [prT]
theorem whT_node (g:Nat→Bool) (p:Nat) (l:ByteArray) (ks:List Tr) (n:Nat):whT g p (.node l ks) n=whF g p ks 0 n:=by rw [whT]
mutual
theorem prT_congr {g h:Nat→Bool}:∀ (t:Tr) (p:Nat),(∀ i,p≤i→i < p+t.sz→g i=h i)→prT g p t=prT h p t
  | .node l ks,p,e=>by
    rw [Tr.sz_node] at e
    rw [prT_node,prT_node,e _ (by omega) (by omega),prF_congr ks p fun i h1 h2=>e i h1 (by omega)]
theorem prF_congr {g h:Nat→Bool}:∀ (ks:List Tr) (p:Nat),(∀ i,p≤i→i < p+Tr.szL ks→g i=h i)→prF g p ks=prF h p ks
  | [],p,e=>by simp [prF]
  | k :: ks,p,e=>by
    rw [Tr.szL_cons] at e
    rw [prF,prF,prT_congr k p fun i h1 h2=>e i h1 (by omega),prF_congr ks (p+k.sz) fun i h1 h2=>e i (by omega) (by omega)]
end
theorem whF_out (g:Nat→Bool):∀ (ks:List Tr) (p c n:Nat),p+Tr.szL ks≤n→whF g p ks c n=[]
  | [],p,c,n,_=>by simp [whF]
  | k :: ks,p,c,n,h=>by
    rw [Tr.szL_cons] at h
    rw [whF,if_neg (by omega),whF_out g ks _ _ n (by omega)]
theorem whF_in (g:Nat→Bool):∀ (ks:List Tr) (p c n:Nat),n < p+Tr.szL ks→p≤n→whF g p ks c n≠[]
  | [],p,c,n,h,h1=>by simp at h;omega
  | k :: ks,p,c,n,h,h1=>by
    rw [Tr.szL_cons] at h
    rw [whF]
    split
    · simp
    · exact whF_in g ks _ _ n (by omega) (by omega)
mutual
theorem whT_pos (g:Nat→Bool):∀ (t:Tr) (p n:Nat),∀ x∈whT g p t n,0≤x
  | .node l ks,p,n=>by rw [whT_node];exact whF_pos g ks p 0 n
theorem whF_pos (g:Nat→Bool):∀ (ks:List Tr) (p c n:Nat),∀ x∈whF g p ks c n,0≤x
  | [],p,c,n=>by simp [whF]
  | k :: ks,p,c,n=>by
    intro x hx
    rw [whF] at hx
    split at hx
    · rcases List.mem_cons.1 hx with rfl | hx
      · omega
      · exact whT_pos g k p n x hx
    · exact whF_pos g ks _ _ n x hx
end
mutual
theorem whT_length (g:Nat→Bool):∀ (t:Tr) (p n:Nat),(whT g p t n).length≤t.sz
  | .node l ks,p,n=>by rw [whT_node,Tr.sz_node];have:=whF_length g ks p 0 n;omega
theorem whF_length (g:Nat→Bool):∀ (ks:List Tr) (p c n:Nat),(whF g p ks c n).length≤Tr.szL ks+1
  | [],p,c,n=>by simp [whF]
  | k :: ks,p,c,n=>by
    have h1:=whT_length g k p n
    have h2:=whF_length g ks (p+k.sz) (c+(prT g p k).length) n
    rw [whF,Tr.szL_cons]
    split
    · simp;omega
    · omega
end
def also (g:Nat→Bool) (n:Nat):Nat→Bool:=fun i=>g i || decide (i=n)
theorem also_ne {g:Nat→Bool} {n i:Nat} (h:i≠n):g i=also g n i:=by simp [also,h]
theorem kidN_at (pre:List Tr) (k:Tr) (post:List Tr):kidN (pre ++ k :: post) (pre.length:Int)=k:=by
  rw [kidN_in _ _ (by simp)];simp
theorem done_gone {d:Dee} (hd:d.kind=2):∀ (t:Tr) (g:Nat→Bool) (p n:Nat),(∀ i,n≤i→g i=false)→p≤n→n+1 < p+t.sz →
    doneT d (whT g p t n) (.node t.label (prF g p t.kids))=(.node t.label (prF (also g n) p t.kids),0):=by
  refine Tr.ind fun l ks ih g p n hg hp hn=>?_
  rw [Tr.sz_node] at hn
  rw [whT_node,Tr.label_node,Tr.kids_node]
  have key:∀ (js:List Tr) (p:Nat) (pre:List Tr),(∀ j∈js,j∈ks)→p≤n→n < p+Tr.szL js →
      doneT d (whF g p js pre.length n) (.node l (pre ++ prF g p js))=(.node l (pre ++ prF (also g n) p js),0):=by
    intro js
    induction js with
    | nil=>intro p pre _ h1 h2;simp at h2;omega
    | cons k js ihj =>
      intro p pre hm h1 h2
      rw [Tr.szL_cons] at h2
      rw [whF,prF,prF]
      by_cases hk:n < p+k.sz
      · rw [if_pos hk]
        have hrest:prF (also g n) (p+k.sz) js=prF g (p+k.sz) js:=(prF_congr js _ fun i a _=>also_ne (by omega)).symm
        rw [hrest]
        have hik:=ih k (hm k (by simp)) g p n hg h1
        obtain ⟨m,is⟩:=k
        rw [Tr.sz_node] at hk
        rw [Tr.sz_node] at hik
        rw [prT_node,prT_node,hg _ (by omega)]
        simp only [Bool.false_eq_true,if_false,List.singleton_append]
        by_cases hr:n=p+Tr.szL is
        · have e1:whT g p (.node m is) n=[]:=by rw [whT_node];exact whF_out g is p 0 n (by omega)
          have e2:also g n (p+Tr.szL is)=true:=by simp [also,hr]
          have e3:prF (also g n) p is=prF g p is:=(prF_congr is p fun i _ b=>also_ne (by omega)).symm
          rw [e1,e2,e3,doneT_node,if_pos ⟨hd,rfl⟩,leafT_node,if_neg (by omega),if_pos hd,if_neg (by simp;omega)]
          rw [kidN_at,Tr.kids_node]
          simp
        · have e1:also g n (p+Tr.szL is)=false:=by simp [also,hg _ (show n≤p+Tr.szL is by omega)];omega
          have e2:whT g p (.node m is) n≠[]:=by rw [whT_node];exact whF_in g is p 0 n (by omega) h1
          rw [e1]
          simp only [Bool.false_eq_true,if_false,List.singleton_append]
          rw [doneT_node,if_neg (fun e=>e2 e.2),if_neg (by simp;omega),kidN_at]
          have:=hik (by omega)
          rw [Tr.label_node,Tr.kids_node] at this
          rw [this]
          simp
      · rw [if_neg hk]
        have e1:prT (also g n) p k=prT g p k:=(prT_congr k p fun i _ b=>also_ne (by omega)).symm
        have:=ihj (p+k.sz) (pre ++ prT g p k) (fun z hz=>hm z (List.mem_cons_of_mem _ hz)) (by omega) (by omega)
        rw [List.length_append,List.append_assoc,List.append_assoc] at this
        rw [e1];exact this
  have:=key ks p [] (fun _ h=>h) hp (by omega)
  simpa using this
theorem Tr.szL_prF (g:Nat→Bool):∀ (t:Tr) (p:Nat),Tr.szL (prF g p t.kids)≤Tr.szL t.kids:=by
  refine Tr.ind fun l ks ih p=>?_
  rw [Tr.kids_node]
  have key:∀ (js:List Tr) (p:Nat),(∀ j∈js,j∈ks)→Tr.szL (prF g p js)≤Tr.szL js:=by
    intro js
    induction js with
    | nil=>intro p _;simp [prF]
    | cons k js ihj =>
      intro p hm
      have h1:=ih k (hm k (by simp)) p
      have h2:=ihj (p+k.sz) fun z hz=>hm z (List.mem_cons_of_mem _ hz)
      obtain ⟨m,is⟩:=k
      rw [Tr.kids_node] at h1
      rw [prF,Tr.szL_append,Tr.szL_cons,prT_node]
      simp only [Tr.sz_node] at h2 ⊢
      split
      · omega
      · simp only [Tr.szL_cons,Tr.szL_nil,Tr.sz_node];omega
  exact key ks p fun _ h=>h
theorem deep_prF (g:Nat→Bool):∀ (t:Tr) (p:Nat) (n:Int),t.deepZ n=true→∀ k∈prF g p t.kids,k.deepZ (n - 1)=true:=by
  refine Tr.ind fun l ks ih p n hd=>?_
  rw [Tr.kids_node]
  rw [Tr.deepZ] at hd
  simp only [Bool.and_eq_true,decide_eq_true_eq,Tr.deepZL_iff] at hd
  have key:∀ (js:List Tr) (p:Nat),(∀ j∈js,j∈ks)→∀ k∈prF g p js,k.deepZ (n - 1)=true:=by
    intro js
    induction js with
    | nil=>intro p _ k hk;simp [prF] at hk
    | cons j js ihj =>
      intro p hm k hk
      rw [prF,List.mem_append] at hk
      rcases hk with hk | hk
      · have hj:=hd.2 j (hm j (by simp))
        have h1:=ih j (hm j (by simp)) p (n - 1) hj
        obtain ⟨m,is⟩:=j
        rw [Tr.kids_node] at h1
        rw [prT_node] at hk
        split at hk
        · exact Tr.deepZ_mono k _ _ (by omega) (h1 k hk)
        · rw [List.mem_singleton] at hk
          subst hk
          rw [Tr.deepZ] at hj ⊢
          simp only [Bool.and_eq_true,decide_eq_true_eq,Tr.deepZL_iff] at hj ⊢
          exact ⟨hj.1,h1⟩
      · exact ihj _ (fun z hz=>hm z (List.mem_cons_of_mem _ hz)) k hk
  exact key ks p fun _ h=>h
theorem named_prF (g:Nat→Bool):∀ (t:Tr) (p:Nat),t.named=true→∀ k∈prF g p t.kids,k.named=true:=by
  refine Tr.ind fun l ks ih p hn=>?_
  rw [Tr.kids_node]
  rw [Tr.named_node] at hn
  have key:∀ (js:List Tr) (p:Nat),(∀ j∈js,j∈ks)→∀ k∈prF g p js,k.named=true:=by
    intro js
    induction js with
    | nil=>intro p _ k hk;simp [prF] at hk
    | cons j js ihj =>
      intro p hm k hk
      rw [prF,List.mem_append] at hk
      rcases hk with hk | hk
      · have hj:=hn.2 j (hm j (by simp))
        have h1:=ih j (hm j (by simp)) p hj
        obtain ⟨m,is⟩:=j
        rw [Tr.kids_node] at h1
        rw [prT_node] at hk
        split at hk
        · exact h1 k hk
        · rw [List.mem_singleton] at hk
          subst hk
          rw [Tr.named_node] at hj ⊢
          exact ⟨hj.1,h1⟩
      · exact ihj _ (fun z hz=>hm z (List.mem_cons_of_mem _ hz)) k hk
  exact key ks p fun _ h=>h
def prune (g:Nat→Bool) (t:Tr):Tr:=.node t.label (prF g 0 t.kids)
theorem prune_fault (g:Nat→Bool) {t:Tr} (h:fault t=0):fault (prune g t)=0:=by
  obtain ⟨h1,h2,h3⟩:=fault_zero.1 h
  obtain ⟨l,ks⟩:=t
  have e1:=Tr.szL_prF g (.node l ks) 0
  have e2:=deep_prF g (.node l ks) 0 10 h2
  have e3:=named_prF g (.node l ks) 0 h3
  simp only [Tr.kids_node] at e1 e2 e3
  refine fault_zero.2 ⟨?_,?_,?_⟩
  · simp only [prune,Tr.kids_node,Tr.sz_node] at h1 ⊢;omega
  · rw [prune,Tr.kids_node,Tr.deepZ]
    simp only [Bool.and_eq_true,decide_eq_true_eq,Tr.deepZL_iff]
    exact ⟨by omega,e2⟩
  · rw [prune,Tr.kids_node,Tr.label_node,Tr.named_node]
    exact ⟨((Tr.named_node l ks).1 h3).1,e3⟩
theorem prune_none (t:Tr):prune (fun _=>false) t=t:=by
  have:∀ (t:Tr) (p:Nat),prF (fun _=>false) p t.kids=t.kids:=by
    refine Tr.ind fun l ks ih p=>?_
    rw [Tr.kids_node]
    have key:∀ (js:List Tr) (p:Nat),(∀ j∈js,j∈ks)→prF (fun _=>false) p js=js:=by
      intro js
      induction js with
      | nil=>intro p _;simp [prF]
      | cons j js ihj =>
        intro p hm
        have h1:=ih j (hm j (by simp)) p
        rw [prF,ihj _ fun z hz=>hm z (List.mem_cons_of_mem _ hz)]
        obtain ⟨m,is⟩:=j
        rw [Tr.kids_node] at h1
        rw [prT_node,h1];rfl
    exact key ks p fun _ h=>h
  unfold prune;rw [this,Tr.eta]
def inL (l:List Nat):Nat→Bool:=fun i=>decide (i∈l)
theorem inL_snoc (l:List Nat) (n:Nat):inL (l ++ [n])=also (inL l) n:=by
  funext i;simp [inL,also]
theorem inL_nil:inL []=fun _=>false:=by funext i;simp [inL]
def delL (t:Tr):List Nat→List Nat→List Dee
  | _,[]=>[]
  | pre,n :: l=>⟨2,whT (inL pre) 0 t n,0,0,⟨#[]⟩⟩ :: delL t (pre ++ [n]) l
theorem delL_length (t:Tr):∀ (l pre:List Nat),(delL t pre l).length=l.length
  | [],_=>rfl
  | n :: l,pre=>by simp [delL,delL_length t l]
theorem del_ok {t:Tr} (ht:fault t=0):∀ (l pre:List Nat) (i:Nat),(pre ++ l).Pairwise (fun a b=>a < b)→(∀ n∈l,n+1 < t.sz) →
    ∃ back,runGo i (prune (inL pre) t) (delL t pre l)=.ok (prune (inL (pre ++ l)) t,back)
  | [],pre,i,_,_=>⟨[],by rw [List.append_nil];rfl⟩
  | n :: l,pre,i,hp,hn=>by
    have hq:∀ i,n≤i→inL pre i=false:=fun i hi=>by
      simp only [inL,decide_eq_false_iff_not]
      intro hm
      rw [List.pairwise_append] at hp
      have:=hp.2.2 i hm n (by simp)
      omega
    have hd:=done_gone (d:=⟨2,whT (inL pre) 0 t n,0,0,⟨#[]⟩⟩) rfl t (inL pre) 0 n hq (Nat.zero_le _) (by have:=hn n (by simp);omega)
    have hok:(doD (prune (inL pre) t) ⟨2,whT (inL pre) 0 t n,0,0,⟨#[]⟩⟩).2.2=0:=by
      refine doD_ok.2 ⟨prune_fault _ ht,dfault_zero.2 ⟨by simp,by simp,fun _=>⟨rfl,?_⟩,by simp,by simp,whT_pos _ _ _ _,by simp⟩,?_,?_⟩
      · have:=hn n (by simp)
        obtain ⟨m,ks⟩:=t
        simp only [Tr.sz_node] at this
        rw [whT_node];exact whF_in _ ks 0 0 n (by omega) (Nat.zero_le _)
      · unfold prune;rw [hd]
      · unfold prune;rw [hd];exact prune_fault _ ht
    have hx:(doD (prune (inL pre) t) ⟨2,whT (inL pre) 0 t n,0,0,⟨#[]⟩⟩).1=prune (inL (pre ++ [n])) t:=by
      rw [doD_is hok];unfold prune;rw [hd,inL_snoc]
    obtain ⟨back,hb⟩:=del_ok ht l (pre ++ [n]) (i+1) (by rw [List.append_assoc];exact hp) (fun m hm=>hn m (List.mem_cons_of_mem _ hm))
    rw [← hx] at hb
    rw [delL]
    refine ⟨back ++ [(doD (prune (inL pre) t) ⟨2,whT (inL pre) 0 t n,0,0,⟨#[]⟩⟩).2.1],?_⟩
    rw [runGo_ok hok hb]
    simp only [List.append_assoc,List.singleton_append]
end Go.Proofs.YtdbnfhpgmcjngabGreatDoor
/- The two ways to tell a node's path tell the same. No program here. -/
namespace Go.Proofs.YtdbnfhpgmcjngabGreatDoor
mutual
theorem ndsT_par:∀ (t:Tr) (p:Nat) (par:Int),∀ x∈ndsT p par t,x.par=par∨((p:Int)≤x.par∧x.par < (p:Int)+t.sz)
  | .node l ks,p,par,x,hx=>by
    simp only [ndsT,List.mem_append,List.mem_singleton] at hx
    rcases hx with hx | rfl
    · rcases ndsF_par ks p _ x hx with h | h
      · right;simp only [Tr.sz_node];omega
      · right;simp only [Tr.sz_node];omega
    · exact .inl rfl
theorem ndsF_par:∀ (ks:List Tr) (p:Nat) (par:Int),∀ x∈ndsF p par ks,x.par=par∨((p:Int)≤x.par∧x.par < (p:Int)+Tr.szL ks)
  | [],p,par,x,hx=>by cases hx
  | k :: ks,p,par,x,hx=>by
    simp only [ndsF,List.mem_append] at hx
    rcases hx with hx | hx
    · rcases ndsT_par k p par x hx with h | h
      · exact .inl h
      · right;simp only [Tr.szL_cons];omega
    · rcases ndsF_par ks _ par x hx with h | h
      · exact .inl h
      · right;simp only [Tr.szL_cons];omega
end
theorem cnt_zero {l:List Nd} {R:Int} (h:∀ x∈l,x.par≠R):l.countP (fun x=>decide (x.par=R))=0:=by
  rw [List.countP_eq_zero];intro x hx;simpa using h x hx
theorem cnt_ndsT (t:Tr) (p:Nat) (R:Int) (h:(p:Int)+t.sz≤R):(ndsT p R t).countP (fun x=>decide (x.par=R))=1:=by
  cases t with
  | node l ks =>
    simp only [Tr.sz_node] at h
    simp only [ndsT,List.countP_append,List.countP_cons,List.countP_nil]
    rw [cnt_zero (fun x hx=>by rcases ndsF_par ks p _ x hx with h1 | h1 <;> omega)]
    simp
theorem cnt_ndsF:∀ (ks:List Tr) (p:Nat) (R:Int),(p:Int)+Tr.szL ks≤R→(ndsF p R ks).countP (fun x=>decide (x.par=R))=ks.length
  | [],p,R,h=>rfl
  | k :: ks,p,R,h=>by
    simp only [Tr.szL_cons] at h
    simp only [ndsF,List.countP_append,List.length_cons]
    rw [cnt_ndsT k p R (by omega),cnt_ndsF ks _ R (by omega)];omega
theorem get_mid {α:Type} {A C:List α} {x:α} {L:List α} (h:L=A ++ x :: C) {n:Nat} (hn:n=A.length):∃ hl:n < L.length,L[n]=x:=by
  subst h;subst hn
  exact ⟨by simp,by simp⟩
theorem pathN_in (t:Tr):∀ (A C:List Nd) (par:Int) (L:List Nd),L=A ++ ndsT A.length par t ++ C→(∀ x∈A,¬ ((A.length:Int)≤x.par∧x.par < (A.length:Int)+t.sz)) →
    ∀ m,m < t.sz→pathN L (A.length+m)=pathN L (A.length+t.sz - 1) ++ pathT t m:=by
  induction t using Tr.ind with
  | h l ks ih =>
    intro A C par L hL hA m hm
    simp only [Tr.sz_node] at hA hm
    have hsz:A.length+(Tr.node l ks).sz - 1=A.length+Tr.szL ks:=by simp only [Tr.sz_node];omega
    rw [hsz]
    have hpT:pathT (.node l ks) m=pathF ks 0 m:=by rw [pathT]
    rw [hpT]
    by_cases hr:m=Tr.szL ks
    · subst hr;rw [pathF_out ks 0 _ (Nat.le_refl _),List.append_nil]
    have hm':m < Tr.szL ks:=by omega
    clear hm hr
    -- the kid in which it stands
    obtain ⟨j,hj,h1,h2⟩:∃ j,∃ hj:j < ks.length,Tr.szL (ks.take j)≤m∧m < Tr.szL (ks.take j)+ks[j].sz:=by
      clear hL hA hsz hpT ih
      induction ks generalizing m with
      | nil=>simp at hm'
      | cons k ks ihk =>
        by_cases hk:m < k.sz
        · exact ⟨0,by simp,by simp,by simpa using hk⟩
        · obtain ⟨j,hj,h1,h2⟩:=ihk (m - k.sz) (by simp at hm';omega)
          refine ⟨j+1,by simpa using hj,?_,?_⟩
          · simp only [List.take_succ_cons,Tr.szL_cons];omega
          · simp only [List.take_succ_cons,Tr.szL_cons,List.getElem_cons_succ];omega
    rw [pathF_hit ks j m hj h1 h2]
    -- the list,parted at that kid
    have hsplit:ks=ks.take j ++ ks[j] :: ks.drop (j+1):=by rw [← List.drop_eq_getElem_cons hj,List.take_append_drop]
    generalize hkj:ks[j]=k at *
    generalize hB:ks.take j=B at *
    generalize hD:ks.drop (j+1)=D at *
    have hBl:B.length=j:=by rw [← hB,List.length_take];omega
    have hks:Tr.szL ks=Tr.szL B+k.sz+Tr.szL D:=by rw [hsplit];simp;omega
    have hkz:=k.sz_pos
    generalize hR:((A.length+Tr.szL ks:Nat):Int)=R at *
    have hRv:R=(A.length:Int)+Tr.szL B+k.sz+Tr.szL D:=by rw [← hR,hks];omega
    have hAl:(A ++ ndsF A.length R B).length=A.length+Tr.szL B:=by rw [List.length_append,ndsF_length]
    have hL2:L=(A ++ ndsF A.length R B) ++ ndsT (A ++ ndsF A.length R B).length R k ++ (ndsF (A.length+Tr.szL B+k.sz) R D ++ [⟨l,par,(A.length:Int)⟩] ++ C):=by
      rw [hL,hAl]
      simp only [ndsT,hR]
      rw [hsplit,ndsF_append]
      simp only [ndsF,List.append_assoc]
    have hpre:∀ x∈A ++ ndsF A.length R B,¬ (((A ++ ndsF A.length R B).length:Int)≤x.par∧x.par < ((A ++ ndsF A.length R B).length:Int)+k.sz):=by
      intro x hx
      rw [hAl]
      rcases List.mem_append.1 hx with hx | hx
      · have:=hA x hx;omega
      · rcases ndsF_par B A.length R x hx with h | h <;> omega
    have hmem:k∈ks:=by rw [← hkj];exact List.getElem_mem hj
    have h3:=ih k hmem _ _ R L hL2 hpre (m - Tr.szL B) (by omega)
    rw [hAl,show A.length+Tr.szL B+(m - Tr.szL B)=A.length+m by omega] at h3
    rw [h3]
    -- the kid's root
    have h4:pathN L (A.length+Tr.szL B+k.sz - 1)=pathN L (A.length+Tr.szL ks) ++ [(j:Int)]:=by
      cases k with
      | node l2 ks2 =>
        simp only [Tr.sz_node] at *
        have hL3:L=((A ++ ndsF A.length R B) ++ ndsF (A.length+Tr.szL B) ((A.length+Tr.szL B+Tr.szL ks2:Nat):Int) ks2) ++ ⟨l2,R,((A.length+Tr.szL B:Nat):Int)⟩ :: (ndsF (A.length+Tr.szL B+(Tr.szL ks2+1)) R D ++ [⟨l,par,(A.length:Int)⟩] ++ C):=by
          rw [hL2,hAl];simp only [ndsT,List.append_assoc,List.singleton_append]
        obtain ⟨hl,hx⟩:=get_mid hL3 (n:=A.length+Tr.szL B+(Tr.szL ks2+1) - 1) (by rw [List.length_append,hAl,ndsF_length];omega)
        rw [pathN_up hl (by rw [hx];show _ < R;omega),hx]
        have e1:R.toNat=A.length+Tr.szL ks:=by rw [← hR];omega
        show pathN L R.toNat ++ [(cntPar L _ R:Int)]=_
        rw [e1]
        congr 2
        have e2:cntPar L (A.length+Tr.szL B+(Tr.szL ks2+1) - 1) R=j:=by
          unfold cntPar
          have e3:L.take (A.length+Tr.szL B+(Tr.szL ks2+1) - 1)=(A ++ ndsF A.length R B) ++ ndsF (A.length+Tr.szL B) ((A.length+Tr.szL B+Tr.szL ks2:Nat):Int) ks2:=by
            rw [hL3]
            exact List.take_left' (by rw [List.length_append,hAl,ndsF_length];omega)
          rw [e3,List.countP_append,List.countP_append,cnt_ndsF B A.length R (by omega),hBl]
          rw [cnt_zero (l:=A) (fun x hx=>by have:=hA x hx;omega)]
          rw [cnt_zero (l:=ndsF _ _ ks2) (fun x hx=>by rcases ndsF_par ks2 _ _ x hx with h | h <;> omega)]
          omega
        rw [e2]
    rw [h4,List.append_assoc];rfl
theorem pathN_nds (t:Tr) (n:Nat):pathN (nds t) n=pathT t n:=by
  have hlen:=nds_length t
  by_cases hn:n < t.sz
  · have h:=pathN_in t [] [] (-1) (nds t) (by simp [nds]) (by simp) n hn
    simp only [List.length_nil,Nat.zero_add] at h
    rw [h]
    have hr:pathN (nds t) (t.sz - 1)=[]:=by
      cases t with
      | node l ks =>
        simp only [Tr.sz_node,Nat.add_sub_cancel] at *
        obtain ⟨hl,hx⟩:=get_mid (L:=nds (.node l ks)) (A:=ndsF 0 ((0+Tr.szL ks:Nat):Int) ks) (x:=⟨l,-1,((0:Nat):Int)⟩) (C:=[]) (n:=Tr.szL ks) (by simp [nds,ndsT]) (by rw [ndsF_length])
        exact pathN_root hl (by rw [hx];show ¬ ((Tr.szL ks:Nat):Int) < -1;omega)
    rw [hr];rfl
  · rw [pathN_out (by omega)]
    cases t with
    | node l ks =>
      have:pathT (.node l ks) n=pathF ks 0 n:=by rw [pathT]
      rw [this,pathF_out ks 0 n (by simp at hn;omega)]
end Go.Proofs.YtdbnfhpgmcjngabGreatDoor
/- The tree of nodes, by all that say that it is their parent. No program here. -/
namespace Go.Proofs.YtdbnfhpgmcjngabGreatDoor
end Go.Proofs.YtdbnfhpgmcjngabGreatDoor
/- The tree of a tree's nodes is it. No program here. -/
namespace Go.Proofs.YtdbnfhpgmcjngabGreatDoor
end Go.Proofs.YtdbnfhpgmcjngabGreatDoor
/- How far apart two forests are: the recursion on the last trees; that it is a distance. No program here. -/
namespace Go.Proofs.YtdbnfhpgmcjngabGreatDoor
def lc (l m:ByteArray):Nat:=if l=m then 0 else 1
theorem lc_le (l m:ByteArray):lc l m≤1:=by unfold lc;split <;> omega
theorem lc_self (l:ByteArray):lc l l=0:=by simp [lc]
theorem lc_tri (l m n:ByteArray):lc l n≤lc l m+lc m n:=by
  unfold lc;by_cases h:l=m
  · subst h;simp
  · by_cases g:m=n
    · subst g;simp
    · rw [if_neg h,if_neg g];split <;> omega
def fdr:List Tr→List Tr→Nat
  | [],G=>Tr.szL G
  | .node l ks :: F,[]=>Tr.szL (.node l ks :: F)
  | .node l ks :: F,.node m js :: G =>
    min (fdr (ks.reverse ++ F) (.node m js :: G)+1)
      (min (fdr (.node l ks :: F) (js.reverse ++ G)+1) (fdr F G+fdr ks.reverse js.reverse+lc l m))
termination_by F G=>Tr.szL F+Tr.szL G
decreasing_by all_goals (simp;try omega)
def fd (F G:List Tr):Nat:=fdr F.reverse G.reverse
theorem fd_nil (G:List Tr):fd [] G=Tr.szL G:=by simp [fd,fdr]
theorem fd_nil_right (F:List Tr):fd F []=Tr.szL F:=by
  unfold fd
  rcases h:F.reverse with _ | ⟨⟨l,ks⟩,F'⟩
  · simp at h;subst h;simp [fdr]
  · rw [List.reverse_nil,fdr,← h,Tr.szL_reverse]
theorem fd_snoc (F G:List Tr) (l m:ByteArray) (ks js:List Tr) :
    fd (F ++ [.node l ks]) (G ++ [.node m js]) =
      min (fd (F ++ ks) (G ++ [.node m js])+1) (min (fd (F ++ [.node l ks]) (G ++ js)+1) (fd F G+fd ks js+lc l m)):=by
  unfold fd
  simp only [List.reverse_append,List.reverse_cons,List.reverse_nil,List.nil_append,List.singleton_append]
  rw [fdr]
theorem fd_del (F G:List Tr) (l:ByteArray) (ks:List Tr):fd (F ++ [.node l ks]) G≤fd (F ++ ks) G+1:=by
  rcases List.eq_nil_or_concat G with rfl | ⟨G,⟨m,js⟩,rfl⟩
  · simp only [fd_nil_right];simp;omega
  · simp only [List.concat_eq_append];rw [fd_snoc];omega
theorem fd_ins (F G:List Tr) (m:ByteArray) (js:List Tr):fd F (G ++ [.node m js])≤fd F (G ++ js)+1:=by
  rcases List.eq_nil_or_concat F with rfl | ⟨F,⟨l,ks⟩,rfl⟩
  · simp only [fd_nil];simp;omega
  · simp only [List.concat_eq_append];rw [fd_snoc];omega
theorem fd_match (F G:List Tr) (l m:ByteArray) (ks js:List Tr) :
    fd (F ++ [.node l ks]) (G ++ [.node m js])≤fd F G+fd ks js+lc l m:=by rw [fd_snoc];omega
theorem fd_cases (F G:List Tr):(F=[]∧G=[]) ∨
    (∃ F' l ks,F=F' ++ [.node l ks]∧fd F G=fd (F' ++ ks) G+1) ∨
    (∃ G' m js,G=G' ++ [.node m js]∧fd F G=fd F (G' ++ js)+1) ∨
    (∃ F' l ks G' m js,F=F' ++ [.node l ks]∧G=G' ++ [.node m js]∧fd F G=fd F' G'+fd ks js+lc l m):=by
  rcases List.eq_nil_or_concat F with rfl | ⟨F,⟨l,ks⟩,rfl⟩
  · rcases List.eq_nil_or_concat G with rfl | ⟨G,⟨m,js⟩,rfl⟩
    · exact .inl ⟨rfl,rfl⟩
    · refine .inr (.inr (.inl ⟨G,m,js,by simp,?_⟩))
      simp only [fd_nil];simp;omega
  · rcases List.eq_nil_or_concat G with rfl | ⟨G,⟨m,js⟩,rfl⟩
    · refine .inr (.inl ⟨F,l,ks,by simp,?_⟩)
      simp only [fd_nil_right];simp;omega
    · simp only [List.concat_eq_append]
      have h:=fd_snoc F G l m ks js
      rcases Nat.lt_or_ge (fd (F ++ [.node l ks]) (G ++ [.node m js])) (fd (F ++ ks) (G ++ [.node m js])+1) with h1 | h1
      · rcases Nat.lt_or_ge (fd (F ++ [.node l ks]) (G ++ [.node m js])) (fd (F ++ [.node l ks]) (G ++ js)+1) with h2 | h2
        · exact .inr (.inr (.inr ⟨F,l,ks,G,m,js,rfl,rfl,by omega⟩))
        · exact .inr (.inr (.inl ⟨G,m,js,rfl,by omega⟩))
      · exact .inr (.inl ⟨F,l,ks,rfl,by omega⟩)
theorem fd_sub (F₁ G₁ F₂ G₂:List Tr):fd (F₁ ++ F₂) (G₁ ++ G₂)≤fd F₁ G₁+fd F₂ G₂:=by
  suffices hh:∀ n F₂ G₂,Tr.szL F₂+Tr.szL G₂≤n→fd (F₁ ++ F₂) (G₁ ++ G₂)≤fd F₁ G₁+fd F₂ G₂ from hh _ F₂ G₂ (Nat.le_refl _)
  intro n
  induction n with
  | zero =>
    intro F G h
    rcases fd_cases F G with ⟨rfl,rfl⟩ | ⟨F',l,ks,rfl,e⟩ | ⟨G',m,js,rfl,e⟩ | ⟨F',l,ks,G',m,js,rfl,rfl,e⟩
    · simp
    all_goals (simp at h)
  | succ n ih =>
    intro F G h
    rcases fd_cases F G with ⟨rfl,rfl⟩ | ⟨F',l,ks,rfl,e⟩ | ⟨G',m,js,rfl,e⟩ | ⟨F',l,ks,G',m,js,rfl,rfl,e⟩
    · simp
    all_goals simp at h
    · have h1:=fd_del (F₁ ++ F') (G₁ ++ G) l ks
      have h2:=ih (F' ++ ks) G (by simp;omega)
      simp only [List.append_assoc] at h1 h2 ⊢;omega
    · have h1:=fd_ins (F₁ ++ F) (G₁ ++ G') m js
      have h2:=ih F (G' ++ js) (by simp;omega)
      simp only [List.append_assoc] at h1 h2 ⊢;omega
    · have h1:=fd_match (F₁ ++ F') (G₁ ++ G') l m ks js
      have h2:=ih F' G' (by omega)
      simp only [List.append_assoc] at h1 h2 ⊢;omega
theorem snoc_inj {F G:List Tr} {l m:ByteArray} {ks js:List Tr} (h:F ++ [.node l ks]=G ++ [.node m js]):F=G∧l=m∧ks=js:=by
  have h1:=List.append_inj' h rfl
  simpa using h1
theorem fd_tri (F G H:List Tr):fd F H≤fd F G+fd G H:=by
  suffices hh:∀ n F G H,Tr.szL F+Tr.szL G+Tr.szL H≤n→fd F H≤fd F G+fd G H from hh _ F G H (Nat.le_refl _)
  intro n
  induction n with
  | zero =>
    intro F G H h
    rcases fd_cases F H with ⟨rfl,rfl⟩ | ⟨F',l,ks,rfl,e⟩ | ⟨G',m,js,rfl,e⟩ | ⟨F',l,ks,G',m,js,rfl,rfl,e⟩
    · simp [fd_nil]
    all_goals (simp at h)
  | succ n ih =>
    intro F G H h
    rcases fd_cases F G with ⟨rfl,rfl⟩ | ⟨F',l,ks,rfl,e⟩ | ⟨G',m,js,rfl,e⟩ | ⟨F',l,ks,G',m,js,rfl,rfl,e⟩
    · omega
    · simp at h
      have h1:=fd_del F' H l ks
      have h2:=ih (F' ++ ks) G H (by simp;omega)
      omega
    · simp at h
      rcases fd_cases (G' ++ [.node m js]) H with ⟨g,_⟩ | ⟨X,l',ks',g,e'⟩ | ⟨H',m',js',rfl,e'⟩ | ⟨X,l',ks',H',m',js',g,rfl,e'⟩
      · simp at g
      · obtain ⟨rfl,rfl,rfl⟩:=snoc_inj g
        have h2:=ih F (G' ++ js) H (by simp;omega)
        omega
      · simp at h
        have h1:=fd_ins F H' m' js'
        have h2:=ih F (G' ++ [.node m js]) (H' ++ js') (by simp;omega)
        omega
      · obtain ⟨rfl,rfl,rfl⟩:=snoc_inj g
        simp at h
        have h1:=ih F (G' ++ js) (H' ++ [.node m' js']) (by simp;omega)
        have h2:=fd_ins (G' ++ js) H' m' js'
        have h3:=fd_sub G' H' js js'
        omega
    · simp at h
      rcases fd_cases (G' ++ [.node m js]) H with ⟨g,_⟩ | ⟨X,l',ks',g,e'⟩ | ⟨H',m',js',rfl,e'⟩ | ⟨X,l',ks',H',m',js',g,rfl,e'⟩
      · simp at g
      · obtain ⟨rfl,rfl,rfl⟩:=snoc_inj g
        have h1:=ih (F' ++ [.node l ks]) (G' ++ js) H (by simp;omega)
        have h2:=fd_del F' (G' ++ js) l ks
        have h3:=fd_sub F' G' ks js
        omega
      · simp at h
        have h1:=fd_ins (F' ++ [.node l ks]) H' m' js'
        have h2:=ih (F' ++ [.node l ks]) (G' ++ [.node m js]) (H' ++ js') (by simp;omega)
        omega
      · obtain ⟨rfl,rfl,rfl⟩:=snoc_inj g
        simp at h
        have h1:=fd_match F' H' l m' ks js'
        have h2:=ih F' G' H' (by omega)
        have h3:=ih ks js js' (by omega)
        have h4:=lc_tri l m m'
        omega
theorem fd_upper (F G:List Tr):fd F G≤Tr.szL F+Tr.szL G:=by
  have:=fd_tri F [] G;rw [fd_nil_right,fd_nil] at this;exact this
end Go.Proofs.YtdbnfhpgmcjngabGreatDoor
/- Forests by numbers: what stands between two numbers of a tree's nodes, and how far apart such are. No program here. -/
namespace Go.Proofs.YtdbnfhpgmcjngabGreatDoor
def lfN (xs:List Nd) (k:Nat):Nat:=match xs[k]? with | some x=>min x.left.toNat k | none=>k
def labN (xs:List Nd) (k:Nat):ByteArray:=match xs[k]? with | some x=>x.lab | none=>⟨#[]⟩
theorem lfN_le (xs:List Nd) (k:Nat):lfN xs k≤k:=by unfold lfN;split <;> omega
theorem labN_get (xs:List Nd) (k:Nat) (h:k < xs.length):labN xs k=xs[k].lab:=by unfold labN;rw [List.getElem?_eq_getElem h]
def FitP (p:Nat) (L:List Nd):Prop:=∀ k (h:k < L.length),(p:Int)≤L[k].left∧L[k].left≤((p+k:Nat):Int)∧∀ j (hj:j≤k),L[k].left≤((p+j:Nat):Int)→L[k].left≤(L[j]'(Nat.lt_of_le_of_lt hj h)).left
theorem FitP.nil (p:Nat):FitP p []:=fun _ h=>absurd h (Nat.not_lt_zero _)
theorem FitP.append {p:Nat} {A B:List Nd} (ha:FitP p A) (hb:FitP (p+A.length) B):FitP p (A ++ B):=by
  intro k h
  by_cases hk:k < A.length
  · rw [List.getElem_append_left hk]
    obtain ⟨h1,h2,h3⟩:=ha k hk
    refine ⟨h1,h2,fun j hj hl=>?_⟩
    rw [List.getElem_append_left (by omega)]
    exact h3 j hj hl
  · rw [List.getElem_append_right (by omega)]
    rw [List.length_append] at h
    obtain ⟨h1,h2,h3⟩:=hb (k - A.length) (by omega)
    refine ⟨by omega,by omega,fun j hj hl=>?_⟩
    have hjA:A.length≤j:=by omega
    rw [List.getElem_append_right hjA]
    exact h3 (j - A.length) (by omega) (by omega)
theorem FitP.root {p:Nat} {A:List Nd} (ha:FitP p A) (l:ByteArray) (par:Int):FitP p (A ++ [⟨l,par,(p:Int)⟩]):=by
  intro k h
  by_cases hk:k < A.length
  · rw [List.getElem_append_left hk]
    obtain ⟨h1,h2,h3⟩:=ha k hk
    refine ⟨h1,h2,fun j hj hl=>?_⟩
    rw [List.getElem_append_left (by omega)]
    exact h3 j hj hl
  · simp only [List.length_append,List.length_singleton] at h
    obtain rfl:k=A.length:=by omega
    rw [List.getElem_append_right (by omega)]
    simp only [Nat.sub_self,List.getElem_cons_zero]
    refine ⟨Int.le_refl _,by omega,fun j hj _=>?_⟩
    by_cases hjk:j < A.length
    · rw [List.getElem_append_left hjk];exact (ha j hjk).1
    · obtain rfl:j=A.length:=by omega
      rw [List.getElem_append_right (by omega)]
      simp only [Nat.sub_self,List.getElem_cons_zero]
      exact Int.le_refl _
mutual
theorem fitT:∀ (t:Tr) (p:Nat) (par:Int),FitP p (ndsT p par t)
  | .node l ks,p,par=>by rw [ndsT];exact (fitF ks p _).root l par
theorem fitF:∀ (ks:List Tr) (p:Nat) (par:Int),FitP p (ndsF p par ks)
  | [],p,par=>by rw [ndsF];exact FitP.nil p
  | k :: ks,p,par=>by rw [ndsF];exact (fitT k p par).append (by rw [ndsT_length];exact fitF ks _ par)
end
structure Fit (xs:List Nd):Prop where
  left:∀ k (h:k < xs.length),xs[k].left=(lfN xs k:Int)
  nest:∀ k j,k < xs.length→lfN xs k≤j→j≤k→lfN xs k≤lfN xs j
theorem FitP.fit {xs:List Nd} (h:FitP 0 xs):Fit xs:=by
  have hl:∀ k (h:k < xs.length),xs[k].left=(lfN xs k:Int):=fun k hk=>by
    obtain ⟨h1,h2,_⟩:=h k hk
    unfold lfN
    rw [List.getElem?_eq_getElem hk]
    simp only
    omega
  refine ⟨hl,fun k j hk h1 h2=>?_⟩
  have h3:=(h k hk).2.2 j h2
  rw [hl k hk,hl j (by omega)] at h3
  have:=h3 (by omega)
  omega
theorem fit_nds (t:Tr):Fit (nds t):=(fitT t 0 (-1)).fit
def Cl (xs:List Nd) (i0 i:Nat):Prop:=∀ k,i0≤k→k < i→i0≤lfN xs k
theorem Cl.mono {xs:List Nd} {i0 i j:Nat} (h:Cl xs i0 i) (hj:j≤i):Cl xs i0 j:=fun k h1 h2=>h k h1 (by omega)
theorem Cl.zero (xs:List Nd) (i:Nat):Cl xs 0 i:=fun _ _ _=>Nat.zero_le _
theorem Fit.cl {xs:List Nd} (h:Fit xs) {i:Nat} (hi:i < xs.length):Cl xs (lfN xs i) (i+1):=fun k h1 h2=>h.nest i k hi h1 (by omega)
theorem Fit.cl' {xs:List Nd} (h:Fit xs) {i:Nat} (hi:i < xs.length):Cl xs (lfN xs i) i:=(h.cl hi).mono (by omega)
def rng (xs:List Nd) (i0:Nat):Nat→List Tr
  | 0=>[]
  | i+1=>if i0≤i then rng xs i0 (lfN xs i) ++ [.node (labN xs i) (rng xs (lfN xs i) i)] else []
termination_by i=>i
decreasing_by all_goals (have:=lfN_le xs i;omega)
theorem rng_nil (xs:List Nd) (i0 i:Nat) (h:i≤i0):rng xs i0 i=[]:=by
  cases i with
  | zero=>rw [rng]
  | succ i=>rw [rng,if_neg (by omega)]
theorem rng_succ (xs:List Nd) (i0 i:Nat) (h:i0≤i):rng xs i0 (i+1)=rng xs i0 (lfN xs i) ++ [.node (labN xs i) (rng xs (lfN xs i) i)]:=by rw [rng,if_pos h]
theorem rng_split (xs:List Nd) (i0 m:Nat) (hm:i0≤m):∀ (N q:Nat),q < N→m≤q→Cl xs m q→rng xs i0 q=rng xs i0 m ++ rng xs m q:=by
  intro N
  induction N with
  | zero=>intro q h;omega
  | succ N ih =>
    intro q hq hmq hc
    by_cases he:q=m
    · subst he;rw [rng_nil xs q q (Nat.le_refl _),List.append_nil]
    · obtain ⟨i,rfl⟩:∃ i,q=i+1:=⟨q - 1,by omega⟩
      have hl:=hc i (by omega) (by omega)
      have hl2:=lfN_le xs i
      rw [rng_succ xs i0 i (by omega),rng_succ xs m i (by omega),ih (lfN xs i) (by omega) hl (hc.mono (by omega)),List.append_assoc]
theorem rng_size (xs:List Nd):∀ (N i0 i:Nat),i < N→i0≤i→(∀ k,i0≤k→k < i→i0≤lfN xs k)→Fit xs→i≤xs.length→Tr.szL (rng xs i0 i)=i - i0:=by
  intro N
  induction N with
  | zero=>intro i0 i h;omega
  | succ N ih =>
    intro i0 i hi h0 hc hf hx
    by_cases he:i=i0
    · subst he;rw [rng_nil xs i i (Nat.le_refl _)];simp
    · obtain ⟨j,rfl⟩:∃ j,i=j+1:=⟨i - 1,by omega⟩
      have hl:=hc j (by omega) (by omega)
      have hl2:=lfN_le xs j
      have h1:=ih i0 (lfN xs j) (by omega) hl (fun k a b=>hc k a (by omega)) hf (by omega)
      have h2:=ih (lfN xs j) j (by omega) hl2 (hf.cl' (by omega)) hf (by omega)
      rw [rng_succ xs i0 j (by omega)]
      simp only [Tr.szL_append,Tr.szL_cons,Tr.szL_nil,Tr.sz_node]
      omega
theorem rng_in:(∀ t:Tr,∀ (A C:List Nd) (par:Int) (L:List Nd),L=A ++ ndsT A.length par t ++ C→rng L A.length (A.length+t.sz)=[t]):=by
  intro t
  induction t using Tr.ind with
  | _ l ks ih =>
  intro A C par L hL
  have key:∀ (js:List Tr),(∀ k∈js,k∈ks)→∀ (A C:List Nd) (par:Int),L=A ++ ndsF A.length par js ++ C→rng L A.length (A.length+Tr.szL js)=js:=by
    intro js
    induction js with
    | nil=>intro _ A C par _;rw [rng_nil _ _ _ (by simp)]
    | cons k js ihj =>
      intro hm A C par hLj
      rw [ndsF] at hLj
      have h1:=ih k (hm k (by simp)) A (ndsF (A.length+k.sz) par js ++ C) par L (by rw [hLj];simp)
      have h2:=ihj (fun x hx=>hm x (by simp [hx])) (A ++ ndsT A.length par k) C par (by rw [hLj];simp [ndsT_length])
      rw [List.length_append,ndsT_length] at h2
      have hs:=rng_split L A.length (A.length+k.sz) (by omega) _ (A.length+(k.sz+Tr.szL js)) (Nat.lt_succ_self _) (by omega) (fun q q1 q2=>by
        have hf:=fitF js (A.length+k.sz) par
        have hlen:=ndsF_length js (A.length+k.sz) par
        have hq:q - (A.length+k.sz) < (ndsF (A.length+k.sz) par js).length:=by omega
        have hg:=(hf _ hq).1
        have hqL:q < L.length:=by rw [hLj];simp [ndsT_length,ndsF_length];omega
        have he:L[q]=(ndsF (A.length+k.sz) par js)[q - (A.length+k.sz)]:=by
          have:L[q]? = (ndsF (A.length+k.sz) par js)[q - (A.length+k.sz)]? := by
            rw [hLj,List.getElem?_append_left (by simp [ndsT_length,ndsF_length];omega),List.getElem?_append_right (by omega),List.getElem?_append_right (by rw [ndsT_length];omega),ndsT_length]
            congr 1;omega
          rw [List.getElem?_eq_getElem hqL,List.getElem?_eq_getElem hq] at this
          simpa using this
        unfold lfN
        rw [List.getElem?_eq_getElem hqL,he]
        simp only
        omega)
      rw [Tr.szL_cons,hs,h1,← Nat.add_assoc,h2];rfl
  rw [ndsT] at hL
  have hk:=key ks (fun _ h=>h) A ([⟨l,par,(A.length:Int)⟩] ++ C) ((A.length+Tr.szL ks:Nat):Int) (by rw [hL];simp only [List.append_assoc])
  have hroot:L[A.length+Tr.szL ks]? = some ⟨l,par,(A.length:Int)⟩:=by
    rw [hL,List.getElem?_append_left (by simp [ndsF_length]),List.getElem?_append_right (by omega),List.getElem?_append_right (by rw [ndsF_length];omega),ndsF_length]
    simp
  have hlf:lfN L (A.length+Tr.szL ks)=A.length:=by unfold lfN;rw [hroot];simp only;omega
  have hlab:labN L (A.length+Tr.szL ks)=l:=by unfold labN;rw [hroot]
  rw [Tr.sz_node,← Nat.add_assoc,rng_succ L _ _ (by omega),hlf,hlab,hk,rng_nil _ _ _ (Nat.le_refl _)]
  rfl
theorem rng_nds (t:Tr):rng (nds t) 0 t.sz=[t]:=by
  have:=rng_in t [] [] (-1) (nds t) (by simp [nds])
  simpa using this
theorem nds_root (l:ByteArray) (ks:List Tr):(nds (.node l ks))[Tr.szL ks]? = some ⟨l,-1,0⟩:=by
  unfold nds;rw [ndsT,List.getElem?_append_right (by rw [ndsF_length];omega),ndsF_length];simp
theorem rng_kids (l:ByteArray) (ks:List Tr):rng (nds (.node l ks)) 0 (Tr.szL ks)=ks:=by
  have h:=rng_nds (.node l ks)
  have hlf:lfN (nds (.node l ks)) (Tr.szL ks)=0:=by unfold lfN;rw [nds_root];simp
  rw [Tr.sz_node,rng_succ _ _ _ (Nat.zero_le _),hlf,rng_nil _ _ _ (Nat.le_refl _)] at h
  simp at h
  exact h.2
def fdn (xs ys:List Nd) (i0 i j0 j:Nat):Nat:=fd (rng xs i0 i) (rng ys j0 j)
variable {xs ys:List Nd}
theorem fdn_left (hy:Fit ys) {i0 i j0 j:Nat} (hi:i≤i0) (hj:j0≤j) (cy:Cl ys j0 j) (h:j≤ys.length):fdn xs ys i0 i j0 j=j - j0:=by
  unfold fdn;rw [rng_nil xs i0 i hi,fd_nil];exact rng_size ys _ j0 j (Nat.lt_succ_self _) hj cy hy h
theorem fdn_right (hx:Fit xs) {i0 i j0 j:Nat} (hj:j≤j0) (hi:i0≤i) (cx:Cl xs i0 i) (h:i≤xs.length):fdn xs ys i0 i j0 j=i - i0:=by
  unfold fdn;rw [rng_nil ys j0 j hj,fd_nil_right];exact rng_size xs _ i0 i (Nat.lt_succ_self _) hi cx hx h
theorem rng_down (hx:Fit xs) {i0 i:Nat} (hi:i0≤i) (cx:Cl xs i0 (i+1)) (h:i < xs.length):rng xs i0 i=rng xs i0 (lfN xs i) ++ rng xs (lfN xs i) i :=
  rng_split xs i0 (lfN xs i) (cx i hi (by omega)) _ i (Nat.lt_succ_self _) (lfN_le xs i) (hx.cl' h)
theorem rng_one (xs:List Nd) (i:Nat):rng xs (lfN xs i) (i+1)=[.node (labN xs i) (rng xs (lfN xs i) i)]:=by
  rw [rng_succ xs _ i (lfN_le xs i),rng_nil _ _ _ (Nat.le_refl _)];rfl
theorem fdn_step (hx:Fit xs) (hy:Fit ys) {i0 i j0 j:Nat} (hi:i0≤i) (hj:j0≤j) (cx:Cl xs i0 (i+1)) (cy:Cl ys j0 (j+1)) (hix:i < xs.length) (hjy:j < ys.length) :
    fdn xs ys i0 (i+1) j0 (j+1)=min (fdn xs ys i0 i j0 (j+1)+1) (min (fdn xs ys i0 (i+1) j0 j+1) (fdn xs ys i0 (lfN xs i) j0 (lfN ys j)+fdn xs ys (lfN xs i) i (lfN ys j) j+lc (labN xs i) (labN ys j))):=by
  unfold fdn
  rw [rng_succ xs i0 i hi,rng_succ ys j0 j hj,fd_snoc,← rng_down hx hi cx hix,← rng_down hy hj cy hjy]
theorem fdn_tree (hx:Fit xs) (hy:Fit ys) {i j:Nat} (hix:i < xs.length) (hjy:j < ys.length) :
    fdn xs ys (lfN xs i) (i+1) (lfN ys j) (j+1)=min (fdn xs ys (lfN xs i) i (lfN ys j) (j+1)+1) (min (fdn xs ys (lfN xs i) (i+1) (lfN ys j) j+1) (fdn xs ys (lfN xs i) i (lfN ys j) j+lc (labN xs i) (labN ys j))):=by
  have:=fdn_step hx hy (lfN_le xs i) (lfN_le ys j) (hx.cl hix) (hy.cl hjy) hix hjy
  rw [this,fdn_left hy (Nat.le_refl _) (Nat.le_refl _) (fun k a b=>by omega) (by have:=lfN_le ys j;omega)]
  simp
theorem fdn_step2 (hx:Fit xs) (hy:Fit ys) {i0 i j0 j:Nat} (hi:i0≤i) (hj:j0≤j) (cx:Cl xs i0 (i+1)) (cy:Cl ys j0 (j+1)) (hix:i < xs.length) (hjy:j < ys.length) :
    fdn xs ys i0 (i+1) j0 (j+1)=min (fdn xs ys i0 i j0 (j+1)+1) (min (fdn xs ys i0 (i+1) j0 j+1) (fdn xs ys i0 (lfN xs i) j0 (lfN ys j)+fdn xs ys (lfN xs i) (i+1) (lfN ys j) (j+1))):=by
  have h1:=fdn_step hx hy hi hj cx cy hix hjy
  have h2:=fdn_tree hx hy hix hjy
  have h3:fdn xs ys i0 (i+1) j0 (j+1)≤fdn xs ys i0 (lfN xs i) j0 (lfN ys j)+fdn xs ys (lfN xs i) (i+1) (lfN ys j) (j+1):=by
    have:=fd_sub (rng xs i0 (lfN xs i)) (rng ys j0 (lfN ys j)) (rng xs (lfN xs i) (i+1)) (rng ys (lfN ys j) (j+1))
    rw [rng_one,rng_one,← rng_succ xs i0 i hi,← rng_succ ys j0 j hj] at this
    unfold fdn
    rw [rng_one,rng_one]
    exact this
  omega
theorem fdn_step1 (hx:Fit xs) (hy:Fit ys) {i0 i j0 j:Nat} (hl:lfN xs i=i0) (hm:lfN ys j=j0) (hix:i < xs.length) (hjy:j < ys.length) :
    fdn xs ys i0 (i+1) j0 (j+1)=min (fdn xs ys i0 i j0 (j+1)+1) (min (fdn xs ys i0 (i+1) j0 j+1) (fdn xs ys i0 i j0 j+lc (labN xs i) (labN ys j))):=by
  subst hl;subst hm;exact fdn_tree hx hy hix hjy
def costT (a b:Tr):Nat:=fd a.kids b.kids+lc a.label b.label
theorem costT_fdn (l m:ByteArray) (ks js:List Tr):costT (.node l ks) (.node m js)=fdn (nds (.node l ks)) (nds (.node m js)) 0 (Tr.szL ks) 0 (Tr.szL js)+lc l m:=by
  unfold costT fdn;rw [rng_kids,rng_kids];rfl
end Go.Proofs.YtdbnfhpgmcjngabGreatDoor
/- How a tree's nodes stand: what is beneath a node, its parent, its path. No program here. -/
namespace Go.Proofs.YtdbnfhpgmcjngabGreatDoor
def ParP (p:Nat) (par:Int) (L:List Nd):Prop:=∀ k (h:k < L.length),
  (L[k].par=par∧∀ j (hj:j < L.length),k < j→((p+k:Nat):Int) < L[j].left) ∨
  (∃ m,∃ hm:m < L.length,k < m∧L[k].par=((p+m:Nat):Int)∧L[m].left≤L[k].left∧∀ j (hj:j < L.length),k < j→j < m→((p+k:Nat):Int) < L[j].left)
theorem ParP.nil (p:Nat) (par:Int):ParP p par []:=fun _ h=>absurd h (Nat.not_lt_zero _)
theorem ParP.append {p:Nat} {par:Int} {A B:List Nd} (ha:ParP p par A) (hb:ParP (p+A.length) par B) (fb:FitP (p+A.length) B):ParP p par (A ++ B):=by
  intro k h
  by_cases hk:k < A.length
  · rcases ha k hk with ⟨h1,h2⟩ | ⟨m,hm,h1,h2,h3,h4⟩
    · left
      rw [List.getElem_append_left hk]
      refine ⟨h1,fun j hj hkj=>?_⟩
      by_cases hja:j < A.length
      · rw [List.getElem_append_left hja];exact h2 j hja hkj
      · rw [List.getElem_append_right (by omega)]
        have:=(fb (j - A.length) (by rw [List.length_append] at hj;omega)).1
        omega
    · right
      refine ⟨m,by rw [List.length_append];omega,h1,?_,?_,fun j hj hkj hjm=>?_⟩
      · rw [List.getElem_append_left hk];exact h2
      · rw [List.getElem_append_left hk,List.getElem_append_left hm];exact h3
      · rw [List.getElem_append_left (by omega)];exact h4 j (by omega) hkj hjm
  · rw [List.length_append] at h
    rcases hb (k - A.length) (by omega) with ⟨h1,h2⟩ | ⟨m,hm,h1,h2,h3,h4⟩
    · left
      rw [List.getElem_append_right (by omega)]
      refine ⟨h1,fun j hj hkj=>?_⟩
      rw [List.getElem_append_right (by omega)]
      rw [List.length_append] at hj
      have:=h2 (j - A.length) (by omega) (by omega)
      omega
    · right
      refine ⟨A.length+m,by rw [List.length_append];omega,by omega,?_,?_,fun j hj hkj hjm=>?_⟩
      · rw [List.getElem_append_right (by omega),h2];omega
      · rw [List.getElem_append_right (by omega),List.getElem_append_right (by omega)]
        simp only [Nat.add_sub_cancel_left];exact h3
      · rw [List.getElem_append_right (by omega)]
        have:=h4 (j - A.length) (by omega) (by omega) (by omega)
        omega
theorem ParP.root {p:Nat} {A:List Nd} (ha:ParP p ((p+A.length:Nat):Int) A) (fa:FitP p A) (l:ByteArray) (par:Int):ParP p par (A ++ [⟨l,par,(p:Int)⟩]):=by
  intro k h
  have hroot:∀ (h:A.length < (A ++ [(⟨l,par,(p:Int)⟩:Nd)]).length),(A ++ [(⟨l,par,(p:Int)⟩:Nd)])[A.length]=⟨l,par,(p:Int)⟩:=fun h=>by
    rw [List.getElem_append_right (Nat.le_refl _)];simp
  by_cases hk:k < A.length
  · right
    rcases ha k hk with ⟨h1,h2⟩ | ⟨m,hm,h1,h2,h3,h4⟩
    · refine ⟨A.length,by simp,hk,?_,?_,fun j hj hkj hjm=>?_⟩
      · rw [List.getElem_append_left hk];exact h1
      · rw [hroot,List.getElem_append_left hk];exact (fa k hk).1
      · rw [List.getElem_append_left hjm];exact h2 j hjm hkj
    · refine ⟨m,by simp;omega,h1,?_,?_,fun j hj hkj hjm=>?_⟩
      · rw [List.getElem_append_left hk];exact h2
      · rw [List.getElem_append_left hk,List.getElem_append_left hm];exact h3
      · rw [List.getElem_append_left (by omega)];exact h4 j (by omega) hkj hjm
  · simp only [List.length_append,List.length_singleton] at h
    obtain rfl:k=A.length:=by omega
    left
    rw [hroot]
    exact ⟨rfl,fun j hj hkj=>by simp only [List.length_append,List.length_singleton] at hj;omega⟩
mutual
theorem parT:∀ (t:Tr) (p:Nat) (par:Int),ParP p par (ndsT p par t)
  | .node l ks,p,par=>by
    rw [ndsT]
    exact ParP.root (by rw [ndsF_length];exact parF ks p _) (fitF ks p _) l par
theorem parF:∀ (ks:List Tr) (p:Nat) (par:Int),ParP p par (ndsF p par ks)
  | [],p,par=>by rw [ndsF];exact ParP.nil p par
  | k :: ks,p,par=>by
    rw [ndsF]
    exact (parT k p par).append (by rw [ndsT_length];exact parF ks _ par) (by rw [ndsT_length];exact fitF ks _ par)
end
theorem nds_par (t:Tr) (k:Nat) (h:k < (nds t).length):((nds t)[k].par=-1∧k=t.sz - 1) ∨
    (∃ m,∃ hm:m < (nds t).length,k < m∧(nds t)[k].par=(m:Int)∧(nds t)[m].left≤(nds t)[k].left∧∀ j (hj:j < (nds t).length),k < j→j < m→(k:Int) < (nds t)[j].left):=by
  rcases parT t 0 (-1) k h with ⟨h1,h2⟩ | ⟨m,hm,h1,h2,h3,h4⟩
  · left
    refine ⟨h1,?_⟩
    have hl:=nds_length t
    by_cases he:k=t.sz - 1
    · exact he
    · have h0:=h2 (t.sz - 1) (by show _ < (nds t).length;omega) (by omega)
      have hf:=(fit_nds t).left (t.sz - 1) (by omega)
      rw [show lfN (nds t) (t.sz - 1)=0 from by
        cases t with | node l ks=>rw [Tr.sz_node,Nat.add_sub_cancel];unfold lfN;rw [nds_root];simp] at hf
      have h0':((0+k:Nat):Int) < (nds t)[t.sz - 1].left:=h0
      omega
  · right
    simp only [Nat.zero_add] at h2 h4
    exact ⟨m,hm,h1,h2,h3,h4⟩
def ben (l:List Nd) (n:Nat) (k:Int):Bool:=decide (0≤k∧(lfN l n:Int)≤k∧k≤(n:Int))
theorem ben_up (t:Tr) (n k:Nat) (hn:n < (nds t).length) (hk:k < (nds t).length) (hne:k≠n):ben (nds t) n k=ben (nds t) n (nds t)[k].par:=by
  have hf:=fit_nds t
  have hln:=hf.left n hn
  have hlk:=hf.left k hk
  have hlk2:=lfN_le (nds t) k
  have hsz:=nds_length t
  rw [Bool.eq_iff_iff]
  unfold ben
  simp only [decide_eq_true_eq]
  rcases nds_par t k hk with ⟨h1,h2⟩ | ⟨m,hm,h1,h2,h3,h4⟩
  · rw [h1]
    constructor
    · rintro ⟨_,h4,h5⟩;omega
    · rintro ⟨h3,_⟩;omega
  · rw [h2]
    have hlm:=hf.left m hm
    constructor
    · rintro ⟨_,h5,h6⟩
      by_cases hmn:m≤n
      · omega
      · have:=h4 n hn (by omega) (by omega)
        omega
    · rintro ⟨_,h5,h6⟩
      have:=hf.nest n m hn (by omega) (by omega)
      omega
end Go.Proofs.YtdbnfhpgmcjngabGreatDoor
/- Plain: where a node stands, when some with lower numbers are gone: by the parents of all nodes. No program here. -/
namespace Go.Proofs.YtdbnfhpgmcjngabGreatDoor
def parN (l:List Nd) (i:Nat):Int:=match l[i]? with | some x=>x.par | none=>-1
theorem parN_get (l:List Nd) (i:Nat) (h:i < l.length):parN l i=l[i].par:=by unfold parN;rw [List.getElem?_eq_getElem h]
def abv (l:List Nd) (g:Nat→Bool) (u:Int):Int :=
  if _h:(0≤u∧u < l.length)∧g u.toNat=true∧u < parN l u.toNat then abv l g (parN l u.toNat) else u
termination_by (l.length:Int).toNat - u.toNat
decreasing_by omega
theorem abv_up {l:List Nd} {g:Nat→Bool} {v:Nat} (h:v < l.length) (hg:g v=true) (hp:(v:Int) < parN l v):abv l g (v:Int)=abv l g (parN l v):=by
  rw [abv,dif_pos ⟨⟨by omega,by omega⟩,by simpa using hg,by simpa using hp⟩];rfl
theorem abv_stay {l:List Nd} {g:Nat→Bool} {v:Nat} (hg:g v=false):abv l g (v:Int)=v:=by
  rw [abv,dif_neg];rintro ⟨_,h,_⟩;simp [hg] at h
theorem abv_neg {l:List Nd} {g:Nat→Bool} {u:Int} (h:u < 0):abv l g u=u:=by
  rw [abv,dif_neg];omega
def cntS (l:List Nd) (g:Nat→Bool) (R:Int) (p n:Nat):Nat:=(List.range' p n).countP fun i=>!g i && decide (abv l g (parN l i)=R)
theorem cntS_add (l:List Nd) (g:Nat→Bool) (R:Int) (p n m:Nat):cntS l g R p (n+m)=cntS l g R p n+cntS l g R (p+n) m:=by
  unfold cntS;rw [← List.range'_append_1,List.countP_append]
theorem cntS_one (l:List Nd) (g:Nat→Bool) (R:Int) (p:Nat):cntS l g R p 1=if (!g p && decide (abv l g (parN l p)=R))=true then 1 else 0:=by
  unfold cntS;simp [List.countP_cons]
theorem cntS_zero {l:List Nd} {g:Nat→Bool} {R:Int} {p n:Nat} (h:∀ i,p≤i→i < p+n→abv l g (parN l i)≠R):cntS l g R p n=0:=by
  unfold cntS
  rw [List.countP_eq_zero]
  intro i hi
  rw [List.mem_range'_1] at hi
  simp only [Bool.and_eq_true,decide_eq_true_eq,not_and]
  exact fun _=>h i hi.1 hi.2
def whN (l:List Nd) (g:Nat→Bool) (n:Nat):List Int :=
  if h:n < l.length then
    if (n:Int) < l[n].par then whN l g l[n].par.toNat ++ [(cntS l g l[n].par 0 n:Int)] else []
  else []
termination_by l.length - n
decreasing_by omega
theorem whN_root {l:List Nd} {g:Nat→Bool} {n:Nat} (h:n < l.length) (hp:¬ (n:Int) < l[n].par):whN l g n=[]:=by rw [whN,dif_pos h,if_neg hp]
theorem whN_up {l:List Nd} {g:Nat→Bool} {n:Nat} (h:n < l.length) (hp:(n:Int) < l[n].par):whN l g n=whN l g l[n].par.toNat ++ [(cntS l g l[n].par 0 n:Int)]:=by rw [whN,dif_pos h,if_pos hp]
def Emb (l:List Nd) (p:Nat) (L:List Nd):Prop:=∀ k,k < L.length→l[p+k]? = L[k]?
theorem Emb.left {l:List Nd} {p:Nat} {A B:List Nd} (h:Emb l p (A ++ B)):Emb l p A:=fun k hk=>by
  rw [h k (by rw [List.length_append];omega),List.getElem?_append_left hk]
theorem Emb.right {l:List Nd} {p:Nat} {A B:List Nd} (h:Emb l p (A ++ B)):Emb l (p+A.length) B:=fun k hk=>by
  rw [Nat.add_assoc,h (A.length+k) (by rw [List.length_append];omega),List.getElem?_append_right (by omega),Nat.add_sub_cancel_left]
theorem Emb.one {l:List Nd} {p:Nat} {x:Nd} (h:Emb l p [x]):l[p]? = some x:=by simpa using h 0 (by simp)
theorem Emb.lt {l:List Nd} {p:Nat} {L:List Nd} (h:Emb l p L) (k:Nat) (hk:k < L.length):p+k < l.length:=by
  have:=h k hk
  rw [List.getElem?_eq_getElem hk] at this
  exact (List.getElem?_eq_some_iff.1 this).1
section
variable {t:Tr} {g:Nat→Bool}
theorem par_parts {v:Nat} (h:v < (nds t).length):(parN (nds t) v=-1∧v=t.sz - 1)∨∃ m:Nat,m < (nds t).length∧v < m∧parN (nds t) v=(m:Int)∧lfN (nds t) m≤lfN (nds t) v:=by
  rw [parN_get _ _ h]
  rcases nds_par t v h with h1 | ⟨m,hm,h1,h2,h3,_⟩
  · exact .inl h1
  · have e1:=(fit_nds t).left m hm
    have e2:=(fit_nds t).left v h
    exact .inr ⟨m,hm,h1,h2,by omega⟩
theorem abv_low (g:Nat→Bool):∀ (N v:Nat),v < (nds t).length→(nds t).length - v≤N→∃ u:Nat,abv (nds t) g (v:Int)=(u:Int)∧v≤u∧u < (nds t).length∧lfN (nds t) u≤lfN (nds t) v
  | 0,v,h,hN=>by omega
  | N+1,v,h,hN=>by
    by_cases hg:g v=true
    · by_cases hp:(v:Int) < parN (nds t) v
      · rw [abv_up h hg hp]
        rcases par_parts h with ⟨h1,_⟩ | ⟨m,hm,h1,h2,h3⟩
        · omega
        · rw [h2]
          obtain ⟨u,e1,e2,e3,e4⟩:=abv_low g N m hm (by omega)
          exact ⟨u,e1,by omega,e3,by omega⟩
      · refine ⟨v,?_,Nat.le_refl _,h,Nat.le_refl _⟩
        rw [abv,dif_neg];rintro ⟨_,_,h3⟩;exact hp (by simpa using h3)
    · exact ⟨v,abv_stay (by simpa using hg),Nat.le_refl _,h,Nat.le_refl _⟩
theorem abv_of_par {i:Nat} (h:i < (nds t).length):abv (nds t) g (parN (nds t) i)=-1∨∃ u:Nat,abv (nds t) g (parN (nds t) i)=(u:Int)∧i < u∧lfN (nds t) u≤i:=by
  rcases par_parts h with ⟨h1,_⟩ | ⟨m,hm,h1,h2,h3⟩
  · left;rw [h1];exact abv_neg (by omega)
  · right
    rw [h2]
    obtain ⟨u,e1,e2,e3,e4⟩:=abv_low g _ m hm (Nat.le_refl _)
    have:=lfN_le (nds t) i
    exact ⟨u,e1,by omega,by omega⟩
theorem abv_in {q:Nat} (hq:q < (nds t).length) (hg:g q=false):∀ (N v:Nat),v≤q→q - v≤N→lfN (nds t) q≤v→abv (nds t) g (v:Int)≤q
  | 0,v,h,hN,hl=>by
    obtain rfl:v=q:=by omega
    rw [abv_stay hg];omega
  | N+1,v,h,hN,hl=>by
    by_cases he:v=q
    · subst he;rw [abv_stay hg];omega
    · by_cases hgv:g v=true
      · have hb:=ben_up t q v hq (by omega) he
        have hv:ben (nds t) q v=true:=by unfold ben;simp;omega
        rw [hv] at hb
        have hb2:=hb.symm
        rw [← parN_get _ _ (by omega)] at hb2
        by_cases hp:(v:Int) < parN (nds t) v
        · rw [abv_up (by omega) hgv hp]
          obtain ⟨m,hm⟩:=Int.eq_ofNat_of_zero_le (show 0≤parN (nds t) v by omega)
          rw [hm] at hb2 hp ⊢
          unfold ben at hb2
          simp only [decide_eq_true_eq] at hb2
          exact abv_in hq hg N m (by omega) (by omega) (by omega)
        · rw [abv,dif_neg]
          · omega
          · rintro ⟨_,_,h3⟩;exact hp (by simpa using h3)
      · rw [abv_stay (by simpa using hgv)];omega
theorem abv_par_in {q i:Nat} (hq:q < (nds t).length) (hg:g q=false) (hi:i < q) (hl:lfN (nds t) q≤i):abv (nds t) g (parN (nds t) i)≤q:=by
  have hb:=ben_up t q i hq (by omega) (by omega)
  have hv:ben (nds t) q i=true:=by unfold ben;simp;omega
  rw [hv] at hb
  have hb2:=hb.symm
  rw [← parN_get _ _ (by omega)] at hb2
  unfold ben at hb2
  simp only [decide_eq_true_eq] at hb2
  obtain ⟨m,hm⟩:=Int.eq_ofNat_of_zero_le (show 0≤parN (nds t) i by omega)
  rw [hm] at hb2 ⊢
  exact abv_in hq hg _ m (by omega) (Nat.le_refl _) (by omega)
theorem cnt_prT:∀ (k:Tr) (p u:Nat) (R:Nat),Emb (nds t) p (ndsT p (u:Int) k)→p+k.sz≤u→abv (nds t) g (u:Int)=(R:Int)→u≤R→cntS (nds t) g (R:Int) p k.sz=(prT g p k).length:=by
  refine Tr.ind fun m js ih p u R he hu hR huR=>?_
  have key:∀ (is:List Tr) (p w:Nat),(∀ i∈is,i∈js)→Emb (nds t) p (ndsF p (w:Int) is)→p+Tr.szL is≤w→abv (nds t) g (w:Int)=(R:Int)→w≤R→cntS (nds t) g (R:Int) p (Tr.szL is)=(prF g p is).length:=by
    intro is
    induction is with
    | nil=>intro p w _ _ _ _ _;simp [prF,cntS]
    | cons i is ihi =>
      intro p w hm he hw hR hwR
      rw [ndsF] at he
      rw [Tr.szL_cons] at hw
      have h1:=ih i (hm i (by simp)) p w R he.left (by omega) hR hwR
      have h2:=ihi (p+i.sz) w (fun z hz=>hm z (List.mem_cons_of_mem _ hz)) (by have:=he.right;rw [ndsT_length] at this;exact this) (by omega) hR hwR
      rw [Tr.szL_cons,cntS_add,h1,h2,prF,List.length_append]
  rw [Tr.sz_node] at hu
  rw [ndsT] at he
  have hroot:(nds t)[p+Tr.szL js]? = some ⟨m,(u:Int),(p:Int)⟩:=by have:=he.right;rw [ndsF_length] at this;exact this.one
  have hlt:=(List.getElem?_eq_some_iff.1 hroot).1
  have hpar:parN (nds t) (p+Tr.szL js)=(u:Int):=by unfold parN;rw [hroot]
  rw [Tr.sz_node,cntS_add,cntS_one,hpar,hR,prT_node]
  by_cases hg:g (p+Tr.szL js)=true
  · rw [key js p (p+Tr.szL js) (fun _ h=>h) he.left (by omega) (by rw [abv_up hlt hg (by omega),hpar,hR]) (by omega),hg]
    simp
  · have hg':g (p+Tr.szL js)=false:=by simpa using hg
    have hlf:lfN (nds t) (p+Tr.szL js)=p:=by unfold lfN;rw [hroot];simp only [];omega
    rw [cntS_zero fun i h1 h2=>?_,hg']
    · simp
    · have:=abv_par_in (t:=t) hlt hg' h2 (by omega)
      omega
theorem whN_in (n:Nat) (hg:∀ i,n≤i→g i=false):∀ (k:Tr) (p q:Nat),Emb (nds t) p (ndsF p (q:Int) k.kids)→q < (nds t).length→lfN (nds t) q=p→n < p+Tr.szL k.kids→p+Tr.szL k.kids≤q→p≤n→whN (nds t) g n=whN (nds t) g q ++ whF g p k.kids 0 n:=by
  refine Tr.ind fun m js ih p q he hq hl hn hpq hp=>?_
  rw [Tr.kids_node] at he hn hpq ⊢
  have hc0:cntS (nds t) g (q:Int) 0 p=0:=cntS_zero fun i _ h2=>by
    rcases abv_of_par (t:=t) (g:=g) (i:=i) (by omega) with h | ⟨u,h,_,h4⟩
    · omega
    · intro e;rw [h] at e;have:u=q:=by omega
      subst this;omega
  have key:∀ (is:List Tr) (p c:Nat),(∀ i∈is,i∈js)→Emb (nds t) p (ndsF p (q:Int) is)→n < p+Tr.szL is→p+Tr.szL is≤q→p≤n→cntS (nds t) g (q:Int) 0 p=c→whN (nds t) g n=whN (nds t) g q ++ whF g p is c n:=by
    intro is
    induction is with
    | nil=>intro p c _ _ h _ h2 _;simp at h;omega
    | cons i is ihi =>
      intro p c hm he hn hpq hp hc
      rw [ndsF] at he
      rw [Tr.szL_cons] at hn hpq
      rw [whF]
      by_cases hk:n < p+i.sz
      · rw [if_pos hk]
        have hie:=he.left
        obtain ⟨m2,ks⟩:=i
        rw [ndsT] at hie
        rw [Tr.sz_node] at hk
        rw [Tr.sz_node] at hpq
        have hroot:(nds t)[p+Tr.szL ks]? = some ⟨m2,(q:Int),(p:Int)⟩:=by have:=hie.right;rw [ndsF_length] at this;exact this.one
        have hlt:=(List.getElem?_eq_some_iff.1 hroot).1
        have hpar:(nds t)[p+Tr.szL ks].par=(q:Int):=by rw [List.getElem?_eq_getElem hlt] at hroot;rw [Option.some.inj hroot]
        have hlf:lfN (nds t) (p+Tr.szL ks)=p:=by unfold lfN;rw [hroot];simp only [];omega
        have hgr:g (p+Tr.szL ks)=false:=hg _ (by omega)
        have hcr:cntS (nds t) g (q:Int) 0 (p+Tr.szL ks)=c:=by
          rw [cntS_add,hc,Nat.zero_add,cntS_zero fun i h1 h2=>?_,Nat.add_zero]
          have:=abv_par_in (t:=t) hlt hgr h2 (by omega)
          omega
        have hup:whN (nds t) g (p+Tr.szL ks)=whN (nds t) g q ++ [(c:Int)]:=by
          rw [whN_up hlt (by omega),hpar,hcr,Int.toNat_natCast]
        by_cases hr:n=p+Tr.szL ks
        · rw [whT_node,whF_out g ks p 0 n (by omega),hr,hup]
        · have:=ih (.node m2 ks) (hm _ (by simp)) p (p+Tr.szL ks) (by rw [Tr.kids_node];exact hie.left) hlt hlf (by rw [Tr.kids_node];omega) (by rw [Tr.kids_node];omega) hp
          rw [this,hup,Tr.kids_node,whT_node];simp
      · rw [if_neg hk]
        refine ihi (p+i.sz) _ (fun z hz=>hm z (List.mem_cons_of_mem _ hz)) (by have:=he.right;rw [ndsT_length] at this;exact this) (by omega) (by omega) (by omega) ?_
        rw [cntS_add,hc,Nat.zero_add]
        congr 1
        exact cnt_prT i p q q he.left (by omega) (abv_stay (hg q (by omega))) (Nat.le_refl _)
  exact key js p 0 (fun _ h=>h) he hn hpq hp hc0
theorem whN_is {n:Nat} (hg:∀ i,n≤i→g i=false) (hn:n+1 < t.sz):whN (nds t) g n=whT g 0 t n:=by
  obtain ⟨l,ks⟩:=t
  rw [Tr.sz_node] at hn
  have hlen:=nds_length (.node l ks)
  rw [Tr.sz_node] at hlen
  have hr:=nds_root l ks
  have hlt:=(List.getElem?_eq_some_iff.1 hr).1
  have hpar:(nds (.node l ks))[Tr.szL ks].par=-1:=by rw [List.getElem?_eq_getElem hlt] at hr;rw [Option.some.inj hr]
  have hlf:lfN (nds (.node l ks)) (Tr.szL ks)=0:=by unfold lfN;rw [hr];simp
  have hemb:Emb (nds (.node l ks)) 0 (ndsF 0 ((Tr.szL ks:Nat):Int) ks):=fun k hk=>by
    unfold nds;rw [ndsT,Nat.zero_add,Nat.zero_add,List.getElem?_append_left hk]
  have:=whN_in (t:=.node l ks) n hg (.node l ks) 0 (Tr.szL ks) (by rw [Tr.kids_node];exact hemb) hlt hlf (by rw [Tr.kids_node];omega) (by rw [Tr.kids_node];omega) (Nat.zero_le _)
  rw [this,whN_root hlt (by omega),whT_node,Tr.kids_node,List.nil_append]
end
end Go.Proofs.YtdbnfhpgmcjngabGreatDoor
/- Which nodes stay: the best of two forests, by numbers. No program here. -/
namespace Go.Proofs.YtdbnfhpgmcjngabGreatDoor
def bestP (xs ys:List Nd) (i0 i j0 j:Nat):List (Nat × Nat) :=
  if h:i≤i0∨j≤j0 then [] else
  if lfN xs (i - 1)=i0∧lfN ys (j - 1)=j0∧fdn xs ys i0 i j0 j=fdn xs ys i0 (i - 1) j0 (j - 1)+lc (labN xs (i - 1)) (labN ys (j - 1)) then
    bestP xs ys i0 (i - 1) j0 (j - 1) ++ [(i - 1,j - 1)]
  else if h2:i0≤lfN xs (i - 1)∧j0≤lfN ys (j - 1)∧¬(lfN xs (i - 1)=i0∧lfN ys (j - 1)=j0) ∧
      fdn xs ys i0 i j0 j=fdn xs ys i0 (lfN xs (i - 1)) j0 (lfN ys (j - 1))+fdn xs ys (lfN xs (i - 1)) i (lfN ys (j - 1)) j then
    bestP xs ys i0 (lfN xs (i - 1)) j0 (lfN ys (j - 1)) ++ bestP xs ys (lfN xs (i - 1)) i (lfN ys (j - 1)) j
  else if fdn xs ys i0 i j0 j=fdn xs ys i0 (i - 1) j0 j+1 then bestP xs ys i0 (i - 1) j0 j
  else bestP xs ys i0 i j0 (j - 1)
termination_by (i - i0)+(j - j0)
decreasing_by
  all_goals
    have a1:=lfN_le xs (i - 1)
    have a2:=lfN_le ys (j - 1)
    omega
variable {xs ys:List Nd}
theorem bestP_nil {i0 i j0 j:Nat} (h:i≤i0∨j≤j0):bestP xs ys i0 i j0 j=[]:=by rw [bestP,dif_pos h]
theorem bestP_step {i0 i j0 j:Nat} (hi:i0≤i) (hj:j0≤j) (cx:Cl xs i0 (i+1)) (cy:Cl ys j0 (j+1)) :
    bestP xs ys i0 (i+1) j0 (j+1) =
      if lfN xs i=i0∧lfN ys j=j0∧fdn xs ys i0 (i+1) j0 (j+1)=fdn xs ys i0 i j0 j+lc (labN xs i) (labN ys j) then bestP xs ys i0 i j0 j ++ [(i,j)]
      else if ¬(lfN xs i=i0∧lfN ys j=j0)∧fdn xs ys i0 (i+1) j0 (j+1)=fdn xs ys i0 (lfN xs i) j0 (lfN ys j)+fdn xs ys (lfN xs i) (i+1) (lfN ys j) (j+1) then
        bestP xs ys i0 (lfN xs i) j0 (lfN ys j) ++ bestP xs ys (lfN xs i) (i+1) (lfN ys j) (j+1)
      else if fdn xs ys i0 (i+1) j0 (j+1)=fdn xs ys i0 i j0 (j+1)+1 then bestP xs ys i0 i j0 (j+1) else bestP xs ys i0 (i+1) j0 j:=by
  have h1:=cx i hi (by omega)
  have h2:=cy j hj (by omega)
  rw [bestP,dif_neg (by omega)]
  simp only [Nat.add_sub_cancel]
  by_cases hA:lfN xs i=i0∧lfN ys j=j0∧fdn xs ys i0 (i+1) j0 (j+1)=fdn xs ys i0 i j0 j+lc (labN xs i) (labN ys j)
  · rw [if_pos hA,if_pos hA]
  rw [if_neg hA,if_neg hA]
  by_cases hB:¬(lfN xs i=i0∧lfN ys j=j0)∧fdn xs ys i0 (i+1) j0 (j+1)=fdn xs ys i0 (lfN xs i) j0 (lfN ys j)+fdn xs ys (lfN xs i) (i+1) (lfN ys j) (j+1)
  · rw [dif_pos ⟨h1,h2,hB⟩,if_pos hB]
  · rw [dif_neg (fun h=>hB h.2.2),if_neg hB]
def Good (xs ys:List Nd) (l:List (Nat × Nat)):Prop:=l.Pairwise fun p q=>p.1 < q.1∧p.2 < q.2∧(lfN xs q.1≤p.1↔lfN ys q.2≤p.2)
def nameC (xs ys:List Nd) (l:List (Nat × Nat)):Nat:=(l.map fun p=>lc (labN xs p.1) (labN ys p.2)).foldr (·+·) 0
theorem nameC_append (a b:List (Nat × Nat)):nameC xs ys (a ++ b)=nameC xs ys a+nameC xs ys b:=by
  induction a with
  | nil=>simp [nameC]
  | cons p a ih=>simp only [nameC,List.cons_append,List.map_cons,List.foldr_cons] at ih ⊢;omega
theorem nameC_one (p:Nat × Nat):nameC xs ys [p]=lc (labN xs p.1) (labN ys p.2):=by simp [nameC]
theorem bestP_good (hx:Fit xs) (hy:Fit ys):∀ (N i0 i j0 j:Nat),(i - i0)+(j - j0) < N→i0≤i→j0≤j→Cl xs i0 i→Cl ys j0 j→i≤xs.length→j≤ys.length →
    (∀ p∈bestP xs ys i0 i j0 j,i0≤p.1∧p.1 < i∧j0≤p.2∧p.2 < j)∧Good xs ys (bestP xs ys i0 i j0 j) ∧
      (i - i0)+(j - j0)+nameC xs ys (bestP xs ys i0 i j0 j)=fdn xs ys i0 i j0 j+2 * (bestP xs ys i0 i j0 j).length:=by
  intro N
  induction N with
  | zero=>intro i0 i j0 j h;omega
  | succ N ih =>
    intro i0 i j0 j hN hi hj cx cy hix hjy
    by_cases he:i≤i0∨j≤j0
    · rw [bestP_nil he]
      refine ⟨by simp,List.Pairwise.nil,?_⟩
      simp only [nameC,List.map_nil,List.foldr_nil,List.length_nil]
      rcases he with he | he
      · rw [fdn_left hy he hj cy hjy];omega
      · rw [fdn_right hx he hi cx hix];omega
    obtain ⟨i,rfl⟩:∃ a,i=a+1:=⟨i - 1,by omega⟩
    obtain ⟨j,rfl⟩:∃ a,j=a+1:=⟨j - 1,by omega⟩
    have hl:=cx i (by omega) (by omega)
    have hm:=cy j (by omega) (by omega)
    have hl2:=lfN_le xs i
    have hm2:=lfN_le ys j
    have hst:=fdn_step2 hx hy (by omega:i0≤i) (by omega:j0≤j) cx cy (by omega) (by omega)
    rw [bestP_step (by omega) (by omega) cx cy]
    by_cases hA:lfN xs i=i0∧lfN ys j=j0∧fdn xs ys i0 (i+1) j0 (j+1)=fdn xs ys i0 i j0 j+lc (labN xs i) (labN ys j)
    · rw [if_pos hA]
      obtain ⟨h1,h2,h3⟩:=ih i0 i j0 j (by omega) (by omega) (by omega) (cx.mono (by omega)) (cy.mono (by omega)) (by omega) (by omega)
      refine ⟨fun p hp=>?_,?_,?_⟩
      · simp only [List.mem_append,List.mem_singleton] at hp
        rcases hp with hp | rfl
        · have:=h1 p hp;omega
        · simp only;omega
      · unfold Good
        rw [List.pairwise_append]
        refine ⟨h2,List.pairwise_singleton _ _,fun p hp q hq=>?_⟩
        simp only [List.mem_singleton] at hq
        subst hq
        have:=h1 p hp
        simp only;omega
      · rw [nameC_append,nameC_one,List.length_append,List.length_singleton]
        have h4:=hA.2.2
        clear hst hA
        simp only;omega
    rw [if_neg hA]
    by_cases hB:¬(lfN xs i=i0∧lfN ys j=j0)∧fdn xs ys i0 (i+1) j0 (j+1)=fdn xs ys i0 (lfN xs i) j0 (lfN ys j)+fdn xs ys (lfN xs i) (i+1) (lfN ys j) (j+1)
    · rw [if_pos hB]
      have clx:=hx.cl (i:=i) (by omega)
      have cly:=hy.cl (i:=j) (by omega)
      obtain ⟨h1,h2,h3⟩:=ih i0 (lfN xs i) j0 (lfN ys j) (by omega) (by omega) (by omega) (cx.mono (by omega)) (cy.mono (by omega)) (by omega) (by omega)
      obtain ⟨g1,g2,g3⟩:=ih (lfN xs i) (i+1) (lfN ys j) (j+1) (by omega) (by omega) (by omega) clx cly (by omega) (by omega)
      refine ⟨fun p hp=>?_,?_,?_⟩
      · simp only [List.mem_append] at hp
        rcases hp with hp | hp
        · have:=h1 p hp;omega
        · have:=g1 p hp;omega
      · unfold Good
        rw [List.pairwise_append]
        refine ⟨h2,g2,fun p hp q hq=>?_⟩
        have a:=h1 p hp
        have b:=g1 q hq
        have c:=clx q.1 (by omega) (by omega)
        have d:=cly q.2 (by omega) (by omega)
        omega
      · rw [nameC_append,List.length_append];omega
    rw [if_neg hB]
    have h1s:lfN xs i=i0∧lfN ys j=j0→fdn xs ys i0 (i+1) j0 (j+1)=min (fdn xs ys i0 i j0 (j+1)+1) (min (fdn xs ys i0 (i+1) j0 j+1) (fdn xs ys i0 i j0 j+lc (labN xs i) (labN ys j))) :=
      fun h=>fdn_step1 hx hy h.1 h.2 (by omega) (by omega)
    have hno:fdn xs ys i0 (i+1) j0 (j+1)=min (fdn xs ys i0 i j0 (j+1)+1) (fdn xs ys i0 (i+1) j0 j+1):=by
      by_cases hc:lfN xs i=i0∧lfN ys j=j0
      · have:=h1s hc
        have:¬ fdn xs ys i0 (i+1) j0 (j+1)=fdn xs ys i0 i j0 j+lc (labN xs i) (labN ys j):=fun h=>hA ⟨hc.1,hc.2,h⟩
        omega
      · have:¬ fdn xs ys i0 (i+1) j0 (j+1)=fdn xs ys i0 (lfN xs i) j0 (lfN ys j)+fdn xs ys (lfN xs i) (i+1) (lfN ys j) (j+1):=fun h=>hB ⟨hc,h⟩
        omega
    clear hst h1s hA hB
    by_cases hC:fdn xs ys i0 (i+1) j0 (j+1)=fdn xs ys i0 i j0 (j+1)+1
    · rw [if_pos hC]
      obtain ⟨h1,h2,h3⟩:=ih i0 i j0 (j+1) (by omega) (by omega) (by omega) (cx.mono (by omega)) cy (by omega) (by omega)
      clear hno
      exact ⟨fun p hp=>by have:=h1 p hp;omega,h2,by omega⟩
    · rw [if_neg hC]
      obtain ⟨h1,h2,h3⟩:=ih i0 (i+1) j0 j (by omega) (by omega) (by omega) cx (cy.mono (by omega)) (by omega) (by omega)
      have h4:fdn xs ys i0 (i+1) j0 (j+1)=fdn xs ys i0 (i+1) j0 j+1:=by omega
      clear hno hC
      exact ⟨fun p hp=>by have:=h1 p hp;omega,h2,by omega⟩
def bestT (a b:Tr):List (Nat × Nat):=bestP (nds a) (nds b) 0 (a.sz - 1) 0 (b.sz - 1) ++ [(a.sz - 1,b.sz - 1)]
theorem lf_root (t:Tr):lfN (nds t) (t.sz - 1)=0:=by
  cases t with | node l ks =>
  rw [Tr.sz_node,Nat.add_sub_cancel];unfold lfN;rw [nds_root];simp
theorem lab_root (t:Tr):labN (nds t) (t.sz - 1)=t.label:=by
  cases t with | node l ks =>
  rw [Tr.sz_node,Nat.add_sub_cancel];unfold labN;rw [nds_root];rfl
theorem costT_eq (a b:Tr):costT a b=fdn (nds a) (nds b) 0 (a.sz - 1) 0 (b.sz - 1)+lc a.label b.label:=by
  cases a with | node l ks =>
  cases b with | node m js =>
  rw [costT_fdn];simp only [Tr.sz_node,Nat.add_sub_cancel];rfl
theorem bestT_good (a b:Tr):(∀ p∈bestT a b,p.1 < a.sz∧p.2 < b.sz)∧Good (nds a) (nds b) (bestT a b)∧a.sz+b.sz+nameC (nds a) (nds b) (bestT a b)=costT a b+2 * (bestT a b).length:=by
  have ha:=a.sz_pos
  have hb:=b.sz_pos
  obtain ⟨h1,h2,h3⟩:=bestP_good (fit_nds a) (fit_nds b) _ 0 (a.sz - 1) 0 (b.sz - 1) (Nat.lt_succ_self _) (Nat.zero_le _) (Nat.zero_le _) (Cl.zero _ _) (Cl.zero _ _) (by rw [nds_length];omega) (by rw [nds_length];omega)
  unfold bestT
  refine ⟨fun p hp=>?_,?_,?_⟩
  · simp only [List.mem_append,List.mem_singleton] at hp
    rcases hp with hp | rfl
    · have:=h1 p hp;omega
    · simp only;omega
  · unfold Good
    rw [List.pairwise_append]
    refine ⟨h2,List.pairwise_singleton _ _,fun p hp q hq=>?_⟩
    simp only [List.mem_singleton] at hq
    subst hq
    have:=h1 p hp
    simp only [lf_root];omega
  · rw [nameC_append,nameC_one,List.length_append,List.length_singleton,costT_eq,lab_root,lab_root];omega
end Go.Proofs.YtdbnfhpgmcjngabGreatDoor
/- Plain: trees of the same form; deeds that give one the labels of another one. No program here. -/
namespace Go.Proofs.YtdbnfhpgmcjngabGreatDoor
mutual
def bare:Tr→Tr | .node _ ks=>.node ⟨#[]⟩ (bareL ks)
def bareL:List Tr→List Tr | []=>[] | k :: ks=>bare k :: bareL ks
end
mutual
def relT (f:Nat→ByteArray) (p:Nat):Tr→Tr | .node _ ks=>.node (f (p+Tr.szL ks)) (relF f p ks)
def relF (f:Nat→ByteArray) (p:Nat):List Tr→List Tr | []=>[] | k :: ks=>relT f p k :: relF f (p+k.sz) ks
end
theorem bare_node (l:ByteArray) (ks:List Tr):bare (.node l ks)=.node ⟨#[]⟩ (bareL ks):=by rw [bare]
theorem relT_node (f:Nat→ByteArray) (p:Nat) (l:ByteArray) (ks:List Tr):relT f p (.node l ks)=.node (f (p+Tr.szL ks)) (relF f p ks):=by rw [relT]
theorem bareL_append:∀ (ks js:List Tr),bareL (ks ++ js)=bareL ks ++ bareL js
  | [],js=>rfl
  | k :: ks,js=>by simp [bareL,bareL_append ks js]
mutual
theorem bare_sz:∀ t:Tr,(bare t).sz=t.sz
  | .node l ks=>by rw [bare_node,Tr.sz_node,Tr.sz_node,bareL_sz ks]
theorem bareL_sz:∀ ks:List Tr,Tr.szL (bareL ks)=Tr.szL ks
  | []=>rfl
  | k :: ks=>by rw [bareL,Tr.szL_cons,Tr.szL_cons,bare_sz k,bareL_sz ks]
end
mutual
theorem relT_sz (f:Nat→ByteArray):∀ (t:Tr) (p:Nat),(relT f p t).sz=t.sz
  | .node l ks,p=>by rw [relT_node,Tr.sz_node,Tr.sz_node,relF_sz f ks p]
theorem relF_sz (f:Nat→ByteArray):∀ (ks:List Tr) (p:Nat),Tr.szL (relF f p ks)=Tr.szL ks
  | [],p=>by rw [relF]
  | k :: ks,p=>by rw [relF,Tr.szL_cons,Tr.szL_cons,relT_sz f k,relF_sz f ks]
end
mutual
theorem relT_bare (f:Nat→ByteArray):∀ (t:Tr) (p:Nat),relT f p (bare t)=relT f p t
  | .node l ks,p=>by rw [bare_node,relT_node,relT_node,bareL_sz,relF_bare f ks]
theorem relF_bare (f:Nat→ByteArray):∀ (ks:List Tr) (p:Nat),relF f p (bareL ks)=relF f p ks
  | [],p=>rfl
  | k :: ks,p=>by rw [bareL,relF,relF,bare_sz,relT_bare f k,relF_bare f ks]
end
theorem relT_form {t u:Tr} (h:bare t=bare u) (f:Nat→ByteArray) (p:Nat):relT f p t=relT f p u:=by rw [← relT_bare f t,h,relT_bare]
mutual
theorem relT_congr {f h:Nat→ByteArray}:∀ (t:Tr) (p:Nat),(∀ i,p≤i→i < p+t.sz→f i=h i)→relT f p t=relT h p t
  | .node l ks,p,e=>by
    rw [Tr.sz_node] at e
    rw [relT_node,relT_node,e _ (by omega) (by omega),relF_congr ks p fun i h1 h2=>e i h1 (by omega)]
theorem relF_congr {f h:Nat→ByteArray}:∀ (ks:List Tr) (p:Nat),(∀ i,p≤i→i < p+Tr.szL ks→f i=h i)→relF f p ks=relF h p ks
  | [],p,e=>by rw [relF,relF]
  | k :: ks,p,e=>by
    rw [Tr.szL_cons] at e
    rw [relF,relF,relT_congr k p fun i h1 h2=>e i h1 (by omega),relF_congr ks (p+k.sz) fun i h1 h2=>e i (by omega) (by omega)]
end
mutual
theorem relT_self (l:List Nd):∀ (t:Tr) (p:Nat) (r:Int),Emb l p (ndsT p r t)→relT (labN l) p t=t
  | .node m ks,p,r,h=>by
    rw [ndsT] at h
    have hr:l[p+Tr.szL ks]? = some ⟨m,r,(p:Int)⟩:=by have:=h.right;rw [ndsF_length] at this;exact this.one
    have hl:labN l (p+Tr.szL ks)=m:=by unfold labN;rw [hr]
    rw [relT_node,hl,relF_self l ks p _ h.left]
theorem relF_self (l:List Nd):∀ (ks:List Tr) (p:Nat) (r:Int),Emb l p (ndsF p r ks)→relF (labN l) p ks=ks
  | [],p,r,h=>by rw [relF]
  | k :: ks,p,r,h=>by
    rw [ndsF] at h
    rw [relF,relT_self l k p r h.left,relF_self l ks (p+k.sz) r (by have:=h.right;rw [ndsT_length] at this;exact this)]
end
theorem emb_nds (t:Tr):Emb (nds t) 0 (ndsT 0 (-1) t):=fun k _=>by rw [Nat.zero_add];rfl
theorem relT_nds (t:Tr):relT (labN (nds t)) 0 t=t:=relT_self _ t 0 (-1) (emb_nds t)
def updL (f:Nat→ByteArray) (n:Nat) (s:ByteArray):Nat→ByteArray:=fun i=>if i=n then s else f i
theorem updL_ne {f:Nat→ByteArray} {n i:Nat} {s:ByteArray} (h:i≠n):f i=updL f n s i:=by unfold updL;rw [if_neg h]
theorem done_named {d:Dee} (hd:d.kind=1):∀ (t:Tr) (f:Nat→ByteArray) (p n:Nat),n < t.sz→doneT d (pathT t n) (relT f p t)=(relT (updL f (p+n) d.lab) p t,0):=by
  refine Tr.ind fun l ks ih f p n hn=>?_
  rw [Tr.sz_node] at hn
  have key:∀ (js:List Tr) (p n:Nat) (m:ByteArray) (pre:List Tr),(∀ j∈js,j∈ks)→n < Tr.szL js →
      doneT d (pathF js pre.length n) (.node m (pre ++ relF f p js))=(.node m (pre ++ relF (updL f (p+n) d.lab) p js),0):=by
    intro js
    induction js with
    | nil=>intro p n m pre _ h;simp at h
    | cons k js ihj =>
      intro p n m pre hm hn
      rw [Tr.szL_cons] at hn
      rw [pathF,relF,relF]
      by_cases hk:n < k.sz
      · rw [if_pos hk]
        have e1:relF (updL f (p+n) d.lab) (p+k.sz) js=relF f (p+k.sz) js:=(relF_congr js _ fun i a _=>updL_ne (by omega)).symm
        rw [e1,doneT_node,if_neg (fun e=>by omega),if_neg (by simp;omega),kidN_at,ih k (hm k (by simp)) f p n hk]
        simp
      · rw [if_neg hk]
        have e1:relT (updL f (p+n) d.lab) p k=relT f p k:=(relT_congr k p fun i _ b=>updL_ne (by omega)).symm
        have:=ihj (p+k.sz) (n - k.sz) m (pre ++ [relT f p k]) (fun z hz=>hm z (List.mem_cons_of_mem _ hz)) (by omega)
        rw [List.length_append,List.length_singleton,List.append_assoc,List.append_assoc,show p+k.sz+(n - k.sz)=p+n by omega] at this
        rw [e1];exact this
  rw [pathT,relT_node,relT_node]
  by_cases hr:n=Tr.szL ks
  · have e1:relF (updL f (p+n) d.lab) p ks=relF f p ks:=(relF_congr ks p fun i _ b=>updL_ne (by omega)).symm
    rw [pathF_out ks 0 n (by omega),e1]
    show leafT d _ 0=_
    rw [leafT_node,if_pos hd,hr]
    simp [updL]
  · have e1:updL f (p+n) d.lab (p+Tr.szL ks)=f (p+Tr.szL ks):=(updL_ne (by omega)).symm
    have:=key ks p n (f (p+Tr.szL ks)) [] (fun _ h=>h) (by omega)
    rw [e1];simpa using this
theorem rel_deep (f:Nat→ByteArray):∀ (t:Tr) (p:Nat) (n:Int),t.deepZ n=true→(relT f p t).deepZ n=true:=by
  refine Tr.ind fun l ks ih p n h=>?_
  rw [Tr.deepZ] at h
  simp only [Bool.and_eq_true,decide_eq_true_eq,Tr.deepZL_iff] at h
  rw [relT_node,Tr.deepZ]
  simp only [Bool.and_eq_true,decide_eq_true_eq,Tr.deepZL_iff]
  refine ⟨h.1,?_⟩
  have key:∀ (js:List Tr) (p:Nat),(∀ j∈js,j∈ks)→∀ k∈relF f p js,k.deepZ (n - 1)=true:=by
    intro js
    induction js with
    | nil=>intro p _ k hk;simp [relF] at hk
    | cons j js ihj =>
      intro p hm k hk
      rw [relF] at hk
      rcases List.mem_cons.1 hk with rfl | hk
      · exact ih j (hm j (by simp)) p (n - 1) (h.2 j (hm j (by simp)))
      · exact ihj _ (fun z hz=>hm z (List.mem_cons_of_mem _ hz)) k hk
  exact key ks p fun _ h=>h
theorem rel_named (f:Nat→ByteArray):∀ (t:Tr) (p:Nat),(∀ i,p≤i→i < p+t.sz→isLab (f i)=true)→(relT f p t).named=true:=by
  refine Tr.ind fun l ks ih p h=>?_
  rw [Tr.sz_node] at h
  rw [relT_node,Tr.named_node]
  refine ⟨h _ (by omega) (by omega),?_⟩
  have key:∀ (js:List Tr) (p:Nat),(∀ j∈js,j∈ks)→(∀ i,p≤i→i < p+Tr.szL js→isLab (f i)=true)→∀ k∈relF f p js,k.named=true:=by
    intro js
    induction js with
    | nil=>intro p _ _ k hk;simp [relF] at hk
    | cons j js ihj =>
      intro p hm h k hk
      rw [relF] at hk
      rw [Tr.szL_cons] at h
      rcases List.mem_cons.1 hk with rfl | hk
      · exact ih j (hm j (by simp)) p fun i a b=>h i a (by omega)
      · exact ihj _ (fun z hz=>hm z (List.mem_cons_of_mem _ hz)) (fun i a b=>h i (by omega) (by omega)) k hk
  exact key ks p (fun _ h=>h) fun i a b=>h i a (by omega)
theorem rel_fault {t:Tr} (h:fault t=0) {f:Nat→ByteArray} (hf:∀ i,i < t.sz→isLab (f i)=true):fault (relT f 0 t)=0:=by
  obtain ⟨h1,h2,_⟩:=fault_zero.1 h
  exact fault_zero.2 ⟨by rw [relT_sz];exact h1,rel_deep f t 0 10 h2,rel_named f t 0 fun i _ b=>hf i (by omega)⟩
mutual
theorem lab_nds:∀ (t:Tr) (p:Nat) (r:Int),t.named=true→∀ x∈ndsT p r t,isLab x.lab=true
  | .node l ks,p,r,h=>by
    rw [Tr.named_node] at h
    rw [ndsT]
    intro x hx
    rcases List.mem_append.1 hx with hx | hx
    · exact lab_ndsF ks p _ h.2 x hx
    · rw [List.mem_singleton] at hx;subst hx;exact h.1
theorem lab_ndsF:∀ (ks:List Tr) (p:Nat) (r:Int),(∀ k∈ks,k.named=true)→∀ x∈ndsF p r ks,isLab x.lab=true
  | [],p,r,h=>by simp [ndsF]
  | k :: ks,p,r,h=>by
    rw [ndsF]
    intro x hx
    rcases List.mem_append.1 hx with hx | hx
    · exact lab_nds k p r (h k (by simp)) x hx
    · exact lab_ndsF ks _ r (fun k hk=>h k (List.mem_cons_of_mem _ hk)) x hx
end
theorem labN_is {t:Tr} (h:fault t=0) (i:Nat) (hi:i < t.sz):isLab (labN (nds t) i)=true:=by
  have hl:=nds_length t
  rw [labN_get _ _ (by omega)]
  exact lab_nds t 0 (-1) (fault_zero.1 h).2.2 _ (List.getElem_mem _)
def namesL (x:Tr) (xs ys:List Nd):List Nat→List Dee
  | []=>[]
  | i :: is=>if labN xs i=labN ys i then namesL x xs ys is else ⟨1,pathT x i,0,0,labN ys i⟩ :: namesL x xs ys is
theorem pathT_pos:∀ (t:Tr) (n:Nat),∀ x∈pathT t n,0≤x:=by
  refine Tr.ind fun l ks ih n=>?_
  rw [pathT]
  have key:∀ (js:List Tr) (c n:Nat),(∀ j∈js,j∈ks)→∀ x∈pathF js c n,(0:Int)≤x:=by
    intro js
    induction js with
    | nil=>intro c n _ x hx;simp [pathF] at hx
    | cons j js ihj =>
      intro c n hm x hx
      rw [pathF] at hx
      split at hx
      · rcases List.mem_cons.1 hx with rfl | hx
        · omega
        · exact ih j (hm j (by simp)) n x hx
      · exact ihj _ _ (fun z hz=>hm z (List.mem_cons_of_mem _ hz)) x hx
  exact key ks 0 n fun _ h=>h
theorem names_ok {x y:Tr} (hx:fault x=0) (hy:fault y=0) (hb:bare x=bare y):∀ (n i j:Nat),i+n=x.sz →
    ∃ back,runGo j (relT (fun k=>if k < i then labN (nds y) k else labN (nds x) k) 0 x) (namesL x (nds x) (nds y) (List.range' i n))=.ok (y,back)
  | 0,i,j,h=>by
    refine ⟨[],?_⟩
    have e:relT (fun k=>if k < i then labN (nds y) k else labN (nds x) k) 0 x=y:=by
      rw [relT_congr (h:=labN (nds y)) x 0 fun k _ b=>if_pos (by omega),relT_form hb,relT_nds]
    rw [e];rfl
  | n+1,i,j,h=>by
    have hsz:x.sz=y.sz:=by rw [← bare_sz x,hb,bare_sz]
    rw [List.range'_succ,namesL]
    by_cases he:labN (nds x) i=labN (nds y) i
    · rw [if_pos he]
      obtain ⟨back,ih⟩:=names_ok hx hy hb n (i+1) j (by omega)
      rw [relT_congr (h:=fun k=>if k < i+1 then labN (nds y) k else labN (nds x) k) x 0 fun k _ _=>?_]
      · exact ⟨back,ih⟩
      · by_cases hk:k=i
        · subst hk;simp [he]
        · simp only [show (k < i)=(k < i+1) by simp only [eq_iff_iff];omega]
    · rw [if_neg he]
      obtain ⟨back,ih⟩:=names_ok hx hy hb n (i+1) (j+1) (by omega)
      have hd:=done_named (d:=⟨1,pathT x i,0,0,labN (nds y) i⟩) rfl x (fun k=>if k < i then labN (nds y) k else labN (nds x) k) 0 i (by omega)
      have e:relT (updL (fun k=>if k < i then labN (nds y) k else labN (nds x) k) (0+i) (labN (nds y) i)) 0 x=relT (fun k=>if k < i+1 then labN (nds y) k else labN (nds x) k) 0 x:=by
        refine relT_congr x 0 fun k _ _=>?_
        unfold updL
        by_cases hk:k=i
        · subst hk;simp
        · rw [if_neg (by omega)]
          simp only [show (k < i)=(k < i+1) by simp only [eq_iff_iff];omega]
      simp only [] at hd
      rw [e] at hd
      have hl:∀ c k,k < x.sz→isLab (if k < c then labN (nds y) k else labN (nds x) k)=true:=fun c k hk=>by
        split
        · exact labN_is hy k (by omega)
        · exact labN_is hx k hk
      have hok:(doD (relT (fun k=>if k < i then labN (nds y) k else labN (nds x) k) 0 x) ⟨1,pathT x i,0,0,labN (nds y) i⟩).2.2=0:=by
        refine doD_ok.2 ⟨rel_fault hx (hl i),dfault_zero.2 ⟨by simp,by simp,by simp,by simp,by simp,pathT_pos _ _,fun _=>labN_is hy i (by omega)⟩,?_,?_⟩
        · rw [hd]
        · rw [hd];exact rel_fault hx (hl (i+1))
      have hx2:(doD (relT (fun k=>if k < i then labN (nds y) k else labN (nds x) k) 0 x) ⟨1,pathT x i,0,0,labN (nds y) i⟩).1=relT (fun k=>if k < i+1 then labN (nds y) k else labN (nds x) k) 0 x:=by
        rw [doD_is hok,hd]
      rw [← hx2] at ih
      exact ⟨_,runGo_ok hok ih⟩
theorem names_run {x y:Tr} (hx:fault x=0) (hy:fault y=0) (hb:bare x=bare y) (j:Nat):∃ back,runGo j x (namesL x (nds x) (nds y) (List.range' 0 x.sz))=.ok (y,back):=by
  have:=names_ok hx hy hb x.sz 0 j (by omega)
  rw [relT_congr (h:=labN (nds x)) x 0 fun k _ _=>if_neg (by omega),relT_nds] at this
  exact this
theorem rng_form {xs ys:List Nd}:∀ (N i i0:Nat),i < N→(∀ k,k < i→lfN xs k=lfN ys k)→bareL (rng xs i0 i)=bareL (rng ys i0 i)
  | 0,i,i0,h,_=>by omega
  | N+1,0,i0,h,_=>by rw [rng_nil _ _ _ (Nat.zero_le _),rng_nil _ _ _ (Nat.zero_le _)]
  | N+1,i+1,i0,h,hl=>by
    by_cases h0:i0≤i
    · have hle:=lfN_le xs i
      rw [rng_succ xs i0 i h0,rng_succ ys i0 i h0,bareL_append,bareL_append,← hl i (by omega)]
      rw [rng_form N (lfN xs i) i0 (by omega) fun k hk=>hl k (by omega)]
      congr 1
      simp only [bareL,bare_node]
      rw [rng_form N i (lfN xs i) (by omega) fun k hk=>hl k (by omega)]
    · rw [rng_nil _ _ _ (by omega),rng_nil _ _ _ (by omega)]
theorem form_of_left {t u:Tr} (h:(nds t).map (·.left)=(nds u).map (·.left)):bare t=bare u:=by
  have hl:t.sz=u.sz:=by
    have:=congrArg List.length h
    rw [List.length_map,List.length_map,nds_length,nds_length] at this;exact this
  have:=rng_form (xs:=nds t) (ys:=nds u) _ t.sz 0 (Nat.lt_succ_self _) fun k hk=>by
    have h1:=nds_length t
    have h2:=nds_length u
    have e:((nds t).map (·.left))[k]? = ((nds u).map (·.left))[k]? := by rw [h]
    rw [List.getElem?_map,List.getElem?_map,List.getElem?_eq_getElem (by omega),List.getElem?_eq_getElem (by omega)] at e
    unfold lfN
    rw [List.getElem?_eq_getElem (by omega),List.getElem?_eq_getElem (by omega)]
    simp only [Option.map_some,Option.some.injEq] at e ⊢
    rw [e]
  rw [rng_nds,hl,rng_nds] at this
  simpa [bareL] using this
end Go.Proofs.YtdbnfhpgmcjngabGreatDoor
/- Plain: as few deeds as can be that make one tree another one. No program here. -/
namespace Go.Proofs.YtdbnfhpgmcjngabGreatDoor
theorem sorted_eq:∀ (l m:List Nat),l.Pairwise (fun a b=>a < b)→m.Pairwise (fun a b=>a < b)→(∀ x,x∈l↔x∈m)→l=m
  | [],[],_,_,_=>rfl
  | [],y :: m,_,_,h=>by have:=(h y).2 (by simp);cases this
  | x :: l,[],_,_,h=>by have:=(h x).1 (by simp);cases this
  | x :: l,y :: m,hl,hm,h=>by
    rw [List.pairwise_cons] at hl hm
    have e:x=y:=by
      rcases List.mem_cons.1 ((h x).1 (by simp)) with e | e
      · exact e
      · rcases List.mem_cons.1 ((h y).2 (by simp)) with e2 | e2
        · exact e2.symm
        · have:=hm.1 x e;have:=hl.1 y e2;omega
    subst e
    congr 1
    refine sorted_eq l m hl.2 hm.2 fun z=>⟨fun hz=>?_,fun hz=>?_⟩
    · rcases List.mem_cons.1 ((h z).1 (List.mem_cons_of_mem _ hz)) with e | e
      · subst e;have:=hl.1 z hz;omega
      · exact e
    · rcases List.mem_cons.1 ((h z).2 (List.mem_cons_of_mem _ hz)) with e | e
      · subst e;have:=hm.1 z hz;omega
      · exact e
def kept (g:Nat→Bool) (m:Nat):Nat:=(List.range' 0 m).countP fun i=>!g i
theorem kept_add (g:Nat→Bool) (p n:Nat):kept g (p+n)=kept g p+((List.range' p n).filter fun i=>!g i).length:=by
  unfold kept
  rw [← List.range'_append_1,List.countP_append,Nat.zero_add,List.countP_eq_length_filter,List.countP_eq_length_filter]
def bothN (x:Nd):ByteArray × Int:=(x.lab,x.left)
def nowN (l:List Nd) (g:Nat→Bool) (i:Nat):ByteArray × Int:=(labN l i,(kept g (lfN l i):Int))
theorem ndsF_append_map (A B:List Tr) (c:Nat) (r:Int):(ndsF c r (A ++ B)).map bothN=(ndsF c r A).map bothN ++ (ndsF (c+Tr.szL A) r B).map bothN:=by rw [ndsF_append,List.map_append]
theorem nds_prT (l:List Nd) (g:Nat→Bool):∀ (k:Tr) (p:Nat) (r:Int) (c:Nat) (r':Int),Emb l p (ndsT p r k)→c=kept g p →
    (ndsF c r' (prT g p k)).map bothN=((List.range' p k.sz).filter fun i=>!g i).map (nowN l g):=by
  refine Tr.ind fun m js ih p r c r' he hc=>?_
  have key:∀ (is:List Tr) (p:Nat) (r:Int) (c:Nat) (r':Int),(∀ i∈is,i∈js)→Emb l p (ndsF p r is)→c=kept g p →
      (ndsF c r' (prF g p is)).map bothN=((List.range' p (Tr.szL is)).filter fun i=>!g i).map (nowN l g):=by
    intro is
    induction is with
    | nil=>intro p r c r' _ _ _;simp [prF,ndsF]
    | cons i is ihi =>
      intro p r c r' hm he hc
      rw [ndsF] at he
      have h1:=ih i (hm i (by simp)) p r c r' he.left hc
      have hsz:Tr.szL (prT g p i)=((List.range' p i.sz).filter fun i=>!g i).length:=by
        have:=congrArg List.length h1
        rw [List.length_map,List.length_map,ndsF_length] at this;exact this
      have h2:=ihi (p+i.sz) r (c+Tr.szL (prT g p i)) r' (fun z hz=>hm z (List.mem_cons_of_mem _ hz)) (by have:=he.right;rw [ndsT_length] at this;exact this) (by rw [hsz,kept_add,hc])
      rw [prF,ndsF_append_map,h1,h2,Tr.szL_cons,← List.range'_append_1,List.filter_append,List.map_append]
  rw [ndsT] at he
  have hr:l[p+Tr.szL js]? = some ⟨m,r,(p:Int)⟩:=by have:=he.right;rw [ndsF_length] at this;exact this.one
  have hlab:labN l (p+Tr.szL js)=m:=by unfold labN;rw [hr]
  have hlf:lfN l (p+Tr.szL js)=p:=by unfold lfN;rw [hr];simp only [];omega
  rw [prT_node,Tr.sz_node,← List.range'_append_1,List.filter_append]
  by_cases hg:g (p+Tr.szL js)=true
  · rw [if_pos hg,key js p _ c r' (fun _ h=>h) he.left hc]
    simp [hg]
  · have hg':g (p+Tr.szL js)=false:=by simpa using hg
    rw [if_neg hg,ndsF_one,ndsT,List.map_append,key js p _ c _ (fun _ h=>h) he.left hc,List.map_append]
    simp [hg',bothN,nowN,hlab,hlf,hc]
theorem nds_prune (g:Nat→Bool) (t:Tr) (hg:g (t.sz - 1)=false):(nds (prune g t)).map bothN=((List.range' 0 t.sz).filter fun i=>!g i).map (nowN (nds t) g):=by
  have:=nds_prT (nds t) g t 0 (-1) 0 (-1) (emb_nds t) rfl
  rw [← this]
  obtain ⟨l,ks⟩:=t
  rw [Tr.sz_node,Nat.add_sub_cancel] at hg
  rw [prT_node,Nat.zero_add,hg]
  simp only [Bool.false_eq_true,if_false,ndsF_one]
  rfl
def goneL (K:List Nat) (n:Nat):List Nat:=(List.range' 0 n).filter fun i=>decide (i ∉ K)
theorem mem_goneL {K:List Nat} {n i:Nat}:i∈goneL K n↔i < n∧i ∉ K:=by simp [goneL]
theorem range_sorted (p n:Nat):(List.range' p n).Pairwise (fun a b=>a < b):=List.pairwise_lt_range'
theorem goneL_sorted (K:List Nat) (n:Nat):(goneL K n).Pairwise (fun a b=>a < b):=(range_sorted 0 n).filter _
section
variable {K:List Nat} {n:Nat}
theorem stays_is (hK:K.Pairwise (fun a b=>a < b)) (hn:∀ i∈K,i < n):((List.range' 0 n).filter fun i=>!inL (goneL K n) i)=K:=by
  refine sorted_eq _ _ ((range_sorted 0 n).filter _) hK fun x=>?_
  rw [List.mem_filter,List.mem_range'_1]
  simp only [inL,Bool.not_eq_true',decide_eq_false_iff_not,mem_goneL]
  constructor
  · rintro ⟨⟨_,h⟩,h2⟩
    by_cases hx:x∈K
    · exact hx
    · exact absurd ⟨by omega,hx⟩ h2
  · intro h;exact ⟨⟨by omega,by have:=hn x h;omega⟩,fun h2=>h2.2 h⟩
theorem kept_is (hK:K.Pairwise (fun a b=>a < b)) {m:Nat} (hm:m≤n):kept (inL (goneL K n)) m=(K.filter fun i=>decide (i < m)).length:=by
  unfold kept
  rw [List.countP_eq_length_filter]
  congr 1
  refine sorted_eq _ _ ((range_sorted 0 m).filter _) (hK.filter _) fun x=>?_
  rw [List.mem_filter,List.mem_filter,List.mem_range'_1]
  simp only [inL,Bool.not_eq_true',decide_eq_false_iff_not,mem_goneL,decide_eq_true_eq]
  constructor
  · rintro ⟨⟨_,h⟩,h2⟩
    refine ⟨?_,by omega⟩
    by_cases hx:x∈K
    · exact hx
    · exact absurd ⟨by omega,hx⟩ h2
  · rintro ⟨h,h2⟩;exact ⟨⟨by omega,by omega⟩,fun h3=>h3.2 h⟩
theorem goneL_length (hK:K.Pairwise (fun a b=>a < b)) (hn:∀ i∈K,i < n):(goneL K n).length+K.length=n:=by
  have h1:((List.range' 0 n).filter fun i=>decide (i∈K))=K:=by
    refine sorted_eq _ _ ((range_sorted 0 n).filter _) hK fun x=>?_
    rw [List.mem_filter,List.mem_range'_1]
    simp only [decide_eq_true_eq]
    exact ⟨fun h=>h.2,fun h=>⟨⟨by omega,by have:=hn x h;omega⟩,h⟩⟩
  have h2:=List.length_eq_countP_add_countP (fun i=>decide (i∈K)) (l:=List.range' 0 n)
  rw [List.length_range',List.countP_eq_length_filter,h1,List.countP_eq_length_filter] at h2
  have h3:(goneL K n).length=((List.range' 0 n).filter fun a=>decide ¬(decide (a∈K))=true).length:=by
    unfold goneL;congr 1;refine List.filter_congr fun x _=>?_;simp
  omega
end
section
variable {a b:Tr} {P:List (Nat × Nat)}
theorem Good.rise1 {xs ys:List Nd} (h:Good xs ys P):(P.map (·.1)).Pairwise (fun a b=>a < b):=by rw [List.pairwise_map];exact h.imp fun h=>h.1
theorem Good.rise2 {xs ys:List Nd} (h:Good xs ys P):(P.map (·.2)).Pairwise (fun a b=>a < b):=by rw [List.pairwise_map];exact h.imp fun h=>h.2.1
theorem Good.left {xs ys:List Nd} (h:Good xs ys P) {p q:Nat × Nat} (hp:p∈P) (hq:q∈P):p.1 < lfN xs q.1↔p.2 < lfN ys q.2:=by
  obtain ⟨i,hi,rfl⟩:=List.getElem_of_mem hp
  obtain ⟨j,hj,rfl⟩:=List.getElem_of_mem hq
  have hg:=List.pairwise_iff_getElem.1 h
  have l1:=lfN_le xs P[j].1
  have l2:=lfN_le ys P[j].2
  by_cases h1:i < j
  · have:=(hg i j hi hj h1).2.2;omega
  · by_cases h2:j < i
    · have:=hg j i hj hi h2;omega
    · obtain rfl:i=j:=by omega
      omega
def lessT (t:Tr) (K:List Nat):Tr:=prune (inL (goneL K t.sz)) t
theorem lessT_both {t:Tr} {K:List Nat} (hK:K.Pairwise (fun a b=>a < b)) (hn:∀ i∈K,i < t.sz) (hr:t.sz - 1∈K) :
    (nds (lessT t K)).map bothN=K.map fun i=>(labN (nds t) i,((K.filter fun j=>decide (j < lfN (nds t) i)).length:Int)):=by
  have hpos:=t.sz_pos
  have hg:inL (goneL K t.sz) (t.sz - 1)=false:=by
    simp only [inL,decide_eq_false_iff_not,mem_goneL];exact fun h=>h.2 hr
  unfold lessT
  rw [nds_prune _ _ hg,stays_is hK hn]
  refine List.map_congr_left fun i hi=>?_
  have:=hn i hi
  have hl:=lfN_le (nds t) i
  unfold nowN
  rw [kept_is hK (by omega)]
theorem less_form (hg:Good (nds a) (nds b) P) (h1:∀ p∈P,p.1 < a.sz∧p.2 < b.sz) (hr:(a.sz - 1,b.sz - 1)∈P):bare (lessT a (P.map (·.1)))=bare (lessT b (P.map (·.2))):=by
  have e1:=lessT_both (t:=a) hg.rise1 (fun i hi=>by obtain ⟨p,hp,rfl⟩:=List.mem_map.1 hi;exact (h1 p hp).1) (List.mem_map.2 ⟨_,hr,rfl⟩)
  have e2:=lessT_both (t:=b) hg.rise2 (fun i hi=>by obtain ⟨p,hp,rfl⟩:=List.mem_map.1 hi;exact (h1 p hp).2) (List.mem_map.2 ⟨_,hr,rfl⟩)
  refine form_of_left ?_
  have f1:=congrArg (List.map Prod.snd) e1
  have f2:=congrArg (List.map Prod.snd) e2
  rw [List.map_map,List.map_map,List.map_map] at f1 f2
  refine f1.trans (Eq.trans ?_ f2.symm)
  refine List.map_congr_left fun q hq=>?_
  simp only [Function.comp]
  congr 1
  rw [List.filter_map,List.filter_map,List.length_map,List.length_map]
  congr 1
  refine List.filter_congr fun p hp=>?_
  simp only [Function.comp,decide_eq_decide]
  exact hg.left hp hq
def undoL (t:Tr) (L:List Nat):List Dee:=match runGo 0 t (delL t [] L) with | .ok r=>r.2 | .error _=>[]
def diffP (a b:Tr) (P:List (Nat × Nat)):List Dee :=
  delL a [] (goneL (P.map (·.1)) a.sz) ++ (namesL (lessT a (P.map (·.1))) (nds (lessT a (P.map (·.1)))) (nds (lessT b (P.map (·.2)))) (List.range' 0 (lessT a (P.map (·.1))).sz) ++ undoL b (goneL (P.map (·.2)) b.sz))
theorem undo_ok {t:Tr} (ht:fault t=0) {K:List Nat} (hr:t.sz - 1∈K):runGo 0 t (delL t [] (goneL K t.sz))=.ok (lessT t K,undoL t (goneL K t.sz)):=by
  have hpos:=t.sz_pos
  obtain ⟨back,h⟩:=del_ok ht (goneL K t.sz) [] 0 (by rw [List.nil_append];exact goneL_sorted _ _) (fun n hn=>by
    rw [mem_goneL] at hn
    have:n≠t.sz - 1:=fun e=>hn.2 (e ▸ hr)
    omega)
  rw [inL_nil,prune_none,List.nil_append] at h
  unfold undoL lessT;rw [h]
theorem lab_both {xs:List Nd} {i:Nat} {L:List (ByteArray × Int)} (h:xs.map bothN=L):labN xs i=((L[i]?).map (·.1)).getD ⟨#[]⟩:=by
  subst h
  rw [List.getElem?_map]
  unfold labN
  cases xs[i]? <;> rfl
theorem namesL_length (x:Tr) (xs ys:List Nd):∀ l:List Nat,(namesL x xs ys l).length=(l.map fun i=>lc (labN xs i) (labN ys i)).foldr (·+·) 0
  | []=>rfl
  | i :: l=>by
    have ih:=namesL_length x xs ys l
    rw [namesL,List.map_cons,List.foldr_cons]
    by_cases h:labN xs i=labN ys i
    · rw [if_pos h,h,lc_self,ih,Nat.zero_add]
    · rw [if_neg h,List.length_cons,ih]
      have:lc (labN xs i) (labN ys i)=1:=by unfold lc;rw [if_neg h]
      omega
theorem diff_ok (ha:fault a=0) (hb:fault b=0):(∃ back,runGo 0 a (diffP a b (bestT a b))=.ok (b,back))∧(diffP a b (bestT a b)).length=costT a b:=by
  obtain ⟨h1,hg,hcost⟩:=bestT_good a b
  have hroot:(a.sz - 1,b.sz - 1)∈bestT a b:=by unfold bestT;simp
  generalize bestT a b=P at *
  have n1:∀ i∈P.map (·.1),i < a.sz:=fun i hi=>by obtain ⟨p,hp,rfl⟩:=List.mem_map.1 hi;exact (h1 p hp).1
  have n2:∀ i∈P.map (·.2),i < b.sz:=fun i hi=>by obtain ⟨p,hp,rfl⟩:=List.mem_map.1 hi;exact (h1 p hp).2
  have r1:a.sz - 1∈P.map (·.1):=List.mem_map.2 ⟨_,hroot,rfl⟩
  have r2:b.sz - 1∈P.map (·.2):=List.mem_map.2 ⟨_,hroot,rfl⟩
  have u1:=undo_ok ha r1
  have u2:=undo_ok hb r2
  have hform:=less_form hg h1 hroot
  have fa:fault (lessT a (P.map (·.1)))=0:=prune_fault _ ha
  have fb:fault (lessT b (P.map (·.2)))=0:=prune_fault _ hb
  have e1:=lessT_both hg.rise1 n1 r1
  have e2:=lessT_both hg.rise2 n2 r2
  have hsz:(lessT a (P.map (·.1))).sz=P.length:=by
    have:=congrArg List.length e1
    rw [List.length_map,List.length_map,List.length_map,nds_length] at this;exact this
  constructor
  · obtain ⟨bk,hn⟩:=names_run fa fb hform (delL a [] (goneL (P.map (·.1)) a.sz)).length
    have h3:=runGo_back ((delL a [] (goneL (P.map (·.1)) a.sz)).length+(namesL (lessT a (P.map (·.1))) (nds (lessT a (P.map (·.1)))) (nds (lessT b (P.map (·.2)))) (List.range' 0 (lessT a (P.map (·.1))).sz)).length) u2
    simp only [] at h3
    refine ⟨(delL b [] (goneL (P.map (·.2)) b.sz) ++ bk) ++ undoL a (goneL (P.map (·.1)) a.sz),?_⟩
    unfold diffP
    rw [runGo_append,u1]
    simp only [Nat.zero_add]
    rw [runGo_append,hn]
    simp only []
    rw [h3]
  · have l1:=goneL_length hg.rise1 n1
    have l2:=goneL_length hg.rise2 n2
    rw [List.length_map] at l1 l2
    have lu:=runGo_length u2
    simp only [] at lu
    unfold diffP
    rw [List.length_append,List.length_append,delL_length,lu,delL_length,namesL_length,hsz]
    have:((List.range' 0 P.length).map fun i=>lc (labN (nds (lessT a (P.map (·.1)))) i) (labN (nds (lessT b (P.map (·.2)))) i))=P.map fun p=>lc (labN (nds a) p.1) (labN (nds b) p.2):=by
      refine List.ext_getElem (by simp) fun i h2 h3=>?_
      rw [List.length_map] at h3
      rw [List.getElem_map,List.getElem_map,List.getElem_range',lab_both e1,lab_both e2,Nat.zero_add,Nat.one_mul]
      simp [h3]
    rw [this]
    unfold nameC at hcost
    omega
end
end Go.Proofs.YtdbnfhpgmcjngabGreatDoor
/- Plain: as many as can be that two lists have in common. No program here. -/
namespace Go.Proofs.YtdbnfhpgmcjngabGreatDoor
def lcs:List Tr→List Tr→Nat
  | [],_=>0
  | _ :: _,[]=>0
  | x :: xs,y :: ys=>if x.beq y=true then lcs xs ys+1 else max (lcs xs (y :: ys)) (lcs (x :: xs) ys)
termination_by a b=>a.length+b.length
def com:List Tr→List Tr→Nat→Nat→List (Nat × Nat)
  | [],_,_,_=>[]
  | _ :: _,[],_,_=>[]
  | x :: xs,y :: ys,i,j=>if x.beq y=true then (i,j) :: com xs ys (i+1) (j+1) else if lcs (x :: xs) ys≤lcs xs (y :: ys) then com xs (y :: ys) (i+1) j else com (x :: xs) ys i (j+1)
termination_by a b=>a.length+b.length
theorem lcs_nil (b:List Tr):lcs [] b=0:=by rw [lcs]
theorem lcs_nil_right (a:List Tr):lcs a []=0:=by cases a <;> rw [lcs]
theorem com_nil (b:List Tr) (i j:Nat):com [] b i j=[]:=by rw [com]
theorem com_nil_right (a:List Tr) (i j:Nat):com a [] i j=[]:=by cases a <;> rw [com]
theorem lcs_cons (x y:Tr) (xs ys:List Tr):lcs (x :: xs) (y :: ys)=if x.beq y=true then lcs xs ys+1 else max (lcs xs (y :: ys)) (lcs (x :: xs) ys):=by rw [lcs]
theorem com_cons (x y:Tr) (xs ys:List Tr) (i j:Nat):com (x :: xs) (y :: ys) i j=if x.beq y=true then (i,j) :: com xs ys (i+1) (j+1) else if lcs (x :: xs) ys≤lcs xs (y :: ys) then com xs (y :: ys) (i+1) j else com (x :: xs) ys i (j+1):=by rw [com]
theorem lcs_bounds:∀ (N:Nat) (a b:List Tr),a.length+b.length < N→(∀ x,lcs a b≤lcs (x :: a) b∧lcs (x :: a) b≤lcs a b+1)∧(∀ y,lcs a b≤lcs a (y :: b)∧lcs a (y :: b)≤lcs a b+1)
  | 0,a,b,h=>by omega
  | N+1,a,b,h=>by
    constructor
    · intro x
      cases b with
      | nil=>rw [lcs_nil_right,lcs_nil_right];omega
      | cons y ys =>
        simp only [List.length_cons] at h
        have h1:=(lcs_bounds N a ys (by omega)).2 y
        have h2:=(lcs_bounds N a ys (by omega)).1 x
        rw [lcs_cons]
        split <;> omega
    · intro y
      cases a with
      | nil=>rw [lcs_nil,lcs_nil];omega
      | cons x xs =>
        simp only [List.length_cons] at h
        have h1:=(lcs_bounds N xs b (by omega)).1 x
        have h2:=(lcs_bounds N xs b (by omega)).2 y
        rw [lcs_cons]
        split <;> omega
theorem lcs_left (a b:List Tr) (x:Tr):lcs a b≤lcs (x :: a) b∧lcs (x :: a) b≤lcs a b+1:=(lcs_bounds _ a b (Nat.lt_succ_self _)).1 x
theorem lcs_right (a b:List Tr) (y:Tr):lcs a b≤lcs a (y :: b)∧lcs a (y :: b)≤lcs a b+1:=(lcs_bounds _ a b (Nat.lt_succ_self _)).2 y
theorem lcs_le:∀ (a b:List Tr),lcs a b≤a.length∧lcs a b≤b.length
  | [],b=>by rw [lcs_nil];omega
  | x :: xs,b=>by
    have h1:=lcs_le xs b
    have h2:=lcs_left xs b x
    refine ⟨by simp;omega,?_⟩
    clear h1 h2
    induction b with
    | nil=>rw [lcs_nil_right];omega
    | cons y ys ih=>have:=lcs_right (x :: xs) ys y;simp;omega
structure ComOk (a b:List Tr) (i j:Nat) (l:List (Nat × Nat)):Prop where
  rise:l.Pairwise fun p q=>p.1 < q.1∧p.2 < q.2
  here:∀ p∈l,i≤p.1∧j≤p.2∧∃ t,a[p.1 - i]? = some t∧b[p.2 - j]? = some t
theorem com_ok:∀ (N:Nat) (a b:List Tr) (i j:Nat),a.length+b.length < N→ComOk a b i j (com a b i j)
  | 0,a,b,i,j,h=>by omega
  | N+1,[],b,i,j,h=>by rw [com_nil];exact ⟨List.Pairwise.nil,by simp⟩
  | N+1,x :: xs,[],i,j,h=>by rw [com_nil_right];exact ⟨List.Pairwise.nil,by simp⟩
  | N+1,x :: xs,y :: ys,i,j,h=>by
    simp only [List.length_cons] at h
    rw [com_cons]
    have up:∀ (z:Tr) (zs:List Tr) (n k:Nat),k+1≤n→(z :: zs)[n - k]? = zs[n - (k+1)]? := fun z zs n k hn=>by
      rw [show n - k=(n - (k+1))+1 by omega];rfl
    by_cases h1:x.beq y=true
    · rw [if_pos h1]
      obtain ⟨r,g⟩:=com_ok N xs ys (i+1) (j+1) (by omega)
      refine ⟨List.pairwise_cons.2 ⟨fun q hq=>?_,r⟩,fun p hp=>?_⟩
      · have:=g q hq;simp only [];omega
      · rcases List.mem_cons.1 hp with rfl | hp
        · exact ⟨Nat.le_refl _,Nat.le_refl _,x,by simp,by simp [(Tr.beq_iff x y).1 h1]⟩
        · obtain ⟨g1,g2,t,g3,g4⟩:=g p hp
          exact ⟨by omega,by omega,t,by rw [up _ _ _ _ g1];exact g3,by rw [up _ _ _ _ g2];exact g4⟩
    · rw [if_neg h1]
      by_cases h2:lcs (x :: xs) ys≤lcs xs (y :: ys)
      · rw [if_pos h2]
        obtain ⟨r,g⟩:=com_ok N xs (y :: ys) (i+1) j (by simp;omega)
        refine ⟨r,fun p hp=>?_⟩
        obtain ⟨g1,g2,t,g3,g4⟩:=g p hp
        exact ⟨by omega,by omega,t,by rw [up _ _ _ _ g1];exact g3,g4⟩
      · rw [if_neg h2]
        obtain ⟨r,g⟩:=com_ok N (x :: xs) ys i (j+1) (by simp;omega)
        refine ⟨r,fun p hp=>?_⟩
        obtain ⟨g1,g2,t,g3,g4⟩:=g p hp
        exact ⟨by omega,by omega,t,g3,by rw [up _ _ _ _ g2];exact g4⟩
def common (a b:List Tr):List (Nat × Nat):=com a b 0 0
theorem common_rise (a b:List Tr):(common a b).Pairwise fun p q=>p.1 < q.1∧p.2 < q.2:=(com_ok _ a b 0 0 (Nat.lt_succ_self _)).rise
theorem common_here (a b:List Tr) (p:Nat × Nat) (h:p∈common a b):∃ (h1:p.1 < a.length) (h2:p.2 < b.length),a[p.1]=b[p.2]:=by
  obtain ⟨_,_,t,g1,g2⟩:=(com_ok _ a b 0 0 (Nat.lt_succ_self _)).here p h
  obtain ⟨e1,f1⟩:=List.getElem?_eq_some_iff.1 g1
  obtain ⟨e2,f2⟩:=List.getElem?_eq_some_iff.1 g2
  simp only [Nat.sub_zero] at e1 e2 f1 f2
  exact ⟨e1,e2,f1.trans f2.symm⟩
end Go.Proofs.YtdbnfhpgmcjngabGreatDoor
/- Plain: what two made of one. No program here. -/
namespace Go.Proofs.YtdbnfhpgmcjngabGreatDoor
abbrev Ex (α:Type):=Except (List Int) α
def mixL (o a b:ByteArray):Option ByteArray:=if a=b∨b=o then some a else if a=o then some b else none
def zipM (f:Tr→Tr→Tr→Ex Tr):List Tr→List Tr→List Tr→Nat→Ex (List Tr)
  | o :: os,a :: as,b :: bs,n=>match f o a b with
    | .error p=>.error ((n:Int) :: p)
    | .ok t=>match zipM f os as bs (n+1) with
      | .error p=>.error p
      | .ok ts=>.ok (t :: ts)
  | _,_,_,_=>.ok []
def partM (f:Tr→Tr→Tr→Ex Tr) (o a b:List Tr) (n:Nat):Ex (List Tr) :=
  if (Tr.beqL a o || Tr.beqL a b)=true then .ok b
  else if Tr.beqL b o=true then .ok a
  else if a.length≠o.length∨b.length≠o.length then .error []
  else zipM f o a b n
def held (x y:List (Nat × Nat)):List (Nat × Nat × Nat):=x.flatMap fun p=>(y.filter fun q=>p.1==q.1).map fun q=>(p.1,p.2,q.2)
def segM (f:Tr→Tr→Tr→Ex Tr) (o a b:List Tr):List (Nat × Nat × Nat)→Nat→Nat→Nat→Ex (List Tr)
  | [],i,j,k=>partM f (o.drop i) (a.drop j) (b.drop k) i
  | h :: H,i,j,k=>match partM f ((o.drop i).take (h.1 - i)) ((a.drop j).take (h.2.1 - j)) ((b.drop k).take (h.2.2 - k)) i with
    | .error e=>.error e
    | .ok s=>match segM f o a b H (h.1+1) (h.2.1+1) (h.2.2+1) with
      | .error e=>.error e
      | .ok r=>.ok (s ++ kidN o h.1 :: r)
def heldT (o a b:Tr):List (Nat × Nat × Nat):=held (common o.kids a.kids) (common o.kids b.kids)
def mixT:Nat→Tr→Tr→Tr→Ex Tr
  | 0,_,_,_=>.error []
  | N+1,o,a,b =>
    if (a.beq b || b.beq o)=true then .ok a
    else if a.beq o=true then .ok b
    else match mixL o.label a.label b.label with
      | none=>.error []
      | some l=>match segM (mixT N) o.kids a.kids b.kids (heldT o a b) 0 0 0 with
        | .error e=>.error e
        | .ok ks=>.ok (.node l ks)
theorem mixT_same (N:Nat) (o a b:Tr) (h:(a.beq b || b.beq o)=true):mixT (N+1) o a b=.ok a:=by rw [mixT,if_pos h]
theorem mixT_left (N:Nat) (o a b:Tr) (h:¬ (a.beq b || b.beq o)=true) (h1:a.beq o=true):mixT (N+1) o a b=.ok b:=by rw [mixT,if_neg h,if_pos h1]
theorem rise_eq {α:Type} (key:α→Nat):∀ (l m:List α),l.Pairwise (fun p q=>key p < key q)→m.Pairwise (fun p q=>key p < key q)→(∀ x,x∈l↔x∈m)→l=m
  | [],[],_,_,_=>rfl
  | [],y :: m,_,_,h=>by have:=(h y).2 (by simp);cases this
  | x :: l,[],_,_,h=>by have:=(h x).1 (by simp);cases this
  | x :: l,y :: m,hl,hm,h=>by
    rw [List.pairwise_cons] at hl hm
    have e:x=y:=by
      rcases List.mem_cons.1 ((h x).1 (by simp)) with e | e
      · exact e
      · rcases List.mem_cons.1 ((h y).2 (by simp)) with e2 | e2
        · exact e2.symm
        · have:=hm.1 x e;have:=hl.1 y e2;omega
    subst e
    congr 1
    refine rise_eq key l m hl.2 hm.2 fun z=>⟨fun hz=>?_,fun hz=>?_⟩
    · rcases List.mem_cons.1 ((h z).1 (List.mem_cons_of_mem _ hz)) with e | e
      · subst e;have:=hl.1 z hz;omega
      · exact e
    · rcases List.mem_cons.1 ((h z).2 (List.mem_cons_of_mem _ hz)) with e | e
      · subst e;have:=hm.1 z hz;omega
      · exact e
abbrev Rise (l:List (Nat × Nat)):Prop:=l.Pairwise fun p q=>p.1 < q.1∧p.2 < q.2
theorem Rise.one {l:List (Nat × Nat)} (h:Rise l) {n p q:Nat} (h1:(n,p)∈l) (h2:(n,q)∈l):p=q:=by
  induction l with
  | nil=>cases h1
  | cons x l ih =>
    rw [Rise,List.pairwise_cons] at h
    rcases List.mem_cons.1 h1 with e1 | e1 <;> rcases List.mem_cons.1 h2 with e2 | e2
    · rw [← e1] at e2;cases e2;rfl
    · have:=(h.1 _ e2).1;rw [← e1] at this;simp only [] at this;omega
    · have:=(h.1 _ e1).1;rw [← e2] at this;simp only [] at this;omega
    · exact ih h.2 e1 e2
theorem mem_held {x y:List (Nat × Nat)} {n p q:Nat}:(n,p,q)∈held x y↔(n,p)∈x∧(n,q)∈y:=by
  simp only [held,List.mem_flatMap,List.mem_map,List.mem_filter,beq_iff_eq,Prod.mk.injEq,Prod.exists]
  constructor
  · rintro ⟨a,b,hx,c,d,⟨hy,e⟩,rfl,rfl,rfl⟩
    subst e;exact ⟨hx,hy⟩
  · rintro ⟨hx,hy⟩;exact ⟨n,p,hx,n,q,⟨hy,rfl⟩,rfl,rfl,rfl⟩
theorem held_rise {x y:List (Nat × Nat)} (hx:Rise x) (hy:Rise y):(held x y).Pairwise fun p q=>p.1 < q.1∧p.2.1 < q.2.1∧p.2.2 < q.2.2:=by
  induction x with
  | nil=>exact List.Pairwise.nil
  | cons p x ih =>
    rw [Rise,List.pairwise_cons] at hx
    rw [held,List.flatMap_cons,List.pairwise_append]
    refine ⟨?_,ih hx.2,?_⟩
    · rw [List.pairwise_map]
      refine List.Pairwise.imp_of_mem ?_ (List.Pairwise.filter _ hy)
      intro a b ha hb hab
      simp only [List.mem_filter,beq_iff_eq] at ha hb
      omega
    · rintro ⟨a1,a2,a3⟩ ha ⟨b1,b2,b3⟩ hb
      simp only [List.mem_map,List.mem_filter,beq_iff_eq,Prod.mk.injEq,Prod.exists] at ha
      obtain ⟨c,d,⟨hc,e⟩,rfl,rfl,rfl⟩:=ha
      obtain ⟨g1,g2⟩:=mem_held.1 hb
      have h1:=hx.1 _ g1
      simp only [] at h1 e ⊢
      refine ⟨h1.1,h1.2,?_⟩
      have:=List.pairwise_iff_getElem.1 hy
      obtain ⟨i,hi,ei⟩:=List.getElem_of_mem hc
      obtain ⟨j,hj,ej⟩:=List.getElem_of_mem g2
      by_cases hij:i < j
      · have:=(this i j hi hj hij).2;rw [ei,ej] at this;exact this
      · by_cases hji:j < i
        · have:=(this j i hj hi hji).1;rw [ei,ej] at this;simp only [] at this;omega
        · obtain rfl:i=j:=by omega
          rw [ei] at ej;cases ej;omega
theorem rise_next {l:List (Nat × Nat × Nat)} (hl:l.Pairwise fun p q=>p.1 < q.1∧p.2.1 < q.2.1∧p.2.2 < q.2.2) {n p q:Nat} (h:(n,p,q)∈l) :
    l.filter (fun x=>decide (n≤x.1))=(n,p,q) :: l.filter (fun x=>decide (n+1≤x.1)):=by
  have hl':l.Pairwise fun p q=>p.1 < q.1:=hl.imp fun h=>h.1
  refine rise_eq (fun x=>x.1) _ _ (List.Pairwise.filter _ hl') (List.pairwise_cons.2 ⟨fun a ha=>?_,List.Pairwise.filter _ hl'⟩) fun x=>?_
  · simp only [List.mem_filter,decide_eq_true_eq] at ha;simp only [];omega
  · simp only [List.mem_filter,decide_eq_true_eq,List.mem_cons]
    constructor
    · rintro ⟨hx,hn⟩
      by_cases e:x.1=n
      · left
        obtain ⟨i,hi,ei⟩:=List.getElem_of_mem hx
        obtain ⟨j,hj,ej⟩:=List.getElem_of_mem h
        have hp:=List.pairwise_iff_getElem.1 hl'
        by_cases hij:i < j
        · have:=hp i j hi hj hij;rw [ei,ej] at this;simp only [] at this;omega
        · by_cases hji:j < i
          · have:=hp j i hj hi hji;rw [ei,ej] at this;simp only [] at this;omega
          · obtain rfl:i=j:=by omega
            rw [ei] at ej;exact ej
      · right;exact ⟨hx,by omega⟩
    · rintro (rfl | ⟨hx,hn⟩)
      · exact ⟨h,Nat.le_refl _⟩
      · exact ⟨hx,by omega⟩
theorem rise_skip {l:List (Nat × Nat × Nat)} {n:Nat} (h:∀ p q,(n,p,q) ∉ l):l.filter (fun x=>decide (n≤x.1))=l.filter (fun x=>decide (n+1≤x.1)):=by
  refine List.filter_congr fun x hx=>?_
  have:x.1≠n:=fun e=>h x.2.1 x.2.2 (by rw [← e];exact hx)
  simp only [decide_eq_decide];omega
theorem beq_no {a b:Tr} (h:a≠b):a.beq b=false:=by rw [Bool.eq_false_iff];exact fun e=>h ((Tr.beq_iff _ _).1 e)
theorem beq_yes (a:Tr):a.beq a=true:=(Tr.beq_iff a a).2 rfl
def HasAt (o:List Tr) (n:Nat) (p:List Int):Prop:=p=[]∨∃ k q,p=((n+k:Nat):Int) :: q∧∃ t u,o[k]? = some t∧t.at? q=some u
theorem zipM_path {f:Tr→Tr→Tr→Ex Tr} (hf:∀ o a b p,f o a b=.error p→∃ u,o.at? p=some u):∀ (o a b:List Tr) (n:Nat) (p:List Int),zipM f o a b n=.error p→HasAt o n p
  | [],a,b,n,p,h=>by simp [zipM] at h
  | o :: os,[],b,n,p,h=>by simp [zipM] at h
  | o :: os,a :: as,[],n,p,h=>by simp [zipM] at h
  | o :: os,a :: as,b :: bs,n,p,h=>by
    simp only [zipM] at h
    cases hx:f o a b with
    | error q =>
      rw [hx] at h
      cases h
      obtain ⟨u,hu⟩:=hf _ _ _ _ hx
      exact .inr ⟨0,q,rfl,o,u,rfl,hu⟩
    | ok t =>
      rw [hx] at h
      cases hy:zipM f os as bs (n+1) with
      | ok ts=>simp only [hy] at h;cases h
      | error q =>
        simp only [hy] at h;cases h
        rcases zipM_path hf os as bs (n+1) p hy with rfl | ⟨k,q,rfl,t,u,h1,h2⟩
        · exact .inl rfl
        · exact .inr ⟨k+1,q,by rw [show n+(k+1)=n+1+k by omega],t,u,by simpa using h1,h2⟩
theorem partM_path {f:Tr→Tr→Tr→Ex Tr} (hf:∀ o a b p,f o a b=.error p→∃ u,o.at? p=some u) (o a b:List Tr) (n:Nat) (p:List Int) (h:partM f o a b n=.error p):HasAt o n p:=by
  unfold partM at h
  split at h
  · cases h
  · split at h
    · cases h
    · split at h
      · cases h;exact .inl rfl
      · exact zipM_path hf o a b n p h
theorem segM_path {f:Tr→Tr→Tr→Ex Tr} (hf:∀ o a b p,f o a b=.error p→∃ u,o.at? p=some u) (o a b:List Tr):∀ (H:List (Nat × Nat × Nat)) (i j k:Nat) (p:List Int),segM f o a b H i j k=.error p→HasAt o 0 p
  | [],i,j,k,p,h=>by
    rw [segM] at h
    rcases partM_path hf _ _ _ _ _ h with rfl | ⟨m,q,rfl,t,u,h1,h2⟩
    · exact .inl rfl
    · exact .inr ⟨i+m,q,by rw [Nat.zero_add],t,u,by simpa using h1,h2⟩
  | g :: H,i,j,k,p,h=>by
    rw [segM] at h
    cases hx:partM f ((o.drop i).take (g.1 - i)) ((a.drop j).take (g.2.1 - j)) ((b.drop k).take (g.2.2 - k)) i with
    | error e =>
      rw [hx] at h;cases h
      rcases partM_path hf _ _ _ _ _ hx with rfl | ⟨m,q,rfl,t,u,h1,h2⟩
      · exact .inl rfl
      · refine .inr ⟨i+m,q,by rw [Nat.zero_add],t,u,?_,h2⟩
        rw [List.getElem?_take] at h1
        split at h1
        · simpa using h1
        · cases h1
    | ok s =>
      rw [hx] at h
      cases hy:segM f o a b H (g.1+1) (g.2.1+1) (g.2.2+1) with
      | error e=>simp only [hy] at h;cases h;exact segM_path hf o a b H _ _ _ _ hy
      | ok r=>simp only [hy] at h;cases h
theorem mixT_path:∀ (N:Nat) (o a b:Tr) (p:List Int),mixT N o a b=.error p→∃ u,o.at? p=some u
  | 0,o,a,b,p,h=>by cases h;exact ⟨o,rfl⟩
  | N+1,o,a,b,p,h=>by
    rw [mixT] at h
    split at h
    · cases h
    · split at h
      · cases h
      · split at h
        · cases h;exact ⟨o,rfl⟩
        · split at h
          · rename_i e he
            cases h
            rcases segM_path (fun o a b p hp=>mixT_path N o a b p hp) _ _ _ _ _ _ _ _ he with rfl | ⟨k,q,rfl,t,u,h1,h2⟩
            · exact ⟨o,rfl⟩
            · refine ⟨u,?_⟩
              cases o with
              | node l ks =>
                rw [Tr.kids_node] at h1
                simp only [Tr.at?,Tr.kid?,Nat.zero_add]
                rw [if_neg (by omega),Int.toNat_natCast,h1]
                exact h2
          · cases h
theorem mixT_clash {N:Nat} {o a b:Tr} {p:List Int} (h:mixT (N+1) o a b=.error p):a≠b∧a≠o∧b≠o:=by
  refine ⟨?_,?_,?_⟩
  · rintro rfl;rw [mixT_same _ _ _ _ (by simp [beq_yes])] at h;cases h
  · rintro rfl
    by_cases e:a=b
    · subst e;rw [mixT_same _ _ _ _ (by simp [beq_yes])] at h;cases h
    · rw [mixT_left _ _ _ _ (by simp [beq_no e,beq_no (Ne.symm e)]) (beq_yes a)] at h;cases h
  · rintro rfl;rw [mixT_same _ _ _ _ (by simp [beq_yes])] at h;cases h
theorem szL_take_drop (ks:List Tr) (n:Nat):Tr.szL (ks.take n)+Tr.szL (ks.drop n)=Tr.szL ks:=by
  rw [← Tr.szL_append,List.take_append_drop]
theorem szL_drop_le (ks:List Tr) (n:Nat):Tr.szL (ks.drop n)≤Tr.szL ks:=by have:=szL_take_drop ks n;omega
theorem szL_seg (ks:List Tr) {i n:Nat} (h:i≤n) (hn:n < ks.length):Tr.szL ((ks.drop i).take (n - i))+(kidN ks n).sz+Tr.szL (ks.drop (n+1))=Tr.szL (ks.drop i):=by
  have h1:=szL_take_drop (ks.drop i) (n - i)
  rw [List.drop_drop,show i+(n - i)=n by omega,List.drop_eq_getElem_cons hn] at h1
  rw [Tr.szL] at h1
  rw [kidN_in ks n hn];omega
theorem zipM_sz {f:Tr→Tr→Tr→Ex Tr} (hf:∀ o a b t,f o a b=.ok t→t.sz≤o.sz+a.sz+b.sz):∀ (o a b:List Tr) (n:Nat) (ts:List Tr),zipM f o a b n=.ok ts→Tr.szL ts≤Tr.szL o+Tr.szL a+Tr.szL b
  | [],a,b,n,ts,h=>by simp [zipM] at h;subst h;simp [Tr.szL]
  | o :: os,[],b,n,ts,h=>by simp [zipM] at h;subst h;simp [Tr.szL]
  | o :: os,a :: as,[],n,ts,h=>by simp [zipM] at h;subst h;simp [Tr.szL]
  | o :: os,a :: as,b :: bs,n,ts,h=>by
    simp only [zipM] at h
    cases hx:f o a b with
    | error q=>rw [hx] at h;cases h
    | ok t =>
      rw [hx] at h
      cases hy:zipM f os as bs (n+1) with
      | error q=>simp only [hy] at h;cases h
      | ok us =>
        simp only [hy] at h;cases h
        have h1:=hf _ _ _ _ hx
        have h2:=zipM_sz hf os as bs (n+1) us hy
        simp only [Tr.szL];omega
theorem partM_sz {f:Tr→Tr→Tr→Ex Tr} (hf:∀ o a b t,f o a b=.ok t→t.sz≤o.sz+a.sz+b.sz) (o a b:List Tr) (n:Nat) (ts:List Tr) (h:partM f o a b n=.ok ts):Tr.szL ts≤Tr.szL o+Tr.szL a+Tr.szL b:=by
  unfold partM at h
  split at h
  · cases h;omega
  · split at h
    · cases h;omega
    · split at h
      · cases h
      · exact zipM_sz hf o a b n ts h
def HeldOk (o a b:List Tr) (i j k:Nat) (H:List (Nat × Nat × Nat)):Prop:=(H.Pairwise fun p q=>p.1 < q.1∧p.2.1 < q.2.1∧p.2.2 < q.2.2)∧∀ h∈H,(i≤h.1∧h.1 < o.length)∧(j≤h.2.1∧h.2.1 < a.length)∧(k≤h.2.2∧h.2.2 < b.length)
theorem HeldOk.tail {o a b:List Tr} {i j k:Nat} {g:Nat × Nat × Nat} {H:List (Nat × Nat × Nat)} (h:HeldOk o a b i j k (g :: H)):HeldOk o a b (g.1+1) (g.2.1+1) (g.2.2+1) H:=by
  obtain ⟨h1,h2⟩:=h
  rw [List.pairwise_cons] at h1
  refine ⟨h1.2,fun x hx=>?_⟩
  have:=h1.1 x hx
  have:=h2 x (List.mem_cons_of_mem _ hx)
  omega
theorem held_ok (o a b:Tr):HeldOk o.kids a.kids b.kids 0 0 0 (heldT o a b):=by
  refine ⟨held_rise (common_rise _ _) (common_rise _ _),?_⟩
  rintro ⟨n,p,q⟩ h
  obtain ⟨h1,h2⟩:=mem_held.1 h
  obtain ⟨e1,e2,_⟩:=common_here _ _ _ h1
  obtain ⟨_,e3,_⟩:=common_here _ _ _ h2
  exact ⟨⟨Nat.zero_le _,e1⟩,⟨Nat.zero_le _,e2⟩,⟨Nat.zero_le _,e3⟩⟩
theorem segM_sz {f:Tr→Tr→Tr→Ex Tr} (hf:∀ o a b t,f o a b=.ok t→t.sz≤o.sz+a.sz+b.sz) (o a b:List Tr):∀ (H:List (Nat × Nat × Nat)) (i j k:Nat) (ts:List Tr),HeldOk o a b i j k H→segM f o a b H i j k=.ok ts→Tr.szL ts≤Tr.szL (o.drop i)+Tr.szL (a.drop j)+Tr.szL (b.drop k)
  | [],i,j,k,ts,_,h=>by rw [segM] at h;exact partM_sz hf _ _ _ _ _ h
  | g :: H,i,j,k,ts,hH,h=>by
    rw [segM] at h
    cases hx:partM f ((o.drop i).take (g.1 - i)) ((a.drop j).take (g.2.1 - j)) ((b.drop k).take (g.2.2 - k)) i with
    | error e=>rw [hx] at h;cases h
    | ok s =>
      rw [hx] at h
      cases hy:segM f o a b H (g.1+1) (g.2.1+1) (g.2.2+1) with
      | error e=>simp only [hy] at h;cases h
      | ok r =>
        simp only [hy] at h;cases h
        obtain ⟨⟨a1,a2⟩,⟨b1,b2⟩,⟨c1,c2⟩⟩:=hH.2 g (by simp)
        have h1:=partM_sz hf _ _ _ _ _ hx
        have h2:=segM_sz hf o a b H _ _ _ _ hH.tail hy
        have e1:=szL_seg o a1 a2
        have e2:=szL_seg a b1 b2
        have e3:=szL_seg b c1 c2
        rw [Tr.szL_append]
        simp only [Tr.szL];omega
theorem mixT_sz:∀ (N:Nat) (o a b t:Tr),mixT N o a b=.ok t→t.sz≤o.sz+a.sz+b.sz
  | 0,o,a,b,t,h=>by cases h
  | N+1,o,a,b,t,h=>by
    rw [mixT] at h
    split at h
    · cases h;omega
    · split at h
      · cases h;omega
      · split at h
        · cases h
        · split at h
          · cases h
          · rename_i ks he
            cases h
            have:=segM_sz (fun o a b t=>mixT_sz N o a b t) _ _ _ _ _ _ _ _ (held_ok o a b) he
            simp only [List.drop_zero] at this
            obtain ⟨ol,oks⟩:=o;obtain ⟨al,aks⟩:=a;obtain ⟨bl,bks⟩:=b
            simp only [Tr.kids_node] at this
            simp only [Tr.sz];omega
end Go.Proofs.YtdbnfhpgmcjngabGreatDoor
/- Plain: what is done in two kids is done in both. No program here. -/
namespace Go.Proofs.YtdbnfhpgmcjngabGreatDoor
def exMap {α β:Type} (g:α→β):Ex α→Ex β | .error e=>.error e | .ok r=>.ok (g r)
theorem exMap_map {α β γ:Type} (g:β→γ) (h:α→β) (x:Ex α):exMap g (exMap h x)=exMap (fun r=>g (h r)) x:=by cases x <;> rfl
section
variable {u v x y:Tr} {A B C:List Tr}
end
end Go.Proofs.YtdbnfhpgmcjngabGreatDoor
/- Plain: trees as texts, and how they are read. No program here. -/
namespace Go.Proofs.YtdbnfhpgmcjngabGreatDoor
def isBl (c:UInt8):Bool:=c==32 || c==10
def skip (s:List UInt8):List UInt8:=s.dropWhile isBl
abbrev Rd (α:Type):=Except (Nat × List UInt8) α
def labOf (s:List UInt8):ByteArray:=⟨⟨(skip s).takeWhile okC⟩⟩
def behind (s:List UInt8):List UInt8:=skip ((skip s).dropWhile okC)
mutual
def readT:Nat→List UInt8→Nat→Rd (Tr × List UInt8)
  | 0,s,_=>.error (0,s)
  | N+1,s,d =>
    if 10 < d then .error (3,s)
    else if (skip s).takeWhile okC=[] then .error (if skip s=[] then 5 else 4,skip s)
    else if (behind s).head? = some 40 then match readK N (behind s).tail d with
      | .error e=>.error e
      | .ok x=>.ok (.node (labOf s) x.1,x.2)
    else .ok (.node (labOf s) [],behind s)
def readK:Nat→List UInt8→Nat→Rd (List Tr × List UInt8)
  | 0,s,_=>.error (0,s)
  | N+1,s,d=>match readT N s (d+1) with
    | .error e=>.error e
    | .ok x=>if (skip x.2).head? = some 41 then .ok ([x.1],(skip x.2).tail) else match readK N (skip x.2) d with
      | .error e=>.error e
      | .ok y=>.ok (x.1 :: y.1,y.2)
end
theorem dropWhile_length {α:Type} (p:α→Bool):∀ l:List α,(l.dropWhile p).length≤l.length
  | []=>Nat.le_refl _
  | a :: l=>by
    rw [List.dropWhile_cons]
    split
    · have:=dropWhile_length p l;simp;omega
    · exact Nat.le_refl _
theorem skip_length (s:List UInt8):(skip s).length≤s.length:=dropWhile_length _ s
theorem takeDrop_length {α:Type} (p:α→Bool) (l:List α):(l.takeWhile p).length+(l.dropWhile p).length=l.length:=by
  rw [← List.length_append,List.takeWhile_append_dropWhile]
theorem behind_length {s:List UInt8} (h:¬ (skip s).takeWhile okC=[]):(behind s).length+1≤s.length:=by
  have h1:=skip_length s
  have h2:=takeDrop_length okC (skip s)
  have h3:=skip_length ((skip s).dropWhile okC)
  have h4:0 < ((skip s).takeWhile okC).length:=List.length_pos_iff.2 h
  unfold behind;omega
theorem read_short:∀ (N:Nat) (s:List UInt8) (d:Nat),(∀ x,readT N s d=.ok x→x.2.length+1≤s.length)∧(∀ x,readK N s d=.ok x→x.2.length+1≤s.length)
  | 0,s,d=>⟨fun x h=>(by simp [readT] at h),fun x h=>(by simp [readK] at h)⟩
  | N+1,s,d=>by
    constructor
    · intro x h
      rw [readT] at h
      split at h
      · cases h
      · split at h
        · cases h
        · rename_i hb
          have hl:=behind_length hb
          split at h
          · split at h
            · cases h
            · rename_i y hy
              have:=(read_short N (behind s).tail d).2 y hy
              rw [List.length_tail] at this
              cases h
              simp only [];omega
          · cases h;simp only [];omega
    · intro x h
      rw [readK] at h
      split at h
      · cases h
      · rename_i y hy
        have h1:=(read_short N s (d+1)).1 y hy
        have h2:=skip_length y.2
        split at h
        · cases h;simp only [List.length_tail];omega
        · split at h
          · cases h
          · rename_i z hz
            have h3:=(read_short N (skip y.2) d).2 z hz
            cases h;simp only [];omega
theorem read_stable:∀ (N:Nat) (s:List UInt8) (d:Nat),(2 * s.length+1≤N→readT N s d=readT (N+1) s d)∧(2 * s.length+2≤N→readK N s d=readK (N+1) s d)
  | 0,s,d=>⟨fun h=>absurd h (by omega),fun h=>absurd h (by omega)⟩
  | N+1,s,d=>by
    constructor
    · intro h
      rw [readT,readT]
      split
      · rfl
      · split
        · rfl
        · rename_i hb
          have hl:=behind_length hb
          split
          · rename_i hh
            have:0 < (behind s).length:=by cases he:behind s with
              | nil=>rw [he] at hh;cases hh
              | cons=>simp
            rw [(read_stable N (behind s).tail d).2 (by rw [List.length_tail];omega)]
          · rfl
    · intro h
      rw [readK,readK,← (read_stable N s (d+1)).1 (by omega)]
      split
      · rfl
      · rename_i y hy
        have h1:=(read_short N s (d+1)).1 y hy
        have h2:=skip_length y.2
        split
        · rfl
        · rw [(read_stable N (skip y.2) d).2 (by omega)]
def parseT (s:List UInt8) (d:Nat):Rd (Tr × List UInt8):=readT (2 * s.length+1) s d
def parseK (s:List UInt8) (d:Nat):Rd (List Tr × List UInt8):=readK (2 * s.length+2) s d
theorem readT_any (s:List UInt8) (d:Nat):∀ N,readT (2 * s.length+1+N) s d=parseT s d
  | 0=>rfl
  | N+1=>by rw [← readT_any s d N];exact ((read_stable (2 * s.length+1+N) s d).1 (by omega)).symm
theorem readK_any (s:List UInt8) (d:Nat):∀ N,readK (2 * s.length+2+N) s d=parseK s d
  | 0=>rfl
  | N+1=>by rw [← readK_any s d N];exact ((read_stable (2 * s.length+2+N) s d).2 (by omega)).symm
theorem readT_enough {N:Nat} {s:List UInt8} {d:Nat} (h:2 * s.length+1≤N):readT N s d=parseT s d:=by
  obtain ⟨k,rfl⟩:=Nat.exists_eq_add_of_le h;exact readT_any s d k
theorem readK_enough {N:Nat} {s:List UInt8} {d:Nat} (h:2 * s.length+2≤N):readK N s d=parseK s d:=by
  obtain ⟨k,rfl⟩:=Nat.exists_eq_add_of_le h;exact readK_any s d k
theorem parseT_eq (s:List UInt8) (d:Nat):parseT s d =
    if 10 < d then .error (3,s)
    else if (skip s).takeWhile okC=[] then .error (if skip s=[] then 5 else 4,skip s)
    else if (behind s).head? = some 40 then match parseK (behind s).tail d with
      | .error e=>.error e
      | .ok x=>.ok (.node (labOf s) x.1,x.2)
    else .ok (.node (labOf s) [],behind s):=by
  rw [parseT,readT]
  split
  · rfl
  · split
    · rfl
    · rename_i hb
      have hl:=behind_length hb
      split
      · rename_i hh
        have:0 < (behind s).length:=by cases he:behind s with
          | nil=>rw [he] at hh;cases hh
          | cons=>simp
        rw [readK_enough (by rw [List.length_tail];omega)]
      · rfl
theorem parseK_eq (s:List UInt8) (d:Nat):parseK s d=match parseT s (d+1) with
    | .error e=>.error e
    | .ok x=>if (skip x.2).head? = some 41 then .ok ([x.1],(skip x.2).tail) else match parseK (skip x.2) d with
      | .error e=>.error e
      | .ok y=>.ok (x.1 :: y.1,y.2):=by
  rw [parseK,readK,readT_enough (by omega)]
  split
  · rfl
  · rename_i y hy
    have h1:=(read_short _ s (d+1)).1 y hy
    have h2:=skip_length y.2
    split
    · rfl
    · rw [readK_enough (by omega)]
theorem parseT_short {s:List UInt8} {d:Nat} {x:Tr × List UInt8} (h:parseT s d=.ok x):x.2.length+1≤s.length:=(read_short _ s d).1 x h
def parseP (s:List UInt8):Tr × Int × Int :=
  if 2000 < s.length then (Tr.zero,2,-1)
  else match parseT s 0 with
    | .error e=>(Tr.zero,e.1,(s.length:Int) - e.2.length)
    | .ok x=>if skip x.2≠[] then (Tr.zero,6,(s.length:Int) - (skip x.2).length) else if fault x.1≠0 then (Tr.zero,fault x.1,-1) else (x.1,0,0)
mutual
def txt (o c b:List UInt8):Tr→List UInt8 | .node l ks=>l.data.toList ++ (if ks.isEmpty then [] else o ++ (txtL o c b ks ++ c))
def txtL (o c b:List UInt8):List Tr→List UInt8 | []=>[] | k :: ks=>txt o c b k ++ (if ks.isEmpty then [] else b ++ txtL o c b ks)
end
def textT (t:Tr):List UInt8:=txt [40] [41] [32] t
theorem skip_stop {c:UInt8} (r:List UInt8) (h:isBl c=false):skip (c :: r)=c :: r:=by
  show (c :: r).dropWhile isBl=_
  rw [List.dropWhile_cons,if_neg (by simp [h])]
theorem lab_front {l:ByteArray} (h:isLab l=true):l.data.toList.all okC=true∧l.data.toList≠[]:=by
  rw [isLab_eq] at h
  simp only [Bool.and_eq_true,decide_eq_true_eq] at h
  refine ⟨h.1,fun e=>?_⟩
  have h4:l.data.toList.length=0:=by rw [e];rfl
  have h3:l.data.toList.length=l.size:=Array.length_toList
  omega
theorem txt_front (o c b:List UInt8) {t:Tr} (h:t.named=true):∃ x r,txt o c b t=x :: r∧okC x=true:=by
  obtain ⟨l,ks⟩:=t
  rw [Tr.named_node] at h
  obtain ⟨h1,h2⟩:=lab_front h.1
  cases he:l.data.toList with
  | nil=>exact absurd he h2
  | cons x r =>
    rw [he] at h1
    simp only [List.all_cons,Bool.and_eq_true] at h1
    refine ⟨x,r ++ (if ks.isEmpty then [] else o ++ (txtL o c b ks ++ c)),?_,h1.1⟩
    rw [txt,he];rfl
theorem fault_parts {t:Tr} (h:fault t=0):t.sz≤40∧t.deepZ 10=true∧t.named=true:=by
  unfold fault at h
  split at h
  · cases h
  · split at h
    · cases h
    · split at h
      · cases h
      · rename_i h1 h2 h3
        exact ⟨by omega,by simpa using h2,by simpa using h3⟩
theorem txt_length (t:Tr) (h:t.named=true):(textT t).length+1≤8 * t.sz:=by
  unfold textT
  revert h
  refine Tr.ind (P:=fun t=>t.named=true→(txt [40] [41] [32] t).length+1≤8 * t.sz) (fun l ks ih hn=>?_) t
  rw [Tr.named_node] at hn
  have hl:l.data.toList.length≤6:=by
    have:=hn.1;rw [isLab_eq] at this;simp only [Bool.and_eq_true,decide_eq_true_eq] at this
    have h3:l.data.toList.length=l.size:=Array.length_toList
    omega
  have key:∀ js:List Tr,(∀ j∈js,j∈ks)→js≠[]→(txtL [40] [41] [32] js).length+1≤8 * Tr.szL js:=by
    intro js
    induction js with
    | nil=>intro _ h;exact absurd rfl h
    | cons j js ihj =>
      intro hm _
      have h1:=ih j (hm j (by simp)) (hn.2 j (hm j (by simp)))
      rw [txtL,Tr.szL]
      cases js with
      | nil=>simp only [List.isEmpty_nil,if_true,List.append_nil,Tr.szL];omega
      | cons j2 js =>
        have h2:=ihj (fun z hz=>hm z (List.mem_cons_of_mem _ hz)) (by simp)
        simp only [List.isEmpty_cons,Bool.false_eq_true,if_false,List.length_append,List.length_cons,List.length_nil]
        omega
  rw [txt,Tr.sz]
  cases ks with
  | nil=>simp only [List.isEmpty_nil,if_true,List.append_nil,Tr.szL];omega
  | cons k ks =>
    have:=key (k :: ks) (fun _ h=>h) (by simp)
    simp only [List.isEmpty_cons,Bool.false_eq_true,if_false,List.length_append,List.length_cons,List.length_nil]
    omega
end Go.Proofs.YtdbnfhpgmcjngabGreatDoor
