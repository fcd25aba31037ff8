/- Texts for DeskDoes, part 0. -/
open Bool renaming true->Aq,false->D
open Decidable renaming decide->AG
open Function renaming comp->AnK
open List renaming range'->Fv,length->G4
open List.Pairwise renaming nil->YH
open Option renaming some->J,none->G
namespace Go.Proofs.YtdbnfhpgmcjngaaGreatDoor
set_option maxHeartbeats 12800000
set_option maxRecDepth 100000
set_option linter.unusedVariables false
set_option linter.unusedSimpArgs false
variable{i p j i0 j0 q N d:Nat}{k:Int}{l e:ByteArray}{s:List UInt8}{c:List Int}{h:Nat->Bool}
abbrev Aw:=@if_neg
abbrev A7:=@if_pos
abbrev Be:=@List.length_append
abbrev Bp:=@congrArg
abbrev BH:=@List.setIfInBounds_toArray
abbrev BO:=@Nat.le_refl
abbrev BR:=@trivial
abbrev BU:=@List.getElem_mem
abbrev BX:=@List.set_cons_zero
abbrev BY:=@List.set_cons_succ
abbrev BZ:=@List.length_cons
abbrev Cc:=@List.take_length
abbrev Ct:=@List.take_succ_eq_append_getElem
abbrev Cw:=@Nat.lt_succ_self
abbrev CS:=@List.length_nil
abbrev Dm:=@List.append_assoc
abbrev Dv:=@Nat.zero_add
abbrev Dy:=@Nat.le_trans
abbrev DJ:=@List.length_map
abbrev DN:=@List.mem_cons
abbrev DP:=@List.length_singleton
abbrev DU:=@List.length_take
abbrev Ed:=@Bool.and_eq_true
abbrev Ef:=@decide_eq_true
abbrev Eg:=@decide_eq_false
abbrev Eh:=@List.take_zero
abbrev Em:=@List.getElem?_eq_getElem
abbrev Er:=@Int.eq_ofNat_of_zero_le
abbrev Es:=@List.eq_nil_of_length_eq_zero
abbrev EF:=@List.drop_zero
abbrev EL:=@List.append_nil
abbrev Fb:=@List.getElem_cons_zero
abbrev Fc:=@of_decide_eq_true
abbrev Fk:=@List.take_succ_cons
abbrev Fr:=@Nat.add_zero
abbrev Fu:=@List.mem_append
abbrev F7:=@List.nil_append
abbrev F8:=@List.drop_succ_cons
abbrev FG:=@decide_eq_true_eq
abbrev FH:=@List.drop_eq_getElem_cons
abbrev Gl:=@List.cons_append
abbrev Gm:=@Nat.zero_le
abbrev Gn:=@List.mem_map
abbrev Gz:=@Nat.not_lt_zero
abbrev GK:=@List.mem_cons_of_mem
abbrev Ia:=@List.mem_singleton
abbrev Ib:=@Bool.or_assoc
abbrev Im:=@List.getElem_append_left
abbrev IA:=@Bool.eq_false_iff
abbrev IB:=@List.getElem?_eq_some_iff
abbrev IC:=@List.length_drop
abbrev ID:=@List.length_pos_iff
abbrev Jz:=@List.map_cons
abbrev J2:=@List.map_append
abbrev J3:=@List.getElem_cons_succ
abbrev JK:=@Int.toNat_natCast
abbrev JL:=@Option.some.inj
abbrev JM:=@beq_iff_eq
abbrev Ki:=@List.getElem_of_mem
abbrev Kj:=@Bool.eq_iff_iff
abbrev Kk:=@Bool.false_eq_true
abbrev Kl:=@if_false
abbrev Km:=@List.mem_filter
abbrev KB:=@List.take_append_drop
abbrev KD:=@List.getElem_append_right
abbrev KF:=@List.mem_of_mem_take
abbrev Lp:=@beq_eq_false_iff_ne
abbrev Lr:=@Nat.add_assoc
abbrev Ls:=@Nat.lt_of_lt_of_le
abbrev Lu:=@dif_neg
abbrev Lw:=@if_true
abbrev M8:=@List.length_tail
abbrev MA:=@dif_pos
abbrev MB:=@Nat.add_sub_cancel
abbrev Nt:=@List.take_of_length_le
abbrev Nv:=@Nat.lt_irrefl
abbrev Nw:=@Nat.lt_or_ge
abbrev Op:=@Option.some.injEq
abbrev Ov:=@List.drop_length
abbrev Ow:=@decide_eq_false_iff_not
abbrev Ox:=@List.getElem?_append_right
abbrev Oy:=@List.map_nil
abbrev Oz:=@Array.ext'
abbrev O0:=@List.length_set
abbrev Pe:=@List.pairwise_cons
abbrev Pg:=@List.mem_range
abbrev Pi:=@List.drop_of_length_le
abbrev Pj:=@Nat.mul_le_mul
abbrev Pk:=@List.getD_eq_getElem?_getD
abbrev Qj:=@not_or
abbrev Qk:=@Array.getElem?_eq_some_iff
abbrev Qm:=@List.countP_append
abbrev Qn:=@Nat.sub_self
abbrev Qo:=@List.getElem?_append_left
abbrev Qp:=@List.length_filter_le
abbrev Qs:=@List.dropWhile_cons
abbrev Qt:=@ByteArray.ext
abbrev Qu:=@UInt8.toNat_inj
abbrev RJ:=@List.isEmpty_cons
abbrev RL:=@Array.getElem?_modify
abbrev RM:=@Ne.symm
abbrev RO:=@List.count_le_length
abbrev RR:=@List.getElem_map
abbrev RT:=@List.pairwise_append
abbrev RV:=@List.getElem?_map
abbrev RW:=@List.filter_congr
abbrev RY:=@List.map_congr_left
abbrev Sc:=@List.map_toArray
abbrev Sd:=@List.ext_getElem?
abbrev Se:=@getElem!_pos
abbrev Sf:=@List.flatten_append
abbrev Si:=@List.getElem_toArray
abbrev Sj:=@And.left
abbrev Sk:=@ByteArray.size_append
abbrev Sl:=@List.mem_of_mem_drop
abbrev U9:=@List.take_left'
abbrev UC:=@List.singleton_append
abbrev UD:=@List.eq_nil_or_concat
abbrev UE:=@List.countP_eq_length_filter
abbrev UF:=@List.pairwise_iff_getElem
abbrev UI:=@List.all_eq_true
abbrev UJ:=@List.getElem?_take
abbrev UL:=@of_decide_eq_false
abbrev Yh:=@List.getElem?_eq_none
abbrev Yi:=@List.dropLast_concat_getLast
abbrev Yk:=@List.tail_cons
abbrev Ym:=@List.any_eq_true
abbrev Yn:=@List.any_append
abbrev Yq:=@List.mem_flatMap
abbrev Yr:=@List.range'_append_1
abbrev Ys:=@List.mem_range'_1
abbrev Yt:=@List.foldr_cons
abbrev Yu:=@Option.map_some
abbrev Yv:=@List.filter_append
abbrev Yw:=@List.length_range'
abbrev Yx:=@List.pairwise_map
abbrev Yy:=@List.map_map
abbrev Yz:=@decide_eq_decide
abbrev Y2:=@List.length_reverse
abbrev Y4:=@Array.getElem?_setIfInBounds
abbrev Y7:=@Array.length_toList
abbrev Y8:=@List.takeWhile_cons
abbrev Y9:=@List.drop_eq_nil_iff
abbrev YA:=@Option.map_eq_some_iff
abbrev YC:=@Option.getD_some
abbrev YD:=@Nat.le_succ
abbrev YE:=@Int.sub_add_cancel
abbrev Ae1:=@Decidable.byContradiction
abbrev Ae2:=@Option.bind_some
abbrev Ae3:=@List.drop_left'
abbrev Ae4:=@List.drop_drop
abbrev Ae5:=@Function.comp_def
abbrev Ae6:=@Bool.true_and
abbrev Ae7:=@List.foldl_cons
abbrev Ae8:=@Int.natCast_add
abbrev Ae9:=@List.countP_cons
abbrev AeA:=@List.concat_eq_append
abbrev AeF:=@Array.size_append
abbrev AeG:=@List.drop_eq_nil_of_le
abbrev AeH:=@List.getElem?_set
abbrev AeI:=@Nat.add_comm
abbrev AeL:=@List.getElem?_drop
abbrev AeM:=@List.isEmpty_nil
abbrev AeN:=@List.getLast?_eq_getElem?
abbrev AeO:=@List.sum_append
abbrev AeP:=@Prod.mk.injEq
abbrev AeQ:=@List.Pairwise.filter
abbrev AeR:=@List.filter_eq_nil_iff
abbrev AeS:=@List.takeWhile_append_dropWhile
abbrev AeT:=@List.map_singleton
abbrev AeU:=@Nat.mul_le_mul_right
abbrev AeZ:=@Option.getD_none
abbrev Afb:=@List.length_eq_one_iff
abbrev Afc:=@Bool.and_eq_true_iff
abbrev Ank:=@List.count_cons_of_ne
abbrev Anp:=@Nat.add_sub_cancel_left
abbrev Anq:=@List.pairwise_singleton
abbrev Ans:=@Array.size_setIfInBounds
abbrev Ant:=@List.getElem_set_self
abbrev Anw:=@Nat.exists_eq_add_of_le
abbrev Anx:=@ByteArray.data_append
abbrev Anz:=@Array.getElem?_eq_none
abbrev An1:=@Option.bind_eq_some_iff
abbrev An2:=@ByteArray.data_extract
abbrev An4:=@Array.getElem?_append_left
abbrev An5:=@Array.setIfInBounds_append_left
abbrev An9:=@List.mem_or_eq_of_mem_set
abbrev AnC:=@Array.getD_eq_getD_getElem?
abbrev AnD:=@Array.getElem?_setIfInBounds_ne
abbrev AnF:=@List.length_replicate
abbrev AnG:=@List.getElem?_cons_succ
theorem Aa{p:Prop}(h:p:=by omega):p:=h
theorem Ap{p:Prop}(h:p:=by simp):p:=h
theorem A4{p:Prop}(h:p:=by simp;omega):p:=h
theorem Bb{p:Prop}(h:p:=by decide):p:=h
theorem Cu{p:Prop}(h:p:=by assumption):p:=h
theorem KI{p:Prop}(h:p:=by intros;trivial):p:=h
theorem A8{q p:Prop}(a:q)(h:q->p:=by intro this;omega):p:=h a
theorem Ko{q p:Prop}(a:q)(h:q->p:=by intro this;simp at this;omega):p:=h a
theorem AB{q p:Prop}(a:q)(h:q->p:=by intro h;simpa using h):p:=h a
theorem Ma{p:Prop}(h:p:=by rw[Be];omega):p:=h
theorem Kp{p:Prop}(h:p:=by rw[DU];omega):p:=h
theorem KJ{p:Prop}(h:p:=by simp[ByteArray.size]):p:=h
theorem EG{p:Prop}(h:p:=by rw[Lp];omega):p:=h
theorem Dq{p:Prop}(h:p:=by simp[bne_iff_ne];omega):p:=h
theorem GQ{p:Prop}(h:p:=by show(⟨#[]⟩:ByteArray).size<=1000000;decide):p:=h
theorem BF{p:Prop}(h:p:=by rfl):p:=h
inductive Tr where
  | node (label : ByteArray) (kids : List Tr)
open Tr renaming node->H
def Tr.kids:Tr->List Tr|H _ a=>a
def Tr.label:Tr->ByteArray|H l _=>l
mutual
def Tr.sz:Tr->Nat|H _ ks=>Av ks+1
def Av:List Tr->Nat|[]=>0|k::ks=>k.sz+Av ks
end
theorem Tr.sz_pos(t:Tr):1<=t.sz:=by cases t;simp[Tr.sz]
@[simp]theorem L0:Av []=0:=rfl
@[simp]theorem DL(k:Tr)(a:List Tr):Av (k::a)=k.sz+Av a:=rfl
@[simp]theorem Bv(l:ByteArray)(a:List Tr):(H l a).sz=Av a+1:=rfl
@[simp]theorem GS:∀(xs ys:List Tr),Av (xs++ys)=Av xs+Av ys|[],ys=>Ap|x::xs,ys=>by simp[GS xs ys];omega
@[simp]theorem YV:∀(xs:List Tr),Av xs.reverse=Av xs|[]=>rfl|x::xs=>by simp[YV xs];omega
theorem DW:∀(a:List Tr)(i:Nat)(h:i<a.length),a[i].sz<=Av a|k::a,0,_=>Ap|k::a,i+1,h=>by have:=DW a i (AB h);simp;omega
theorem DM:∀(a:List Tr),a.length<=Av a|[]=>BO _|k::a=>by have:=DM a;have:=k.sz_pos;simp;omega
theorem O4(a:List Tr)(i:Nat)(h:i<a.length):Av (a.take (i+1))=Av (a.take i)+a[i].sz:=by rw[Ct h,GS];simp only[DL,L0,Fr]
theorem Io(a:List Tr)(i:Nat):Av (a.take i)<=Av a:=by
 have:Av a=Av (a.take i)+Av (a.drop i):=by rw[<-GS,KB]
 omega
theorem Jm{P:Tr->Prop}(h:∀l a,(∀k∈a,P k)->P (H l a)):∀t,P t:=by suffices hh:∀n t,t.sz<=n->P t fromλt=>hh t.sz t (BO _);intro n;induction n with|zero=>intro t b;have:=t.sz_pos;omega|succ n e=>intro t b;cases t with|node l a=>refine h l a λk d=>e k ?_;obtain⟨i,c,rfl⟩:=Ki d;have:=DW a i c;simp at b;omega
mutual
def Tr.beq:Tr->Tr->Bool|H l ks,H m js=>AG (l=m)&&Dn ks js
def Dn:List Tr->List Tr->Bool|[],[]=>Aq|k::ks,j::js=>k.beq j&&Dn ks js|_,_=>D
end
mutual
theorem O5:∀(a b:Tr),a.beq b=Aq↔a=b|H l ks,H m js=>by simp[Tr.beq,Po ks js]
theorem Po:∀(a b:List Tr),Dn a b=Aq↔a=b|[],[]=>by simp[Dn]|k::ks,j::js=>by simp[Dn,O5 k j,Po ks js]|[],j::js=>by simp[Dn]|k::ks,[]=>by simp[Dn]
end
instance:DecidableEq Tr:=λa b=>decidable_of_iff _ (O5 a b)
def EM(s:ByteArray):Bool:=s.data.toList.all (λc=>97<=c&&c<=122)&&(0<s.size&&s.size<=6)
def Ci(c:UInt8):Bool:=97<=c&&c<=122
theorem Sv(c:UInt8):Ci c=Aq↔97<=(c.toNat:Int)/\(c.toNat:Int)<=122:=by unfold Ci;simp[UInt8.le_iff_toNat_le];omega
theorem N0(s:ByteArray):EM s=(s.data.toList.all Ci&&(0<s.size&&s.size<=6)):=rfl
theorem YW(s:ByteArray)(k:Nat)(h:k<s.size):s.data.toList[k]'(AB h)=s[k]:=rfl
theorem Sw(s:ByteArray)(k:Nat)(h:k<s.size)(a:Ci s[k]=D):EM s=D:=by
 have:s.data.toList.all Ci=D:=by rw[List.all_eq_false];refine⟨s[k],?_,by simp[a]⟩;rw[<-YW s k h];exact BU _
 simp[N0,this]
theorem YX(s:ByteArray)(k:Nat)(h:k<s.size)(b:(s.data.toList.take k).all Ci=Aq)(a:Ci s[k]=Aq):(s.data.toList.take (k+1)).all Ci=Aq:=by have c:k<s.data.toList.length:=AB h;rw[Ct c,List.all_append,b];simp[YW s k h,a]
theorem YY(s:ByteArray)(a:(s.data.toList.take s.size).all Ci=Aq):EM s=(AG (0<s.size)&&AG (s.size<=6)):=by rw[Nt Ap]at a;rw[N0,a];rfl
mutual
def Tr.deepZ:Tr->Int->Bool|H _ ks,n=>AG (0<=n)&&Kq ks (n-1)
def Kq:List Tr->Int->Bool|[],_=>Aq|k::ks,n=>k.deepZ n&&Kq ks n
end
mutual
def Tr.named:Tr->Bool|H l ks=>EM l&&Kr ks
def Kr:List Tr->Bool|[]=>Aq|k::ks=>k.named&&Kr ks
end
def AM(t:Tr):Nat:=if 40<t.sz then 2 else if t.deepZ 10=D then 3 else if t.named=D then 1 else 0
theorem L4:∀(a:List Tr)(n:Int),Kq a n=Aq↔∀k∈a,k.deepZ n=Aq|[],n=>by simp[Kq]|k::a,n=>by simp[Kq,L4 a n]
theorem Afo(b:List Tr)(k:Tr)(n:Int):Kq (b++[k]) n=(Kq b n&&k.deepZ n):=by rw[Kj];simp only[L4,Ed];simp;constructor;{intro h;exact⟨λx a=>h x (.inl a),h k (.inr rfl)⟩};. rintro⟨c,d⟩x(a|rfl);exact c x a;exact d
theorem Afp(a:List Tr)(i:Nat)(h:i<a.length)(n:Int):Kq (a.take (i+1)) n=(Kq (a.take i) n&&a[i].deepZ n):=by rw[Ct h,Afo]
theorem Afq(a:List Tr)(i:Nat)(h:i<a.length)(n:Int)(c:a[i].deepZ n=D):Kq a n=D:=by rw[IA];intro b;rw[L4]at b;rw[b _ (BU h)]at c;cases c
theorem Qx:∀(a:List Tr),Kr a=Aq↔∀k∈a,k.named=Aq|[]=>by simp[Kr]|k::a=>by simp[Kr,Qx a]
theorem Mb(l:ByteArray)(a:List Tr):(H l a).named=Aq↔EM l=Aq/\∀k∈a,k.named=Aq:=by simp[Tr.named,Qx]
theorem Afr(b:List Tr)(k:Tr):Kr (b++[k])=(Kr b&&k.named):=by rw[Kj];simp only[Qx,Ed];simp;constructor;{intro h;exact⟨λx a=>h x (.inl a),h k (.inr rfl)⟩};. rintro⟨c,d⟩x(a|rfl);exact c x a;exact d
theorem Afs(a:List Tr)(i:Nat)(h:i<a.length):Kr (a.take (i+1))=(Kr (a.take i)&&a[i].named):=by rw[Ct h,Afr]
theorem Aft(a:List Tr)(i:Nat)(h:i<a.length)(c:a[i].named=D):Kr a=D:=by rw[IA];intro b;rw[Qx]at b;rw[b _ (BU h)]at c;cases c
def Tr.kid?:Tr->Int->Option Tr|H _ a,k=>if k<0 then G else a[k.toNat]?
def Tr.at?:Tr->List Int->Option Tr|t,[]=>J t|t,k::p=>(t.kid? k).bind (·.at? p)
def Tr.zero:Tr:=H ⟨#[]⟩ []
theorem N5(t:Tr)(p q:List Int):t.at? (p++q)=(t.at? p).bind (·.at? q):=by induction p generalizing t with|nil=>rfl|cons k p a=>simp only[Gl,Tr.at?];cases t.kid? k with|none=>rfl|some u=>exact a u
theorem Tr.at?_take(t:Tr)(p:List Int)(i:Nat)(h:i<p.length){u:Tr}(a:t.at? (p.take i)=J u):t.at? (p.take (i+1))=u.kid? p[i]:=by rw[Ct h,N5,a];show(u.kid? p[i]).bind _=_;cases u.kid? p[i]<;>rfl
theorem Tr.at?_stop(t:Tr)(p:List Int)(i:Nat)(a:t.at? (p.take i)=G):t.at? p=G:=by have:=N5 t (p.take i) (p.drop i);rw[KB,a]at this;exact this
theorem YZ(t:Tr)(h:k<0):t.kid? k=G:=by cases t;simp[Tr.kid?,h]
theorem Za(l:ByteArray)(a:List Tr)(h:(a.length:Int)<=k):(H l a).kid? k=G:=by simp only[Tr.kid?];rw[Aw Aa];exact Yh Aa
theorem UX(l:ByteArray)(a:List Tr){n:Nat}(h:n<a.length):(H l a).kid? (n:Int)=J a[n]:=by simp only[Tr.kid?];simp[h]
theorem Sx{t u:Tr}(h:t.kid? k=J u):u.sz<t.sz:=by cases t with|node l b=>simp only[Tr.kid?]at h;split at h;{cases h};. obtain⟨a,rfl⟩:=IB.1 h;have:=DW b k.toNat a;simp;omega
theorem Afu{t u:Tr}{p:List Int}(h:t.at? p=J u):u.sz<=t.sz:=by induction p generalizing t with|nil=>cases h;exact BO _|cons k p b=>simp only[Tr.at?]at h;cases a:t.kid? k with|none=>rw[a]at h;cases h|some v=>rw[a]at h;have:=b h;have:=Sx a;omega
theorem AQ{n:Nat}:n<=n:=BO n
theorem BD{n:Nat}:0<=n:=Gm n
theorem Au{α:Sort _}(a:α):∃x,x=a:=⟨a,rfl⟩
theorem Zb:∀(t:Tr)(n m:Int),n<=m->t.deepZ n=Aq->t.deepZ m=Aq:=by intro t;induction t using Jm with|h l d c=>intro n m h a;simp only[Tr.deepZ,Ed,FG,L4]at a⊢;exact⟨Aa,λk b=>c k b (n-1) (m-1) Aa (a.2 k b)⟩
theorem Dd{t:Tr}:AM t=0↔t.sz<=40/\t.deepZ 10=Aq/\t.named=Aq:=by unfold AM;by_cases a:40<t.sz;{rw[A7 a];constructor;{intro h;cases h};. intro h;omega};. rw[Aw a];cases t.deepZ 10<;>cases t.named<;>simp<;>omega
theorem Afv{a:List Tr}{u:Tr}(h:(H l a).kid? k=J u):u∈a:=by simp only[Tr.kid?]at h;split at h;{cases h};. exact List.mem_of_getElem? h
theorem Afw{t u:Tr}(h:t.kid? k=J u)(c:AM t=0):AM u=0:=by rw[Dd]at c⊢;obtain⟨e,a,b⟩:=c;have f:=Sx h;cases t with|node l g=>have d:=Afv h;simp only[Tr.deepZ,Ed,FG,L4]at a;rw[Mb]at b;exact⟨Aa,Zb u _ _ Aa (a.2 u d),b.2 u d⟩
theorem Afx{t u:Tr}{p:List Int}(h:t.at? p=J u)(b:AM t=0):AM u=0:=by induction p generalizing t with|nil=>cases h;exact b|cons k p c=>simp only[Tr.at?]at h;cases a:t.kid? k with|none=>rw[a]at h;cases h|some v=>rw[a]at h;exact c h (Afw a b)
theorem DS(l:ByteArray)(a:List Tr):(H l a).kids=a:=rfl
theorem L5(l:ByteArray)(a:List Tr):(H l a).label=l:=rfl
structure AL where
  kind : Int
  path : List Int
  pos : Int
  many : Int
  lab : ByteArray
deriving DecidableEq
def AL.zero:AL:=⟨0,[],0,0,⟨#[]⟩⟩
def B8(p:List Int):Bool:=p.any λx=>AG (x<0)
theorem Afy{p:List Int}:B8 p=D↔∀x∈p,0<=x:=by simp[B8]
theorem Zc(p q:List Int):B8 (p++q)=(B8 p||B8 q):=by simp[B8]
def CX(d:AL):Nat:=if d.kind<1\/3<d.kind then 10 else if(d.kind≠3/\(d.pos≠0\/d.many≠0))\/(d.kind=2/\d.lab≠⟨#[]⟩)then 6 else if(d.pos<0\/d.many<0)\/B8 d.path=Aq then 9 else if d.kind≠2/\EM d.lab=D then 1 else if d.kind=2/\d.path=[]then 8 else 0
theorem G5{d:AL}:CX d=0↔(1<=d.kind/\d.kind<=3)/\(d.kind≠3->d.pos=0/\d.many=0)/\(d.kind=2->d.lab=⟨#[]⟩/\d.path≠[])/\0<=d.pos/\0<=d.many/\(∀x∈d.path,0<=x)/\(d.kind≠2->EM d.lab=Aq):=by
 unfold CX;rw[<-Afy];by_cases l:d.kind<1\/3<d.kind;{rw[A7 l];constructor;{intro h;cases h};. intro h;omega};rw[Aw l];by_cases f:(d.kind≠3/\(d.pos≠0\/d.many≠0))\/(d.kind=2/\d.lab≠⟨#[]⟩);{rw[A7 f];constructor;{intro h;cases h};. rintro⟨_,a,b,_⟩;rcases f with⟨c,e⟩|⟨c,e⟩;{have:=a c;omega};. exact absurd (b c).1 e};rw[Aw f];by_cases j:(d.pos<0\/d.many<0)\/B8 d.path=Aq;{rw[A7 j];constructor;{intro h;cases h};. rintro⟨_,_,_,a,b,c,_⟩;rcases j with h|h;{omega};. rw[c]at h;cases h};rw[Aw j];by_cases g:d.kind≠2/\EM d.lab=D;{rw[A7 g];constructor;{intro h;cases h};. rintro⟨_,_,_,_,_,_,a⟩;rw[a g.1]at g;cases g.2};rw[Aw g];have k:0<=d.pos/\0<=d.many/\B8 d.path=D:=by refine⟨Aa,Aa,?_⟩;cases h:B8 d.path with|false=>rfl|true=>exact absurd (.inr h) j
 have o:d.kind≠2->EM d.lab=Aq:=λh=>by cases m:EM d.lab with|true=>rfl|false=>exact absurd ⟨h,m⟩ g
 have n:d.kind≠3->d.pos=0/\d.many=0:=λh=>by constructor;{exact Ae1 λe=>f (.inl ⟨h,.inl e⟩)};. exact Ae1 λe=>f (.inl ⟨h,.inr e⟩)
 have p:=λh=>Ae1 λe=>f (.inr ⟨h,e⟩);by_cases i:d.kind=2/\d.path=[];{rw[A7 i];constructor;{intro h;cases h};. rintro⟨_,_,a,_⟩;exact absurd i.2 (a i.1).2};. rw[Aw i];exact⟨λ_=>⟨Aa,n,λh=>⟨p h,λe=>i ⟨h,e⟩⟩,k.1,k.2.1,k.2.2,o⟩,λ_=>rfl⟩
def DY(a:List Tr)(k:Int):Tr:=a.getD k.toNat Tr.zero
theorem JN(a:List Tr)(n:Nat)(h:n<a.length):DY a (n:Int)=a[n]:=by simp[DY,h]
theorem KM{a:List Tr}{u:Tr}(h:(H l a).kid? k=J u):0<=k/\k.toNat<a.length/\DY a k=u/\(a.length:Int)>k:=by simp only[Tr.kid?]at h;split at h;{cases h};. obtain⟨b,c⟩:=IB.1 h;refine⟨Aa,b,?_,Aa⟩;simp[DY,b,c]
theorem Zd{a:List Tr}(b:0<=k)(h:(H l a).kid? k=G):(a.length:Int)<=k:=by simp only[Tr.kid?]at h;rw[Aw Aa,List.getElem?_eq_none_iff]at h;omega
def Jn(d:AL)(t:Tr)(k:Int):Tr×Nat:=if d.kind=1 then(H d.lab t.kids,0)else if d.kind=2 then if(t.kids.length:Int)<=k then(t,7)else(H t.label (t.kids.take k.toNat++(DY t.kids k).kids++t.kids.drop (k.toNat+1)),0)else if(t.kids.length:Int)<d.pos\/(t.kids.length:Int)-d.pos<d.many then(t,9)else(H t.label (t.kids.take d.pos.toNat++[H d.lab ((t.kids.drop d.pos.toNat).take d.many.toNat)]++t.kids.drop (d.pos.toNat+d.many.toNat)),0)
def Cv(d:AL):List Int->Tr->Tr×Nat|[],t=>Jn d t 0|k::p,t=>if d.kind=2/\p=[]then Jn d t k else if(t.kids.length:Int)<=k then(t,7)else(H t.label (t.kids.set k.toNat (Cv d p (DY t.kids k)).1),(Cv d p (DY t.kids k)).2)
theorem Ks(d:AL)(l:ByteArray)(a:List Tr)(k:Int):Jn d (H l a) k=if d.kind=1 then(H d.lab a,0)else if d.kind=2 then if(a.length:Int)<=k then(H l a,7)else(H l (a.take k.toNat++(DY a k).kids++a.drop (k.toNat+1)),0)else if(a.length:Int)<d.pos\/(a.length:Int)-d.pos<d.many then(H l a,9)else(H l (a.take d.pos.toNat++[H d.lab ((a.drop d.pos.toNat).take d.many.toNat)]++a.drop (d.pos.toNat+d.many.toNat)),0):=rfl
theorem KN(d:AL)(k:Int)(p:List Int)(l:ByteArray)(a:List Tr):Cv d (k::p) (H l a)=if d.kind=2/\p=[]then Jn d (H l a) k else if(a.length:Int)<=k then(H l a,7)else(H l (a.set k.toNat (Cv d p (DY a k)).1),(Cv d p (DY a k)).2):=rfl
def Tr.setAt:Tr->List Int->Tr->Tr|_,[],x=>x|t,k::p,x=>H t.label (t.kids.set k.toNat ((DY t.kids k).setAt p x))
theorem N6(l:ByteArray)(a:List Tr)(k:Int)(p:List Int)(x:Tr):(H l a).setAt (k::p) x=H l (a.set k.toNat ((DY a k).setAt p x)):=rfl
theorem Afz(t:Tr)(p q:List Int)(x u:Tr)(h:t.at? p=J u):t.setAt (p++q) x=t.setAt p (u.setAt q x):=by induction p generalizing t with|nil=>cases h;rfl|cons k p c=>cases t with|node l d=>simp only[Tr.at?]at h;cases a:(H l d).kid? k with|none=>rw[a]at h;cases h|some v=>rw[a]at h;obtain⟨_,_,b,_⟩:=KM a;rw[Gl,N6,N6,b,c v h]
theorem Sy(t:Tr)(p:List Int)(x u:Tr)(h:t.at? p=J u):(t.setAt p x).at? p=J x:=by induction p generalizing t with|nil=>rfl|cons k p d=>cases t with|node l e=>simp only[Tr.at?]at h;cases a:(H l e).kid? k with|none=>rw[a]at h;cases h|some v=>rw[a]at h;obtain⟨f,b,c,_⟩:=KM a;rw[N6,c];simp only[Tr.at?,Tr.kid?];rw[Aw Aa];simp only[List.getElem?_set_self b];exact d v h
theorem UY(t:Tr)(p:List Int)(x u:Tr)(h:t.at? p=J u):(t.setAt p x).setAt p u=t:=by induction p generalizing t with|nil=>cases h;rfl|cons k p f=>cases t with|node l c=>simp only[Tr.at?]at h;cases b:(H l c).kid? k with|none=>rw[b]at h;cases h|some v=>rw[b]at h;obtain⟨g,a,d,_⟩:=KM b;(have e:DY (c.set k.toNat (v.setAt p x)) k=v.setAt p x:=by simp[DY,a]);rw[N6,d,N6,e,f v h];congr 1;rw[List.set_set];(have:v=c[k.toNat]:=by rw[<-d];simp[DY,a]);rw[this];exact List.set_getElem_self a
theorem Qy(d:AL)(b:d.kind≠2):∀(p:List Int)(t:Tr),(∀x∈p,0<=x)->t.at? p=G->(Cv d p t).2=7|[],t,_,h=>by cases h|k::p,H l i,c,h=>by simp only[Tr.at?]at h;rw[KN,Aw (λe=>b e.1)];cases a:(H l i).kid? k with|none=>rw[A7 (Zd (c k Ap) a)]|some v=>rw[a]at h;obtain⟨_,_,f,j⟩:=KM a;rw[Aw Aa,f];exact Qy d b p v (λx g=>c x (by simp[g])) h
theorem Pp(d:AL)(b:d.kind≠2):∀(p:List Int)(t x:Tr),t.at? p=J x->Cv d p t=(t.setAt p (Jn d x 0).1,(Jn d x 0).2)|[],t,x,h=>by cases h;rfl|k::p,H l f,x,h=>by simp only[Tr.at?]at h;rw[KN,N6,Aw (λe=>b e.1)];cases a:(H l f).kid? k with|none=>rw[a]at h;cases h|some v=>rw[a]at h;obtain⟨_,_,c,g⟩:=KM a;rw[Aw Aa,c,Pp d b p v x h]
theorem Sz(d:AL)(b:d.kind=2):∀(p:List Int)(t:Tr),p≠[]->(∀x∈p,0<=x)->t.at? p=G->(Cv d p t).2=7|[],t,i,_,_=>absurd rfl i|k::p,H l n,_,g,h=>by simp only[Tr.at?]at h;rw[KN];cases c:(H l n).kid? k with|none=>have f:=Zd (g k Ap) c;by_cases a:p=[];{rw[A7 ⟨b,a⟩,Ks,Aw Aa,A7 b,A7 f]};. rw[Aw (λe=>a e.2),A7 f]|some v=>rw[c]at h;obtain⟨_,_,j,f⟩:=KM c;(have a:p≠[]:=by rintro rfl;cases h);rw[Aw (λe=>a e.2),Aw Aa,j];exact Sz d b p v a (λx m=>g x (by simp[m])) h
theorem S4 (d : AL) (a : d.kind = 2) (k : Int) : ∀ (p : List Int) (t u x : Tr), t.at? p = J u → u.kid? k = J x →
    Cv d (p ++ [k]) t = (t.setAt p (H u.label (u.kids.take k.toNat ++ x.kids ++ u.kids.drop (k.toNat + 1))), 0)
  | [], t, u, x, h, f => by
    cases h
    cases t with
    | node l g =>
      obtain ⟨_, _, c, i⟩ := KM f
      rw [F7, KN, A7 ⟨a, rfl⟩, Ks, Aw Aa, A7 a, Aw Aa, c]
      rfl
  | j :: p, H l g, u, x, h, f => by
    simp only [Tr.at?] at h
    rw [Gl, KN, N6, Aw (fun e => by simp at e)]
    cases b : (H l g).kid? j with
    | none => rw [b] at h; cases h
    | some v =>
      rw [b] at h
      obtain ⟨_, _, c, i⟩ := KM b
      rw [Aw Aa, c, S4 d a k p v u x h f]
def Da(t:Tr)(d:AL):AL:=if d.kind=2 then⟨3,d.path.dropLast,d.path.getLast?.getD 0,(((t.at? d.path).getD Tr.zero).kids.length:Int),((t.at? d.path).getD Tr.zero).label⟩else if d.kind=3 then⟨2,d.path++[d.pos],0,0,⟨#[]⟩⟩else⟨1,d.path,0,0,((t.at? d.path).getD Tr.zero).label⟩
def BJ(t:Tr)(d:AL):Tr×AL×Nat:=if AM t≠0 then(Tr.zero,AL.zero,AM t)else if CX d≠0 then(Tr.zero,AL.zero,CX d)else if(Cv d d.path t).2≠0 then(Tr.zero,AL.zero,(Cv d d.path t).2)else if AM (Cv d d.path t).1≠0 then(Tr.zero,AL.zero,AM (Cv d d.path t).1)else((Cv d d.path t).1,Da t d,0)
theorem KO{t:Tr}{d:AL}:(BJ t d).2.2=0↔AM t=0/\CX d=0/\(Cv d d.path t).2=0/\AM (Cv d d.path t).1=0:=by unfold BJ;by_cases a:AM t=0;{rw[Aw (AB a)];by_cases b:CX d=0;{rw[Aw (AB b)];by_cases c:(Cv d d.path t).2=0;{rw[Aw (AB c)];by_cases e:AM (Cv d d.path t).1=0;{rw[Aw (AB e)];simp[a,b,c,e]};. rw[A7 e];simp[e]};. rw[A7 c];simp[c]};. rw[A7 b];simp[b]};. rw[A7 a];simp[a]
theorem MJ{t:Tr}{d:AL}(h:(BJ t d).2.2=0):BJ t d=((Cv d d.path t).1,Da t d,0):=by obtain⟨a,b,c,e⟩:=KO.1 h;unfold BJ;rw[Aw (AB a),Aw (AB b),Aw (AB c),Aw (AB e)]
theorem Af0{t:Tr}{d:AL}(o:CX d=0)(h:(Cv d d.path t).2=0):(d.kind=1/\∃x,t.at? d.path=J x/\(Cv d d.path t).1=t.setAt d.path (H d.lab x.kids))\/(d.kind=3/\∃x,t.at? d.path=J x/\d.pos<=x.kids.length/\d.many<=x.kids.length-d.pos/\(Cv d d.path t).1=t.setAt d.path (H x.label (x.kids.take d.pos.toNat++[H d.lab ((x.kids.drop d.pos.toNat).take d.many.toNat)]++x.kids.drop (d.pos.toNat+d.many.toNat))))\/(d.kind=2/\∃b k u x,d.path=b++[k]/\t.at? b=J u/\u.kid? k=J x/\(Cv d d.path t).1=t.setAt b (H u.label (u.kids.take k.toNat++x.kids++u.kids.drop (k.toNat+1)))):=by obtain⟨⟨p,q⟩,_,n,_,_,l,_⟩:=G5.1 o;by_cases c:d.kind=2;{refine .inr (.inr ⟨c,?_⟩);have i:=(n c).2;obtain⟨b,k,j⟩:∃b k,d.path=b++[k]:=⟨d.path.dropLast,d.path.getLast i,(Yi i).symm⟩;cases a:t.at? d.path with|none=>rw[Sz d c d.path t i l a]at h;cases h|some x=>rw[j,N5]at a;cases f:t.at? b with|none=>rw[f]at a;cases a|some u=>rw[f]at a;(have e:u.kid? k=J x:=by simp only[Ae2,Tr.at?]at a;cases e:u.kid? k with|none=>rw[e]at a;cases a|some v=>rw[e]at a;cases a;rfl);exact⟨b,k,u,x,j,f,e,by rw[j,S4 d c k b t u x f e]⟩};. cases a:t.at? d.path with|none=>rw[Qy d c d.path t l a]at h;cases h|some x=>rw[Pp d c d.path t x a]at h⊢;by_cases g:d.kind=1;{refine .inl ⟨g,x,rfl,?_⟩;unfold Jn;rw[A7 g]};. refine .inr (.inl ⟨Aa,x,rfl,?_⟩);unfold Jn at h⊢;rw[Aw g,Aw c]at h⊢;by_cases m:(x.kids.length:Int)<d.pos\/(x.kids.length:Int)-d.pos<d.many;{rw[A7 m]at h;cases h};. rw[Aw m];exact⟨Aa,Aa,rfl⟩
theorem Ze{t x:Tr}{p:List Int}(h:t.at? p=J x)(a:AM t=0):EM x.label=Aq:=by cases x with|node l b=>exact(Mb l b).1 ((Dd.1 (Afx h a)).2.2)|>.1
theorem S5(t:Tr):H t.label t.kids=t:=by cases t;rfl
theorem Zf{t:Tr}{d:AL}(h:(BJ t d).2.2=0):BJ (BJ t d).1 (Da t d)=(t,d,0)/\CX (Da t d)=0:=by
 obtain⟨v,F,N,P⟩:=KO.1 h;rw[MJ h];have f:=G5.1 F;obtain⟨⟨k1,k3⟩,B,M,p0,m0,r,hl⟩:=f;have a2:CX (Da t d)=0/\Cv (Da t d) (Da t d).path (Cv d d.path t).1=(t,0)/\Da (Cv d d.path t).1 (Da t d)=d:=by rcases Af0 F N with⟨f,x,b,c⟩|⟨f,x,b,Y,a0,c⟩|⟨f,p,k,u,x,s,w,b,c⟩;{(have j:Da t d=⟨1,d.path,0,0,x.label⟩:=by unfold Da;rw[Aw Aa,Aw Aa,b];rfl);rw[j,c];refine⟨G5.2 ⟨Ap,Ap,Ap,Ap,Ap,r,λ_=>Ze b v⟩,?_,?_⟩;{rw[Pp _ Ap _ _ _ (Sy t d.path _ x b)];rw[show Jn ⟨1,d.path,0,0,x.label⟩ (H d.lab x.kids) 0=(H x.label x.kids,0)from rfl,S5,UY t d.path _ x b]};. unfold Da;simp only[Sy t d.path _ x b];have:=B Aa;cases d;simp_all[L5]};{(have j:Da t d=⟨2,d.path++[d.pos],0,0,⟨#[]⟩⟩:=by unfold Da;rw[Aw Aa,A7 f]);obtain⟨n,o⟩:=Er p0;obtain⟨m,K⟩:=Er m0;rw[o]at Y;rw[o,K]at a0;have a4:m<=x.kids.length-n:=Aa;rw[o,K]at c;simp only[JK]at c;have l:(x.kids.take n).length=n:=A4;have i:=Sy t d.path (H x.label (x.kids.take n++[H d.lab ((x.kids.drop n).take m)]++x.kids.drop (n+m))) x b;(have I:(H x.label (x.kids.take n++[H d.lab ((x.kids.drop n).take m)]++x.kids.drop (n+m))).kid? (n:Int)=J (H d.lab ((x.kids.drop n).take m)):=by simp only[Tr.kid?];rw[Aw Aa];simp[l]);rw[j,c,o];refine⟨G5.2 ⟨Ap,Ap,Ap,Ap,Ap,?_,Ap⟩,?_,?_⟩;{intro y g;simp at g;rcases g with g|rfl;{exact r y g};. omega};{rw[S4 _ rfl (n:Int) d.path _ _ _ i I];simp only[DS,L5,JK];(have e:List.take n (x.kids.take n++[H d.lab ((x.kids.drop n).take m)]++x.kids.drop (n+m))++(x.kids.drop n).take m++List.drop (n+1) (x.kids.take n++[H d.lab ((x.kids.drop n).take m)]++x.kids.drop (n+m))=x.kids:=by rw[Dm (x.kids.take n),U9 l];rw[show x.kids.take n++([H d.lab ((x.kids.drop n).take m)]++x.kids.drop (n+m))=(x.kids.take n++[H d.lab ((x.kids.drop n).take m)])++x.kids.drop (n+m)by simp];rw[Ae3 A4,Dm];rw[show x.kids.drop (n+m)=(x.kids.drop n).drop m by rw[Ae4],KB,KB]);rw[e,S5,UY t d.path _ x b]};. unfold Da;rw[N5,i];simp only[Ae2,Tr.at?,I];have X:((x.kids.drop n).take m).length=m:=A4;simp[DS,L5,X];cases d;simp_all};. (have i:t.at? d.path=J x:=by rw[s,N5,w];simp[Tr.at?,b]);(have j:Da t d=⟨3,p,k,x.kids.length,x.label⟩:=by unfold Da;rw[A7 f,i,s];simp);cases u with|node A a=>obtain⟨Q,q,S,a3⟩:=KM b;obtain⟨n,rfl⟩:=Er Q;simp only[JK]at q c;simp only[DS,L5]at c;have l:(a.take n).length=n:=A4;have C:=Sy t p (H A (a.take n++x.kids++a.drop (n+1))) _ w;(have a1:a[n]=x:=by rw[<-S,JN a n q]);rw[j,c];refine⟨G5.2 ⟨Ap,Ap,Ap,Ap,Ap,λy g=>r y (by rw[s];simp[g]),λ_=>Ze i v⟩,?_,?_⟩;{rw[Pp _ Ap _ _ _ C];have W:(a.take n++x.kids++a.drop (n+1)).length=n+x.kids.length+(a.length-(n+1)):=A4;(have T:Jn ⟨3,p,(n:Int),(x.kids.length:Int),x.label⟩ (H A (a.take n++x.kids++a.drop (n+1))) 0=(H A a,0):=by rw[Ks,Aw Ap,Aw Ap,Aw (by rw[W];simp only[];omega)];simp only[JK];congr 2;rw[Dm (a.take n),U9 l,Ae3 l];rw[U9 rfl];rw[<-Dm (a.take n),Ae3 A4];(have:[H x.label x.kids]=[a[n]]:=by rw[S5,a1]);rw[this,Dm];rw[show[a[n]]++a.drop (n+1)=a.drop n from(by rw[FH q];rfl),KB]);rw[T,UY t p _ _ w]};. unfold Da;simp only[C];have h1:=(M f).1;have h2:=B Aa;cases d;simp_all
 obtain⟨L,z,m3⟩:=a2;exact⟨by rw[MJ (KO.2 ⟨P,L,by rw[z],by rw[z];exact v⟩),z,m3],L⟩
structure Nd where
  lab : ByteArray
  par : Int
  left : Int
deriving DecidableEq
mutual
def Dx(p:Nat)(par:Int):Tr->List Nd|H l ks=>BM p ((p+Av ks:Nat):Int) ks++[⟨l,par,(p:Int)⟩]
def BM(p:Nat)(par:Int):List Tr->List Nd|[]=>[]|k::ks=>Dx p par k++BM (p+k.sz) par ks
end
def AJ(t:Tr):List Nd:=Dx 0 (-1) t
mutual
theorem J6:∀(t:Tr)(p:Nat)(par:Int),(Dx p par t).length=t.sz|H l ks,p,par=>by simp[Dx,Fw ks p]
theorem Fw:∀(ks:List Tr)(p:Nat)(par:Int),(BM p par ks).length=Av ks|[],p,par=>by simp[BM]|k::ks,p,par=>by simp[BM,J6 k p par,Fw ks (p+k.sz) par]
end
theorem SH:∀(xs ys:List Tr)(p:Nat)(a:Int),BM p a (xs++ys)=BM p a xs++BM (p+Av xs) a ys|[],ys,p,a=>by simp[BM]|x::xs,ys,p,a=>by simp[BM,SH xs ys,Lr]
theorem Vl(k:Tr)(p:Nat)(a:Int):BM p a [k]=Dx p a k:=by simp[BM]
theorem Zz(a:List Tr)(i:Nat)(h:i<a.length)(p:Nat)(b:Int):BM p b (a.take (i+1))=BM p b (a.take i)++Dx (p+Av (a.take i)) b a[i]:=by rw[Ct h,SH,Vl]
theorem Cy(t:Tr):(AJ t).length=t.sz:=J6 t 0 (-1)
def Fg(p:Nat):List Tr->List Nat|[]=>[]|k::a=>(p+k.sz-1)::Fg (p+k.sz) a
theorem Z0:∀(xs ys:List Tr)(p:Nat),Fg p (xs++ys)=Fg p xs++Fg (p+Av xs) ys|[],ys,p=>by simp[Fg]|x::xs,ys,p=>by simp[Fg,Z0 xs ys,Lr]
theorem Z2(a:List Tr)(i:Nat)(h:i<a.length)(p:Nat):Fg p (a.take (i+1))=Fg p (a.take i)++[p+Av (a.take i)+a[i].sz-1]:=by rw[Ct h,Z0];rfl
theorem Q6:∀(a:List Tr)(p:Nat),(Fg p a).length=a.length|[],p=>rfl|k::a,p=>by simp[Fg,Q6 a]
theorem Vm:∀(a:List Tr)(p:Nat),∀i∈Fg p a,p<=i/\i<p+Av a|[],p,i,h=>by cases h|k::a,p,i,h=>by have:=k.sz_pos;simp only[Fg,DN]at h;rcases h with rfl|h;{simp;omega};. have:=Vm a _ i h;simp;omega
def JQ(l:List Nd)(i:Nat)(p:Int):List Nd:=l.modify i λx=>{x with par:=p}
theorem Z3(l:List Nd)(i:Nat)(p:Int):(JQ l i p).length=l.length:=by simp[JQ]
theorem AfO(xs:List Nd)(x:Nd)(ys:List Nd)(p:Int):JQ (xs++x::ys) xs.length p=xs++{x with par:=p}::ys:=by unfold JQ;induction xs with|nil=>rfl|cons a xs b=>simpa using b
theorem Z4(a:List Nat)(p:Int):∀(l:List Nd),(a.foldl (λl i=>JQ l i p) l).length=l.length:=by induction a with|nil=>intro l;rfl|cons i a b=>intro l;simp[b,Z3]
theorem Vn(d c:Int):∀(b:List Tr)(xs:List Nd),(Fg xs.length b).foldl (λl i=>JQ l i d) (xs++BM xs.length c b)=xs++BM xs.length d b|[],xs=>by simp[Fg,BM]|H l a::b,xs=>by simp only[Fg,Ae7,BM,Dx,Bv];(have f:xs.length+(Av a+1)-1=(xs++BM xs.length ((xs.length+Av a:Nat):Int) a).length:=by rw[Be,Fw];omega);have g:xs++(BM xs.length ((xs.length+Av a:Nat):Int) a++[Nd.mk l c (xs.length:Int)]++BM (xs.length+(Av a+1)) c b)=(xs++BM xs.length ((xs.length+Av a:Nat):Int) a)++Nd.mk l c (xs.length:Int)::BM (xs.length+(Av a+1)) c b:=Ap;rw[f,g,AfO];have e:=Vn d c b (xs++BM xs.length ((xs.length+Av a:Nat):Int) a++[Nd.mk l d (xs.length:Int)]);(have h:(xs++BM xs.length ((xs.length+Av a:Nat):Int) a++[Nd.mk l d (xs.length:Int)]).length=xs.length+(Av a+1):=by simp only[Be,Fw,DP];omega);rw[h]at e;simp only[Dm,Gl,F7]at e⊢;exact e
def MQ(l:List Nd)(n:Nat)(a:Int):Nat:=(l.take n).countP (λx=>AG (x.par=a))
theorem AfY(l:List Nd)(n:Nat)(h:n<l.length)(a:Int):MQ l (n+1) a=MQ l n a+if l[n].par=a then 1 else 0:=by unfold MQ;rw[Ct h,Qm];simp[Ae9]
def IJ(l:List Nd)(n:Nat):List Int:=if h:n<l.length then if(n:Int)<l[n].par then IJ l l[n].par.toNat++[(MQ l n l[n].par:Int)]else[]else[]termination_by l.length-n decreasing_by omega
theorem SK{l:List Nd}{n:Nat}(h:¬n<l.length):IJ l n=[]:=by rw[IJ,Lu h]
theorem Vr{l:List Nd}{n:Nat}(h:n<l.length)(a:¬(n:Int)<l[n].par):IJ l n=[]:=by rw[IJ,MA h,Aw a]
theorem Vs{l:List Nd}{n:Nat}(h:n<l.length)(a:(n:Int)<l[n].par):IJ l n=IJ l l[n].par.toNat++[(MQ l n l[n].par:Int)]:=by rw[IJ,MA h,A7 a]
theorem AfZ(l:List Nd):∀(k n:Nat),l.length-n<=k->(IJ l n).length<=k:=by intro k;induction k with|zero=>intro n h;rw[SK Aa];simp|succ k c=>intro n h;by_cases a:n<l.length;{by_cases b:(n:Int)<l[n].par;{rw[Vs a b,Be];have:=c l[n].par.toNat Aa;simp;omega};. rw[Vr a b];simp};. rw[SK a];simp
def OA(l:List Nd)(n:Int):List Int:=if n<0 then[]else IJ l n.toNat
theorem Aga{l:List Nd}{n:Int}(h:n<0):OA l n=[]:=A7 h
theorem SL(l:List Nd)(n:Nat):OA l n=IJ l n:=by unfold OA;rw[Aw Aa,JK]
theorem Agb{l:List Nd}{n:Int}(h:¬n<0):OA l n=IJ l n.toNat:=Aw h
mutual
def EQ:Tr->Nat->List Int|H _ ks,n=>Id ks 0 n
def Id:List Tr->Nat->Nat->List Int|[],_,_=>[]|k::ks,i,n=>if n<k.sz then(i:Int)::EQ k n else Id ks (i+1) (n-k.sz)
end
theorem Vt:∀(a:List Tr)(j i n:Nat),j<=a.length->Av (a.take j)<=n->Id a i n=Id (a.drop j) (i+j) (n-Av (a.take j))|a,0,i,n,_,_=>Ap|[],j+1,i,n,h,_=>by simp at h|k::a,j+1,i,n,h,b=>by simp only[Fk,DL]at b;rw[Id,Aw Aa,Vt a j (i+1) (n-k.sz) (AB h) Aa];simp only[Fk,DL,F8];congr 1<;>omega
theorem Z9(a:List Tr)(j n:Nat)(h:j<a.length)(b:Av (a.take j)<=n)(c:n<Av (a.take j)+a[j].sz):Id a 0 n=(j:Int)::EQ a[j] (n-Av (a.take j)):=by rw[Vt a j 0 n Aa b,FH h,Id,A7 Aa,Dv]
theorem SM(a:List Tr)(i n:Nat)(h:Av a<=n):Id a i n=[]:=by have:=Vt a a.length i n AQ (by rw[Cc];exact h);rw[this,Ov,Id]
def P4(t:Tr)(n:Int):List Int:=if n<0 then[]else EQ t n.toNat
theorem Agc{t:Tr}{n:Int}(h:n<0):P4 t n=[]:=A7 h
theorem SN(t:Tr)(n:Nat):P4 t n=EQ t n:=by unfold P4;rw[Aw Aa,JK]
mutual
theorem Vu:∀(t:Tr)(n:Nat),(EQ t n).length<=t.sz|H _ ks,n=>by have:=ZA ks 0 n;simp only[EQ,Bv];omega
theorem ZA:∀(ks:List Tr)(i n:Nat),(Id ks i n).length<=Av ks+1|[],i,n=>by simp[Id]|k::ks,i,n=>by have h1:=Vu k n;have h2:=ZA ks (i+1) (n-k.sz);simp only[Id,DL];split;{simp;omega};. omega
end
def CI:Nat->Tr->List AL->Except (Nat×Nat) (Tr×List AL)|_,t,[]=>.ok (t,[])|i,t,d::l=>if(BJ t d).2.2≠0 then .error ((BJ t d).2.2,i)else match CI (i+1) (BJ t d).1 l with|.error e=>.error e|.ok r=>.ok (r.1,r.2++[(BJ t d).2.1])
theorem ZG(i:Nat)(t:Tr):CI i t []=.ok (t,[]):=rfl
theorem KW{t:Tr}{d:AL}{l:List AL}(h:(BJ t d).2.2≠0):CI i t (d::l)=.error ((BJ t d).2.2,i):=by rw[CI,A7 h]
theorem Kx{t:Tr}{d:AL}{l:List AL}{e:Nat×Nat}(h:(BJ t d).2.2=0)(a:CI (i+1) (BJ t d).1 l=.error e):CI i t (d::l)=.error e:=by rw[CI,Aw (AB h),a]
theorem KX{t:Tr}{d:AL}{l:List AL}{r:Tr×List AL}(h:(BJ t d).2.2=0)(a:CI (i+1) (BJ t d).1 l=.ok r):CI i t (d::l)=.ok (r.1,r.2++[(BJ t d).2.1]):=by rw[CI,Aw (AB h),a]
theorem P6 : ∀ (b c : List AL) (i : Nat) (t : Tr), CI i t (b ++ c) = match CI i t b with
    | .error e => .error e
    | .ok y => match CI (i + b.length) y.1 c with
      | .error e => .error e
      | .ok z => .ok (z.1, z.2 ++ y.2)
  | [], c, i, t => by
    simp only [F7, ZG, CS, Fr, EL]
    cases CI i t c <;> rfl
  | d :: b, c, i, t => by
    rw [Gl]
    by_cases h : (BJ t d).2.2 = 0
    · have a := P6 b c (i + 1) (BJ t d).1
      rw [show i + 1 + b.length = i + (d :: b).length by simp; omega] at a
      cases f : CI (i + 1) (BJ t d).1 b with
      | error e => rw [f] at a; rw [Kx h a, Kx h f]
      | ok y =>
        rw [f] at a
        simp only [] at a
        rw [KX h f]
        simp only []
        cases g : CI (i + (d :: b).length) y.1 c with
        | error e => rw [g] at a; rw [Kx h a]
        | ok z => rw [g] at a; rw [KX h a]; simp
    · rw [KW h, KW h]
theorem Q8:∀{l:List AL}{i:Nat}{t:Tr}{r:Tr×List AL},CI i t l=.ok r->r.2.length=l.length|[],i,t,r,h=>by cases h;rfl|d::l,i,t,r,h=>by by_cases a:(BJ t d).2.2=0;{cases b:CI (i+1) (BJ t d).1 l with|error e=>rw[Kx a b]at h;cases h|ok y=>rw[KX a b]at h;cases h;have:=Q8 b;simp[this]};. rw[KW a]at h;cases h
theorem ZH{t:Tr}{d:AL}(h:(BJ t d).2.2=0):AM (BJ t d).1=0:=by rw[MJ h];exact(KO.1 h).2.2.2
theorem Vx:∀{l:List AL}{i:Nat}{t:Tr}{r:Tr×List AL},CI i t l=.ok r->AM t=0->AM r.1=0|[],i,t,r,h,c=>by cases h;exact c|d::l,i,t,r,h,c=>by by_cases a:(BJ t d).2.2=0;{cases b:CI (i+1) (BJ t d).1 l with|error e=>rw[Kx a b]at h;cases h|ok y=>rw[KX a b]at h;cases h;have:=Vx b (ZH a);exact this};. rw[KW a]at h;cases h
theorem ZI:∀{l:List AL}{i:Nat}{t:Tr}{e:Nat×Nat},CI i t l=.error e->e.1≠0/\i<=e.2/\e.2<i+l.length|[],i,t,e,h=>by cases h|d::l,i,t,e,h=>by by_cases a:(BJ t d).2.2=0;{cases b:CI (i+1) (BJ t d).1 l with|error e=>rw[Kx a b]at h;cases h;have:=ZI b;simp;omega|ok y=>rw[KX a b]at h;cases h};. rw[KW a]at h;cases h;simp only[BZ];exact⟨a,BO _,Aa⟩
theorem SR:∀{l:List AL}{i:Nat}{t:Tr}{r:Tr×List AL}(j:Nat),CI i t l=.ok r->CI j r.1 r.2=.ok (t,l)|[],i,t,r,j,h=>by cases h;rfl|d::l,i,t,r,j,h=>by by_cases a:(BJ t d).2.2=0;{cases c:CI (i+1) (BJ t d).1 l with|error e=>rw[Kx a c]at h;cases h|ok y=>rw[KX a c]at h;cases h;have g:=SR j c;have b:=(Zf a).1;(have f:(BJ t d).2.1=Da t d:=by rw[MJ a]);simp only[];rw[P6,g];simp only[];rw[f,KX (r:=(t,[])) (by rw[b]) (by rw[b];rfl),b];rfl};. rw[KW a]at h;cases h
def Gq(t:Tr)(l:List AL):Tr×List AL×Int×Int:=if AM t≠0 then(Tr.zero,[],AM t,-1)else if 80<l.length then(Tr.zero,[],2,-1)else match CI 0 t l with|.error e=>(Tr.zero,[],e.1,e.2)|.ok r=>(r.1,r.2,0,0)
theorem ZJ{t:Tr}{l:List AL}(h:AM t≠0):Gq t l=(Tr.zero,[],(AM t:Int),-1):=by unfold Gq;rw[A7 h]
theorem ZK{t:Tr}{l:List AL}(h:AM t=0)(a:80<l.length):Gq t l=(Tr.zero,[],2,-1):=by unfold Gq;rw[Aw (AB h),A7 a]
theorem ZL{t:Tr}{l:List AL}{e:Nat×Nat}(h:AM t=0)(b:l.length<=80)(a:CI 0 t l=.error e):Gq t l=(Tr.zero,[],(e.1:Int),(e.2:Int)):=by unfold Gq;rw[Aw (AB h),Aw Aa,a]
theorem Q9{t:Tr}{l:List AL}{r:Tr×List AL}(h:AM t=0)(b:l.length<=80)(a:CI 0 t l=.ok r):Gq t l=(r.1,r.2,0,0):=by unfold Gq;rw[Aw (AB h),Aw Aa,a]
theorem Agf{t:Tr}{l:List AL}(h:(Gq t l).2.2.1=0):AM t=0/\l.length<=80/\CI 0 t l=.ok ((Gq t l).1,(Gq t l).2.1)/\(Gq t l).2.2.2=0:=by by_cases a:AM t=0;{by_cases b:l.length<=80;{cases c:CI 0 t l with|error e=>rw[ZL a b c]at h;have:=(ZI c).1;simp only[]at h;omega|ok r=>refine⟨a,b,?_,?_⟩<;>rw[Q9 a b c]};. rw[ZK a Aa]at h;simp at h};. rw[ZJ a]at h;simp only[]at h;omega
theorem Agg{t:Tr}{l:List AL}(h:(Gq t l).2.2.1=0):Gq (Gq t l).1 (Gq t l).2.1=(t,l,0,0)/\(Gq t l).2.1.length=l.length:=by obtain⟨c,d,a,_⟩:=Agf h;have b:=Q8 a;exact⟨Q9 (Vx a c) (by rw[b];exact d) (SR 0 a),b⟩
mutual
def IM(g:Nat->Bool)(p:Nat):Tr->List Tr|H l ks=>if g (p+Av ks)then CY g p ks else[H l (CY g p ks)]
def CY(g:Nat->Bool)(p:Nat):List Tr->List Tr|[]=>[]|k::ks=>IM g p k++CY g (p+k.sz) ks
end
mutual
def EH(g:Nat->Bool)(p:Nat):Tr->Nat->List Int|H _ ks,n=>FO g p ks 0 n
def FO(g:Nat->Bool)(p:Nat):List Tr->Nat->Nat->List Int|[],_,_=>[]|k::ks,c,n=>if n<p+k.sz then(c:Int)::EH g p k n else FO g (p+k.sz) ks (c+(IM g p k).length) n
end
theorem J8(g:Nat->Bool)(p:Nat)(l:ByteArray)(a:List Tr):IM g p (H l a)=if g (p+Av a)then CY g p a else[H l (CY g p a)]:=by rw[IM]
theorem J9(g:Nat->Bool)(p:Nat)(l:ByteArray)(a:List Tr)(n:Nat):EH g p (H l a) n=FO g p a 0 n:=by rw[EH]
mutual
theorem ZM{g h:Nat->Bool}:∀(t:Tr)(p:Nat),(∀i,p<=i->i<p+t.sz->g i=h i)->IM g p t=IM h p t|H l ks,p,e=>by rw[Bv]at e;rw[J8,J8,e _ Aa Aa,SS ks p λi h1 h2=>e i h1 Aa]
theorem SS{g h:Nat->Bool}:∀(ks:List Tr)(p:Nat),(∀i,p<=i->i<p+Av ks->g i=h i)->CY g p ks=CY h p ks|[],p,e=>by simp[CY]|k::ks,p,e=>by rw[DL]at e;rw[CY,CY,ZM k p λi h1 h2=>e i h1 Aa,SS ks (p+k.sz) λi h1 h2=>e i Aa Aa]
end
theorem SU(g:Nat->Bool):∀(a:List Tr)(p c n:Nat),p+Av a<=n->FO g p a c n=[]|[],p,c,n,_=>by simp[FO]|k::a,p,c,n,h=>by rw[DL]at h;rw[FO,Aw Aa,SU g a _ _ n Aa]
theorem QA(g:Nat->Bool):∀(a:List Tr)(p c n:Nat),n<p+Av a->p<=n->FO g p a c n≠[]|[],p,c,n,h,b=>by simp at h;omega|k::a,p,c,n,h,b=>by rw[DL]at h;rw[FO];split;{simp};. exact QA g a _ _ n Aa Aa
mutual
theorem SV(g:Nat->Bool):∀(t:Tr)(p n:Nat),∀x∈EH g p t n,0<=x|H l ks,p,n=>by rw[J9];exact ZN g ks p 0 n
theorem ZN(g:Nat->Bool):∀(ks:List Tr)(p c n:Nat),∀x∈FO g p ks c n,0<=x|[],p,c,n=>by simp[FO]|k::ks,p,c,n=>by intro x hx;rw[FO]at hx;split at hx;{rcases DN.1 hx with rfl|hx;{omega};. exact SV g k p n x hx};. exact ZN g ks _ _ n x hx
end
mutual
theorem Vy(g:Nat->Bool):∀(t:Tr)(p n:Nat),(EH g p t n).length<=t.sz|H l ks,p,n=>by rw[J9,Bv];have:=ZO g ks p 0 n;omega
theorem ZO(g:Nat->Bool):∀(ks:List Tr)(p c n:Nat),(FO g p ks c n).length<=Av ks+1|[],p,c,n=>by simp[FO]|k::ks,p,c,n=>by have h1:=Vy g k p n;have h2:=ZO g ks (p+k.sz) (c+(IM g p k).length) n;rw[FO,DL];split;{simp;omega};. omega
end
def Ky(g:Nat->Bool)(n:Nat):Nat->Bool:=λi=>g i||AG (i=n)
theorem Vz{g:Nat->Bool}{n i:Nat}(h:i≠n):g i=Ky g n i:=by simp[Ky,h]
theorem V7(pre:List Tr)(k:Tr)(a:List Tr):DY (pre++k::a) (pre.length:Int)=k:=by rw[JN _ _ Ap];simp
theorem V8{d:AL}(w:d.kind=2):∀(t:Tr)(g:Nat->Bool)(p n:Nat),(∀i,n<=i->g i=D)->p<=n->n+1<p+t.sz->Cv d (EH g p t n) (H t.label (CY g p t.kids))=(H t.label (CY (Ky g n) p t.kids),0):=by
 refine Jm λl A M g p n u F C=>?_;rw[Bv]at C;rw[J9,L5,DS];have P:∀(f:List Tr)(p:Nat)(pre:List Tr),(∀j∈f,j∈A)->p<=n->n<p+Av f->Cv d (FO g p f pre.length n) (H l (pre++CY g p f))=(H l (pre++CY (Ky g n) p f),0):=by intro f;induction f with|nil=>intro p pre _ r s;simp at s;omega|cons k f N=>intro p pre y r s;rw[DL]at s;rw[FO,CY,CY];by_cases v:n<p+k.sz;{rw[A7 v];have K:CY (Ky g n) (p+k.sz) f=CY g (p+k.sz) f:=(SS f _ λi a _=>Vz Aa).symm;rw[K];have x:=M k (y k Ap) g p n u r;obtain⟨m,c⟩:=k;rw[Bv]at v;rw[Bv]at x;rw[J8,J8,u _ Aa];simp only[Kk,Kl,UC];by_cases I:n=p+Av c;{(have o:EH g p (H m c) n=[]:=by rw[J9];exact SU g c p 0 n Aa);(have q:Ky g n (p+Av c)=Aq:=by simp[Ky,I]);have B:CY (Ky g n) p c=CY g p c:=(SS c p λi _ b=>Vz Aa).symm;rw[o,q,B,KN,A7 ⟨w,rfl⟩,Ks,Aw Aa,A7 w,Aw A4];rw[V7,DS];simp};. (have o:Ky g n (p+Av c)=D:=by simp[Ky,u _ (show n<=p+Av c from Aa)];omega);(have q:EH g p (H m c) n≠[]:=by rw[J9];exact QA g c p 0 n Aa r);rw[o];simp only[Kk,Kl,UC];rw[KN,Aw (λe=>q e.2),Aw A4,V7];have:=x Aa;rw[L5,DS]at this;rw[this];simp};. rw[Aw v];have o:IM (Ky g n) p k=IM g p k:=(ZM k p λi _ b=>Vz Aa).symm;have:=N (p+k.sz) (pre++IM g p k) (λz L=>y z (GK _ L)) Aa Aa;rw[Be,Dm,Dm]at this;rw[o];exact this
 have:=P A p [] (λ_ h=>h) F Aa;simpa using this
theorem ZP(g:Nat->Bool):∀(t:Tr)(p:Nat),Av (CY g p t.kids)<=Av t.kids:=by
 refine Jm λl c i p=>?_;rw[DS];have o:∀(a:List Tr)(p:Nat),(∀j∈a,j∈c)->Av (CY g p a)<=Av a:=by intro a;induction a with|nil=>intro p _;simp[CY]|cons k a n=>intro p b;have d:=i k (b k Ap) p;have e:=n (p+k.sz) λz f=>b z (GK _ f);obtain⟨m,q⟩:=k;rw[DS]at d;rw[CY,GS,DL,J8];simp only[Bv]at e⊢;split;{omega};. simp only[DL,L0,Bv];omega
 exact o c p λ_ h=>h
theorem Agh(g:Nat->Bool):∀(t:Tr)(p:Nat)(n:Int),t.deepZ n=Aq->∀k∈CY g p t.kids,k.deepZ (n-1)=Aq:=by
 refine Jm λl i q p n e=>?_;rw[DS];rw[Tr.deepZ]at e;simp only[Ed,FG,L4]at e;have s:∀(b:List Tr)(p:Nat),(∀j∈b,j∈i)->∀k∈CY g p b,k.deepZ (n-1)=Aq:=by intro b;induction b with|nil=>intro p _ k a;simp[CY]at a|cons j b r=>intro p f k a;rw[CY,Fu]at a;rcases a with a|a;{have c:=e.2 j (f j Ap);have d:=q j (f j Ap) p (n-1) c;obtain⟨m,u⟩:=j;rw[DS]at d;rw[J8]at a;split at a;{exact Zb k _ _ Aa (d k a)};. rw[Ia]at a;subst a;rw[Tr.deepZ]at c⊢;simp only[Ed,FG,L4]at c⊢;exact⟨c.1,d⟩};. exact r _ (λz o=>f z (GK _ o)) k a
 exact s i p λ_ h=>h
theorem Agi(g:Nat->Bool):∀(t:Tr)(p:Nat),t.named=Aq->∀k∈CY g p t.kids,k.named=Aq:=by
 refine Jm λl i o p f=>?_;rw[DS];rw[Mb]at f;have r:∀(b:List Tr)(p:Nat),(∀j∈b,j∈i)->∀k∈CY g p b,k.named=Aq:=by intro b;induction b with|nil=>intro p _ k a;simp[CY]at a|cons j b q=>intro p e k a;rw[CY,Fu]at a;rcases a with a|a;{have d:=f.2 j (e j Ap);have c:=o j (e j Ap) p d;obtain⟨m,s⟩:=j;rw[DS]at c;rw[J8]at a;split at a;{exact c k a};. rw[Ia]at a;subst a;rw[Mb]at d⊢;exact⟨d.1,c⟩};. exact q _ (λz n=>e z (GK _ n)) k a
 exact r i p λ_ h=>h
def De(g:Nat->Bool)(t:Tr):Tr:=H t.label (CY g 0 t.kids)
theorem Ml(g:Nat->Bool){t:Tr}(h:AM t=0):AM (De g t)=0:=by obtain⟨f,i,d⟩:=Dd.1 h;obtain⟨l,a⟩:=t;have e:=ZP g (H l a) 0;have b:=Agh g (H l a) 0 10 i;have c:=Agi g (H l a) 0 d;simp only[DS]at e b c;refine Dd.2 ⟨?_,?_,?_⟩;{simp only[De,DS,Bv]at f⊢;omega};{rw[De,DS,Tr.deepZ];simp only[Ed,FG,L4];exact⟨Aa,b⟩};. rw[De,DS,L5,Mb];exact⟨((Mb l a).1 d).1,c⟩
theorem QB(t:Tr):De (λ_=>D) t=t:=by
 have:∀(t:Tr)(p:Nat),CY (λ_=>D) p t.kids=t.kids:=by refine Jm λl d f p=>?_;rw[DS];(have i:∀(a:List Tr)(p:Nat),(∀j∈a,j∈d)->CY (λ_=>D) p a=a:=by intro a;induction a with|nil=>intro p _;simp[CY]|cons j a g=>intro p c;have b:=f j (c j Ap) p;rw[CY,g _ λz e=>c z (GK _ e)];obtain⟨m,k⟩:=j;rw[DS]at b;rw[J8,b];rfl);exact i d p λ_ h=>h
 unfold De;rw[this,S5]
def Cb(l:List Nat):Nat->Bool:=λi=>AG (i∈l)
theorem V9(l:List Nat)(n:Nat):Cb (l++[n])=Ky (Cb l) n:=by funext i;simp[Cb,Ky]
theorem QC:Cb []=λ_=>D:=by funext i;simp[Cb]
def Dc(t:Tr):List Nat->List Nat->List AL|_,[]=>[]|pre,n::l=>⟨2,EH (Cb pre) 0 t n,0,0,⟨#[]⟩⟩::Dc t (pre++[n]) l
theorem Mm(t:Tr):∀(l pre:List Nat),(Dc t pre l).length=l.length|[],_=>rfl|n::l,pre=>by simp[Dc,Mm t l]
theorem SW{t:Tr}(j:AM t=0):∀(l pre:List Nat)(i:Nat),(pre++l).Pairwise (λa b=>a<b)->(∀n∈l,n+1<t.sz)->∃c,CI i (De (Cb pre) t) (Dc t pre l)=.ok (De (Cb (pre++l)) t,c)|[],pre,i,_,_=>⟨[],by rw[EL];rfl⟩|n::l,pre,i,h,g=>by(have p:∀i,n<=i->Cb pre i=D:=λi s=>by simp only[Cb,Ow];intro f;rw[RT]at h;have:=h.2.2 i f n Ap;omega);have e:=V8 (d:=⟨2,EH (Cb pre) 0 t n,0,0,⟨#[]⟩⟩) rfl t (Cb pre) 0 n p BD (by have:=g n Ap;omega);(have o:(BJ (De (Cb pre) t) ⟨2,EH (Cb pre) 0 t n,0,0,⟨#[]⟩⟩).2.2=0:=by refine KO.2 ⟨Ml _ j,G5.2 ⟨Ap,Ap,λ_=>⟨rfl,?_⟩,Ap,Ap,SV _ _ _ _,Ap⟩,?_,?_⟩;{have:=g n Ap;obtain⟨m,r⟩:=t;simp only[Bv]at this;rw[J9];exact QA _ r 0 0 n Aa BD};{unfold De;rw[e]};. unfold De;rw[e];exact Ml _ j);(have q:(BJ (De (Cb pre) t) ⟨2,EH (Cb pre) 0 t n,0,0,⟨#[]⟩⟩).1=De (Cb (pre++[n])) t:=by rw[MJ o];unfold De;rw[e,V9]);obtain⟨c,k⟩:=SW j l (pre++[n]) (i+1) (by rw[Dm];exact h) (λm f=>g m (GK _ f));rw[<-q]at k;rw[Dc];refine⟨c++[(BJ (De (Cb pre) t) ⟨2,EH (Cb pre) 0 t n,0,0,⟨#[]⟩⟩).2.1],?_⟩;rw[KX o k];simp only[Dm,UC]
mutual
theorem Agj:∀(t:Tr)(p:Nat)(par:Int),∀x∈Dx p par t,x.par=par\/((p:Int)<=x.par/\x.par<(p:Int)+t.sz)|H l ks,p,par,x,hx=>by simp only[Dx,Fu,Ia]at hx;rcases hx with hx|rfl;{rcases QD ks p _ x hx with h|h;{right;simp only[Bv];omega};. right;simp only[Bv];omega};. exact .inl rfl
theorem QD:∀(ks:List Tr)(p:Nat)(par:Int),∀x∈BM p par ks,x.par=par\/((p:Int)<=x.par/\x.par<(p:Int)+Av ks)|[],p,par,x,hx=>by cases hx|k::ks,p,par,x,hx=>by simp only[BM,Fu]at hx;rcases hx with hx|hx;{rcases Agj k p par x hx with h|h;{exact .inl h};. right;simp only[DL];omega};. rcases QD ks _ par x hx with h|h;{exact .inl h};. right;simp only[DL];omega
end
theorem VA{l:List Nd}(h:∀x∈l,x.par≠k):l.countP (λx=>AG (x.par=k))=0:=by rw[List.countP_eq_zero];intro x a;simpa using h x a
theorem Agk(t:Tr)(p:Nat)(a:Int)(h:(p:Int)+t.sz<=a):(Dx p a t).countP (λx=>AG (x.par=a))=1:=by cases t with|node l d=>simp only[Bv]at h;simp only[Dx,Qm,Ae9,List.countP_nil];rw[VA (λx c=>by rcases QD d p _ x c with b|b<;>omega)];simp
theorem ZQ:∀(b:List Tr)(p:Nat)(a:Int),(p:Int)+Av b<=a->(BM p a b).countP (λx=>AG (x.par=a))=b.length|[],p,a,h=>rfl|k::b,p,a,h=>by simp only[DL]at h;simp only[BM,Qm,BZ];rw[Agk k p a Aa,ZQ b _ a Aa];omega
theorem ZR{α:Type}{A C:List α}{x:α}{L:List α}(h:L=A++x::C){n:Nat}(a:n=A.length):∃b:n<L.length,L[n]=x:=by subst h;subst a;exact⟨Ap,Ap⟩
theorem Agl(t:Tr):∀(A C:List Nd)(i:Int)(L:List Nd),L=A++Dx A.length i t++C->(∀x∈A,¬((A.length:Int)<=x.par/\x.par<(A.length:Int)+t.sz))->∀m,m<t.sz->IJ L (A.length+m)=IJ L (A.length+t.sz-1)++EQ t m:=by induction t using Jm with|h l a M=>intro A C i L u o m hm;(have K:A.length+(H l a).sz-1=A.length+Av a:=by simp only[Bv];omega);rw[K];(have z:EQ (H l a) m=Id a 0 m:=by rw[EQ]);rw[z];by_cases F:m=Av a;{subst F;rw[SM a 0 _ AQ,EL]};have y:m<Av a:=Aa;clear hm F;(obtain⟨j,f,q,r⟩:∃j,∃f:j<a.length,Av (a.take j)<=m/\m<Av (a.take j)+a[j].sz:=by clear u o K z M;induction a generalizing m with|nil=>simp at y|cons k a a3=>by_cases X:m<k.sz;{exact⟨0,Ap,Ap,AB X⟩};. obtain⟨j,f,q,r⟩:=a3 (m-k.sz) (by simp at y;omega);refine⟨j+1,AB f,?_,?_⟩;{simp only[Fk,DL];omega};. simp only[Fk,DL,J3];omega);rw[Z9 a j m f q r];(have I:a=a.take j++a[j]::a.drop (j+1):=by rw[<-FH f,KB]);generalize Y:a[j]=k at*;generalize T:a.take j=B at*;generalize hD:a.drop (j+1)=g at*;(have W:B.length=j:=by rw[<-T,DU];omega);(have a0:Av a=Av B+k.sz+Av g:=by rw[I];simp;omega);have a5:=k.sz_pos;generalize p:((A.length+Av a:Nat):Int)=b at*;(have a4:b=(A.length:Int)+Av B+k.sz+Av g:=by rw[<-p,a0];omega);(have e:(A++BM A.length b B).length=A.length+Av B:=by rw[Be,Fw]);(have v:L=(A++BM A.length b B)++Dx (A++BM A.length b B).length b k++(BM (A.length+Av B+k.sz) b g++[⟨l,i,(A.length:Int)⟩]++C):=by rw[u,e];simp only[Dx,p];rw[I,SH];simp only[BM,Dm]);(have a2:∀x∈A++BM A.length b B,¬(((A++BM A.length b B).length:Int)<=x.par/\x.par<((A++BM A.length b B).length:Int)+k.sz):=by intro x c;rw[e];rcases Fu.1 c with c|c;{have:=o x c;omega};. rcases QD B A.length b x c with h|h<;>omega);(have a1:k∈a:=by rw[<-Y];exact BU f);have s:=M k a1 _ _ b L v a2 (m-Av B) Aa;rw[e,show A.length+Av B+(m-Av B)=A.length+m from Aa]at s;rw[s];(have S:IJ L (A.length+Av B+k.sz-1)=IJ L (A.length+Av a)++[(j:Int)]:=by cases k with|node l2 d=>simp only[Bv]at*;(have w:L=((A++BM A.length b B)++BM (A.length+Av B) ((A.length+Av B+Av d:Nat):Int) d)++⟨l2,b,((A.length+Av B:Nat):Int)⟩::(BM (A.length+Av B+(Av d+1)) b g++[⟨l,i,(A.length:Int)⟩]++C):=by rw[v,e];simp only[Dx,Dm,UC]);obtain⟨hl,c⟩:=ZR w (n:=A.length+Av B+(Av d+1)-1) (by rw[Be,e,Fw];omega);rw[Vs hl (by rw[c];show _<b;omega),c];(have N:b.toNat=A.length+Av a:=by rw[<-p];omega);rw[N];congr 2;(have P:MQ L (A.length+Av B+(Av d+1)-1) b=j:=by unfold MQ;(have Q:L.take (A.length+Av B+(Av d+1)-1)=(A++BM A.length b B)++BM (A.length+Av B) ((A.length+Av B+Av d:Nat):Int) d:=by rw[w];exact U9 (by rw[Be,e,Fw];omega));rw[Q,Qm,Qm,ZQ B A.length b Aa,W];rw[VA (l:=A) (λx c=>A8 (o x c))];rw[VA (l:=BM _ _ d) (λx c=>by rcases QD d _ _ x c with h|h<;>omega)];omega);rw[P]);rw[S,Dm];rfl
theorem Agm(t:Tr)(n:Nat):IJ (AJ t) n=EQ t n:=by have f:=Cy t;by_cases b:n<t.sz;{have h:=Agl t [] [] (-1) (AJ t) (by simp[AJ]) Ap n b;simp only[CS,Dv]at h;rw[h];(have d:IJ (AJ t) (t.sz-1)=[]:=by cases t with|node l a=>simp only[Bv,MB]at*;obtain⟨c,e⟩:=ZR (L:=AJ (H l a)) (A:=BM 0 ((0+Av a:Nat):Int) a) (x:=⟨l,-1,((0:Nat):Int)⟩) (C:=[]) (n:=Av a) (by simp[AJ,Dx]) (by rw[Fw]);exact Vr c (by rw[e];show¬((Av a:Nat):Int)< -1;omega));rw[d];rfl};. rw[SK Aa];cases t with|node l a=>(have:EQ (H l a) n=Id a 0 n:=by rw[EQ]);rw[this,SM a 0 n (by simp at b;omega)]
def lc(l m:ByteArray):Nat:=if l=m then 0 else 1
theorem Mn(l m:ByteArray):lc l m<=1:=by unfold lc;split<;>omega
theorem VB(l:ByteArray):lc l l=0:=by simp[lc]
theorem Agn(l m n:ByteArray):lc l n<=lc l m+lc m n:=by unfold lc;by_cases h:l=m;{subst h;simp};. by_cases g:m=n;{subst g;simp};. rw[Aw h,Aw g];split<;>omega
def MR:List Tr->List Tr->Nat|[],a=>Av a|H l b::F,[]=>Av (H l b::F)|H l b::F,H m c::a=>min (MR (b.reverse++F) (H m c::a)+1) (min (MR (H l b::F) (c.reverse++a)+1) (MR F a+MR b.reverse c.reverse+lc l m))termination_by F a=>Av F+Av a decreasing_by all_goals(simp;try omega)
def fd(F a:List Tr):Nat:=MR F.reverse a.reverse
theorem QE(a:List Tr):fd [] a=Av a:=by simp[fd,MR]
theorem Ta(F:List Tr):fd F []=Av F:=by unfold fd;rcases h:F.reverse with _|⟨⟨l,b⟩,a⟩;{simp at h;subst h;simp[MR]};. rw[List.reverse_nil,MR,<-h,YV]
theorem QF(F a:List Tr)(l m:ByteArray)(c b:List Tr):fd (F++[H l c]) (a++[H m b])=min (fd (F++c) (a++[H m b])+1) (min (fd (F++[H l c]) (a++b)+1) (fd F a+fd c b+lc l m)):=by unfold fd;simp only[List.reverse_append,List.reverse_cons,List.reverse_nil,F7,UC];rw[MR]
theorem VD(F a:List Tr)(l:ByteArray)(b:List Tr):fd (F++[H l b]) a<=fd (F++b) a+1:=by rcases UD a with rfl|⟨a,⟨m,c⟩,rfl⟩;{simp only[Ta];simp;omega};. simp only[AeA];rw[QF];omega
theorem Tb(F a:List Tr)(m:ByteArray)(b:List Tr):fd F (a++[H m b])<=fd F (a++b)+1:=by rcases UD F with rfl|⟨F,⟨l,c⟩,rfl⟩;{simp only[QE];simp;omega};. simp only[AeA];rw[QF];omega
theorem ZS(F a:List Tr)(l m:ByteArray)(c b:List Tr):fd (F++[H l c]) (a++[H m b])<=fd F a+fd c b+lc l m:=by rw[QF];omega
theorem P7(F a:List Tr):(F=[]/\a=[])\/(∃d l c,F=d++[H l c]/\fd F a=fd (d++c) a+1)\/(∃e m b,a=e++[H m b]/\fd F a=fd F (e++b)+1)\/(∃d l c e m b,F=d++[H l c]/\a=e++[H m b]/\fd F a=fd d e+fd c b+lc l m):=by rcases UD F with rfl|⟨F,⟨l,c⟩,rfl⟩;{rcases UD a with rfl|⟨a,⟨m,b⟩,rfl⟩;{exact .inl ⟨rfl,rfl⟩};. refine .inr (.inr (.inl ⟨a,m,b,Ap,?_⟩));simp only[QE];simp;omega};. rcases UD a with rfl|⟨a,⟨m,b⟩,rfl⟩;{refine .inr (.inl ⟨F,l,c,Ap,?_⟩);simp only[Ta];simp;omega};. simp only[AeA];have h:=QF F a l m c b;rcases Nw (fd (F++[H l c]) (a++[H m b])) (fd (F++c) (a++[H m b])+1)with f|f;{rcases Nw (fd (F++[H l c]) (a++[H m b])) (fd (F++[H l c]) (a++b)+1)with g|g;{exact .inr (.inr (.inr ⟨F,l,c,a,m,b,rfl,rfl,Aa⟩))};. exact .inr (.inr (.inl ⟨a,m,b,rfl,Aa⟩))};. exact .inr (.inl ⟨F,l,c,rfl,Aa⟩)
theorem VE(b f c g:List Tr):fd (b++c) (f++g)<=fd b f+fd c g:=by suffices hh:∀n c g,Av c+Av g<=n->fd (b++c) (f++g)<=fd b f+fd c g from hh _ c g AQ;intro n;induction n with|zero=>intro F k h;rcases P7 F k with⟨rfl,rfl⟩|⟨a,l,j,rfl,e⟩|⟨d,m,i,rfl,e⟩|⟨a,l,j,d,m,i,rfl,rfl,e⟩;{simp};all_goals(simp at h)|succ n q=>intro F k h;rcases P7 F k with⟨rfl,rfl⟩|⟨a,l,j,rfl,e⟩|⟨d,m,i,rfl,e⟩|⟨a,l,j,d,m,i,rfl,rfl,e⟩;{simp};(all_goals simp at h);{have o:=VD (b++a) (f++k) l j;have p:=q (a++j) k A4;simp only[Dm]at o p⊢;omega};{have o:=Tb (b++F) (f++d) m i;have p:=q F (d++i) A4;simp only[Dm]at o p⊢;omega};. have o:=ZS (b++a) (f++d) l m j i;have p:=q a d Aa;simp only[Dm]at o p⊢;omega
theorem Tc{F a:List Tr}{l m:ByteArray}{c b:List Tr}(h:F++[H l c]=a++[H m b]):F=a/\l=m/\c=b:=by have d:=List.append_inj' h rfl;simpa using d
theorem Ago(F k a:List Tr):fd F a<=fd F k+fd k a:=by suffices hh:∀n F k a,Av F+Av k+Av a<=n->fd F a<=fd F k+fd k a from hh _ F k a AQ;intro n;induction n with|zero=>intro F k a h;rcases P7 F a with⟨rfl,rfl⟩|⟨d,l,j,rfl,e⟩|⟨b,m,c,rfl,e⟩|⟨d,l,j,b,m,c,rfl,rfl,e⟩;{simp[QE]};all_goals(simp at h)|succ n p=>intro F k a h;rcases P7 F k with⟨rfl,rfl⟩|⟨d,l,j,rfl,e⟩|⟨b,m,c,rfl,e⟩|⟨d,l,j,b,m,c,rfl,rfl,e⟩;{omega};{simp at h;have s:=VD d a l j;have q:=p (d++j) k a A4;omega};{simp at h;rcases P7 (b++[H m c]) a with⟨g,_⟩|⟨X,u,t,g,r⟩|⟨f,o,i,rfl,r⟩|⟨X,u,t,f,o,i,g,rfl,r⟩;{simp at g};{obtain⟨rfl,rfl,rfl⟩:=Tc g;have q:=p F (b++c) a A4;omega};{simp at h;have s:=Tb F f o i;have q:=p F (b++[H m c]) (f++i) A4;omega};. obtain⟨rfl,rfl,rfl⟩:=Tc g;simp at h;have s:=p F (b++c) (f++[H o i]) A4;have q:=Tb (b++c) f o i;have v:=VE b f c i;omega};. simp at h;rcases P7 (b++[H m c]) a with⟨g,_⟩|⟨X,u,t,g,r⟩|⟨f,o,i,rfl,r⟩|⟨X,u,t,f,o,i,g,rfl,r⟩;{simp at g};{obtain⟨rfl,rfl,rfl⟩:=Tc g;have s:=p (d++[H l j]) (b++c) a A4;have q:=VD d (b++c) l j;have v:=VE d b j c;omega};{simp at h;have s:=Tb (d++[H l j]) f o i;have q:=p (d++[H l j]) (b++[H m c]) (f++i) A4;omega};. obtain⟨rfl,rfl,rfl⟩:=Tc g;simp at h;have s:=ZS d f l o j i;have q:=p d b f Aa;have v:=p j c i Aa;have w:=Agn l m o;omega
theorem Agp(F a:List Tr):fd F a<=Av F+Av a:=by have:=Ago F [] a;rw[Ta,QE]at this;exact this
def AR(xs:List Nd)(k:Nat):Nat:=match xs[k]? with|J x=>min x.left.toNat k|G=>k
def Bh(xs:List Nd)(k:Nat):ByteArray:=match xs[k]? with|J x=>x.lab|G=>⟨#[]⟩
theorem Fo(xs:List Nd)(k:Nat):AR xs k<=k:=by unfold AR;split<;>omega
theorem LG(xs:List Nd)(k:Nat)(h:k<xs.length):Bh xs k=xs[k].lab:=by unfold Bh;rw[Em h]
def LH(p:Nat)(L:List Nd):Prop:=∀k(h:k<L.length),(p:Int)<=L[k].left/\L[k].left<=((p+k:Nat):Int)/\∀j(a:j<=k),L[k].left<=((p+j:Nat):Int)->L[k].left<=(L[j]'(Nat.lt_of_le_of_lt a h)).left
theorem LH.nil(p:Nat):LH p []:=λ_ h=>absurd h (Gz _)
theorem LH.append{A B:List Nd}(g:LH p A)(i:LH (p+A.length) B):LH p (A++B):=by intro k h;by_cases e:k<A.length;{rw[Im e];obtain⟨b,c,a⟩:=g k e;refine⟨b,c,λj d f=>?_⟩;rw[Im Aa];exact a j d f};. rw[KD Aa];rw[Be]at h;obtain⟨b,c,a⟩:=i (k-A.length) Aa;refine⟨Aa,Aa,λj d f=>?_⟩;have l:A.length<=j:=Aa;rw[KD l];exact a (j-A.length) Aa Aa
theorem LH.root{A:List Nd}(a:LH p A)(l:ByteArray)(m:Int):LH p (A++[⟨l,m,(p:Int)⟩]):=by intro k h;by_cases d:k<A.length;{rw[Im d];obtain⟨e,f,g⟩:=a k d;refine⟨e,f,λj b i=>?_⟩;rw[Im Aa];exact g j b i};. simp only[Be,DP]at h;obtain rfl:k=A.length:=Aa;rw[KD Aa];simp only[Qn,Fb];refine⟨Int.le_refl _,Aa,λj b _=>?_⟩;by_cases c:j<A.length;{rw[Im c];exact(a j c).1};. obtain rfl:j=A.length:=Aa;rw[KD Aa];simp only[Qn,Fb];exact Int.le_refl _
mutual
theorem ZT:∀(t:Tr)(p:Nat)(par:Int),LH p (Dx p par t)|H l ks,p,par=>by rw[Dx];exact(QG ks p _).root l par
theorem QG:∀(ks:List Tr)(p:Nat)(par:Int),LH p (BM p par ks)|[],p,par=>by rw[BM];exact LH.nil p|k::ks,p,par=>by exact(ZT k p par).append (by rw[J6];exact QG ks _ par)
end
structure DG (xs : List Nd) : Prop where
  left : ∀ k (h : k < xs.length), xs[k].left = (AR xs k : Int)
  nest : ∀ k j, k < xs.length → AR xs k ≤ j → j ≤ k → AR xs k ≤ AR xs j
theorem LH.fit{xs:List Nd}(h:LH 0 xs):DG xs:=by
 have b:∀k(h:k<xs.length),xs[k].left=(AR xs k:Int):=λk a=>by obtain⟨d,c,_⟩:=h k a;unfold AR;rw[Em a];simp only;omega
 refine⟨b,λk j a d c=>?_⟩;have e:=(h k a).2.2 j c;rw[b k a,b j Aa]at e;omega
theorem Jr(t:Tr):DG (AJ t):=(ZT t 0 (-1)).fit
def Cl(xs:List Nd)(i0 i:Nat):Prop:=∀k,i0<=k->k<i->i0<=AR xs k
theorem Cl.mono{xs:List Nd}(h:Cl xs i0 i)(c:j<=i):Cl xs i0 j:=λk a b=>h k a Aa
theorem Cl.zero(xs:List Nd)(i:Nat):Cl xs 0 i:=λ_ _ _=>Gm _
abbrev Jj:=@Cl.zero
theorem DG.cl{xs:List Nd}(h:DG xs)(b:i<xs.length):Cl xs (AR xs i) (i+1):=λk a c=>h.nest i k b a Aa
theorem DG.cl'{xs:List Nd}(h:DG xs)(a:i<xs.length):Cl xs (AR xs i) i:=(h.cl a).mono Aa
def EI(xs:List Nd)(i0:Nat):Nat->List Tr|0=>[]|i+1=>if i0<=i then EI xs i0 (AR xs i)++[H (Bh xs i) (EI xs (AR xs i) i)]else[]termination_by i=>i decreasing_by all_goals(have:=Fo xs i;omega)
theorem KY(xs:List Nd)(i0 i:Nat)(h:i<=i0):EI xs i0 i=[]:=by cases i with|zero=>rw[EI]|succ i=>rw[EI,Aw Aa]
theorem KZ(xs:List Nd)(i0 i:Nat)(h:i0<=i):EI xs i0 (i+1)=EI xs i0 (AR xs i)++[H (Bh xs i) (EI xs (AR xs i) i)]:=by rw[EI,A7 h]
theorem ZU(xs:List Nd)(i0 m:Nat)(f:i0<=m):∀(N q:Nat),q<N->m<=q->Cl xs m q->EI xs i0 q=EI xs i0 m++EI xs m q:=by intro N;induction N with|zero=>intro q h;omega|succ N d=>intro q j g a;by_cases b:q=m;{subst b;rw[KY xs q q AQ,EL]};. obtain⟨i,rfl⟩:∃i,q=i+1:=⟨q-1,Aa⟩;have c:=a i Aa Aa;have e:=Fo xs i;rw[KZ xs i0 i Aa,KZ xs m i Aa,d (AR xs i) Aa c (a.mono Aa),Dm]
theorem Td(xs:List Nd):∀(N i0 i:Nat),i<N->i0<=i->(∀k,i0<=k->k<i->i0<=AR xs k)->DG xs->i<=xs.length->Av (EI xs i0 i)=i-i0:=by intro N;induction N with|zero=>intro i0 i h;omega|succ N e=>intro i0 i p m d c q;by_cases f:i=i0;{subst f;rw[KY xs i i AQ];simp};. obtain⟨j,rfl⟩:∃j,i=j+1:=⟨i-1,Aa⟩;have g:=d j Aa Aa;have l:=Fo xs j;have n:=e i0 (AR xs j) Aa g (λk a b=>d k a Aa) c Aa;have o:=e (AR xs j) j Aa l (c.cl' Aa) c Aa;rw[KZ xs i0 j Aa];simp only[GS,DL,L0,Bv];omega
theorem Agq:(∀t:Tr,∀(A C:List Nd)(a:Int)(L:List Nd),L=A++Dx A.length a t++C->EI L A.length (A.length+t.sz)=[t]):=by intro t;induction t using Jm with|_ l c y=>intro A C a L e;(have B:∀(b:List Tr),(∀k∈b,k∈c)->∀(A C:List Nd)(a:Int),L=A++BM A.length a b++C->EI L A.length (A.length+Av b)=b:=by intro b;induction b with|nil=>intro _ A C a _;rw[KY _ _ _ Ap]|cons k b z=>intro g A C a d;rw[BM]at d;have n:=y k (g k Ap) A (BM (A.length+k.sz) a b++C) a L (by rw[d];simp);have f:=z (λx w=>g x (by simp[w])) (A++Dx A.length a k) C a (by rw[d];simp[J6]);rw[Be,J6]at f;have v:=ZU L A.length (A.length+k.sz) Aa _ (A.length+(k.sz+Av b)) (Cw _) Aa (λq K M=>by have p:=QG b (A.length+k.sz) a;have I:=Fw b (A.length+k.sz) a;have i:q-(A.length+k.sz)<(BM (A.length+k.sz) a b).length:=Aa;have F:=(p _ i).1;(have j:q<L.length:=by rw[d];simp[J6,Fw];omega);(have o:L[q]=(BM (A.length+k.sz) a b)[q-(A.length+k.sz)]:=by(have:L[q]?=(BM (A.length+k.sz) a b)[q-(A.length+k.sz)]?:=by rw[d,Qo (by simp[J6,Fw];omega),Ox Aa,Ox (by rw[J6];omega),J6];congr 1;omega);rw[Em j,Em i]at this;simpa using this);unfold AR;rw[Em j,o];simp only;omega);rw[DL,v,n,<-Lr,f];rfl);rw[Dx]at e;have r:=B c (λ_ h=>h) A ([⟨l,a,(A.length:Int)⟩]++C) ((A.length+Av c:Nat):Int) (by rw[e];simp only[Dm]);(have m:L[A.length+Av c]?=J ⟨l,a,(A.length:Int)⟩:=by rw[e,Qo (by simp[Fw]),Ox Aa,Ox (by rw[Fw];omega),Fw];simp);(have u:AR L (A.length+Av c)=A.length:=by unfold AR;rw[m];simp only;omega);(have s:Bh L (A.length+Av c)=l:=by unfold Bh;rw[m]);rw[Bv,<-Lr,KZ L _ _ Aa,u,s,r,KY _ _ _ AQ];rfl
theorem VF(t:Tr):EI (AJ t) 0 t.sz=[t]:=by have:=Agq t [] [] (-1) (AJ t) (by simp[AJ]);simpa using this
theorem QH(l:ByteArray)(a:List Tr):(AJ (H l a))[Av a]?=J ⟨l,-1,0⟩:=by unfold AJ;rw[Dx,Ox (by rw[Fw];omega),Fw];simp
theorem ZV(l:ByteArray)(a:List Tr):EI (AJ (H l a)) 0 (Av a)=a:=by
 have h:=VF (H l a);have b:AR (AJ (H l a)) (Av a)=0:=by unfold AR;rw[QH];simp
 rw[Bv,KZ _ _ _ BD,b,KY _ _ _ AQ]at h;simp at h;exact h.2
def Bg(xs ys:List Nd)(i0 i j0 j:Nat):Nat:=fd (EI xs i0 i) (EI ys j0 j)
variable{xs ys:List Nd}
theorem QI(d:DG ys)(b:i<=i0)(c:j0<=j)(a:Cl ys j0 j)(h:j<=ys.length):Bg xs ys i0 i j0 j=j-j0:=by unfold Bg;rw[KY xs i0 i b,QE];exact Td ys _ j0 j (Cw _) c a d h
theorem Te(d:DG xs)(c:j<=j0)(b:i0<=i)(a:Cl xs i0 i)(h:i<=xs.length):Bg xs ys i0 i j0 j=i-i0:=by unfold Bg;rw[KY ys j0 j c,Ta];exact Td xs _ i0 i (Cw _) b a d h
theorem ZW(c:DG xs)(b:i0<=i)(a:Cl xs i0 (i+1))(h:i<xs.length):EI xs i0 i=EI xs i0 (AR xs i)++EI xs (AR xs i) i:=ZU xs i0 (AR xs i) (a i b Aa) _ i (Cw _) (Fo xs i) (c.cl' h)
theorem Tf(xs:List Nd)(i:Nat):EI xs (AR xs i) (i+1)=[H (Bh xs i) (EI xs (AR xs i) i)]:=by rw[KZ xs _ i (Fo xs i),KY _ _ _ AQ];rfl
theorem VG(g:DG xs)(h:DG ys)(a:i0<=i)(b:j0<=j)(c:Cl xs i0 (i+1))(d:Cl ys j0 (j+1))(e:i<xs.length)(f:j<ys.length):Bg xs ys i0 (i+1) j0 (j+1)=min (Bg xs ys i0 i j0 (j+1)+1) (min (Bg xs ys i0 (i+1) j0 j+1) (Bg xs ys i0 (AR xs i) j0 (AR ys j)+Bg xs ys (AR xs i) i (AR ys j) j+lc (Bh xs i) (Bh ys j))):=by unfold Bg;rw[KZ xs i0 i a,KZ ys j0 j b,QF,<-ZW g a c e,<-ZW h b d f]
theorem VH(f:DG xs)(c:DG ys)(d:i<xs.length)(e:j<ys.length):Bg xs ys (AR xs i) (i+1) (AR ys j) (j+1)=min (Bg xs ys (AR xs i) i (AR ys j) (j+1)+1) (min (Bg xs ys (AR xs i) (i+1) (AR ys j) j+1) (Bg xs ys (AR xs i) i (AR ys j) j+lc (Bh xs i) (Bh ys j))):=by have:=VG f c (Fo xs i) (Fo ys j) (f.cl d) (c.cl e) d e;rw[this,QI c AQ AQ (λk a b=>Aa) (A8 (Fo ys j))];simp
theorem ZX(e:DG xs)(f:DG ys)(a:i0<=i)(c:j0<=j)(g:Cl xs i0 (i+1))(h:Cl ys j0 (j+1))(b:i<xs.length)(d:j<ys.length):Bg xs ys i0 (i+1) j0 (j+1)=min (Bg xs ys i0 i j0 (j+1)+1) (min (Bg xs ys i0 (i+1) j0 j+1) (Bg xs ys i0 (AR xs i) j0 (AR ys j)+Bg xs ys (AR xs i) (i+1) (AR ys j) (j+1))):=by
 have k:=VG e f a c g h b d;have l:=VH e f b d;have m:Bg xs ys i0 (i+1) j0 (j+1)<=Bg xs ys i0 (AR xs i) j0 (AR ys j)+Bg xs ys (AR xs i) (i+1) (AR ys j) (j+1):=by have:=VE (EI xs i0 (AR xs i)) (EI ys j0 (AR ys j)) (EI xs (AR xs i) (i+1)) (EI ys (AR ys j) (j+1));rw[Tf,Tf,<-KZ xs i0 i a,<-KZ ys j0 j c]at this;unfold Bg;rw[Tf,Tf];exact this
 omega
theorem ZY(e:DG xs)(f:DG ys)(c:AR xs i=i0)(d:AR ys j=j0)(a:i<xs.length)(b:j<ys.length):Bg xs ys i0 (i+1) j0 (j+1)=min (Bg xs ys i0 i j0 (j+1)+1) (min (Bg xs ys i0 (i+1) j0 j+1) (Bg xs ys i0 i j0 j+lc (Bh xs i) (Bh ys j))):=by subst c;subst d;exact VH e f a b
def JS(a b:Tr):Nat:=fd a.kids b.kids+lc a.label b.label
theorem ZZ(l m:ByteArray)(b a:List Tr):JS (H l b) (H m a)=Bg (AJ (H l b)) (AJ (H m a)) 0 (Av b) 0 (Av a)+lc l m:=by unfold JS Bg;rw[ZV,ZV];rfl
def NQ(p:Nat)(b:Int)(L:List Nd):Prop:=∀k(h:k<L.length),(L[k].par=b/\∀j(a:j<L.length),k<j->((p+k:Nat):Int)<L[j].left)\/(∃m,∃c:m<L.length,k<m/\L[k].par=((p+m:Nat):Int)/\L[m].left<=L[k].left/\∀j(a:j<L.length),k<j->j<m->((p+k:Nat):Int)<L[j].left)
theorem NQ.nil(p:Nat)(a:Int):NQ p a []:=λ_ h=>absurd h (Gz _)
theorem NQ.append{i:Int}{A B:List Nd}(r:NQ p i A)(s:NQ (p+A.length) i B)(q:LH (p+A.length) B):NQ p i (A++B):=by intro k h;by_cases e:k<A.length;{rcases r k e with⟨b,a⟩|⟨m,o,b,a,f,g⟩;{left;rw[Im e];refine⟨b,λj c d=>?_⟩;by_cases l:j<A.length;{rw[Im l];exact a j l d};. rw[KD Aa];have:=(q (j-A.length) (by rw[Be]at c;omega)).1;omega};. right;refine⟨m,Ma,b,?_,?_,λj c d n=>?_⟩;{rw[Im e];exact a};{rw[Im e,Im o];exact f};. rw[Im Aa];exact g j Aa d n};. rw[Be]at h;rcases s (k-A.length) Aa with⟨b,a⟩|⟨m,o,b,a,f,g⟩;{left;rw[KD Aa];refine⟨b,λj c d=>?_⟩;rw[KD Aa];rw[Be]at c;have:=a (j-A.length) Aa Aa;omega};. right;refine⟨A.length+m,Ma,Aa,?_,?_,λj c d n=>?_⟩;{rw[KD Aa,a];omega};{rw[KD Aa,KD Aa];simp only[Anp];exact f};. rw[KD Aa];have:=g (j-A.length) Aa Aa Aa;omega
theorem NQ.root{A:List Nd}(r:NQ p ((p+A.length:Nat):Int) A)(n:LH p A)(l:ByteArray)(b:Int):NQ p b (A++[⟨l,b,(p:Int)⟩]):=by
 intro k h;have i:∀(h:A.length<(A++[(⟨l,b,(p:Int)⟩:Nd)]).length),(A++[(⟨l,b,(p:Int)⟩:Nd)])[A.length]=⟨l,b,(p:Int)⟩:=λh=>by rw[KD AQ];simp
 by_cases a:k<A.length;{right;rcases r k a with⟨e,f⟩|⟨m,s,e,f,o,q⟩;{refine⟨A.length,Ap,a,?_,?_,λj g d c=>?_⟩;{rw[Im a];exact e};{rw[i,Im a];exact(n k a).1};. rw[Im c];exact f j c d};. refine⟨m,A4,e,?_,?_,λj g d c=>?_⟩;{rw[Im a];exact f};{rw[Im a,Im s];exact o};. rw[Im Aa];exact q j Aa d c};. simp only[Be,DP]at h;obtain rfl:k=A.length:=Aa;left;rw[i];exact⟨rfl,λj g d=>by simp only[Be,DP]at g;omega⟩
mutual
theorem Aaa:∀(t:Tr)(p:Nat)(par:Int),NQ p par (Dx p par t)|H l ks,p,par=>by rw[Dx];exact NQ.root (by rw[Fw];exact Aab ks p _) (QG ks p _) l par
theorem Aab:∀(ks:List Tr)(p:Nat)(par:Int),NQ p par (BM p par ks)|[],p,par=>by rw[BM];exact NQ.nil p par|k::ks,p,par=>by exact(Aaa k p par).append (by rw[J6];exact Aab ks _ par) (by rw[J6];exact QG ks _ par)
end
theorem Aac(t:Tr)(k:Nat)(h:k<(AJ t).length):((AJ t)[k].par=-1/\k=t.sz-1)\/(∃m,∃d:m<(AJ t).length,k<m/\(AJ t)[k].par=(m:Int)/\(AJ t)[m].left<=(AJ t)[k].left/\∀j(o:j<(AJ t).length),k<j->j<m->(k:Int)<(AJ t)[j].left):=by rcases Aaa t 0 (-1) k h with⟨b,a⟩|⟨m,d,b,a,f,c⟩;{left;refine⟨b,?_⟩;have p:=Cy t;by_cases g:k=t.sz-1;{exact g};. have e:=a (t.sz-1) (by show _<(AJ t).length;omega) Aa;have i:=(Jr t).left (t.sz-1) Aa;rw[show AR (AJ t) (t.sz-1)=0 from by cases t with|node l q=>rw[Bv,MB];unfold AR;rw[QH];simp]at i;have n:((0+k:Nat):Int)<(AJ t)[t.sz-1].left:=e;omega};. right;simp only[Dv]at a c;exact⟨m,d,b,a,f,c⟩
def MT(l:List Nd)(n:Nat)(k:Int):Bool:=AG (0<=k/\(AR l n:Int)<=k/\k<=(n:Int))
theorem Aad(t:Tr)(n k:Nat)(b:n<(AJ t).length)(g:k<(AJ t).length)(s:k≠n):MT (AJ t) n k=MT (AJ t) n (AJ t)[k].par:=by have a:=Jr t;have q:=a.left n b;have l:=a.left k g;have o:=Fo (AJ t) k;have u:=Cy t;rw[Kj];unfold MT;simp only[FG];rcases Aac t k g with⟨c,d⟩|⟨m,j,c,d,h,e⟩;{rw[c];constructor;{rintro⟨_,e,f⟩;omega};. rintro⟨h,_⟩;omega};. rw[d];have p:=a.left m j;constructor;{rintro⟨_,f,i⟩;by_cases r:m<=n;{omega};. have:=e n b Aa Aa;omega};. rintro⟨_,f,i⟩;have:=a.nest n m b Aa Aa;omega
def Gg(l:List Nd)(i:Nat):Int:=match l[i]? with|J x=>x.par|G=>-1
theorem Mo(l:List Nd)(i:Nat)(h:i<l.length):Gg l i=l[i].par:=by unfold Gg;rw[Em h]
def FA(l:List Nd)(g:Nat->Bool)(u:Int):Int:=if _h:(0<=u/\u<l.length)/\g u.toNat=Aq/\u<Gg l u.toNat then FA l g (Gg l u.toNat)else u termination_by(l.length:Int).toNat-u.toNat decreasing_by omega
theorem Tg{l:List Nd}{g:Nat->Bool}{v:Nat}(h:v<l.length)(a:g v=Aq)(b:(v:Int)<Gg l v):FA l g (v:Int)=FA l g (Gg l v):=by rw[FA,MA ⟨⟨Aa,Aa⟩,AB a,AB b⟩];rfl
theorem P8{l:List Nd}{g:Nat->Bool}{v:Nat}(a:g v=D):FA l g (v:Int)=v:=by rw[FA,Lu];rintro⟨_,h,_⟩;simp[a]at h
theorem Aae{l:List Nd}{g:Nat->Bool}{u:Int}(h:u<0):FA l g u=u:=by rw[FA,Lu];omega
def IX(l:List Nd)(g:Nat->Bool)(a:Int)(p n:Nat):Nat:=(Fv p n).countP λi=>!g i&&AG (FA l g (Gg l i)=a)
theorem QJ(l:List Nd)(g:Nat->Bool)(a:Int)(p n m:Nat):IX l g a p (n+m)=IX l g a p n+IX l g a (p+n) m:=by unfold IX;rw[<-Yr,Qm]
theorem Aaf(l:List Nd)(g:Nat->Bool)(a:Int)(p:Nat):IX l g a p 1=if(!g p&&AG (FA l g (Gg l p)=a))=Aq then 1 else 0:=by unfold IX;simp[Ae9]
theorem VI{l:List Nd}{g:Nat->Bool}{p n:Nat}(h:∀i,p<=i->i<p+n->FA l g (Gg l i)≠k):IX l g k p n=0:=by unfold IX;rw[List.countP_eq_zero];intro i a;rw[Ys]at a;simp only[Ed,FG,not_and];exactλ_=>h i a.1 a.2
def Ir(l:List Nd)(g:Nat->Bool)(n:Nat):List Int:=if h:n<l.length then if(n:Int)<l[n].par then Ir l g l[n].par.toNat++[(IX l g l[n].par 0 n:Int)]else[]else[]termination_by l.length-n decreasing_by omega
theorem VJ{l:List Nd}{g:Nat->Bool}{n:Nat}(h:n<l.length)(a:¬(n:Int)<l[n].par):Ir l g n=[]:=by rw[Ir,MA h,Aw a]
theorem VK{l:List Nd}{g:Nat->Bool}{n:Nat}(h:n<l.length)(a:(n:Int)<l[n].par):Ir l g n=Ir l g l[n].par.toNat++[(IX l g l[n].par 0 n:Int)]:=by rw[Ir,MA h,A7 a]
def JA(l:List Nd)(p:Nat)(L:List Nd):Prop:=∀k,k<L.length->l[p+k]?=L[k]?
theorem JA.left{l:List Nd}{A B:List Nd}(h:JA l p (A++B)):JA l p A:=λk a=>by rw[h k Ma,Qo a]
theorem JA.right{l:List Nd}{A B:List Nd}(h:JA l p (A++B)):JA l (p+A.length) B:=λk a=>by rw[Lr,h (A.length+k) Ma,Ox Aa,Anp]
theorem JA.one{l:List Nd}{x:Nd}(h:JA l p [x]):l[p]?=J x:=by simpa using h 0 Ap
section
variable{t:Tr}{g:Nat->Bool}
theorem Th{v:Nat}(h:v<(AJ t).length):(Gg (AJ t) v=-1/\v=t.sz-1)\/∃m:Nat,m<(AJ t).length/\v<m/\Gg (AJ t) v=(m:Int)/\AR (AJ t) m<=AR (AJ t) v:=by rw[Mo _ _ h];rcases Aac t v h with a|⟨m,b,a,c,f,_⟩;{exact .inl a};. have d:=(Jr t).left m b;have e:=(Jr t).left v h;exact .inr ⟨m,b,a,c,Aa⟩
theorem Aag(g:Nat->Bool):∀(N v:Nat),v<(AJ t).length->(AJ t).length-v<=N->∃u:Nat,FA (AJ t) g (v:Int)=(u:Int)/\v<=u/\u<(AJ t).length/\AR (AJ t) u<=AR (AJ t) v|0,v,h,j=>Aa|N+1,v,h,j=>by by_cases b:g v=Aq;{by_cases c:(v:Int)<Gg (AJ t) v;{rw[Tg h b c];rcases Th h with⟨f,_⟩|⟨m,k,f,i,a⟩;{omega};. rw[i];obtain⟨u,d,l,e,n⟩:=Aag g N m k Aa;exact⟨u,d,Aa,e,Aa⟩};. refine⟨v,?_,BO _,h,BO _⟩;rw[FA,Lu];rintro⟨_,_,a⟩;exact c (AB a)};. exact⟨v,P8 (AB b),BO _,h,BO _⟩
theorem Agr(h:i<(AJ t).length):FA (AJ t) g (Gg (AJ t) i)=-1\/∃u:Nat,FA (AJ t) g (Gg (AJ t) i)=(u:Int)/\i<u/\AR (AJ t) u<=i:=by rcases Th h with⟨a,_⟩|⟨m,d,a,c,k⟩;{left;rw[a];exact Aae Aa};. right;rw[c];obtain⟨u,b,e,f,j⟩:=Aag g _ m d AQ;have:=Fo (AJ t) i;exact⟨u,b,Aa,Aa⟩
theorem Aah{q:Nat}(i:q<(AJ t).length)(b:g q=D):∀(N v:Nat),v<=q->q-v<=N->AR (AJ t) q<=v->FA (AJ t) g (v:Int)<=q|0,v,h,k,l=>by(obtain rfl:v=q:=Aa);rw[P8 b];omega|N+1,v,h,k,l=>by by_cases e:v=q;{subst e;rw[P8 b];omega};. by_cases f:g v=Aq;{have d:=Aad t q v i Aa e;(have o:MT (AJ t) q v=Aq:=by unfold MT;simp;omega);rw[o]at d;have a:=d.symm;rw[<-Mo _ _ Aa]at a;by_cases c:(v:Int)<Gg (AJ t) v;{rw[Tg Aa f c];obtain⟨m,n⟩:=Er (show 0<=Gg (AJ t) v from Aa);rw[n]at a c⊢;unfold MT at a;simp only[FG]at a;exact Aah i b N m Aa Aa Aa};. rw[FA,Lu];{omega};. rintro⟨_,_,j⟩;exact c (AB j)};. rw[P8 (AB f)];omega
theorem Aai(c:q<(AJ t).length)(d:g q=D)(h:i<q)(j:AR (AJ t) q<=i):FA (AJ t) g (Gg (AJ t) i)<=q:=by
 have b:=Aad t q i c Aa Aa;have f:MT (AJ t) q i=Aq:=by unfold MT;simp;omega
 rw[f]at b;have a:=b.symm;rw[<-Mo _ _ Aa]at a;unfold MT at a;simp only[FG]at a;obtain⟨m,e⟩:=Er (show 0<=Gg (AJ t) i from Aa);rw[e]at a⊢;exact Aah c d _ m Aa AQ Aa
theorem Ags:∀(k:Tr)(p u:Nat)(a:Nat),JA (AJ t) p (Dx p (u:Int) k)->p+k.sz<=u->FA (AJ t) g (u:Int)=(a:Int)->u<=a->IX (AJ t) g (a:Int) p k.sz=(IM g p k).length:=by
 refine Jm λm c B p u a d x e K=>?_;have F:∀(b:List Tr)(p w:Nat),(∀i∈b,i∈c)->JA (AJ t) p (BM p (w:Int) b)->p+Av b<=w->FA (AJ t) g (w:Int)=(a:Int)->w<=a->IX (AJ t) g (a:Int) p (Av b)=(CY g p b).length:=by intro b;induction b with|nil=>intro p w _ _ _ _ _;simp[CY,IX]|cons i b C=>intro p w r d y e v;rw[BM]at d;rw[DL]at y;have n:=B i (r i Ap) p w a d.left Aa e v;have f:=C (p+i.sz) w (λz A=>r z (GK _ A)) (by have:=d.right;rw[J6]at this;exact this) Aa e v;rw[DL,QJ,n,f,CY,Be]
 rw[Bv]at x;rw[Dx]at d;have l:(AJ t)[p+Av c]?=J ⟨m,(u:Int),(p:Int)⟩:=by have:=d.right;rw[Fw]at this;exact this.one
 have q:=(IB.1 l).1;have s:Gg (AJ t) (p+Av c)=(u:Int):=by unfold Gg;rw[l]
 rw[Bv,QJ,Aaf,s,e,J8];by_cases j:g (p+Av c)=Aq;{rw[F c p (p+Av c) (λ_ h=>h) d.left Aa (by rw[Tg q j Aa,s,e]) Aa,j];simp};. have o:g (p+Av c)=D:=AB j;(have I:AR (AJ t) (p+Av c)=p:=by unfold AR;rw[l];simp only[];omega);rw[VI λi n f=>?_,o];{simp};. have:=Aai (t:=t) q o f Aa;omega
theorem Agt(n:Nat)(y:∀i,n<=i->g i=D):∀(k:Tr)(p q:Nat),JA (AJ t) p (BM p (q:Int) k.kids)->q<(AJ t).length->AR (AJ t) q=p->n<p+Av k.kids->p+Av k.kids<=q->p<=n->Ir (AJ t) g n=Ir (AJ t) g q++FO g p k.kids 0 n:=by
 refine Jm λm C P p q d Y X l f w=>?_;rw[DS]at d l f⊢;have S:∀(b:List Tr)(p c:Nat),(∀i∈b,i∈C)->JA (AJ t) p (BM p (q:Int) b)->n<p+Av b->p+Av b<=q->p<=n->IX (AJ t) g (q:Int) 0 p=c->Ir (AJ t) g n=Ir (AJ t) g q++FO g p b c n:=by intro b;induction b with|nil=>intro p c _ _ h _ r _;simp at h;omega|cons i b Q=>intro p c A d l f w x;rw[BM]at d;rw[DL]at l f;rw[FO];by_cases v:n<p+i.sz;{rw[A7 v];have s:=d.left;obtain⟨F,a⟩:=i;rw[Dx]at s;rw[Bv]at v;rw[Bv]at f;(have o:(AJ t)[p+Av a]?=J ⟨F,(q:Int),(p:Int)⟩:=by have:=s.right;rw[Fw]at this;exact this.one);have j:=(IB.1 o).1;(have L:(AJ t)[p+Av a].par=(q:Int):=by rw[Em j]at o;rw[JL o]);(have K:AR (AJ t) (p+Av a)=p:=by unfold AR;rw[o];simp only[];omega);(have I:IX (AJ t) g (q:Int) 0 (p+Av a)=c:=by rw[QJ,x,Dv,VI λi T r=>?_,Fr];have:=Aai (t:=t) j (y _ Aa) r Aa;omega);(have B:Ir (AJ t) g (p+Av a)=Ir (AJ t) g q++[(c:Int)]:=by rw[VK j Aa,L,I,JK]);by_cases M:n=p+Av a;{rw[J9,SU g a p 0 n Aa,M,B]};. have:=P (H F a) (A _ Ap) p (p+Av a) (by rw[DS];exact s.left) j K (by rw[DS];omega) (by rw[DS];omega) w;rw[this,B,DS,J9];simp};. rw[Aw v];refine Q (p+i.sz) _ (λz N=>A z (GK _ N)) (by have:=d.right;rw[J6]at this;exact this) Aa Aa Aa ?_;rw[QJ,x,Dv];congr 1;exact Ags i p q q d.left Aa (P8 (y q Aa)) AQ
 exact S C p 0 (λ_ h=>h) d l f w (VI λi _ r=>by rcases Agr (t:=t) (g:=g) (i:=i) Aa with h|⟨u,h,_,W⟩;{omega};. intro e;rw[h]at e;have:u=q:=Aa;subst this;omega)
theorem Agu{n:Nat}(e:∀i,n<=i->g i=D)(j:n+1<t.sz):Ir (AJ t) g n=EH g 0 t n:=by
 obtain⟨l,a⟩:=t;rw[Bv]at j;have h:=Cy (H l a);rw[Bv]at h;have b:=QH l a;have c:=(IB.1 b).1;have m:(AJ (H l a))[Av a].par=-1:=by rw[Em c]at b;rw[JL b]
 have d:JA (AJ (H l a)) 0 (BM 0 ((Av a:Nat):Int) a):=λk f=>by unfold AJ;rw[Dx,Dv,Dv,Qo f]
 have:=Agt (t:=H l a) n e (H l a) 0 (Av a) (by rw[DS];exact d) c (by unfold AR;rw[b];simp) (by rw[DS];omega) (by rw[DS];omega) BD;rw[this,VJ c Aa,J9,DS,F7]
end
def En(xs ys:List Nd)(i0 i j0 j:Nat):List (Nat×Nat):=if h:i<=i0\/j<=j0 then[]else if AR xs (i-1)=i0/\AR ys (j-1)=j0/\Bg xs ys i0 i j0 j=Bg xs ys i0 (i-1) j0 (j-1)+lc (Bh xs (i-1)) (Bh ys (j-1))then En xs ys i0 (i-1) j0 (j-1)++[(i-1,j-1)]else if c:i0<=AR xs (i-1)/\j0<=AR ys (j-1)/\¬(AR xs (i-1)=i0/\AR ys (j-1)=j0)/\Bg xs ys i0 i j0 j=Bg xs ys i0 (AR xs (i-1)) j0 (AR ys (j-1))+Bg xs ys (AR xs (i-1)) i (AR ys (j-1)) j then En xs ys i0 (AR xs (i-1)) j0 (AR ys (j-1))++En xs ys (AR xs (i-1)) i (AR ys (j-1)) j else if Bg xs ys i0 i j0 j=Bg xs ys i0 (i-1) j0 j+1 then En xs ys i0 (i-1) j0 j else En xs ys i0 i j0 (j-1)termination_by(i-i0)+(j-j0)decreasing_by all_goals have a:=Fo xs (i-1);have b:=Fo ys (j-1);omega
variable{xs ys:List Nd}
theorem VL(h:i<=i0\/j<=j0):En xs ys i0 i j0 j=[]:=by rw[En,MA h]
theorem VM(e:i0<=i)(f:j0<=j)(c:Cl xs i0 (i+1))(d:Cl ys j0 (j+1)):En xs ys i0 (i+1) j0 (j+1)=if AR xs i=i0/\AR ys j=j0/\Bg xs ys i0 (i+1) j0 (j+1)=Bg xs ys i0 i j0 j+lc (Bh xs i) (Bh ys j)then En xs ys i0 i j0 j++[(i,j)]else if¬(AR xs i=i0/\AR ys j=j0)/\Bg xs ys i0 (i+1) j0 (j+1)=Bg xs ys i0 (AR xs i) j0 (AR ys j)+Bg xs ys (AR xs i) (i+1) (AR ys j) (j+1)then En xs ys i0 (AR xs i) j0 (AR ys j)++En xs ys (AR xs i) (i+1) (AR ys j) (j+1)else if Bg xs ys i0 (i+1) j0 (j+1)=Bg xs ys i0 i j0 (j+1)+1 then En xs ys i0 i j0 (j+1)else En xs ys i0 (i+1) j0 j:=by rw[En,Lu Aa];simp only[MB];by_cases a:AR xs i=i0/\AR ys j=j0/\Bg xs ys i0 (i+1) j0 (j+1)=Bg xs ys i0 i j0 j+lc (Bh xs i) (Bh ys j);{rw[A7 a,A7 a]};rw[Aw a,Aw a];by_cases b:¬(AR xs i=i0/\AR ys j=j0)/\Bg xs ys i0 (i+1) j0 (j+1)=Bg xs ys i0 (AR xs i) j0 (AR ys j)+Bg xs ys (AR xs i) (i+1) (AR ys j) (j+1);{rw[MA ⟨(c i e Aa),(d j f Aa),b⟩,A7 b]};. rw[Lu (λh=>b h.2.2),Aw b]
def MU(xs ys:List Nd)(l:List (Nat×Nat)):Prop:=l.Pairwise λp q=>p.1<q.1/\p.2<q.2/\(AR xs q.1<=p.1↔AR ys q.2<=p.2)
def IY(xs ys:List Nd)(l:List (Nat×Nat)):Nat:=(l.map λp=>lc (Bh xs p.1) (Bh ys p.2)).foldr (·+·) 0
theorem VN(a b:List (Nat×Nat)):IY xs ys (a++b)=IY xs ys a+IY xs ys b:=by induction a with|nil=>simp[IY]|cons p a c=>simp only[IY,Gl,Jz,Yt]at c⊢;omega
theorem Aaj(p:Nat×Nat):IY xs ys [p]=lc (Bh xs p.1) (Bh ys p.2):=by simp[IY]
theorem Aak(u:DG xs)(v:DG ys):∀(N i0 i j0 j:Nat),(i-i0)+(j-j0)<N->i0<=i->j0<=j->Cl xs i0 i->Cl ys j0 j->i<=xs.length->j<=ys.length->(∀p∈En xs ys i0 i j0 j,i0<=p.1/\p.1<i/\j0<=p.2/\p.2<j)/\MU xs ys (En xs ys i0 i j0 j)/\(i-i0)+(j-j0)+IY xs ys (En xs ys i0 i j0 j)=Bg xs ys i0 i j0 j+2*(En xs ys i0 i j0 j).length:=by intro N;induction N with|zero=>intro i0 i j0 j h;omega|succ N o=>intro i0 i j0 j T K M g k L P;by_cases m:i<=i0\/j<=j0;{rw[VL m];refine⟨Ap,YH,?_⟩;simp only[IY,Oy,List.foldr_nil,CS];rcases m with m|m;{rw[QI v m M k P];omega};. rw[Te u m K g L];omega};obtain⟨i,rfl⟩:∃a,i=a+1:=⟨i-1,Aa⟩;obtain⟨j,rfl⟩:∃a,j=a+1:=⟨j-1,Aa⟩;have W:=g i Aa Aa;have Y:=k j Aa Aa;have X:=Fo xs i;have a0:=Fo ys j;have Q:=ZX u v (by omega:i0<=i) (by omega:j0<=j) g k Aa Aa;rw[VM Aa Aa g k];by_cases n:AR xs i=i0/\AR ys j=j0/\Bg xs ys i0 (i+1) j0 (j+1)=Bg xs ys i0 i j0 j+lc (Bh xs i) (Bh ys j);{rw[A7 n];obtain⟨f,l,w⟩:=o i0 i j0 j Aa Aa Aa (g.mono Aa) (k.mono Aa) Aa Aa;refine⟨λp e=>?_,?_,?_⟩;{simp only[Fu,Ia]at e;rcases e with e|rfl;{have:=f p e;omega};. simp only;omega};{unfold MU;rw[RT];refine⟨l,Anq _ _,λp e q t=>?_⟩;simp only[Ia]at t;subst t;have:=f p e;simp only;omega};. rw[VN,Aaj,Be,DP];have I:=n.2.2;simp only;omega};rw[Aw n];by_cases r:¬(AR xs i=i0/\AR ys j=j0)/\Bg xs ys i0 (i+1) j0 (j+1)=Bg xs ys i0 (AR xs i) j0 (AR ys j)+Bg xs ys (AR xs i) (i+1) (AR ys j) (j+1);{rw[A7 r];have y:=u.cl (i:=i) Aa;have z:=v.cl (i:=j) Aa;obtain⟨f,l,w⟩:=o i0 (AR xs i) j0 (AR ys j) Aa Aa Aa (g.mono Aa) (k.mono Aa) Aa Aa;obtain⟨A,F,S⟩:=o (AR xs i) (i+1) (AR ys j) (j+1) Aa Aa Aa y z Aa Aa;refine⟨λp e=>?_,?_,?_⟩;{simp only[Fu]at e;rcases e with e|e;{have:=f p e;omega};. have:=A p e;omega};{unfold MU;rw[RT];refine⟨l,F,λp e q t=>?_⟩;have a:=f p e;have b:=A q t;have c:=y q.1 Aa Aa;have d:=z q.2 Aa Aa;omega};. rw[VN,Be];omega};rw[Aw r];have B:AR xs i=i0/\AR ys j=j0->Bg xs ys i0 (i+1) j0 (j+1)=min (Bg xs ys i0 i j0 (j+1)+1) (min (Bg xs ys i0 (i+1) j0 j+1) (Bg xs ys i0 i j0 j+lc (Bh xs i) (Bh ys j))):=λh=>ZY u v h.1 h.2 Aa Aa;(have C:Bg xs ys i0 (i+1) j0 (j+1)=min (Bg xs ys i0 i j0 (j+1)+1) (Bg xs ys i0 (i+1) j0 j+1):=by by_cases s:AR xs i=i0/\AR ys j=j0;{have:=B s;have:¬Bg xs ys i0 (i+1) j0 (j+1)=Bg xs ys i0 i j0 j+lc (Bh xs i) (Bh ys j):=λh=>n ⟨s.1,s.2,h⟩;omega};. have:¬Bg xs ys i0 (i+1) j0 (j+1)=Bg xs ys i0 (AR xs i) j0 (AR ys j)+Bg xs ys (AR xs i) (i+1) (AR ys j) (j+1):=λh=>r ⟨s,h⟩;omega);clear Q B n r;by_cases x:Bg xs ys i0 (i+1) j0 (j+1)=Bg xs ys i0 i j0 (j+1)+1;{rw[A7 x];obtain⟨f,l,w⟩:=o i0 i j0 (j+1) Aa Aa Aa (g.mono Aa) k Aa Aa;clear C;exact⟨λp e=>A8 (f p e),l,Aa⟩};. rw[Aw x];obtain⟨f,l,w⟩:=o i0 (i+1) j0 j Aa Aa Aa g (k.mono Aa) Aa Aa;have I:Bg xs ys i0 (i+1) j0 (j+1)=Bg xs ys i0 (i+1) j0 j+1:=Aa;clear C x;exact⟨λp e=>A8 (f p e),l,Aa⟩
def Ew(a b:Tr):List (Nat×Nat):=En (AJ a) (AJ b) 0 (a.sz-1) 0 (b.sz-1)++[(a.sz-1,b.sz-1)]
theorem Agv(t:Tr):AR (AJ t) (t.sz-1)=0:=by cases t with|node l a=>rw[Bv,MB];unfold AR;rw[QH];simp
theorem P9(t:Tr):Bh (AJ t) (t.sz-1)=t.label:=by cases t with|node l a=>rw[Bv,MB];unfold Bh;rw[QH];rfl
theorem Aal(a b:Tr):JS a b=Bg (AJ a) (AJ b) 0 (a.sz-1) 0 (b.sz-1)+lc a.label b.label:=by cases a with|node l d=>cases b with|node m c=>rw[ZZ];simp only[Bv,MB];rfl
theorem Ti(a b:Tr):(∀p∈Ew a b,p.1<a.sz/\p.2<b.sz)/\MU (AJ a) (AJ b) (Ew a b)/\a.sz+b.sz+IY (AJ a) (AJ b) (Ew a b)=JS a b+2*(Ew a b).length:=by have h:=a.sz_pos;have i:=b.sz_pos;obtain⟨d,f,g⟩:=Aak (Jr a) (Jr b) _ 0 (a.sz-1) 0 (b.sz-1) (Cw _) BD BD (Jj _ _) (Jj _ _) (by rw[Cy];omega) (by rw[Cy];omega);unfold Ew;refine⟨λp c=>?_,?_,?_⟩;{simp only[Fu,Ia]at c;rcases c with c|rfl;{have:=d p c;omega};. simp only;omega};{unfold MU;rw[RT];refine⟨f,Anq _ _,λp c q e=>?_⟩;simp only[Ia]at e;subst e;have:=d p c;simp only[Agv];omega};. rw[VN,Aaj,Be,DP,Aal,P9,P9];omega
mutual
def Iu:Tr->Tr|H _ ks=>H ⟨#[]⟩ (JB ks)
def JB:List Tr->List Tr|[]=>[]|k::ks=>Iu k::JB ks
end
mutual
def Di(f:Nat->ByteArray)(p:Nat):Tr->Tr|H _ ks=>H (f (p+Av ks)) (Ca f p ks)
def Ca(f:Nat->ByteArray)(p:Nat):List Tr->List Tr|[]=>[]|k::ks=>Di f p k::Ca f (p+k.sz) ks
end
theorem VO(l:ByteArray)(a:List Tr):Iu (H l a)=H ⟨#[]⟩ (JB a):=by rw[Iu]
theorem Ie(f:Nat->ByteArray)(p:Nat)(l:ByteArray)(a:List Tr):Di f p (H l a)=H (f (p+Av a)) (Ca f p a):=by rw[Di]
theorem VP:∀(b a:List Tr),JB (b++a)=JB b++JB a|[],a=>rfl|k::b,a=>by simp[JB,VP b a]
mutual
theorem NR:∀t:Tr,(Iu t).sz=t.sz|H l ks=>by rw[VO,Bv,Bv,VQ ks]
theorem VQ:∀ks:List Tr,Av (JB ks)=Av ks|[]=>rfl|k::ks=>by rw[JB,DL,DL,NR k,VQ ks]
end
mutual
theorem NS(f:Nat->ByteArray):∀(t:Tr)(p:Nat),(Di f p t).sz=t.sz|H l ks,p=>by rw[Ie,Bv,Bv,QK f ks p]
theorem QK(f:Nat->ByteArray):∀(ks:List Tr)(p:Nat),Av (Ca f p ks)=Av ks|[],p=>by rw[Ca]|k::ks,p=>by rw[Ca,DL,DL,NS f k,QK f ks]
end
mutual
theorem VR(f:Nat->ByteArray):∀(t:Tr)(p:Nat),Di f p (Iu t)=Di f p t|H l ks,p=>by rw[VO,Ie,Ie,VQ,Aam f ks]
theorem Aam(f:Nat->ByteArray):∀(ks:List Tr)(p:Nat),Ca f p (JB ks)=Ca f p ks|[],p=>rfl|k::ks,p=>by rw[JB,Ca,Ca,NR,VR f k,Aam f ks]
end
theorem Agw{t u:Tr}(h:Iu t=Iu u)(f:Nat->ByteArray)(p:Nat):Di f p t=Di f p u:=by rw[<-VR f t,h,VR]
mutual
theorem PB{f h:Nat->ByteArray}:∀(t:Tr)(p:Nat),(∀i,p<=i->i<p+t.sz->f i=h i)->Di f p t=Di h p t|H l ks,p,e=>by rw[Bv]at e;rw[Ie,Ie,e _ Aa Aa,Tj ks p λi h1 h2=>e i h1 Aa]
theorem Tj{f h:Nat->ByteArray}:∀(ks:List Tr)(p:Nat),(∀i,p<=i->i<p+Av ks->f i=h i)->Ca f p ks=Ca h p ks|[],p,e=>by rw[Ca,Ca]|k::ks,p,e=>by rw[DL]at e;rw[Ca,Ca,PB k p λi h1 h2=>e i h1 Aa,Tj ks (p+k.sz) λi h1 h2=>e i Aa Aa]
end
mutual
theorem Aan(l:List Nd):∀(t:Tr)(p:Nat)(r:Int),JA l p (Dx p r t)->Di (Bh l) p t=t|H m ks,p,r,h=>by rw[Dx]at h;(have hr:l[p+Av ks]?=J ⟨m,r,(p:Int)⟩:=by have:=h.right;rw[Fw]at this;exact this.one);(have hl:Bh l (p+Av ks)=m:=by unfold Bh;rw[hr]);rw[Ie,hl,Aao l ks p _ h.left]
theorem Aao(l:List Nd):∀(ks:List Tr)(p:Nat)(r:Int),JA l p (BM p r ks)->Ca (Bh l) p ks=ks|[],p,r,h=>by rw[Ca]|k::ks,p,r,h=>by rw[Ca,Aan l k p r h.left,Aao l ks (p+k.sz) r (by have:=h.right;rw[J6]at this;exact this)]
end
theorem Aap(t:Tr):JA (AJ t) 0 (Dx 0 (-1) t):=λk _=>by rw[Dv];rfl
theorem Aaq(t:Tr):Di (Bh (AJ t)) 0 t=t:=Aan _ t 0 (-1) (Aap t)
def LJ(f:Nat->ByteArray)(n:Nat)(s:ByteArray):Nat->ByteArray:=λi=>if i=n then s else f i
theorem Tk{f:Nat->ByteArray}{n i:Nat}{s:ByteArray}(h:i≠n):f i=LJ f n s i:=by unfold LJ;rw[Aw h]
theorem Agx{d:AL}(u:d.kind=1):∀(t:Tr)(f:Nat->ByteArray)(p n:Nat),n<t.sz->Cv d (EQ t n) (Di f p t)=(Di (LJ f (p+n) d.lab) p t,0):=by
 refine Jm λl g x f p n r=>?_;rw[Bv]at r;have A:∀(c:List Tr)(p n:Nat)(m:ByteArray)(pre:List Tr),(∀j∈c,j∈g)->n<Av c->Cv d (Id c pre.length n) (H m (pre++Ca f p c))=(H m (pre++Ca (LJ f (p+n) d.lab) p c),0):=by intro c;induction c with|nil=>intro p n m pre _ h;simp at h|cons k c y=>intro p n m pre s r;rw[DL]at r;rw[Id,Ca,Ca];by_cases q:n<k.sz;{rw[A7 q];have o:Ca (LJ f (p+n) d.lab) (p+k.sz) c=Ca f (p+k.sz) c:=(Tj c _ λi a _=>Tk Aa).symm;rw[o,KN,Aw (λe=>Aa),Aw A4,V7,x k (s k Ap) f p n q];simp};. rw[Aw q];have o:Di (LJ f (p+n) d.lab) p k=Di f p k:=(PB k p λi _ b=>Tk Aa).symm;have:=y (p+k.sz) (n-k.sz) m (pre++[Di f p k]) (λz w=>s z (GK _ w)) Aa;rw[Be,DP,Dm,Dm,show p+k.sz+(n-k.sz)=p+n from Aa]at this;rw[o];exact this
 rw[EQ,Ie,Ie];by_cases v:n=Av g;{have o:Ca (LJ f (p+n) d.lab) p g=Ca f p g:=(Tj g p λi _ b=>Tk Aa).symm;rw[SM g 0 n Aa,o];show Jn d _ 0=_;rw[Ks,A7 u,v];simp[LJ]};. have o:LJ f (p+n) d.lab (p+Av g)=f (p+Av g):=(Tk Aa).symm;have:=A g p n (f (p+Av g)) [] (λ_ h=>h) Aa;rw[o];simpa using this
theorem Agy(f:Nat->ByteArray):∀(t:Tr)(p:Nat)(n:Int),t.deepZ n=Aq->(Di f p t).deepZ n=Aq:=by
 refine Jm λl d g p n h=>?_;rw[Tr.deepZ]at h;simp only[Ed,FG,L4]at h;rw[Ie,Tr.deepZ];simp only[Ed,FG,L4];refine⟨h.1,?_⟩;have m:∀(b:List Tr)(p:Nat),(∀j∈b,j∈d)->∀k∈Ca f p b,k.deepZ (n-1)=Aq:=by intro b;induction b with|nil=>intro p _ k a;simp[Ca]at a|cons j b i=>intro p c k a;rw[Ca]at a;rcases DN.1 a with rfl|a;{exact g j (c j Ap) p (n-1) (h.2 j (c j Ap))};. exact i _ (λz e=>c z (GK _ e)) k a
 exact m d p λ_ h=>h
theorem Agz(f:Nat->ByteArray):∀(t:Tr)(p:Nat),(∀i,p<=i->i<p+t.sz->EM (f i)=Aq)->(Di f p t).named=Aq:=by
 refine Jm λl g n p h=>?_;rw[Bv]at h;rw[Ie,Mb];refine⟨h _ Aa Aa,?_⟩;have q:∀(d:List Tr)(p:Nat),(∀j∈d,j∈g)->(∀i,p<=i->i<p+Av d->EM (f i)=Aq)->∀k∈Ca f p d,k.named=Aq:=by intro d;induction d with|nil=>intro p _ _ k c;simp[Ca]at c|cons j d o=>intro p e h k c;rw[Ca]at c;rw[DL]at h;rcases DN.1 c with rfl|c;{exact n j (e j Ap) p λi a b=>h i a Aa};. exact o _ (λz m=>e z (GK _ m)) (λi a b=>h i Aa Aa) k c
 exact q g p (λ_ h=>h) λi a b=>h i a Aa
theorem Aar{t:Tr}(h:AM t=0){f:Nat->ByteArray}(d:∀i,i<t.sz->EM (f i)=Aq):AM (Di f 0 t)=0:=by obtain⟨a,c,_⟩:=Dd.1 h;exact Dd.2 ⟨by rw[NS];exact a,Agy f t 0 10 c,Agz f t 0 λi _ b=>d i Aa⟩
mutual
theorem Aas:∀(t:Tr)(p:Nat)(r:Int),t.named=Aq->∀x∈Dx p r t,EM x.lab=Aq|H l ks,p,r,h=>by rw[Mb]at h;rw[Dx];intro x hx;rcases Fu.1 hx with hx|hx;{exact Aat ks p _ h.2 x hx};. rw[Ia]at hx;subst hx;exact h.1
theorem Aat:∀(ks:List Tr)(p:Nat)(r:Int),(∀k∈ks,k.named=Aq)->∀x∈BM p r ks,EM x.lab=Aq|[],p,r,h=>by simp[BM]|k::ks,p,r,h=>by intro x hx;rcases Fu.1 hx with hx|hx;{exact Aas k p r (h k Ap) x hx};. exact Aat ks _ r (λk hk=>h k (GK _ hk)) x hx
end
theorem QL{t:Tr}(h:AM t=0)(i:Nat)(a:i<t.sz):EM (Bh (AJ t) i)=Aq:=by have b:=Cy t;rw[LG _ _ Aa];exact Aas t 0 (-1) (Dd.1 h).2.2 _ (BU _)
def Fh(x:Tr)(xs ys:List Nd):List Nat->List AL|[]=>[]|i::a=>if Bh xs i=Bh ys i then Fh x xs ys a else⟨1,EQ x i,0,0,Bh ys i⟩::Fh x xs ys a
theorem Ag0:∀(t:Tr)(n:Nat),∀x∈EQ t n,0<=x:=by
 refine Jm λl e g n=>?_;rw[EQ];have k:∀(b:List Tr)(c n:Nat),(∀j∈b,j∈e)->∀x∈Id b c n,(0:Int)<=x:=by intro b;induction b with|nil=>intro c n _ x a;simp[Id]at a|cons j b i=>intro c n d x a;rw[Id]at a;split at a;{rcases DN.1 a with rfl|a;{omega};. exact g j (d j Ap) n x a};. exact i _ _ (λz f=>d z (GK _ f)) x a
 exact k e 0 n λ_ h=>h
theorem VS{x y:Tr}(f:AM x=0)(o:AM y=0)(l:Iu x=Iu y):∀(n i j:Nat),i+n=x.sz->∃g,CI j (Di (λk=>if k<i then Bh (AJ y) k else Bh (AJ x) k) 0 x) (Fh x (AJ x) (AJ y) (Fv i n))=.ok (y,g)|0,i,j,h=>by refine⟨[],?_⟩;(have e:Di (λk=>if k<i then Bh (AJ y) k else Bh (AJ x) k) 0 x=y:=by rw[PB (h:=Bh (AJ y)) x 0 λk _ b=>A7 Aa,Agw l,Aaq]);rw[e];rfl|n+1,i,j,h=>by(have u:x.sz=y.sz:=by rw[<-NR x,l,NR]);rw[List.range'_succ,Fh];by_cases q:Bh (AJ x) i=Bh (AJ y) i;{rw[A7 q];obtain⟨g,p⟩:=VS f o l n (i+1) j Aa;rw[PB (h:=λk=>if k<i+1 then Bh (AJ y) k else Bh (AJ x) k) x 0 λk _ _=>?_];{exact⟨g,p⟩};. by_cases a:k=i;{subst a;simp[q]};. simp only[show(k<i)=(k<i+1)by simp only[eq_iff_iff];omega]};. rw[Aw q];obtain⟨g,p⟩:=VS f o l n (i+1) (j+1) Aa;have m:=Agx (d:=⟨1,EQ x i,0,0,Bh (AJ y) i⟩) rfl x (λk=>if k<i then Bh (AJ y) k else Bh (AJ x) k) 0 i Aa;(have e:Di (LJ (λk=>if k<i then Bh (AJ y) k else Bh (AJ x) k) (0+i) (Bh (AJ y) i)) 0 x=Di (λk=>if k<i+1 then Bh (AJ y) k else Bh (AJ x) k) 0 x:=by refine PB x 0 λk _ _=>?_;unfold LJ;by_cases a:k=i;{subst a;simp};. rw[Aw Aa];simp only[show(k<i)=(k<i+1)by simp only[eq_iff_iff];omega]);rw[e]at m;(have r:∀c k,k<x.sz->EM (if k<c then Bh (AJ y) k else Bh (AJ x) k)=Aq:=λc k a=>by split;{exact QL o k Aa};. exact QL f k a);(have s:(BJ (Di (λk=>if k<i then Bh (AJ y) k else Bh (AJ x) k) 0 x) ⟨1,EQ x i,0,0,Bh (AJ y) i⟩).2.2=0:=by refine KO.2 ⟨Aar f (r i),G5.2 ⟨Ap,Ap,Ap,Ap,Ap,Ag0 _ _,λ_=>QL o i Aa⟩,?_,?_⟩;{rw[m]};. rw[m];exact Aar f (r (i+1)));(have t:(BJ (Di (λk=>if k<i then Bh (AJ y) k else Bh (AJ x) k) 0 x) ⟨1,EQ x i,0,0,Bh (AJ y) i⟩).1=Di (λk=>if k<i+1 then Bh (AJ y) k else Bh (AJ x) k) 0 x:=by rw[MJ s,m]);rw[<-t]at p;exact⟨_,KX s p⟩
theorem Ag1{x y:Tr}(c:AM x=0)(d:AM y=0)(b:Iu x=Iu y)(j:Nat):∃a,CI j x (Fh x (AJ x) (AJ y) (Fv 0 x.sz))=.ok (y,a):=by have:=VS c d b x.sz 0 j Aa;rw[PB (h:=Bh (AJ x)) x 0 λk _ _=>Aw Aa,Aaq]at this;exact this
theorem VT{xs ys:List Nd}:∀(N i i0:Nat),i<N->(∀k,k<i->AR xs k=AR ys k)->JB (EI xs i0 i)=JB (EI ys i0 i)|0,i,i0,h,_=>Aa|N+1,0,i0,h,_=>by rw[KY _ _ _ BD,KY _ _ _ BD]|N+1,i+1,i0,h,a=>by by_cases b:i0<=i;{have d:=Fo xs i;rw[KZ xs i0 i b,KZ ys i0 i b,VP,VP,<-a i Aa];rw[VT N (AR xs i) i0 Aa λk c=>a k Aa];congr 1;simp only[JB,VO];rw[VT N i (AR xs i) Aa λk c=>a k Aa]};. rw[KY _ _ _ Aa,KY _ _ _ Aa]
theorem Ag2{t u:Tr}(h:(AJ t).map (·.left)=(AJ u).map (·.left)):Iu t=Iu u:=by
 have a:t.sz=u.sz:=by have:=Bp G4 h;rw[DJ,DJ,Cy,Cy]at this;exact this
 have:=VT (xs:=AJ t) (ys:=AJ u) _ t.sz 0 (Cw _) λk d=>by have b:=Cy t;have c:=Cy u;(have e:((AJ t).map (·.left))[k]?=((AJ u).map (·.left))[k]?:=by rw[h]);rw[RV,RV,Em Aa,Em Aa]at e;unfold AR;rw[Em Aa,Em Aa];simp only[Yu,Op]at e⊢;rw[e]
 rw[VF,a,VF]at this;simpa[JB]using this
theorem Tl:∀(l m:List Nat),l.Pairwise (λa b=>a<b)->m.Pairwise (λa b=>a<b)->(∀x,x∈l↔x∈m)->l=m|[],[],_,_,_=>rfl|[],y::m,_,_,h=>by have:=(h y).2 Ap;cases this|x::l,[],_,_,h=>by have:=(h x).1 Ap;cases this|x::l,y::m,d,f,h=>by rw[Pe]at d f;(have e:x=y:=by rcases DN.1 ((h x).1 Ap)with e|e;{exact e};. rcases DN.1 ((h y).2 Ap)with g|g;{exact g.symm};. have:=f.1 x e;have:=d.1 y g;omega);subst e;congr 1;refine Tl l m d.2 f.2 λz=>⟨λc=>?_,λc=>?_⟩;{rcases DN.1 ((h z).1 (GK _ c))with e|e;{subst e;have:=d.1 z c;omega};. exact e};. rcases DN.1 ((h z).2 (GK _ c))with e|e;{subst e;have:=f.1 z c;omega};. exact e
def NV(g:Nat->Bool)(m:Nat):Nat:=(Fv 0 m).countP λi=>!g i
theorem Ag3(g:Nat->Bool)(p n:Nat):NV g (p+n)=NV g p+((Fv p n).filter λi=>!g i).length:=by unfold NV;rw[<-Yr,Qm,Dv,UE,UE]
def MV(x:Nd):ByteArray×Int:=(x.lab,x.left)
def QM(l:List Nd)(g:Nat->Bool)(i:Nat):ByteArray×Int:=(Bh l i,(NV g (AR l i):Int))
theorem Ag4(A B:List Tr)(c:Nat)(r:Int):(BM c r (A++B)).map MV=(BM c r A).map MV++(BM (c+Av A) r B).map MV:=by rw[SH,J2]
theorem Ag5(l:List Nd)(g:Nat->Bool):∀(k:Tr)(p:Nat)(r:Int)(c:Nat)(d:Int),JA l p (Dx p r k)->c=NV g p->(BM c d (IM g p k)).map MV=((Fv p k.sz).filter λi=>!g i).map (QM l g):=by
 refine Jm λm f F p r c d e o=>?_;have v:∀(j:List Tr)(p:Nat)(r:Int)(c:Nat)(d:Int),(∀i∈j,i∈f)->JA l p (BM p r j)->c=NV g p->(BM c d (CY g p j)).map MV=((Fv p (Av j)).filter λi=>!g i).map (QM l g):=by intro j;induction j with|nil=>intro p r c d _ _ _;simp[CY,BM]|cons i j I=>intro p r c d t e o;rw[BM]at e;have s:=F i (t i Ap) p r c d e.left o;(have B:Av (IM g p i)=((Fv p i.sz).filter λi=>!g i).length:=by have:=Bp G4 s;rw[DJ,DJ,Fw]at this;exact this);have w:=I (p+i.sz) r (c+Av (IM g p i)) d (λz C=>t z (GK _ C)) (by have:=e.right;rw[J6]at this;exact this) (by rw[B,Ag3,o]);rw[CY,Ag4,s,w,DL,<-Yr,Yv,J2]
 rw[Dx]at e;have u:l[p+Av f]?=J ⟨m,r,(p:Int)⟩:=by have:=e.right;rw[Fw]at this;exact this.one
 have y:Bh l (p+Av f)=m:=by unfold Bh;rw[u]
 have A:AR l (p+Av f)=p:=by unfold AR;rw[u];simp only[];omega
 rw[J8,Bv,<-Yr,Yv];by_cases q:g (p+Av f)=Aq;{rw[A7 q,v f p _ c d (λ_ h=>h) e.left o];simp[q]};. have x:g (p+Av f)=D:=AB q;rw[Aw q,Vl,Dx,J2,v f p _ c _ (λ_ h=>h) e.left o,J2];simp[x,MV,QM,y,A,o]
theorem Ag6(g:Nat->Bool)(t:Tr)(c:g (t.sz-1)=D):(AJ (De g t)).map MV=((Fv 0 t.sz).filter λi=>!g i).map (QM (AJ t) g):=by have:=Ag5 (AJ t) g t 0 (-1) 0 (-1) (Aap t) rfl;rw[<-this];obtain⟨l,d⟩:=t;rw[Bv,MB]at c;rw[J8,Dv,c];simp only[Kk,Kl,Vl];rfl
def Fi(K:List Nat)(n:Nat):List Nat:=(Fv 0 n).filter λi=>AG (i∉K)
theorem QN{K:List Nat}{n i:Nat}:i∈Fi K n↔i<n/\i∉K:=by simp[Fi]
theorem Tm(p n:Nat):(Fv p n).Pairwise (λa b=>a<b):=List.pairwise_lt_range'
theorem QO(K:List Nat)(n:Nat):(Fi K n).Pairwise (λa b=>a<b):=(Tm 0 n).filter _
section
variable{K:List Nat}{n:Nat}
theorem Ag7(e:K.Pairwise (λa b=>a<b))(f:∀i∈K,i<n):((Fv 0 n).filter λi=>!Cb (Fi K n) i)=K:=by refine Tl _ _ ((Tm 0 n).filter _) e λx=>?_;rw[Km,Ys];simp only[Cb,Bool.not_eq_true',Ow,QN];constructor;{rintro⟨⟨_,h⟩,c⟩;by_cases d:x∈K;{exact d};. exact absurd ⟨Aa,d⟩ c};. intro h;exact⟨⟨Aa,A8 (f x h)⟩,λc=>c.2 h⟩
theorem Ag8(f:K.Pairwise (λa b=>a<b)){m:Nat}(g:m<=n):NV (Cb (Fi K n)) m=(K.filter λi=>AG (i<m)).length:=by unfold NV;rw[UE];congr 1;refine Tl _ _ ((Tm 0 m).filter _) (f.filter _) λx=>?_;rw[Km,Km,Ys];simp only[Cb,Bool.not_eq_true',Ow,QN,FG];constructor;{rintro⟨⟨_,h⟩,c⟩;refine⟨?_,Aa⟩;by_cases d:x∈K;{exact d};. exact absurd ⟨Aa,d⟩ c};. rintro⟨h,c⟩;exact⟨⟨Aa,Aa⟩,λe=>e.2 h⟩
theorem Aau(e:K.Pairwise (λa b=>a<b))(f:∀i∈K,i<n):(Fi K n).length+K.length=n:=by
 have c:((Fv 0 n).filter λi=>AG (i∈K))=K:=by refine Tl _ _ ((Tm 0 n).filter _) e λx=>?_;rw[Km,Ys];simp only[FG];exact⟨λh=>h.2,λh=>⟨⟨Aa,A8 (f x h)⟩,h⟩⟩
 have d:=List.length_eq_countP_add_countP (λi=>AG (i∈K)) (l:=Fv 0 n);rw[Yw,UE,c,UE]at d;have g:(Fi K n).length=((Fv 0 n).filter λa=>AG ¬(AG (a∈K))=Aq).length:=by unfold Fi;congr 1;refine RW λx _=>?_;simp
 omega
end
section
variable{a b:Tr}{P:List (Nat×Nat)}
theorem MU.rise1{xs ys:List Nd}(h:MU xs ys P):(P.map (·.1)).Pairwise (λa b=>a<b):=by rw[Yx];exact h.imp λh=>h.1
theorem MU.rise2{xs ys:List Nd}(h:MU xs ys P):(P.map (·.2)).Pairwise (λa b=>a<b):=by rw[Yx];exact h.imp λh=>h.2.1
theorem MU.left{xs ys:List Nd}(h:MU xs ys P){p q:Nat×Nat}(k:p∈P)(l:q∈P):p.1<AR xs q.1↔p.2<AR ys q.2:=by obtain⟨i,d,rfl⟩:=Ki k;obtain⟨j,e,rfl⟩:=Ki l;have c:=UF.1 h;have m:=Fo xs P[j].1;have o:=Fo ys P[j].2;by_cases f:i<j;{have:=(c i j d e f).2.2;omega};. by_cases g:j<i;{have:=c j i e d g;omega};. obtain rfl:i=j:=Aa;omega
def Gr(t:Tr)(K:List Nat):Tr:=De (Cb (Fi K t.sz)) t
theorem Tn{t:Tr}{K:List Nat}(c:K.Pairwise (λa b=>a<b))(d:∀i∈K,i<t.sz)(f:t.sz-1∈K):(AJ (Gr t K)).map MV=K.map λi=>(Bh (AJ t) i,((K.filter λj=>AG (j<AR (AJ t) i)).length:Int)):=by unfold Gr;rw[Ag6 _ _ (by simp only[Cb,Ow,QN];exactλh=>h.2 f),Ag7 c d];refine RY λi e=>?_;have:=d i e;have g:=Fo (AJ t) i;unfold QM;rw[Ag8 c Aa]
theorem VU(d:MU (AJ a) (AJ b) P)(h:∀p∈P,p.1<a.sz/\p.2<b.sz)(j:(a.sz-1,b.sz-1)∈P):Iu (Gr a (P.map (·.1)))=Iu (Gr b (P.map (·.2))):=by refine Ag2 ?_;have f:=Bp (List.map Prod.snd) (Tn (t:=a) d.rise1 (λi e=>by obtain⟨p,c,rfl⟩:=Gn.1 e;exact(h p c).1) (Gn.2 ⟨_,j,rfl⟩));have g:=Bp (List.map Prod.snd) (Tn (t:=b) d.rise2 (λi e=>by obtain⟨p,c,rfl⟩:=Gn.1 e;exact(h p c).2) (Gn.2 ⟨_,j,rfl⟩));rw[Yy,Yy,Yy]at f g;refine f.trans (Eq.trans ?_ g.symm);refine RY λq k=>?_;simp only[AnK];congr 1;rw[List.filter_map,List.filter_map,DJ,DJ];congr 1;refine RW λp c=>?_;simp only[AnK,Yz];exact d.left c k
def Ey(t:Tr)(L:List Nat):List AL:=match CI 0 t (Dc t [] L)with|.ok r=>r.2|.error _=>[]
def GW(a b:Tr)(P:List (Nat×Nat)):List AL:=Dc a [] (Fi (P.map (·.1)) a.sz)++(Fh (Gr a (P.map (·.1))) (AJ (Gr a (P.map (·.1)))) (AJ (Gr b (P.map (·.2)))) (Fv 0 (Gr a (P.map (·.1))).sz)++Ey b (Fi (P.map (·.2)) b.sz))
theorem VV{t:Tr}(f:AM t=0){K:List Nat}(d:t.sz-1∈K):CI 0 t (Dc t [] (Fi K t.sz))=.ok (Gr t K,Ey t (Fi K t.sz)):=by obtain⟨g,h⟩:=SW f (Fi K t.sz) [] 0 (by rw[F7];exact QO _ _) (λn c=>by rw[QN]at c;have:n≠t.sz-1:=λe=>c.2 (e▸d);omega);rw[QC,QB,F7]at h;unfold Ey Gr;rw[h]
theorem Aav{xs:List Nd}{L:List (ByteArray×Int)}(h:xs.map MV=L):Bh xs i=((L[i]?).map (·.1)).getD ⟨#[]⟩:=by subst h;rw[RV];unfold Bh;cases xs[i]?<;>rfl
theorem Aaw(x:Tr)(xs ys:List Nd):∀l:List Nat,(Fh x xs ys l).length=(l.map λi=>lc (Bh xs i) (Bh ys i)).foldr (·+·) 0|[]=>rfl|i::l=>by have c:=Aaw x xs ys l;rw[Fh,Jz,Yt];by_cases h:Bh xs i=Bh ys i;{rw[A7 h,h,VB,c,Dv]};. rw[Aw h,BZ,c];(have:lc (Bh xs i) (Bh ys i)=1:=by unfold lc;rw[Aw h]);omega
theorem VW(k:AM a=0)(l:AM b=0):(∃t,CI 0 a (GW a b (Ew a b))=.ok (b,t))/\(GW a b (Ew a b)).length=JS a b:=by
 obtain⟨e,c,x⟩:=Ti a b;have h:(a.sz-1,b.sz-1)∈Ew a b:=by unfold Ew;simp
 generalize Ew a b=P at*;have m:∀i∈P.map (·.1),i<a.sz:=λi f=>by obtain⟨p,g,rfl⟩:=Gn.1 f;exact(e p g).1
 have o:∀i∈P.map (·.2),i<b.sz:=λi f=>by obtain⟨p,g,rfl⟩:=Gn.1 f;exact(e p g).2
 have q:a.sz-1∈P.map (·.1):=Gn.2 ⟨_,h,rfl⟩;have r:b.sz-1∈P.map (·.2):=Gn.2 ⟨_,h,rfl⟩;have I:=VV k q;have s:=VV l r;have y:=VU c e h;have v:AM (Gr a (P.map (·.1)))=0:=Ml _ k;have w:AM (Gr b (P.map (·.2)))=0:=Ml _ l;have j:=Tn c.rise1 m q;have A:(Gr a (P.map (·.1))).sz=P.length:=by have:=Bp G4 j;rw[DJ,DJ,DJ,Cy]at this;exact this
 constructor;{obtain⟨u,z⟩:=Ag1 v w y (Dc a [] (Fi (P.map (·.1)) a.sz)).length;have d:=SR ((Dc a [] (Fi (P.map (·.1)) a.sz)).length+(Fh (Gr a (P.map (·.1))) (AJ (Gr a (P.map (·.1)))) (AJ (Gr b (P.map (·.2)))) (Fv 0 (Gr a (P.map (·.1))).sz)).length) s;refine⟨(Dc b [] (Fi (P.map (·.2)) b.sz)++u)++Ey a (Fi (P.map (·.1)) a.sz),?_⟩;unfold GW;rw[P6,I];simp only[Dv];rw[P6,z];simp only[];rw[d]};. have B:=Aau c.rise1 m;have C:=Aau c.rise2 o;rw[DJ]at B C;have F:=Q8 s;unfold GW;rw[Be,Be,Mm,F,Mm,Aaw,A];(have:((Fv 0 P.length).map λi=>lc (Bh (AJ (Gr a (P.map (·.1)))) i) (Bh (AJ (Gr b (P.map (·.2)))) i))=P.map λp=>lc (Bh (AJ a) p.1) (Bh (AJ b) p.2):=by refine List.ext_getElem Ap λi L d=>?_;rw[DJ]at d;rw[RR,RR,List.getElem_range',Aav j,Aav (Tn c.rise2 o r),Dv,Nat.one_mul];simp[d]);rw[this];unfold IY at x;omega
end
def BQ:List Tr->List Tr->Nat|[],_=>0|_::_,[]=>0|x::xs,y::ys=>if x.beq y=Aq then BQ xs ys+1 else max (BQ xs (y::ys)) (BQ (x::xs) ys)termination_by a b=>a.length+b.length
def GY:List Tr->List Tr->Nat->Nat->List (Nat×Nat)|[],_,_,_=>[]|_::_,[],_,_=>[]|x::xs,y::ys,i,j=>if x.beq y=Aq then(i,j)::GY xs ys (i+1) (j+1)else if BQ (x::xs) ys<=BQ xs (y::ys)then GY xs (y::ys) (i+1) j else GY (x::xs) ys i (j+1)termination_by a b=>a.length+b.length
theorem PI(b:List Tr):BQ [] b=0:=by rw[BQ]
theorem PJ(a:List Tr):BQ a []=0:=by cases a<;>rw[BQ]
theorem TW(b:List Tr)(i j:Nat):GY [] b i j=[]:=by rw[GY]
theorem TX(a:List Tr)(i j:Nat):GY a [] i j=[]:=by cases a<;>rw[GY]
theorem Re(x y:Tr)(xs ys:List Tr):BQ (x::xs) (y::ys)=if x.beq y=Aq then BQ xs ys+1 else max (BQ xs (y::ys)) (BQ (x::xs) ys):=by rw[BQ]
theorem Wy(x y:Tr)(xs ys:List Tr)(i j:Nat):GY (x::xs) (y::ys) i j=if x.beq y=Aq then(i,j)::GY xs ys (i+1) (j+1)else if BQ (x::xs) ys<=BQ xs (y::ys)then GY xs (y::ys) (i+1) j else GY (x::xs) ys i (j+1):=by rw[GY]
theorem PK:∀(N:Nat)(a b:List Tr),a.length+b.length<N->(∀x,BQ a b<=BQ (x::a) b/\BQ (x::a) b<=BQ a b+1)/\(∀y,BQ a b<=BQ a (y::b)/\BQ a (y::b)<=BQ a b+1)|0,a,b,h=>Aa|N+1,a,b,h=>by constructor;{intro x;cases b with|nil=>rw[PJ,PJ];omega|cons y ys=>simp only[BZ]at h;have c:=(PK N a ys Aa).2 y;have d:=(PK N a ys Aa).1 x;rw[Re];split<;>omega};. intro y;cases a with|nil=>rw[PI,PI];omega|cons x xs=>simp only[BZ]at h;have c:=(PK N xs b Aa).1 x;have d:=(PK N xs b Aa).2 y;rw[Re];split<;>omega
theorem Aby(a b:List Tr)(x:Tr):BQ a b<=BQ (x::a) b/\BQ (x::a) b<=BQ a b+1:=(PK _ a b (Cw _)).1 x
theorem Abz(a b:List Tr)(y:Tr):BQ a b<=BQ a (y::b)/\BQ a (y::b)<=BQ a b+1:=(PK _ a b (Cw _)).2 y
theorem Aio(x y:Tr)(xs ys:List Tr):BQ (x::xs) (y::ys)=if x.beq y=Aq/\max (BQ xs (y::ys)) (BQ (x::xs) ys)<BQ xs ys+1 then BQ xs ys+1 else max (BQ xs (y::ys)) (BQ (x::xs) ys):=by have b:=Aby xs ys x;have c:=Abz xs ys y;rw[Re];by_cases h:x.beq y=Aq;{rw[A7 h];split;{rfl};. rename_i a;have:¬max (BQ xs (y::ys)) (BQ (x::xs) ys)<BQ xs ys+1:=λe=>a ⟨h,e⟩;omega};. rw[Aw h,Aw (λe=>h e.1)]
theorem TY:∀(a b:List Tr),BQ a b<=a.length/\BQ a b<=b.length|[],b=>by rw[PI];omega|x::xs,b=>by have c:=TY xs b;have d:=Aby xs b x;refine⟨A4,?_⟩;clear c d;induction b with|nil=>rw[PJ];omega|cons y ys e=>have:=Abz (x::xs) ys y;simp;omega
theorem TZ:∀(N:Nat)(a b:List Tr)(i j:Nat),a.length+b.length<N->(GY a b i j).length=BQ a b|0,a,b,i,j,h=>Aa|N+1,[],b,i,j,h=>by rw[PI,TW];rfl|N+1,x::xs,[],i,j,h=>by rw[PJ,TX];rfl|N+1,x::xs,y::ys,i,j,h=>by simp only[BZ]at h;rw[Re,Wy];by_cases c:x.beq y=Aq;{rw[A7 c,A7 c,BZ,TZ N xs ys _ _ Aa]};. rw[Aw c,Aw c];by_cases d:BQ (x::xs) ys<=BQ xs (y::ys);{rw[A7 d,TZ N xs (y::ys) _ _ A4];omega};. rw[Aw d,TZ N (x::xs) ys _ _ A4];omega
structure Aip (a b : List Tr) (i j : Nat) (l : List (Nat × Nat)) : Prop where
  rise : l.Pairwise fun p q => p.1 < q.1 ∧ p.2 < q.2
  here : ∀ p ∈ l, i ≤ p.1 ∧ j ≤ p.2 ∧ ∃ t, a[p.1 - i]? = J t ∧ b[p.2 - j]? = J t
theorem Rf:∀(N:Nat)(a b:List Tr)(i j:Nat),a.length+b.length<N->Aip a b i j (GY a b i j)|0,a,b,i,j,h=>Aa|N+1,[],b,i,j,h=>by rw[TW];exact⟨YH,Ap⟩|N+1,x::xs,[],i,j,h=>by rw[TX];exact⟨YH,Ap⟩|N+1,x::xs,y::ys,i,j,h=>by simp only[BZ]at h;rw[Wy];(have m:∀(z:Tr)(s:List Tr)(n k:Nat),k+1<=n->(z::s)[n-k]?=s[n-(k+1)]?:=λz s n k w=>by rw[show n-k=(n-(k+1))+1 from Aa];rfl);by_cases o:x.beq y=Aq;{rw[A7 o];obtain⟨r,g⟩:=Rf N xs ys (i+1) (j+1) Aa;refine⟨Pe.2 ⟨λq v=>?_,r⟩,λp c=>?_⟩;{have:=g q v;simp only[];omega};. rcases DN.1 c with rfl|c;{exact⟨BO _,BO _,x,Ap,by simp[(O5 x y).1 o]⟩};. obtain⟨f,l,t,d,e⟩:=g p c;exact⟨Aa,Aa,t,by rw[m _ _ _ _ f];exact d,by rw[m _ _ _ _ l];exact e⟩};. rw[Aw o];by_cases u:BQ (x::xs) ys<=BQ xs (y::ys);{rw[A7 u];obtain⟨r,g⟩:=Rf N xs (y::ys) (i+1) j A4;refine⟨r,λp c=>?_⟩;obtain⟨f,l,t,d,e⟩:=g p c;exact⟨Aa,Aa,t,by rw[m _ _ _ _ f];exact d,e⟩};. rw[Aw u];obtain⟨r,g⟩:=Rf N (x::xs) ys i (j+1) A4;refine⟨r,λp c=>?_⟩;obtain⟨f,l,t,d,e⟩:=g p c;exact⟨Aa,Aa,t,d,by rw[m _ _ _ _ l];exact e⟩
def D5(a b:List Tr):List (Nat×Nat):=GY a b 0 0
theorem Ab0(a b:List Tr):(D5 a b).length=BQ a b:=TZ _ a b 0 0 (Cw _)
theorem PL(a b:List Tr):(D5 a b).Pairwise λp q=>p.1<q.1/\p.2<q.2:=(Rf _ a b 0 0 (Cw _)).rise
theorem Wz(a b:List Tr)(p:Nat×Nat)(h:p∈D5 a b):∃(j:p.1<a.length)(k:p.2<b.length),a[p.1]=b[p.2]:=by obtain⟨_,_,t,g,i⟩:=(Rf _ a b 0 0 (Cw _)).here p h;obtain⟨c,e⟩:=IB.1 g;obtain⟨d,f⟩:=IB.1 i;exact⟨c,d,e.trans f.symm⟩
abbrev Ex(α:Type):=Except (List Int) α
def I8(o a b:ByteArray):Option ByteArray:=if a=b\/b=o then J a else if a=o then J b else G
def Ej (f : Tr → Tr → Tr → Ex Tr) : List Tr → List Tr → List Tr → Nat → Ex (List Tr)
  | o :: os, a :: c, b :: d, n => match f o a b with
    | .error p => .error ((n : Int) :: p)
    | .ok t => match Ej f os c d (n + 1) with
      | .error p => .error p
      | .ok ts => .ok (t :: ts)
  | _, _, _, _ => .ok []
def Ii(f:Tr->Tr->Tr->Ex Tr)(o a b:List Tr)(n:Nat):Ex (List Tr):=if(Dn a o||Dn a b)=Aq then .ok b else if Dn b o=Aq then .ok a else if a.length≠o.length\/b.length≠o.length then .error []else Ej f o a b n
def Cq(x y:List (Nat×Nat)):List (Nat×Nat×Nat):=x.flatMap λp=>(y.filter λq=>p.1==q.1).map λq=>(p.1,p.2,q.2)
def E3(f:Tr->Tr->Tr->Ex Tr)(o a b:List Tr):List (Nat×Nat×Nat)->Nat->Nat->Nat->Ex (List Tr)|[],i,j,k=>Ii f (o.drop i) (a.drop j) (b.drop k) i|h::c,i,j,k=>match Ii f ((o.drop i).take (h.1-i)) ((a.drop j).take (h.2.1-j)) ((b.drop k).take (h.2.2-k)) i with|.error e=>.error e|.ok s=>match E3 f o a b c (h.1+1) (h.2.1+1) (h.2.2+1)with|.error e=>.error e|.ok r=>.ok (s++DY o h.1::r)
def Rh(o a b:Tr):List (Nat×Nat×Nat):=Cq (D5 o.kids a.kids) (D5 o.kids b.kids)
def Dg:Nat->Tr->Tr->Tr->Ex Tr|0,_,_,_=>.error []|N+1,o,a,b=>if(a.beq b||b.beq o)=Aq then .ok a else if a.beq o=Aq then .ok b else match I8 o.label a.label b.label with|G=>.error []|J l=>match E3 (Dg N) o.kids a.kids b.kids (Rh o a b) 0 0 0 with|.error e=>.error e|.ok c=>.ok (H l c)
theorem Ri(N:Nat)(o a b:Tr)(h:(a.beq b||b.beq o)=Aq):Dg (N+1) o a b=.ok a:=by rw[Dg,A7 h]
theorem W2(N:Nat)(o a b:Tr)(h:¬(a.beq b||b.beq o)=Aq)(c:a.beq o=Aq):Dg (N+1) o a b=.ok b:=by rw[Dg,Aw h,A7 c]
theorem Ait(N:Nat)(o a b:Tr)(h:¬(a.beq b||b.beq o)=Aq)(c:¬a.beq o=Aq)(d:I8 o.label a.label b.label=G):Dg (N+1) o a b=.error []:=by rw[Dg,Aw h,Aw c,d]
theorem Aiu(N:Nat)(o a b:Tr)(h:¬(a.beq b||b.beq o)=Aq)(c:¬a.beq o=Aq)(d:I8 o.label a.label b.label=J l){e:List Int}(f:E3 (Dg N) o.kids a.kids b.kids (Rh o a b) 0 0 0=.error e):Dg (N+1) o a b=.error e:=by rw[Dg,Aw h,Aw c,d,f]
theorem Aiv(N:Nat)(o a b:Tr)(h:¬(a.beq b||b.beq o)=Aq)(d:¬a.beq o=Aq)(e:I8 o.label a.label b.label=J l){c:List Tr}(f:E3 (Dg N) o.kids a.kids b.kids (Rh o a b) 0 0 0=.ok c):Dg (N+1) o a b=.ok (H l c):=by rw[Dg,Aw h,Aw d,e,f]
theorem Ab7{α:Type}(b:α->Nat):∀(l m:List α),l.Pairwise (λp q=>b p<b q)->m.Pairwise (λp q=>b p<b q)->(∀x,x∈l↔x∈m)->l=m|[],[],_,_,_=>rfl|[],y::m,_,_,h=>by have:=(h y).2 Ap;cases this|x::l,[],_,_,h=>by have:=(h x).1 Ap;cases this|x::l,y::m,c,d,h=>by rw[Pe]at c d;(have e:x=y:=by rcases DN.1 ((h x).1 Ap)with e|e;{exact e};. rcases DN.1 ((h y).2 Ap)with f|f;{exact f.symm};. have:=d.1 x e;have:=c.1 y f;omega);subst e;congr 1;refine Ab7 b l m c.2 d.2 λz=>⟨λa=>?_,λa=>?_⟩;{rcases DN.1 ((h z).1 (GK _ a))with e|e;{subst e;have:=c.1 z a;omega};. exact e};. rcases DN.1 ((h z).2 (GK _ a))with e|e;{subst e;have:=d.1 z a;omega};. exact e
abbrev Oa(l:List (Nat×Nat)):Prop:=l.Pairwise λp q=>p.1<q.1/\p.2<q.2
theorem Oa.one{l:List (Nat×Nat)}(h:Oa l){n p q:Nat}(c:(n,p)∈l)(d:(n,q)∈l):p=q:=by induction l with|nil=>cases c|cons x l e=>rw[Oa,Pe]at h;rcases DN.1 c with b|b<;>rcases DN.1 d with a|a;{rw[<-b]at a;cases a;rfl};{have:=(h.1 _ a).1;rw[<-b]at this;omega};{have:=(h.1 _ b).1;rw[<-a]at this;omega};. exact e h.2 b a
theorem Ub{x y:List (Nat×Nat)}{n p q:Nat}:(n,p,q)∈Cq x y↔(n,p)∈x/\(n,q)∈y:=by simp only[Cq,Yq,Gn,Km,JM,AeP,Prod.exists];constructor;{rintro⟨a,b,f,c,d,⟨g,e⟩,rfl,rfl,rfl⟩;subst e;exact⟨f,g⟩};. rintro⟨f,g⟩;exact⟨n,p,f,n,q,⟨g,rfl⟩,rfl,rfl,rfl⟩
theorem Ab8{x y:List (Nat×Nat)}(m:Oa x)(r:Oa y):(Cq x y).Pairwise λp q=>p.1<q.1/\p.2.1<q.2.1/\p.2.2<q.2.2:=by induction x with|nil=>exact YH|cons p x z=>rw[Oa,Pe]at m;rw[Cq,List.flatMap_cons,RT];refine⟨?_,z m.2,?_⟩;{rw[Yx];refine List.Pairwise.imp_of_mem ?_ (AeQ _ r);intro a b g l L;simp only[Km,JM]at g l;omega};. rintro⟨A,B,C⟩g⟨F,I,K⟩l;simp only[Gn,Km,JM,AeP,Prod.exists]at g;obtain⟨c,d,⟨u,e⟩,rfl,rfl,rfl⟩:=g;obtain⟨s,t⟩:=Ub.1 l;have k:=m.1 _ s;simp only[]at k e⊢;refine⟨k.1,k.2,?_⟩;have:=UF.1 r;obtain⟨i,n,h⟩:=Ki u;obtain⟨j,o,f⟩:=Ki t;by_cases v:i<j;{have:=(this i j n o v).2;rw[h,f]at this;exact this};. by_cases w:j<i;{have:=(this j i o n w).1;rw[h,f]at this;omega};. obtain rfl:i=j:=Aa;rw[h]at f;cases f;omega
theorem Aiw{l:List (Nat×Nat×Nat)}(t:l.Pairwise λp q=>p.1<q.1/\p.2.1<q.2.1/\p.2.2<q.2.2){n p q:Nat}(h:(n,p,q)∈l):l.filter (λx=>AG (n<=x.1))=(n,p,q)::l.filter (λx=>AG (n+1<=x.1)):=by have f:=t.imp λh=>h.1;refine Ab7 (λx=>x.1) _ _ (AeQ _ f) (Pe.2 ⟨λa o=>?_,AeQ _ f⟩) λx=>?_;{simp only[Km,FG]at o;simp only[];omega};. simp only[Km,FG,DN];constructor;{rintro⟨c,u⟩;by_cases e:x.1=n;{left;obtain⟨i,g,d⟩:=Ki c;obtain⟨j,k,b⟩:=Ki h;have m:=UF.1 f;by_cases r:i<j;{have:=m i j g k r;rw[d,b]at this;omega};. by_cases s:j<i;{have:=m j i k g s;rw[d,b]at this;omega};. obtain rfl:i=j:=Aa;rw[d]at b;exact b};. right;exact⟨c,Aa⟩};. rintro(rfl|⟨c,u⟩);{exact⟨h,BO _⟩};. exact⟨c,Aa⟩
theorem Aix{l:List (Nat×Nat×Nat)}{n:Nat}(h:∀p q,(n,p,q)∉l):l.filter (λx=>AG (n<=x.1))=l.filter (λx=>AG (n+1<=x.1)):=by refine RW λx a=>?_;have:x.1≠n:=λe=>h x.2.1 x.2.2 (by rw[<-e];exact a);simp only[Yz];omega
theorem Ab9{a b:Tr}(h:a≠b):a.beq b=D:=by rw[IA];exactλe=>h ((O5 _ _).1 e)
theorem Uc(a:Tr):a.beq a=Aq:=(O5 a a).2 rfl
def W3(o:List Tr)(n:Nat)(p:List Int):Prop:=p=[]\/∃k q,p=((n+k:Nat):Int)::q/\∃t u,o[k]?=J t/\t.at? q=J u
theorem AbA{f:Tr->Tr->Tr->Ex Tr}(i:∀o a b p,f o a b=.error p->∃u,o.at? p=J u):∀(o a b:List Tr)(n:Nat)(p:List Int),Ej f o a b n=.error p->W3 o n p|[],a,b,n,p,h=>by simp[Ej]at h|o::os,[],b,n,p,h=>by simp[Ej]at h|o::os,a::c,[],n,p,h=>by simp[Ej]at h|o::os,a::c,b::g,n,p,h=>by simp only[Ej]at h;cases d:f o a b with|error q=>rw[d]at h;cases h;obtain⟨u,m⟩:=i _ _ _ _ d;exact .inr ⟨0,q,rfl,o,u,rfl,m⟩|ok t=>rw[d]at h;cases e:Ej f os c g (n+1)with|ok ts=>simp only[e]at h;cases h|error q=>simp only[e]at h;cases h;rcases AbA i os c g (n+1) p e with rfl|⟨k,q,rfl,t,u,j,l⟩;{exact .inl rfl};. exact .inr ⟨k+1,q,by rw[show n+(k+1)=n+1+k from Aa],t,u,AB j,l⟩
theorem AbB{f:Tr->Tr->Tr->Ex Tr}(c:∀o a b p,f o a b=.error p->∃u,o.at? p=J u)(o a b:List Tr)(n:Nat)(p:List Int)(h:Ii f o a b n=.error p):W3 o n p:=by unfold Ii at h;split at h;{cases h};. split at h;{cases h};. split at h;{cases h;exact .inl rfl};. exact AbA c o a b n p h
theorem AbC{f:Tr->Tr->Tr->Ex Tr}(n:∀o a b p,f o a b=.error p->∃u,o.at? p=J u)(o a b:List Tr):∀(d:List (Nat×Nat×Nat))(i j k:Nat)(p:List Int),E3 f o a b d i j k=.error p->W3 o 0 p|[],i,j,k,p,h=>by rw[E3]at h;rcases AbB n _ _ _ _ _ h with rfl|⟨m,q,rfl,t,u,c,l⟩;{exact .inl rfl};. exact .inr ⟨i+m,q,by rw[Dv],t,u,AB c,l⟩|g::d,i,j,k,p,h=>by rw[E3]at h;cases v:Ii f ((o.drop i).take (g.1-i)) ((a.drop j).take (g.2.1-j)) ((b.drop k).take (g.2.2-k)) i with|error e=>rw[v]at h;cases h;rcases AbB n _ _ _ _ _ v with rfl|⟨m,q,rfl,t,u,c,l⟩;{exact .inl rfl};. refine .inr ⟨i+m,q,by rw[Dv],t,u,?_,l⟩;rw[UJ]at c;split at c;{simpa using c};. cases c|ok s=>rw[v]at h;cases w:E3 f o a b d (g.1+1) (g.2.1+1) (g.2.2+1)with|error e=>simp only[w]at h;cases h;exact AbC n o a b d _ _ _ _ w|ok r=>simp only[w]at h;cases h
theorem W5:∀(N:Nat)(o a b:Tr)(p:List Int),Dg N o a b=.error p->∃u,o.at? p=J u|0,o,a,b,p,h=>by cases h;exact⟨o,rfl⟩|N+1,o,a,b,p,h=>by rw[Dg]at h;split at h;{cases h};. split at h;{cases h};. split at h;{cases h;exact⟨o,rfl⟩};. split at h;{rename_i e f;cases h;rcases AbC (λo a b p g=>W5 N o a b p g) _ _ _ _ _ _ _ _ f with rfl|⟨k,q,rfl,t,u,c,d⟩;{exact⟨o,rfl⟩};. refine⟨u,?_⟩;cases o with|node l i=>rw[DS]at c;simp only[Tr.at?,Tr.kid?,Dv];rw[Aw Aa,JK,c];exact d};. cases h
theorem Aiy{o a b:Tr}{p:List Int}(h:Dg (N+1) o a b=.error p):a≠b/\a≠o/\b≠o:=by refine⟨?_,?_,?_⟩;{rintro rfl;rw[Ri _ _ _ _ (by simp[Uc])]at h;cases h};{rintro rfl;by_cases e:a=b;{subst e;rw[Ri _ _ _ _ (by simp[Uc])]at h;cases h};. rw[W2 _ _ _ _ (by simp[Ab9 e,Ab9 (RM e)]) (Uc a)]at h;cases h};. rintro rfl;rw[Ri _ _ _ _ (by simp[Uc])]at h;cases h
theorem AbD(a:List Tr)(n:Nat):Av (a.take n)+Av (a.drop n)=Av a:=by rw[<-GS,KB]
theorem Nc(a:List Tr)(n:Nat):Av (a.drop n)<=Av a:=by have:=AbD a n;omega
theorem Nf(a:List Tr){i n:Nat}(h:i<=n)(c:n<a.length):Av ((a.drop i).take (n-i))+(DY a n).sz+Av (a.drop (n+1))=Av (a.drop i):=by have b:=AbD (a.drop i) (n-i);rw[Ae4,show i+(n-i)=n from Aa,FH c]at b;rw[Av]at b;rw[JN a n c];omega
theorem AbE{f:Tr->Tr->Tr->Ex Tr}(i:∀o a b t,f o a b=.ok t->t.sz<=o.sz+a.sz+b.sz):∀(o a b:List Tr)(n:Nat)(ts:List Tr),Ej f o a b n=.ok ts->Av ts<=Av o+Av a+Av b|[],a,b,n,ts,h=>by simp[Ej]at h;subst h;simp[Av]|o::os,[],b,n,ts,h=>by simp[Ej]at h;subst h;simp[Av]|o::os,a::c,[],n,ts,h=>by simp[Ej]at h;subst h;simp[Av]|o::os,a::c,b::g,n,ts,h=>by simp only[Ej]at h;cases d:f o a b with|error q=>rw[d]at h;cases h|ok t=>rw[d]at h;cases e:Ej f os c g (n+1)with|error q=>simp only[e]at h;cases h|ok us=>simp only[e]at h;cases h;have j:=i _ _ _ _ d;have k:=AbE i os c g (n+1) us e;simp only[Av];omega
theorem PM{f:Tr->Tr->Tr->Ex Tr}(c:∀o a b t,f o a b=.ok t->t.sz<=o.sz+a.sz+b.sz)(o a b:List Tr)(n:Nat)(ts:List Tr)(h:Ii f o a b n=.ok ts):Av ts<=Av o+Av a+Av b:=by unfold Ii at h;split at h;{cases h;omega};. split at h;{cases h;omega};. split at h;{cases h};. exact AbE c o a b n ts h
def Mt(o a b:List Tr)(i j k:Nat)(c:List (Nat×Nat×Nat)):Prop:=(c.Pairwise λp q=>p.1<q.1/\p.2.1<q.2.1/\p.2.2<q.2.2)/\∀h∈c,(i<=h.1/\h.1<o.length)/\(j<=h.2.1/\h.2.1<a.length)/\(k<=h.2.2/\h.2.2<b.length)
theorem Mt.tail{o a b:List Tr}{i j k:Nat}{g:Nat×Nat×Nat}{d:List (Nat×Nat×Nat)}(h:Mt o a b i j k (g::d)):Mt o a b (g.1+1) (g.2.1+1) (g.2.2+1) d:=by obtain⟨c,f⟩:=h;rw[Pe]at c;refine⟨c.2,λx e=>?_⟩;have:=c.1 x e;have:=f x (GK _ e);omega
theorem W6(o a b:Tr):Mt o.kids a.kids b.kids 0 0 0 (Rh o a b):=by refine⟨Ab8 (PL _ _) (PL _ _),?_⟩;rintro⟨n,p,q⟩h;obtain⟨f,g⟩:=Ub.1 h;obtain⟨c,d,_⟩:=Wz _ _ _ f;obtain⟨_,e,_⟩:=Wz _ _ _ g;exact⟨⟨Gm _,c⟩,⟨Gm _,d⟩,⟨Gm _,e⟩⟩
theorem AbF{f:Tr->Tr->Tr->Ex Tr}(d:∀o a b t,f o a b=.ok t->t.sz<=o.sz+a.sz+b.sz)(o a b:List Tr):∀(c:List (Nat×Nat×Nat))(i j k:Nat)(ts:List Tr),Mt o a b i j k c->E3 f o a b c i j k=.ok ts->Av ts<=Av (o.drop i)+Av (a.drop j)+Av (b.drop k)|[],i,j,k,ts,_,h=>by rw[E3]at h;exact PM d _ _ _ _ _ h|g::c,i,j,k,ts,n,h=>by rw[E3]at h;cases l:Ii f ((o.drop i).take (g.1-i)) ((a.drop j).take (g.2.1-j)) ((b.drop k).take (g.2.2-k)) i with|error e=>rw[l]at h;cases h|ok s=>rw[l]at h;cases m:E3 f o a b c (g.1+1) (g.2.1+1) (g.2.2+1)with|error e=>simp only[m]at h;cases h|ok r=>simp only[m]at h;cases h;obtain⟨⟨p,q⟩,⟨u,v⟩,⟨w,x⟩⟩:=n.2 g Ap;have B:=PM d _ _ _ _ _ l;have C:=AbF d o a b c _ _ _ _ n.tail m;have y:=Nf o p q;have z:=Nf a u v;have A:=Nf b w x;rw[GS];simp only[Av];omega
theorem Rj:∀(N:Nat)(o a b t:Tr),Dg N o a b=.ok t->t.sz<=o.sz+a.sz+b.sz|0,o,a,b,t,h=>by cases h|N+1,o,a,b,t,h=>by rw[Dg]at h;split at h;{cases h;omega};. split at h;{cases h;omega};. split at h;{cases h};. split at h;{cases h};. rename_i i c;cases h;have:=AbF (λo a b t=>Rj N o a b t) _ _ _ _ _ _ _ _ (W6 o a b) c;simp only[EF]at this;obtain⟨k,j⟩:=o;obtain⟨e,d⟩:=a;obtain⟨g,f⟩:=b;simp only[DS]at this;simp only[Tr.sz];omega
def Gu{α a:Type}(g:α->a):Ex α->Ex a|.error e=>.error e|.ok r=>.ok (g r)
theorem AiC{α a b:Type}(g:a->b)(h:α->a)(x:Ex α):Gu g (Gu h x)=Gu (λr=>g (h r)) x:=by cases x<;>rfl
section
variable{u v x y:Tr}{A B C:List Tr}
end
def Jc(c:UInt8):Bool:=c==32||c==10
def Bx(s:List UInt8):List UInt8:=s.dropWhile Jc
abbrev Rd(α:Type):=Except (Nat×List UInt8) α
def JF(s:List UInt8):ByteArray:=⟨⟨(Bx s).takeWhile Ci⟩⟩
def FE(s:List UInt8):List UInt8:=Bx ((Bx s).dropWhile Ci)
mutual
def Ij:Nat->List UInt8->Nat->Rd (Tr×List UInt8)|0,s,_=>.error (0,s)|N+1,s,d=>if 10<d then .error (3,s)else if(Bx s).takeWhile Ci=[]then .error (if Bx s=[]then 5 else 4,Bx s)else if(FE s).head?=J 40 then match Hg N (FE s).tail d with|.error e=>.error e|.ok x=>.ok (H (JF s) x.1,x.2)else .ok (H (JF s) [],FE s)
def Hg:Nat->List UInt8->Nat->Rd (List Tr×List UInt8)|0,s,_=>.error (0,s)|N+1,s,d=>match Ij N s (d+1)with|.error e=>.error e|.ok x=>if(Bx x.2).head?=J 41 then .ok ([x.1],(Bx x.2).tail)else match Hg N (Bx x.2) d with|.error e=>.error e|.ok y=>.ok (x.1::y.1,y.2)
end
theorem AbS{α:Type}(p:α->Bool):∀l:List α,(l.dropWhile p).length<=l.length|[]=>BO _|a::l=>by rw[Qs];split;{have:=AbS p l;simp;omega};. exact BO _
theorem JG(s:List UInt8):(Bx s).length<=s.length:=AbS _ s
theorem WE{α:Type}(p:α->Bool)(l:List α):(l.takeWhile p).length+(l.dropWhile p).length=l.length:=by rw[<-Be,AeS]
theorem Od(h:¬(Bx s).takeWhile Ci=[]):(FE s).length+1<=s.length:=by have a:=JG s;have b:=WE Ci (Bx s);have c:=JG ((Bx s).dropWhile Ci);have d:=ID.2 h;unfold FE;omega
theorem Oe:∀(N:Nat)(s:List UInt8)(d:Nat),(∀x,Ij N s d=.ok x->x.2.length+1<=s.length)/\(∀x,Hg N s d=.ok x->x.2.length+1<=s.length)|0,s,d=>⟨λx h=>(by simp[Ij]at h),λx h=>(by simp[Hg]at h)⟩|N+1,s,d=>by constructor;{intro x h;rw[Ij]at h;split at h;{cases h};. split at h;{cases h};. rename_i b;have i:=Od b;split at h;{split at h;{cases h};. rename_i y a;have:=(Oe N (FE s).tail d).2 y a;rw[M8]at this;cases h;simp only[];omega};. cases h;simp only[];omega};. intro x h;rw[Hg]at h;split at h;{cases h};. rename_i y a;have e:=(Oe N s (d+1)).1 y a;have f:=JG y.2;split at h;{cases h;simp only[M8];omega};. split at h;{cases h};. rename_i z c;have g:=(Oe N (Bx y.2) d).2 z c;cases h;simp only[];omega
theorem Rm:∀(N:Nat)(s:List UInt8)(d:Nat),(2*s.length+1<=N->Ij N s d=Ij (N+1) s d)/\(2*s.length+2<=N->Hg N s d=Hg (N+1) s d)|0,s,d=>⟨λh=>absurd h Aa,λh=>absurd h Aa⟩|N+1,s,d=>by constructor;{intro h;rw[Ij,Ij];split;{rfl};. split;{rfl};. rename_i b;have i:=Od b;split;{rename_i a;(have:0<(FE s).length:=by cases c:FE s with|nil=>rw[c]at a;cases a|cons=>simp);rw[(Rm N (FE s).tail d).2 (by rw[M8];omega)]};. rfl};. intro h;rw[Hg,Hg,<-(Rm N s (d+1)).1 Aa];split;{rfl};. rename_i y e;have f:=(Oe N s (d+1)).1 y e;have g:=JG y.2;split;{rfl};. rw[(Rm N (Bx y.2) d).2 Aa]
def GD(s:List UInt8)(d:Nat):Rd (Tr×List UInt8):=Ij (2*s.length+1) s d
def IQ(s:List UInt8)(d:Nat):Rd (List Tr×List UInt8):=Hg (2*s.length+2) s d
theorem AbT(s:List UInt8)(d:Nat):∀N,Ij (2*s.length+1+N) s d=GD s d|0=>rfl|N+1=>by rw[<-AbT s d N];exact((Rm (2*s.length+1+N) s d).1 Aa).symm
theorem AbU(s:List UInt8)(d:Nat):∀N,Hg (2*s.length+2+N) s d=IQ s d|0=>rfl|N+1=>by rw[<-AbU s d N];exact((Rm (2*s.length+2+N) s d).2 Aa).symm
theorem Ajj(h:2*s.length+1<=N):Ij N s d=GD s d:=by obtain⟨k,rfl⟩:=Anw h;exact AbT s d k
theorem AbV(h:2*s.length+2<=N):Hg N s d=IQ s d:=by obtain⟨k,rfl⟩:=Anw h;exact AbU s d k
theorem AbW(s:List UInt8)(d:Nat):GD s d=if 10<d then .error (3,s)else if(Bx s).takeWhile Ci=[]then .error (if Bx s=[]then 5 else 4,Bx s)else if(FE s).head?=J 40 then match IQ (FE s).tail d with|.error e=>.error e|.ok x=>.ok (H (JF s) x.1,x.2)else .ok (H (JF s) [],FE s):=by rw[GD,Ij];split;{rfl};. split;{rfl};. rename_i b;have f:=Od b;split;{rename_i a;(have:0<(FE s).length:=by cases c:FE s with|nil=>rw[c]at a;cases a|cons=>simp);rw[AbV (by rw[M8];omega)]};. rfl
theorem AbX(s:List UInt8)(d:Nat):IQ s d=match GD s (d+1)with|.error e=>.error e|.ok x=>if(Bx x.2).head?=J 41 then .ok ([x.1],(Bx x.2).tail)else match IQ (Bx x.2) d with|.error e=>.error e|.ok y=>.ok (x.1::y.1,y.2):=by rw[IQ,Hg,Ajj Aa];split;{rfl};. rename_i y a;have b:=(Oe _ s (d+1)).1 y a;have c:=JG y.2;split;{rfl};. rw[AbV Aa]
theorem Ajk{x:Tr×List UInt8}(h:GD s d=.ok x):x.2.length+1<=s.length:=(Oe _ s d).1 x h
def Gj(s:List UInt8):Tr×Int×Int:=if 2000<s.length then(Tr.zero,2,-1)else match GD s 0 with|.error e=>(Tr.zero,e.1,(s.length:Int)-e.2.length)|.ok x=>if Bx x.2≠[]then(Tr.zero,6,(s.length:Int)-(Bx x.2).length)else if AM x.1≠0 then(Tr.zero,AM x.1,-1)else(x.1,0,0)
mutual
def Mu(o c b:List UInt8):Tr->List UInt8|H l ks=>l.data.toList++(if ks.isEmpty then[]else o++(EZ o c b ks++c))
def EZ(o c b:List UInt8):List Tr->List UInt8|[]=>[]|k::ks=>Mu o c b k++(if ks.isEmpty then[]else b++EZ o c b ks)
end
def Ek(t:Tr):List UInt8:=Mu [40] [41] [32] t
theorem AbY{c:UInt8}(r:List UInt8)(h:Jc c=D):Bx (c::r)=c::r:=by show(c::r).dropWhile Jc=_;rw[Qs,Aw (by simp[h])]
theorem Ajl(h:EM l=Aq):l.data.toList.all Ci=Aq/\l.data.toList≠[]:=by
 rw[N0]at h;simp only[Ed,FG]at h;refine⟨h.1,λe=>?_⟩;have b:l.data.toList.length=0:=by rw[e];rfl
 have a:l.data.toList.length=l.size:=Y7;omega
theorem Ajm(o c b:List UInt8){t:Tr}(h:t.named=Aq):∃x r,Mu o c b t=x::r/\Ci x=Aq:=by obtain⟨l,e⟩:=t;rw[Mb]at h;obtain⟨a,f⟩:=Ajl h.1;cases d:l.data.toList with|nil=>exact absurd d f|cons x r=>rw[d]at a;simp only[List.all_cons,Ed]at a;refine⟨x,r++(if e.isEmpty then[]else o++(EZ o c b e++c)),?_,a.1⟩;rw[Mu,d];rfl
theorem Mv{t:Tr}(h:AM t=0):t.sz<=40/\t.deepZ 10=Aq/\t.named=Aq:=by unfold AM at h;split at h;{cases h};. split at h;{cases h};. split at h;{cases h};. rename_i c a b;exact⟨Aa,AB a,AB b⟩
theorem Ud(t:Tr)(h:t.named=Aq):(Ek t).length+1<=8*t.sz:=by
 revert h;refine Jm (P:=λt=>t.named=Aq->(Mu [40] [41] [32] t).length+1<=8*t.sz) (λl b f d=>?_) t;rw[Mb]at d;have p:l.data.toList.length<=6:=by have:=d.1;rw[N0]at this;simp only[Ed,FG]at this;have o:l.data.toList.length=l.size:=Y7;omega
 have i:∀a:List Tr,(∀j∈a,j∈b)->a≠[]->(EZ [40] [41] [32] a).length+1<=8*Av a:=by intro a;induction a with|nil=>intro _ h;exact absurd rfl h|cons j a g=>intro c _;have m:=f j (c j Ap) (d.2 j (c j Ap));rw[EZ,Av];cases a with|nil=>simp only[AeM,Lw,EL,Av];omega|cons q a=>have n:=g (λz e=>c z (GK _ e)) Ap;simp only[RJ,Kk,Kl,Be,BZ,CS];omega
 rw[Mu,Tr.sz];cases b with|nil=>simp only[AeM,Lw,EL,Av];omega|cons k b=>have:=i (k::b) (λ_ h=>h) Ap;simp only[RJ,Kk,Kl,Be,BZ,CS];omega
theorem Ajn{s:List UInt8}(h:(Gj s).2.1=0):AM (Gj s).1=0:=by unfold Gj at h⊢;split;{rename_i c;rw[A7 c]at h;cases h};. rename_i c;rw[Aw c]at h;split at h;{rename_i e g;exfalso;(have:∀N s d,(∀e,Ij N s d=.error e->2*s.length+1<=N->e.1≠0)/\(∀e,Hg N s d=.error e->2*s.length+2<=N->e.1≠0):=by intro N;induction N with|zero=>intro s d;exact⟨λe _ h=>Aa,λe _ h=>Aa⟩|succ N i=>intro s d;constructor;{intro e a m;rw[Ij]at a;split at a;{cases a;simp};. split at a;{cases a;simp only[];split<;>simp};. rename_i n;have p:=Od n;split at a;{rename_i l;(have:0<(FE s).length:=by cases g:FE s with|nil=>rw[g]at l;cases l|cons=>simp);split at a;{rename_i j b;cases a;exact(i (FE s).tail d).2 _ b (by rw[M8];omega)};. cases a};. cases a};. intro e a m;rw[Hg]at a;split at a;{rename_i j b;cases a;exact(i s (d+1)).1 _ b Aa};. rename_i y o;have c:=(Oe N s (d+1)).1 y o;have k:=JG y.2;split at a;{cases a};. split at a;{rename_i j b;cases a;exact(i (Bx y.2) d).2 _ b Aa};. cases a);have:=(this _ s 0).1 e g AQ;simp only[]at h;omega};. split at h;{cases h};. rename_i k;split at h;{rename_i f;simp only[]at h;omega};. rename_i f;rw[Aw k,Aw f];simpa using f
mutual
def Kg(s:ByteArray):Tr->Option (List Int)|H l ks=>if l=s then J []else Hu s 0 ks
def Hu(s:ByteArray)(c:Nat):List Tr->Option (List Int)|[]=>G|k::ks=>match Kg s k with|J p=>J ((c:Int)::p)|G=>Hu s (c+1) ks
end
theorem Rp(s l:ByteArray)(a:List Tr):Kg s (H l a)=if l=s then J []else Hu s 0 a:=by rw[Kg]
theorem Rq(s:ByteArray)(c:Nat):Hu s c []=G:=by rw[Hu]
theorem PV(s:ByteArray)(c:Nat)(k:Tr)(a:List Tr):Hu s c (k::a)=match Kg s k with|J p=>J ((c:Int)::p)|G=>Hu s (c+1) a:=by rw[Hu]
theorem WX (s : ByteArray) : ∀ (A B : List Tr) (c : Nat), Hu s c (A ++ B) = match Hu s c A with | J p => J p | G => Hu s (c + A.length) B
  | [], B, c => by rw [Rq]; simp
  | k :: A, B, c => by
    rw [Gl, PV, PV]
    cases Kg s k with
    | some p => rfl
    | none => simp only []; rw [WX s A B (c + 1), BZ, show c + 1 + A.length = c + (A.length + 1) from Aa]
section
variable(g:Nat->Bool)(f:Nat->ByteArray)
mutual
theorem WY:∀(t:Tr)(p:Nat),(IM g p (Di f p t)).length=(IM g p t).length|H l ks,p=>by rw[Ie,J8,J8,QK];split;{exact Acw ks p};. rfl
theorem Acw:∀(ks:List Tr)(p:Nat),(CY g p (Ca f p ks)).length=(CY g p ks).length|[],p=>by rw[Ca]|k::ks,p=>by rw[Ca,CY,CY,Be,Be,NS,WY k p,Acw ks]
end
mutual
theorem Acx:∀(t:Tr)(p n:Nat),EH g p (Di f p t) n=EH g p t n|H l ks,p,n=>by rw[Ie,J9,J9,Acy ks]
theorem Acy:∀(ks:List Tr)(p c n:Nat),FO g p (Ca f p ks) c n=FO g p ks c n|[],p,c,n=>by rw[Ca]|k::ks,p,c,n=>by rw[Ca,FO,FO,NS,Acx k,Acy ks,WY]
end
end
mutual
theorem Acz{g:Nat->Bool}{f:Nat->ByteArray}(hf:∀i j,f i=f j->i=j)(n:Nat):∀(t:Tr)(p c:Nat),n<p\/p+t.sz<=n->Hu (f n) c (IM g p (Di f p t))=G|H l ks,p,c,h=>by rw[Bv]at h;rw[Ie,J8,QK];split;{exact WZ hf n ks p c Aa};. rw[PV,Rp,Aw (λe=>A8 (hf _ _ e)),WZ hf n ks p 0 Aa];simp only[];rw[Rq]
theorem WZ{g:Nat->Bool}{f:Nat->ByteArray}(hf:∀i j,f i=f j->i=j)(n:Nat):∀(ks:List Tr)(p c:Nat),n<p\/p+Av ks<=n->Hu (f n) c (CY g p (Ca f p ks))=G|[],p,c,_=>by rw[Ca,CY,Rq]|k::ks,p,c,h=>by rw[DL]at h;rw[Ca,CY,WX,Acz hf n k p c Aa,NS];exact WZ hf n ks _ _ Aa
end
mutual
theorem AjG{g:Nat->Bool}{f:Nat->ByteArray}(hf:∀i j,f i=f j->i=j)(n:Nat)(hg:∀i,n<=i->g i=D):∀(t:Tr)(p c:Nat),p<=n->n<p+t.sz->Hu (f n) c (IM g p (Di f p t))=J ((c:Int)::EH g p t n)|H l ks,p,c,h1,h2=>by rw[Bv]at h2;rw[Ie,J8,QK,hg _ Aa];simp only[Kk,Kl];rw[PV,Rp,J9];by_cases hr:n=p+Av ks;{rw[A7 (by rw[hr]),SU g ks p 0 n Aa]};. rw[Aw (λe=>A8 (hf _ _ e)),Xa hf n hg ks p 0 h1 Aa]
theorem Xa{g:Nat->Bool}{f:Nat->ByteArray}(hf:∀i j,f i=f j->i=j)(n:Nat)(hg:∀i,n<=i->g i=D):∀(ks:List Tr)(p c:Nat),p<=n->n<p+Av ks->Hu (f n) c (CY g p (Ca f p ks))=J (FO g p ks c n)|[],p,c,h1,h2=>by simp at h2;omega|k::ks,p,c,h1,h2=>by rw[DL]at h2;rw[Ca,CY,WX,NS,FO];by_cases hk:n<p+k.sz;{rw[A7 hk,AjG hf n hg k p c h1 hk]};. rw[Aw hk,Acz hf n k p c Aa,WY];simp only[];exact Xa hf n hg ks _ _ Aa Aa
end
theorem AjH{g:Nat->Bool}{f:Nat->ByteArray}(a:∀i j,f i=f j->i=j)(n:Nat)(b:∀i,n<=i->g i=D)(t:Tr)(h:n+1<t.sz):Kg (f n) (De g (Di f 0 t))=J (EH g 0 t n):=by obtain⟨l,c⟩:=t;rw[Bv]at h;rw[Ie];unfold De;rw[L5,DS,Rp,Aw (λe=>A8 (a _ _ e)),Xa a n b c 0 0 BD Aa,J9]
theorem Ac0{t:Tr}(h:AM t=0)(f:Nat->ByteArray){pre:List Nat}{n:Nat}(k:∀i∈pre,i<n)(j:n+1<t.sz):(BJ (De (Cb pre) t) ⟨2,EH (Cb pre) 0 t n,0,0,⟨#[]⟩⟩).2.2=0/\(BJ (De (Cb pre) t) ⟨2,EH (Cb pre) 0 t n,0,0,⟨#[]⟩⟩).1=De (Cb (pre++[n])) t/\Cv ⟨2,EH (Cb pre) 0 t n,0,0,⟨#[]⟩⟩ (EH (Cb pre) 0 t n) (De (Cb pre) (Di f 0 t))=(De (Cb (pre++[n])) (Di f 0 t),0):=by
 have e:∀i,n<=i->Cb pre i=D:=λi o=>by simp only[Cb,Ow];intro a;have:=k i a;omega
 have b:=V8 (d:=⟨2,EH (Cb pre) 0 t n,0,0,⟨#[]⟩⟩) rfl t (Cb pre) 0 n e BD Aa;have a:=V8 (d:=⟨2,EH (Cb pre) 0 t n,0,0,⟨#[]⟩⟩) rfl (Di f 0 t) (Cb pre) 0 n e BD (by rw[NS];omega);rw[Acx]at a;have c:(BJ (De (Cb pre) t) ⟨2,EH (Cb pre) 0 t n,0,0,⟨#[]⟩⟩).2.2=0:=by refine KO.2 ⟨Ml _ h,G5.2 ⟨Ap,Ap,λ_=>⟨rfl,?_⟩,Ap,Ap,SV _ _ _ _,Ap⟩,?_,?_⟩;{obtain⟨m,l⟩:=t;simp only[Bv]at j;rw[J9];exact QA _ l 0 0 n Aa BD};{unfold De;rw[b]};. unfold De;rw[b];exact Ml _ h
 refine⟨c,?_,?_⟩;{rw[MJ c];unfold De;rw[b,V9]};. unfold De;rw[a,V9]
theorem AjI{t:Tr}(j:AM t=0){pre:List Nat}{n:Nat}(u:(pre++[n]).Pairwise (λa b=>a<b))(h:∀i∈pre++[n],i+1<t.sz):Dc t [] (pre++[n])=Dc t [] pre++[⟨2,EH (Cb pre) 0 t n,0,0,⟨#[]⟩⟩]/\Ey t (pre++[n])=(BJ (De (Cb pre) t) ⟨2,EH (Cb pre) 0 t n,0,0,⟨#[]⟩⟩).2.1::Ey t pre:=by
 have o:∀(l q:List Nat),Dc t q (l++[n])=Dc t q l++[⟨2,EH (Cb (q++l)) 0 t n,0,0,⟨#[]⟩⟩]:=by intro l;induction l with|nil=>intro q;simp[Dc]|cons m l w=>intro q;rw[Gl,Dc,w (q++[m]),Dc,Dm];rfl
 have c:=o pre [];rw[F7]at c;refine⟨c,?_⟩;obtain⟨r,_,s⟩:=RT.1 u;obtain⟨k,d⟩:=SW j pre [] 0 (by rw[F7];exact r) (λi e=>h i (by simp[e]));rw[QC,QB,F7]at d;obtain⟨p,x,_⟩:=Ac0 j (λ_=>⟨#[]⟩) (pre:=pre) (n:=n) (λi e=>s i e n Ap) (h n Ap);have v:Ey t pre=k:=by unfold Ey;rw[d]
 rw[v];unfold Ey;rw[c,P6,d];simp only[];rw[KX p (ZG _ _)];simp
theorem Ac1(t:Tr):Ey t []=[]:=by rfl
end Go.Proofs.YtdbnfhpgmcjngaaGreatDoor
