/- Texts for DeskDoes, part 3. -/
import Derived.Lib.Atoi
import Derived.Lib.AtoiAll
import Derived.Lib.ItoaNum
import Derived.Test.YtdbnfhpgmcjngaaGreatDoorC00
open Go.Lib renaming itoa->B9,decNat->YI,decDigits->Nx,digitVal->MH,decFrom->IE,atoiAll->Pl
open Option renaming some->J,none->G
open UInt8 renaming ofNat->Qw
namespace Go.Proofs.YtdbnfhpgmcjngaaGreatDoor
open Go
set_option maxHeartbeats 12800000
set_option maxRecDepth 100000
set_option linter.unusedVariables false
set_option linter.unusedSimpArgs false
variable{d b:AL}{s:List UInt8}{n:Nat}{a:List (List UInt8)}
def CV(c:UInt8):List (List UInt8)->List UInt8|[]=>[]|[x]=>x|x::y::r=>x++c::CV c (y::r)
def Bw(c:UInt8):List UInt8->List (List UInt8)|[]=>[[]]|b::r=>if b=c then[]::Bw c r else((Bw c r).headD []|>.cons b)::(Bw c r).tail
theorem N7(c:UInt8):∀s,Bw c s≠[]|[]=>by simp[Bw]|b::r=>by unfold Bw;split<;>simp
theorem N8(c:UInt8)(r:List UInt8):Bw c (c::r)=[]::Bw c r:=by rw[Bw,A7 rfl]
theorem ML{b c:UInt8}(r:List UInt8)(h:b≠c):Bw c (b::r)=(b::(Bw c r).headD [])::(Bw c r).tail:=by rw[Bw,Aw h]
theorem Pq(c:UInt8)(s:List UInt8):Bw c s=(Bw c s).headD []::(Bw c s).tail:=by cases h:Bw c s with|nil=>exact absurd h (N7 c s)|cons x r=>rfl
theorem UZ{c:UInt8}:∀(x r:List UInt8),c∉x->Bw c (x++c::r)=x::Bw c r|[],r,_=>N8 c r|b::x,r,h=>by simp only[DN,Qj]at h;rw[Gl,ML _ (λe=>h.1 e.symm),UZ x r h.2];rfl
theorem Va{c:UInt8}:∀x:List UInt8,c∉x->Bw c x=[x]|[],_=>rfl|b::x,h=>by simp only[DN,Qj]at h;rw[ML _ (λe=>h.1 e.symm),Va x h.2];rfl
theorem Zg{c:UInt8}:∀xs:List (List UInt8),xs≠[]->(∀x∈xs,c∉x)->Bw c (CV c xs)=xs|[],h,_=>absurd rfl h|[x],_,h=>Va x (h x Ap)|x::y::r,_,h=>by rw[CV,UZ x _ (h x Ap),Zg (y::r) Ap λz a=>h z (by simp[a])]
theorem Af1(c:UInt8)(x:List UInt8){r:List (List UInt8)}(h:r≠[]):CV c (x::r)=x++c::CV c r:=by cases r with|nil=>exact absurd rfl h|cons y r=>rfl
theorem Af2(c b:UInt8)(x:List UInt8)(r:List (List UInt8)):CV c ((b::x)::r)=b::CV c (x::r):=by cases r with|nil=>rfl|cons y r=>rfl
theorem O6(c:UInt8):∀s,CV c (Bw c s)=s|[]=>rfl|b::r=>by by_cases h:b=c;{subst h;rw[N8,Af1 _ _ (N7 _ _),O6 b r];rfl};. rw[ML _ h,Af2,<-Pq,O6 c r]
theorem S6(c:UInt8):∀s,∀x∈Bw c s,c∉x|[],x,h=>by simp[Bw]at h;subst h;simp|b::r,x,h=>by by_cases a:b=c;{subst a;rw[N8]at h;rcases DN.1 h with rfl|h;{simp};. exact S6 b r x h};. rw[ML _ a]at h;rcases DN.1 h with rfl|h;{simp only[DN,Qj];exact⟨λe=>a e.symm,S6 c r _ (by rw[Pq];simp)⟩};. exact S6 c r x (by rw[Pq];simp[h])
theorem L6(c:UInt8):∀s:List UInt8,(Bw c s).length=s.count c+1|[]=>rfl|b::r=>by by_cases a:b=c;{subst a;rw[N8,BZ,L6 b r,List.count_cons_self]};. rw[ML _ a,BZ,M8,L6 c r,Ank a];omega
theorem Vb(c b:UInt8):∀s:List UInt8,Bw c (s++[b])=if b=c then Bw c s++[[]]else(Bw c s).dropLast++[(Bw c s).getLastD []++[b]]|[]=>by by_cases h:b=c;{subst h;simp[Bw]};. simp[Bw,h]|a::r=>by have e:=Vb c b r;have f:=Pq c r;generalize i:(Bw c r).headD []=x at*;generalize g:(Bw c r).tail=t at*;by_cases d:a=c;{subst d;rw[Gl,N8,N8,e,f];by_cases h:b=a;{rw[A7 h,A7 h];rfl};. rw[Aw h,Aw h];rfl};. rw[Gl,ML _ d,ML _ d,i,g,e,f];by_cases h:b=c;{rw[A7 h,A7 h];rfl};. rw[Aw h,Aw h];cases t with|nil=>rfl|cons y t=>rfl
def Fd(p:List Int):List UInt8:=if p=[]then[45]else CV 46 (p.map B9)
def Eu(s:List UInt8):Option Nat:=if s.length<1\/3<s.length\/(s.head?=J 48/\1<s.length)then G else YI s
theorem Af3:∀n:Fin 1000,Eu (Nx n.val)=J n.val:=by decide+kernel
theorem Af4{n:Int}(a:0<=n)(b:n<1000):Eu (B9 n)=J n.toNat:=by have:=Af3 ⟨n.toNat,Aa⟩;unfold Lib.itoa;rw[Aw Aa];exact this
theorem Af5:∀a:Fin 10,Nx a.val=[Qw (48+a.val)]:=by decide+kernel
theorem Af6:∀a b:Fin 10,a.val≠0->Nx (a.val*10+b.val)=[Qw (48+a.val),Qw (48+b.val)]:=by decide+kernel
theorem Af7:∀a b c:Fin 10,a.val≠0->Nx ((a.val*10+b.val)*10+c.val)=[Qw (48+a.val),Qw (48+b.val),Qw (48+c.val)]:=by decide+kernel
theorem Ps{b:UInt8}{d:Nat}(h:MH b=J d):d<10/\b=Qw (48+d):=by obtain⟨a,c,e⟩:=Lib.digitVal_eq h;refine⟨Aa,?_⟩;rw[show 48+d=b.toNat from Aa];simp
theorem Vc(h:Eu s=J n):n<1000/\Nx n=s:=by unfold Eu at h;split at h;{cases h};. next v=>simp only[Qj,not_and]at v;obtain⟨t,u,l⟩:=v;match s,t,u,l,h with|[],t,_,_,_=>simp at t|[a],_,_,_,h=>(simp only[YI,IE,RJ]at h;cases g:MH a with|none=>simp[g]at h|some d=>simp[g]at h;obtain⟨k,j⟩:=Ps g;subst h;exact⟨Aa,by rw[j];exact Af5 ⟨d,k⟩⟩)|[a,b],_,_,l,h=>(simp only[YI,IE,RJ]at h;cases g:MH a with|none=>simp[g]at h|some d=>cases i:MH b with|none=>simp[g,i]at h|some e=>simp[g,i]at h;obtain⟨k,j⟩:=Ps g;obtain⟨m,o⟩:=Ps i;(have q:d≠0:=by rintro rfl;exact l (by rw[j];rfl) Ap);subst h;exact⟨Aa,by rw[j,o];exact Af6 ⟨d,k⟩ ⟨e,m⟩ q⟩)|[a,b,c],_,_,l,h=>(simp only[YI,IE,RJ]at h;cases g:MH a with|none=>simp[g]at h|some d=>cases i:MH b with|none=>simp[g,i]at h|some e=>cases p:MH c with|none=>simp[g,i,p]at h|some f=>simp[g,i,p]at h;obtain⟨k,j⟩:=Ps g;obtain⟨m,o⟩:=Ps i;obtain⟨w,x⟩:=Ps p;(have q:d≠0:=by rintro rfl;exact l (by rw[j];rfl) Ap);subst h;exact⟨Aa,by rw[j,o,x];exact Af7 ⟨d,k⟩ ⟨e,m⟩ ⟨f,w⟩ q⟩)|a::b::c::d::r,_,u,_,_=>simp at u
theorem Zh:∀n:Fin 1000,Pl (Nx n.val)=.ok (n.val:Int):=by decide+kernel
def S8(s:List UInt8):Option Nat:=match Pl s with|.ok n=>if B9 n=s/\0<=n/\n<1000 then J n.toNat else G|_=>G
theorem Af8(s:List UInt8):S8 s=Eu s:=by cases b:Eu s with|some n=>obtain⟨c,a⟩:=Vc b;have:=Zh ⟨n,c⟩;simp only[a]at this;unfold S8;rw[this];simp only[];rw[A7 ⟨by rw[<-a];unfold Lib.itoa;rw[Aw Aa];rfl,Aa,Aa⟩];rfl|none=>unfold S8;rcases d:Pl s with n|_|_;{simp only[];by_cases h:B9 n=s/\0<=n/\n<1000;{have:=Af4 h.2.1 h.2.2;rw[h.1,b]at this;cases this};. rw[Aw h]};{rfl};. rfl
def Gb:List (List UInt8)->Option (List Int)|[]=>J []|x::r=>match Eu x with|G=>G|J n=>match Gb r with|G=>G|J p=>J ((n:Int)::p)
def Gc(s:List UInt8):Option (List Int):=if s=[45]then J []else Gb (Bw 46 s)
theorem Zi:∀{l:List (List UInt8)}{p:List Int},Gb l=J p->p.map B9=l/\∀x∈p,0<=x/\x<1000|[],p,h=>by simp[Gb]at h;subst h;simp|x::r,p,h=>by rw[Gb]at h;cases a:Eu x with|none=>rw[a]at h;cases h|some n=>rw[a]at h;cases b:Gb r with|none=>rw[b]at h;cases h|some q=>rw[b]at h;simp only[Op]at h;subst h;obtain⟨d,e⟩:=Zi b;obtain⟨g,f⟩:=Vc a;constructor;{rw[Jz,d,show B9 (n:Int)=x by unfold Lib.itoa;rw[Aw Aa];exact f]};. intro y c;rcases DN.1 c with rfl|c;{omega};. exact e y c
theorem Zj(n:Int):B9 n≠[]:=by unfold Lib.itoa;split;{simp};. intro e;have a:=Bp List.length e;have b:=Lib.nDigits_pos n.toNat;rw[Lib.decDigits_length]at a;simp at a;omega
theorem Af9{c:UInt8}:∀{l:List (List UInt8)},l≠[]->(∀x∈l,x≠[])->CV c l≠[]|[],h,_=>absurd rfl h|[x],_,h=>h x Ap|x::y::r,_,_=>by simp[CV]
theorem Vd{p:List Int}(h:Gc s=J p):Fd p=s/\∀x∈p,0<=x/\x<1000:=by unfold Gc at h;split at h;{next e=>simp at h;subst h;exact⟨by simp[Fd,e],Ap⟩};. obtain⟨a,b⟩:=Zi h;refine⟨?_,b⟩;unfold Fd;rw[Aw ?_,a,O6];rintro rfl;exact N7 46 s (by rw[<-a];rfl)
def KQ:List UInt8:=[110,97,109,101]
def KR:List UInt8:=[100,101,108,101,116,101]
def KS:List UInt8:=[105,110,115,101,114,116]
def Dw(d:AL):Nat:=if CX d≠0 then CX d else if(∃x∈d.path,999<x)\/999<d.pos\/999<d.many then 9 else 0
def ND(d:AL):List (List UInt8):=if d.kind=1 then[KQ,Fd d.path,d.lab.data.toList]else if d.kind=2 then[KR,Fd d.path]else[KS,Fd d.path,B9 d.pos,B9 d.many,d.lab.data.toList]
def Fe(d:AL):List UInt8:=CV 32 (ND d)
def Kt(d:AL):List UInt8×Nat:=if Dw d≠0 then([],Dw d)else(Fe d,0)
def IF(d:AL):AL×Nat:=if CX d≠0 then(AL.zero,CX d)else(d,0)
def FI:List (List UInt8)->AL×Nat|[k,p,l]=>if k=KQ then(match Gc p with|G=>(AL.zero,6)|J q=>IF ⟨1,q,0,0,⟨⟨l⟩⟩⟩)else(AL.zero,6)|[k,p]=>if k=KR then(match Gc p with|G=>(AL.zero,6)|J q=>IF ⟨2,q,0,0,⟨#[]⟩⟩)else(AL.zero,6)|[k,p,a,m,l]=>if k=KS then(match Gc p with|G=>(AL.zero,6)|J q=>match Eu a,Eu m with|J x,J y=>IF ⟨3,q,(x:Int),(y:Int),⟨⟨l⟩⟩⟩|_,_=>(AL.zero,6))else(AL.zero,6)|_=>(AL.zero,6)
def IG(s:List UInt8):AL×Nat:=FI (Bw 32 s)
theorem Qz(h:Dw d=0):CX d=0/\(∀x∈d.path,0<=x/\x<1000)/\(0<=d.pos/\d.pos<1000)/\0<=d.many/\d.many<1000:=by unfold Dw at h;by_cases a:CX d=0;{rw[Aw (AB a)]at h;split at h;{cases h};. next b=>simp only[Qj,not_exists,not_and]at b;obtain⟨_,_,_,e,f,g,_⟩:=G5.1 a;exact⟨a,λx c=>⟨g x c,A8 (b.1 x c)⟩,⟨e,Aa⟩,f,Aa⟩};. rw[A7 a]at h;exact absurd h a
theorem Pt(h:CX d=0):IF d=(d,0):=by unfold IF;rw[Aw (AB h)]
theorem Ve{d e:AL}(h:IF d=(e,0)):d=e/\CX e=0:=by unfold IF at h;by_cases a:CX d≠0;{rw[A7 a]at h;exact absurd (Bp Prod.snd h) a};. rw[Aw a]at h;have:=Bp Prod.fst h;subst this;exact⟨rfl,AB a⟩
theorem Zk(h:Eu s=J n):n<1000/\B9 (n:Int)=s:=by obtain⟨a,b⟩:=Vc h;exact⟨a,by unfold Lib.itoa;rw[Aw Aa];exact b⟩
theorem SA(b:CX d=0)(c:∀x∈d.path,x<1000)(f:d.pos<1000)(g:d.many<1000):Dw d=0:=by unfold Dw;rw[Aw (AB b),Aw];rintro(⟨x,a,e⟩|h|h);{have:=c x a;omega};{omega};. omega
theorem AfA{w:List (List UInt8)}(h:FI w=(d,0)):Dw d=0/\ND d=w:=by unfold FI at h;split at h;{next k p l=>split at h;{next e=>split at h;{cases h};. next q i=>obtain⟨rfl,g⟩:=Ve h;obtain⟨c,f⟩:=Vd i;exact⟨SA g (λx b=>(f x b).2) (show(0:Int)<1000 from Bb) (show(0:Int)<1000 from Bb),by simp[ND,c,e]⟩};. cases h};{next k p=>split at h;{next e=>split at h;{cases h};. next q i=>obtain⟨rfl,g⟩:=Ve h;obtain⟨c,f⟩:=Vd i;exact⟨SA g (λx b=>(f x b).2) (show(0:Int)<1000 from Bb) (show(0:Int)<1000 from Bb),by simp[ND,c,e]⟩};. cases h};{next k p a m l=>split at h;{next e=>split at h;{cases h};. next q i=>split at h;{next x y b o=>obtain⟨rfl,g⟩:=Ve h;obtain⟨c,f⟩:=Vd i;obtain⟨r,j⟩:=Zk b;obtain⟨s,n⟩:=Zk o;exact⟨SA g (λx b=>(f x b).2) (by show(x:Int)<1000;omega) (by show(y:Int)<1000;omega),by simp[ND,c,e,j,n]⟩};. cases h};. cases h};. cases h
theorem AfB(h:IG s=(d,0)):Dw d=0/\Fe d=s:=by obtain⟨a,b⟩:=AfA h;exact⟨a,by unfold Fe;rw[b,O6]⟩
def O7:Nat->List AL->Except (Nat×Nat) (List UInt8)|_,[]=>.ok []|i,d::r=>if Dw d≠0 then .error (Dw d,i)else match O7 (i+1) r with|.error e=>.error e|.ok s=>.ok (Fe d++10::s)
def II(ds:List AL):List UInt8×Int×Int:=if 80<ds.length then([],2,-1)else match O7 0 ds with|.error (c,i)=>([],(c:Int),(i:Int))|.ok s=>(s,0,0)
def G6:List (List UInt8)->List UInt8|[]=>[]|x::r=>x++10::G6 r
theorem Zl:∀(ds:List AL)(i:Nat),(∀d∈ds,Dw d=0)->O7 i ds=.ok (G6 (ds.map Fe))|[],i,_=>rfl|d::r,i,h=>by rw[O7,Aw (by simpa using h d Ap),Zl r (i+1) λx a=>h x (by simp[a])];rfl
theorem AfC{l:List (List UInt8)}(h:l≠[]):G6 l≠[]:=by cases l with|nil=>exact absurd rfl h|cons x r=>simp[G6]
theorem Vf{ds:List AL}(a:ds.length<=80)(h:∀d∈ds,Dw d=0):II ds=(G6 (ds.map Fe),0,0):=by unfold II;rw[Aw Aa,Zl ds 0 h]
theorem Adm(d:AL)(l:ByteArray)(a:List Tr)(k:Int)(h:(Jn d (.node l a) k).2=0):(d.kind≠1->d.kind≠2->d.pos<=a.length/\d.many<=a.length-d.pos)/\(d.kind=2->k<a.length):=by rw[Ks]at h;by_cases f:d.kind=1;{exact⟨λe=>absurd f e,λe=>Aa⟩};. rw[Aw f]at h;by_cases b:d.kind=2;{rw[A7 b]at h;refine⟨λ_ e=>absurd b e,λ_=>?_⟩;by_cases c:(a.length:Int)<=k;{rw[A7 c]at h;cases h};. omega};. rw[Aw b]at h;refine⟨λ_ _=>?_,λe=>absurd e b⟩;by_cases c:(a.length:Int)<d.pos\/(a.length:Int)-d.pos<d.many;{rw[A7 c]at h;cases h};. omega
theorem XA(d:AL):∀(p:List Int)(t:Tr),(Cv d p t).2=0->(∀x∈p,0<=x)->(∀x∈p,x<(t.sz:Int))/\(d.kind≠1->d.kind≠2->d.pos<=(t.sz:Int)/\d.many<=(t.sz:Int)-d.pos)/\p.length<=t.sz|[],.node l g,h,_=>by have j:=(Adm d l g 0 h).1;have m:=DM g;refine⟨Ap,λa b=>?_,Ap⟩;have:=j a b;simp only[Bv];omega|k::p,.node l g,h,n=>by have u:=DM g;rw[KN]at h;by_cases j:d.kind=2/\p=[];{rw[A7 j]at h;have m:=(Adm d l g k h).2 j.1;obtain⟨o,rfl⟩:=j;refine⟨λx i=>?_,λ_ e=>absurd o e,Ap⟩;rw[Ia]at i;subst i;simp only[Bv];omega};. rw[Aw j]at h;by_cases m:(g.length:Int)<=k;{rw[A7 m]at h;cases h};. rw[Aw m]at h;have r:=n k Ap;(have q:DY g k=g[k.toNat]'Aa:=by have:=JN g k.toNat Aa;rwa[Int.toNat_of_nonneg r]at this);obtain⟨a,b,c⟩:=XA d p (DY g k) h (λx i=>n x (GK _ i));have s:=DW g k.toNat Aa;rw[<-q]at s;refine⟨λx i=>?_,λe f=>?_,by simp only[BZ,Bv];omega⟩;{rcases DN.1 i with rfl|i;{simp only[Bv];omega};. have:=a x i;simp only[Bv];omega};. have:=b e f;simp only[Bv];omega
theorem AkW{t:Tr}(h:(BJ t d).2.2=0):Dw d=0:=by
 obtain⟨k,e,f,_⟩:=KO.1 h;have r:=(Dd.1 k).1;obtain⟨q,g,m,n,o,i,p⟩:=G5.1 e;obtain⟨a,b,_⟩:=XA d d.path t f i;have c:d.pos<1000/\d.many<1000:=by by_cases j:d.kind=3;{have:=b Aa Aa;omega};. have:=g j;omega
 exact SA e (λx l=>A8 (a x l)) c.1 c.2
theorem XB:∀{l:List AL}{i:Nat}{t:Tr}{r:Tr×List AL},CI i t l=.ok r->∀d∈l,Dw d=0|[],i,t,r,_=>Ap|d::l,i,t,r,h=>by by_cases a:(BJ t d).2.2=0;{cases c:CI (i+1) (BJ t d).1 l with|error e=>rw[Kx a c]at h;cases h|ok y=>intro e b;rcases DN.1 b with rfl|b;{exact AkW a};. exact XB c e b};. rw[KW a]at h;cases h
theorem AkX{t:Tr}(h:(BJ t d).2.2=0):d.path.length<=60/\d.lab.size<=100:=by obtain⟨j,i,b,_⟩:=KO.1 h;have o:=(Dd.1 j).1;obtain⟨n,k,e,l,m,f,g⟩:=G5.1 i;obtain⟨_,_,c⟩:=XA d d.path t b f;refine⟨Aa,?_⟩;by_cases a:d.kind=2;{rw[(e a).1];decide};. have:=g a;unfold EM at this;simp only[Ed,FG]at this;omega
theorem XD:∀{l:List AL}{i:Nat}{t:Tr}{r:Tr×List AL},CI i t l=.ok r->∀d∈l,d.path.length<=60/\d.lab.size<=100|[],i,t,r,_=>Ap|d::l,i,t,r,h=>by by_cases a:(BJ t d).2.2=0;{cases c:CI (i+1) (BJ t d).1 l with|error e=>rw[Kx a c]at h;cases h|ok y=>intro e b;rcases DN.1 b with rfl|b;{exact AkX a};. exact XD c e b};. rw[KW a]at h;cases h
end Go.Proofs.YtdbnfhpgmcjngaaGreatDoor
