/- Texts for DeskDoes, part 21. -/
import Derived.Test.YtdbnfhpgmcjngaaGreatDoorC16
import Derived.Test.YtdbnfhpgmcjngaaGreatDoorC17
import Derived.Test.YtdbnfhpgmcjngaaGreatDoorC18
open Go renaming World->Z,Value->Ay,maxLen->AV,Calls->As
open Go.Ending renaming returned->Az
open Go.IntKind renaming i64->O
open Go.Obj renaming cells->Ao
open Go.Proofs.Tryz renaming prog->E
open Go.Value renaming string->V,slice->R,int->U,pointer->A6
open List renaming replicate->UU
open Option renaming some->J,none->G
namespace Go.Proofs.YtdbnfhpgmcjngaaGreatDoor
open Go Go.RowKit Go.Proofs.Tryz
open Tr renaming node->H
set_option maxHeartbeats 12800000
set_option maxRecDepth 100000
set_option linter.all false
variable{t e:Tr}{k:Int}{c d:Z}{f i j:Nat}{m n:ByteArray}{o:List Mk}
def Hi:List Tr->List (List AL)|[]=>[]|t::r=>[]::(ER (t::r)).map (·.1)
theorem PU:∀ts:List Tr,(Hi ts).length=ts.length|[]=>rfl|t::r=>by have:=MY (t::r) Ap;simp only[Hi,BZ,DJ]at*;exact this
theorem AjA(ts:List Tr)(t:Tr):Hi (ts++[t])=Hi ts++[if ts=[]then[]else(EX (IN ts) t).1]:=by cases ts with|nil=>rfl|cons a r=>have:=Wr t (a::r) Ap;rw[Gl]at this⊢;rw[Hi,this];simp[Hi]
theorem WS(ts:List Tr)(i:Nat)(h:i<ts.length)(c:i<(Hi ts).length):(Hi ts)[i]=EB ts i:=by cases ts with|nil=>cases h|cons a r=>cases i with|zero=>unfold EB;rw[Aw Ap];rfl|succ j=>obtain⟨d,b⟩:=TT (a::r) j h;rw[show(((j+1:Nat)):Int)=(j:Int)+1 from rfl,OH _ j h,<-b];simp[Hi]
theorem Acu(ts:List Tr):((Hi ts).map List.length).sum=Lc ts:=by cases ts with|nil=>rfl|cons a r=>simp[Hi,Lc,LQ,Ae5]
def Oj(S:Nat->Prop)(w:Z):List (List AL)->List Ay->Prop|[],xs=>xs=[]|d::ds,xs=>∃o c ys,xs=R o d.length c::ys/\Co S w d o c/\Oj S w ds ys
theorem Oj.carry{S S':Nat->Prop}{w w':Z}(a:∀k,S k->k<w.heap.size->w'.heap[k]?=w.heap[k]?/\S' k):∀{ds:List (List AL)}{xs},Oj S w ds xs->Oj S' w' ds xs|[],_,h=>h|_::_,_,⟨o,c,ys,b,d,e⟩=>⟨o,c,ys,b,d.carry a,e.carry a⟩
theorem Oj.snoc{S:Nat->Prop}{w:Z}{d:List AL}{o c}(h:Co S w d o c):∀{ds:List (List AL)}{xs},Oj S w ds xs->Oj S w (ds++[d]) (xs++[R o d.length c])|[],_,e=>by subst e;exact⟨o,c,[],rfl,h,rfl⟩|_::_,_,⟨i,a,ys,b,f,g⟩=>by subst b;exact⟨i,a,ys++[R o d.length c],rfl,f,g.snoc h⟩
theorem Oj.get{S:Nat->Prop}{w:Z}:∀{ds:List (List AL)}{xs},Oj S w ds xs->∀i(h:i<ds.length),∃o c,xs[i]?=J (R o ds[i].length c)/\Co S w ds[i] o c|_::_,_,⟨o,c,_,a,b,_⟩,0,_=>by subst a;exact⟨o,c,rfl,b⟩|_::_,_,⟨_,_,_,a,_,d⟩,i+1,h=>by subst a;simpa using d.get i (AB h)
def RC(M:Nat)(vl vs:Ay)(k:Nat):Prop:=k=M\/vl.ownBlock=J k\/vs.ownBlock=J k
def RS(F M:Nat)(vl vs:Ay)(k:Nat):Prop:=F<=k/\¬RC M vl vs k
structure Dl (F : Nat) (w : Z) (M : Nat) (vl vs : Ay) (l : List UInt8) (ts : List Tr) (big : Bool) : Prop where
  hdr : Gw w M ⟨⟨l⟩⟩ vl vs big
  row : ∃ xs, w.ownsRow (M + 1) 53 2 vl ts.length xs ∧ Gd (RS F M vl vs) w ts xs
  stp : ∃ ys, w.ownsRow (M + 1) 92 1 vs ts.length ys ∧ Oj (RS F M vl vs) w (Hi ts) ys
  ne : ∀ k, vl.ownBlock = J k → vs.ownBlock ≠ J k
  flt : ∀ t ∈ ts, AM t = 0 ∧ t.sz ≤ 14
  few : ts.length ≤ 30
  lv : ∃ w0, Lv w0 ∧ w0.heap.size ≤ M ∧ Pr w0 w
  flo : F ≤ w.heap.size
section
variable{F:Nat}{w w' w0 w1:Z}{M:Nat}{vl vs:Ay}{l l2:List UInt8}{ts ts2:List Tr}{big b2:Bool}
theorem Dl.lt(h:Dl F w M vl vs l ts big):∀k,RC M vl vs k->k<w.heap.size:=by obtain⟨_,a,_⟩:=h.row;obtain⟨_,b,_⟩:=h.stp;rintro k(rfl|e|e);{exact BP h.hdr};{exact(a.lt k e).2};. exact(b.lt k e).2
theorem Dl.ge(h:Dl F w M vl vs l ts big):∀k,RC M vl vs k->M<=k:=by obtain⟨_,a,_⟩:=h.row;obtain⟨_,b,_⟩:=h.stp;rintro k(rfl|e|e);{exact BO _};{have:=(a.lt k e).1;omega};. have:=(b.lt k e).1;omega
theorem Dl.tab(h:Dl F w M vl vs l ts big):Lv w:=by obtain⟨_,a,_,b⟩:=h.lv;exact a.pr b
theorem Dl.chg(h:Dl F w M vl vs l ts big)(b:AE (λk=>k=M) w w')(j:Gw w' M ⟨⟨l2⟩⟩ vl vs b2):Dl F w' M vl vs l2 ts b2:=by obtain⟨xs,c,f⟩:=h.row;obtain⟨ys,d,i⟩:=h.stp;have a:∀k,RS F M vl vs k->k<w.heap.size->w'.heap[k]?=w.heap[k]?/\RS F M vl vs k:=λk a m=>⟨b.block k m λe=>a.2 (.inl e),a⟩;exact⟨j,⟨xs,DZ c (λk a=>b.block k (c.lt k a).2 (A8 ((c.lt k a).1))),f.carry a⟩,⟨ys,DZ d (λk a=>b.block k (d.lt k a).2 (A8 ((d.lt k a).1))),i.carry a⟩,h.ne,h.flt,h.few,h.lv.imp λ_ g=>⟨g.1,g.2.1,b.over g.2.2 λk e=>by have n:=e;omega⟩,Dy h.flo b.size⟩
theorem Dl.pr(h:Dl F w M vl vs l ts big)(a:Pr w w'):Dl F w' M vl vs l ts big:=h.chg (a.chg _) (a.blk h.hdr)
def ED(F:Nat)(w:Z)(M:Nat)(vl vs:Ay)(l:List UInt8)(ts:List Tr)(big:Bool)(w':Z):Prop:=∃vl' vs',Dl F w' M vl' vs' l ts big/\AE (RC M vl vs) w w'/\∀k,RC M vl' vs' k->RC M vl vs k\/w.heap.size<=k
theorem AjB(h:Dl F w M vl vs l ts big):ED F w M vl vs l ts big w:=⟨vl,vs,h,Cf _ _,λ_ h=>.inl h⟩
theorem ED.suf(h:ED F w M vl vs l ts big w1)(c:Pr w1 w'):ED F w M vl vs l ts big w':=by obtain⟨a,b,d,e,f⟩:=h;exact⟨a,b,d.pr c,e.pr c,f⟩
theorem ED.bind1{a b:Ay}(e:AE (RC M vl vs) w w1)(f:∀k,RC M a b k->RC M vl vs k\/w.heap.size<=k)(n:ED F w1 M a b l2 ts2 b2 w'):ED F w M vl vs l2 ts2 b2 w':=by obtain⟨c,d,g,i,j⟩:=n;have o:=e.size;exact⟨c,d,g,e.trans i f,λk m=>(j k m).elim (f k) λh=>.inr Aa⟩
theorem ED.pre(a:Pr w0 w)(h:ED F w M vl vs l ts big w'):ED F w0 M vl vs l ts big w':=bind1 (a.chg _) (λ_ h=>.inl h) h
theorem ED.call{u:Z}{d:FuncId}{args:Array Ay}{f:Ending->Prop}(h:ED F w M vl vs l ts big w1)(n:∀a b,Dl F w1 M a b l ts big->As E d args u λe c=>f e/\ED F w1 M a b l2 ts2 b2 c):As E d args u λe c=>f e/\ED F w M vl vs l2 ts2 b2 c:=by obtain⟨a,b,j,k,m⟩:=h;exact(n a b j).mono λe c⟨g,i⟩=>⟨g,.bind1 k m i⟩
theorem AjC(a b:List UInt8):(⟨⟨a⟩⟩:ByteArray)++(⟨⟨b⟩⟩:ByteArray)=⟨⟨a++b⟩⟩:=by apply Qt;simp
theorem ED.of(h:Dl F w' M vl vs l ts big)(a:AE (λk=>k=M) w w'):ED F w M vl vs l ts big w':=⟨vl,vs,h,⟨a.os,a.tape,a.output,a.size,λk b c=>a.block k b λe=>c (.inl e)⟩,λ_ h=>.inl h⟩
theorem WT(h:Dl F w M vl vs l ts big)(s:ByteArray)(f:s.size<=100000000)(d:l.length<=1000000000):As E 30 #[A6 (J ⟨M,0,G⟩),V s] w λe w'=>e=Az (.tuple #[])/\Dl F w' M vl vs (l++(s.data.toList++[10])) ts big/\AE (λk=>k=M) w w':=by refine(Aj0 M ⟨⟨l⟩⟩ s vl vs big w h.hdr f d).mono λe w'⟨b,c,a⟩=>⟨b,h.chg a ?_,a⟩;exact c
theorem OU(h:Dl F w M vl vs l ts big)(s:ByteArray)(f:s.size<=100000000)(d:l.length<=1000000000):As E 30 #[A6 (J ⟨M,0,G⟩),V s] w λe w'=>e=Az (.tuple #[])/\ED F w M vl vs (l++(s.data.toList++[10])) ts big w':=(WT h s f d).mono λ_ _⟨a,b,c⟩=>⟨a,.of b c⟩
def RQ(F:Nat)(w:Z)(M:Nat)(vl vs:Ay)(l:List UInt8)(big:Bool)(r:Ka)(w':Z):Prop:=∃b x a,x.length<=300000/\ED F w M vl vs (l++x) b a w'/\(a=false->big=false/\(b,x)=r)
theorem RQ.pre{r:Ka}(g:Pr w0 w)(h:RQ F w M vl vs l big r w'):RQ F w0 M vl vs l big r w':=by obtain⟨a,b,c,d,e,f⟩:=h;exact⟨a,b,c,d,e.pre g,f⟩
theorem RQ.of{x:List UInt8}(a:x.length<=300000)(h:ED F w M vl vs (l++x) ts big w'):RQ F w M vl vs l big (ts,x) w':=⟨ts,x,big,a,h,λh=>⟨h,rfl⟩⟩
theorem Dl.len(h:Dl F w M vl vs l ts big):∃b a,vl=R b ts.length a/\A9 AH w ts b a:=by obtain⟨xs,c,d⟩:=h.row;exact Gd.kids (d.carry λ_ _ _=>⟨rfl,BR⟩) c λ_ _=>BR
theorem Dl.slen(h:Dl F w M vl vs l ts big):∃b a,vs=R b ts.length a:=by obtain⟨ys,c,_⟩:=h.stp;obtain⟨b,a,e,_⟩:=J7 c;exact⟨b,a,e⟩
theorem Gd.pick{S:Nat->Prop}{w:Z}:∀{ts:List Tr}{xs},Gd S w ts xs->∀i(h:i<ts.length),∃vl c,xs[i*2]?=J vl/\xs[i*2+1]?=J c/\G7 S w ts[i] vl c|_::_,_,⟨vl,c,_,d,j,_⟩,0,_=>by subst d;exact⟨vl,c,rfl,rfl,j⟩|_::_,_,⟨_,_,_,d,_,k⟩,i+1,h=>by subst d;obtain⟨a,b,e,f,g⟩:=k.pick i (AB h);exact⟨a,b,by rw[show(i+1)*2=i*2+1+1 from Aa];simpa using e,by rw[show(i+1)*2+1=i*2+1+1+1 from Aa];simpa using f,AB g⟩
theorem Dl.tree(h:Dl F w M vl vs l ts big)(i:Nat)(t:i<ts.length):∃g d m a b c,vl=R (J ⟨g,0,G⟩) ts.length d/\ts[i]=H m a/\m.size<=AV/\w.cell? ⟨g,i*2,G⟩=J (V m)/\w.cell? ⟨g,i*2+1,G⟩=J (R b a.length c)/\A9 (RS F M vl vs) w a b c:=by obtain⟨xs,f,q⟩:=h.row;obtain⟨b,d,e,_,_,r⟩:=J7 f;obtain⟨g,rfl,_⟩:=r Aa;obtain⟨y,x,o,p,j⟩:=q.pick i t;have k:=f.cells (g:=g) (by rw[e];rfl) _ _ o;have n:=f.cells (g:=g) (by rw[e];rfl) _ _ p;rw[E4,Dv]at k n;revert j;cases v:ts[i]with|node m a=>intro j;obtain⟨⟨rfl,u⟩,b,c,rfl,s⟩:=Pu.1 j;exact⟨g,d,m,a,b,c,e,rfl,u,k,n,s⟩
theorem Dl.step(h:Dl F w M vl vs l ts big)(i:Nat)(j:i<ts.length):∃g a o c,vs=R (J ⟨g,0,G⟩) ts.length a/\w.cell? ⟨g,i,G⟩=J (R o (EB ts i).length c)/\Co AH w (EB ts i) o c:=by obtain⟨ys,b,k⟩:=h.stp;obtain⟨n,a,e,_,_,m⟩:=J7 b;obtain⟨g,rfl,_⟩:=m Aa;obtain⟨o,c,d,f⟩:=k.get i (by rw[PU];exact j);rw[WS ts i j]at d f;have:=b.cells (g:=g) (by rw[e];rfl) _ _ d;rw[E4,Dv]at this;exact⟨g,a,o,c,e,this,f.any⟩
theorem WU(h:Dl F w M vl vs l ts big)(n:Int):As E 35 #[A6 (J ⟨M,0,G⟩),U O n] w λe w'=>e=Az (.bool (CW ts n))/\w'=w:=by
 obtain⟨d,b,rfl,_⟩:=h.len;have f:w.cell? ⟨M,1,G⟩=J (R d ts.length b):=AO 1 h.hdr;have c:CW ts n=(decide (0<=n)&&decide (n<ts.length)):=by unfold CW;simp
 rw[c];by_cases a:0<=n;{rw[Ef a];go_enter func35,ntmps35;go_wp2;go_ret;exact⟨Ap,rfl⟩};. rw[Eg a];go_enter func35,ntmps35;go_wp2;go_ret;exact⟨Ap,rfl⟩
theorem AjD(h:Dl F w M vl vs l ts big):As E 10 #[A6 (J ⟨M,0,G⟩)] w λe w'=>e=Az (.bool big)/\w'=w:=by have a:w.cell? ⟨M,3,G⟩=J (.bool big):=AO 3 h.hdr;go_enter func10,ntmps10;go_wp2;go_ret;exact⟨rfl,rfl⟩
end
def AP(a b:Tr)(w:Z)(B g:Nat):Prop:=∃c e d f j i K,H4 w B (AJ a) (AJ b) c e d f j i g K/\Ep w g K (AJ a) (AJ b)
theorem AP.pr{a b:Tr}{w w':Z}{B g:Nat}(h:AP a b w B g)(c:Pr w w'):AP a b w' B g:=by obtain⟨_,_,_,_,_,_,_,d,e⟩:=h;exact⟨_,_,_,_,_,_,_,d.pr c,e.pr c⟩
theorem AP.new{l m:ByteArray}{d c:List Tr}(j f k i)(w:Z)(t:A9 AH w d j f)(s:A9 AH w c k i)(ha:(H l d).sz<=14)(hb:(H m c).sz<=14):As E 39 #[.agg #[V l,R j d.length f],.agg #[V m,R k c.length i]] w λe w'=>∃B g,e=Az (A6 (J ⟨B,0,G⟩))/\AP (H l d) (H m c) w' B g/\Pr w w'/\w.heap.size<=g:=(Akf l d j f m c k i w t s (by rw[Cy];omega) (by rw[Cy];omega)).mono λ_ _⟨B,u,x,v,y,A,z,g,K,n,o,p,q,r⟩=>⟨B,g,n,⟨_,_,_,_,_,_,K,o,p⟩,q,r⟩
theorem AP.off{a b:Tr}{w w':Z}{B g M:Nat}{t:ByteArray}{L F v N I x}{u:Bool}(h:AP a b w B g)(p:Gw w M t (R L F v) (R N I x) u)(A:g≠M)(e:AE (λk=>k=M) w w'):AP a b w' B g:=by
 obtain⟨S,W,T,X,yo,Y,K,c,m,C,y⟩:=h;have r:∀(b o:Nat)(s:ByteArray)(z:Int),w.cell? ⟨b,o,G⟩=J (V s)->w.cell? ⟨b,o+1,G⟩=J (U O z)->b≠M:=by rintro b o s z d j rfl;rw[AX p]at d j;match o,d,j with|0,_,j=>simp at j|1,d,_=>simp at d|2,d,_=>simp at d|3,d,_=>simp at d|o+4,d,_=>simp at d
 have P:=a.sz_pos;have Q:=b.sz_pos;have j:=c.nx 0 (by rw[Cy];exact P);have q:=c.ny 0 (by rw[Cy];exact Q);have l:=r _ _ _ _ j.1 j.2.1;have n:=r _ _ _ _ q.1 q.2.1;exact⟨S,W,T,X,yo,Y,K,⟨e.blk c.blk (by rintro rfl;have:=c.blk;rw[p]at this;simp at this),λi f=>⟨e.cell (c.nx i f).1 l,e.cell (c.nx i f).2.1 l,e.cell (c.nx i f).2.2 l⟩,λi f=>⟨e.cell (c.ny i f).1 n,e.cell (c.ny i f).2.1 n,e.cell (c.ny i f).2.2 n⟩,c.big,c.ne⟩,m,e.blk C A,y⟩
section
variable{a b:Tr}{w:Z}{B g:Nat}(h:AP a b w B g)(ha:a.sz<=14)(hb:b.sz<=14)
include h ha hb
theorem AP.best:As E 43 #[A6 (J ⟨B,0,G⟩)] w λe w'=>∃d c,e=Az (R d (zp (Ew a b)).length c)/\Fm AH w' (zp (Ew a b)) d c/\AE (λk=>k=g) w w':=by obtain⟨_,_,_,_,_,_,_,f,i⟩:=h;have n:=a.sz_pos;have o:=b.sz_pos;refine(Akj f i (Jr _) (Jr _) (by rw[Cy];omega) (by rw[Cy];omega) (by rw[Cy];omega) (by rw[Cy];omega)).mono ?_;rw[Cy,Cy];rintro e w'⟨v,rfl,l,j,_⟩;obtain⟨d,c,rfl,m⟩:=l.prs;exact⟨d,c,rfl,m.any,j⟩
theorem Akk:As E 40 #[A6 (J ⟨B,0,G⟩)] w λe w'=>e=Az (U O (JS a b:Nat))/\AP a b w' B g/\AE (λk=>k=g) w w':=by obtain⟨_,_,_,_,_,_,_,c,f⟩:=h;have j:=a.sz_pos;have n:=b.sz_pos;refine(Akh c f (Jr _) (Jr _) (by rw[Cy];omega) (by rw[Cy];omega) (by rw[Cy];omega) (by rw[Cy];omega)).mono ?_;rintro e w'⟨rfl,d,i⟩;refine⟨?_,⟨_,_,_,_,_,_,_,c.chg d,i⟩,d⟩;cases a with|node l p=>cases b with|node m o=>rw[ZZ,Cy,Cy,P9,P9];rfl
end
mutual
def Jh:Mk->Tr|.node s ms=>.node (Gx s) (Ji ms)
def Ji:List Mk->List Tr|[]=>[]|m::ms=>Jh m::Ji ms
end
theorem M6(s:Int)(a:List Mk):Jh (.node s a)=.node (Gx s) (Ji a):=by rw[Jh]
theorem Qf:∀a:List Mk,Ji a=a.map Jh|[]=>rfl|m::a=>by rw[Ji,Jz,Qf a]
theorem U1(a:List Mk):(Ji a).length=a.length:=by rw[Qf,DJ]
mutual
theorem XY:∀m:Mk,(Jh m).sz=(CJ m).length|.node s ms=>by rw[M6,Bv,LR,Be,AdC ms];rfl
theorem AdC:∀ms:List Mk,Av (Ji ms)=(Df ms).length|[]=>by rw[Ji,Df];rfl|m::ms=>by rw[Ji,Df,DL,Be,XY m,AdC ms]
end
mutual
theorem AdD(f:Nat->ByteArray):∀(t:Tr)(m:Mk)(p:Nat),Iy t m->(∀i(h:i<(CJ m).length),f (p+i)=Gx (CJ m)[i])->Di f p t=Jh m|.node l ks,.node s ms,p,hf,h=>by have hl:=GC.list (Iy.node.1 hf);rw[LR]at h;have hr:=h (Df ms).length Ap;rw[KD AQ]at hr;simp only[Qn,Fb]at hr;rw[Ie,M6,<-hl,hr,AdE f ks ms p (Iy.node.1 hf) (λi hi=>by have:=h i A4;rw[Im hi]at this;exact this)]
theorem AdE(f:Nat->ByteArray):∀(ks:List Tr)(ms:List Mk)(p:Nat),GC ks ms->(∀i(h:i<(Df ms).length),f (p+i)=Gx (Df ms)[i])->Ca f p ks=Ji ms|[],[],p,_,_=>by rw[Ca,Ji]|k::ks,m::ms,p,hf,h=>by have hs:=Iy.list hf.1;rw[Df]at h;rw[Ca,Ji,AdD f k m p hf.1 (λi hi=>by have:=h i Ma;rw[Im hi]at this;exact this),AdE f ks ms (p+k.sz) hf.2 (λi hi=>by have:=h ((CJ m).length+i) Ma;rw[KD (Nat.le_add_right _ _)]at this;rw[Lr,<-hs,this];simp)]
end
theorem Al8{m:Mk}(h:Iy t m):Di (H6 (CJ m)) 0 t=Jh m:=AdD _ t m 0 h (λi a=>by unfold H6;rw[Dv,Pk,Em a];rfl)
theorem AdF(b:0<=k)(c:k<o.length):DY (Ji o) k=Jh (Ig o k):=by obtain⟨n,rfl⟩:=Er b;have a:n<o.length:=Aa;rw[JN _ n (by rw[U1];exact a)];simp[Qf,Ig,a]
theorem Al9(m:Mk):(Jh m).kids=Ji m.kids:=by cases m with|node s a=>rw[M6];rfl
theorem AdG(d:AL)(q:List Int)(f:Int)(b:d.kind≠1)(n:1<=d.kind/\d.kind<=3)(r:0<=d.pos)(o:0<=d.many):∀(p:List Int)(m:Mk),LS d p m->Cv ⟨d.kind,q,d.pos,d.many,Gx f⟩ p (Jh m)=(Jh (FU d f p m),0)|[],.node s e,h=>by obtain⟨_,l,c⟩:=h;have i:d.kind=3:=Aa;obtain⟨_,_,t⟩:=c i;rw[M6];show Jn _ _ 0=_;rw[Ks,Aw b,Aw l,Aw (by rw[U1];show¬((e.length:Int)<d.pos\/(e.length:Int)-d.pos<d.many);omega)];simp only[FU];rw[A7 i,M6];simp[Qf,M6]|k::p,.node s e,h=>by obtain⟨_,_,⟨g,j⟩,c⟩:=h;rw[M6,KN];simp only[FU];by_cases a:d.kind=2/\p=[];{rw[A7 a,A7 a,Ks,Aw b,A7 a.1,Aw (by rw[U1];omega),AdF g j,Al9,M6];simp[Qf]};. rw[Aw a,Aw a,Aw (by rw[U1];omega),AdF g j,AdG d q f b n r o p _ (c a),M6];simp[Qf,List.map_set]
theorem AlA(a:List Mk)(k:Int)(b:0<=k)(d:k<a.length):a.set k.toNat (Ig a k)=a:=by
 obtain⟨n,rfl⟩:=Er b;have c:n<a.length:=Aa;have:Ig a (n:Int)=a[n]:=by simp[Ig,c]
 rw[this];simp
theorem AdH(d:AL)(b:Int)(e:d.kind=1):∀(p:List Int)(m:Mk),LS d p m->FU d b p m=m|[],.node s a,_=>by simp only[FU];rw[Aw Aa]|k::p,.node s a,h=>by obtain⟨_,_,⟨c,g⟩,f⟩:=h;simp only[FU];rw[Aw Aa,AdH d b e p _ (f Aa),AlA a k c g]
mutual
theorem AdI:∀(m:Mk)(p:Nat)(r:Int),(Dx p r (Jh m)).map (·.lab)=(CJ m).map Gx|.node s ms,p,r=>by rw[M6,Dx,J2,AdJ ms,LR,J2];rfl
theorem AdJ:∀(ms:List Mk)(p:Nat)(r:Int),(BM p r (Ji ms)).map (·.lab)=(Df ms).map Gx|[],p,r=>by rw[Ji,BM,Df];rfl|m::ms,p,r=>by rw[Ji,BM,J2,AdI m,AdJ ms,Df,J2]
end
def K8(P:Int->Prop)(m:Mk):Prop:=∀x∈CJ m,P x
theorem OZ{P:Int->Prop}{s:Int}:K8 P (.node s o)↔P s/\∀k∈o,K8 P k:=by
 have c:∀o:List Mk,(∀x∈Df o,P x)↔∀k∈o,K8 P k:=by intro o;induction o with|nil=>simp[Df]|cons m o d=>rw[Df];simp only[Fu,DN];constructor;{intro h k b;rcases b with rfl|b;{exactλx a=>h x (.inl a)};. exact d.1 (λx a=>h x (.inr a)) k b};. intro h x a;rcases a with a|a;{exact h m (.inl rfl) x a};. exact d.2 (λk b=>h k (.inr b)) x a
 unfold K8;rw[LR];simp only[Fu,Ia];constructor;{intro h;exact⟨h s (.inr rfl),(c o).1 λx a=>h x (.inl a)⟩};. rintro⟨e,f⟩x(a|rfl);{exact(c o).2 f x a};. exact e
theorem AdK{P:Int->Prop}(h:∀k∈o,K8 P k)(b:0<=k)(c:k<o.length):K8 P (Ig o k):=by
 obtain⟨n,rfl⟩:=Er b;have a:n<o.length:=Aa;have:Ig o (n:Int)=o[n]:=by simp[Ig,a]
 rw[this];exact h _ (BU a)
theorem AlB{P:Int->Prop}{m:Mk}(h:K8 P m):∀k∈m.kids,K8 P k:=by cases m with|node s a=>exact(OZ.1 h).2
theorem AdL{P:Int->Prop}(d:AL)(f:Int)(l:P f):∀(p:List Int)(m:Mk),LS d p m->K8 P m->K8 P (FU d f p m)|[],.node s r,_,h=>by simp only[FU];split;{obtain⟨e,b⟩:=OZ.1 h;refine OZ.2 ⟨e,λk c=>?_⟩;simp only[Dm,Fu,Ia]at c;rcases c with c|rfl|c;{exact b k (KF c)};{exact OZ.2 ⟨l,λk c=>b k (Sl (KF c))⟩};. exact b k (Sl c)};. exact h|k::p,.node s r,q,h=>by obtain⟨_,_,⟨g,i⟩,n⟩:=q;obtain⟨e,b⟩:=OZ.1 h;simp only[FU];split;{refine OZ.2 ⟨e,λj a=>?_⟩;simp only[Dm,Fu]at a;rcases a with a|a|a;{exact b j (KF a)};{exact AlB (AdK b g i) j a};. exact b j (Sl a)};. rename_i o;refine OZ.2 ⟨e,λj a=>?_⟩;rcases An9 a with a|rfl;{exact b j a};. exact AdL d f l p _ (n o) (AdK b g i)
theorem AdM{P:Int->Prop}(a:Int)(b:P a):∀(ds:List AL)(m:Mk),(∀(j:Nat)(h:j<ds.length),LS ds[j] ds[j].path (FV a (ds.take j) m))->K8 P m->K8 P (FV a ds m)|[],m,_,h=>h|d::ds,m,c,h=>by refine AdM a b ds _ (λj e=>?_) (AdL d a b d.path m (c 0 Ap) h);have:=c (j+1) (AB e);simpa[FV]using this
mutual
theorem AdN(s:Int):∀t:Tr,CJ (Na s t)=UU t.sz s|.node l ks=>by rw[Na,LR,AdO s ks,Bv,List.replicate_succ']
theorem AdO(s:Int):∀ks:List Tr,Df (EJ s ks)=UU (Av ks) s|[]=>by rw[EJ,Df];rfl|k::ks=>by rw[EJ,Df,AdN s k,AdO s ks,DL,List.replicate_append_replicate]
end
theorem AdP:∀{l:List AL}{i:Nat}{t:Tr}{r:Tr×List AL},CI i t l=.ok r->∀d∈l,CX d=0|[],i,t,r,_=>Ap|d::l,i,t,r,h=>by by_cases a:(BJ t d).2.2=0;{cases c:CI (i+1) (BJ t d).1 l with|error e=>rw[Kx a c]at h;cases h|ok y=>intro e b;rcases DN.1 b with rfl|b;{exact(KO.1 a).2.1};. exact AdP c e b};. rw[KW a]at h;cases h
theorem AlC(b:Int){ds:List AL}{m:Mk}{r:Tr×List AL}(g:AM t=0)(h:CI 0 t ds=.ok r)(d:Iy t m)(j:Nat):∃c,AM c=0/\Iy c (FV b (ds.take j) m):=by have f:=(KB j ds).symm;rw[f,P6]at h;cases a:CI 0 t (ds.take j)with|error e=>rw[a]at h;cases h|ok y=>exact⟨y.1,Vx a g,(Rb b _ t m 0 y.1 y.2 a d).1⟩
theorem AlD{v:Int}(a:0<=v)(b:v<1000):Lib.atoiAll (Gx v).data.toList=.ok v:=by obtain⟨n,rfl⟩:=Er a;have:=Zh ⟨n,Aa⟩;show Lib.atoiAll (Lib.itoa (n:Int))=_;unfold Lib.itoa;rw[Aw Aa];simpa using this
def AdQ(w:Z)(xs:List Int)(e:Ending)(w':Z):Prop:=∃o c,e=Az (R o xs.length c)/\Bm (Ba w.heap.size) w' xs o c/\Pr w w'
theorem AlE(l:ByteArray)(b:List Tr)(T B)(m:Mk)(xs:List Int)(ae:xs=CJ m)(sa sc)(ds:List AL)(da dc)(a:Int)(r:Tr×List AL)(w:Z)(_:l.size<=AV)(ft:AM (.node l b)=0)(hk:A9 AH w b T B)(hf:Iy (.node l b) m)(hx:Bm AH w xs sa sc)(az:∀x∈xs,0<=x/\x<=900)(K:Co AH w ds da dc)(ch:0<=a)(ci:a<=900)(a8:CI 0 (.node l b) ds=.ok r)(aq:Lt w):As E 87 #[.agg #[V l,R T b.length B],R sa xs.length sc,R da ds.length dc,U O a] w (AdQ w (CJ (FV a ds m))):=by
 have ct:=(Dd.1 ft).1;rw[Bv]at ct;have cu:xs.length=Av b+1:=by rw[ae,Iy.list hf,Bv]
 have d9:=K.len;obtain⟨db,bn⟩:=Rb a ds _ m 0 r.1 r.2 a8 hf;have b5:=(AdP a8);have b7:=λj=>AlC a ft a8 hf j;have bd:K8 (λx=>0<=x/\x<=900) m:=λx h=>az x (by rw[ae];exact h);have bs:=Ag (AdM a ⟨ch,ci⟩ ds m bn bd);have au:Di (H6 xs) 0 (.node l b)=Jh m:=by rw[ae];exact Al8 hf
 rw[Ie]at au;obtain⟨W,F⟩:=Au (w.alloc (Ao #[V l,R T b.length B] 53));have Q:=Cp F;have d6:=FJ F;have x0:W.cell? ⟨w.heap.size,0,G⟩=J (V l):=by rw[F];simp[go_sem]
 have x1:W.cell? ⟨w.heap.size,1,G⟩=J (R T b.length B):=by rw[F];simp[go_sem]
 obtain⟨sM,ac⟩:=Au (H6 xs (0+Av b));obtain⟨LM,ai⟩:=Au (Ca (H6 xs) 0 b);obtain⟨nM,bl⟩:=Au (((0+Av b+1:Nat):Int):Int);have b0:∀x∈xs,0<=x/\x<=1000000:=λx h=>A8 (az x h);have cs:sM.size<=AV:=by rw[ac];exact AdB b0 _
 have bv:Hid (Jh m=.node sM LM):=Ag (by rw[<-au,ac,ai]);have M0:As E 132 #[.agg #[V l,R T b.length B],R sa xs.length sc,U O 0] W (U0 xs W 0 b):=Al7 xs b0 sa sc _ l b T B 0 W (Cw _) Aa (hk.pr Q) (aq.pr Q) (Bj Q hx) Aa;unfold U0 at M0;rw[<-ac,<-ai,<-bl]at M0;have HD:=(K.pr Q);have bu:=(aq.pr Q);clear ac ai bl K aq au bd a8 hf hk hx az b0 ae cu ft;go_enter func87,ntmps87;go_upto_region 1 with fail;rw[<-F];clear F;go_upto_region 2 with(go_fit M0;rintro e f⟨oM,cM,rfl,bj,aj⟩);obtain⟨ah,X⟩:=Au (f.alloc (Ao #[V sM,R oM LM.length cM] 53));have aw:=Cp X;have d5:=FJ X;have c3:=CQ X;rw[<-X];have de:=Bz aj;obtain⟨A,hZ⟩:=Au (λj=>W.heap.size<=j/\j≠f.heap.size:Nat->Prop);have c4:∀j,A j->j≠f.heap.size:=λj h=>by rw[hZ]at h;exact h.2
 have c5:∀j,ah.heap.size<=j->A j:=λj h=>by rw[hZ];exact⟨Aa,Aa⟩
 have bb:=aj.trans aw;have cc:A9 A ah LM oM cM:=(bj.mono (λj(s:W.heap.size<=j)N=>by rw[hZ];exact⟨s,Aa⟩)).pr aw;have b6:=Ag ((HD.mono (S':=λj=>j<W.heap.size) (λj _ h=>h)).pr bb);clear hZ bj aj aw X x0 x1;go_wp2;go_loopw[11](λb3 wr=>∃(i:Nat)(n:ByteArray)(c:List Tr)(z:Option Addr)(y:Nat),i<=ds.length/\b3=U O i/\wr.heap[f.heap.size]?=J (Ao #[V n,R z c.length y] 53 (0,0))/\n.size<=AV/\Jh (FV a (ds.take i) m)=.node n c/\A9 A wr c z y/\AE (λk=>k=f.heap.size) ah wr)(λb3 _=>ds.length-(intOf b3).toNat);{exact⟨0,sM,LM,oM,cM,Aa,rfl,c3,cs,by rw[Eh];exact bv.out,cc,Cf _ _⟩};. obtain⟨i,n,c,z,y,hi,rfl,hM,bk,P,ao,hc⟩:=hrel;have d7:=hc.size;(have dl:Av c<=100000:=by obtain⟨tj,h1,h2⟩:=b7 i;have h3:=XY (FV a (ds.take i) m);rw[Iy.list h2,P,Bv]at h3;have:=(Dd.1 h1).1;omega);have bc:=((bb.chg (λk=>k=f.heap.size)).trans hc (λ_ h=>.inl h)).to_pr (λk hk=>Aa);by_cases v:i<ds.length;{have b9:=b6.out.carry (λj(s:j<W.heap.size)N=>⟨hc.block j N Aa,s⟩);obtain⟨bz,o9,pa,pc,C,k0,k1,k2,k3,k4,bo,cg⟩:=b9.get i v;subst C;obtain⟨⟨d1,d3⟩,_,d2,dp,dm,b8,_⟩:=G5.1 (b5 _ (BU v));have av:=bn i v;(have ay:FV a (ds.take (i+1)) m=FU ds[i] a ds[i].path (FV a (ds.take i) m):=by rw[Ct v,Wv]);obtain⟨d,K⟩:=Au (ds[i]);rw[<-K]at k0 k1 k2 k3 k4 bo cg d1 d3 d2 dp dm b8 av ay;clear b9 K;go_upto_region 6 with fail;obtain⟨V1,Y⟩:=Au (wr.alloc (Ao #[U O d.kind,R pa d.path.length pc,U O d.pos,U O d.many,V d.lab] 80));have a3:=Cp Y;have d4:=FJ Y;have bg:=CQ Y;rw[<-Y];clear Y k0 k1 k2 k3 k4;have g0:=AO 0 bg;by_cases a1:d.kind=1;{have cn:=AdH d a a1 d.path _ av;(have e1:((d.kind:Int)==1)=true:=by simp[a1]);clear a1;go_wp2;refine⟨⟨i+1,n,c,z,y,Aa,AW,a3.blk hM,bk,by rw[ay,cn];exact P,ao.pr a3,hc.pr a3⟩,?_⟩;simp[intOf];omega};. (have e1:((d.kind:Int)==1)=false:=by simp;exact a1);have I1:=Ag (Uk a Aa Aa V1 ((bu.pr bc).pr a3));go_upto_region 8 with(go_fit I1.out;rintro e t⟨rfl,I⟩;have a7:=I.blk bg;have g4:=AO 4 a7;have f4:=AF (o:=4) a7);obtain⟨nb,a9⟩:=Au (Gx a);(have ck:nb.size<=AV:=by rw[a9];exact WV Aa Aa);rw[<-a9];obtain⟨u,a0⟩:=Au (t.setCell ⟨wr.heap.size,4,G⟩ (V nb));(have c8:AE (λk=>k=wr.heap.size) t u:=by rw[a0];exact Ce (Cf (λk=>k=wr.heap.size) t) _ _ (.inl rfl));(have bf:u.heap[wr.heap.size]?=J (Ao #[U O d.kind,R pa d.path.length pc,U O d.pos,U O d.many,V nb] 80 (0,0)):=by rw[a0];exact Bf (o:=4) a7 _);have cr:=a3.trans I;(have ab:Pr wr u:=by rw[a0];exact cr.setCell Ap _);rw[<-a0];clear a0 g0 g4 f4 a7;have ba:=ab.blk hM;obtain⟨y0,y1⟩:=Bq ba;obtain⟨j0,j1,j2,j3,j4⟩:=Cd bf;have df:=c8.size;have dg:=Bz I;obtain⟨S,hS⟩:=Au (λj=>A j/\j<u.heap.size:Nat->Prop);have am:=AdG d d.path a a1 ⟨d1,d3⟩ dp dm d.path _ av;rw[P,<-a9]at am;have RD:Hid (As E 78 #[.agg #[V n,R z c.length y],.agg #[U O d.kind,R pa d.path.length pc,U O d.pos,U O d.many,V nb],R pa d.path.length pc] u (JY S (Jh (FU d a d.path (FV a (ds.take i) m)),0) u)):=Ag (by rw[<-am];exact Xd d.kind d.path d.pos d.many nb pa d.path.length pc d1 d3 dp dm ck d.path b8 (λe=>(d2 e).2) S n c z y pa pc u bk Aa (by rw[hS];exact(ao.pr ab).mono (λj s N=>⟨s,N⟩)) (DQ (Bj ab bo)));clear bf am a9;go_upto_region 4 with(go_fit RD.out;rintro e w3⟨ag,af,b2,b1,bp,cd,rfl,bi,be⟩;have a4:=Ag (be.blk ba);have f0:=AF (o:=0) a4.out;have f1:=AF (o:=1) a4.out;obtain⟨g0,g1⟩:=Bq a4.out);obtain⟨V3,a6⟩:=Au ((w3.setCell ⟨f.heap.size,0,G⟩ (V ag)).setCell ⟨f.heap.size,1,G⟩ (R b2 af.length b1));(have al:AE (λk=>k=f.heap.size) w3 V3:=by rw[a6];exact Ce (Ce (Cf (λk=>k=f.heap.size) w3) _ _ (.inl rfl)) _ _ (.inl rfl));(have c2:V3.heap[f.heap.size]?=J (Ao #[V ag,R b2 af.length b1] 53 (0,0)):=by rw[a6];exact Bf (o:=1) (Bf (o:=0) a4.out _) _);rw[<-a6];have cb:=bi.carry (λj s N=>by(have h:A j:=by rcases s with h|h;{rw[hS]at h;exact h.1};. exact c5 j Aa);exact⟨al.block j N (c4 j h),h⟩);have c1:=((hc.pr ab).pr be).trans al (λ_ h=>.inl h);(have cq:Jh (FV a (ds.take (i+1)) m)=.node ag af:=by rw[ay];exact bp);clear a6 f0 f1 g0 g1 al bi bp;go_wp2;refine⟨⟨i+1,ag,af,b2,b1,Aa,AW,c2,cd,cq,cb,c1⟩,?_⟩;simp[intOf];omega};. have an:i=ds.length:=Aa;subst an;rw[Cc]at P;obtain⟨M,a5⟩:=Au (FV a ds m);rw[<-a5]at P;(have c6:∀x∈CJ M,0<=x/\x<=900:=by rw[a5];exact bs.out);have ad:=XY M;have ap:=AdI M 0 (-1);rw[P]at ad ap;obtain⟨p,a2⟩:=Au (AJ (.node n c));(have cl:p.length=(CJ M).length:=by rw[a2,Cy,ad]);(have ce:∀(j:Nat)(h:j<p.length)(h2:j<(CJ M).length),p[j].lab=Gx (CJ M)[j]:=λj h h2=>by(have e:(p.map (·.lab))[j]?=((CJ M).map Gx)[j]?:=by rw[a2];exact Bp (λq=>q[j]?) ap);rw[RV,RV,Em h,Em h2]at e;simpa using e);have NO:=(SJ n c z y wr Aa ao.any);rw[<-a2,show(H n c).sz=p.length by rw[a2,Cy]]at NO;obtain⟨bw,bx⟩:=Bq hM;(have d0:(CJ M).length<=1000001:=by rw[<-ad,Bv];omega);have bt:Hid (CJ (FV a ds m)=CJ M):=Ag (by rw[a5]);generalize CJ M=L at*;have cp:=Q.trans bc;clear ad ap a5 a2 HD b6 b5 b7;go_upto_region 10 with(go_fit NO;rintro e t⟨g,cy,rfl,bm,I⟩);obtain⟨og,cz,C,cj⟩:=bm.nds;simp only[KE]at C;obtain⟨rfl,_,rfl⟩:=C;have dj:=Bz I;clear bm bw bx NO;go_wp2;go_loopw[14,15](λcv b4 wz=>∃i:Nat,i<=p.length/\b4=U O i/\C9 t.heap.size wz cv (L.take i)/\Pr t wz)(λ_ b4 _=>p.length-(intOf b4).toNat);{exact⟨0,Aa,rfl,by rw[Eh];exact GJ _ _,AA⟩};. obtain⟨i,dd,rfl,aa,hb⟩:=hrel;have cm:=cl;have di:=Bz hb;by_cases v:i<p.length;{have ar:i<L.length:=Aa;obtain⟨bz,o9,C,c0,_,_⟩:=(cj.pr hb).get i v;cases C;rw[ce i v ar,Dv]at c0;have br:=c6 _ (BU ar);have bq:=Ct ar;obtain⟨x,hx⟩:=Au (L[i]);rw[<-hx]at c0 br bq;obtain⟨sb,ax⟩:=Au (Gx x);have AT:Hid (As E 33 #[V sb] wr λe w'=>e=Az (.tuple #[U O x,.nilIface])/\Pr wr w'):=Ag (by rw[ax];have dk:(Gx x).size<=21:=GL x Aa Aa;exact Pw (Gx x) Aa x (AlD br.1 Aa) wr);rw[<-ax]at c0;have cf:(L.take i).length<=1000000000:=Kp;generalize L.take i=cw at*;clear ax hx cm;go_upto_region 15 with(go_fit AT.out;rintro e w4⟨rfl,ak⟩);have dh:=Bz ak;go_wp2_with(at_builtin;go_must(refine JR rfl _ _ rfl t.heap.size _ _ rfl ((aa.pr ak).pr Ar) w4.heap.size rfl _ (AU w4 _) cf A4 ?_);intro g4 cx w5 co c9 d8);refine⟨⟨i+1,Aa,AW,by rw[bq];exact co,Dz ((hb.trans ak).alloc' _) c9 A4 (λk hk=>(aa.block k hk).1)⟩,?_⟩;simp[intOf];omega};. have bh:L.take i=L:=Nt Aa;rw[bh]at aa;obtain⟨o7,c7,rfl,ca⟩:=aa.ints;have an:i=p.length:=Aa;subst an;clear bh;go_wp2;go_ret;rw[bt.out];exact⟨o7,c7,rfl,ca.mono (λj(s:t.heap.size<=j)_=>show w.heap.size<=j from Aa),(cp.trans I).trans hb⟩
end Go.Proofs.YtdbnfhpgmcjngaaGreatDoor
