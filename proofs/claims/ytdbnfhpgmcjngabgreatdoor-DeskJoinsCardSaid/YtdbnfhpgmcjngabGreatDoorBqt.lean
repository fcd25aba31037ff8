/- Small lemmas on trees in memory and on great trees. -/
import Derived.Test.YtdbnfhpgmcjngabGreatDoorBwe
import Derived.ArgAppend
import Derived.Test.YtdbnfhpgmcjngabGreatDoorBma
import Derived.StillTail
import Derived.Deep.Quiet
import Derived.Deep.QuietTactic
import Derived.BigQuiet
namespace Go.Proofs.YtdbnfhpgmcjngabGreatDoor
open Go Go.RowKit
theorem stays {W0:World} {b o:Nat} {v:Value} (h:W0.cell? ⟨b,o,none⟩=some v):∀ W,Pr W0 W→W.cell? ⟨b,o,none⟩=some v:=fun _ hp=>hp.cell h
theorem KidsAt.cons {S:Nat→Prop} {w:World} {l:ByteArray} {ks ts:List Tr} {oa:Option Addr} {cap b o:Nat} (h0:w.cell? ⟨b,o,none⟩=some (.string l)) (h1:w.cell? ⟨b,o+1,none⟩=some (.slice oa ks.length cap)) (hl:l.size≤maxLen)
    (hk:Kids S w ks oa cap) (ht:KidsAt S w ts b (o+2)):KidsAt S w (.node l ks :: ts) b o:=⟨_,_,h0,h1,treeV_mk cap hl hk,ht⟩
theorem Kids.mk {S:Nat→Prop} {w:World} {ts:List Tr} {b o cap:Nat} (hc:ts.length≤cap) (hm:cap≤maxLen) (hS:S b) (h:KidsAt S w ts b o):Kids S w ts (some ⟨b,o,none⟩) cap:=⟨⟨hc,hm⟩,b,o,fun _=>⟨rfl,hS⟩,h⟩
theorem Flat.mk {S:Nat→Prop} {w:World} {vs:List Value} {b o cap:Nat} (hc:vs.length≤cap) (hm:cap≤maxLen) (hS:S b) (h:∀ (i:Nat) (h:i < vs.length),w.cell? ⟨b,o+i,none⟩=some vs[i]):Flat S w vs (some ⟨b,o,none⟩) cap:=⟨⟨hc,hm⟩,b,o,fun _=>⟨rfl,hS⟩,h⟩
end Go.Proofs.YtdbnfhpgmcjngabGreatDoor
/- Append to a slice that is full: what comes of it lies in a block of its own. -/
namespace Go.Proofs.YtdbnfhpgmcjngabGreatDoor
open Go Go.RowKit
theorem grown_none {w w':World} (h:w.grownBy w' none):Pr w w':=⟨h.os,h.tape,h.output,h.size,fun k hk=>h.block k hk (by simp)⟩
section
variable {P:Program} {w:World}
theorem run_append_full (t ty e:TypeId) (i:TypeInfo) (z:Value) (size bytes:Nat) (ht:P.underlying t=some (.slice e)) (hi:P.info? e=some i) (hz:i.zero=some z)
    (hsize:i.size=size) (hby:i.bytes=bytes) (hzs:z.cells.size=size) (hsz:0 < size)
    (ao:Option Addr) (n:Nat) (olds:List Value) (hlo:olds.length=n * size) (holds:0 < n→∃ b,ao=some b∧∀ j u,olds[j]? = some u→w.cell? (b.add j)=some u)
    (ad:Addr) (m c:Nat) (news:List Value) (hl:news.length=m * size) (hnews:∀ j u,news[j]? = some u→w.cell? (ad.add j)=some u) (h1:∀ u∈news,u.oneCell'=true)
    (hm:0 < m) (h63:n+m≤maxLen) (hbytes:(n+m) * bytes≤140737488355328) :
    ∃ g cap w',(Builtin.append_ #[t,t] ty #[.slice ao n n,.slice (some ad) m c]).run P w=.ok (.slice (some ⟨g,0,none⟩) (n+m) cap) w' ∧
      w'.ownsRow w.heap.size e size (.slice (some ⟨g,0,none⟩) (n+m) cap) (n+m) (olds ++ news)∧Pr w w':=by
  cases ao with
  | some b =>
    obtain ⟨v',w',hr,ho,hg⟩:=run_append_arg_grows (P:=P) w t ty e i z size bytes ht hi hz hsize hby hzs hsz b n n olds hlo (by
      intro j u hu
      by_cases hn:0 < n
      · obtain ⟨b',hb',hc⟩:=holds hn
        cases hb';exact hc j u hu
      · obtain rfl:n=0:=by omega
        obtain rfl:olds=[]:=List.eq_nil_of_length_eq_zero (by simpa using hlo)
        simp at hu) ad m c news hl hnews (by omega) h63 hbytes
    obtain ⟨g,cap,rfl,_,_⟩:=ho.form (by omega)
    exact ⟨g,cap,w',hr,ho,grown_none hg⟩
  | none =>
    obtain rfl:n=0:=by
      by_cases hn:0 < n
      · obtain ⟨b,hb,_⟩:=holds hn;cases hb
      · omega
    obtain rfl:olds=[]:=List.eq_nil_of_length_eq_zero (by simpa using hlo)
    obtain ⟨g,cap,w',hr,ho,hg,_,_⟩:=run_append_lies (P:=P) w t ty w.heap.size e i z size bytes ht hi hz hsize hby hzs hsz (.slice none 0 0) 0 [] (World.ownsRow_nil w _ e size) ad m c news hl hnews h1 hm h63 hbytes (Nat.le_refl _) _ rfl
    exact ⟨g,cap,w',hr,ho,grown_none hg⟩
theorem step_append_full {ops:Array Oper} {o:Oper} {a:Act} {K:Act→World→Prop} {Q:Exit→Act→World→Prop} {E:Prop} (hgd:o.guard=none) (s x:Operand) (t:TypeId)
    (ho:o.op=.call { callee:=.builtin .append,args:=#[s,x],argTypes:=#[t,t] })
    (e:TypeId) (i:TypeInfo) (z:Value) (size bytes:Nat) (ht:P.underlying t=some (.slice e)) (hi:P.info? e=some i) (hz:i.zero=some z)
    (hsize:i.size=size) (hby:i.bytes=bytes) (hzs:z.cells.size=size) (hsz:0 < size)
    (ao:Option Addr) (n:Nat) (olds:List Value) (hs:a.eval s=.slice ao n n) (hlo:olds.length=n * size) (holds:0 < n→∃ b,ao=some b∧∀ j u,olds[j]? = some u→w.cell? (b.add j)=some u)
    (ad:Addr) (m c:Nat) (news:List Value) (hx:a.eval x=.slice (some ad) m c) (hl:news.length=m * size) (hnews:∀ j u,news[j]? = some u→w.cell? (ad.add j)=some u) (h1:∀ u∈news,u.oneCell'=true)
    (hm:0 < m) (h63:n+m≤maxLen) (hbytes:(n+m) * bytes≤140737488355328)
    (h:∀ g cap w',w'.ownsRow w.heap.size e size (.slice (some ⟨g,0,none⟩) (n+m) cap) (n+m) (olds ++ news)→Pr w w'→K (a.put o.dst (.slice (some ⟨g,0,none⟩) (n+m) cap)) w') :
    if Region.wanted o (yielded ops a.tmps)=true then Oper.wp P o a w K Q else E:=by
  have hw:Region.wanted o (yielded ops a.tmps)=true:=by simp [Region.wanted,hgd]
  rw [if_pos hw]
  obtain ⟨g,cap,w',hr,h2,h3⟩:=run_append_full (P:=P) t o.type e i z size bytes ht hi hz hsize hby hzs hsz ao n olds hlo holds ad m c news hl hnews h1 hm h63 hbytes
  unfold Oper.wp execOp
  simp only [ho,resolve,invoke,builtin,Sem.run_bind,Sem.run_pure,Result.andThen_ok,List.map_toArray,List.map_cons,List.map_nil,hs,hx,hr]
  exact h g cap w' h2 h3
theorem step_append_nil {ops:Array Oper} {o:Oper} {a:Act} {K:Act→World→Prop} {Q:Exit→Act→World→Prop} {E:Prop} (hgd:o.guard=none) (s x:Operand) (t:TypeId)
    (ho:o.op=.call { callee:=.builtin .append,args:=#[s,x],argTypes:=#[t,t] })
    (e:TypeId) (i:TypeInfo) (z:Value) (size bytes:Nat) (ht:P.underlying t=some (.slice e)) (hi:P.info? e=some i) (hz:i.zero=some z)
    (hsize:i.size=size) (hby:i.bytes=bytes) (hzs:z.cells.size=size) (hsz:0 < size) (hs:a.eval s=.slice none 0 0)
    (ao:Option Addr) (m c:Nat) (news:List Value) (hx:a.eval x=.slice ao m c) (hl:news.length=m * size) (hnews:0 < m→∃ ad,ao=some ad∧∀ j u,news[j]? = some u→w.cell? (ad.add j)=some u) (h1:∀ u∈news,u.oneCell'=true)
    (h63:m≤maxLen) (hbytes:m * bytes≤140737488355328)
    (h:∀ v' w',w'.ownsRow w.heap.size e size v' m news→Pr w w'→K (a.put o.dst v') w') :
    if Region.wanted o (yielded ops a.tmps)=true then Oper.wp P o a w K Q else E:=by
  by_cases hm:0 < m
  · obtain ⟨ad,rfl,hc⟩:=hnews hm
    refine step_append_full hgd s x t ho e i z size bytes ht hi hz hsize hby hzs hsz none 0 [] hs (by simp) (fun h=>absurd h (Nat.lt_irrefl 0)) ad m c news hx hl hc h1 hm (by omega) (by simpa using hbytes) ?_
    intro g cap w' h2 h3
    rw [Nat.zero_add,List.nil_append] at h2
    rw [Nat.zero_add]
    exact h _ w' h2 h3
  · obtain rfl:m=0:=by omega
    have hn0:news=[]:=List.eq_nil_of_length_eq_zero (by simpa using hl)
    subst hn0
    have hw:Region.wanted o (yielded ops a.tmps)=true:=by simp [Region.wanted,hgd]
    rw [if_pos hw]
    have hrun:=run_append_zero (P:=P) (w:=w) 0 t o.type e i size ht hi (.slice none 0 0) 0 [] (World.ownsRow_nil w _ e size) ao c
    unfold Oper.wp execOp
    simp only [ho,resolve,invoke,builtin,Sem.run_bind,Sem.run_pure,Result.andThen_ok,List.map_toArray,List.map_cons,List.map_nil,hs,hx,hrun]
    exact h _ w (World.ownsRow_nil w _ e size) (Pr.refl w)
end
theorem KidsAt.vals {S:Nat→Prop} {w:World}:∀ {ts:List Tr} {b o:Nat},KidsAt S w ts b o→∃ xs,Tvals S w ts xs∧∀ j u,xs[j]? = some u→w.cell? ⟨b,o+j,none⟩=some u
  | [],_,_,_=>⟨[],rfl,by simp⟩
  | k :: ks,b,o,⟨vl,vk,h1,h2,h3,h4⟩=>by
    obtain ⟨xs,hx,hc⟩:=h4.vals
    refine ⟨vl :: vk :: xs,⟨vl,vk,xs,rfl,h3,hx⟩,fun j u hu=>?_⟩
    match j with
    | 0=>simp at hu;subst hu;exact h1
    | 1=>simp at hu;subst hu;exact h2
    | j+2=>simp at hu;rw [show o+(j+2)=o+2+j by omega];exact hc j u hu
theorem Tvals.one {S:Nat→Prop} {w:World}:∀ {ts:List Tr} {xs},Tvals S w ts xs→∀ u∈xs,u.oneCell'=true
  | [],xs,h,u,hu=>by cases (show xs=[] from h);cases hu
  | t :: ts,xs,⟨vl,vk,ys,e,h1,h2⟩,u,hu=>by
    subst e
    simp only [List.mem_cons] at hu
    rcases hu with rfl | rfl | hu
    · exact h1.one.1
    · exact h1.one.2
    · exact Tvals.one h2 u hu
theorem Kids.vals {S:Nat→Prop} {w:World} {ts:List Tr} {oa:Option Addr} {cap:Nat} (h:Kids S w ts oa cap):∃ xs,Tvals S w ts xs∧(0 < ts.length→∃ ad,oa=some ad∧∀ j u,xs[j]? = some u→w.cell? (ad.add j)=some u):=by
  obtain ⟨_,b,o,h1,h2⟩:=h
  obtain ⟨xs,hx,hc⟩:=h2.vals
  refine ⟨xs,hx,fun hp=>⟨_,(h1 (by intro e;subst e;simp at hp)).1,fun j u hu=>?_⟩⟩
  rw [Addr.add_lit];exact hc j u hu
theorem Kids.cutL {S:Nat→Prop} {w:World} {ts:List Tr} {oa:Option Addr} {cap:Nat} (h:Kids S w ts oa cap) (n:Nat) (hn:n≤ts.length):Kids S w (ts.drop n) (Option.map (fun x=>x.add (n * 2)) oa) (cap - n):=by
  obtain ⟨⟨h1,h2⟩,b,o,h3,h4⟩:=h
  refine ⟨⟨by rw [List.length_drop];omega,by omega⟩,b,o+n * 2,fun hne=>?_,h4.drop n⟩
  have hne':ts≠[]:=by intro e;subst e;simp at hne
  rw [(h3 hne').1]
  exact ⟨by simp [Addr.add_lit],(h3 hne').2⟩
section
variable {ops:Array Oper} {o:Oper} {a:Act} {w:World} {Q:Exit→Act→World→Prop} {K:Act→World→Prop} {E:Prop}
end
end Go.Proofs.YtdbnfhpgmcjngabGreatDoor
/- A region that draws its order: operations that read, and calls that draw, in any order, and then a tail in one order. -/
namespace Go.Proofs.YtdbnfhpgmcjngabGreatDoor
open Go
section
variable {P:Program} {md:Region.Mode} {ops:Array Oper} {C:World→Prop}
def wpAnyQL (P:Program) (md:Region.Mode) (ops:Array Oper) (C:World→Prop) (n:Nat) (L:Array Bool→Act→Prop):Nat→Array Bool→Act→Prop
  | 0,listed,a=>L listed a
  | f+1,listed,a=>Region.ready md ops listed≠[]∧∀ i∈Region.ready md ops listed,i < n∧qOp P ops C i (wpAnyQL P md ops C n L f (listed.setIfInBounds i true)) a
theorem wpAny_of_headQ {n g:Nat} {L:Array Bool→Act→Prop} {Q':Exit→Act→World→Prop} (hL:∀ listed a w,C w→L listed a→wpAny P md ops Q' g listed a w) :
    ∀ (f:Nat) (listed:Array Bool) (a:Act) (w:World),C w→wpAnyQL P md ops C n L f listed a→wpAny P md ops Q' (f+g) listed a w
  | 0,listed,a,w,hw,h=>by rw [Nat.zero_add];exact hL _ _ _ hw h
  | f+1,listed,a,w,hw,h=>by
    rw [show f+1+g=(f+g)+1 by omega]
    exact ⟨fun h0=>absurd h0 h.1,fun i hi=>wpOp_of_qOp hw (fun a' w' hw' h'=>wpAny_of_headQ hL f _ a' w' hw' h') (h.2 i hi).2⟩
theorem wpAnyQL_first {I:Array Bool→Prop} {n i:Nat} {oi:Oper} {v:Value} {L:Array Bool→Act→Prop} (hi:ops[i]? = some oi) (hsel:∀ (j:Nat) (o:Oper) cs b,ops[j]? = some o→o.op≠.select cs b)
    (hI:∀ listed i,I listed→i∈Region.ready md ops listed→i < n→I (listed.setIfInBounds i true))
    (hW:∀ listed i,I listed→i < n→listed.getD i true=false→∀ t,n≤t→t ∉ Region.ready md ops listed) (hin:i < n)
    (hdone:∀ listed a,L listed a→∀ j∈Region.ready md ops listed,n≤j) :
    ∀ (f:Nat) (listed:Array Bool) (a:Act),I listed →
      (∀ j oj,ops[j]? = some oj→j≠i→listed.getD j true=false→(∀ e∈oj.after,Region.binds md e=true→e.on≠i)→oi.apart ops oj=true) →
      i∈Region.ready md ops listed→YieldsIn P ops C oi v a →
      wpAnyQL P md ops C n L f (listed.setIfInBounds i true) (a.put oi.dst v)→wpAnyQL P md ops C n L (f+1) listed a:=by
  intro f
  induction f with
  | zero =>
    intro listed a inv _ hr hy H
    have hun:=(mem_ready.1 hr).1
    refine ⟨fun h=>(by rw [h] at hr;cases hr),fun j hj=>?_⟩
    have hjn:j < n:=by
      rcases Nat.lt_or_ge j n with h | h
      · exact h
      · exact absurd hj (hW _ i inv hin hun j h)
    refine ⟨hjn,?_⟩
    by_cases hji:j=i
    · subst hji;exact hy.qOp hi H
    · have:=hdone _ _ H j (ready_mono hj hji)
      omega
  | succ f ih =>
    intro listed a inv hfree hr hy H
    have hun:=(mem_ready.1 hr).1
    refine ⟨fun h=>(by rw [h] at hr;cases hr),fun j hj=>?_⟩
    have hjn:j < n:=by
      rcases Nat.lt_or_ge j n with h | h
      · exact h
      · exact absurd hj (hW _ i inv hin hun j h)
    refine ⟨hjn,?_⟩
    by_cases hji:j=i
    · subst hji;exact hy.qOp hi H
    · have h1:=(H.2 j (ready_mono hj hji)).2
      obtain ⟨hjun,oj,hoj,hall⟩:=mem_ready.1 hj
      have hnot:∀ e∈oj.after,Region.binds md e=true→e.on≠i:=fun e he hb heq=>by
        have h1:=hall e he hb
        rw [heq,getD_both hun] at h1
        cases h1
      have h2:=qOp_put hoj (hfree j oj hoj hji hjun hnot) (fun cs b=>hsel i oi cs b hi) (fun cs b=>hsel j oj cs b hoj) hy h1
      have hfree':∀ k ok,ops[k]? = some ok→k≠i→(listed.setIfInBounds j true).getD k true=false →
          (∀ e∈ok.after,Region.binds md e=true→e.on≠i)→oi.apart ops ok=true:=fun k ok hk hki hun hno=>by
        refine hfree k ok hk hki ?_ hno
        by_cases hjk:j=k
        · subst hjk;exact hjun
        · rw [getD_set_ne true hjk] at hun;exact hun
      refine qOp_mono (fun a' h3=>ih (listed.setIfInBounds j true) a' (hI _ j inv hj hjn) hfree' (ready_mono hr (Ne.symm hji)) h3.1 ?_) h2
      rw [Array.setIfInBounds_comm _ _ hji]
      exact h3.2
theorem wpAnyQL_lex {I:Array Bool→Prop} {n g:Nat} {Lq:Act→Prop} (hsel:Region.noSelect ops=true) (hI:∀ listed i,I listed→i∈Region.ready md ops listed→i < n→I (listed.setIfInBounds i true))
    (hW:∀ listed i,I listed→i < n→listed.getD i true=false→∀ t,n≤t→t ∉ Region.ready md ops listed) :
    ∀ (l:List Oper) (k:Nat) (listed:Array Bool) (a:Act),(∀ j,j < l.length→l[j]? = ops[k+j]?)→k+l.length=n→I listed →
    Region.lexHead md ops g l.length k listed=true→wpQuiet P ops C Lq l a →
    wpAnyQL P md ops C n (fun listed' a'=>Region.seqB md ops g n listed'=true∧Lq a') l.length listed a
  | [],k,listed,a,_,hk,_,hB,h=>by
    have:k=n:=by simpa using hk
    subst this
    exact ⟨by simpa [Region.lexHead] using hB,h⟩
  | o :: l,k,listed,a,hl,hk,inv,hB,h=>by
    have h0:ops[k]? = some o:=by simpa using (hl 0 (by simp)).symm
    simp only [List.length_cons,Region.lexHead,Bool.and_eq_true] at hB
    obtain ⟨⟨hr,hf⟩,hB'⟩:=hB
    have hkn:k < n:=by simp only [List.length_cons] at hk;omega
    have hr':k∈Region.ready md ops listed:=by simpa using hr
    have hst:qOp P ops C k (wpQuiet P ops C Lq l) a:=by unfold qOp;simp only [h0];exact h
    obtain ⟨v,hy,hK⟩:=yieldsIn_of_qOp h0 hst
    exact wpAnyQL_first h0 (Region.noSelect_spec hsel) hI hW hkn (fun listed' a' hL=>seqB_ready hL.1) l.length listed a inv (Region.free_spec h0 hf) hr' hy
      (wpAnyQL_lex hsel hI hW l (k+1) _ _ (fun j hj=>by have:=hl (j+1) (by simp;omega);simpa [Nat.add_assoc,Nat.add_comm 1 j] using this) (by simp only [List.length_cons] at hk;omega) (hI _ k inv hr' hkn) hB' hK)
theorem wp_region_quiet_tail {id:Nat} {Q:Exit→Act→World→Prop} {a:Act} {w:World} {l:List Oper} (n:Nat) (hm:P.follows .mixedOrders=true) (hB:Region.lexTailB .any l.toArray n=true)
    (h:wpQuiet P l.toArray (fun w'=>∃ k,w'=w.drewN k) (fun a'=>∀ w',(∃ k,w'=w.drewN k)→wpList P l.toArray Q (l.drop n) a' w') (l.take n) a):(Code.region id l.toArray true).wp P Q a w:=by
  simp only [Region.lexTailB,Bool.and_eq_true,decide_eq_true_eq] at hB
  obtain ⟨⟨⟨⟨hsel,hn⟩,hs⟩,hc⟩,hlex⟩:=hB
  have hn':n < l.length:=by simpa using hn
  have htl:(l.take n).length=n:=by simp;omega
  have hdl:(l.drop n).length=l.toArray.size - n:=by simp
  have inv0:HeadInv .any l.toArray n (Array.replicate l.toArray.size false) :=
    ⟨by simp,fun j oj _ hl=>(by rw [getD_replicate_false] at hl;cases hl),fun t _ ht=>getD_in (by simpa using ht) (getD_replicate_false _ _)⟩
  have H:=wpAnyQL_lex (I:=HeadInv .any l.toArray n) (md:=.any) (g:=l.toArray.size - n) hsel (fun _ _ inv hi hin=>inv.set hi hin) (fun _ i inv hin hun t ht=>tail_waits hs hc hn inv _ i rfl hin hun t ht) (l.take n) 0 _ a (fun j hj=>by
    have hj':j < n:=by rw [htl] at hj;exact hj
    simp [hj']) (by simpa using htl) inv0 (by rw [htl];exact hlex) h
  refine wp_region_any hm ?_
  have:=wpAny_of_headQ (Q':=Q) (g:=l.toArray.size - n) (fun listed a' w' hw' hL=>by
    have:=wpAny_of_seq (md:=.any) (Q':=Q) (l.drop n) n listed a' w' (fun j=>by simp [List.getElem?_drop]) (by rw [hdl];exact hL.1) (hL.2 w' hw')
    rwa [hdl] at this) _ _ _ w.drew ⟨1,rfl⟩ H
  rw [htl,show n+(l.toArray.size - n)=l.toArray.size by omega] at this
  exact this
def sinkB1 (md:Region.Mode) (ops:Array Oper) (n:Nat):Bool :=
  (List.range n).all fun i=>i==0 || (List.range (n+1)).any fun j=>decide (i < j) && Region.waitsFor md ops j i
def lexTailB1 (ops:Array Oper) (n:Nat):Bool :=
  Region.noSelect ops && decide (n < ops.size∧0 < n) && sinkB1 .any ops n && Region.chainB .any ops n && Region.free .any ops (Array.replicate ops.size false) 0 && (Region.ready .any ops (Array.replicate ops.size false)).contains 0 &&
    Region.lexHead .any ops (ops.size - n) (n - 1) 1 ((Array.replicate ops.size false).setIfInBounds 0 true)
theorem tail_waits1 {n:Nat} (hs:sinkB1 md ops n=true) (hc:Region.chainB md ops n=true):∀ (d i:Nat) (listed:Array Bool),n - i=d→HeadInv md ops n listed→listed.getD 0 false=true→n < ops.size→i < n→listed.getD i true=false→∀ t,n≤t→t ∉ Region.ready md ops listed:=by
  intro d
  induction d using Nat.strongRecOn with
  | _ d ih =>
    intro i listed hd inv h0 hn hin hun t ht hr
    obtain ⟨_,ot,hot,hall⟩:=mem_ready.1 hr
    by_cases htn:t=n
    · have hi0:(i==0)=false:=by
        rw [beq_eq_false_iff_ne];rintro rfl
        rw [getD_both hun] at h0;cases h0
      have h1:=List.all_eq_true.1 hs i (List.mem_range.2 hin)
      rw [hi0,Bool.false_or] at h1
      obtain ⟨j,hj,hj2⟩:=List.any_eq_true.1 h1
      rw [Bool.and_eq_true,decide_eq_true_eq] at hj2
      have hjn:=List.mem_range.1 hj
      obtain ⟨oj,hoj,e,he,hb,hon⟩:=Region.waitsFor_spec hj2.2
      by_cases hjt:j=n
      · subst hjt;subst htn
        rw [hot] at hoj;cases hoj
        have:=hall e he hb
        rw [hon,getD_both hun] at this;cases this
      · cases hl:listed.getD j false with
        | true =>
          have:=inv.closed j oj hoj hl e he hb
          rw [hon,getD_both hun] at this;cases this
        | false=>exact ih (n - j) (by omega) j listed rfl inv h0 hn (by omega) (getD_in (by rw [inv.size];omega) hl) t ht hr
    · have hts:t < ops.size:=(Array.getElem?_eq_some_iff.1 hot).1
      have h1:=List.all_eq_true.1 hc t (List.mem_range.2 hts)
      rw [Bool.or_eq_true,decide_eq_true_eq] at h1
      rcases h1 with h1 | h1
      · omega
      · obtain ⟨o',ho',e,he,hb,hon⟩:=Region.waitsFor_spec h1
        rw [hot] at ho';cases ho'
        have:=hall e he hb
        rw [hon,getD_both (inv.tail (t - 1) (by omega) (by omega))] at this;cases this
theorem wp_region_move_tail {id:Nat} {Q:Exit→Act→World→Prop} {a:Act} {w:World} {o0:Oper} {l:List Oper} (n:Nat) (v:Value) (hm:P.follows .mixedOrders=true) (hB:lexTailB1 (o0 :: l).toArray n=true)
    (hQ:∀ c a w,Q (.panic c) (a.put o0.dst v) w→Q (.panic c) a w) (hg:o0.guard=none) (hy:∀ w,(execOp a.eval o0).run P w=.ok (.value v) w)
    (h:wpQuiet P (o0 :: l).toArray (fun w'=>∃ k,w'=w.drewN k) (fun a'=>∀ w',(∃ k,w'=w.drewN k)→wpList P (o0 :: l).toArray Q (l.drop (n - 1)) a' w') (l.take (n - 1)) (a.put o0.dst v)):(Code.region id (o0 :: l).toArray true).wp P Q a w:=by
  simp only [lexTailB1,Bool.and_eq_true,decide_eq_true_eq] at hB
  obtain ⟨⟨⟨⟨⟨⟨hsel,hn,hn0⟩,hs⟩,hc⟩,hfree⟩,hrdy⟩,hlex⟩:=hB
  have hn':n < l.length+1:=by simpa using hn
  have hsz:(o0 :: l).toArray.size=l.length+1:=by simp
  have htl:(l.take (n - 1)).length=n - 1:=by simp;omega
  have hdl:(l.drop (n - 1)).length=(o0 :: l).toArray.size - n:=by simp;omega
  have inv0:HeadInv .any (o0 :: l).toArray n (Array.replicate (o0 :: l).toArray.size false) :=
    ⟨by simp,fun j oj _ hl=>(by rw [getD_replicate_false] at hl;cases hl),fun t _ ht=>getD_in (by simpa using ht) (getD_replicate_false _ _)⟩
  have hr0:0∈Region.ready .any (o0 :: l).toArray (Array.replicate (o0 :: l).toArray.size false):=by simpa using hrdy
  have inv1:=inv0.set hr0 hn0
  have h01:((Array.replicate (o0 :: l).toArray.size false).setIfInBounds 0 true).getD 0 false=true:=by simp [Array.replicate_succ]
  have H:=wpAnyQL_lex (I:=fun listed=>HeadInv .any (o0 :: l).toArray n listed∧listed.getD 0 false=true) (md:=.any) (g:=(o0 :: l).toArray.size - n) hsel
    (fun listed i inv hi hin=>⟨inv.1.set hi hin,getD_set_true inv.2⟩) (fun listed i inv hin hun t ht=>tail_waits1 hs hc _ i listed rfl inv.1 inv.2 hn hin hun t ht) (l.take (n - 1)) 1 _ (a.put o0.dst v) (fun j hj=>by
    have hj':j < n - 1:=by rw [htl] at hj;exact hj
    rw [List.getElem?_take,if_pos hj',Nat.add_comm 1 j];simp) (by rw [htl];omega) ⟨inv1,h01⟩ (by rw [htl];exact hlex) h
  refine wp_region_any hm ?_
  have h2:=wpAny_of_headQ (Q':=Q) (g:=(o0 :: l).toArray.size - n) (fun listed a' w' hw' hL=>by
    have:=wpAny_of_seq (md:=.any) (Q':=Q) (l.drop (n - 1)) n listed a' w' (fun j=>by
      obtain ⟨m,rfl⟩:∃ m,n=m+1:=⟨n - 1,by omega⟩
      rw [List.getElem?_drop,show m+1+j=(m+j)+1 by omega];simp) (by rw [hdl];exact hL.1) (hL.2 w' hw')
    rwa [hdl] at this) _ _ _ w.drew ⟨1,rfl⟩ H
  rw [htl,show n - 1+((o0 :: l).toArray.size - n)=l.length by rw [hsz];omega] at h2
  rw [hsz]
  rw [hsz] at h2
  exact wpAny_take (i:=0) (oi:=o0) (v:=v) (by simp) hsel (by rw [← hsz];exact hfree) (by rw [← hsz];exact hrdy) hQ (.inl ⟨by simp [Region.wanted,hg],hy⟩) h2
end
end Go.Proofs.YtdbnfhpgmcjngabGreatDoor
