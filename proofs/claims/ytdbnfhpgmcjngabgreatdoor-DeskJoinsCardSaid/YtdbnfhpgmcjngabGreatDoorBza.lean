/- A book: what it is, plain and in memory; its length. -/
import Derived.Test.YtdbnfhpgmcjngabGreatDoorByf
import Derived.Deep.DeepCutAuto
namespace Go.Proofs.YtdbnfhpgmcjngabGreatDoor
open Go Go.RowKit
abbrev Stp:=List Dee × List Dee
def stepP (a b:Tr):Stp:=(diffP a b (bestT a b),(runT a (diffP a b (bestT a b))).2.1)
def stepsP:List Tr→List Stp
  | []=>[]
  | [_]=>[]
  | a :: b :: r=>stepP a b :: stepsP (b :: r)
def lastT (ts:List Tr):Tr:=ts.getLast?.getD Tr.zero
theorem stepsP_length:∀ ts:List Tr,ts≠[]→(stepsP ts).length+1=ts.length
  | [_],_=>rfl
  | a :: b :: r,_=>by
    have:=stepsP_length (b :: r) (by simp)
    simp only [stepsP,List.length_cons] at this ⊢;omega
theorem stepsP_snoc (t:Tr):∀ ts:List Tr,ts≠[]→stepsP (ts ++ [t])=stepsP ts ++ [stepP (lastT ts) t]
  | [a],_=>by simp [stepsP,lastT]
  | a :: b :: r,_=>by
    have:=stepsP_snoc t (b :: r) (by simp)
    have hl:lastT (a :: b :: r)=lastT (b :: r):=by simp [lastT]
    rw [hl]
    simp only [List.cons_append] at this ⊢
    rw [stepsP,this,stepsP];rfl
theorem lastT_snoc (ts:List Tr) (t:Tr):lastT (ts ++ [t])=t:=by simp [lastT]
theorem lastT_mem {ts:List Tr} (h:ts≠[]):lastT ts∈ts:=by
  unfold lastT
  rw [List.getLast?_eq_some_getLast h]
  exact List.getLast_mem h
theorem stepP_ok {a b:Tr} (ha:fault a=0) (hb:fault b=0):runT a (stepP a b).1=(b,(stepP a b).2,0,0)∧runT b (stepP a b).2=(a,(stepP a b).1,0,0)∧(stepP a b).1.length≤80∧(stepP a b).2.length=(stepP a b).1.length ∧
    (∀ d∈(stepP a b).1,d.path.length≤40)∧(∀ d∈(stepP a b).2,d.path.length≤40):=by
  obtain ⟨⟨back,hgo⟩,hlen⟩:=diff_ok ha hb
  have hc:=cost_few ha hb
  have hrun:=runT_ok ha (by omega) hgo
  have hbk:=runT_back (t:=a) (l:=diffP a b (bestT a b)) (by rw [hrun])
  have h2:(stepP a b).2=back:=by unfold stepP;rw [hrun]
  have h1:(stepP a b).1=diffP a b (bestT a b):=rfl
  rw [hrun] at hbk
  have hgo2:=runGo_back 0 hgo
  rw [h1,h2]
  exact ⟨hrun,hbk.1,by omega,hbk.2,runGo_paths hgo,runGo_paths hgo2⟩
def StV (S:Nat→Prop) (w:World) (x:Stp) (vs:List Value):Prop:=∃ o1 c1 o2 c2,vs=[.slice o1 x.1.length c1,.slice o2 x.2.length c2]∧Dees S w x.1 o1 c1∧Dees S w x.2 o2 c2
theorem StV.carry {S S':Nat→Prop} {w w':World} (hk:∀ k,S k→k < w.heap.size→w'.heap[k]? = w.heap[k]? ∧ S' k) {x:Stp} {vs} (h:StV S w x vs):StV S' w' x vs:=by
  obtain ⟨o1,c1,o2,c2,h1,h2,h3⟩:=h
  exact ⟨o1,c1,o2,c2,h1,h2.carry hk,h3.carry hk⟩
def Stvals (S:Nat→Prop) (w:World):List Stp→List Value→Prop
  | [],xs=>xs=[]
  | d :: ds,xs=>∃ vs ys,xs=vs ++ ys∧StV S w d vs∧Stvals S w ds ys
theorem Stvals.carry {S S':Nat→Prop} {w w':World} (hk:∀ k,S k→k < w.heap.size→w'.heap[k]? = w.heap[k]? ∧ S' k):∀ {ds:List Stp} {xs},Stvals S w ds xs→Stvals S' w' ds xs
  | [],_,h=>h
  | _ :: _,_,⟨vs,ys,h1,h2,h3⟩=>⟨vs,ys,h1,h2.carry hk,h3.carry hk⟩
theorem Stvals.append {S:Nat→Prop} {w:World} {us:List Stp} {zs:List Value} (h:Stvals S w us zs):∀ {ds:List Stp} {xs},Stvals S w ds xs→Stvals S w (ds ++ us) (xs ++ zs)
  | [],_,e=>by subst e;exact h
  | _ :: _,_,⟨vs,ys,h1,h2,h3⟩=>by subst h1;exact ⟨vs,ys ++ zs,by rw [List.append_assoc],h2,Stvals.append h h3⟩
theorem Stvals.get {S:Nat→Prop} {w:World}:∀ {ds:List Stp} {xs},Stvals S w ds xs→∀ (i:Nat) (h:i < ds.length),∃ o1 c1 o2 c2,xs[i * 2]? = some (.slice o1 ds[i].1.length c1)∧xs[i * 2+1]? = some (.slice o2 ds[i].2.length c2)∧Dees S w ds[i].1 o1 c1∧Dees S w ds[i].2 o2 c2
  | d :: ds,xs,⟨vs,ys,h1,⟨o1,c1,o2,c2,h2,h3,h4⟩,_⟩,0,h=>by
    subst h1;subst h2
    exact ⟨o1,c1,o2,c2,rfl,rfl,h3,h4⟩
  | d :: ds,xs,⟨vs,ys,h1,⟨o1,c1,o2,c2,h2,_,_⟩,h5⟩,i+1,h=>by
    subst h1;subst h2
    obtain ⟨p1,q1,p2,q2,g1,g2,g3,g4⟩:=h5.get i (by simpa using h)
    refine ⟨p1,q1,p2,q2,?_,?_,g3,g4⟩
    · rw [show (i+1) * 2=i * 2+2 by omega];simpa using g1
    · rw [show (i+1) * 2+1=i * 2+1+2 by omega];simpa using g2
theorem Stvals.length {S:Nat→Prop} {w:World}:∀ {ds:List Stp} {xs},Stvals S w ds xs→xs.length=ds.length * 2
  | [],_,e=>by subst e;rfl
  | _ :: _,_,⟨vs,ys,h1,⟨o1,c1,o2,c2,h2,_,_⟩,h3⟩=>by subst h1;subst h2;have:=h3.length;simp;omega
theorem under_steps:Tryz.prog.underlying 47=some (.slice 121):=by kernel_rfl
theorem info_step:(Tryz.prog.info? 121).map (fun i=>(i.zero,i.size,i.bytes))=some (some (.agg #[.slice none 0 0,.slice none 0 0]),2,48):=by kernel_rfl
def BS (X:Nat→Prop) (B:Nat) (v:Value) (k:Nat):Prop:=(k≠B∧v.ownBlock≠some k)∧¬ X k
structure BookOk (X:Nat→Prop) (w:World) (B:Nat) (v:Value) (ts:List Tr):Prop where
  blk:∃ l ks oa cap,w.heap[B]? = some (.cells #[.string l,.slice oa ks.length cap,v,.bool (!ts.isEmpty)] 49 (0,0))∧lastT ts=.node l ks∧l.size≤maxLen∧Kids (BS X B v) w ks oa cap
  row:∃ ys,w.ownsRow (B+1) 121 2 v (stepsP ts).length ys∧Stvals (BS X B v) w (stepsP ts) ys
  flt:∀ t∈ts,fault t=0
  few:ts.length≤30
  out:¬ X B∧∀ k,v.ownBlock=some k→¬ X k
abbrev NoX:Nat→Prop:=fun _=>False
section
variable {X:Nat→Prop}
theorem BookOk.pr {w w':World} {B:Nat} {v:Value} {ts:List Tr} (h:BookOk X w B v ts) (hp:Pr w w'):BookOk X w' B v ts:=by
  obtain ⟨⟨l,ks,oa,cap,h1,h2,h3,h4⟩,⟨ys,g1,g2⟩,hf,hn,ho⟩:=h
  exact ⟨⟨l,ks,oa,cap,hp.blk h1,h2,h3,h4.pr hp⟩,⟨ys,ownsRow_kept g1 (fun k hk=>Below.block hp k (g1.lt k hk).2),g2.carry fun k hS hl=>⟨Below.block hp k hl,hS⟩⟩,hf,hn,ho⟩
theorem BookOk.slice {w:World} {B:Nat} {v:Value} {ts:List Tr} (h:BookOk X w B v ts):∃ oa cap,v=.slice oa (stepsP ts).length cap∧(stepsP ts).length≤cap∧cap≤maxLen:=by
  obtain ⟨ys,g1,_⟩:=h.row
  obtain ⟨oa,cap,e,h1,h2,_⟩:=ownsRow_slice g1
  exact ⟨oa,cap,e,h1,h2⟩
set_option maxHeartbeats 800000 in
theorem len_any (B:Nat) (v:Value) (ts:List Tr) (w:World) (h:BookOk X w B v ts) :
    Calls Tryz.prog 39 #[.pointer (some ⟨B,0,none⟩)] w fun e w'=>e=.returned (.int .i64 ts.length)∧w'=w:=by
  obtain ⟨oa,cap,rfl,h1,h2⟩:=h.slice
  obtain ⟨⟨l,ks,ob,cb,hb,_⟩,_,_,hn,_⟩:=h
  have c2:=blk_cell (o:=2) hb;have c3:=blk_cell (o:=3) hb
  cases ts with
  | nil =>
    simp only [List.isEmpty_nil,Bool.not_true] at c3
    clear h1 hb c2
    go_enter Tryz.func39,Tryz.ntmps39
    go_wp2_with fail
    go_ret
    exact ⟨rfl,rfl⟩
  | cons t ts =>
    have hl:=stepsP_length (t :: ts) (by simp)
    simp only [List.isEmpty_cons,Bool.not_false] at c3
    generalize (stepsP (t :: ts)).length=n at *
    have u1:IntKind.i64.wrap ((n:Int)+1)=(n:Int)+1:=IntWalk.i64_in _ (by omega)
    have hl2:(((t :: ts).length:Nat):Int)=(n:Int)+1:=by omega
    rw [hl2]
    clear hl hl2 hb
    go_enter Tryz.func39,Tryz.ntmps39
    go_wp2_with fail
    go_ret
    exact ⟨rfl,rfl⟩
end
end Go.Proofs.YtdbnfhpgmcjngabGreatDoor
/- Walks: a book's Add. -/
namespace Go.Proofs.YtdbnfhpgmcjngabGreatDoor
open Go Go.RowKit
variable {X:Nat→Prop}
section
variable {ops:Array Oper} {o:Oper} {a:Act} {w:World} {rest:List Oper} {Q:Exit→Act→World→Prop}
theorem app_step (hgd:o.guard=none) (s x:Operand) (ho:o.op=.call { callee:=.builtin .append,args:=#[s,x],argTypes:=#[47,47] })
    (b:Nat) (v:Value) (n:Nat) (ys:List Value) (hs:a.eval s=v) (hown:w.ownsRow b 121 2 v n ys) (B:Nat) (hx:a.eval x=.slice (some ⟨B,0,none⟩) 1 1) (o1:Option Addr) (n1 c1:Nat) (o2:Option Addr) (n2 c2:Nat)
    (hB:w.heap[B]? = some (.cells #[.slice o1 n1 c1,.slice o2 n2 c2] 121 (0,0))) (hlen:n≤1000000000) (hbase:b≤w.heap.size)
    (h:∀ g cap w',w'.ownsRow b 121 2 (.slice (some ⟨g,0,none⟩) (n+1) cap) (n+1) (ys ++ [.slice o1 n1 c1,.slice o2 n2 c2])→w.grownBy w' v.ownBlock→(v.ownBlock=some g∨g=w.heap.size)→wpList Tryz.prog ops Q rest (a.put o.dst (.slice (some ⟨g,0,none⟩) (n+1) cap)) w') :
    wpList Tryz.prog ops Q (o :: rest) a w:=by
  obtain ⟨i0,hi,hz0,hz1,hz2⟩:=info_parts info_step
  refine wpList_append_lies w hgd s x _ ho b _ i0 _ 2 48 under_steps hi hz0 hz1 hz2 rfl (by omega) v n ys hs hown ⟨B,0,none⟩ 1 1 [.slice o1 n1 c1,.slice o2 n2 c2] hx rfl (World.news_of_block (cs:=#[.slice o1 n1 c1,.slice o2 n2 c2]) hB)
    (by intro u hu;simp at hu;rcases hu with rfl | rfl <;> rfl) (by omega) (by unfold maxLen;omega) (by omega) hbase w.heap.size rfl ?_
  intro g cap w' g1 g2 g3 _
  exact h g cap w' g1 g2 g3
end
theorem BookOk.done {w3:World} {B:Nat} {v':Value} {ts:List Tr} {l:ByteArray} {ks:List Tr} {oc cc} {c0 c1 c3:Value} (hbk:w3.heap[B]? = some (.cells #[c0,c1,v',c3] 49 (0,0)))
    (hrow:∃ ys,w3.ownsRow (B+1) 121 2 v' (stepsP ts).length ys∧Stvals (BS X B v') w3 (stepsP ts) ys) (hne:ts≠[]) (hlast:lastT ts=.node l ks) (hl:l.size≤maxLen) (hk:Kids (BS X B v') w3 ks oc cc) (hf:∀ t∈ts,fault t=0) (hn:ts.length≤30) (ho:¬ X B∧∀ k,v'.ownBlock=some k→¬ X k) :
    BookOk X (((w3.setCell ⟨B,0,none⟩ (.string l)).setCell ⟨B,1,none⟩ (.slice oc ks.length cc)).setCell ⟨B,3,none⟩ (.bool true)) B v' ts:=by
  have hch:Chg (fun k=>k=B) w3 (((w3.setCell ⟨B,0,none⟩ (.string l)).setCell ⟨B,1,none⟩ (.slice oc ks.length cc)).setCell ⟨B,3,none⟩ (.bool true)) :=
    Chg.setCell (Chg.setCell (Chg.setCell (Chg.refl (fun k=>k=B) w3) _ _ (.inl rfl)) _ _ (.inl rfl)) _ _ (.inl rfl)
  have hb:=blk_set (o:=3) (blk_set (o:=1) (blk_set (o:=0) hbk (.string l)) (.slice oc ks.length cc)) (.bool true)
  have he:ts.isEmpty=false:=by cases ts with | nil=>exact absurd rfl hne | cons _ _=>rfl
  obtain ⟨ys,g1,g2⟩:=hrow
  refine ⟨⟨l,ks,oc,cc,by rw [he];exact hb,hlast,hl,hk.carry fun k hS hl=>⟨hch.block k hl hS.1.1,hS⟩⟩,⟨ys,ownsRow_kept g1 (fun k hk=>hch.block k (g1.lt k hk).2 (by have:=(g1.lt k hk).1;omega)),g2.carry fun k hS hl=>⟨hch.block k hl hS.1.1,hS⟩⟩,hf,hn,ho⟩
def addC (ts:List Tr) (t:Tr):Nat:=if fault t≠0 then fault t else if ts.length=30 then 13 else 0
def AddPost (X:Nat→Prop) (B:Nat) (v:Value) (ts:List Tr) (t:Tr) (w:World) (e:Ending) (w':World):Prop :=
  e=.returned (.tuple #[.int .i64 ((if addC ts t=0 then ts.length else 0:Nat):Int),.int .i64 (addC ts t:Nat)])∧∃ v',BookOk X w' B v' (if addC ts t=0 then ts ++ [t] else ts)∧Chg (fun k=>k=B∨v.ownBlock=some k) w w'∧∀ k,v'.ownBlock=some k→v.ownBlock=some k∨w.heap.size≤k
set_option maxRecDepth 100000 in
set_option maxHeartbeats 6400000 in
theorem add_any (B:Nat) (v:Value) (ts:List Tr) (l:ByteArray) (ks:List Tr) (oa cap) (w:World) (hb:BookOk X w B v ts) (hl:l.size≤maxLen) (hk:Kids (BS NoX B v) w ks oa cap) (hX:∀ k,X k→k < w.heap.size) :
    Calls Tryz.prog 53 #[.pointer (some ⟨B,0,none⟩),.agg #[.string l,.slice oa ks.length cap]] w (AddPost X B v ts (.node l ks) w):=by
  obtain ⟨W,hW⟩:∃ W,W=w.alloc (.cells #[.string l,.slice oa ks.length cap] 46):=⟨_,rfl⟩
  have hwW:Pr w W:=by rw [hW];exact Pr.alloc _ _
  have s0:=stays (show W.cell? ⟨w.heap.size,0,none⟩=some (.string l) by rw [hW];simp [go_sem])
  have s1:=stays (show W.cell? ⟨w.heap.size,1,none⟩=some (.slice oa ks.length cap) by rw [hW];simp [go_sem])
  have CK:=Lib.hid fun u (h:Pr w u)=>check_any l ks oa cap u hl (hk.any.pr h)
  have LN:=Lib.hid fun u (h:Pr w u)=>len_any B v ts u (hb.pr h)
  have HK:=Lib.hid hk;have HB:=Lib.hid hb;have HW:=Lib.hid hwW;have HX:=Lib.hid hX
  have hs1:W.heap.size=w.heap.size+1:=by rw [hW];simp
  have HbW:Hid (∀ u,Pr W u→u.heap[w.heap.size]? = some (.cells #[.string l,.slice oa ks.length cap] 46 (0,0))):=Lib.hid fun u h=>h.blk (by rw [hW];exact heap_alloc_new w _)
  have Hs1:=Lib.hid hs1
  clear hk hb hwW hs1 hX
  by_cases ft:fault (.node l ks)=0
  case neg =>
    have hc:addC ts (.node l ks)=fault (.node l ks):=by unfold addC;rw [if_pos ft]
    have Hc:=Lib.hid hc;have Hn:=Lib.hid ft
    have e1:((fault (.node l ks):Int) != 0)=true:=by simp [bne_iff_ne];omega
    clear hc ft
    generalize fault (.node l ks)=c at *
    go_enter Tryz.func53,Tryz.ntmps53
    go_upto_region 1 with fail
    rw [← hW];clear hW
    have x0:=s0 _ (Pr.refl _);have x1:=s1 _ (Pr.refl _)
    go_wp2_with (go_at_call 51;(with_reducible refine Calls.mono (CK.out _ HW.out) ?_);rintro e w1 ⟨rfl,hb1⟩)
    go_ret2
    have h1:¬ addC ts (.node l ks)=0:=by rw [Hc.out];exact Hn.out
    exact ⟨by rw [if_neg h1,Hc.out];rfl,v,by rw [if_neg h1];exact HB.out.pr (HW.out.trans hb1),(HW.out.trans hb1).chg _,fun k hk=>.inl hk⟩
  rw [ft] at CK
  by_cases h30:ts.length=30
  case pos =>
    have hc:addC ts (.node l ks)=13:=by unfold addC;rw [if_neg (by simpa using ft),if_pos h30]
    have Hc:=Lib.hid hc
    rw [h30] at LN
    clear hc ft h30
    go_enter Tryz.func53,Tryz.ntmps53
    go_upto_region 1 with fail
    rw [← hW];clear hW
    have x0:=s0 _ (Pr.refl _);have x1:=s1 _ (Pr.refl _)
    go_wp2_with (first
      | (go_at_call 51;(with_reducible refine Calls.mono (CK.out _ HW.out) ?_);rintro e w1 ⟨rfl,hb1⟩)
      | (go_at_call 39;(with_reducible refine Calls.mono (LN.out _ (HW.out.trans hb1)) ?_);rintro e w2 ⟨rfl,rfl⟩))
    go_ret2
    have h1:¬ addC ts (.node l ks)=0:=by rw [Hc.out];decide
    exact ⟨by rw [if_neg h1,Hc.out];rfl,v,by rw [if_neg h1];exact HB.out.pr (HW.out.trans hb1),(HW.out.trans hb1).chg _,fun k hk=>.inl hk⟩
  have hc:addC ts (.node l ks)=0:=by unfold addC;rw [if_neg (by simpa using ft),if_neg h30]
  have hsz:=(fault_zero.1 ft).1
  rw [Tr.sz_node] at hsz
  have hn30:ts.length < 30:=by have:=HB.out.few;omega
  have e30:((ts.length:Int)==30)=false:=by simp;omega
  unfold AddPost
  rw [hc]
  simp only [if_true]
  have Hft:=Lib.hid ft
  by_cases hts:ts=[]
  case pos =>
    subst hts
    obtain ⟨⟨lz,kz,oz,cz,hbk,_,_,_⟩,⟨ys,hrow,_⟩,_,_,_⟩:=HB.out
    have hbk2:w.heap[B]? = some (.cells #[.string lz,.slice oz kz.length cz,v,.bool false] 49 (0,0)):=hbk
    have hBw:=blk_lt hbk
    have hC9:=stays (blk_cell (o:=3) (HW.out.blk hbk2))
    have OW:=Lib.hid fun u (h:Pr w u)=>own_any l ks oa cap u (by omega) (HK.out.any.pr h)
    have Hbk:=Lib.hid hbk2;have Hrow:=Lib.hid hrow
    have LN2:Hid (∀ u v2,BookOk X u B v2 [.node l ks]→Calls Tryz.prog 39 #[.pointer (some ⟨B,0,none⟩)] u fun e w'=>e=.returned (.int .i64 1)∧w'=u):=Lib.hid fun u v2 h=>len_any B v2 _ u h
    have LN0:Hid (∀ u,Pr w u→Calls Tryz.prog 39 #[.pointer (some ⟨B,0,none⟩)] u fun e w'=>e=.returned (.int .i64 0)∧w'=u):=Lib.hid fun u h=>LN.out u h
    clear hbk hbk2 hrow LN hc h30 hn30 e30 ft
    go_enter Tryz.func53,Tryz.ntmps53
    go_upto_region 1 with fail
    rw [← hW];clear hW
    have x0:=s0 _ (Pr.refl _);have x1:=s1 _ (Pr.refl _)
    go_upto_region 10 with (first
      | (go_at_call 51;(with_reducible refine Calls.mono (CK.out _ HW.out) ?_);rintro e w1 ⟨rfl,hb1⟩;have z9:=hC9 _ hb1)
      | (go_at_call 39;(with_reducible refine Calls.mono (LN0.out _ (HW.out.trans hb1)) ?_);rintro e w2 ⟨rfl,rfl⟩))
    have y0:=s0 _ hb1;have y1:=s1 _ hb1
    clear x0 x1 z9
    go_upto_region 11 with (go_at_call 83;(with_reducible refine Calls.mono (OW.out _ (HW.out.trans hb1)) ?_);rintro e w3 ⟨oc,cc,rfl,hk3,hb3⟩;have hb4:=HW.out.trans (hb1.trans hb3);have hbk3:=hb4.blk Hbk.out;have q0:=blk_cell (o:=0) hbk3;have q1:=blk_cell (o:=1) hbk3;have q3:=blk_cell (o:=3) hbk3;have f0:=blk_frozen (o:=0) hbk3;have f1:=blk_frozen (o:=1) hbk3;have f3:=blk_frozen (o:=3) hbk3)
    have hz2:=Below.size (HW.out.trans hb1)
    have hBk:BookOk X (((w3.setCell ⟨B,0,none⟩ (.string l)).setCell ⟨B,1,none⟩ (.slice oc ks.length cc)).setCell ⟨B,3,none⟩ (.bool true)) B v [.node l ks] :=
      BookOk.done hbk3 ⟨ys,ownsRow_kept Hrow.out (fun k hk=>Below.block hb4 k (Hrow.out.lt k hk).2),(by have h:=Hrow.out.1;have h2:ys=[]:=List.eq_nil_of_length_eq_zero (by simpa [stepsP] using h);subst h2;rfl)⟩ (by simp) (by simp [lastT]) hl
        (hk3.mono fun j (hj:_≤j) _=>⟨⟨by omega,fun e=>by have:=(Hrow.out.lt j e).2;omega⟩,fun hx=>by have:=HX.out j hx;omega⟩) (fun t ht=>by rw [List.mem_singleton] at ht;subst ht;exact Hft.out) (by simp) HB.out.out
    obtain ⟨U,hU⟩:∃ U,U=((w3.setCell ⟨B,0,none⟩ (.string l)).setCell ⟨B,1,none⟩ (.slice oc ks.length cc)).setCell ⟨B,3,none⟩ (.bool true):=⟨_,rfl⟩
    have hch:Chg (fun k=>k=B∨v.ownBlock=some k) w U:=by rw [hU];exact Chg.setCell (Chg.setCell (Chg.setCell (hb4.chg (fun k=>k=B∨v.ownBlock=some k)) _ _ (.inl (.inl rfl))) _ _ (.inl (.inl rfl))) _ _ (.inl (.inl rfl))
    rw [← hU] at hBk ⊢
    have HBk:=Lib.hid hBk;have Hch:=Lib.hid hch
    clear hU hBk hch q0 q1 q3 f0 f1 f3 y0 y1
    go_wp2_with (go_at_call 39;(with_reducible refine Calls.mono (LN2.out _ _ HBk.out) ?_);rintro e w5 ⟨rfl,rfl⟩)
    go_ret2
    exact ⟨rfl,v,HBk.out,Hch.out,fun k hk=>.inl hk⟩
  case neg =>
    obtain ⟨⟨la,ka,oA,cA,hbk,hlast,hla,hka⟩,⟨ys,hrow,hys⟩,hflt,hfew,_⟩:=HB.out
    have hie:ts.isEmpty=false:=by cases ts with | nil=>exact absurd rfl hts | cons _ _=>rfl
    rw [hie] at hbk
    have hbk2:w.heap[B]? = some (.cells #[.string la,.slice oA ka.length cA,v,.bool true] 49 (0,0)):=hbk
    have hBw:=blk_lt hbk
    have fa:fault (.node la ka)=0:=by rw [← hlast];exact hflt _ (lastT_mem hts)
    obtain ⟨st,hst⟩:∃ st,st=stepP (.node la ka) (.node l ks):=⟨_,rfl⟩
    obtain ⟨p1,p2,p3,p4,p5,p6⟩:=stepP_ok fa ft
    have hsnoc:=stepsP_snoc (.node l ks) ts hts
    rw [hlast,← hst] at hsnoc
    rw [← hst] at p1 p2 p3 p4 p5 p6
    have DF:Hid (∀ u,Pr w u→Calls Tryz.prog 64 #[.agg #[.string la,.slice oA ka.length cA],.agg #[.string l,.slice oa ks.length cap]] u fun e w'=>∃ o c,e=.returned (.tuple #[.slice o st.1.length c,.int .i64 0])∧Dees (From u.heap.size) w' st.1 o c∧Pr u w'):=Lib.hid fun u h=>by
      have:=diff_yes la ka oA cA l ks oa cap u hla (hka.any.pr h) hl (HK.out.any.pr h) fa ft
      rw [hst];exact this
    have RN:Hid (∀ u oD cD,Pr w u→Dees Any u st.1 oD cD→Calls Tryz.prog 82 #[.agg #[.string la,.slice oA ka.length cA],.slice oD st.1.length cD] u fun e w'=>∃ o c ob cb,e=.returned (.tuple #[.agg #[.string l,.slice o ks.length c],.slice ob st.2.length cb,.agg #[.int .i64 0,.int .i64 0]])∧Dees (From u.heap.size) w' st.2 ob cb∧Pr u w'):=Lib.hid fun u oD cD h hd=>by
      refine (run_is la ka oA cA st.1 oD cD u hla (hka.any.pr h) hd (fun d hd=>by have:=p5 d hd;omega) l ks st.2 0 0 p1).mono ?_
      rintro e w' ⟨⟨⟨o,c,ob,cb,rfl,_,_,ho⟩,_⟩,hp⟩
      obtain ⟨o9,c9,e9,hd9⟩:=ho.dees
      cases e9
      exact ⟨o,c,ob,cb,rfl,hd9,hp⟩
    have hlen:=stepsP_length ts hts
    have OW:=Lib.hid fun u (h:Pr w u)=>own_any l ks oa cap u (by omega) (HK.out.any.pr h)
    have LN2:Hid (∀ u v2,BookOk X u B v2 (ts ++ [.node l ks])→Calls Tryz.prog 39 #[.pointer (some ⟨B,0,none⟩)] u fun e w'=>e=.returned (.int .i64 ((ts.length:Int)+1))∧w'=u):=Lib.hid fun u v2 h=>by
      refine (len_any B v2 _ u h).mono ?_
      rintro e w' ⟨rfl,h⟩
      exact ⟨by simp,h⟩
    have c0:=stays (blk_cell (o:=0) (HW.out.blk hbk2));have c1:=stays (blk_cell (o:=1) (HW.out.blk hbk2));have c2:=stays (blk_cell (o:=2) (HW.out.blk hbk2));have c3:=stays (blk_cell (o:=3) (HW.out.blk hbk2))
    have Hbk:=Lib.hid hbk2;have Hrow:=Lib.hid hrow;have Hys:=Lib.hid hys;have Hsn:=Lib.hid hsnoc;have Hlen:=Lib.hid hlen;have Hflt:=Lib.hid hflt;have Hts:=Lib.hid hts
    have hv:∃ ov cv,v=.slice ov (stepsP ts).length cv:=by obtain ⟨ov,cv,e,_⟩:=HB.out.slice;exact ⟨ov,cv,e⟩
    have Hv:=Lib.hid hv
    generalize hn9:(stepsP ts).length=n9 at *
    have hn9':n9≤1000:=by omega
    have hbelow:∀ k,v.ownBlock=some k→B+1≤k∧k < w.heap.size:=fun k hk=>Hrow.out.lt k hk
    have Hbl:=Lib.hid hbelow
    clear hbk hbk2 hrow hys hsnoc hlen hflt hlast hka p1 p2 p3 p4 p5 p6 hst fa hc h30 hie hv hbelow ft hfew
    go_enter Tryz.func53,Tryz.ntmps53
    go_upto_region 1 with fail
    rw [← hW];clear hW
    have x0:=s0 _ (Pr.refl _);have x1:=s1 _ (Pr.refl _)
    go_upto_region 7 with (first
      | (go_at_call 51;(with_reducible refine Calls.mono (CK.out _ HW.out) ?_);rintro e w1 ⟨rfl,hb1⟩;have z9:=c3 _ hb1)
      | (go_at_call 39;(with_reducible refine Calls.mono (LN.out _ (HW.out.trans hb1)) ?_);rintro e w2 ⟨rfl,rfl⟩))
    have s0:=fun u (h:Pr w2 u)=>s0 u (hb1.trans h);have s1:=fun u (h:Pr w2 u)=>s1 u (hb1.trans h);have c0:=fun u (h:Pr w2 u)=>c0 u (hb1.trans h);have c1:=fun u (h:Pr w2 u)=>c1 u (hb1.trans h);have c2:=fun u (h:Pr w2 u)=>c2 u (hb1.trans h)
    have Hw2:=Lib.hid (HW.out.trans hb1)
    clear x0 x1 z9 c3
    go_region_held3 (fun W'=>Pr w2 W')
      (first | with_reducible exact Pr.drew w2 | with_reducible exact hp4)
      (first
        | (go_at_call 64;(with_reducible refine Calls.mono (DF.out _ (Hw2.out.trans (Pr.drew w2))) ?_);rintro e w4 ⟨oD,cD,rfl,hD,hb4⟩;have hp4:=(Pr.drew w2).trans hb4))
    have x0:=c0 _ hp4;have x1:=c1 _ hp4
    go_upto_region 9 with (go_at_call 82;(with_reducible refine Calls.mono (RN.out _ _ _ (Hw2.out.trans hp4) hD.any) ?_);rintro e w5 ⟨o5,c5,ob5,cb5,rfl,hD5,hb5⟩)
    obtain ⟨V,hV⟩:∃ V,V=(w5.alloc (.cells #[.string l,.slice o5 ks.length c5] 46)).alloc (.cells #[.int .i64 0,.int .i64 0] 29):=⟨_,rfl⟩
    have hpV:Pr w5 V:=by rw [hV];exact (Pr.alloc _ _).alloc' _
    have hw2V:=hp4.trans (hb5.trans hpV)
    have HwV:=Lib.hid (Hw2.out.trans hw2V)
    rw [← hV]
    have x2:=c2 _ hw2V
    have hq2:=Below.size Hw2.out;have hq4:=Below.size hp4;have hq5:=Below.size hb5;have hq6:=Below.size hpV
    have HD4:Hid (Dees (fun k=>w.heap.size≤k) V st.1 oD cD):=Lib.hid (((hD.pr hb5).pr hpV).mono fun j (hj:_≤j) _=>by simp at hj;show w.heap.size≤j;omega)
    have HD5:Hid (Dees (fun k=>w.heap.size≤k) V st.2 ob5 cb5):=Lib.hid ((hD5.pr hpV).mono fun j (hj:_≤j) _=>by show w.heap.size≤j;omega)
    clear hV hpV hD hD5 x0 x1 hb5 hp4 hb4
    have HRV:Hid (∀ o,(V.alloc o).ownsRow (B+1) 121 2 v n9 ys):=Lib.hid fun o=>ownsRow_kept Hrow.out (fun k hk=>Below.block (HwV.out.alloc' o) k (Hbl.out k hk).2)
    have hBV:B+1≤V.heap.size:=by omega
    go_upto_region 10 with (at_builtin;go_must (refine app_step rfl _ _ rfl (B+1) v n9 ys rfl (HRV.out _) V.heap.size rfl oD st.1.length cD ob5 st.2.length cb5 (heap_alloc_new V _) (by omega) (by simp;omega) ?_);intro g6 cp6 w6 hr6 hg6 hd6;have hbk6:=(chg_grown hg6).blk ((HwV.out.alloc' _).blk Hbk.out) (fun e=>by have:=(Hbl.out B e).1;omega);have q2:=blk_cell (o:=2) hbk6;have f2:=blk_frozen (o:=2) hbk6)
    obtain ⟨w7,hw7⟩:∃ w7,w7=w6.setCell ⟨B,2,none⟩ (.slice (some ⟨g6,0,none⟩) (n9+1) cp6):=⟨_,rfl⟩
    have hch7:Chg (fun k=>k=B∨v.ownBlock=some k) V w7:=by
      rw [hw7]
      exact Chg.setCell (((Pr.alloc V _).chg (fun k=>k=B∨v.ownBlock=some k)).trans (chg_grown hg6) (fun k hk=>.inl (.inr hk))) _ _ (.inl (.inl rfl))
    have hbk7:w7.heap[B]? = some (.cells #[.string la,.slice oA ka.length cA,.slice (some ⟨g6,0,none⟩) (n9+1) cp6,.bool true] 49 (0,0)):=by rw [hw7];exact blk_set (o:=2) hbk6 _
    have hg6b:=hr6.lt g6 rfl
    have hg6n:v.ownBlock=some g6∨V.heap.size+1≤g6:=by rcases hd6 with h | h;exact .inl h;exact .inr (by rw [h];simp)
    have hr7:w7.ownsRow (B+1) 121 2 (.slice (some ⟨g6,0,none⟩) (n9+1) cp6) (n9+1) (ys ++ [.slice oD st.1.length cD,.slice ob5 st.2.length cb5]):=by
      rw [hw7];exact ownsRow_kept hr6 (fun k hk=>by cases hk;exact Below.heap_setCell _ _ _ _ (show g6≠B by omega))
    have hz7:w6.heap.size≤w7.heap.size:=by rw [hw7];simp [World.setCell]
    have hcw7:Chg (fun k=>k=B∨v.ownBlock=some k) w w7:=(HwV.out.chg _).trans hch7 (fun _ h=>.inl h)
    have hbox7:=hch7.blk ((HbW.out) V (hb1.trans hw2V)) (by rintro (e | e);omega;have:=(Hbl.out _ e).2;omega)
    have b0:=blk_cell (o:=0) hbox7;have b1:=blk_cell (o:=1) hbox7
    have OW7:=Lib.hid (own_any l ks oa cap w7 (by omega) (HK.out.carry (S':=Any) fun j hj hl=>⟨hcw7.block j hl (by rintro (e | e);exact hj.1.1 e;exact hj.1.2 e),trivial⟩))
    rw [← hw7]
    have Hbk7:=Lib.hid hbk7;have Hr7:=Lib.hid hr7;have Hcw7:=Lib.hid hcw7;have Hg6b:=Lib.hid hg6b;have Hg6n:=Lib.hid hg6n;have Hch7:=Lib.hid hch7
    clear hw7 hch7 hbk7 hr7 hcw7 hbox7 hr6 hg6 hd6 hbk6 q2 f2 hg6b hg6n x2 hBV
    go_upto_region 11 with (go_at_call 83;(with_reducible refine Calls.mono OW7.out ?_);rintro e w8 ⟨oc,cc,rfl,hk8,hb8⟩;have hbk8:=hb8.blk Hbk7.out;have q0:=blk_cell (o:=0) hbk8;have q1:=blk_cell (o:=1) hbk8;have q3:=blk_cell (o:=3) hbk8;have f0:=blk_frozen (o:=0) hbk8;have f1:=blk_frozen (o:=1) hbk8;have f3:=blk_frozen (o:=3) hbk8)
    have hcw8:=Hcw7.out.pr hb8
    have hzV:=Hch7.out.size
    have hBk:BookOk X (((w8.setCell ⟨B,0,none⟩ (.string l)).setCell ⟨B,1,none⟩ (.slice oc ks.length cc)).setCell ⟨B,3,none⟩ (.bool true)) B (.slice (some ⟨g6,0,none⟩) (n9+1) cp6) (ts ++ [.node l ks]):=by
      refine BookOk.done hbk8 ⟨ys ++ [.slice oD st.1.length cD,.slice ob5 st.2.length cb5],?_,?_⟩ (by simp) (lastT_snoc _ _) hl ?_ ?_ (by rw [List.length_append,List.length_singleton];omega) ⟨HB.out.out.1,fun k hk hx=>?_⟩
      · rw [Hsn.out,List.length_append,List.length_singleton,hn9]
        exact ownsRow_kept Hr7.out (fun k hk=>Below.block hb8 k (Hr7.out.lt k hk).2)
      · rw [Hsn.out]
        refine Stvals.append (show Stvals (BS X B (.slice (some ⟨g6,0,none⟩) (n9+1) cp6)) _ [st] [.slice oD st.1.length cD,.slice ob5 st.2.length cb5] from ⟨_,[],(List.append_nil _).symm,⟨oD,cD,ob5,cb5,rfl,?_,?_⟩,rfl⟩) (Hys.out.carry fun k hS hl=>?_)
        · refine (HD4.out.carry fun k (hk:w.heap.size≤k) hl=>⟨((Hch7.out.pr hb8).block k hl (by rintro (e | e);omega;have:=(Hbl.out k e).2;omega)),⟨by omega,fun e=>?_⟩,fun hx=>by have:=HX.out k hx;omega⟩)
          have e2:g6=k:=Option.some.inj e
          rcases Hg6n.out with h | h
          · have:=(Hbl.out g6 h).2;omega
          · omega
        · refine (HD5.out.carry fun k (hk:w.heap.size≤k) hl=>⟨((Hch7.out.pr hb8).block k hl (by rintro (e | e);omega;have:=(Hbl.out k e).2;omega)),⟨by omega,fun e=>?_⟩,fun hx=>by have:=HX.out k hx;omega⟩)
          have e2:g6=k:=Option.some.inj e
          rcases Hg6n.out with h | h
          · have:=(Hbl.out g6 h).2;omega
          · omega
        · refine ⟨hcw8.block k hl (by rintro (e | e);exact hS.1.1 e;exact hS.1.2 e),⟨hS.1.1,fun e=>?_⟩,hS.2⟩
          have e2:g6=k:=Option.some.inj e
          rcases Hg6n.out with h | h
          · exact hS.1.2 (e2 ▸ h)
          · omega
      · exact hk8.mono fun j (hj:w7.heap.size≤j) _=>⟨⟨by omega,fun e=>by have e2:g6=j:=Option.some.inj e;have:=Hg6b.out.2;omega⟩,fun hx=>by have:=HX.out j hx;omega⟩
      · intro t ht
        rcases List.mem_append.1 ht with h | h
        · exact Hflt.out t h
        · rw [List.mem_singleton] at h;subst h;exact Hft.out
      · have e2:g6=k:=Option.some.inj hk
        rcases Hg6n.out with h | h
        · exact HB.out.out.2 k (e2 ▸ h) hx
        · have:=HX.out k hx;omega
    obtain ⟨U,hU⟩:∃ U,U=((w8.setCell ⟨B,0,none⟩ (.string l)).setCell ⟨B,1,none⟩ (.slice oc ks.length cc)).setCell ⟨B,3,none⟩ (.bool true):=⟨_,rfl⟩
    have hch:Chg (fun k=>k=B∨v.ownBlock=some k) w U:=by rw [hU];exact Chg.setCell (Chg.setCell (Chg.setCell hcw8 _ _ (.inl (.inl rfl))) _ _ (.inl (.inl rfl))) _ _ (.inl (.inl rfl))
    rw [← hU] at hBk ⊢
    have HBk:=Lib.hid hBk;have Hch:=Lib.hid hch
    clear hU hBk hch q0 q1 q3 f0 f1 f3 b0 b1 hk8 hcw8
    go_wp2_with (go_at_call 39;(with_reducible refine Calls.mono (LN2.out _ _ HBk.out) ?_);rintro e w9 ⟨rfl,rfl⟩)
    go_ret2
    exact ⟨by simp,_,HBk.out,Hch.out,fun k hk=>by
      have e2:g6=k:=Option.some.inj hk
      rcases Hg6n.out with h | h
      · exact .inl (e2 ▸ h)
      · exact .inr (by omega)⟩
end Go.Proofs.YtdbnfhpgmcjngabGreatDoor
/- Walks: a book's Get. -/
namespace Go.Proofs.YtdbnfhpgmcjngabGreatDoor
open Go Go.RowKit
variable {X:Nat→Prop}
theorem stepsP_get:∀ (ts:List Tr) (i:Nat) (h:i+1 < ts.length),∃ h2:i < (stepsP ts).length,(stepsP ts)[i]=stepP ts[i] ts[i+1]
  | [_],i,h=>by simp at h
  | a :: b :: r,0,_=>⟨by simp [stepsP],rfl⟩
  | a :: b :: r,i+1,h=>by
    obtain ⟨h2,h3⟩:=stepsP_get (b :: r) i (by simpa using h)
    exact ⟨by simpa [stepsP] using h2,by simpa [stepsP] using h3⟩
theorem BookOk.rd {w:World} {B:Nat} {v:Value} {ts:List Tr} (h:BookOk X w B v ts) (i:Nat) (hi:i+1 < ts.length):∃ g cap o1 c1 o2 c2,v=.slice (some ⟨g,0,none⟩) (ts.length - 1) cap∧ts.length - 1≤cap∧B+1≤g ∧
    w.cell? ⟨g,i * 2,none⟩=some (.slice o1 (stepP ts[i] ts[i+1]).1.length c1)∧w.cell? ⟨g,i * 2+1,none⟩=some (.slice o2 (stepP ts[i] ts[i+1]).2.length c2)∧Dees (BS X B v) w (stepP ts[i] ts[i+1]).1 o1 c1∧Dees (BS X B v) w (stepP ts[i] ts[i+1]).2 o2 c2:=by
  obtain ⟨ys,ho,hys⟩:=h.row
  obtain ⟨h2,h3⟩:=stepsP_get ts i hi
  have hl:=stepsP_length ts (by intro e;subst e;simp at hi)
  obtain ⟨o1,c1,o2,c2,g1,g2,g3,g4⟩:=hys.get i h2
  rw [h3] at g1 g2 g3 g4
  obtain ⟨oa,cap,e,e1,e2,e3⟩:=ownsRow_slice ho
  obtain ⟨g,rfl,hg⟩:=e3 (by omega)
  have hc:=ho.cells (g:=g) (by rw [e];rfl)
  refine ⟨g,cap,o1,c1,o2,c2,by rw [e];congr 1;omega,by omega,hg,?_,?_,g3,g4⟩
  · have:=hc _ _ g1;rw [Addr.add_lit] at this;simpa using this
  · have:=hc _ _ g2;rw [Addr.add_lit] at this;simpa using this
def hasT (ts:List Tr) (z:Int):Bool:=decide (0≤z∧z < ts.length)
def getT (ts:List Tr) (z:Int):Tr:=if 0≤z∧z < ts.length then ts.getD z.toNat Tr.zero else Tr.zero
def GetPost (ts:List Tr) (z:Int) (w:World) (e:Ending) (w':World):Prop :=
  ∃ l ks o c,getT ts z=.node l ks∧l.size≤maxLen∧e=.returned (.tuple #[.agg #[.string l,.slice o ks.length c],.bool (hasT ts z)])∧Kids (From w.heap.size) w' ks o c∧Pr w w'
theorem GetPost.no {ts:List Tr} {z:Int} {w w':World} (h:¬ (0≤z∧z < ts.length)) (hp:Pr w w'):GetPost ts z w (.returned (.tuple #[.agg #[.string ⟨#[]⟩,.slice none 0 0],.bool false])) w' :=
  ⟨⟨#[]⟩,[],none,0,by unfold getT;rw [if_neg h];rfl,by simp [ByteArray.size],by unfold hasT;rw [decide_eq_false h];rfl,Kids.nil _ _ _ _ (Nat.zero_le _),hp⟩
set_option maxRecDepth 100000 in
set_option maxHeartbeats 3200000 in
theorem get_any (B:Nat) (v:Value) (ts:List Tr) (z:Int) (w:World) (hb:BookOk X w B v ts) :
    Calls Tryz.prog 59 #[.pointer (some ⟨B,0,none⟩),.int .i64 z] w (GetPost ts z w):=by
  obtain ⟨W,hW⟩:∃ W,W=w.alloc (.cells #[.string ⟨#[]⟩,.slice none 0 0] 46):=⟨_,rfl⟩
  have hwW:Pr w W:=by rw [hW];exact Pr.alloc _ _
  have hs1:W.heap.size=w.heap.size+1:=by rw [hW];simp
  have HR:Hid (∀ u,Pr W u→u.heap[w.heap.size]? = some (.cells #[.string ⟨#[]⟩,.slice none 0 0] 46 (0,0))):=Lib.hid fun u h=>h.blk (by rw [hW];exact heap_alloc_new w _)
  have LN:=Lib.hid fun u (h:Pr w u)=>len_any B v ts u (hb.pr h)
  have HB:=Lib.hid hb;have HW:=Lib.hid hwW;have Hs1:=Lib.hid hs1
  clear hb hwW hs1
  by_cases hz:z < 0
  · have Hno:=Lib.hid (show ¬ (0≤z∧z < ts.length) by omega)
    have e1:decide (z < 0)=true:=decide_eq_true hz
    have r1:=HR.out W (Pr.refl _)
    have q0:=blk_cell (o:=0) r1;have q1:=blk_cell (o:=1) r1;have f0:=blk_frozen (o:=0) r1;have f1:=blk_frozen (o:=1) r1
    clear hz r1 LN
    go_enter Tryz.func59,Tryz.ntmps59
    go_upto_region 1 with fail
    rw [← hW];clear hW
    go_wp2_with fail
    exact bodyPost_ret (v:=.tuple #[.agg #[.string ⟨#[]⟩,.slice none 0 0],.bool false]) (by simp [results,Tryz.results59,go_sem,q0,q1]) rfl (GetPost.no Hno.out ((HW.out.setCell (by simp) _).setCell (by simp) _))
  obtain ⟨n,rfl⟩:=Int.eq_ofNat_of_zero_le (by omega:0≤z)
  have e1:decide ((n:Int) < 0)=false:=by simp
  by_cases hn:n < ts.length
  case neg =>
    have Hno:=Lib.hid (show ¬ (0≤(n:Int)∧(n:Int) < ts.length) by omega)
    have e2:decide ((ts.length:Int)≤(n:Int))=true:=by simp;omega
    have e3:decide (ts.length≤n)=true:=by simp;omega
    have r1:=HR.out W (Pr.refl _)
    have q0:=blk_cell (o:=0) r1;have q1:=blk_cell (o:=1) r1;have f0:=blk_frozen (o:=0) r1;have f1:=blk_frozen (o:=1) r1
    clear hz r1 hn
    go_enter Tryz.func59,Tryz.ntmps59
    go_upto_region 1 with fail
    rw [← hW];clear hW
    go_wp2_with (go_at_call 39;(with_reducible refine Calls.mono (LN.out _ HW.out) ?_);rintro e w1 ⟨rfl,rfl⟩)
    exact bodyPost_ret (v:=.tuple #[.agg #[.string ⟨#[]⟩,.slice none 0 0],.bool false]) (by simp [results,Tryz.results59,go_sem,q0,q1]) rfl (GetPost.no Hno.out ((HW.out.setCell (by simp) _).setCell (by simp) _))
  have hts:ts≠[]:=by intro e;subst e;simp at hn
  have hie:ts.isEmpty=false:=by cases ts with | nil=>exact absurd rfl hts | cons _ _=>rfl
  obtain ⟨⟨la,ka,oA,cA,hbk,hlast,hla,hka⟩,_,hflt,hfew,_⟩:=HB.out
  rw [hie] at hbk
  have fa:fault (.node la ka)=0:=by rw [← hlast];exact hflt _ (lastT_mem hts)
  have hsz:=(fault_zero.1 fa).1
  rw [Tr.sz_node] at hsz
  have OW:=Lib.hid fun u (h:Pr w u)=>own_any la ka oA cA u (by omega) (hka.any.pr h)
  obtain ⟨m,hm⟩:∃ m,ts.length=m+1:=⟨ts.length - 1,by omega⟩
  have hlm:ts[m]? = some (.node la ka):=by
    rw [← hlast];unfold lastT;rw [List.getLast?_eq_getElem?,hm,Nat.add_sub_cancel]
    rw [List.getElem?_eq_getElem (by omega)];rfl
  have hv:∃ ov cv,v=.slice ov m cv:=by
    obtain ⟨ov,cv,e,_⟩:=HB.out.slice
    have:=stepsP_length ts hts
    exact ⟨ov,cv,by rw [e];congr 1;omega⟩
  have e2:decide ((ts.length:Int)≤(n:Int))=false:=by simp;omega
  have e3:decide (ts.length≤n)=false:=by simp;omega
  have Hbk:=Lib.hid hbk;have Hlm:=Lib.hid hlm;have Hm:=Lib.hid hm;have Hv:=Lib.hid hv;have Hflt:=Lib.hid hflt
  have c0:=stays (blk_cell (o:=0) hbk);have c1:=stays (blk_cell (o:=1) hbk);have c2:=stays (blk_cell (o:=2) hbk)
  clear hbk hlm hv hie hlast hka hflt fa hz
  go_enter Tryz.func59,Tryz.ntmps59
  go_upto_region 1 with fail
  rw [← hW];clear hW
  have x0:=c0 _ HW.out;have x1:=c1 _ HW.out
  go_upto_region 4 with (first
    | (go_at_call 39;(with_reducible refine Calls.mono (LN.out _ HW.out) ?_);rintro e w1 ⟨rfl,rfl⟩)
    | (go_at_call 83;(with_reducible refine Calls.mono (OW.out _ HW.out) ?_);rintro e w2 ⟨oc,cc,rfl,hk2,hb2⟩))
  obtain ⟨V,hV⟩:∃ V,V=w2.alloc (.cells #[.string la,.slice oc ka.length cc] 46):=⟨_,rfl⟩
  have hpV:Pr w2 V:=by rw [hV];exact Pr.alloc _ _
  have hTV:V.heap[w2.heap.size]? = some (.cells #[.string la,.slice oc ka.length cc] 46 (0,0)):=by rw [hV];exact heap_alloc_new w2 _
  rw [← hV]
  have hwV:=HW.out.trans (hb2.trans hpV)
  have x2:=c2 _ hwV
  have hsw:=Below.size (HW.out.trans hb2);have hsW:=Hs1.out;have hs2:=Below.size hb2
  have hkV:Kids (fun j=>w1.heap.size≤j∧j≠w2.heap.size) V ka oc cc:=(hk2.carry (S':=fun j=>w1.heap.size≤j∧j≠w2.heap.size) fun j (hj:_≤j) hl=>⟨hpV.kept (fun _=>True) j trivial hl,hj,by omega⟩)
  have HkV:=Lib.hid hkV;have HTV:=Lib.hid hTV;have HwV:=Lib.hid hwV;have HWV:=Lib.hid (hb2.trans hpV)
  have hBw:B < w.heap.size:=blk_lt Hbk.out
  have hVs:V.heap.size=w2.heap.size+1:=by rw [hV];simp
  have HVs:=Lib.hid hVs
  clear hV hpV hTV hwV hkV hk2 hb2 x0 x1 hVs
  obtain ⟨ov,cv,hvv⟩:=Hv.out
  rw [hvv] at x2
  go_upto_region 5 with fail
  go_loopw [7] (fun vi wr=>∃ (k:Nat) (l':ByteArray) (ks':List Tr) (oa':Option Addr) (cap':Nat),n≤k∧k≤m∧vi=.int .i64 ((k:Int) - 1)∧ts[k]? = some (.node l' ks')∧wr.heap[w2.heap.size]? = some (.cells #[.string l',.slice oa' ks'.length cap'] 46 (0,0))∧l'.size≤maxLen∧Kids (fun j=>w1.heap.size≤j∧j≠w2.heap.size) wr ks' oa' cap'∧Chg (fun k=>k=w2.heap.size) V wr) (fun vi _=>(intOf vi+1).toNat)
  case atStart=>exact ⟨m,la,ka,oc,cc,by omega,by omega,by go_num,Hlm.out,HTV.out,hla,HkV.out,Chg.refl _ _⟩
  case round =>
    obtain ⟨k,l',ks',oa',cap',hnk,hkm,rfl,hk0,hT,hl',hk',hc⟩:=hrel
    have hlt:k < ts.length:=by omega
    have hkg:ts[k]=.node l' ks':=by rw [List.getElem?_eq_getElem hlt] at hk0;exact Option.some.inj hk0
    by_cases hle:n < k
    case pos =>
      obtain ⟨j,rfl⟩:∃ j,k=j+1:=⟨k - 1,by omega⟩
      obtain ⟨g,cv2,o1,d1,o2,d2,hve,hcv,hBg,g1,g2,g3,g4⟩:=HB.out.rd j hlt
      obtain ⟨h1,h2,h3,h4,h5,h6⟩:=stepP_ok (Hflt.out _ (List.getElem_mem (by omega:j < ts.length))) (Hflt.out _ (List.getElem_mem hlt))
      obtain ⟨lp,kp,hp⟩:∃ lp kp,ts[j]=.node lp kp:=by cases h:ts[j] with | node a b=>exact ⟨a,b,rfl⟩
      have hgj:ts[j]? = some (.node lp kp):=by rw [List.getElem?_eq_getElem (by omega),hp]
      rw [hkg,hp] at h1 h2 h3 h4 h5 h6 g1 g2 g3 g4
      obtain ⟨st,hst⟩:∃ st,st=stepP (.node lp kp) (.node l' ks'):=⟨_,rfl⟩
      rw [← hst] at h1 h2 h3 h4 h5 h6 g1 g2 g3 g4
      have hck:∀ i,BS X B v i→i < w.heap.size→wr.heap[i]? = w.heap[i]? ∧ True:=fun i _ hl=>⟨((HwV.out.chg (fun k=>k=w2.heap.size)).trans hc (fun _ h=>.inl h)).block i hl (by omega),trivial⟩
      have hd4:Dees Any wr st.2 o2 d2:=g4.carry hck
      have RN:Hid (∀ u,Pr wr u→Calls Tryz.prog 82 #[.agg #[.string l',.slice oa' ks'.length cap'],.slice o2 st.2.length d2] u fun e w'=>∃ o c ob cb,e=.returned (.tuple #[.agg #[.string lp,.slice o kp.length c],.slice ob st.1.length cb,.agg #[.int .i64 0,.int .i64 0]])∧lp.size≤maxLen∧Kids (From u.heap.size) w' kp o c∧Pr u w'):=Lib.hid fun u h=>by
        refine (run_any l' ks' oa' cap' st.2 o2 d2 u hl' (hk'.any.pr h) (hd4.pr h) (fun d hd=>by have:=h6 d hd;omega)).mono ?_
        rintro e w' ⟨l9,k9,o9,c9,bs,ob,cb,c,i,hr,hl9,rfl,hk9,_,_,hp9⟩
        rw [h2] at hr
        cases hr
        exact ⟨o9,c9,ob,cb,rfl,hl9,hk9,hp9⟩
      have hgw:=lt_of_cell g2
      have hch:=(HwV.out.chg (fun k=>k=w2.heap.size)).trans hc (fun _ h=>.inl h)
      have s2:=stays (show wr.cell? ⟨B,2,none⟩=some (.slice ov m cv) by
        have:=c2 _ (Pr.refl w);rw [hvv] at this
        rw [World.cell?_of_block (hch.block B hBw (by omega))];exact this)
      rw [hvv] at hve
      rw [Value.slice.injEq] at hve
      obtain ⟨rfl,hm9,rfl⟩:=hve
      have s3:=stays (show wr.cell? ⟨g,j * 2+1,none⟩=some (.slice o2 st.2.length d2) by
        rw [World.cell?_of_block (hch.block g hgw (by omega))];exact g2)
      have t0:=stays (blk_cell (o:=0) hT);have t1:=stays (blk_cell (o:=1) hT)
      have HT:=Lib.hid hT;have Hc:=Lib.hid hc;have Hgj:=Lib.hid hgj;have Hst:=Lib.hid hst
      have hm31:m < 31:=by omega
      have u1:IntKind.i64.wrap (((j+1:Nat):Int) - 1)=(j:Int):=by rw [IntWalk.i64_in _ (by omega)];omega
      have u2:(((j+1:Nat):Int) - 1)=(j:Int):=by omega
      rw [u2]
      have v1:(0:Int)≤(j:Int):=by omega
      have v2:(j:Int) < (m:Int):=by omega
      clear h1 h2 h3 h4 h5 h6 g1 g2 g3 g4 hd4 hck hch hst hT hc hgj hk0 hk' hp hkg u1 u2 hm9
      go_upto_region 7 with fail
      have y0:=t0 _ (Pr.refl _);have y1:=t1 _ (Pr.refl _);have y2:=s2 _ (Pr.refl _);have y3:=s3 _ (Pr.refl _)
      go_region_law (first
          | (go_simp;go_at_call 82;(with_reducible refine Calls.mono (RN.out _ (Pr.drew wr)) ?_);rintro e w4 ⟨o5,c5,ob5,cb5,rfl,hl5,hk5,hb4⟩;have hp4:=(Pr.drew wr).trans hb4;have f0:=blk_frozen (o:=0) (hp4.blk HT.out);have f1:=blk_frozen (o:=1) (hp4.blk HT.out)))
      all_goals
        have Hp4:=Lib.hid hp4;have Hk5:=Lib.hid hk5
        clear y0 y1 y2 y3 t0 t1 s2 s3 hb4 hp4 hk5 f0 f1
        go_wp2_with fail
        have hz:=Hc.out.size;have hz4:=Below.size Hp4.out;have hzV:=HVs.out
        refine ⟨⟨j,lp,kp,o5,c5,by omega,by omega,by go_num,Hgj.out,blk_set (o:=1) (blk_set (o:=0) (Hp4.out.blk HT.out) _) _,hl5,?_,?_⟩,?_⟩
        · refine ((Hk5.out.setCell _ _ ?_).setCell _ _ ?_).mono fun i (hi:wr.heap.size≤i) _=>⟨by omega,by omega⟩
          · show ¬ (wr.heap.size≤w2.heap.size);omega
          · show ¬ (wr.heap.size≤w2.heap.size);omega
        · exact Chg.setCell (Chg.setCell (Hc.out.pr Hp4.out) _ _ (.inl rfl)) _ _ (.inl rfl)
        · simp [intOf]
    case neg =>
      have hkn:k=n:=by omega
      subst hkn
      have r1:=hc.blk (HR.out V HWV.out) (by omega)
      have q0:=blk_cell (o:=0) r1;have q1:=blk_cell (o:=1) r1;have q2:=blk_frozen (o:=0) r1;have q3:=blk_frozen (o:=1) r1
      have t0:=blk_cell (o:=0) hT;have t1:=blk_cell (o:=1) hT
      have hg:getT ts (k:Int)=.node l' ks':=by unfold getT;rw [if_pos (by omega)];simp [hk0]
      have hh:hasT ts (k:Int)=true:=by unfold hasT;simp;omega
      have Hg:=Lib.hid hg;have Hh:=Lib.hid hh;have Hk:=Lib.hid hk';have Hc:=Lib.hid hc
      have hm31:m < 31:=by omega
      clear r1 hT hg hh hk' hc hk0 hkg
      go_wp2_with fail
      have hp:Pr w ((wr.setCell ⟨w.heap.size,0,none⟩ (.string l')).setCell ⟨w.heap.size,1,none⟩ (.slice oa' ks'.length cap')) :=
        Pr.setCell (Pr.setCell ⟨Hc.out.os.trans HwV.out.os,Hc.out.tape.trans HwV.out.tape,Hc.out.output.trans HwV.out.output,by have:=Hc.out.size;have:=Below.size HwV.out;omega,fun i hi=>by rw [Hc.out.block i (by have:=Below.size HwV.out;omega) (by omega)];exact Below.block HwV.out i hi⟩ (by simp) _) (by simp) _
      refine bodyPost_ret (v:=.tuple #[.agg #[.string l',.slice oa' ks'.length cap'],.bool true]) (by simp [results,Tryz.results59,go_sem,q0,q1]) rfl ⟨l',ks',oa',cap',Hg.out,hl',by rw [Hh.out],?_,hp⟩
      refine ((Hk.out.setCell _ _ ?_).setCell _ _ ?_).mono fun i hi _=>?_
      · rintro ⟨h,_⟩;simp at h;omega
      · rintro ⟨h,_⟩;simp at h;omega
      · show w.heap.size≤i;omega
end Go.Proofs.YtdbnfhpgmcjngabGreatDoor
/- Walks: a book's Step and Deeds. -/
namespace Go.Proofs.YtdbnfhpgmcjngabGreatDoor
open Go Go.RowKit
variable {X:Nat→Prop}
set_option maxRecDepth 100000 in
set_option maxHeartbeats 3200000 in
theorem ownDeeds_any (ds:List Dee) (da dc) (w:World) (hd:Dees Any w ds da dc) (hpl:∀ d∈ds,d.path.length≤100000) (hn:ds.length≤1000000) :
    Calls Tryz.prog 112 #[.slice da ds.length dc] w (DeesPost w ds):=by
  have hlen:=hd.len
  have HD:=Lib.hid hd
  clear hd
  go_enter Tryz.func112,Tryz.ntmps112
  go_wp2_with fail
  go_loopw [3,8] (fun v vi wr=>∃ i:Nat,i≤ds.length∧vi=.int .i64 i∧OwnsDs w.heap.size wr v (ds.take i)∧Pr w wr) (fun _ vi _=>ds.length - (intOf vi).toNat)
  case atStart=>exact ⟨0,by omega,rfl,by rw [List.take_zero];exact OwnsDs.nil _ _,Pr.refl _⟩
  case round =>
    obtain ⟨i,hi,rfl,hown,hb⟩:=hrel
    by_cases hlt:i < ds.length
    case pos =>
      obtain ⟨b9,o9,pa,pc,e9,k0,k1,k2,k3,k4,hpi,hls⟩:=(HD.out.pr hb).get i hlt
      subst e9
      have hpl1:=hpl _ (List.getElem_mem hlt)
      have htk:=List.take_succ_eq_append_getElem hlt
      obtain ⟨D,hD⟩:∃ D,D=ds.take i:=⟨_,rfl⟩
      have hDl:D.length=i:=by rw [hD,List.length_take];omega
      rw [← hD] at htk hown
      obtain ⟨d,hd⟩:∃ d,d=ds[i]:=⟨_,rfl⟩
      rw [← hd] at k0 k1 k2 k3 k4 hpi hls hpl1 htk
      obtain ⟨k,p,a,m,s⟩:=d
      simp only at k0 k1 k2 k3 k4 hpi hls hpl1
      have CL:=Lib.hid fun u (h:Pr wr u)=>cloneInts_any p pa pc u (Flat.pr h hpi) hpl1
      have Hown:=Lib.hid hown;have Hb:=Lib.hid hb;have Htk:=Lib.hid htk;have HDl:=Lib.hid hDl;have Hls:=Lib.hid hls
      have hub:∀ j,u3.ownBlock=some j→w.heap.size≤j∧j < wr.heap.size:=fun j hj=>Hown.out.block j hj
      have Hub:=Lib.hid hub
      clear hown hb htk hDl hpi hub hD hd
      go_upto_region 5 with fail
      obtain ⟨V,hV⟩:∃ V,V=wr.alloc (.cells #[.int .i64 k,.slice pa p.length pc,.int .i64 a,.int .i64 m,.string s] 72):=⟨_,rfl⟩
      have hpV:Pr wr V:=by rw [hV];exact Pr.alloc _ _
      have hT:V.heap[wr.heap.size]? = some (.cells #[.int .i64 k,.slice pa p.length pc,.int .i64 a,.int .i64 m,.string s] 72 (0,0)):=by rw [hV];exact heap_alloc_new wr _
      have HT:=Lib.hid hT
      have x1:=blk_cell (o:=1) hT
      rw [← hV]
      clear hV hT k0 k1 k2 k3 k4
      go_upto_region 6 with (go_at_call 129;(with_reducible refine Calls.mono (CL.out _ hpV) ?_);rintro e w1 ⟨⟨v1,rfl,ho1⟩,hb1⟩;obtain ⟨bp,bc,rfl,hi1⟩:=ho1.ints;have f1:=blk_frozen (o:=1) (hb1.blk HT.out);have x2:=blk_cell (o:=1) (hb1.blk HT.out))
      obtain ⟨V1,hV1⟩:∃ V1,V1=w1.setCell ⟨wr.heap.size,1,none⟩ (.slice bp p.length bc):=⟨_,rfl⟩
      have hs1:=Below.size hpV;have hs2:=Below.size hb1
      have hVs:wr.heap.size < V.heap.size:=blk_lt HT.out
      have hT1:V1.heap[wr.heap.size]? = some (.cells #[.int .i64 k,.slice bp p.length bc,.int .i64 a,.int .i64 m,.string s] 72 (0,0)):=by rw [hV1];exact blk_set (o:=1) (hb1.blk HT.out) _
      have hp1:Pr wr V1:=by rw [hV1];exact (hpV.trans hb1).setCell (by simp) _
      have hi2:Ints (From V.heap.size) V1 p bp bc:=by rw [hV1];exact Flat.kept (kept_setCell _ _ _ _ (by show ¬ (V.heap.size≤wr.heap.size);omega)) hi1
      rw [← hV1]
      have b0:=blk_cell (o:=0) hT1;have b1:=blk_cell (o:=1) hT1;have b2:=blk_cell (o:=2) hT1;have b3:=blk_cell (o:=3) hT1;have b4:=blk_cell (o:=4) hT1
      have hq1:=Below.size hp1
      have Hi3:Hid (Ints (Apart w.heap.size u3) V1 p bp bc):=Lib.hid (Flat.mono (fun j (hj:V.heap.size≤j) _=>⟨by have:=Below.size Hb.out;omega,fun e=>by have:=(Hub.out j e).2;omega⟩) hi2)
      have Ho3:Hid (OwnsDs w.heap.size V1 u3 D):=Lib.hid (Hown.out.pr hp1)
      have HbV:=Lib.hid (Hb.out.trans hp1)
      have hsw:=Below.size Hb.out
      have hDn:D.length≤1000000000:=by have:=HDl.out;omega
      clear hV1 hi1 ho1 hb1 hpV hT1 hp1 hi2 f1 x1 x2
      go_upto_region 7 with (at_builtin;go_must (refine app_deed rfl _ _ rfl w.heap.size u3 D rfl (Ho3.out.pr (Pr.alloc _ _)) V1.heap.size rfl ⟨k,p,a,m,s⟩ bp bc (heap_alloc_new V1 _) (Flat.pr (Pr.alloc _ _) Hi3.out) Hls.out hDn (by simp;omega) ?_);intro g4 c4 w4 ho4 hg4 hd4)
      rw [← Htk.out] at ho4
      have hb4:Pr w w4:=Below.grown (HbV.out.alloc' _) hg4 (by simp;omega) (fun j hj=>(Hub.out j hj).1)
      have Ho4:=Lib.hid ho4;have Hb4:=Lib.hid hb4
      clear ho4 hg4 hd4 hb4
      go_wp2_with fail
      refine ⟨⟨i+1,by omega,by go_num,Ho4.out,Hb4.out⟩,?_⟩
      simp [intOf];omega
    case neg =>
      have hie:i=ds.length:=by omega
      subst hie
      rw [List.take_length] at hown
      obtain ⟨oa,cap,rfl,hk⟩:=hown.dees
      go_wp2_with fail
      go_ret
      exact ⟨oa,cap,rfl,hk,hb⟩
def hasS (ts:List Tr) (z:Int):Bool:=decide (1≤z∧z < ts.length)
def stepD (ts:List Tr) (z:Int):List Dee:=if 1≤z∧z < ts.length then (stepP (ts.getD (z.toNat - 1) Tr.zero) (ts.getD z.toNat Tr.zero)).1 else []
def StepPost (ts:List Tr) (z:Int) (w:World) (e:Ending) (w':World):Prop :=
  ∃ o c,e=.returned (.tuple #[.slice o (stepD ts z).length c,.bool (hasS ts z)])∧Dees (From w.heap.size) w' (stepD ts z) o c∧Pr w w'
theorem StepPost.no {ts:List Tr} {z:Int} (w:World) (h:¬ (1≤z∧z < ts.length)):StepPost ts z w (.returned (.tuple #[.slice none 0 0,.bool false])) w:=by
  have h1:stepD ts z=[]:=by unfold stepD;rw [if_neg h]
  have h2:hasS ts z=false:=by unfold hasS;rw [decide_eq_false h]
  unfold StepPost
  rw [h1,h2]
  exact ⟨none,0,rfl,Dees.nil _ _ _ _ (Nat.zero_le _),Pr.refl _⟩
set_option maxRecDepth 100000 in
set_option maxHeartbeats 3200000 in
theorem stepB_any (B:Nat) (v:Value) (ts:List Tr) (z:Int) (w:World) (hb:BookOk X w B v ts) :
    Calls Tryz.prog 68 #[.pointer (some ⟨B,0,none⟩),.int .i64 z] w (StepPost ts z w):=by
  have LN:=Lib.hid fun u (h:Pr w u)=>len_any B v ts u (hb.pr h)
  by_cases hz:z < 1
  · have Hno:=Lib.hid (StepPost.no (ts:=ts) (z:=z) w (by omega))
    have e1:decide (z < 1)=true:=decide_eq_true hz
    clear hb LN hz
    go_enter Tryz.func68,Tryz.ntmps68
    go_wp2_with fail
    go_ret2
    exact Hno.out
  obtain ⟨j,rfl⟩:∃ j:Nat,z=(j:Int)+1:=⟨(z - 1).toNat,by omega⟩
  have e1:decide ((j:Int)+1 < 1)=false:=decide_eq_false (by omega)
  by_cases hj:j+1 < ts.length
  case neg =>
    have Hno:=Lib.hid (StepPost.no (ts:=ts) (z:=(j:Int)+1) w (by omega))
    have e2:decide ((ts.length:Int)≤(j:Int)+1)=true:=by simp;omega
    clear hb hz hj
    go_enter Tryz.func68,Tryz.ntmps68
    go_wp2_with (go_at_call 39;(with_reducible refine Calls.mono (LN.out _ (Pr.refl _)) ?_);rintro e w1 ⟨rfl,rfl⟩)
    go_ret2
    exact Hno.out
  obtain ⟨g,cv,o1,d1,o2,d2,rfl,hcv,hBg,g1,g2,g3,g4⟩:=hb.rd j hj
  have hlt:j < ts.length:=by omega
  have hS:stepD ts ((j:Int)+1)=(stepP ts[j] ts[j+1]).1:=by
    unfold stepD
    rw [if_pos (by omega)]
    have h1:((j:Int)+1).toNat=j+1:=by omega
    rw [h1,Nat.add_sub_cancel];simp [List.getD,hlt,hj]
  have hH:hasS ts ((j:Int)+1)=true:=by unfold hasS;simp;omega
  obtain ⟨h1,h2,h3,h4,h5,h6⟩:=stepP_ok (hb.flt _ (List.getElem_mem hlt)) (hb.flt _ (List.getElem_mem hj))
  obtain ⟨⟨la,ka,oA,cA,hbk,_⟩,_,_,hfew,_⟩:=hb
  have c2:=blk_cell (o:=2) hbk
  rw [← hS] at g1 g3 h3 h5
  unfold StepPost
  rw [hH]
  generalize stepD ts ((j:Int)+1)=D at *
  have OD:=Lib.hid (ownDeeds_any D o1 d1 w g3.any (fun d hd=>by have:=h5 d hd;omega) (by omega))
  obtain ⟨m,hm⟩:∃ m,m=ts.length - 1:=⟨_,rfl⟩
  rw [← hm] at c2 hcv
  have e2:decide ((ts.length:Int)≤(j:Int)+1)=false:=by simp;omega
  have e4:(j:Int) < (m:Int):=by omega
  have e5:(0:Int)≤(j:Int):=by omega
  clear hS hH h1 h2 h3 h4 h5 h6 hbk g2 g3 g4 hm hz
  go_enter Tryz.func68,Tryz.ntmps68
  go_wp2_with (first
    | (go_at_call 39;(with_reducible refine Calls.mono (LN.out _ (Pr.refl _)) ?_);rintro e w1 ⟨rfl,rfl⟩)
    | (go_at_call 112;(with_reducible refine Calls.mono OD.out ?_);rintro e w2 ⟨oc,cc,rfl,hk2,hb2⟩))
  go_ret2
  exact ⟨oc,cc,rfl,hk2,hb2⟩
def cntS9 (l:List Stp):Nat:=(l.map fun s=>s.1.length).sum
def cntD (ts:List Tr):Nat:=cntS9 (stepsP ts)
theorem cntS9_succ (l:List Stp) (i:Nat) (h:i < l.length):cntS9 (l.take (i+1))=cntS9 (l.take i)+l[i].1.length:=by
  unfold cntS9;rw [List.take_succ_eq_append_getElem h];simp only [List.map_append,List.sum_append,List.map_cons,List.map_nil,List.sum_cons,List.sum_nil,Nat.add_zero]
theorem cntS9_le (l:List Stp) (h:∀ s∈l,s.1.length≤80):cntS9 l≤80 * l.length:=by
  unfold cntS9
  induction l with
  | nil=>simp
  | cons a l ih=>have:=ih (fun s hs=>h s (by simp [hs]));have:=h a (by simp);simp only [List.map_cons,List.sum_cons,List.length_cons];omega
theorem stepsP_few {ts:List Tr} (h:∀ t∈ts,fault t=0):∀ s∈stepsP ts,s.1.length≤80:=by
  intro s hs
  obtain ⟨i,hi,rfl⟩:=List.getElem_of_mem hs
  have hl:=stepsP_length ts (by intro e;subst e;simp [stepsP] at hi)
  obtain ⟨_,h3⟩:=stepsP_get ts i (by omega)
  rw [h3]
  exact (stepP_ok (h _ (List.getElem_mem _)) (h _ (List.getElem_mem _))).2.2.1
set_option maxRecDepth 100000 in
set_option maxHeartbeats 3200000 in
theorem deeds_any (B:Nat) (v:Value) (ts:List Tr) (w:World) (hb:BookOk X w B v ts) :
    Calls Tryz.prog 40 #[.pointer (some ⟨B,0,none⟩)] w fun e w'=>e=.returned (.int .i64 (cntD ts))∧Pr w w':=by
  obtain ⟨⟨la,ka,oA,cA,hbk,_⟩,⟨ys,hrow,hys⟩,hflt,hfew,_⟩:=hb
  obtain ⟨oa,cap,hv,hc1,hc2,hc3⟩:=ownsRow_slice hrow
  subst hv
  have c2:=blk_cell (o:=2) hbk
  obtain ⟨L,hL⟩:∃ L,L=stepsP ts:=⟨_,rfl⟩
  have hLl:L.length≤30:=by
    rw [hL]
    cases ts with
    | nil=>simp [stepsP]
    | cons t ts=>have:=stepsP_length (t :: ts) (by simp);omega
  have hfw:=stepsP_few hflt
  unfold cntD
  rw [← hL] at hfw hrow hys c2 hc1 hc3 ⊢
  have CE:Hid (∀ i (_:i < L.length),∃ g o1 c1 o2 c2,oa=some ⟨g,0,none⟩∧w.cell? ⟨g,i * 2,none⟩=some (.slice o1 L[i].1.length c1)∧w.cell? ⟨g,i * 2+1,none⟩=some (.slice o2 L[i].2.length c2)):=Lib.hid fun i hi=>by
    obtain ⟨g,rfl,_⟩:=hc3 (by omega)
    obtain ⟨o1,c1,o2,c2,g1,g2,_⟩:=hys.get i hi
    have hc:=hrow.cells (g:=g) rfl
    refine ⟨g,o1,c1,o2,c2,rfl,?_,?_⟩
    · have:=hc _ _ g1;rw [Addr.add_lit] at this;simpa using this
    · have:=hc _ _ g2;rw [Addr.add_lit] at this;simpa using this
  have hle:∀ i,cntS9 (L.take i)≤2400:=fun i=>by
    have:=cntS9_le (L.take i) (fun s hs=>hfw s (List.mem_of_mem_take hs))
    have h2:(L.take i).length≤L.length:=by rw [List.length_take];omega
    omega
  have Hle:=Lib.hid hle;have Hfw:=Lib.hid hfw
  clear hbk hrow hys hflt hfew hc3 hL hle hfw
  go_enter Tryz.func40,Tryz.ntmps40
  go_wp2_with fail
  go_loopw [3,11] (fun v vi wr=>∃ i:Nat,i≤L.length∧vi=.int .i64 i∧v=.int .i64 (cntS9 (L.take i):Nat)∧Pr w wr) (fun _ vi _=>L.length - (intOf vi).toNat)
  case atStart=>exact ⟨0,by omega,rfl,by simp [cntS9],Pr.refl _⟩
  case round =>
    obtain ⟨i,hi,rfl,rfl,hb⟩:=hrel
    by_cases hlt:i < L.length
    case pos =>
      obtain ⟨g,o1,d1,o2,d2,rfl,g1,g2⟩:=CE.out i hlt
      have hs:=cntS9_succ L i hlt
      have Hs:=Lib.hid hs
      have h1:=Hle.out (i+1)
      rw [hs] at h1
      have g1:=hb.cell g1;have g2:=hb.cell g2
      generalize L[i]=st at *
      generalize cntS9 (L.take i)=c at *
      have Hb:=Lib.hid hb
      clear hs hb
      go_wp2_with fail
      refine ⟨⟨i+1,by omega,by go_num,by rw [Hs.out];go_num,Hb.out.alloc' _⟩,?_⟩
      simp [intOf];omega
    case neg =>
      have hie:i=L.length:=by omega
      subst hie
      rw [List.take_length]
      go_wp2_with fail
      go_ret
      exact ⟨rfl,hb⟩
end Go.Proofs.YtdbnfhpgmcjngabGreatDoor
