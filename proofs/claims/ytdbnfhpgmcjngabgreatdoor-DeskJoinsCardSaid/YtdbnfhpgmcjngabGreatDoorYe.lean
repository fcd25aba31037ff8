/- Walks: script.names. -/
import Derived.Test.YtdbnfhpgmcjngabGreatDoorByc
import Derived.Test.YtdbnfhpgmcjngabGreatDoorBda
import Derived.Test.YtdbnfhpgmcjngabGreatDoorBwn
import Derived.Test.YtdbnfhpgmcjngabGreatDoorBpl
namespace Go.Proofs.YtdbnfhpgmcjngabGreatDoor
open Go Go.RowKit
section
variable {ops:Array Oper} {o:Oper} {a:Act} {w:World} {Q:Exit→Act→World→Prop} {K:Act→World→Prop} {E:Prop}
theorem step_deed (hgd:o.guard=none) (s x:Operand) (ho:o.op=.call { callee:=.builtin .append,args:=#[s,x],argTypes:=#[106,106] })
    (b:Nat) (v:Value) (ds:List Dee) (hs:a.eval s=v) (hown:OwnsDs b w v ds) (B:Nat) (hx:a.eval x=.slice (some ⟨B,0,none⟩) 1 1) (d:Dee) (pa pc)
    (hB:w.heap[B]? = some (.cells #[.int .i64 d.kind,.slice pa d.path.length pc,.int .i64 d.pos,.int .i64 d.many,.string d.lab] 72 (0,0))) (hd:Ints (Apart b v) w d.path pa pc) (hl:d.lab.size≤maxLen) (hlen:ds.length≤1000000000) (hbase:b≤w.heap.size)
    (h:∀ g cap w',OwnsDs b w' (.slice (some ⟨g,0,none⟩) (ds.length+1) cap) (ds ++ [d])→w.grownBy w' v.ownBlock→(v.ownBlock=some g∨g=w.heap.size)→K (a.put o.dst (.slice (some ⟨g,0,none⟩) (ds.length+1) cap)) w') :
    if Region.wanted o (yielded ops a.tmps)=true then Oper.wp Tryz.prog o a w K Q else E:=by
  obtain ⟨i0,hi,hz0,hz1,hz2⟩:=info_parts info_deed
  obtain ⟨xs,h1,h2⟩:=hown
  have hdv:DeeV (Apart b v) w d [.int .i64 d.kind,.slice pa d.path.length pc,.int .i64 d.pos,.int .i64 d.many,.string d.lab]:=⟨pa,pc,rfl,hd,hl⟩
  refine step_append_lies w hgd s x _ ho b _ i0 _ 5 64 under_deeds hi hz0 hz1 hz2 rfl (by omega) v ds.length xs hs h1 ⟨B,0,none⟩ 1 1 [.int .i64 d.kind,.slice pa d.path.length pc,.int .i64 d.pos,.int .i64 d.many,.string d.lab] hx rfl (World.news_of_block (cs:=#[.int .i64 d.kind,.slice pa d.path.length pc,.int .i64 d.pos,.int .i64 d.many,.string d.lab]) hB)
    hdv.one (by omega) (by unfold maxLen;omega) (by omega) hbase w.heap.size rfl ?_
  intro g cap w' g1 g2 g3 _
  exact h g cap w' (OwnsDs.grown (v':=.slice (some ⟨g,0,none⟩) (ds.length+1) cap) h2 (us:=[d]) ⟨_,[],by simp,hdv,rfl⟩ g1 g2 (fun k hk=>by cases hk;exact g3)) g2 g3
end
def DeesPost (w:World) (ds:List Dee) (e:Ending) (w':World):Prop:=∃ oa cap,e=.returned (.slice oa ds.length cap)∧Dees (From w.heap.size) w' ds oa cap∧Pr w w'
theorem namesL_append (x:Tr) (xs ys:List Nd) (m:List Nat):∀ l:List Nat,namesL x xs ys (l ++ m)=namesL x xs ys l ++ namesL x xs ys m
  | []=>rfl
  | i :: l=>by
    rw [List.cons_append,namesL,namesL,namesL_append x xs ys m l]
    split <;> simp
theorem namesL_succ (x:Tr) (xs ys:List Nd) (i:Nat):namesL x xs ys (List.range' 0 (i+1))=namesL x xs ys (List.range' 0 i) ++ if labN xs i=labN ys i then [] else [⟨1,pathT x i,0,0,labN ys i⟩]:=by
  rw [List.range'_1_concat,namesL_append,Nat.zero_add]
  congr 1
theorem namesL_le (x:Tr) (xs ys:List Nd) (i:Nat):(namesL x xs ys (List.range' 0 i)).length≤i:=by
  have h:∀ l:List Nat,(namesL x xs ys l).length≤l.length:=fun l=>by
    induction l with
    | nil=>simp [namesL]
    | cons k l ih =>
      rw [namesL]
      split <;> rw [List.length_cons] <;> first | omega | (rw [List.length_cons];omega)
  have:=h (List.range' 0 i)
  rw [List.length_range'] at this;exact this
set_option maxRecDepth 100000 in
set_option maxHeartbeats 6400000 in
theorem names_any (l:ByteArray) (ks:List Tr) (oa cap) (m:ByteArray) (js:List Tr) (ob cbp) (w:World) (hl:l.size≤maxLen) (hk:Kids Any w ks oa cap) (hm:m.size≤maxLen) (hj:Kids Any w js ob cbp)
    (fa:fault (.node l ks)=0) (fb:fault (.node m js)=0) (hsz:(Tr.node l ks).sz=(Tr.node m js).sz) :
    Calls Tryz.prog 107 #[.agg #[.string l,.slice oa ks.length cap],.agg #[.string m,.slice ob js.length cbp]] w (DeesPost w (namesL (.node l ks) (nds (.node l ks)) (nds (.node m js)) (List.range' 0 (Tr.node l ks).sz))):=by
  obtain ⟨x,hx⟩:∃ x,x=Tr.node l ks:=⟨_,rfl⟩
  have hxs:x.sz≤40:=by rw [hx];exact (fault_zero.1 fa).1
  obtain ⟨na,hna⟩:∃ na,na=nds (.node l ks):=⟨_,rfl⟩
  obtain ⟨nb,hnb⟩:∃ nb,nb=nds (.node m js):=⟨_,rfl⟩
  have hla:na.length=x.sz:=by rw [hna,nds_length,hx]
  have hlb:nb.length=x.sz:=by rw [hnb,nds_length,← hsz,hx]
  have hnlab:∀ i (h:i < nb.length),nb[i].lab.size≤maxLen:=fun i h=>by
    have h1:=labN_is fb i (by rw [hnb,nds_length] at h;exact h)
    rw [← hnb,labN_get _ _ h,isLab_eq] at h1
    simp only [Bool.and_eq_true,decide_eq_true_eq] at h1
    unfold maxLen;omega
  obtain ⟨W,hW⟩:∃ W,W=(w.alloc (.cells #[.string l,.slice oa ks.length cap] 46)).alloc (.cells #[.string m,.slice ob js.length cbp] 46):=⟨_,rfl⟩
  have hwW:Pr w W:=by rw [hW];exact (Pr.alloc _ _).alloc' _
  have s0:=stays (show W.cell? ⟨w.heap.size,0,none⟩=some (.string l) by rw [hW];simp [go_sem])
  have s1:=stays (show W.cell? ⟨w.heap.size,1,none⟩=some (.slice oa ks.length cap) by rw [hW];simp [go_sem])
  have s2:=stays (show W.cell? ⟨w.heap.size+1,0,none⟩=some (.string m) by rw [hW];simp [go_sem])
  have s3:=stays (show W.cell? ⟨w.heap.size+1,1,none⟩=some (.slice ob js.length cbp) by rw [hW];simp [go_sem])
  have A1:=Lib.hid fun W' (h:Pr W W')=>orderOf_len l ks oa cap W' hl (hk.pr (hwW.trans h)) fa
  have B1:=Lib.hid fun W' (h:Pr W W')=>orderOf_len m js ob cbp W' hm (hj.pr (hwW.trans h)) fb
  have hpth:∀ i,pathZ na (i:Nat)=pathT x i:=fun i=>by rw [hna,hx,pathZ_nat,pathN_nds]
  rw [← hna] at A1
  rw [← hnb] at B1
  rw [← hna,← hnb,← hx]
  have Hla:=Lib.hid hla;have Hlb:=Lib.hid hlb;have Hpth:=Lib.hid hpth;have HW:=Lib.hid hwW;have Hnl:=Lib.hid hnlab
  have hnal:na.length≤1000000:=by omega
  clear hpth hwW hna hnb hk hj fa fb hsz hnlab hx hla hlb
  go_enter Tryz.func107,Tryz.ntmps107
  go_upto_region 1 with fail
  rw [← hW];clear hW
  have x0:=s0 _ (Pr.refl _);have x1:=s1 _ (Pr.refl _)
  go_wp2_with (first
    | (go_at_call 108;(with_reducible refine Calls.mono (A1.out _ (Pr.refl _)) ?_);rintro e w1 ⟨g1,c1,rfl,hn1,hb1⟩;have x2:=s2 _ hb1;have x3:=s3 _ hb1)
    | (go_at_call 108;(with_reducible refine Calls.mono (B1.out _ hb1) ?_);rintro e w2 ⟨g2,c2,rfl,hn2,hb2⟩))
  have HN1:=Lib.hid (hn1.pr hb2);have HN2:=Lib.hid hn2;have HWw:=Lib.hid (HW.out.trans (hb1.trans hb2))
  clear hn1 hn2 hb1 hb2 x0 x1 x2 x3 s0 s1 s2 s3 A1 B1
  go_loopw [9,23] (fun v vi wr=>∃ i:Nat,i≤na.length∧vi=.int .i64 i∧OwnsDs w2.heap.size wr v (namesL x na nb (List.range' 0 i))∧Pr w2 wr) (fun _ vi _=>na.length - (intOf vi).toNat)
  case atStart=>exact ⟨0,by omega,rfl,OwnsDs.nil _ _,Pr.refl _⟩
  case round =>
    obtain ⟨i,hi,rfl,hown,hb⟩:=hrel
    have Hown:=Lib.hid hown;clear hown
    by_cases hlt:i < na.length
    case pos =>
      have hlt2:i < nb.length:=by have:=Hla.out;have:=Hlb.out;omega
      obtain ⟨b1,o1,e1,c0,_,_⟩:=HN1.out.get i hlt
      cases e1
      obtain ⟨b2,o2,e2,d0,_,_⟩:=HN2.out.get i hlt2
      cases e2
      have hst:=namesL_succ x na nb i
      rw [labN_get _ _ hlt,labN_get _ _ hlt2] at hst
      have hdl:=namesL_le x na nb i
      have hyl:=Hnl.out i hlt2
      generalize na[i].lab=xl at *
      generalize nb[i].lab=yl at *
      generalize namesL x na nb (List.range' 0 i)=D at *
      rw [Nat.zero_add] at c0 d0
      have C0:=stays c0;have D0:=stays d0
      have p0:=C0 _ hb;have q0:=D0 _ hb
      have Hst:=Lib.hid hst;have Hyl:=Lib.hid hyl
      have hub:∀ j,u9.ownBlock=some j→w2.heap.size≤j∧j < wr.heap.size:=fun j hj=>Hown.out.block j hj
      have Hub:=Lib.hid hub
      have hk0:(0:Int)≤i:=by omega
      have hk1:(i:Int) < na.length:=by omega
      have hk2:(i:Int) < nb.length:=by omega
      clear hst hyl hub c0 d0
      by_cases he:xl=yl
      case pos =>
        have e1:(xl.toList==yl.toList)=true:=by rw [he];simp
        have He:=Lib.hid he
        clear he
        go_wp2_with fail
        go_quiet (fail)
        go_wp2_with fail
        refine ⟨⟨i+1,by omega,by go_num,by rw [Hst.out,if_pos He.out,List.append_nil];exact Hown.out.pr (Pr.drewN _ _),hb.drewN' _⟩,?_⟩
        simp [intOf];omega
      case neg =>
        have e1:(xl.toList==yl.toList)=false:=by simpa using toList_ne he
        have He:=Lib.hid he
        clear he
        go_wp2_with fail
        go_quiet (fail)
        go_upto_region 8 with fail
        obtain ⟨wz,hwz⟩:∃ wz,wz=wr.drewN nq:=⟨_,rfl⟩
        have hbz:Pr w2 wz:=by rw [hwz];exact hb.drewN' _
        have hsz:wz.heap.size=wr.heap.size:=by rw [hwz];rfl
        have hoz:OwnsDs w2.heap.size wz u9 D:=by rw [hwz];exact Hown.out.pr (Pr.drewN _ _)
        rw [← hwz]
        have Hoz:=Lib.hid hoz;have Hsz:=Lib.hid hsz
        have PT:=Lib.hid fun W' (h:Pr w2 W')=>path_any na hnal i _ c1 W' (HN1.out.pr h)
        rw [Hpth.out i] at PT
        have hpl:=pathT_length x i
        generalize pathT x i=p at *
        clear hwz hsz hoz p0 q0 Hown
        have HAP:Hid (∀ w3 bp bc o,Ints (From wz.drew.heap.size) w3 p bp bc→Ints (Apart w2.heap.size u9) (w3.alloc o) p bp bc):=Lib.hid fun w3 bp bc o h=>Flat.pr (Pr.alloc _ _) (Flat.mono (fun j (hj:wz.drew.heap.size≤j) _=>by
          have h1:wz.drew.heap.size=wr.heap.size:=Hsz.out
          exact ⟨by have:=Below.size hb;omega,fun e=>by have:=(Hub.out j e).2;omega⟩) h)
        have HOZ:Hid (∀ w3 o,Pr wz.drew w3→OwnsDs w2.heap.size (w3.alloc o) u9 D):=Lib.hid fun w3 o h=>((Hoz.out.pr (Pr.drew _)).pr h).pr (Pr.alloc _ _)
        have HD9:Hid (D.length≤1000000000):=Lib.hid (by have:=Hla.out;omega)
        have HBS:Hid (∀ w3 o,Pr w2 w3→w2.heap.size≤(w3.alloc o).heap.size):=Lib.hid fun w3 o h=>Below.size (h.alloc' o)
        have HP4:Hid (∀ w3 w4 o,Pr w2 w3→(w3.alloc o).grownBy w4 u9.ownBlock→Pr w2 w4):=Lib.hid fun w3 w4 o h hg=>Below.grown (h.alloc' _) hg (Below.size (h.alloc' o)) (fun j hj=>(Hub.out j hj).1)
        go_region_held3 (fun W'=>Pr w2 W')
          (first | with_reducible exact hbz.drew' | with_reducible exact hp | with_reducible exact hp.alloc' _ | with_reducible exact hp4)
          (first
            | (go_at_call 138;(with_reducible refine Calls.mono (PT.out _ hbz.drew') ?_);rintro e w3 ⟨v3,rfl,ho3,hb3⟩;obtain ⟨bp,bc,rfl,hi3⟩:=ho3.ints;have hp:=hbz.drew'.trans hb3)
            | ((refine step_deed rfl _ _ rfl w2.heap.size u9 D rfl (HOZ.out _ _ hb3) w3.heap.size rfl ⟨1,p,0,0,yl⟩ bp bc (heap_alloc_new w3 _) (HAP.out _ _ _ _ hi3) Hyl.out HD9.out (HBS.out _ _ hp) ?_);intro g4 c4 w4 ho4 hg4 hd4;have hp4:Pr w2 w4:=HP4.out _ _ _ hp hg4))
        go_wp2_with fail
        refine ⟨⟨i+1,by omega,by go_num,by rw [Hst.out,if_neg He.out];exact ho4,hp4⟩,?_⟩
        simp [intOf];omega
    case neg =>
      have hie:i=na.length:=by omega
      subst hie
      obtain ⟨o7,c7,rfl,hds⟩:=Hown.out.dees
      rw [Hla.out] at hds ⊢
      have Hds:=Lib.hid hds
      clear hds Hown
      go_wp2_with fail
      go_ret
      exact ⟨o7,c7,rfl,Hds.out.mono (fun j (hj:w2.heap.size≤j) _=>show w.heap.size≤j by have:=Below.size HWw.out;omega),HWw.out.trans hb⟩
end Go.Proofs.YtdbnfhpgmcjngabGreatDoor
