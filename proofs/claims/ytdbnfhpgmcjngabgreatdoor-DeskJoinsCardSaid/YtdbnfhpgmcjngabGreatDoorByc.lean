/- Walks: script.without. -/
import Derived.Test.YtdbnfhpgmcjngabGreatDoorBya
import Derived.Test.YtdbnfhpgmcjngabGreatDoorRw
import Derived.Test.YtdbnfhpgmcjngabGreatDoorBpl
import Derived.Test.YtdbnfhpgmcjngabGreatDoorBds
import Derived.Test.YtdbnfhpgmcjngabGreatDoorBcl
namespace Go.Proofs.YtdbnfhpgmcjngabGreatDoor
open Go Go.RowKit
theorem delL_snoc (t:Tr):∀ (l pre:List Nat) (n:Nat),delL t pre (l ++ [n])=delL t pre l ++ [⟨2,whT (inL (pre ++ l)) 0 t n,0,0,⟨#[]⟩⟩]
  | [],pre,n=>by simp [delL]
  | m :: l,pre,n=>by
    rw [List.cons_append,delL,delL_snoc t l (pre ++ [m]) n,delL,List.append_assoc];rfl
theorem delL_path (t:Tr):∀ (l pre:List Nat),∀ d∈delL t pre l,d.path.length≤t.sz
  | [],pre,d,h=>by simp [delL] at h
  | m :: l,pre,d,h=>by
    rw [delL] at h
    rcases List.mem_cons.1 h with rfl | h
    · exact whT_length _ _ _ _
    · exact delL_path t l _ d h
theorem goneOk_take {t:Tr} {L:List Nat} (hn:∀ n∈L,n+1 < t.sz) (i:Nat):GoneOk (nds t) ((L.map Int.ofNat).take i) (inL (L.take i)):=by
  refine ⟨fun j=>?_,fun v h hg=>?_⟩
  · rw [← List.map_take]
    unfold inL
    rw [decide_eq_decide,List.mem_map]
    constructor
    · rintro ⟨a,ha,e⟩
      have e1:(a:Int)=(j:Int):=e
      have:a=j:=by omega
      exact this ▸ ha
    · intro h;exact ⟨j,h,rfl⟩
  · have hv:v∈L:=List.mem_of_mem_take (by simpa [inL] using hg)
    have h1:=hn v hv
    rcases par_parts h with ⟨_,h2⟩ | ⟨m,h2,h3,h4,_⟩
    · omega
    · rw [parN_get _ _ h] at h4;exact ⟨m,h2,h3,h4⟩
def WoutPost (w:World) (t:Tr) (L:List Nat) (e:Ending) (w':World):Prop :=
  ∃ l ks oa cap o7 c7 o8 c8,prune (inL L) t=.node l ks∧l.size≤maxLen∧e=.returned (.tuple #[.agg #[.string l,.slice oa ks.length cap],.slice o7 (delL t [] L).length c7,.slice o8 (undoL t L).length c8])∧Kids (From w.heap.size) w' ks oa cap∧Dees (From w.heap.size) w' (delL t [] L) o7 c7∧Dees (From w.heap.size) w' (undoL t L) o8 c8∧Pr w w'
set_option maxRecDepth 100000 in
set_option maxHeartbeats 6400000 in
theorem without_any (l:ByteArray) (ks:List Tr) (oa cap) (nd:List Nd) (hnd:nd=nds (.node l ks)) (ob cb) (L:List Nat) (xs:List Int) (hxs:xs=L.map Int.ofNat) (og cg) (w:World) (hl:l.size≤maxLen) (ft:fault (.node l ks)=0)
    (hk:Kids Any w ks oa cap) (hN:Nds Any w nd ob cb) (hx:Ints Any w xs og cg) (hL:L.Pairwise (fun a b=>a < b)) (hn:∀ n∈L,n+1 < (Tr.node l ks).sz) (hLl:L.length≤80) :
    Calls Tryz.prog 104 #[.agg #[.string l,.slice oa ks.length cap],.slice ob nd.length cb,.slice og xs.length cg] w (WoutPost w (.node l ks) L):=by
  have hxl:xs.length=L.length:=by rw [hxs,List.length_map]
  have hszf:=(fault_zero.1 ft).1
  have hndl:nd.length≤1000000:=by rw [hnd,nds_length];omega
  have hup:UpOk nd:=by rw [hnd];exact upOk_nds _
  have hlen:=Ints.len hx
  obtain ⟨back,hdel⟩:=del_ok ft L [] 0 (by rw [List.nil_append];exact hL) hn
  rw [inL_nil,prune_none,List.nil_append] at hdel
  have hund:undoL (.node l ks) L=back:=by unfold undoL;rw [hdel]
  rw [← hund] at hdel
  have hrun:=runT_ok ft (by rw [delL_length];exact hLl) hdel
  have hpth:∀ d∈delL (.node l ks) [] L,d.path.length≤100000:=fun d hd=>by have:=delL_path _ _ _ d hd;omega
  obtain ⟨W,hW⟩:∃ W,W=(w.alloc (.cells #[.string l,.slice oa ks.length cap] 46)).alloc (.cells #[.string ⟨#[]⟩,.slice none 0 0] 46):=⟨_,rfl⟩
  have hwW:Pr w W:=by rw [hW];exact (Pr.alloc _ _).alloc' _
  have hWs:W.heap.size=w.heap.size+2:=by rw [hW];simp
  have hT0:W.heap[w.heap.size]? = some (.cells #[.string l,.slice oa ks.length cap] 46 (0,0)):=by
    rw [hW];exact (Pr.alloc _ _).blk (heap_alloc_new w (.cells #[.string l,.slice oa ks.length cap] 46))
  have hR1:W.heap[w.heap.size+1]? = some (.cells #[.string ⟨#[]⟩,.slice none 0 0] 46 (0,0)):=by
    rw [hW];simpa using heap_alloc_new (w.alloc (.cells #[.string l,.slice oa ks.length cap] 46)) (.cells #[.string ⟨#[]⟩,.slice none 0 0] 46)
  have HG:=Lib.hid fun i=>goneOk_take hn i
  have HW:=Lib.hid hwW;have HWs:=Lib.hid hWs;have HK:=Lib.hid hk;have HT:=Lib.hid hT0;have HR:=Lib.hid hR1
  have HN:=Lib.hid hN;have HX:=Lib.hid hx;have Hnd:=Lib.hid hnd;have Hxs:=Lib.hid hxs;have Hup:=Lib.hid hup;have Hrun:=Lib.hid hrun;have Hpth:=Lib.hid hpth;have Hn:=Lib.hid hn;have HL:=Lib.hid hL
  have Hxl:=Lib.hid hxl
  clear hwW hWs hT0 hR1 hk hN hx hnd hxs hup hrun hpth hdel hund hn hL hxl
  go_enter Tryz.func104,Tryz.ntmps104
  go_upto_region 1 with fail
  rw [← hW];clear hW
  go_wp2_with fail
  go_loopw [9,18] (fun v vi wr=>∃ i:Nat,i≤xs.length∧vi=.int .i64 i∧OwnsDs W.heap.size wr v (delL (.node l ks) [] (L.take i))∧Pr W wr) (fun _ vi _=>xs.length - (intOf vi).toNat)
  case atStart=>exact ⟨0,by omega,rfl,by rw [List.take_zero];exact OwnsDs.nil _ _,Pr.refl _⟩
  case round =>
    obtain ⟨i,hi,rfl,hown,hb⟩:=hrel
    have Hown:=Lib.hid hown;clear hown
    by_cases hlt:i < xs.length
    case pos =>
      have hltL:i < L.length:=by have:=Hxl.out;omega
      obtain ⟨n,hnn⟩:∃ n,n=L[i]:=⟨_,rfl⟩
      obtain ⟨bg,og',hog,c0⟩:=Ints.get (Flat.pr (HW.out.trans hb) HX.out) i hlt
      have hxi:xs[i]=(n:Int):=by have h:=Hxs.out;subst h;rw [List.getElem_map,← hnn];rfl
      rw [hxi] at c0
      have hn1:=Hn.out n (by rw [hnn];exact List.getElem_mem hltL)
      obtain ⟨ys,hys⟩:∃ ys,ys=xs.take i:=⟨_,rfl⟩
      have hyl:ys.length=i:=by rw [hys,List.length_take];omega
      have hgy:GoneOk nd ys (inL (L.take i)):=by rw [hys,Hxs.out,Hnd.out];exact HG.out i
      have hyi:Ints Any wr ys og cg:=by rw [hys];exact Ints.cutP (Flat.pr (HW.out.trans hb) HX.out) i (by omega)
      have hnl:n < nd.length:=by rw [Hnd.out,nds_length];omega
      have hwh:whN nd (inL (L.take i)) n=whT (inL (L.take i)) 0 (.node l ks) n:=by
        rw [Hnd.out]
        refine whN_is (fun j hj=>?_) hn1
        simp only [inL,decide_eq_false_iff_not]
        intro hm
        obtain ⟨a,ha,e⟩:=List.getElem_of_mem hm
        rw [List.length_take] at ha
        rw [List.getElem_take] at e
        have:=List.pairwise_iff_getElem.1 HL.out a i (by omega) hltL (by omega)
        omega
      have WH:=where_any nd Hup.out hndl ys (inL (L.take i)) hgy n ob cb og cg wr hnl (HN.out.pr (HW.out.trans hb)) hyi
      rw [hyl,hwh] at WH
      have hds:delL (.node l ks) [] (L.take (i+1))=delL (.node l ks) [] (L.take i) ++ [⟨2,whT (inL (L.take i)) 0 (.node l ks) n,0,0,⟨#[]⟩⟩]:=by
        rw [List.take_succ_eq_append_getElem hltL,delL_snoc,← hnn,List.nil_append]
      obtain ⟨p,hp⟩:∃ p,p=whT (inL (L.take i)) 0 (.node l ks) n:=⟨_,rfl⟩
      have hdl:(delL (.node l ks) [] (L.take i)).length≤1000000000:=by rw [delL_length,List.length_take];omega
      rw [← hp] at WH hds
      have hds':=hds
      generalize delL (.node l ks) [] (L.take i)=D at *
      have Hds:=Lib.hid hds;have WH2:=Lib.hid WH;have Hb:=Lib.hid hb
      have hq0:=Below.size hb
      have hic:i≤cg:=by have h:=HX.out.1.1;rw [List.length_map] at h;omega
      have hub:∀ j,u9.ownBlock=some j→W.heap.size≤j∧j < wr.heap.size:=fun j hj=>Hown.out.block j hj
      have Hub:=Lib.hid hub
      have Hdl:=Lib.hid hdl
      clear WH hds hds' hp hwh hgy hyi hys hyl hxi hnn hub hdl hb
      subst hog
      go_upto_region 6 with (go_at_call 136;(with_reducible refine Calls.mono WH2.out ?_);rintro e w1 ⟨v1,rfl,ho1,hb1⟩;obtain ⟨bp,bc,rfl,hi1⟩:=ho1.ints)
      obtain ⟨V1,hV1⟩:∃ V,V=w1.alloc (.cells #[.int .i64 2,.slice bp p.length bc,.int .i64 0,.int .i64 0,.string ⟨#[]⟩] 72):=⟨_,rfl⟩
      have hpV:Pr w1 V1:=by rw [hV1];exact Pr.alloc _ _
      have b0:V1.cell? ⟨w1.heap.size,0,none⟩=some (.int .i64 2):=by rw [hV1];simp [go_sem]
      have b1:V1.cell? ⟨w1.heap.size,1,none⟩=some (.slice bp p.length bc):=by rw [hV1];simp [go_sem]
      have b2:V1.cell? ⟨w1.heap.size,2,none⟩=some (.int .i64 0):=by rw [hV1];simp [go_sem]
      have b3:V1.cell? ⟨w1.heap.size,3,none⟩=some (.int .i64 0):=by rw [hV1];simp [go_sem]
      have b4:V1.cell? ⟨w1.heap.size,4,none⟩=some (.string ⟨#[]⟩):=by rw [hV1];simp [go_sem]
      rw [← hV1]
      have hq1:=Below.size hb1;have hq2:=Below.size hpV
      have Hi3:Hid (Ints (Apart W.heap.size u9) V1 p bp bc):=Lib.hid (Flat.mono (fun j (hj:wr.heap.size≤j) _=>⟨by omega,fun e=>by have:=(Hub.out j e).2;omega⟩) (Flat.pr hpV hi1))
      have Ho3:Hid (OwnsDs W.heap.size V1 u9 D):=Lib.hid ((Hown.out.pr hb1).pr hpV)
      have HbV:=Lib.hid ((Hb.out.trans hb1).trans hpV)
      have hlab:(⟨#[]⟩:ByteArray).size≤maxLen:=by unfold maxLen;simp [ByteArray.size]
      have Hlab:=Lib.hid hlab
      clear hV1 hi1 ho1 hb1 hpV hlab
      go_upto_region 7 with (at_builtin;go_must (refine app_deed rfl _ _ rfl W.heap.size u9 D rfl (Ho3.out.pr (Pr.alloc _ _)) V1.heap.size rfl ⟨2,p,0,0,⟨#[]⟩⟩ bp bc (heap_alloc_new V1 _) (Flat.pr (Pr.alloc _ _) Hi3.out) Hlab.out Hdl.out (by simp;omega) ?_);intro g4 c4 w4 ho4 hg4 hd4)
      rw [← Hds.out] at ho4
      have hb4:Pr W w4:=Below.grown (HbV.out.alloc' _) hg4 (by simp;omega) (fun j hj=>(Hub.out j hj).1)
      have Ho4:=Lib.hid ho4;have Hb4:=Lib.hid hb4
      clear ho4 hg4 hd4 hb4
      go_wp2_with fail
      refine ⟨⟨i+1,by omega,by go_num,Ho4.out,Hb4.out⟩,?_⟩
      simp [intOf];omega
    case neg =>
      have hie:i=L.length:=by have:=Hxl.out;omega
      have hown2:=Hown.out
      rw [hie,List.take_length] at hown2
      obtain ⟨o7,c7,rfl,hds⟩:=hown2.dees
      have hT:=hb.blk HT.out
      have t0:=blk_cell (o:=0) hT;have t1:=blk_cell (o:=1) hT
      have R1:=run_any l ks oa cap (delL (.node l ks) [] L) o7 c7 wr hl (HK.out.pr (HW.out.trans hb)) hds.any Hpth.out
      obtain ⟨D,hD⟩:∃ D,D=delL (.node l ks) [] L:=⟨_,rfl⟩
      have hrun:=Hrun.out
      rw [← hD] at R1 hds hrun ⊢
      have R2:=Lib.hid R1;have Hds:=Lib.hid hds;have HD:=Lib.hid hD;have Hb:=Lib.hid hb;have Hrun2:=Lib.hid hrun
      clear R1 hds hD hb hown2 Hown hT hrun Hrun Hpth
      go_upto_region 9 with (go_at_call 82;(with_reducible refine Calls.mono R2.out ?_);rintro e w1 ⟨l2,ks2,oa2,cap2,bs,o8,c8,rc,ri,hr,hl2,rfl,hk2,hbs,_,hb1⟩)
      have hre:=Hrun2.out.symm.trans hr
      obtain ⟨V,hV⟩:∃ V,V=(w1.alloc (.cells #[.string l2,.slice oa2 ks2.length cap2] 46)).alloc (.cells #[.int .i64 rc,.int .i64 ri] 29):=⟨_,rfl⟩
      have hpV:Pr w1 V:=by rw [hV];exact (Pr.alloc _ _).alloc' _
      have n0:V.cell? ⟨w1.heap.size,0,none⟩=some (.string l2):=by rw [hV];simp [go_sem]
      have n1:V.cell? ⟨w1.heap.size,1,none⟩=some (.slice oa2 ks2.length cap2):=by rw [hV];simp [go_sem]
      have hR:=(hb1.trans hpV).blk (Hb.out.blk HR.out)
      have q0:=blk_cell (o:=0) hR;have q1:=blk_cell (o:=1) hR;have q2:=blk_frozen (o:=0) hR;have q3:=blk_frozen (o:=1) hR
      rw [← hV]
      have hws:=HWs.out;have hz1:=Below.size Hb.out;have hz2:=Below.size hb1;have hz3:=Below.size hpV
      have key:∀ W4,Chg (fun k=>k=w.heap.size+1) V W4→WoutPost w (.node l ks) L (.returned (.tuple #[.agg #[.string l2,.slice oa2 ks2.length cap2],.slice o7 D.length c7,.slice o8 bs.length c8])) W4:=fun W4 h4=>by
        have e1:prune (inL L) (.node l ks)=.node l2 ks2:=congrArg Prod.fst hre
        have e2:undoL (.node l ks) L=bs:=congrArg (fun x=>x.2.1) hre
        refine ⟨l2,ks2,oa2,cap2,o7,c7,o8,c8,e1,hl2,by rw [e2,HD.out],?_,?_,?_,?_⟩
        · exact (hk2.pr hpV).carry fun j (hj:wr.heap.size≤j) hl=>⟨h4.block j hl (by omega),show w.heap.size≤j by omega⟩
        · rw [← HD.out]
          exact ((Hds.out.pr hb1).pr hpV).carry fun j (hj:W.heap.size≤j) hl=>⟨h4.block j hl (by omega),show w.heap.size≤j by omega⟩
        · rw [e2]
          exact (hbs.pr hpV).carry fun j (hj:wr.heap.size≤j) hl=>⟨h4.block j hl (by omega),show w.heap.size≤j by omega⟩
        · exact (((HW.out.trans Hb.out).trans (hb1.trans hpV)).chg (fun k=>k=w.heap.size+1)).trans h4 (fun _ h=>.inl h) |>.to_pr (fun k hk=>by omega)
      have Key:=Lib.hid key
      clear hV key hre hr hk2 hbs hb1 hpV hR hws hz1 hz2 hz3 t0 t1
      go_wp2_with fail
      exact bodyPost_ret (v:=.tuple #[.agg #[.string l2,.slice oa2 ks2.length cap2],.slice o7 D.length c7,.slice o8 bs.length c8]) (by simp [results,Tryz.results104,go_sem,q0,q1]) rfl (Key.out _ (Chg.setCell (Chg.setCell (Chg.refl (fun k=>k=w.heap.size+1) V) ⟨w.heap.size+1,0,none⟩ (.string l2) (.inl rfl)) ⟨w.heap.size+1,1,none⟩ (.slice oa2 ks2.length cap2) (.inl rfl)))
end Go.Proofs.YtdbnfhpgmcjngabGreatDoor
/- Walks: slices.Grow of nothing and slices.Concat of deeds. -/
namespace Go.Proofs.YtdbnfhpgmcjngabGreatDoor
open Go Go.RowKit
def OwnsDX (S:Nat→Prop) (w0:World) (base:Nat) (w:World) (v:Value) (ds:List Dee):Prop:=∃ xs,w.ownsRow base 72 5 v ds.length xs∧Dvals S w0 ds xs
theorem OwnsDX.dees {S:Nat→Prop} {w0 w:World} {base:Nat} {v:Value} {ds:List Dee} (h:OwnsDX S w0 base w v ds) (hp:Pr w0 w):∃ oa cap,v=.slice oa ds.length cap∧Dees (fun k=>S k∨base≤k) w ds oa cap:=by
  obtain ⟨xs,ho,h2⟩:=h
  rcases ho.2 with ⟨rfl,hn⟩ | ⟨g,cap,cur,rfl,hb,hg,hnc,hcm,_⟩
  · have:ds=[]:=List.eq_nil_of_length_eq_zero hn
    subst this
    exact ⟨none,0,rfl,Dees.nil _ _ _ _ (Nat.zero_le _)⟩
  · refine ⟨_,cap,rfl,⟨hnc,hcm⟩,g,0,fun _=>⟨rfl,.inr hb⟩,fun i hi=>?_⟩
    obtain ⟨vs,g1,g2⟩:=h2.get i hi
    refine ⟨vs,g1.carry fun k hS hl=>⟨Below.block hp k hl,.inl hS⟩,fun j u hu=>?_⟩
    have:=ho.cells (g:=g) rfl (i * 5+j) u (g2 j u hu)
    rw [Addr.add_lit] at this
    rw [show 0+i * 5+j=0+(i * 5+j) by omega];exact this
theorem OwnsDX.pr {S:Nat→Prop} {w0 w w':World} {base:Nat} {v:Value} {ts:List Dee} (h:OwnsDX S w0 base w v ts) (hp:Pr w w'):OwnsDX S w0 base w' v ts:=by
  obtain ⟨xs,h1,h2⟩:=h
  exact ⟨xs,ownsRow_kept h1 (fun k hk=>Below.block hp k (h1.lt k hk).2),h2⟩
theorem OwnsDX.block {S:Nat→Prop} {w0 w:World} {base:Nat} {v:Value} {ts:List Dee} (h:OwnsDX S w0 base w v ts):∀ k,v.ownBlock=some k→base≤k∧k < w.heap.size:=by
  obtain ⟨xs,h1,_⟩:=h;exact h1.lt
section
variable {ops:Array Oper} {o:Oper} {a:Act} {w:World} {rest:List Oper} {Q:Exit→Act→World→Prop}
theorem app_deeds (hgd:o.guard=none) (s x:Operand) (ho:o.op=.call { callee:=.builtin .append,args:=#[s,x],argTypes:=#[106,106] })
    (S:Nat→Prop) (w0:World) (b:Nat) (v:Value) (ts:List Dee) (hs:a.eval s=v) (hown:OwnsDX S w0 b w v ts) (us:List Dee) (ao:Option Addr) (c:Nat) (hx:a.eval x=.slice ao us.length c) (hu:Dees S w0 us ao c) (hp:Pr w0 w)
    (hlen:ts.length+us.length≤1000000000) (hbase:b≤w.heap.size)
    (h:∀ v' w',OwnsDX S w0 b w' v' (ts ++ us)→w.grownBy w' v.ownBlock→(∀ k,v'.ownBlock=some k→v.ownBlock=some k∨k=w.heap.size)→wpList Tryz.prog ops Q rest (a.put o.dst v') w') :
    wpList Tryz.prog ops Q (o :: rest) a w:=by
  obtain ⟨i0,hi,hz0,hz1,hz2⟩:=info_parts info_deed
  obtain ⟨xs,h1,h2⟩:=hown
  obtain ⟨_,bb,oo,e1,e2⟩:=hu
  obtain ⟨ys,g1,g2⟩:=Dees.vals e2
  refine wp_app_rows hgd s x _ ho b _ i0 _ 5 64 under_deeds hi hz0 hz1 hz2 rfl (by omega) v ts.length xs hs h1 ao us.length c ys hx g1.length ?_
    g1.one (by unfold maxLen;omega) (by omega) hbase ?_
  · intro hm
    refine ⟨⟨bb,oo,none⟩,(e1 (by intro e;subst e;simp at hm)).1,fun j u hj=>?_⟩
    have hcell:=g2 j u hj
    rw [Addr.add_lit]
    rw [Below.cell hp (World.block_lt_of_cell? w0 _ hcell)];exact hcell
  · intro v' w' k1 k2 k3
    refine h v' w' ⟨xs ++ ys,?_,Dvals.append g1 h2⟩ k2 k3
    rw [List.length_append];exact k1
end
theorem under_intD:Tryz.prog.underlying 3=some (.int .i64):=by kernel_rfl
set_option maxHeartbeats 800000 in
theorem growDeeds_any (n:Nat) (w:World) (hs:n≤1000000) :
    Calls Tryz.prog 137 #[.slice none 0 0,.int .i64 n] w fun e w'=>(∃ v,e=.returned v∧w'.ownsRow w.heap.size 72 5 v 0 [])∧Pr w w':=by
  by_cases h0:n=0
  · subst h0
    go_enter Tryz.func137,Tryz.ntmps137
    go_wp2_with fail
    go_ret
    exact ⟨⟨_,rfl,World.ownsRow_nil _ _ _ _⟩,Pr.refl _⟩
  · obtain ⟨i0,hi,hz0,hz1,hz2⟩:=info_parts info_deed
    have hrz:=fun ty=>Lib.run_append_nil_zeros (P:=Tryz.prog) w 106 3 ty 72 i0 _ .i64 .i64 under_deeds under_intD hi hz0 n (by omega) (by rw [hz1];omega) (by omega) (by rw [hz2];omega)
    have hGn:n≤grownCap w n 0 72:=grownCap_ge w _ _ _
    have hG63:grownCap w n 0 72≤9223372036854775807:=by
      have:=grownCap_le_maxLen w n 0 72 (by unfold maxLen;omega)
      unfold maxLen at this;omega
    obtain ⟨G,hG⟩:∃ G,G=grownCap w n 0 72:=⟨_,rfl⟩
    rw [← hG] at hrz hGn hG63
    have hzc:∀ m,(Builtin.zeroCells #[.int .i64 0,.slice none 0 0,.int .i64 0,.int .i64 0,.string ⟨#[]⟩] m).size=m * 5:=fun m=>by
      simp [Builtin.zeroCells]
    clear hG hi hz0 hz1 hz2
    have Hzc:=Lib.hid hzc
    clear hzc
    have h1:(1:Int)≤n:=by omega
    go_enter Tryz.func137,Tryz.ntmps137
    go_wp2_with (at_builtin;refine Lib.wpList_append_run _ rfl _ _ _ _ rfl _ _ rfl rfl _ _ (hrz _) ?_)
    go_ret
    refine ⟨⟨_,rfl,?_⟩,(Pr.drew w).alloc' _⟩
    exact ownsRow_made w.drew _ _ G _ (by rw [Array.size_append,Hzc.out,Hzc.out];omega) (by unfold maxLen;omega)
def RowsD (S:Nat→Prop) (w:World) (L:List (List Dee)) (B:Nat):Prop:=∀ i (_:i < L.length),∃ oa cap,w.cell? ⟨B,i,none⟩=some (.slice oa L[i].length cap)∧Dees S w L[i] oa cap
theorem dflat_take (L:List (List Dee)) (i:Nat) (h:i < L.length):(L.take (i+1)).flatten=(L.take i).flatten ++ L[i]:=by
  rw [List.take_succ_eq_append_getElem h,List.flatten_append];simp
def dlen (L:List (List Dee)) (i:Nat):Nat:=(L.take i).flatten.length
theorem dlen_all (L:List (List Dee)):dlen L L.length=L.flatten.length:=by unfold dlen;rw [List.take_length]
theorem dlen_succ (L:List (List Dee)) (i:Nat) (h:i < L.length):dlen L (i+1)=dlen L i+L[i].length:=by unfold dlen;rw [dflat_take L i h,List.length_append]
theorem dflat_take_le (L:List (List Dee)) (i:Nat):(L.take i).flatten.length≤L.flatten.length:=by
  have h:L.flatten=(L.take i).flatten ++ (L.drop i).flatten:=by rw [← List.flatten_append,List.take_append_drop]
  rw [h,List.length_append];omega
set_option maxHeartbeats 1600000 in
theorem concatDeeds_any (S:Nat→Prop) (L:List (List Dee)) (B c:Nat) (w:World) (hL:RowsD S w L B) (hn:dlen L L.length≤1000000) (hl:L.length≤1000) :
    Calls Tryz.prog 106 #[.slice (some ⟨B,0,none⟩) L.length c] w fun e w'=>(∃ ob cp,e=.returned (.slice ob (dlen L L.length) cp)∧Dees (fun k=>S k∨w.heap.size≤k) w' L.flatten ob cp)∧Pr w w':=by
  have HL:=Lib.hid hL
  clear hL
  have hb:∀ i,dlen L i≤dlen L L.length:=fun i=>by rw [dlen_all];exact dflat_take_le L i
  have Hb:=Lib.hid hb
  clear hb
  go_enter Tryz.func106,Tryz.ntmps106
  go_wp2_with fail
  go_loopw [3,11] (fun v3 v11 wr=>∃ i:Nat,i≤L.length∧v3=.int .i64 (dlen L i:Nat)∧v11=.int .i64 i∧wr=w) (fun _ v11 _=>L.length - (intOf v11).toNat)
  case atStart=>exact ⟨0,by omega,by simp [dlen],rfl,rfl⟩
  case round =>
    obtain ⟨i,hi,rfl,rfl,rfl⟩:=hrel
    by_cases hlt:i < L.length
    · obtain ⟨oa,cap,c0,hk⟩:=HL.out i hlt
      have hbi:=Hb.out (i+1)
      have hf:=dlen_succ L i hlt
      have Hf:=Lib.hid hf
      rw [hf] at hbi
      have hlt':(i:Int) < L.length:=by omega
      have hi0:(0:Int)≤i:=by omega
      have hlen:=hk.len
      clear hf hk
      generalize hq:L[i]=q at *
      generalize hp:dlen L i=p at *
      have Hq:=Lib.hid hq;have Hp:=Lib.hid hp
      clear hq hp
      go_wp2_with fail
      refine ⟨⟨i+1,by omega,?_,by go_num,trivial⟩,?_⟩
      · rw [Hf.out];go_num
      · simp [intOf];omega
    · have hie:i=L.length:=by omega
      subst hie
      obtain ⟨N,hN⟩:∃ N,N=dlen L L.length:=⟨_,rfl⟩
      rw [← hN] at hn ⊢
      have HN:=Lib.hid hN
      clear hN
      go_wp2_with (first
        | (go_at_call 137;(with_reducible refine Calls.mono (growDeeds_any _ _ hn) ?_);rintro e w1 ⟨⟨v,rfl,hr⟩,hb1⟩))
      obtain ⟨wo,hwo⟩:∃ wo,wo=wr:=⟨_,rfl⟩
      subst hwo
      have h0:OwnsDX S wo wo.heap.size w1 v (L.take 0).flatten:=⟨[],by simpa using hr,by simp [Dvals]⟩
      have Hb1:=Lib.hid hb1
      clear hr hb1
      go_loopw [6,27] (fun v6 v27 wr=>∃ i:Nat,i≤L.length∧v27=.int .i64 i∧OwnsDX S wo wo.heap.size wr v6 (L.take i).flatten∧Pr wo wr) (fun _ v27 _=>L.length - (intOf v27).toNat)
      case atStart=>exact ⟨0,by omega,rfl,h0,Hb1.out⟩
      case round =>
        obtain ⟨i,hi,rfl,hown,hp⟩:=hrel
        by_cases hlt:i < L.length
        · obtain ⟨oa,cap,c0,hk⟩:=HL.out i hlt
          have c0:=hp.cell c0
          have hbi:=Hb.out (i+1)
          rw [dlen_succ L i hlt,← HN.out] at hbi
          have hfi:dlen L i=(L.take i).flatten.length:=rfl
          rw [hfi] at hbi
          have hf:=dflat_take L i hlt
          have Hf:=Lib.hid hf
          have hlt':(i:Int) < L.length:=by omega
          have hi0:(0:Int)≤i:=by omega
          have Hk:=Lib.hid hk
          have Ho:=Lib.hid hown
          have hps:=hp.size
          clear hf hk hown h0 hfi
          generalize hq:L[i]=q at *
          generalize hpp:(L.take i).flatten=p at *
          have Hq:=Lib.hid hq;have Hpp:=Lib.hid hpp
          clear hq hpp
          go_wp2_with (at_builtin;go_must (refine app_deeds rfl _ _ rfl S wo wo.heap.size _ p rfl Ho.out q oa cap rfl Hk.out hp (by omega) hps ?_);intro v5 w5 ho5 hg5 hd5)
          refine ⟨⟨i+1,by omega,by go_num,by rw [Hf.out];exact ho5,Below.grown hp hg5 hps (fun k hk=>(Ho.out.block k hk).1)⟩,?_⟩
          simp [intOf];omega
        · have hie:i=L.length:=by omega
          subst hie
          rw [List.take_length] at hown
          obtain ⟨ob,cp,rfl,hk⟩:=hown.dees hp
          go_wp2_with fail
          go_ret
          exact ⟨⟨ob,cp,by rw [HN.out,dlen_all];rfl,hk⟩,hp⟩
end Go.Proofs.YtdbnfhpgmcjngabGreatDoor
