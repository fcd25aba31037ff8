/- Walks: pleachingref.less: nodes taken away, found by marks. -/
import Derived.Test.YtdbnfhpgmcjngacDoorYp
import Derived.Test.YtdbnfhpgmcjngacDoorYq
import Derived.Test.YtdbnfhpgmcjngacDoorYo
import Derived.Test.YtdbnfhpgmcjngacDoorByc
import Derived.Test.YtdbnfhpgmcjngacDoorBvd
import Derived.Test.YtdbnfhpgmcjngacDoorRw
import Derived.Deep.DeepCutAuto
namespace Go.Proofs.YtdbnfhpgmcjngacDoor
open Go Go.RowKit
theorem dec_pos (u:Nat):1≤(Lib.decDigits u).length:=by
  rw [Lib.decDigits];split <;> simp
theorem dec_inj:∀ (n u v:Nat),u < n→Lib.decDigits u=Lib.decDigits v→u=v
  | 0,u,v,h,_=>by omega
  | n+1,u,v,hn,h=>by
    have d:∀ a b:Nat,a < 10→b < 10→UInt8.ofNat (48+a)=UInt8.ofNat (48+b)→a=b:=fun a b ha hb e=>by
      have:=congrArg UInt8.toNat e
      simp only [UInt8.toNat_ofNat'] at this
      omega
    rw [Lib.decDigits.eq_1 u,Lib.decDigits.eq_1 v] at h
    by_cases h1:u < 10 <;> by_cases h2:v < 10
    · rw [dif_pos h1,dif_pos h2] at h
      exact d u v h1 h2 (List.cons.inj h).1
    · rw [dif_pos h1,dif_neg h2] at h
      have:=congrArg List.length h
      have:=dec_pos (v / 10)
      rw [List.length_singleton,List.length_append,List.length_singleton] at *;omega
    · rw [dif_neg h1,dif_pos h2] at h
      have:=congrArg List.length h
      have:=dec_pos (u / 10)
      rw [List.length_singleton,List.length_append,List.length_singleton] at *;omega
    · rw [dif_neg h1,dif_neg h2] at h
      obtain ⟨e1,e2⟩:=List.append_inj' h rfl
      have g1:=dec_inj n (u / 10) (v / 10) (by omega) e1
      have g2:=d _ _ (Nat.mod_lt u (by omega)) (Nat.mod_lt v (by omega)) (List.cons.inj e2).1
      omega
theorem numL_inj (i j:Nat) (h:numL i=numL j):i=j:=by
  have h1:Lib.itoa (i:Int)=Lib.itoa (j:Int):=by
    have:=congrArg (fun b:ByteArray=>b.data.toList) h
    exact this
  unfold Lib.itoa at h1
  rw [if_neg (by omega),if_neg (by omega)] at h1
  exact dec_inj _ i j (Nat.lt_succ_self i) (by simpa using h1)
theorem prune_sz (g:Nat→Bool) (t:Tr):(prune g t).sz≤t.sz:=by
  have:=Tr.szL_prF g t 0
  obtain ⟨l,ks⟩:=t
  unfold prune
  rw [Tr.kids_node] at this
  rw [Tr.sz_node,Tr.sz_node,Tr.kids_node];omega
theorem undoL_le (t:Tr) (L:List Nat):(undoL t L).length≤L.length:=by
  unfold undoL
  split
  · rename_i r h;rw [runGo_length h,delL_length];exact Nat.le_refl _
  · simp
theorem less_at {t:Tr} (ht:fault t=0) {L:List Nat} (hL:L.Pairwise (fun a b=>a < b)) (hn:∀ n∈L,n+1 < t.sz) (i:Nat) (hi:i < L.length):∃ p:List Int,
    findT (numL L[i]) (prune (inL (L.take i)) (relT numL 0 t))=some p∧(∀ x∈p,0≤x)∧p≠[]∧p.length≤100000 ∧
    (doD (prune (inL (L.take i)) t) ⟨2,p,0,0,⟨#[]⟩⟩).2.2=0∧(doD (prune (inL (L.take i)) t) ⟨2,p,0,0,⟨#[]⟩⟩).1=prune (inL (L.take (i+1))) t ∧
    doneT ⟨2,p,0,0,⟨#[]⟩⟩ p (prune (inL (L.take i)) (relT numL 0 t))=(prune (inL (L.take (i+1))) (relT numL 0 t),0) ∧
    delL t [] (L.take (i+1))=delL t [] (L.take i) ++ [⟨2,p,0,0,⟨#[]⟩⟩]∧undoL t (L.take (i+1))=(doD (prune (inL (L.take i)) t) ⟨2,p,0,0,⟨#[]⟩⟩).2.1 :: undoL t (L.take i):=by
  have hs:=(fault_zero.1 ht).1
  have hni:=hn L[i] (List.getElem_mem hi)
  have hlt:∀ j∈L.take i,j < L[i]:=fun j hj=>by
    obtain ⟨a,ha,e⟩:=List.getElem_of_mem hj
    rw [List.length_take] at ha
    rw [List.getElem_take] at e
    have:=List.pairwise_iff_getElem.1 hL a i (by omega) hi (by omega)
    omega
  have htk:=List.take_succ_eq_append_getElem hi
  obtain ⟨h1,h2,h3⟩:=less_step ht numL hlt hni
  obtain ⟨h4,h5⟩:=undoL_snoc ht (pre:=L.take i) (n:=L[i]) (by rw [← htk];exact hL.sublist (List.take_sublist _ _)) (fun j hj=>by rw [← htk] at hj;exact hn j (List.mem_of_mem_take hj))
  have hf:=find_is numL_inj L[i] (g:=inL (L.take i)) (fun j hj=>by
    simp only [inL,decide_eq_false_iff_not]
    intro hm;have:=hlt j hm;omega) t hni
  have hp:=whT_pos (inL (L.take i)) t 0 L[i]
  have hl:=whT_length (inL (L.take i)) t 0 L[i]
  have hne:whT (inL (L.take i)) 0 t L[i]≠[]:=by
    obtain ⟨m,ks⟩:=t
    rw [whT_node];rw [Tr.sz_node] at hni
    exact whF_in _ ks 0 0 L[i] (by omega) (Nat.zero_le _)
  rw [htk]
  exact ⟨_,hf,hp,hne,by omega,h1,h2,h3,h4,h5⟩
def RLessPost (S:Nat→Prop) (w:World) (t:Tr) (L:List Nat) (e:Ending) (w':World):Prop :=
  ∃ l2 ks2 oa2 cap2 o7 c7 o8 c8,prune (inL L) t=.node l2 ks2∧l2.size≤maxLen∧e=.returned (.tuple #[.slice o7 (delL t [] L).length c7,.slice o8 (undoL t L).length c8,.agg #[.string l2,.slice oa2 ks2.length cap2]]) ∧
    Kids (fun j=>(S j∨w.heap.size≤j)∧(Value.slice o7 (delL t [] L).length c7).ownBlock≠some j) w' ks2 oa2 cap2∧OwnsDs w.heap.size w' (.slice o7 (delL t [] L).length c7) (delL t [] L) ∧
    Dees (fun j=>(S j∨w.heap.size≤j)∧(Value.slice o7 (delL t [] L).length c7).ownBlock≠some j) w' (undoL t L) o8 c8∧Pr w w'
set_option maxRecDepth 100000 in
set_option maxHeartbeats 6400000 in
theorem rless_any (S9:Nat→Prop) (l:ByteArray) (ks:List Tr) (oa cap) (L:List Nat) (xs:List Int) (hxs:xs=L.map Int.ofNat) (og cg) (w:World) (hl:l.size≤maxLen) (ft:fault (.node l ks)=0)
    (hk:Kids S9 w ks oa cap) (hx:Ints Any w xs og cg) (hL:L.Pairwise (fun a b=>a < b)) (hn:∀ n∈L,n+1 < (Tr.node l ks).sz) (hLl:L.length≤80) (hlt0:Lt w) :
    Calls Tryd.prog 47 #[.agg #[.string l,.slice oa ks.length cap],.slice og xs.length cg] w (RLessPost S9 w (.node l ks) L):=by
  have hxl:xs.length=L.length:=by rw [hxs,List.length_map]
  have hszf:=(fault_zero.1 ft).1
  rw [Tr.sz_node] at hszf
  have hlen:=Ints.len hx
  have hn40:∀ n∈L,n≤40:=fun n h=>by have:=hn n h;rw [Tr.sz_node] at this;omega
  obtain ⟨T,hT⟩:∃ T,T=Tr.node l ks:=⟨_,rfl⟩
  have HS:=Lib.hid (fun i (hi:i < L.length)=>less_at ft hL hn i hi)
  have hm0:relT numL 0 (.node l ks)=.node (numL (0+Tr.szL ks)) (relF numL 0 ks):=relT_node _ _ _ _
  rw [← hT] at HS hm0
  rw [← hT]
  obtain ⟨W,hW⟩:∃ W,W=(w.alloc (.cells #[.string l,.slice oa ks.length cap] 24)).alloc (.cells #[.string ⟨#[]⟩,.slice none 0 0] 24):=⟨_,rfl⟩
  have hwW:Pr w W:=by rw [hW];exact (Pr.alloc _ _).alloc' _
  have hWs:W.heap.size=w.heap.size+2:=by rw [hW];simp
  have hT0:W.heap[w.heap.size]? = some (.cells #[.string l,.slice oa ks.length cap] 24 (0,0)):=by
    rw [hW];exact (Pr.alloc _ _).blk (heap_alloc_new w (.cells #[.string l,.slice oa ks.length cap] 24))
  have hR1:W.heap[w.heap.size+1]? = some (.cells #[.string ⟨#[]⟩,.slice none 0 0] 24 (0,0)):=by
    rw [hW];simpa using heap_alloc_new (w.alloc (.cells #[.string l,.slice oa ks.length cap] 24)) (.cells #[.string ⟨#[]⟩,.slice none 0 0] 24)
  obtain ⟨sM,hsM⟩:∃ s,s=numL (0+Tr.szL ks):=⟨_,rfl⟩
  obtain ⟨LM,hLM⟩:∃ s,s=relF numL 0 ks:=⟨_,rfl⟩
  obtain ⟨nM,hnM⟩:∃ n:Int,n=((0+Tr.szL ks+1:Nat):Int):=⟨_,rfl⟩
  have hsMs:sM.size≤maxLen:=by rw [hsM];exact numL_size _ (by omega)
  have Hm1:Hid (relT numL 0 T=.node sM LM):=Lib.hid (by rw [hm0,hsM,hLM])
  have M0:Calls Tryd.prog 78 #[.agg #[.string l,.slice oa ks.length cap],.int .i64 0] W (RMarkPost W 0 ks):=rmarked_step _ l ks oa cap 0 W (Nat.lt_succ_self _) (by omega) (hk.any.pr hwW) (hlt0.pr hwW)
  unfold RMarkPost at M0
  rw [← hsM,← hLM,← hnM] at M0
  have M1:=Lib.hid M0
  clear M0 hsM hLM hnM
  have x0:=blk_cell (o:=0) hT0;have x1:=blk_cell (o:=1) hT0
  have HW:=Lib.hid hwW;have HWs:=Lib.hid hWs;have HK:=Lib.hid hk;have HT0:=Lib.hid hT0;have HR:=Lib.hid hR1;have HX:=Lib.hid hx;have HLt0:=Lib.hid hlt0;have HLt:=Lib.hid (hlt0.pr hwW);have Hxs:=Lib.hid hxs;have HT:=Lib.hid hT;have Hxl:=Lib.hid hxl
  clear hwW hWs hT0 hR1 hk hx hlt0 hxs hT hm0 hL hn ft hxl
  go_enter Tryd.func47,Tryd.ntmps47
  go_upto_region 1 with fail
  rw [← hW];clear hW
  go_upto_region 2 with (go_at_call 78;(with_reducible refine Calls.mono M1.out ?_);rintro e w1 ⟨oM,cM,rfl,hkM,hb1⟩)
  obtain ⟨V,hV⟩:∃ V,V=w1.alloc (.cells #[.string sM,.slice oM LM.length cM] 24):=⟨_,rfl⟩
  have hpV:Pr w1 V:=by rw [hV];exact Pr.alloc _ _
  have hVs:V.heap.size=w1.heap.size+1:=by rw [hV];simp
  have hMB:V.heap[w1.heap.size]? = some (.cells #[.string sM,.slice oM LM.length cM] 24 (0,0)):=by rw [hV];exact heap_alloc_new w1 _
  rw [← hV]
  have hq1:=Below.size hb1;have hq2:=Below.size HW.out;have hws:=HWs.out
  obtain ⟨Z,hZ⟩:∃ Z:Nat→Prop,Z=fun j=>(S9 j∨w.heap.size≤j)∧j≠w.heap.size∧j≠w1.heap.size∧j≠w.heap.size+1:=⟨_,rfl⟩
  have hZA:∀ j,Z j→j≠w.heap.size∧j≠w1.heap.size∧j≠w.heap.size+1:=fun j h=>by rw [hZ] at h;exact h.2
  have hZ9:∀ j,Z j→S9 j∨w.heap.size≤j:=fun j h=>by rw [hZ] at h;exact h.1
  have hZn:∀ j,V.heap.size≤j→Z j:=fun j h=>by rw [hZ];exact ⟨.inr (by omega),by omega,by omega,by omega⟩
  have hZo:∀ j,S9 j→j < w.heap.size→Z j:=fun j hS h=>by rw [hZ];exact ⟨.inl hS,by omega,by omega,by omega⟩
  have hZm:∀ j,W.heap.size≤j→j < w1.heap.size→Z j:=fun j h h2=>by rw [hZ];exact ⟨.inr (by omega),by omega,by omega,by omega⟩
  have hWV:Pr W V:=hb1.trans hpV
  have hwV:Pr w V:=HW.out.trans hWV
  have hkZ:Kids Z V ks oa cap:=(HK.out.mono (fun j hS hj=>hZo j hS hj)).pr hwV
  have hkZM:Kids Z V LM oM cM:=(hkM.mono (fun j hj hl=>hZm j hj hl)).pr hpV
  have hAV:=hWV.blk HT0.out
  have hRV:=hWV.blk HR.out
  have hltV:=HLt.out.pr hWV
  have HZA:=Lib.hid hZA;have HZ9:=Lib.hid hZ9;have HZn:=Lib.hid hZn;have HkZ:=Lib.hid hkZ;have HkZM:=Lib.hid hkZM;have HAV:=Lib.hid hAV;have HRV:=Lib.hid hRV;have HMB:=Lib.hid hMB;have HwV:=Lib.hid hwV;have HltV:=Lib.hid hltV
  have HVs:=Lib.hid hVs
  clear hZ hZA hZ9 hZn hZo hZm hWV hwV hkZ hkZM hAV hRV hltV hMB hkM hb1 hpV hV hVs x0 x1
  go_wp2_with fail
  go_loopw [9,10,11] (fun v9 v10 v11 wr=>∃ (i:Nat) (la:ByteArray) (ka:List Tr) (ao:Option Addr) (ac:Nat) (lm:ByteArray) (km:List Tr) (mo:Option Addr) (mc:Nat) (ob:Option Addr) (cb:Nat),i≤L.length∧v11=.int .i64 i∧v10=.slice ob (undoL T (L.take i)).length cb ∧
    OwnsDs V.heap.size wr v9 (delL T [] (L.take i))∧Dees (fun j=>Z j∧v9.ownBlock≠some j) wr (undoL T (L.take i)) ob cb∧wr.heap[w.heap.size]? = some (.cells #[.string la,.slice ao ka.length ac] 24 (0,0))∧la.size≤maxLen∧.node la ka=prune (inL (L.take i)) T∧Kids (fun j=>Z j∧v9.ownBlock≠some j) wr ka ao ac ∧
    wr.heap[w1.heap.size]? = some (.cells #[.string lm,.slice mo km.length mc] 24 (0,0))∧lm.size≤maxLen∧.node lm km=prune (inL (L.take i)) (relT numL 0 T)∧Kids (fun j=>Z j∧v9.ownBlock≠some j) wr km mo mc∧Chg (fun k=>k=w.heap.size∨k=w1.heap.size) V wr) (fun _ _ v11 _=>L.length - (intOf v11).toNat)
  case atStart =>
    refine ⟨0,l,ks,oa,cap,sM,LM,oM,cM,none,0,by omega,rfl,?_,?_,?_,HAV.out,hl,?_,HkZ.out.mono (fun j hj _=>⟨hj,fun e=>by cases e⟩),HMB.out,hsMs,?_,HkZM.out.mono (fun j hj _=>⟨hj,fun e=>by cases e⟩),Chg.refl _ _⟩
    · rw [List.take_zero,undoL_nil];rfl
    · rw [List.take_zero];exact OwnsDs.nil _ _
    · rw [List.take_zero,undoL_nil];exact Dees.nil _ _ _ _ (Nat.zero_le _)
    · rw [List.take_zero,inL_nil,prune_none,HT.out]
    · rw [List.take_zero,inL_nil,prune_none,Hm1.out]
  case round =>
    obtain ⟨i,la,ka,ao,ac,lm,km,mo,mc,ob,cb,hi,rfl,rfl,hown,hU,hA,hla,hta,hka,hM,hlm,htm,hkm,hc⟩:=hrel
    by_cases hlt:i < L.length
    case pos =>
      obtain ⟨p,hfind,hp0,hpne,hpl,hdo0,hdo1,hdm,hdel,hund⟩:=HS.out i hlt
      obtain ⟨n,hnn⟩:∃ n,n=L[i]:=⟨_,rfl⟩
      have hn80:n≤1000000:=by have:=hn40 L[i] (List.getElem_mem hlt);omega
      rw [← hnn,← htm] at hfind
      rw [← htm] at hdm
      rw [← hta] at hdo0 hdo1 hund
      have hszm:Tr.szL km≤1000000:=by
        have h1:=prune_sz (inL (L.take i)) (relT numL 0 T)
        rw [relT_sz,← htm,HT.out,Tr.sz_node,Tr.sz_node] at h1;omega
      have hpw:Pr w wr:=((HwV.out.chg (fun k=>k=w.heap.size∨k=w1.heap.size)).trans hc (fun _ h=>.inl h)).to_pr (fun k hk=>by omega)
      have hXr:Ints (fun j=>j < w.heap.size) wr xs og cg:=Flat.pr hpw (Flat.mono (fun j _ hj=>hj) HX.out)
      obtain ⟨bg,og',hog,c0⟩:=Ints.get hXr i (by have:=Hxl.out;omega)
      have hxi:xs[i]'(by have:=Hxl.out;omega)=(n:Int):=by have h:=Hxs.out;subst h;rw [List.getElem_map,← hnn];rfl
      rw [hxi] at c0
      have FF:Hid (∀ u,Pr wr u→Calls Tryd.prog 79 #[.agg #[.string lm,.slice mo km.length mc],.string (numB (n:Int))] u fun e w'=>∃ oa cap,e=.returned (.tuple #[.slice oa p.length cap,.bool true])∧Ints (From u.heap.size) w' p oa cap∧Pr u w'):=Lib.hid fun u h=>by
        have:=rfind_step (numL n) _ lm km mo mc u (Nat.lt_succ_self _) hszm (hkm.any.pr h)
        rw [hfind] at this;exact this
      have I1:Hid (∀ u,Pr wr u→Calls Tryd.prog 60 #[.int .i64 (n:Int)] u fun e w'=>e=.returned (.string (numB (n:Int)))∧Pr u w'):=Lib.hid fun u h=>num_any _ (by omega) (by omega) u ((HLt0.out.pr hpw).pr h)
      have m0:=stays (blk_cell (o:=0) hM);have m1:=stays (blk_cell (o:=1) hM);have c0:=stays c0
      have Hown:=Lib.hid hown;have HU:=Lib.hid hU;have HA:=Lib.hid hA;have Hka:=Lib.hid hka;have HM:=Lib.hid hM;have Hkm:=Lib.hid hkm;have Hc:=Lib.hid hc;have Hdo0:=Lib.hid hdo0;have Hdo1:=Lib.hid hdo1;have Hdm:=Lib.hid hdm;have Hdel:=Lib.hid hdel;have Hund:=Lib.hid hund;have Hp0:=Lib.hid hp0;have Hpne:=Lib.hid hpne;have Hpw:=Lib.hid hpw
      have hix:i < xs.length:=by have:=Hxl.out;omega
      subst hog
      clear hfind hnn hxi hown hU hA hka hM hkm hc hdo0 hdo1 hdm hdel hund hp0 hpne hpw hXr hta htm
      go_upto_region 6 with fail
      go_cut [12,13] from 30 to 38 (fun v12 v13 wx=>∃ bp bc,v12=.slice bp p.length bc∧v13=.bool true∧Ints (From wr.heap.size) wx p bp bc∧Pr wr wx)
      case first =>
        go_region_held3 (fun W'=>Pr wr W')
          (first | with_reducible exact Pr.drew wr | with_reducible exact hp4 | with_reducible exact hp5)
          (first
            | (go_at_call 60;(with_reducible refine Calls.mono (I1.out _ (Pr.drew wr)) ?_);rintro e w4 ⟨rfl,hb4⟩;have hp4:=(Pr.drew wr).trans hb4)
            | (go_at_call 79;(with_reducible refine Calls.mono (FF.out _ hp4) ?_);rintro e w5 ⟨bp,bc,rfl,hi5,hb5⟩;have hp5:=hp4.trans hb5))
        all_goals
          go_wp2_with fail
          go_meet
          case rel=>exact ⟨bp,bc,rfl,rfl,hi5.mono (fun j hj _=>by have:=Below.size hp4;exact Nat.le_trans this hj),hp5⟩
      case rest =>
        obtain ⟨bp,bc,rfl,rfl,hi1,hp1⟩:=hcut
        obtain ⟨V1,hV1⟩:∃ V,V=wc:=⟨_,rfl⟩
        subst hV1
        go_upto_region 8 with fail
        obtain ⟨V2,hV2⟩:∃ V2,V2=V1.alloc (.cells #[.int .i64 2,.slice bp p.length bc,.int .i64 0,.int .i64 0,.string ⟨#[]⟩] 52):=⟨_,rfl⟩
        have hp2:Pr V1 V2:=by rw [hV2];exact Pr.alloc _ _
        have hV2s:V2.heap.size=V1.heap.size+1:=by rw [hV2];simp
        have hdB:V2.heap[V1.heap.size]? = some (.cells #[.int .i64 2,.slice bp p.length bc,.int .i64 0,.int .i64 0,.string ⟨#[]⟩] 52 (0,0)):=by rw [hV2];exact heap_alloc_new V1 _
        rw [← hV2]
        clear hV2
        have hr2:Pr wr V2:=hp1.trans hp2
        have hq3:=Hc.out.size;have hq4:=Below.size hp1;have hVs:=HVs.out
        have hub:∀ j,u9.ownBlock=some j→V.heap.size≤j∧j < wr.heap.size:=fun j hj=>Hown.out.block j hj
        have hM2:=hr2.blk HM.out
        have y0:=blk_cell (o:=0) hM2;have y1:=blk_cell (o:=1) hM2
        have d0:=blk_cell (o:=0) hdB;have d1:=blk_cell (o:=1) hdB;have d2:=blk_cell (o:=2) hdB;have d3:=blk_cell (o:=3) hdB;have d4:=blk_cell (o:=4) hdB
        obtain ⟨S,hS⟩:∃ S:Nat→Prop,S=fun j=>(Z j∧u9.ownBlock≠some j)∧j < V2.heap.size:=⟨_,rfl⟩
        have RD:Hid (Calls Tryd.prog 80 #[.agg #[.string lm,.slice mo km.length mc],.agg #[.int .i64 2,.slice bp p.length bc,.int .i64 0,.int .i64 0,.string ⟨#[]⟩],.slice bp p.length bc] V2 (DonePost S (prune (inL (L.take (i+1))) (relT numL 0 T),0) V2)):=Lib.hid (by
          rw [← Hdm.out]
          exact rdone_any 2 p 0 0 ⟨#[]⟩ bp p.length bc (by omega) (by omega) (by omega) (by omega) (by simp [ByteArray.size]) p Hp0.out (fun _=>Hpne.out) S lm km mo mc bp bc V2 hlm hszm (by rw [hS];exact (Hkm.out.pr hr2).mono (fun j hj hl=>⟨hj,hl⟩)) (Flat.any (Flat.pr hp2 hi1)))
        have Hub:=Lib.hid hub;have Hi1:=Lib.hid hi1;have HM2:=Lib.hid hM2;have HdB:=Lib.hid hdB
        clear hub hi1 hM2 hdB m0 m1 c0
        go_upto_region 9 with (go_at_call 80;(with_reducible refine Calls.mono RD.out ?_);rintro e w3 ⟨lm3,km3,mo3,mc3,hr3,hl3,rfl,hk3,hb3⟩;have HM3:=Lib.hid (hb3.blk HM2.out);have f0:=blk_frozen (o:=0) HM3.out;have f1:=blk_frozen (o:=1) HM3.out;have g0:=blk_cell (o:=0) HM3.out;have g1:=blk_cell (o:=1) HM3.out)
        obtain ⟨V3,hV3⟩:∃ V3,V3=(w3.setCell ⟨w1.heap.size,0,none⟩ (.string lm3)).setCell ⟨w1.heap.size,1,none⟩ (.slice mo3 km3.length mc3):=⟨_,rfl⟩
        have hc3:Chg (fun k=>k=w1.heap.size) w3 V3:=by rw [hV3];exact Chg.setCell (Chg.setCell (Chg.refl (fun k=>k=w1.heap.size) w3) _ _ (.inl rfl)) _ _ (.inl rfl)
        have hM3:V3.heap[w1.heap.size]? = some (.cells #[.string lm3,.slice mo3 km3.length mc3] 24 (0,0)):=by rw [hV3];exact blk_set (o:=1) (blk_set (o:=0) HM3.out _) _
        rw [← hV3]
        clear hV3 f0 f1 g0 g1 y0 y1 d0 d1 d2 d3 d4
        have hr3:Pr wr w3:=hr2.trans hb3
        have hz3:=hc3.size;have hq5:=Below.size hb3;have hq6:=Below.size hp2
        have hA3:=hc3.blk (hr3.blk HA.out) (by omega)
        have hd3:=hc3.blk (hb3.blk HdB.out) (by omega)
        have a0:=blk_cell (o:=0) hA3;have a1:=blk_cell (o:=1) hA3
        have d0:=blk_cell (o:=0) hd3;have d1:=blk_cell (o:=1) hd3;have d2:=blk_cell (o:=2) hd3;have d3:=blk_cell (o:=3) hd3;have d4:=blk_cell (o:=4) hd3
        obtain ⟨S0,hS0⟩:∃ S:Nat→Prop,S=fun j=>(Z j∧u9.ownBlock≠some j)∧j < V3.heap.size:=⟨_,rfl⟩
        have hka3:Kids S0 V3 ka ao ac:=(Hka.out.pr hr3).carry (fun j hj hl=>⟨hc3.block j hl (HZA.out j hj.1).2.1,by rw [hS0];exact ⟨hj,by omega⟩⟩)
        have hi3:Ints S0 V3 p bp bc:=Flat.carry (fun j (hj:wr.heap.size≤j) hl=>⟨hc3.block j hl (by omega),by rw [hS0];exact ⟨⟨HZn.out j (by omega),fun e=>by have:=(Hub.out j e).2;omega⟩,by omega⟩⟩) (Flat.pr (hp2.trans hb3) Hi1.out)
        have RU:=Lib.hid (rdoS_any S0 la ka ao ac 2 p 0 0 ⟨#[]⟩ bp bc V3 hla hka3 (by simp [ByteArray.size]) hi3 hpl)
        have hk33:Kids (fun j=>Z j∧u9.ownBlock≠some j) V3 km3 mo3 mc3:=hk3.carry (fun j hj hl=>by
          have h:Z j∧u9.ownBlock≠some j:=by
            rcases hj with h | h
            · rw [hS] at h;exact h.1
            · exact ⟨HZn.out j (by omega),fun e=>by have:=(Hub.out j e).2;omega⟩
          exact ⟨hc3.block j hl (HZA.out j h.1).2.1,h⟩)
        have HM33:=Lib.hid hM3;have HA3:=Lib.hid hA3;have Hd3:=Lib.hid hd3;have Hk33:=Lib.hid hk33;have Hi3:=Lib.hid hi3;have Hc3:=Lib.hid hc3;have Hr3:=Lib.hid hr3;have HS0:=Lib.hid hS0;have Hrm:=Lib.hid hr3
        have Htm:Hid (prune (inL (L.take (i+1))) (relT numL 0 T)=.node lm3 km3):=Lib.hid (by assumption)
        clear hM3 hA3 hd3 hk33 hi3 hka3 hk3 hc3 hr3 hS0 hS
        go_upto_region 10 with (go_at_call 81;(with_reducible refine Calls.mono RU.out ?_);rintro e w4 ⟨l4,k4,o4,c4,kk,pp,aa,mm,ss,bp4,bc4,cc,hr4,hl4,rfl,hk4,hi4,hb4⟩)
        obtain ⟨V4,hV4⟩:∃ V4,V4=(w4.alloc (.cells #[.string l4,.slice o4 k4.length c4] 24)).alloc (.cells #[.int .i64 kk,.slice bp4 pp.length bc4,.int .i64 aa,.int .i64 mm,.string ss] 52):=⟨_,rfl⟩
        have hp4:Pr w4 V4:=by rw [hV4];exact (Pr.alloc _ _).alloc' _
        have hV4s:V4.heap.size=w4.heap.size+2:=by rw [hV4];simp
        have hN4:V4.heap[w4.heap.size]? = some (.cells #[.string l4,.slice o4 k4.length c4] 24 (0,0)):=by rw [hV4];exact (Pr.alloc _ _).blk (heap_alloc_new w4 _)
        have hF4:V4.heap[w4.heap.size+1]? = some (.cells #[.int .i64 kk,.slice bp4 pp.length bc4,.int .i64 aa,.int .i64 mm,.string ss] 52 (0,0)):=by rw [hV4];exact alloc_secondD w4 _ _
        rw [← hV4]
        have hss:ss.size≤maxLen:=by have:=doD_backLab (t:=.node la ka) (d:=⟨2,p,0,0,⟨#[]⟩⟩) Hdo0.out;rw [hr4] at this;exact this
        have hq7:=Below.size hb4;have hq8:=Below.size hp4
        have hA4:=hp4.blk (hb4.blk HA3.out)
        have n0:=blk_cell (o:=0) hN4;have n1:=blk_cell (o:=1) hN4
        have e0:=blk_cell (o:=0) hA4;have e1:=blk_cell (o:=1) hA4;have e2:=blk_frozen (o:=0) hA4;have e3:=blk_frozen (o:=1) hA4
        clear hV4 d0 d1 d2 d3 d4 a0 a1
        go_upto_region 11 with fail
        obtain ⟨V5,hV5⟩:∃ V5,V5=(V4.setCell ⟨w.heap.size,0,none⟩ (.string l4)).setCell ⟨w.heap.size,1,none⟩ (.slice o4 k4.length c4):=⟨_,rfl⟩
        have hc5:Chg (fun k=>k=w.heap.size) V4 V5:=by rw [hV5];exact Chg.setCell (Chg.setCell (Chg.refl (fun k=>k=w.heap.size) V4) _ _ (.inl rfl)) _ _ (.inl rfl)
        have hA5:V5.heap[w.heap.size]? = some (.cells #[.string l4,.slice o4 k4.length c4] 24 (0,0)):=by rw [hV5];exact blk_set (o:=1) (blk_set (o:=0) hA4 _) _
        rw [← hV5]
        have hz5:=hc5.size
        have hF5:=hc5.blk hF4 (by omega)
        have hd5:=hc5.blk (hp4.blk (hb4.blk Hd3.out)) (by omega)
        have d0:=blk_cell (o:=0) hd5;have d1:=blk_cell (o:=1) hd5;have d2:=blk_cell (o:=2) hd5;have d3:=blk_cell (o:=3) hd5;have d4:=blk_cell (o:=4) hd5
        clear hV5 e0 e1 e2 e3 n0 n1
        have hx5:∀ j,(Z j∧u9.ownBlock≠some j)→j < w4.heap.size→V5.heap[j]? = w4.heap[j]? := fun j hj hl=>(hc5.block j (by omega) (HZA.out j hj.1).1).trans (Below.block hp4 j hl)
        obtain ⟨D,hD⟩:∃ D,D=delL T [] (L.take i):=⟨_,rfl⟩
        have hDl:D.length≤1000000000:=by rw [hD,delL_length,List.length_take];omega
        have hown5:OwnsDs V.heap.size V5 u9 D:=by
          rw [hD]
          exact ((((Hown.out.pr Hr3.out).kept (fun k (hk:V.heap.size≤k) hl=>Hc3.out.block k hl (by omega))).pr (hb4.trans hp4)).kept (fun k (hk:V.heap.size≤k) hl=>hc5.block k hl (by omega)))
        have hi5:Ints (Apart V.heap.size u9) V5 p bp bc:=Flat.carry (fun j (hj:wr.heap.size≤j) hl=>⟨(hc5.block j (by omega) (by omega)).trans ((Below.block (hb4.trans hp4) j (by omega)).trans (Hc3.out.block j (by omega) (by omega))),by omega,fun e=>by have:=(Hub.out j e).2;omega⟩) (Flat.pr (hp2.trans hb3) Hi1.out)
        have Hown5:=Lib.hid hown5;have Hi5:=Lib.hid hi5;have HD:=Lib.hid hD;have HF5:=Lib.hid hF5;have HA5:=Lib.hid hA5;have Hx5:=Lib.hid hx5;have Hc5:=Lib.hid hc5
        have Hk4:=Lib.hid hk4;have Hi4:=Lib.hid hi4;have Hr4:=Lib.hid hr4
        have hle0:(⟨#[]⟩:ByteArray).size≤maxLen:=by simp [ByteArray.size]
        clear hown5 hi5 hD hF5 hA5 hx5 hc5 hd5 hF4 hN4 hA4 hk4 hi4 hr4
        go_upto_region 12 with (at_builtin;go_must (refine app_deed rfl _ _ rfl V.heap.size u9 D rfl (Hown5.out.pr (Pr.alloc _ _)) V5.heap.size rfl ⟨2,p,0,0,⟨#[]⟩⟩ bp bc (heap_alloc_new V5 _) (Flat.pr (Pr.alloc _ _) Hi5.out) hle0 hDl (by simp;omega) ?_);intro g6 c6 w6 ho6 hg6 hd6)
        have hg6ne:∀ j,(Z j∧u9.ownBlock≠some j)→j < V5.heap.size→g6≠j:=fun j hj hl e=>by
          rcases hd6 with h | h
          · rw [h,e] at hj;exact hj.2 rfl
          · have:=Below.size (Pr.alloc V5 (.cells #[.int .i64 2,.slice bp p.length bc,.int .i64 0,.int .i64 0,.string ⟨#[]⟩] 52));omega
        have hpa:=Pr.alloc V5 (.cells #[.int .i64 2,.slice bp p.length bc,.int .i64 0,.int .i64 0,.string ⟨#[]⟩] 52)
        have hq9:=Below.size hpa
        have hq10:=hg6.size
        have hx6:∀ j,u9.ownBlock≠some j→j < V5.heap.size→w6.heap[j]? = V5.heap[j]? := fun j hj hl=>(hg6.block j (by omega) (fun e=>hj e.symm)).trans (Below.block hpa j hl)
        have hnA:u9.ownBlock≠some w.heap.size:=fun e=>by have:=(Hub.out _ e).1;omega
        have hnM:u9.ownBlock≠some w1.heap.size:=fun e=>by have:=(Hub.out _ e).1;omega
        have hnF:u9.ownBlock≠some (w4.heap.size+1):=fun e=>by have:=(Hub.out _ e).2;omega
        have hA6:w6.heap[w.heap.size]? = some (.cells #[.string l4,.slice o4 k4.length c4] 24 (0,0)):=(hx6 _ hnA (blk_lt HA5.out)).trans HA5.out
        have hF6:w6.heap[w4.heap.size+1]? = some (.cells #[.int .i64 kk,.slice bp4 pp.length bc4,.int .i64 aa,.int .i64 mm,.string ss] 52 (0,0)):=(hx6 _ hnF (blk_lt HF5.out)).trans HF5.out
        have hM5:V5.heap[w1.heap.size]? = some (.cells #[.string lm3,.slice mo3 km3.length mc3] 24 (0,0)):=Hc5.out.blk ((hb4.trans hp4).blk HM33.out) (by omega)
        have hM6:w6.heap[w1.heap.size]? = some (.cells #[.string lm3,.slice mo3 km3.length mc3] 24 (0,0)):=(hx6 _ hnM (blk_lt hM5)).trans hM5
        have hS4:∀ j,(S0 j∨V3.heap.size≤j)→Z j∧u9.ownBlock≠some j:=fun j hj=>by
          rcases hj with h | h
          · rw [HS0.out] at h;exact h.1
          · exact ⟨HZn.out j (by omega),fun e=>by have:=(Hub.out j e).2;omega⟩
        have h46:∀ j,(Z j∧u9.ownBlock≠some j)→j < w4.heap.size→w6.heap[j]? = w4.heap[j]? ∧ (Z j∧(Value.slice (some ⟨g6,0,none⟩) (D.length+1) c6).ownBlock≠some j):=fun j hj hl =>
          ⟨(hx6 j hj.2 (by omega)).trans (Hx5.out j hj hl),hj.1,fun e=>hg6ne j hj (by omega) (Option.some.inj e)⟩
        obtain ⟨Y,hY⟩:∃ Y:Nat→Prop,Y=fun j=>Z j∧(Value.slice (some ⟨g6,0,none⟩) (D.length+1) c6).ownBlock≠some j:=⟨_,rfl⟩
        have h46':∀ j,(Z j∧u9.ownBlock≠some j)→j < w4.heap.size→w6.heap[j]? = w4.heap[j]? ∧ Y j:=fun j hj hl=>by rw [hY];exact h46 j hj hl
        have hk6:Kids Y w6 k4 o4 c4:=Hk4.out.carry (fun j hj hl=>h46' j (hS4 j hj) hl)
        have hi6:Ints Y w6 pp bp4 bc4:=Flat.carry (fun j hj hl=>h46' j (hS4 j hj) hl) Hi4.out
        have hkm6:Kids Y w6 km3 mo3 mc3:=(Hk33.out.pr hb4).carry h46'
        have hU6:Dees Y w6 (undoL T (L.take i)) ob cb:=(((HU.out.pr Hr3.out).carry (fun j hj hl=>⟨Hc3.out.block j hl (HZA.out j hj.1).2.1,hj⟩)).pr hb4).carry h46'
        have hC6:Chg (fun k=>k=w.heap.size∨k=w1.heap.size) V w6:=(((((Hc.out.pr Hr3.out).trans Hc3.out (fun k h=>.inl (.inr h))).pr (hb4.trans hp4)).trans Hc5.out (fun k h=>.inl (.inl h))).pr hpa).trans (chg_grown hg6) (fun j hj=>.inr (Hub.out j hj).1)
        have hYn:∀ j,w6.heap.size≤j→Y j:=fun j hj=>by
          rw [hY];refine ⟨HZn.out j (by omega),fun e=>?_⟩
          have e2:g6=j:=Option.some.inj e
          have:=(ho6.block g6 rfl).2;omega
        rw [HD.out,← Hdel.out] at ho6
        have hundo:undoL T (L.take (i+1))=⟨kk,pp,aa,mm,ss⟩ :: undoL T (L.take i):=by rw [Hund.out,Hr4.out]
        have htree:.node l4 k4=prune (inL (L.take (i+1))) T:=by rw [← Hdo1.out,Hr4.out]
        have HY:=Lib.hid hY;have HYn:=Lib.hid hYn;have Ho6:=Lib.hid ho6;have HA6:=Lib.hid hA6;have HM6:=Lib.hid hM6;have Hk6:=Lib.hid hk6;have Hkm6:=Lib.hid hkm6;have HC6:=Lib.hid hC6;have Hundo:=Lib.hid hundo;have Htree:=Lib.hid htree
        have b0:=blk_cell (o:=0) hF6;have b1:=blk_cell (o:=1) hF6;have b2:=blk_cell (o:=2) hF6;have b3:=blk_cell (o:=3) hF6;have b4:=blk_cell (o:=4) hF6
        obtain ⟨U,hUd⟩:∃ U,U=undoL T (L.take i):=⟨_,rfl⟩
        have hUl:U.length≤100000:=by rw [hUd];have:=undoL_le T (L.take i);rw [List.length_take] at this;omega
        rw [← hUd] at hU6 ⊢
        have HU6:=Lib.hid hU6
        have HO:Hid (OwnsDX Y w6 w6.heap.size (w6.alloc (.cells #[.int .i64 kk,.slice bp4 pp.length bc4,.int .i64 aa,.int .i64 mm,.string ss] 52)) (.slice (some ⟨w6.heap.size,0,none⟩) 1 1) [⟨kk,pp,aa,mm,ss⟩]):=Lib.hid
          ⟨[.int .i64 kk,.slice bp4 pp.length bc4,.int .i64 aa,.int .i64 mm,.string ss],⟨rfl,.inr ⟨w6.heap.size,1,_,rfl,Nat.le_refl _,heap_alloc_new w6 _,Nat.le_refl _,by unfold maxLen;omega,rfl,rfl⟩⟩,_,[],rfl,⟨bp4,bc4,rfl,hi6,hss⟩,rfl⟩
        clear hY hYn ho6 hA6 hM6 hk6 hkm6 hC6 hundo htree hF6 hM5 hU6 hi6 hg6ne hx6 h46 h46' hS4 hg6 hd6 hpa
        go_upto_region 13 with (at_builtin;go_must (refine app_deeds rfl _ _ rfl Y w6 w6.heap.size (.slice (some ⟨w6.heap.size,0,none⟩) 1 1) [⟨kk,pp,aa,mm,ss⟩] rfl HO.out U ob cb rfl HU6.out (Pr.alloc _ _) (by simp;omega) (by simp) ?_);intro v7 w7 ho7 hg7 hd7)
        have hp7:Pr w6 w7:=Below.grown (Pr.alloc _ _) hg7 (by simp) (fun k hk=>by cases hk;simp)
        obtain ⟨o8,c8,rfl,hd8⟩:=ho7.dees hp7
        have hd9:Dees Y w7 (undoL T (L.take (i+1))) o8 c8:=by rw [Hundo.out,← hUd];exact hd8.mono (fun j hj _=>by rcases hj with h | h;exact h;exact HYn.out j h)
        have hlen9:(⟨kk,pp,aa,mm,ss⟩ :: U:List Dee).length=(undoL T (L.take (i+1))).length:=by rw [Hundo.out,← hUd]
        have ho9:=Ho6.out.pr hp7
        rw [← HD.out] at ho9
        have HY':Y=fun j=>Z j∧(Value.slice (some ⟨g6,0,none⟩) (D.length+1) c6).ownBlock≠some j:=HY.out
        have hka9:=Hk6.out.pr hp7
        have hkm9:=Hkm6.out.pr hp7
        rw [HY'] at hd9 hka9 hkm9
        refine ⟨⟨i+1,l4,k4,o4,c4,lm3,km3,mo3,mc3,o8,c8,by omega,by go_num,?_,ho9,hd9,hp7.blk HA6.out,hl4,Htree.out,hka9,hp7.blk HM6.out,hl3,Htm.out.symm,hkm9,HC6.out.pr hp7⟩,?_⟩
        · rw [← hlen9];rfl
        · simp [intOf];omega
    case neg =>
      have hie:i=L.length:=by omega
      have hws2:=HWs.out
      have hpw:Pr w wr:=((HwV.out.chg (fun k=>k=w.heap.size∨k=w1.heap.size)).trans hc (fun _ h=>.inl h)).to_pr (fun k hk=>by omega)
      subst hie
      rw [List.take_length] at hown hU hta ⊢
      obtain ⟨o7,c7,rfl,hds⟩:=hown.dees
      have hR2:=hc.blk HRV.out (by have:=HVs.out;omega)
      have r0:=blk_cell (o:=0) hR2;have r1:=blk_cell (o:=1) hR2;have r2:=blk_frozen (o:=0) hR2;have r3:=blk_frozen (o:=1) hR2
      have a0:=blk_cell (o:=0) hA;have a1:=blk_cell (o:=1) hA
      have key:∀ W4,Chg (fun k=>k=w.heap.size+1) wr W4→RLessPost S9 w T L (.returned (.tuple #[.slice o7 (delL T [] L).length c7,.slice ob (undoL T L).length cb,.agg #[.string la,.slice ao ka.length ac]])) W4:=fun W4 h4 =>
        ⟨la,ka,ao,ac,o7,c7,ob,cb,hta.symm,hla,rfl,hka.carry fun j hj hl=>⟨h4.block j hl (HZA.out j hj.1).2.2,HZ9.out j hj.1,hj.2⟩,
          (hown.kept (fun k (hk:V.heap.size≤k) hl=>h4.block k hl (by have:=HVs.out;omega))).mono (by have:=HVs.out;omega),hU.carry fun j hj hl=>⟨h4.block j hl (HZA.out j hj.1).2.2,HZ9.out j hj.1,hj.2⟩,((hpw.chg (fun k=>k=w.heap.size+1)).trans h4 (fun _ h=>.inl h)).to_pr (fun k hk=>by omega)⟩
      obtain ⟨D,hD⟩:∃ D,D=delL T [] L:=⟨_,rfl⟩
      obtain ⟨U,hUd⟩:∃ U,U=undoL T L:=⟨_,rfl⟩
      rw [← hD,← hUd] at key ⊢
      have Key:=Lib.hid key
      have hxl9:=Hxl.out
      clear key hown hU hds hta hka hM htm hkm hc hpw hR2 hA HS
      go_wp2_with fail
      go_region
      all_goals
        go_wp2_with fail
        refine bodyPost_ret (v:=.tuple #[.slice o7 D.length c7,.slice ob U.length cb,.agg #[.string la,.slice ao ka.length ac]]) (by simp [results,Tryd.results47,go_sem,r0,r1]) rfl ?_
        first
          | exact Key.out _ (Chg.pr (Chg.setCell (Chg.setCell (Chg.refl (fun k=>k=w.heap.size+1) wr) ⟨w.heap.size+1,0,none⟩ (.string la) (.inl rfl)) ⟨w.heap.size+1,1,none⟩ (.slice ao ka.length ac) (.inl rfl)) (Pr.drew _))
          | exact Key.out _ (Chg.setCell (Chg.setCell (Chg.pr (Chg.refl (fun k=>k=w.heap.size+1) wr) (Pr.drew wr)) ⟨w.heap.size+1,0,none⟩ (.string la) (.inl rfl)) ⟨w.heap.size+1,1,none⟩ (.slice ao ka.length ac) (.inl rfl))
end Go.Proofs.YtdbnfhpgmcjngacDoor
