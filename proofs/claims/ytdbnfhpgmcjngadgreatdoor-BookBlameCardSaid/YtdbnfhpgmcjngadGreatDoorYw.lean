/- Walks: pleachingref.Since: since when nodes are there, by the deeds. -/
import Derived.Test.YtdbnfhpgmcjngadGreatDoorBp
import Derived.Test.YtdbnfhpgmcjngadGreatDoorYr
import Derived.Test.YtdbnfhpgmcjngadGreatDoorBvd
import Derived.Test.YtdbnfhpgmcjngadGreatDoorBwn
import Derived.Test.YtdbnfhpgmcjngadGreatDoorShb
import Derived.Deep.DeepCutAuto
namespace Go.Proofs.YtdbnfhpgmcjngadGreatDoor
open Go Go.RowKit
theorem run_dfault:∀ {l:List Dee} {i:Nat} {t:Tr} {r:Tr × List Dee},runGo i t l=.ok r→∀ d∈l,dfault d=0
  | [],i,t,r,_=>by simp
  | d :: l,i,t,r,h=>by
    by_cases h0:(doD t d).2.2=0
    · cases hx:runGo (i+1) (doD t d).1 l with
      | error e=>rw [runGo_err h0 hx] at h;cases h
      | ok y =>
        intro e he
        rcases List.mem_cons.1 he with rfl | he
        · exact (doD_ok.1 h0).2.1
        · exact run_dfault hx e he
    · rw [runGo_no h0] at h;cases h
theorem prefix_form (now:Int) {ds:List Dee} {t:Tr} {m:Mk} {r:Tr × List Dee} (ht:fault t=0) (h:runGo 0 t ds=.ok r) (hf:Form t m) (j:Nat):∃ tj,fault tj=0∧Form tj (doMs now (ds.take j) m):=by
  have hs:ds=ds.take j ++ ds.drop j:=(List.take_append_drop j ds).symm
  rw [hs,runGo_append] at h
  cases hx:runGo 0 t (ds.take j) with
  | error e=>rw [hx] at h;cases h
  | ok y=>exact ⟨y.1,runGo_fault hx ht,(form_go now _ t m 0 y.1 y.2 hx hf).1⟩
theorem atoi_num {v:Int} (h0:0≤v) (h1:v < 1000):Lib.atoiAll (numB v).data.toList=.ok v:=by
  obtain ⟨n,rfl⟩:=Int.eq_ofNat_of_zero_le h0
  have:=atoi_dec ⟨n,by omega⟩
  show Lib.atoiAll (Lib.itoa (n:Int))=_
  unfold Lib.itoa
  rw [if_neg (by omega)]
  simpa using this
def RSinPost (w:World) (xs:List Int) (e:Ending) (w':World):Prop:=∃ o c,e=.returned (.slice o xs.length c)∧Ints (From w.heap.size) w' xs o c∧Pr w w'
set_option maxRecDepth 100000 in
set_option maxHeartbeats 6400000 in
theorem rsince_any (l:ByteArray) (ks:List Tr) (oa cap) (m:Mk) (xs:List Int) (hxs:xs=listM m) (sa sc) (ds:List Dee) (da dc) (now:Int) (r:Tr × List Dee) (w:World) (_:l.size≤maxLen) (ft:fault (.node l ks)=0) (hk:Kids Any w ks oa cap) (hf:Form (.node l ks) m)
    (hx:Ints Any w xs sa sc) (hx0:∀ x∈xs,0≤x∧x≤900) (hd:Dees Any w ds da dc) (hn0:0≤now) (hn1:now≤900) (hgo:runGo 0 (.node l ks) ds=.ok r) (hlt0:Lt w) :
    Calls Tryz.prog 11 #[.agg #[.string l,.slice oa ks.length cap],.slice sa xs.length sc,.slice da ds.length dc,.int .i64 now] w (RSinPost w (listM (doMs now ds m))):=by
  have hsz:=(fault_zero.1 ft).1
  rw [Tr.sz_node] at hsz
  have hxl:xs.length=Tr.szL ks+1:=by rw [hxs,Form.list hf,Tr.sz_node]
  have hdl:=hd.len
  obtain ⟨hff,hok⟩:=form_go now ds _ m 0 r.1 r.2 hgo hf
  have HOK:=Lib.hid hok
  have HDF:=Lib.hid (run_dfault hgo)
  have HPF:=Lib.hid fun j=>prefix_form now ft hgo hf j
  have hall0:allM (fun x=>0≤x∧x≤900) m:=fun x h=>hx0 x (by rw [hxs];exact h)
  have HAll:Hid (allM (fun x=>0≤x∧x≤900) (doMs now ds m)):=Lib.hid (doMs_all now ⟨hn0,hn1⟩ ds m hok hall0)
  have hm0:relT (sinL xs) 0 (.node l ks)=trM m:=by rw [hxs];exact since_is hf
  rw [relT_node] at hm0
  obtain ⟨W,hW⟩:∃ W,W=w.alloc (.cells #[.string l,.slice oa ks.length cap] 33):=⟨_,rfl⟩
  have hwW:Pr w W:=by rw [hW];exact Pr.alloc _ _
  have hWs:W.heap.size=w.heap.size+1:=by rw [hW];simp
  have x0:W.cell? ⟨w.heap.size,0,none⟩=some (.string l):=by rw [hW];simp [go_sem]
  have x1:W.cell? ⟨w.heap.size,1,none⟩=some (.slice oa ks.length cap):=by rw [hW];simp [go_sem]
  obtain ⟨sM,hsM⟩:∃ s,s=sinL xs (0+Tr.szL ks):=⟨_,rfl⟩
  obtain ⟨LM,hLM⟩:∃ s,s=relF (sinL xs) 0 ks:=⟨_,rfl⟩
  obtain ⟨nM,hnM⟩:∃ n:Int,n=((0+Tr.szL ks+1:Nat):Int):=⟨_,rfl⟩
  have hx1:∀ x∈xs,0≤x∧x≤1000000:=fun x h=>by have:=hx0 x h;omega
  have hsMs:sM.size≤maxLen:=by rw [hsM];exact sinL_size hx1 _
  have Hm1:Hid (trM m=.node sM LM):=Lib.hid (by rw [← hm0,hsM,hLM])
  have M0:Calls Tryz.prog 31 #[.agg #[.string l,.slice oa ks.length cap],.slice sa xs.length sc,.int .i64 0] W (RSincePost xs W 0 ks):=rsince_step xs hx1 sa sc _ l ks oa cap 0 W (Nat.lt_succ_self _) (by omega) (hk.pr hwW) (hlt0.pr hwW) (Flat.pr hwW hx) (by omega)
  unfold RSincePost at M0
  rw [← hsM,← hLM,← hnM] at M0
  have M1:=Lib.hid M0
  have HW:=Lib.hid hwW;have HWs:=Lib.hid hWs;have HD:=Lib.hid (hd.pr hwW);have HLt:=Lib.hid (hlt0.pr hwW);have Hff:=Lib.hid hff
  have Hrf:Hid (fault r.1=0):=Lib.hid (runGo_fault hgo ft)
  clear M0 hsM hLM hnM hwW hWs hd hlt0 hm0 hall0 hok hff hgo hf hk hx hx0 hx1 hxs hxl ft
  go_enter Tryz.func11,Tryz.ntmps11
  go_upto_region 1 with fail
  rw [← hW];clear hW
  go_upto_region 2 with (go_at_call 31;(with_reducible refine Calls.mono M1.out ?_);rintro e w1 ⟨oM,cM,rfl,hkM,hb1⟩)
  obtain ⟨V,hV⟩:∃ V,V=w1.alloc (.cells #[.string sM,.slice oM LM.length cM] 33):=⟨_,rfl⟩
  have hpV:Pr w1 V:=by rw [hV];exact Pr.alloc _ _
  have hVs:V.heap.size=w1.heap.size+1:=by rw [hV];simp
  have hMB:V.heap[w1.heap.size]? = some (.cells #[.string sM,.slice oM LM.length cM] 33 (0,0)):=by rw [hV];exact heap_alloc_new w1 _
  rw [← hV]
  have hq1:=Below.size hb1;have hq2:=Below.size HW.out;have hws:=HWs.out
  obtain ⟨Z,hZ⟩:∃ Z:Nat→Prop,Z=fun j=>W.heap.size≤j∧j≠w1.heap.size:=⟨_,rfl⟩
  have hZA:∀ j,Z j→j≠w1.heap.size:=fun j h=>by rw [hZ] at h;exact h.2
  have hZn:∀ j,V.heap.size≤j→Z j:=fun j h=>by rw [hZ];exact ⟨by omega,by omega⟩
  have hWV:Pr W V:=hb1.trans hpV
  have hkZ:Kids Z V LM oM cM:=(hkM.mono (fun j (hj:W.heap.size≤j) hl=>by rw [hZ];exact ⟨hj,by omega⟩)).pr hpV
  have HZA:=Lib.hid hZA;have HZn:=Lib.hid hZn;have HkZ:=Lib.hid hkZ;have HMB:=Lib.hid hMB;have HWV:=Lib.hid hWV;have HVs:=Lib.hid hVs
  have HDV:=Lib.hid ((HD.out.mono (S':=fun j=>j < W.heap.size) (fun j _ h=>h)).pr hWV)
  have HLtV:=Lib.hid (HLt.out.pr hWV)
  clear hZ hZA hZn hWV hkZ hMB hkM hb1 hpV hV hVs x0 x1
  go_wp2_with fail
  go_loopw [11] (fun v11 wr=>∃ (i:Nat) (lm:ByteArray) (km:List Tr) (mo:Option Addr) (mc:Nat),i≤ds.length∧v11=.int .i64 i∧wr.heap[w1.heap.size]? = some (.cells #[.string lm,.slice mo km.length mc] 33 (0,0))∧lm.size≤maxLen∧trM (doMs now (ds.take i) m)=.node lm km∧Kids Z wr km mo mc∧Chg (fun k=>k=w1.heap.size) V wr) (fun v11 _=>ds.length - (intOf v11).toNat)
  case atStart=>exact ⟨0,sM,LM,oM,cM,by omega,rfl,HMB.out,hsMs,by rw [List.take_zero];exact Hm1.out,HkZ.out,Chg.refl _ _⟩
  case round =>
    obtain ⟨i,lm,km,mo,mc,hi,rfl,hM,hlm,htm,hkm,hc⟩:=hrel
    have hcs:=hc.size
    have hVs2:=HVs.out
    have hszm:Tr.szL km≤100000:=by
      obtain ⟨tj,h1,h2⟩:=HPF.out i
      have h3:=trM_sz (doMs now (ds.take i) m)
      rw [Form.list h2,htm,Tr.sz_node] at h3
      have:=(fault_zero.1 h1).1;omega
    have hWr:Pr W wr:=((HWV.out.chg (fun k=>k=w1.heap.size)).trans hc (fun _ h=>.inl h)).to_pr (fun k hk=>by omega)
    have HM:=Lib.hid hM;have Htm:=Lib.hid htm;have Hkm:=Lib.hid hkm;have Hc:=Lib.hid hc;have HWr:=Lib.hid hWr
    by_cases hlt:i < ds.length
    case pos =>
      have hDr:Dees (fun j=>j < W.heap.size) wr ds da dc:=HDV.out.carry (fun j (hj:j < W.heap.size) hl=>⟨hc.block j hl (by omega),hj⟩)
      obtain ⟨b9,o9,pa,pc,e9,k0,k1,k2,k3,k4,hpi,hls⟩:=hDr.get i hlt
      subst e9
      obtain ⟨⟨d1,d3⟩,_,d2,dp,dm,dpp,_⟩:=dfault_zero.1 (HDF.out _ (List.getElem_mem hlt))
      have hoki:=HOK.out i hlt
      have hstep:doMs now (ds.take (i+1)) m=doM ds[i] now ds[i].path (doMs now (ds.take i) m):=by rw [List.take_succ_eq_append_getElem hlt,doMs_snoc]
      obtain ⟨d,hd⟩:∃ d,d=ds[i]:=⟨_,rfl⟩
      rw [← hd] at k0 k1 k2 k3 k4 hpi hls d1 d3 d2 dp dm dpp hoki hstep
      have Hoki:=Lib.hid hoki;have Hstep:=Lib.hid hstep;have Hpi:=Lib.hid hpi
      have Hd2:=Lib.hid d2;have Hdpp:=Lib.hid dpp
      clear hM htm hkm hc hWr hDr hoki hstep hd d2 dpp hpi
      go_upto_region 6 with fail
      obtain ⟨V1,hV1⟩:∃ V1,V1=wr.alloc (.cells #[.int .i64 d.kind,.slice pa d.path.length pc,.int .i64 d.pos,.int .i64 d.many,.string d.lab] 69):=⟨_,rfl⟩
      have hp1:Pr wr V1:=by rw [hV1];exact Pr.alloc _ _
      have hV1s:V1.heap.size=wr.heap.size+1:=by rw [hV1];simp
      have hdB:V1.heap[wr.heap.size]? = some (.cells #[.int .i64 d.kind,.slice pa d.path.length pc,.int .i64 d.pos,.int .i64 d.many,.string d.lab] 69 (0,0)):=by rw [hV1];exact heap_alloc_new wr _
      rw [← hV1]
      clear hV1 k0 k1 k2 k3 k4
      have g0:=blk_cell (o:=0) hdB
      by_cases hk1:d.kind=1
      case pos =>
        have hnm:=name_marks d now hk1 d.path _ Hoki.out
        have e1:((d.kind:Int)==1)=true:=by simp [hk1]
        have Hnm:=Lib.hid hnm
        clear hk1 hnm
        go_wp2_with fail
        refine ⟨⟨i+1,lm,km,mo,mc,by omega,by go_num,hp1.blk HM.out,hlm,by rw [Hstep.out,Hnm.out];exact Htm.out,Hkm.out.pr hp1,Hc.out.pr hp1⟩,?_⟩
        simp [intOf];omega
      case neg =>
        have e1:((d.kind:Int)==1)=false:=by simp;exact hk1
        have Hk1:=Lib.hid hk1
        have I1:=Lib.hid (num_any now (by omega) (by omega) V1 ((HLt.out.pr HWr.out).pr hp1))
        have HdB:=Lib.hid hdB
        clear hk1 hdB
        go_upto_region 8 with (go_at_call 32;(with_reducible refine Calls.mono I1.out ?_);rintro e w2 ⟨rfl,hb2⟩;have hd2:=hb2.blk HdB.out;have g4:=blk_cell (o:=4) hd2;have f4:=blk_frozen (o:=4) hd2)
        obtain ⟨nb,hnb⟩:∃ b,b=numB now:=⟨_,rfl⟩
        have hnbs:nb.size≤maxLen:=by rw [hnb];exact numB_size (by omega) (by omega)
        rw [← hnb]
        obtain ⟨V2,hV2⟩:∃ V2,V2=w2.setCell ⟨wr.heap.size,4,none⟩ (.string nb):=⟨_,rfl⟩
        have hc2:Chg (fun k=>k=wr.heap.size) w2 V2:=by rw [hV2];exact Chg.setCell (Chg.refl (fun k=>k=wr.heap.size) w2) _ _ (.inl rfl)
        have hd3:V2.heap[wr.heap.size]? = some (.cells #[.int .i64 d.kind,.slice pa d.path.length pc,.int .i64 d.pos,.int .i64 d.many,.string nb] 69 (0,0)):=by rw [hV2];exact blk_set (o:=4) hd2 _
        have hr2:Pr wr w2:=hp1.trans hb2
        have hr3:Pr wr V2:=by rw [hV2];exact hr2.setCell (by simp) _
        rw [← hV2]
        clear hV2 g0 g4 f4 hd2
        have hM2:=hr3.blk HM.out
        have y0:=blk_cell (o:=0) hM2;have y1:=blk_cell (o:=1) hM2
        have j0:=blk_cell (o:=0) hd3;have j1:=blk_cell (o:=1) hd3;have j2:=blk_cell (o:=2) hd3;have j3:=blk_cell (o:=3) hd3;have j4:=blk_cell (o:=4) hd3
        have hq3:=Below.size hr3;have hq4:=hc2.size;have hq5:=Below.size hb2
        obtain ⟨S,hS⟩:∃ S:Nat→Prop,S=fun j=>Z j∧j < V2.heap.size:=⟨_,rfl⟩
        have hdn:=done_marks d d.path now Hk1.out ⟨d1,d3⟩ dp dm d.path _ Hoki.out
        rw [Htm.out,← hnb] at hdn
        have RD:Hid (Calls Tryz.prog 33 #[.agg #[.string lm,.slice mo km.length mc],.agg #[.int .i64 d.kind,.slice pa d.path.length pc,.int .i64 d.pos,.int .i64 d.many,.string nb],.slice pa d.path.length pc] V2 (DonePost S (trM (doM d now d.path (doMs now (ds.take i) m)),0) V2)):=Lib.hid (by
          rw [← hdn]
          exact rdone_any d.kind d.path d.pos d.many nb pa d.path.length pc d1 d3 dp dm hnbs d.path Hdpp.out (fun e=>(Hd2.out e).2) S lm km mo mc pa pc V2 hlm (by omega) (by rw [hS];exact (Hkm.out.pr hr3).mono (fun j hj hl=>⟨hj,hl⟩)) (Flat.any (Flat.pr hr3 Hpi.out)))
        have HM2:=Lib.hid hM2
        have HS:=Lib.hid hS
        clear hM2 hd3 hdn hS hnb
        go_upto_region 4 with (go_at_call 33;(with_reducible refine Calls.mono RD.out ?_);rintro e w3 ⟨lm3,km3,mo3,mc3,hr9,hl3,rfl,hk3,hb3⟩;have HM3:=Lib.hid (hb3.blk HM2.out);have f0:=blk_frozen (o:=0) HM3.out;have f1:=blk_frozen (o:=1) HM3.out;have g0:=blk_cell (o:=0) HM3.out;have g1:=blk_cell (o:=1) HM3.out)
        obtain ⟨V3,hV3⟩:∃ V3,V3=(w3.setCell ⟨w1.heap.size,0,none⟩ (.string lm3)).setCell ⟨w1.heap.size,1,none⟩ (.slice mo3 km3.length mc3):=⟨_,rfl⟩
        have hc3:Chg (fun k=>k=w1.heap.size) w3 V3:=by rw [hV3];exact Chg.setCell (Chg.setCell (Chg.refl (fun k=>k=w1.heap.size) w3) _ _ (.inl rfl)) _ _ (.inl rfl)
        have hM3:V3.heap[w1.heap.size]? = some (.cells #[.string lm3,.slice mo3 km3.length mc3] 33 (0,0)):=by rw [hV3];exact blk_set (o:=1) (blk_set (o:=0) HM3.out _) _
        rw [← hV3]
        have hk33:Kids Z V3 km3 mo3 mc3:=hk3.carry (fun j hj hl=>by
          have h:Z j:=by
            rcases hj with h | h
            · rw [HS.out] at h;exact h.1
            · exact HZn.out j (by omega)
          exact ⟨hc3.block j hl (HZA.out j h),h⟩)
        have hC3:Chg (fun k=>k=w1.heap.size) V V3:=((Hc.out.pr hr3).pr hb3).trans hc3 (fun _ h=>.inl h)
        have hr10:trM (doMs now (ds.take (i+1)) m)=.node lm3 km3:=by rw [Hstep.out];exact hr9
        have HM33:=Lib.hid hM3;have HK33:=Lib.hid hk33;have HC33:=Lib.hid hC3;have Hr10:=Lib.hid hr10
        clear hV3 f0 f1 g0 g1 hc3 hM3 hk33 hC3 hk3 hr9 hr10
        go_wp2_with fail
        refine ⟨⟨i+1,lm3,km3,mo3,mc3,by omega,by go_num,HM33.out,hl3,Hr10.out,HK33.out,HC33.out⟩,?_⟩
        simp [intOf];omega
    case neg =>
      have hie:i=ds.length:=by omega
      subst hie
      rw [List.take_length] at htm
      obtain ⟨M,hMd⟩:∃ M,M=doMs now ds m:=⟨_,rfl⟩
      rw [← hMd] at htm
      have hall:∀ x∈listM M,0≤x∧x≤900:=by rw [hMd];exact HAll.out
      have hsz9:=trM_sz M
      have hlab:=nds_marks M 0 (-1)
      rw [htm] at hsz9 hlab
      obtain ⟨nd,hnd⟩:∃ nd,nd=nds (.node lm km):=⟨_,rfl⟩
      have hndl:nd.length=(listM M).length:=by rw [hnd,nds_length,hsz9]
      have hlabi:∀ (j:Nat) (h:j < nd.length) (h2:j < (listM M).length),nd[j].lab=numB (listM M)[j]:=fun j h h2=>by
        have e:(nd.map (·.lab))[j]? = ((listM M).map numB)[j]? := by rw [hnd];exact congrArg (fun q=>q[j]?) hlab
        rw [List.getElem?_map,List.getElem?_map,List.getElem?_eq_getElem h,List.getElem?_eq_getElem h2] at e
        simpa using e
      have NO:=Lib.hid (nodesOf_nil lm km mo mc wr (by omega) hkm.any)
      rw [← hnd,show (Tr.node lm km).sz=nd.length by rw [hnd,nds_length]] at NO
      have a0:=blk_cell (o:=0) hM;have a1:=blk_cell (o:=1) hM
      have hLl:(listM M).length≤1000001:=by rw [← hsz9,Tr.sz_node];omega
      have HLd:Hid (listM (doMs now ds m)=listM M):=Lib.hid (by rw [hMd])
      generalize listM M=L at *
      have hMBl:=blk_lt hM
      have hpw:Pr w wr:=HW.out.trans hWr
      have Hhlab:=Lib.hid hlabi;have Hhall:=Lib.hid hall;have Hpw:=Lib.hid hpw;have Hndl:=Lib.hid hndl
      clear hM htm hkm hc hWr HM Htm Hkm Hc HWr hlabi hall hpw hsz9 hlab hMd hnd hndl HD HDV HDF HOK HPF
      go_upto_region 10 with (go_at_call 34;(with_reducible refine Calls.mono NO.out ?_);rintro e w2 ⟨g,cg,rfl,ho2,hb2⟩)
      obtain ⟨og,cg',e9,hn2⟩:=ho2.nds
      simp only [Value.slice.injEq] at e9
      obtain ⟨rfl,_,rfl⟩:=e9
      have hq9:=Below.size hb2;have hq8:=Below.size Hpw.out
      have HN2:=Lib.hid hn2;have Hb2:=Lib.hid hb2
      clear hn2 hb2 ho2 a0 a1 NO
      go_wp2_with fail
      go_loopw [14,15] (fun v14 v15 wz=>∃ i:Nat,i≤nd.length∧v15=.int .i64 i∧OwnsIs w2.heap.size wz v14 (L.take i)∧Pr w2 wz) (fun _ v15 _=>nd.length - (intOf v15).toNat)
      case atStart=>exact ⟨0,by omega,rfl,by rw [List.take_zero];exact OwnsIs.nil _ _,Pr.refl _⟩
      case round =>
        obtain ⟨i,hi2,rfl,hown,hb⟩:=hrel
        have hndl2:=Hndl.out
        have Hown:=Lib.hid hown;have Hb:=Lib.hid hb
        have hq7:=Below.size hb
        by_cases hlt:i < nd.length
        case pos =>
          have hltL:i < L.length:=by omega
          obtain ⟨b9,o9,e9,c0,_,_⟩:=(HN2.out.pr hb).get i hlt
          cases e9
          rw [Hhlab.out i hlt hltL,Nat.zero_add] at c0
          have hx9:0≤L[i]∧L[i]≤900:=Hhall.out _ (List.getElem_mem hltL)
          have hst:L.take (i+1)=L.take i ++ [L[i]]:=List.take_succ_eq_append_getElem hltL
          obtain ⟨x,hx⟩:∃ x,x=L[i]:=⟨_,rfl⟩
          rw [← hx] at c0 hx9 hst
          obtain ⟨sb,hsb⟩:∃ sb,sb=numB x:=⟨_,rfl⟩
          have AT:Hid (Calls Tryz.prog 35 #[.string sb] wr fun e w'=>e=.returned (.tuple #[.int .i64 x,.nilIface])∧Pr wr w'):=Lib.hid (by
            rw [hsb]
            have hs9:(numB x).size≤21:=Lib.itoa_length_le x (by omega) (by omega)
            exact atoi_ok (numB x) (by omega) x (atoi_num hx9.1 (by omega)) wr)
          rw [← hsb] at c0
          have Hst:=Lib.hid hst
          have hll:(L.take i).length≤1000000000:=by rw [List.length_take];omega
          generalize L.take i=R at *
          clear hsb hst hx hown hb hndl2
          go_upto_region 15 with (go_at_call 35;(with_reducible refine Calls.mono AT.out ?_);rintro e w4 ⟨rfl,hb4⟩)
          have hq6:=Below.size hb4
          go_wp2_with (at_builtin;go_must (refine app_int rfl _ _ rfl w2.heap.size _ _ rfl ((Hown.out.pr hb4).pr (Pr.alloc _ _)) w4.heap.size rfl _ (heap_alloc_new w4 _) hll (by simp;omega) ?_);intro g4 c4 w5 ho4 hg4 hd4)
          refine ⟨⟨i+1,by omega,by go_num,by rw [Hst.out];exact ho4,Below.grown ((Hb.out.trans hb4).alloc' _) hg4 (by simp;omega) (fun k hk=>(Hown.out.block k hk).1)⟩,?_⟩
          simp [intOf];omega
        case neg =>
          have hiL:L.take i=L:=List.take_of_length_le (by omega)
          rw [hiL] at Hown
          obtain ⟨o7,c7,rfl,hi7⟩:=Hown.out.ints
          have Hi7:=Lib.hid hi7
          have hie:i=nd.length:=by omega
          subst hie
          clear hiL Hown hown hb hi7
          go_wp2_with fail
          go_ret
          rw [HLd.out]
          exact ⟨o7,c7,rfl,Hi7.out.mono (fun j (hj:w2.heap.size≤j) _=>show w.heap.size≤j by omega),(Hpw.out.trans Hb2.out).trans Hb.out⟩
end Go.Proofs.YtdbnfhpgmcjngadGreatDoor
