/- Walks: script.Run. -/
import Derived.Test.YtdbnfhpgmcjngabGreatDoorBds
import Derived.Test.YtdbnfhpgmcjngabGreatDoorBeh
import Derived.Test.YtdbnfhpgmcjngabGreatDoorBpl
namespace Go.Proofs.YtdbnfhpgmcjngabGreatDoor
open Go Go.RowKit
theorem doD_backLab {t:Tr} {d:Dee} (h:(doD t d).2.2=0):(doD t d).2.1.lab.size≤maxLen:=by
  have hu:=(undone h).2
  have hb:(doD t d).2.1=backD t d:=by rw [doD_is h]
  rw [hb]
  obtain ⟨_,_,e2,_,_,_,hl⟩:=dfault_zero.1 hu
  by_cases hk:(backD t d).kind=2
  · rw [(e2 hk).1];unfold maxLen;simp [ByteArray.size]
  · have:=hl hk
    rw [isLab_eq] at this;simp only [Bool.and_eq_true,decide_eq_true_eq] at this
    unfold maxLen;omega
def RunPost (w:World) (t:Tr) (ds:List Dee) (e:Ending) (w':World):Prop :=
  ∃ l ks oa cap bs ob cb c i,runT t ds=(.node l ks,bs,c,i)∧l.size≤maxLen∧e=.returned (.tuple #[.agg #[.string l,.slice oa ks.length cap],.slice ob bs.length cb,.agg #[.int .i64 c,.int .i64 i]])∧Kids (From w.heap.size) w' ks oa cap∧Dees (From w.heap.size) w' bs ob cb∧OwnsDs w.heap.size w' (.slice ob bs.length cb) bs∧Pr w w'
theorem RunPost.no {w w':World} {t:Tr} {ds:List Dee} {c i:Int} (h:runT t ds=(Tr.zero,[],c,i)) (hp:Pr w w') :
    RunPost w t ds (.returned (.tuple #[.agg #[.string ⟨#[]⟩,.slice none 0 0],.slice none 0 0,.agg #[.int .i64 c,.int .i64 i]])) w' :=
  ⟨⟨#[]⟩,[],none,0,[],none,0,c,i,h,by simp [ByteArray.size],rfl,Kids.nil _ _ _ _ (Nat.zero_le _),Dees.nil _ _ _ _ (Nat.zero_le _),OwnsDs.nil _ _,hp⟩
set_option maxRecDepth 100000 in
set_option maxHeartbeats 6400000 in
theorem run_any (l:ByteArray) (ks:List Tr) (oa cap) (ds:List Dee) (da dc) (w:World) (hl:l.size≤maxLen) (hk:Kids Any w ks oa cap) (hd:Dees Any w ds da dc) (hpl:∀ d∈ds,d.path.length≤100000) :
    Calls Tryz.prog 82 #[.agg #[.string l,.slice oa ks.length cap],.slice da ds.length dc] w (RunPost w (.node l ks) ds):=by
  obtain ⟨W,hW⟩:∃ W,W=((w.alloc (.cells #[.string l,.slice oa ks.length cap] 46)).alloc (.cells #[.string ⟨#[]⟩,.slice none 0 0] 46)).alloc (.cells #[.int .i64 0,.int .i64 0] 29):=⟨_,rfl⟩
  have hwW:Pr w W:=by rw [hW];exact ((Pr.alloc _ _).alloc' _).alloc' _
  have hWs:W.heap.size=w.heap.size+3:=by rw [hW];simp
  have s0:=stays (show W.cell? ⟨w.heap.size,0,none⟩=some (.string l) by rw [hW];simp [go_sem])
  have s1:=stays (show W.cell? ⟨w.heap.size,1,none⟩=some (.slice oa ks.length cap) by rw [hW];simp [go_sem])
  have hT0:W.heap[w.heap.size]? = some (.cells #[.string l,.slice oa ks.length cap] 46 (0,0)):=by
    rw [hW];exact ((Pr.alloc _ _).alloc' _).blk (heap_alloc_new w (.cells #[.string l,.slice oa ks.length cap] 46))
  have hR1:W.heap[w.heap.size+1]? = some (.cells #[.string ⟨#[]⟩,.slice none 0 0] 46 (0,0)):=by
    rw [hW];exact (Pr.alloc _ _).blk (by simpa using heap_alloc_new (w.alloc (.cells #[.string l,.slice oa ks.length cap] 46)) (.cells #[.string ⟨#[]⟩,.slice none 0 0] 46))
  have hR2:W.heap[w.heap.size+2]? = some (.cells #[.int .i64 0,.int .i64 0] 29 (0,0)):=by
    rw [hW];simpa using heap_alloc_new ((w.alloc (.cells #[.string l,.slice oa ks.length cap] 46)).alloc (.cells #[.string ⟨#[]⟩,.slice none 0 0] 46)) (.cells #[.int .i64 0,.int .i64 0] 29)
  have HR:=Lib.hid (fun (W':World) (h:Chg (fun k=>k≠w.heap.size+1∧k≠w.heap.size+2) W W')=>And.intro (h.blk hR1 (by simp)) (h.blk hR2 (by simp)))
  have F1:=Lib.hid (fun W' (h:Pr W W')=>check_any l ks oa cap W' hl (hk.pr (hwW.trans h)))
  have hdl:=hd.len
  have HW:=Lib.hid hwW;have HWs:=Lib.hid hWs;have HK:=Lib.hid hk;have HD:=Lib.hid hd;have HT:=Lib.hid hT0
  clear hwW hWs hR1 hR2 hk hd hT0
  by_cases ft:fault (.node l ks)=0
  case neg =>
    have Hno:=Lib.hid (runT_fault (l:=ds) ft)
    have e1:((fault (.node l ks):Int) != 0)=true:=by simp [bne_iff_ne];omega
    clear ft
    generalize fault (.node l ks)=c at *
    go_enter Tryz.func82,Tryz.ntmps82
    go_upto_region 1 with fail
    rw [← hW];clear hW
    have x0:=s0 _ (Pr.refl _);have x1:=s1 _ (Pr.refl _)
    go_wp2_with (go_at_call 51;(with_reducible refine Calls.mono (F1.out _ (Pr.refl _)) ?_);rintro e w1 ⟨rfl,hb⟩;obtain ⟨r1,r2⟩:=HR.out _ (hb.chg _);have q0:=blk_cell (o:=0) r1;have q1:=blk_cell (o:=1) r1;have q2:=blk_frozen (o:=0) r1;have q3:=blk_frozen (o:=1) r1;have q4:=blk_cell (o:=0) r2;have q5:=blk_cell (o:=1) r2;have q6:=blk_frozen (o:=0) r2;have q7:=blk_frozen (o:=1) r2;have hp:=HW.out.trans hb;clear hb r1 r2)
    exact bodyPost_ret (v:=.tuple #[.agg #[.string ⟨#[]⟩,.slice none 0 0],.slice none 0 0,.agg #[.int .i64 c,.int .i64 (-1)]]) (by simp [results,Tryz.results82,go_sem,q0,q1,q4,q5]) rfl (RunPost.no Hno.out ((((hp.setCell (by simp <;> omega) _).setCell (by simp <;> omega) _).setCell (by simp <;> omega) _).setCell (by simp <;> omega) _))
  case pos =>
    rw [ft] at F1
    by_cases h80:80 < ds.length
    case pos =>
      have Hno:=Lib.hid (runT_many ft h80)
      have e1:decide ((80:Int) < (ds.length:Int))=true:=by simp;omega
      have e2:decide (80 < ds.length)=true:=by simp;omega
      clear ft h80
      go_enter Tryz.func82,Tryz.ntmps82
      go_upto_region 1 with fail
      rw [← hW];clear hW
      have x0:=s0 _ (Pr.refl _);have x1:=s1 _ (Pr.refl _)
      go_wp2_with (go_at_call 51;(with_reducible refine Calls.mono (F1.out _ (Pr.refl _)) ?_);rintro e w1 ⟨rfl,hb⟩;obtain ⟨r1,r2⟩:=HR.out _ (hb.chg _);have q0:=blk_cell (o:=0) r1;have q1:=blk_cell (o:=1) r1;have q2:=blk_frozen (o:=0) r1;have q3:=blk_frozen (o:=1) r1;have q4:=blk_cell (o:=0) r2;have q5:=blk_cell (o:=1) r2;have q6:=blk_frozen (o:=0) r2;have q7:=blk_frozen (o:=1) r2;have hp:=HW.out.trans hb;clear hb r1 r2)
      exact bodyPost_ret (v:=.tuple #[.agg #[.string ⟨#[]⟩,.slice none 0 0],.slice none 0 0,.agg #[.int .i64 2,.int .i64 (-1)]]) (by simp [results,Tryz.results82,go_sem,q0,q1,q4,q5]) rfl (RunPost.no Hno.out ((((hp.setCell (by simp <;> omega) _).setCell (by simp <;> omega) _).setCell (by simp <;> omega) _).setCell (by simp <;> omega) _))
    case neg =>
      have e1:decide ((80:Int) < (ds.length:Int))=false:=by simp;omega
      have e2:decide (80 < ds.length)=false:=by simp;omega
      have hsz:=(fault_zero.1 ft).1
      rw [Tr.sz_node] at hsz
      have OW:=Lib.hid fun W' (h:Pr W W')=>own_any l ks oa cap W' (by omega) (HK.out.pr (HW.out.trans h))
      go_enter Tryz.func82,Tryz.ntmps82
      go_upto_region 1 with fail
      rw [← hW];clear hW
      have x0:=s0 _ (Pr.refl _);have x1:=s1 _ (Pr.refl _)
      go_upto_region 8 with (first
        | (go_at_call 51;(with_reducible refine Calls.mono (F1.out _ (Pr.refl _)) ?_);rintro e w1 ⟨rfl,hb⟩;have z0:=s0 _ hb;have z1:=s1 _ hb)
        | (go_at_call 83;(with_reducible refine Calls.mono (OW.out _ hb) ?_);rintro e w2 ⟨oc,cc,rfl,hk2,hb2⟩;have hp:=hb.trans hb2;have z0:=s0 _ hp;have z1:=s1 _ hp;have g0:=blk_frozen (o:=0) (hp.blk HT.out);have g1:=blk_frozen (o:=1) (hp.blk HT.out)))
      obtain ⟨V,hV⟩:∃ V,V=(w2.setCell ⟨w.heap.size,0,none⟩ (.string l)).setCell ⟨w.heap.size,1,none⟩ (.slice oc ks.length cc):=⟨_,rfl⟩
      have hcV:Chg (fun k=>k=w.heap.size) W V:=by rw [hV];exact Chg.setCell (Chg.setCell (hp.chg (fun k=>k=w.heap.size)) _ _ (.inl rfl)) _ _ (.inl rfl)
      have hTV:V.heap[w.heap.size]? = some (.cells #[.string l,.slice oc ks.length cc] 46 (0,0)):=by rw [hV];exact blk_set (o:=1) (blk_set (o:=0) (hp.blk HT.out) _) _
      have hws:=HWs.out
      have hkV:Kids (From W.heap.size) V ks oc cc:=by
        rw [hV]
        have hs1:=hb.size
        exact ((hk2.mono (S':=From W.heap.size) (fun j hj _=>by have hj':_≤j:=hj;show W.heap.size≤j;omega)).setCell _ _ (by show ¬ (W.heap.size≤_);simp;omega)).setCell _ _ (by show ¬ (W.heap.size≤_);simp;omega)
      rw [← hV]
      have HcV:=Lib.hid hcV;have HTV:=Lib.hid hTV;have HkV:=Lib.hid hkV
      clear hV hcV hTV hkV hk2 hb hb2 hp z0 z1 g0 g1 x0 x1
      go_wp2_with fail
      go_loopw [30,8] (fun vi v wr=>∃ (i:Nat) (bs:List Dee) (l':ByteArray) (ks':List Tr) (oa':Option Addr) (cap':Nat),i≤ds.length∧bs.length=i∧vi=.int .i64 i∧OwnsDs W.heap.size wr v bs∧wr.heap[w.heap.size]? = some (.cells #[.string l',.slice oa' ks'.length cap'] 46 (0,0))∧l'.size≤maxLen∧Kids (Apart W.heap.size v) wr ks' oa' cap'∧Chg (fun k=>k=w.heap.size) W wr∧(runGo 0 (.node l ks) ds=match runGo i (.node l' ks') (ds.drop i) with | .error e=>.error e | .ok r=>.ok (r.1,r.2 ++ bs.reverse))) (fun vi _ _=>ds.length - (intOf vi).toNat)
      case atStart=>exact ⟨0,[],l,ks,oc,cc,by omega,rfl,rfl,OwnsDs.nil _ _,HTV.out,hl,HkV.out.carry (fun j hj _=>⟨rfl,hj,fun e=>by cases e⟩),HcV.out,by rw [List.drop_zero];cases runGo 0 (.node l ks) ds <;> simp⟩
      case round =>
        obtain ⟨i,bs,l',ks',oa',cap',hi,hbs,rfl,hown,hT,hl',hk',hc,hrun⟩:=hrel
        have HDr:Hid (Dees Any wr ds da dc):=Lib.hid (((HD.out.mono (S':=fun j=>j < w.heap.size) (fun j _ h=>h)).pr HW.out).carry fun k hS hl=>⟨hc.block k hl (by have:k < w.heap.size:=hS;omega),trivial⟩)
        have Hbs:=Lib.hid hbs;clear hbs
        have Hrun:=Lib.hid hrun;have Hown:=Lib.hid hown;have Hk:=Lib.hid hk';have Hc:=Lib.hid hc;have HTr:=Lib.hid hT
        have X0:=stays (blk_cell (o:=0) hT);have X1:=stays (blk_cell (o:=1) hT)
        clear hrun hown hk' hc hT
        by_cases hlt:i < ds.length
        case pos =>
          obtain ⟨b9,o9,pa,pc,e9,k0,k1,k2,k3,k4,hpi,hls⟩:=HDr.out.get i hlt
          subst e9
          have hpl1:=hpl _ (List.getElem_mem hlt)
          obtain ⟨d,hd⟩:∃ d,d=ds[i]:=⟨_,rfl⟩
          rw [← hd] at k0 k1 k2 k3 k4 hpi hls hpl1
          obtain ⟨k,p,a,m,s⟩:=d
          simp only at k0 k1 k2 k3 k4 hpi hls hpl1
          have DO:=Lib.hid fun W' (h:Pr wr W')=>deedDoF_any l' ks' oa' cap' k p a m s pa pc W' hl' (Hk.out.any.pr h) hls (Flat.pr h hpi) hpl1
          have Hd:=Lib.hid hd
          clear hd hpi hls
          go_upto_region 11 with fail
          obtain ⟨V1,hV1⟩:∃ V,V=wr.alloc (.cells #[.int .i64 k,.slice pa p.length pc,.int .i64 a,.int .i64 m,.string s] 72):=⟨_,rfl⟩
          have hpV:Pr wr V1:=by rw [hV1];exact Pr.alloc _ _
          have v0:V1.cell? ⟨wr.heap.size,0,none⟩=some (.int .i64 k):=by rw [hV1];simp [go_sem]
          have v1:V1.cell? ⟨wr.heap.size,1,none⟩=some (.slice pa p.length pc):=by rw [hV1];simp [go_sem]
          have v2:V1.cell? ⟨wr.heap.size,2,none⟩=some (.int .i64 a):=by rw [hV1];simp [go_sem]
          have v3:V1.cell? ⟨wr.heap.size,3,none⟩=some (.int .i64 m):=by rw [hV1];simp [go_sem]
          have v4:V1.cell? ⟨wr.heap.size,4,none⟩=some (.string s):=by rw [hV1];simp [go_sem]
          rw [← hV1]
          have x0:=X0 _ hpV;have x1:=X1 _ hpV
          clear hV1 k0 k1 k2 k3 k4
          go_upto_region 12 with (go_at_call 60;(with_reducible refine Calls.mono (DO.out _ hpV) ?_);rintro e w1 ⟨l2,ks2,oa2,cap2,k2,p2,a2,m2,s2,bp,bc,c,hdo,hl2,rfl,hk2,hi2,hb⟩)
          obtain ⟨V2,hV2⟩:∃ V,V=(w1.alloc (.cells #[.string l2,.slice oa2 ks2.length cap2] 46)).alloc (.cells #[.int .i64 k2,.slice bp p2.length bc,.int .i64 a2,.int .i64 m2,.string s2] 72):=⟨_,rfl⟩
          have hpV2:Pr w1 V2:=by rw [hV2];exact (Pr.alloc _ _).alloc' _
          have hN:V2.heap[w1.heap.size]? = some (.cells #[.string l2,.slice oa2 ks2.length cap2] 46 (0,0)):=by rw [hV2];exact (Pr.alloc _ _).blk (heap_alloc_new w1 _)
          have hB:V2.heap[w1.heap.size+1]? = some (.cells #[.int .i64 k2,.slice bp p2.length bc,.int .i64 a2,.int .i64 m2,.string s2] 72 (0,0)):=by
            rw [hV2];simpa using heap_alloc_new (w1.alloc (.cells #[.string l2,.slice oa2 ks2.length cap2] 46)) (.cells #[.int .i64 k2,.slice bp p2.length bc,.int .i64 a2,.int .i64 m2,.string s2] 72)
          rw [← hV2]
          have hdrop:ds.drop i=⟨k,p,a,m,s⟩ :: ds.drop (i+1):=by rw [List.drop_eq_getElem_cons hlt,Hd.out]
          have hq:Pr wr V2:=(hpV.trans hb).trans hpV2
          have hc2:Chg (fun k=>k=w.heap.size) W V2:=Hc.out.pr hq
          have HR2:=HR.out V2 ⟨hc2.os,hc2.tape,hc2.output,hc2.size,fun j hj hn=>hc2.block j hj (fun e=>hn ⟨by omega,by omega⟩)⟩
          obtain ⟨r1,r2⟩:=HR2
          have hpw:Pr w V2:=⟨hc2.os.trans HW.out.os,hc2.tape.trans HW.out.tape,hc2.output.trans HW.out.output,by have:=hc2.size;omega,fun j hj=>(hc2.block j (by omega) (by omega)).trans (HW.out.block j hj)⟩
          clear hV2 v0 v1 v2 v3 v4 x0 x1
          by_cases hz:c=0
          case neg =>
            have Hno:=Lib.hid (runT_err (l:=ds) (e:=(c,i)) ft (by omega) (by rw [Hrun.out,hdrop,runGo_no (by rw [hdo];exact hz),hdo]))
            have e3:((c:Int) != 0)=true:=by simp [bne_iff_ne];omega
            have q0:=blk_cell (o:=0) r1;have q1:=blk_cell (o:=1) r1;have q2:=blk_frozen (o:=0) r1;have q3:=blk_frozen (o:=1) r1;have q4:=blk_cell (o:=0) r2;have q5:=blk_cell (o:=1) r2;have q6:=blk_frozen (o:=0) r2;have q7:=blk_frozen (o:=1) r2
            clear hdrop hdo hz hN hB hk2 hi2 r1 r2
            go_wp2_with fail
            exact bodyPost_ret (v:=.tuple #[.agg #[.string ⟨#[]⟩,.slice none 0 0],.slice none 0 0,.agg #[.int .i64 c,.int .i64 i]]) (by simp [results,Tryz.results82,go_sem,q0,q1,q4,q5]) rfl (RunPost.no Hno.out ((((hpw.setCell (by simp <;> omega) _).setCell (by simp <;> omega) _).setCell (by simp <;> omega) _).setCell (by simp <;> omega) _))
          case pos =>
            subst hz
            have hrn:runGo 0 (.node l ks) ds=match runGo (i+1) (.node l2 ks2) (ds.drop (i+1)) with | .error e=>.error e | .ok r=>.ok (r.1,r.2 ++ (bs ++ [(⟨k2,p2,a2,m2,s2⟩:Dee)]).reverse):=by
              rw [Hrun.out,hdrop]
              cases hx:runGo (i+1) (.node l2 ks2) (ds.drop (i+1)) with
              | error e=>rw [runGo_err (e:=e) (by rw [hdo]) (by rw [hdo];exact hx)]
              | ok r=>rw [runGo_ok (r:=r) (by rw [hdo]) (by rw [hdo];exact hx),hdo];simp
            have Hrn:=Lib.hid hrn
            have Hls2:Hid (s2.size≤maxLen):=Lib.hid (by have:=doD_backLab (t:=.node l' ks') (d:=⟨k,p,a,m,s⟩) (by rw [hdo]);rw [hdo] at this;exact this)
            have hTw:=hq.blk HTr.out
            have t0:=blk_cell (o:=0) hTw;have t1:=blk_cell (o:=1) hTw;have f0:=blk_frozen (o:=0) hTw;have f1:=blk_frozen (o:=1) hTw
            have n0:=blk_cell (o:=0) hN;have n1:=blk_cell (o:=1) hN
            have b0:=blk_cell (o:=0) hB;have b1:=blk_cell (o:=1) hB;have b2:=blk_cell (o:=2) hB;have b3:=blk_cell (o:=3) hB;have b4:=blk_cell (o:=4) hB
            clear hrn hdrop r1 r2
            go_upto_region 15 with fail
            obtain ⟨V3,hV3⟩:∃ V,V=(V2.setCell ⟨w.heap.size,0,none⟩ (.string l2)).setCell ⟨w.heap.size,1,none⟩ (.slice oa2 ks2.length cap2):=⟨_,rfl⟩
            have hc3:Chg (fun k=>k=w.heap.size) V2 V3:=by rw [hV3];exact Chg.setCell (Chg.setCell (Chg.refl (fun k=>k=w.heap.size) V2) _ _ (.inl rfl)) _ _ (.inl rfl)
            have hT3:V3.heap[w.heap.size]? = some (.cells #[.string l2,.slice oa2 ks2.length cap2] 46 (0,0)):=by rw [hV3];exact blk_set (o:=1) (blk_set (o:=0) hTw _) _
            have hB3:=hc3.blk hB (by have:=hq.size;have:=hpV2.size;have:=hb.size;have:=hpV.size;have:=Hc.out.size;omega)
            have hown3:=((Hown.out.pr hq).setCell ⟨w.heap.size,0,none⟩ (.string l2) (by show w.heap.size < W.heap.size;omega)).setCell ⟨w.heap.size,1,none⟩ (.slice oa2 ks2.length cap2) (by show w.heap.size < W.heap.size;omega)
            rw [← hV3] at hown3
            rw [← hV3]
            clear hV3 b0 b1 b2 b3 b4 t0 t1 f0 f1 n0 n1
            have b0:=blk_cell (o:=0) hB3;have b1:=blk_cell (o:=1) hB3;have b2:=blk_cell (o:=2) hB3;have b3:=blk_cell (o:=3) hB3;have b4:=blk_cell (o:=4) hB3
            have hq1:=Below.size hpV;have hq2:=Below.size hb;have hq3:=Hc.out.size;have hq4:=Below.size hpV2;have hq5:=hc3.size
            have hi3:Ints (Apart W.heap.size u8) V3 p2 bp bc:=Flat.carry (fun j (hj:V1.heap.size≤j) hjl=>⟨hc3.block j hjl (by omega),by omega,fun e=>by have:=(Hown.out.block j e).2;omega⟩) (Flat.pr hpV2 hi2)
            have Hi3:=Lib.hid hi3;have Hown3:=Lib.hid hown3;have HT3:=Lib.hid hT3;have Hc3:=Lib.hid hc3
            have HK3:Hid (Kids (From V1.heap.size) V3 ks2 oa2 cap2):=Lib.hid ((hk2.pr hpV2).carry (fun j (hj:V1.heap.size≤j) hjl=>⟨hc3.block j hjl (by omega),hj⟩))
            have Hc2:=Lib.hid hc2
            have hbl:bs.length≤1000000000:=by have:=Hbs.out;omega
            have hls2:s2.size≤maxLen:=Hls2.out
            clear hi3 hown3 hT3 hc3 hN hB hB3 hk2 hi2 hTw hc2
            go_upto_region 16 with (at_builtin;go_must (refine app_deed rfl _ _ rfl W.heap.size u8 bs rfl (Hown3.out.pr (Pr.alloc _ _)) V3.heap.size rfl ⟨k2,p2,a2,m2,s2⟩ bp bc (heap_alloc_new V3 _) (Flat.pr (Pr.alloc _ _) Hi3.out) hls2 hbl (by simp;omega) ?_);intro g4 c4 w4 ho4 hg4 hd4)
            have hub:∀ j,u8.ownBlock=some j→W.heap.size≤j∧j < wr.heap.size:=fun j hj=>Hown.out.block j hj
            have hpa:=Pr.alloc V3 (.cells #[.int .i64 k2,.slice bp p2.length bc,.int .i64 a2,.int .i64 m2,.string s2] 72)
            have hT4:=(hg4.block w.heap.size (by have:=Below.size hpa;have:=Hc2.out.size;omega) (fun e=>by have:=hub _ e.symm;omega)).trans (hpa.blk HT3.out)
            have hK4:Kids (Apart W.heap.size (.slice (some ⟨g4,0,none⟩) (bs.length+1) c4)) w4 ks2 oa2 cap2:=HK3.out.carry fun j (hj:V1.heap.size≤j) hjl=>by
              refine ⟨(hg4.block j (by have:=Below.size hpa;omega) (fun e=>by have:=hub _ e.symm;omega)).trans (Below.block hpa j hjl),by omega,fun e=>?_⟩
              have e2:g4=j:=Option.some.inj e
              rcases hd4 with h | h
              · have:=hub _ h;omega
              · have:=Below.size hpa;omega
            have hC4:=(((Hc2.out.trans Hc3.out (fun _ h=>.inl h)).pr hpa).trans (chg_grown hg4) (fun j hj=>.inr (hub j hj).1))
            have hblen:(bs ++ [(⟨k2,p2,a2,m2,s2⟩:Dee)]).length=i+1:=by rw [List.length_append,Hbs.out];rfl
            have Ho4:=Lib.hid ho4;have HT4:=Lib.hid hT4;have HK4:=Lib.hid hK4;have HC4:=Lib.hid hC4;have Hblen:=Lib.hid hblen
            clear ho4 hT4 hK4 hC4 hblen hg4 hd4 hpa hub
            go_wp2_with fail
            refine ⟨⟨i+1,bs ++ [⟨k2,p2,a2,m2,s2⟩],l2,ks2,oa2,cap2,by omega,Hblen.out,by go_num,Ho4.out,HT4.out,hl2,HK4.out,HC4.out,Hrn.out⟩,?_⟩
            simp [intOf];omega
        case neg =>
          have hie:i=ds.length:=by omega
          have hrun1:runGo 0 (.node l ks) ds=.ok (.node l' ks',bs.reverse):=by rw [Hrun.out,hie,List.drop_length];rfl
          have Hok:=Lib.hid (runT_ok ft (by omega) hrun1)
          have R1:=Lib.hid (revDeeds_any W.heap.size wr u8 bs Hown.out)
          have hws:=HWs.out
          clear hrun1
          subst hie
          go_upto_region 18 with (go_at_call 123;(with_reducible refine Calls.mono R1.out ?_);rintro e w1 ⟨rfl,hds0,hch⟩;obtain ⟨o8,c8,hu8,hds⟩:=hds0.dees;rw [List.length_reverse] at hu8)
          have hc1:Chg (fun k=>k=w.heap.size) W w1:=Hc.out.trans hch (fun k hk=>.inr (Hown.out.block k hk).1)
          have hpw:Pr w w1:=((HW.out.chg (fun k=>k=w.heap.size)).trans hc1 (fun _ h=>.inl h)).to_pr (fun k hk=>by omega)
          have hk1:Kids (From W.heap.size) w1 ks' oa' cap':=Hk.out.carry fun j hS hl=>⟨hch.block j hl (fun e=>hS.2 e),hS.1⟩
          obtain ⟨r1,r2⟩:=HR.out w1 ⟨hc1.os,hc1.tape,hc1.output,hc1.size,fun j hj hn=>hc1.block j hj (fun e=>hn ⟨by omega,by omega⟩)⟩
          have hT1:=hch.blk HTr.out (fun e=>by have:=(Hown.out.block _ e).1;omega)
          have t0:=blk_cell (o:=0) hT1;have t1:=blk_cell (o:=1) hT1
          have q0:=blk_cell (o:=0) r1;have q1:=blk_cell (o:=1) r1;have q2:=blk_frozen (o:=0) r1;have q3:=blk_frozen (o:=1) r1;have q4:=blk_cell (o:=0) r2;have q5:=blk_cell (o:=1) r2;have q6:=blk_frozen (o:=0) r2;have q7:=blk_frozen (o:=1) r2
          have key:∀ W4,Chg (fun k=>k=w.heap.size+1∨k=w.heap.size+1+1) w1 W4→RunPost w (.node l ks) ds (.returned (.tuple #[.agg #[.string l',.slice oa' ks'.length cap'],.slice o8 bs.length c8,.agg #[.int .i64 0,.int .i64 0]])) W4:=fun W4 h4 =>
            ⟨l',ks',oa',cap',bs.reverse,o8,c8,0,0,Hok.out,hl',by rw [List.length_reverse],hk1.carry fun j (hj:W.heap.size≤j) hl=>⟨h4.block j hl (by omega),show w.heap.size≤j by omega⟩,
              hds.carry fun j (hj:W.heap.size≤j) hl=>⟨h4.block j hl (by omega),show w.heap.size≤j by omega⟩,by rw [List.length_reverse,← hu8];exact (hds0.kept (fun k (hk:W.heap.size≤k) hl=>h4.block k hl (by omega))).mono (by omega),((hpw.chg _).trans h4 (fun _ h=>.inl h)).to_pr (fun k hk=>by omega)⟩
          have Key:=Lib.hid key
          subst hu8
          clear key hds hk1 hT1 r1 r2 hch hc1 hpw
          go_wp2_with fail
          exact bodyPost_ret (v:=.tuple #[.agg #[.string l',.slice oa' ks'.length cap'],.slice o8 bs.length c8,.agg #[.int .i64 0,.int .i64 0]]) (by simp [results,Tryz.results82,go_sem,q0,q1,q4,q5]) rfl (Key.out _ (((((Chg.refl _ _).setCell _ _ (.inl (.inl rfl))).setCell _ _ (.inl (.inl rfl))).setCell _ _ (.inl (.inr rfl))).setCell _ _ (.inl (.inr rfl))))
end Go.Proofs.YtdbnfhpgmcjngabGreatDoor
