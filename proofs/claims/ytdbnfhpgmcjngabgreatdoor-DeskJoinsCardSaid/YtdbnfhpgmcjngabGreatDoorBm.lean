/- Walks: a book's With and Merge. -/
import Derived.Test.YtdbnfhpgmcjngabGreatDoorBzv
import Derived.Test.YtdbnfhpgmcjngabGreatDoorBmk
import Derived.Test.YtdbnfhpgmcjngabGreatDoorBeh
namespace Go.Proofs.YtdbnfhpgmcjngabGreatDoor
open Go Go.RowKit
variable {X:Nat→Prop}
def bmergeP (ts:List Tr) (o x y:Int):Tr × List Int × Nat:=if (hasT ts o && hasT ts x && hasT ts y)=true then mergeT (getT ts o) (getT ts x) (getT ts y) else (Tr.zero,[],7)
set_option maxRecDepth 100000 in
set_option maxHeartbeats 3200000 in
theorem bmerge_anyF (B:Nat) (v:Value) (ts:List Tr) (o x y:Int) (w:World) (hb:BookOk X w B v ts) :
    Calls Tryz.prog 70 #[.pointer (some ⟨B,0,none⟩),.int .i64 o,.int .i64 x,.int .i64 y] w (MergePostF (bmergeP ts o x y) w):=by
  obtain ⟨W,hW⟩:∃ W,W=w.alloc (.cells #[.string ⟨#[]⟩,.slice none 0 0] 46):=⟨_,rfl⟩
  have hwW:Pr w W:=by rw [hW];exact Pr.alloc _ _
  have hWs:W.heap.size=w.heap.size+1:=by rw [hW];simp
  have r0:=stays (show W.cell? ⟨w.heap.size,0,none⟩=some (.string ⟨#[]⟩) by rw [hW];simp [go_sem])
  have r1:=stays (show W.cell? ⟨w.heap.size,1,none⟩=some (.slice none 0 0) by rw [hW];simp [go_sem])
  have f0:W.frozen? ⟨w.heap.size,0,none⟩=false:=by rw [hW];simp [go_sem]
  have f1:W.frozen? ⟨w.heap.size,1,none⟩=false:=by rw [hW];simp [go_sem]
  have G1:=Lib.hid fun W' (h:Pr W W')=>get_any B v ts o W' (hb.pr (hwW.trans h))
  have G2:=Lib.hid fun W' (h:Pr W W')=>get_any B v ts x W' (hb.pr (hwW.trans h))
  have G3:=Lib.hid fun W' (h:Pr W W')=>get_any B v ts y W' (hb.pr (hwW.trans h))
  unfold GetPost at G1 G2 G3
  obtain ⟨R,hR⟩:∃ R,R=bmergeP ts o x y:=⟨_,rfl⟩
  rw [← hR]
  have hR2:=hR
  unfold bmergeP at hR2
  have HR:=Lib.hid hR2
  have HW:=Lib.hid hwW;have HWs:=Lib.hid hWs;have F0:=Lib.hid f0;have F1:=Lib.hid f1
  generalize getT ts o=tq at *
  generalize getT ts x=tx at *
  generalize getT ts y=ty at *
  generalize hasT ts o=bo at *
  generalize hasT ts x=bx at *
  generalize hasT ts y=by' at *
  clear hb hwW hWs f0 f1 hR hR2
  go_enter Tryz.func70,Tryz.ntmps70
  go_upto_region 1 with fail
  rw [← hW];clear hW
  go_upto_region 2 with (go_at_call 59;(with_reducible refine Calls.mono (G1.out _ (Pr.refl _)) ?_);rintro e w1 ⟨l1,k1,o1,c1,rfl,hl1,rfl,hk1,hp1⟩)
  obtain ⟨V1,hV1⟩:∃ V,V=w1.alloc (.cells #[.string l1,.slice o1 k1.length c1] 46):=⟨_,rfl⟩
  have hq1:Pr W V1:=by rw [hV1];exact hp1.alloc' _
  have hk1:=(hk1.any).pr (show Pr w1 V1 by rw [hV1];exact Pr.alloc _ _)
  have a0:=stays (show V1.cell? ⟨w1.heap.size,0,none⟩=some (.string l1) by rw [hV1];simp [go_sem])
  have a1:=stays (show V1.cell? ⟨w1.heap.size,1,none⟩=some (.slice o1 k1.length c1) by rw [hV1];simp [go_sem])
  rw [← hV1]
  clear hV1 hp1
  go_upto_region 3 with (go_at_call 59;(with_reducible refine Calls.mono (G2.out _ hq1) ?_);rintro e w2 ⟨l2,k2,o2,c2,rfl,hl2,rfl,hk2,hp2⟩)
  obtain ⟨V2,hV2⟩:∃ V,V=w2.alloc (.cells #[.string l2,.slice o2 k2.length c2] 46):=⟨_,rfl⟩
  have hq2:Pr V1 V2:=by rw [hV2];exact hp2.alloc' _
  have hk2:=(hk2.any).pr (show Pr w2 V2 by rw [hV2];exact Pr.alloc _ _)
  have b0:=stays (show V2.cell? ⟨w2.heap.size,0,none⟩=some (.string l2) by rw [hV2];simp [go_sem])
  have b1:=stays (show V2.cell? ⟨w2.heap.size,1,none⟩=some (.slice o2 k2.length c2) by rw [hV2];simp [go_sem])
  rw [← hV2]
  clear hV2 hp2
  go_upto_region 4 with (go_at_call 59;(with_reducible refine Calls.mono (G3.out _ (hq1.trans hq2)) ?_);rintro e w3 ⟨l3,k3,o3,c3,rfl,hl3,rfl,hk3,hp3⟩)
  obtain ⟨V3,hV3⟩:∃ V,V=w3.alloc (.cells #[.string l3,.slice o3 k3.length c3] 46):=⟨_,rfl⟩
  have hq3:Pr V2 V3:=by rw [hV3];exact hp3.alloc' _
  have hk3:=(hk3.any).pr (show Pr w3 V3 by rw [hV3];exact Pr.alloc _ _)
  have d0:=stays (show V3.cell? ⟨w3.heap.size,0,none⟩=some (.string l3) by rw [hV3];simp [go_sem])
  have d1:=stays (show V3.cell? ⟨w3.heap.size,1,none⟩=some (.slice o3 k3.length c3) by rw [hV3];simp [go_sem])
  rw [← hV3]
  clear hV3 hp3
  have hq:=hq1.trans (hq2.trans hq3)
  have a0':=a0 _ (hq2.trans hq3);have a1':=a1 _ (hq2.trans hq3);have b0':=b0 _ hq3;have b1':=b1 _ hq3;have d0':=d0 _ (Pr.refl _);have d1':=d1 _ (Pr.refl _)
  have r0':=r0 _ hq;have r1':=r1 _ hq
  have f0':V3.frozen? ⟨w.heap.size,0,none⟩=false:=by rw [hq.frozen (by have:=HWs.out;omega)];exact F0.out
  have f1':V3.frozen? ⟨w.heap.size,1,none⟩=false:=by rw [hq.frozen (by have:=HWs.out;omega)];exact F1.out
  have MG:=Lib.hid (merge_anyF (w:=V3) hl1 hl2 hl3 (hk1.pr (hq2.trans hq3)) (hk2.pr hq3) hk3)
  unfold MergePostF at MG
  have Hq:=Lib.hid hq
  clear hk1 hk2 hk3 hq1 hq2 hq3 hq a0 a1 b0 b1 d0 d1 G1 G2 G3
  by_cases hall:(bo && bx && by')=true
  · have hr:=HR.out
    rw [if_pos hall] at hr
    rw [← hr] at MG
    simp only [Bool.and_eq_true] at hall
    obtain ⟨⟨rfl,rfl⟩,rfl⟩:=hall
    clear hr
    go_wp2_with (go_at_call 116;(with_reducible refine Calls.mono MG.out ?_);rintro e w5 ⟨l5,k5,o5,c5,p5,q5,hr5,hl5,rfl,hk5,hi5,hb5⟩;have r0':=r0 _ (Hq.out.trans hb5);have r1':=r1 _ (Hq.out.trans hb5);have f0':w5.frozen? ⟨w.heap.size,0,none⟩=false:=(by rw [(Hq.out.trans hb5).frozen (by have:=HWs.out;omega)];exact F0.out);have f1':w5.frozen? ⟨w.heap.size,1,none⟩=false:=(by rw [(Hq.out.trans hb5).frozen (by have:=HWs.out;omega)];exact F1.out))
    refine bodyPost_ret (v:=.tuple #[.agg #[.string l5,.slice o5 k5.length c5],.slice p5 R.2.1.length q5,.int .i64 R.2.2]) (by simp [results,Tryz.results70,go_sem,r0',r1']) rfl ?_
    have hs3:=Hq.out.size
    refine ⟨l5,k5,o5,c5,p5,q5,hr5,hl5,rfl,?_,?_,((HW.out.trans (Hq.out.trans hb5)).setCell (Nat.le_refl _) _).setCell (Nat.le_refl _) _⟩
    · exact ((hk5.setCell _ _ (by have:=HWs.out;simp [From];omega)).setCell _ _ (by have:=HWs.out;simp [From];omega)).from (by have:=HWs.out;omega)
    · exact Flat.mono (fun j (hj:V3.heap.size≤j) _=>show w.heap.size≤j by have:=HWs.out;omega) ((hi5.kept (kept_setCell _ _ _ _ (by have:=HWs.out;simp [From];omega))).kept (kept_setCell _ _ _ _ (by have:=HWs.out;simp [From];omega)))
  · have hr:=HR.out
    rw [if_neg hall] at hr
    have Hr:=Lib.hid hr
    have hcs:bo=false∨(bo=true∧bx=false)∨(bo=true∧bx=true∧by'=false):=by
      cases bo <;> cases bx <;> cases by' <;> simp at hall ⊢
    clear hr hall MG
    rcases hcs with rfl | ⟨rfl,rfl⟩ | ⟨rfl,rfl,rfl⟩
    all_goals
      go_wp2_with fail
      refine bodyPost_ret (v:=.tuple #[.agg #[.string ⟨#[]⟩,.slice none 0 0],.slice none 0 0,.int .i64 7]) (by simp [results,Tryz.results70,go_sem,r0',r1']) rfl ?_
      rw [Hr.out]
      exact ⟨⟨#[]⟩,[],none,0,none,0,rfl,by simp [ByteArray.size,maxLen],rfl,Kids.nil _ _ _ _ (Nat.zero_le _),Flat.nil _ _ _ _ (Nat.zero_le _),((HW.out.trans Hq.out).setCell (Nat.le_refl _) _).setCell (Nat.le_refl _) _⟩
def bwithP (ts:List Tr) (n:Int) (d:Dee):Tr × Nat:=if hasT ts n=true then ((doD (getT ts n) d).1,(doD (getT ts n) d).2.2) else (Tr.zero,7)
def WithPostF (r:Tr × Nat) (w:World) (e:Ending) (w':World):Prop:=∃ l ks oa cap,r.1=.node l ks∧l.size≤maxLen∧e=.returned (.tuple #[.agg #[.string l,.slice oa ks.length cap],.int .i64 r.2])∧Kids (From w.heap.size) w' ks oa cap∧Pr w w'
set_option maxRecDepth 100000 in
set_option maxHeartbeats 3200000 in
theorem bwith_anyF (B:Nat) (v:Value) (ts:List Tr) (n:Int) (k:Int) (p:List Int) (a m:Int) (s:ByteArray) (pa pc) (w:World) (hb:BookOk X w B v ts) (hs:s.size≤maxLen) (hp:Ints Any w p pa pc) (hpl:p.length≤100000) :
    Calls Tryz.prog 31 #[.pointer (some ⟨B,0,none⟩),.int .i64 n,.agg #[.int .i64 k,.slice pa p.length pc,.int .i64 a,.int .i64 m,.string s]] w (WithPostF (bwithP ts n ⟨k,p,a,m,s⟩) w):=by
  obtain ⟨W,hW⟩:∃ W,W=(w.alloc (.cells #[.int .i64 k,.slice pa p.length pc,.int .i64 a,.int .i64 m,.string s] 72)).alloc (.cells #[.string ⟨#[]⟩,.slice none 0 0] 46):=⟨_,rfl⟩
  have hwW:Pr w W:=by rw [hW];exact (Pr.alloc _ _).alloc' _
  have hWs:W.heap.size=w.heap.size+2:=by rw [hW];simp
  have d0:=stays (show W.cell? ⟨w.heap.size,0,none⟩=some (.int .i64 k) by rw [hW];simp [go_sem])
  have d1:=stays (show W.cell? ⟨w.heap.size,1,none⟩=some (.slice pa p.length pc) by rw [hW];simp [go_sem])
  have d2:=stays (show W.cell? ⟨w.heap.size,2,none⟩=some (.int .i64 a) by rw [hW];simp [go_sem])
  have d3:=stays (show W.cell? ⟨w.heap.size,3,none⟩=some (.int .i64 m) by rw [hW];simp [go_sem])
  have d4:=stays (show W.cell? ⟨w.heap.size,4,none⟩=some (.string s) by rw [hW];simp [go_sem])
  have r0:=stays (show W.cell? ⟨w.heap.size+1,0,none⟩=some (.string ⟨#[]⟩) by rw [hW];simp [go_sem])
  have r1:=stays (show W.cell? ⟨w.heap.size+1,1,none⟩=some (.slice none 0 0) by rw [hW];simp [go_sem])
  have f0:W.frozen? ⟨w.heap.size+1,0,none⟩=false:=by rw [hW];simp [go_sem]
  have f1:W.frozen? ⟨w.heap.size+1,1,none⟩=false:=by rw [hW];simp [go_sem]
  have G1:=Lib.hid (get_any B v ts n W (hb.pr hwW))
  have HP:=Lib.hid (Flat.pr hwW hp)
  unfold GetPost at G1
  obtain ⟨R,hR⟩:∃ R,R=bwithP ts n ⟨k,p,a,m,s⟩:=⟨_,rfl⟩
  rw [← hR]
  have hR2:=hR
  unfold bwithP at hR2
  generalize getT ts n=tq at *
  generalize hasT ts n=bo at *
  have HR:=Lib.hid hR2
  have HW:=Lib.hid hwW;have HWs:=Lib.hid hWs;have F0:=Lib.hid f0;have F1:=Lib.hid f1
  clear hb hp hwW hWs f0 f1 hR hR2
  go_enter Tryz.func31,Tryz.ntmps31
  go_upto_region 1 with fail
  rw [← hW];clear hW
  go_upto_region 2 with (go_at_call 59;(with_reducible refine Calls.mono G1.out ?_);rintro e w1 ⟨l1,k1,o1,c1,rfl,hl1,rfl,hk1,hp1⟩)
  obtain ⟨V,hV⟩:∃ V,V=w1.alloc (.cells #[.string l1,.slice o1 k1.length c1] 46):=⟨_,rfl⟩
  have hq:Pr W V:=by rw [hV];exact hp1.alloc' _
  have hk1:=(hk1.any).pr (show Pr w1 V by rw [hV];exact Pr.alloc _ _)
  have a0:=show V.cell? ⟨w1.heap.size,0,none⟩=some (.string l1) by rw [hV];simp [go_sem]
  have a1:=show V.cell? ⟨w1.heap.size,1,none⟩=some (.slice o1 k1.length c1) by rw [hV];simp [go_sem]
  have hVs:=hq.size
  rw [← hV]
  clear hV hp1
  have r0':=r0 _ hq;have r1':=r1 _ hq
  have f0':V.frozen? ⟨w.heap.size+1,0,none⟩=false:=by rw [hq.frozen (by have:=HWs.out;omega)];exact F0.out
  have f1':V.frozen? ⟨w.heap.size+1,1,none⟩=false:=by rw [hq.frozen (by have:=HWs.out;omega)];exact F1.out
  have e0:=d0 _ hq;have e1:=d1 _ hq;have e2:=d2 _ hq;have e3:=d3 _ hq;have e4:=d4 _ hq
  have DO:=Lib.hid (deedDo_any l1 k1 o1 c1 k p a m s pa pc V hl1 hk1 hs (Flat.pr hq HP.out) hpl)
  have Hq:=Lib.hid hq
  clear hk1 hq hVs
  cases bo
  case false =>
    have hr:=HR.out
    rw [if_neg (by simp)] at hr
    have Hr:=Lib.hid hr
    clear hr
    go_wp2_with fail
    refine bodyPost_ret (v:=.tuple #[.agg #[.string ⟨#[]⟩,.slice none 0 0],.int .i64 7]) (by simp [results,Tryz.results31,go_sem,r0',r1']) rfl ?_
    rw [Hr.out]
    exact ⟨⟨#[]⟩,[],none,0,rfl,by simp [ByteArray.size],rfl,Kids.nil _ _ _ _ (Nat.zero_le _),((HW.out.trans Hq.out).setCell (by simp) _).setCell (by simp) _⟩
  case true =>
    have hr:=HR.out
    rw [if_pos rfl] at hr
    have Hr:=Lib.hid hr
    clear hr
    unfold DeedPost at DO
    go_upto_region 5 with (go_at_call 60;(with_reducible refine Calls.mono DO.out ?_);rintro e w5 ⟨l5,k5,o5,c5,q1,q2,q3,q4,q5,b5,bc5,cd,hd,hl5,rfl,hk5,hi5,hb5⟩)
    obtain ⟨V2,hV2⟩:∃ V2,V2=(w5.alloc (.cells #[.string l5,.slice o5 k5.length c5] 46)).alloc (.cells #[.int .i64 q1,.slice b5 q2.length bc5,.int .i64 q3,.int .i64 q4,.string q5] 72):=⟨_,rfl⟩
    have hp2:Pr w5 V2:=by rw [hV2];exact (Pr.alloc _ _).alloc' _
    have z0:V2.cell? ⟨w5.heap.size,0,none⟩=some (.string l5):=by rw [hV2];simp [go_sem]
    have z1:V2.cell? ⟨w5.heap.size,1,none⟩=some (.slice o5 k5.length c5):=by rw [hV2];simp [go_sem]
    have hpV:=Hq.out.trans (hb5.trans hp2)
    have r0':=r0 _ hpV;have r1':=r1 _ hpV
    have f0':V2.frozen? ⟨w.heap.size+1,0,none⟩=false:=by rw [hpV.frozen (by have:=HWs.out;omega)];exact F0.out
    have f1':V2.frozen? ⟨w.heap.size+1,1,none⟩=false:=by rw [hpV.frozen (by have:=HWs.out;omega)];exact F1.out
    rw [← hV2]
    have HpV:=Lib.hid hpV;have Hk5:=Lib.hid (hk5.pr hp2);have Hd:=Lib.hid hd
    have hVs:=Lib.hid Hq.out.size
    clear hV2 hp2 hpV hb5 hk5 hi5 hd DO
    go_wp2_with fail
    refine bodyPost_ret (v:=.tuple #[.agg #[.string l5,.slice o5 k5.length c5],.int .i64 cd]) (by simp [results,Tryz.results31,go_sem,r0',r1']) rfl ?_
    rw [Hr.out,Hd.out]
    refine ⟨l5,k5,o5,c5,rfl,hl5,rfl,?_,((HW.out.trans HpV.out).setCell (by simp) _).setCell (by simp) _⟩
    exact ((Hk5.out.setCell _ _ (by have:=HWs.out;have:=hVs.out;simp [From];omega)).setCell _ _ (by have:=HWs.out;have:=hVs.out;simp [From];omega)).from (by have:=HWs.out;have:=hVs.out;omega)
end Go.Proofs.YtdbnfhpgmcjngabGreatDoor
