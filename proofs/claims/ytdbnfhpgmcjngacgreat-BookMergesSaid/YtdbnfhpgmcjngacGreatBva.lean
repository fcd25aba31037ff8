/- Walks: the document's deed done: a node named; a place that is not. -/
import Derived.Test.YtdbnfhpgmcjngacGreatBdw
import Derived.Test.YtdbnfhpgmcjngacGreatBwe
import Derived.Test.YtdbnfhpgmcjngacGreatBcl
import Derived.Test.YtdbnfhpgmcjngacGreatBgl
import Derived.Test.YtdbnfhpgmcjngacGreatBma
import Derived.Test.YtdbnfhpgmcjngacGreatBqt
import Derived.Deep.CutBlock
import Derived.Deep.DeepCutAuto
import Derived.Outline
import Derived.Deep.RegionWith
import Derived.Test.YtdbnfhpgmcjngacGreatBef
namespace Go.Proofs.YtdbnfhpgmcjngacGreat
open Go Go.RowKit
def DonePost (S:Nat→Prop) (r:Tr × Nat) (w:World) (e:Ending) (w':World):Prop:=∃ l' ks' oa' cap',r.1=.node l' ks'∧l'.size≤maxLen∧e=.returned (.tuple #[.agg #[.string l',.slice oa' ks'.length cap'],.int .i64 (r.2:Nat)])∧Kids (fun j=>S j∨w.heap.size≤j) w' ks' oa' cap'∧Pr w w'
theorem done_fin {S:Nat→Prop} {w w9:World} {l':ByteArray} {ks':List Tr} {oa':Option Addr} {cap' c:Nat} {r:Tr × Nat} (hr:r=(.node l' ks',c)) (hl:l'.size≤maxLen) (hp:Pr w w9) (hk:Kids (fun j=>(S j∧j < w.heap.size)∨w.heap.size+3≤j) w9 ks' oa' cap') :
    DonePost S r w (.returned (.tuple #[.agg #[.string l',.slice oa' ks'.length cap'],.int .i64 (c:Nat)])) ((w9.setCell ⟨w.heap.size+1+1,0,none⟩ (.string l')).setCell ⟨w.heap.size+1+1,1,none⟩ (.slice oa' ks'.length cap')):=by
  rw [hr]
  exact ⟨l',ks',oa',cap',rfl,hl,rfl,((hk.setCell _ _ (by show ¬ _;simp;omega)).setCell _ _ (by show ¬ _;simp;omega)).mono (fun j hj _=>hj.elim (fun h=>.inl h.1) (fun h=>.inr (by omega))),(hp.setCell (by simp;omega) _).setCell (by simp;omega) _⟩
section
variable {S:Nat→Prop} {l:ByteArray} {ks:List Tr} {oa:Option Addr} {cap:Nat} {k a m:Int} {s:ByteArray} {pa:Option Addr} {np pc:Nat} {qa:Option Addr} {qc:Nat} {w:World}
set_option maxRecDepth 100000 in
set_option maxHeartbeats 3200000 in
theorem rdone_far (x:Int) (q:List Int) (hl:l.size≤maxLen) (hk:Kids S w ks oa cap) (hq:Ints Any w (x :: q) qa qc) (hlast:k=2→q≠[]) (hx:(ks.length:Int)≤x) :
    Calls Tryz.prog 31 #[.agg #[.string l,.slice oa ks.length cap],.agg #[.int .i64 k,.slice pa np pc,.int .i64 a,.int .i64 m,.string s],.slice qa (q.length+1) qc] w (DonePost S (.node l ks,7) w):=by
  have hm:=hk.len
  have hmq:=Ints.len hq
  simp only [List.length_cons] at hmq
  obtain ⟨bq,oq,rfl,cq⟩:=Ints.get hq 0 (by simp)
  simp only [List.getElem_cons_zero,Nat.add_zero] at cq
  obtain ⟨W,hW⟩:∃ W,W=((w.alloc (.cells #[.string l,.slice oa ks.length cap] 34)).alloc (.cells #[.int .i64 k,.slice pa np pc,.int .i64 a,.int .i64 m,.string s] 25)).alloc (.cells #[.string ⟨#[]⟩,.slice none 0 0] 34):=⟨_,rfl⟩
  have hwW:Pr w W:=by rw [hW];exact ((Pr.alloc _ _).alloc' _).alloc' _
  have hWs:W.heap.size=w.heap.size+3:=by rw [hW];simp
  have s0:=stays (show W.cell? ⟨w.heap.size,0,none⟩=some (.string l) by rw [hW];simp [go_sem])
  have s1:=stays (show W.cell? ⟨w.heap.size,1,none⟩=some (.slice oa ks.length cap) by rw [hW];simp [go_sem])
  have d0:=stays (show W.cell? ⟨w.heap.size+1,0,none⟩=some (.int .i64 k) by rw [hW];simp [go_sem])
  have d1:=stays (show W.cell? ⟨w.heap.size+1,1,none⟩=some (.slice pa np pc) by rw [hW];simp [go_sem])
  have d2:=stays (show W.cell? ⟨w.heap.size+1,2,none⟩=some (.int .i64 a) by rw [hW];simp [go_sem])
  have d3:=stays (show W.cell? ⟨w.heap.size+1,3,none⟩=some (.int .i64 m) by rw [hW];simp [go_sem])
  have d4:=stays (show W.cell? ⟨w.heap.size+1,4,none⟩=some (.string s) by rw [hW];simp [go_sem])
  have hR:W.heap[w.heap.size+1+1]? = some (.cells #[.string ⟨#[]⟩,.slice none 0 0] 34 (0,0)):=by
    rw [hW];simpa using heap_alloc_new ((w.alloc (.cells #[.string l,.slice oa ks.length cap] 34)).alloc (.cells #[.int .i64 k,.slice pa np pc,.int .i64 a,.int .i64 m,.string s] 25)) (.cells #[.string ⟨#[]⟩,.slice none 0 0] 34)
  have HR:=Lib.hid hR;have HW:=Lib.hid hwW;have HWs:=Lib.hid hWs;have HK:=Lib.hid ((hk.mono (S':=fun j=>S j∧j < w.heap.size) (fun j h1 h2=>⟨h1,h2⟩)).pr hwW)
  clear hR hk
  have cq:=stays (hwW.cell cq)
  have hd1:decide ((ks.length:Int)≤x)=true:=by simpa using hx
  have z1:((q.length:Int)+1==0)=false:=by simp;omega
  clear hwW hq hWs
  by_cases hk2:k=2
  case pos =>
    have e2:(k==2)=true:=by simp [hk2]
    have hne:=hlast hk2
    have hql:0 < q.length:=List.length_pos_iff.2 hne
    have z2:((q.length:Int)+1==1)=false:=by simp;omega
    have z3:((q.length:Int)==0)=false:=by simp;omega
    clear hk2 hne
    go_enter Tryz.func31,Tryz.ntmps31
    go_upto_region 1 with fail
    rw [← hW];clear hW
    have x0:=d0 _ (Pr.refl _);have x1:=cq _ (Pr.refl _);have x2:=s1 _ (Pr.refl _);have x3:=s0 _ (Pr.refl _)
    have r0:=blk_cell (o:=0) HR.out;have r1:=blk_cell (o:=1) HR.out;have f0:=blk_frozen (o:=0) HR.out;have f1:=blk_frozen (o:=1) HR.out
    go_wp2_with fail
    refine bodyPost_ret (v:=.tuple #[.agg #[.string l,.slice oa ks.length cap],.int .i64 7]) (by simp [results,Tryz.results31,go_sem,r0,r1]) rfl ?_
    exact done_fin (c:=7) rfl hl HW.out (HK.out.mono (fun j hj _=>.inl hj))
  case neg =>
    have e2:(k==2)=false:=by simp [hk2]
    clear hk2
    go_enter Tryz.func31,Tryz.ntmps31
    go_upto_region 1 with fail
    rw [← hW];clear hW
    have x0:=d0 _ (Pr.refl _);have x1:=cq _ (Pr.refl _);have x2:=s1 _ (Pr.refl _);have x3:=s0 _ (Pr.refl _)
    have r0:=blk_cell (o:=0) HR.out;have r1:=blk_cell (o:=1) HR.out;have f0:=blk_frozen (o:=0) HR.out;have f1:=blk_frozen (o:=1) HR.out
    go_wp2_with fail
    refine bodyPost_ret (v:=.tuple #[.agg #[.string l,.slice oa ks.length cap],.int .i64 7]) (by simp [results,Tryz.results31,go_sem,r0,r1]) rfl ?_
    exact done_fin (c:=7) rfl hl HW.out (HK.out.mono (fun j hj _=>.inl hj))
set_option maxRecDepth 100000 in
set_option maxHeartbeats 3200000 in
theorem rdone_name (hs:s.size≤maxLen) (hsz:Tr.szL ks≤1000000) (hk:Kids S w ks oa cap) (hk1:k=1) :
    Calls Tryz.prog 31 #[.agg #[.string l,.slice oa ks.length cap],.agg #[.int .i64 k,.slice pa np pc,.int .i64 a,.int .i64 m,.string s],.slice qa 0 qc] w (DonePost S (.node s ks,0) w):=by
  obtain ⟨W,hW⟩:∃ W,W=((w.alloc (.cells #[.string l,.slice oa ks.length cap] 34)).alloc (.cells #[.int .i64 k,.slice pa np pc,.int .i64 a,.int .i64 m,.string s] 25)).alloc (.cells #[.string ⟨#[]⟩,.slice none 0 0] 34):=⟨_,rfl⟩
  have hwW:Pr w W:=by rw [hW];exact ((Pr.alloc _ _).alloc' _).alloc' _
  have hWs:W.heap.size=w.heap.size+3:=by rw [hW];simp
  have s0:=stays (show W.cell? ⟨w.heap.size,0,none⟩=some (.string l) by rw [hW];simp [go_sem])
  have s1:=stays (show W.cell? ⟨w.heap.size,1,none⟩=some (.slice oa ks.length cap) by rw [hW];simp [go_sem])
  have d0:=stays (show W.cell? ⟨w.heap.size+1,0,none⟩=some (.int .i64 k) by rw [hW];simp [go_sem])
  have d1:=stays (show W.cell? ⟨w.heap.size+1,1,none⟩=some (.slice pa np pc) by rw [hW];simp [go_sem])
  have d2:=stays (show W.cell? ⟨w.heap.size+1,2,none⟩=some (.int .i64 a) by rw [hW];simp [go_sem])
  have d3:=stays (show W.cell? ⟨w.heap.size+1,3,none⟩=some (.int .i64 m) by rw [hW];simp [go_sem])
  have d4:=stays (show W.cell? ⟨w.heap.size+1,4,none⟩=some (.string s) by rw [hW];simp [go_sem])
  have hR:W.heap[w.heap.size+1+1]? = some (.cells #[.string ⟨#[]⟩,.slice none 0 0] 34 (0,0)):=by
    rw [hW];simpa using heap_alloc_new ((w.alloc (.cells #[.string l,.slice oa ks.length cap] 34)).alloc (.cells #[.int .i64 k,.slice pa np pc,.int .i64 a,.int .i64 m,.string s] 25)) (.cells #[.string ⟨#[]⟩,.slice none 0 0] 34)
  have HR:=Lib.hid hR;have HW:=Lib.hid hwW;have HWs:=Lib.hid hWs;have HK:=Lib.hid ((hk.mono (S':=fun j=>S j∧j < w.heap.size) (fun j h1 h2=>⟨h1,h2⟩)).pr hwW)
  clear hR hk
  have OL:=Lib.hid fun (W':World) (h:Pr W W')=>rownList_any ks oa cap W' hsz (HK.out.any.pr h)
  subst hk1
  clear hwW hWs
  go_enter Tryz.func31,Tryz.ntmps31
  go_upto_region 1 with fail
  rw [← hW];clear hW
  have x0:=d0 _ (Pr.refl _);have x2:=s1 _ (Pr.refl _);have x3:=s0 _ (Pr.refl _)
  have y0:=fun o=>d0 _ (Pr.alloc W o);have y4:=fun o=>d4 _ (Pr.alloc W o);have y1:=fun o=>s1 _ (Pr.alloc W o)
  go_wp2_with (go_at_call 42;(with_reducible refine Calls.mono (OL.out _ (Pr.alloc _ _)) ?_);rintro e w1 ⟨v,rfl,hown,hb⟩;obtain ⟨ob,cb,rfl,hkb⟩:=hown.kids;have hB3:=hb.blk (heap_alloc_new W _);have hB2:=hb.blk ((Pr.alloc W _).blk HR.out);have g0:=blk_cell (o:=0) hB3;have g1:=blk_cell (o:=1) hB3;have h1:=blk_frozen (o:=1) hB3;have r0:=blk_cell (o:=0) hB2;have r1:=blk_cell (o:=1) hB2;have f0:=blk_frozen (o:=0) hB2;have f1:=blk_frozen (o:=1) hB2;have hne:¬ W.heap.size=w.heap.size+1+1:=by have:=HWs.out;omega)
  refine bodyPost_ret (v:=.tuple #[.agg #[.string s,.slice ob ks.length cb],.int .i64 0]) (by simp [results,Tryz.results31,go_sem,r0,r1]) rfl ?_
  exact done_fin (c:=0) rfl hs (((HW.out.trans (Pr.alloc W _)).trans hb).setCell (by have:=HWs.out;simp;omega) _) ((hkb.setCell _ _ (by show ¬ (W.alloc _).heap.size≤_;simp)).mono (fun j hj _=>.inr (by have hj':(W.alloc _).heap.size≤j:=hj;have:=HWs.out;simp at hj';omega)))
set_option maxRecDepth 100000 in
set_option maxHeartbeats 3200000 in
theorem rdone_delfar (x:Int) (hl:l.size≤maxLen) (hk:Kids S w ks oa cap) (hq:Ints Any w [x] qa qc) (hk2:k=2) (hx:(ks.length:Int)≤x) :
    Calls Tryz.prog 31 #[.agg #[.string l,.slice oa ks.length cap],.agg #[.int .i64 k,.slice pa np pc,.int .i64 a,.int .i64 m,.string s],.slice qa 1 qc] w (DonePost S (.node l ks,7) w):=by
  have hm:=hk.len
  obtain ⟨bq,oq,rfl,cq⟩:=Ints.get hq 0 (by simp)
  simp only [List.getElem_cons_zero,Nat.add_zero] at cq
  obtain ⟨W,hW⟩:∃ W,W=((w.alloc (.cells #[.string l,.slice oa ks.length cap] 34)).alloc (.cells #[.int .i64 k,.slice pa np pc,.int .i64 a,.int .i64 m,.string s] 25)).alloc (.cells #[.string ⟨#[]⟩,.slice none 0 0] 34):=⟨_,rfl⟩
  have hwW:Pr w W:=by rw [hW];exact ((Pr.alloc _ _).alloc' _).alloc' _
  have hWs:W.heap.size=w.heap.size+3:=by rw [hW];simp
  have s0:=stays (show W.cell? ⟨w.heap.size,0,none⟩=some (.string l) by rw [hW];simp [go_sem])
  have s1:=stays (show W.cell? ⟨w.heap.size,1,none⟩=some (.slice oa ks.length cap) by rw [hW];simp [go_sem])
  have d0:=stays (show W.cell? ⟨w.heap.size+1,0,none⟩=some (.int .i64 k) by rw [hW];simp [go_sem])
  have d1:=stays (show W.cell? ⟨w.heap.size+1,1,none⟩=some (.slice pa np pc) by rw [hW];simp [go_sem])
  have d2:=stays (show W.cell? ⟨w.heap.size+1,2,none⟩=some (.int .i64 a) by rw [hW];simp [go_sem])
  have d3:=stays (show W.cell? ⟨w.heap.size+1,3,none⟩=some (.int .i64 m) by rw [hW];simp [go_sem])
  have d4:=stays (show W.cell? ⟨w.heap.size+1,4,none⟩=some (.string s) by rw [hW];simp [go_sem])
  have hR:W.heap[w.heap.size+1+1]? = some (.cells #[.string ⟨#[]⟩,.slice none 0 0] 34 (0,0)):=by
    rw [hW];simpa using heap_alloc_new ((w.alloc (.cells #[.string l,.slice oa ks.length cap] 34)).alloc (.cells #[.int .i64 k,.slice pa np pc,.int .i64 a,.int .i64 m,.string s] 25)) (.cells #[.string ⟨#[]⟩,.slice none 0 0] 34)
  have HR:=Lib.hid hR;have HW:=Lib.hid hwW;have HWs:=Lib.hid hWs;have HK:=Lib.hid ((hk.mono (S':=fun j=>S j∧j < w.heap.size) (fun j h1 h2=>⟨h1,h2⟩)).pr hwW)
  clear hR hk
  have cq:=stays (hwW.cell cq)
  have hd1:decide ((ks.length:Int)≤x)=true:=by simpa using hx
  subst hk2
  clear hwW hq
  go_enter Tryz.func31,Tryz.ntmps31
  go_upto_region 1 with fail
  rw [← hW];clear hW
  have x0:=d0 _ (Pr.refl _);have x3:=s0 _ (Pr.refl _)
  have y0:=fun o=>d0 _ (Pr.alloc W o)
  go_upto_region 23 with fail
  obtain ⟨V,hV⟩:∃ V,V=W.alloc (.cells #[.string l,.slice none 0 0] 34):=⟨_,rfl⟩
  have hwV:Pr W V:=by rw [hV];exact Pr.alloc _ _
  rw [← hV]
  have x1:=cq _ hwV;have x2:=s1 _ hwV;have x4:=s0 _ hwV
  have hB2:=hwV.blk HR.out
  have r0:=blk_cell (o:=0) hB2;have r1:=blk_cell (o:=1) hB2;have f0:=blk_frozen (o:=0) hB2;have f1:=blk_frozen (o:=1) hB2
  have Hp:=Lib.hid (HW.out.trans hwV);have HkV:=Lib.hid (HK.out.pr hwV)
  clear hV hwV hB2 y0
  go_quiet (fail)
  go_wp2_with fail
  refine bodyPost_ret (v:=.tuple #[.agg #[.string l,.slice oa ks.length cap],.int .i64 7]) (by simp [results,Tryz.results31,go_sem,r0,r1]) rfl ?_
  exact done_fin (c:=7) rfl hl (Hp.out.drewN' _) ((HkV.out.pr (Pr.drewN _ _)).mono (fun j hj _=>.inl hj))
set_option maxRecDepth 100000 in
set_option maxHeartbeats 3200000 in
theorem rdone_insfar (hl:l.size≤maxLen) (hk:Kids S w ks oa cap) (hk3:k=3) (ha:0≤a) (hfar:(ks.length:Int) < a∨(ks.length:Int) - a < m) :
    Calls Tryz.prog 31 #[.agg #[.string l,.slice oa ks.length cap],.agg #[.int .i64 k,.slice pa np pc,.int .i64 a,.int .i64 m,.string s],.slice qa 0 qc] w (DonePost S (.node l ks,9) w):=by
  have hm:=hk.len
  obtain ⟨W,hW⟩:∃ W,W=((w.alloc (.cells #[.string l,.slice oa ks.length cap] 34)).alloc (.cells #[.int .i64 k,.slice pa np pc,.int .i64 a,.int .i64 m,.string s] 25)).alloc (.cells #[.string ⟨#[]⟩,.slice none 0 0] 34):=⟨_,rfl⟩
  have hwW:Pr w W:=by rw [hW];exact ((Pr.alloc _ _).alloc' _).alloc' _
  have hWs:W.heap.size=w.heap.size+3:=by rw [hW];simp
  have s0:=stays (show W.cell? ⟨w.heap.size,0,none⟩=some (.string l) by rw [hW];simp [go_sem])
  have s1:=stays (show W.cell? ⟨w.heap.size,1,none⟩=some (.slice oa ks.length cap) by rw [hW];simp [go_sem])
  have d0:=stays (show W.cell? ⟨w.heap.size+1,0,none⟩=some (.int .i64 k) by rw [hW];simp [go_sem])
  have d1:=stays (show W.cell? ⟨w.heap.size+1,1,none⟩=some (.slice pa np pc) by rw [hW];simp [go_sem])
  have d2:=stays (show W.cell? ⟨w.heap.size+1,2,none⟩=some (.int .i64 a) by rw [hW];simp [go_sem])
  have d3:=stays (show W.cell? ⟨w.heap.size+1,3,none⟩=some (.int .i64 m) by rw [hW];simp [go_sem])
  have d4:=stays (show W.cell? ⟨w.heap.size+1,4,none⟩=some (.string s) by rw [hW];simp [go_sem])
  have hR:W.heap[w.heap.size+1+1]? = some (.cells #[.string ⟨#[]⟩,.slice none 0 0] 34 (0,0)):=by
    rw [hW];simpa using heap_alloc_new ((w.alloc (.cells #[.string l,.slice oa ks.length cap] 34)).alloc (.cells #[.int .i64 k,.slice pa np pc,.int .i64 a,.int .i64 m,.string s] 25)) (.cells #[.string ⟨#[]⟩,.slice none 0 0] 34)
  have HR:=Lib.hid hR;have HW:=Lib.hid hwW;have HWs:=Lib.hid hWs;have HK:=Lib.hid ((hk.mono (S':=fun j=>S j∧j < w.heap.size) (fun j h1 h2=>⟨h1,h2⟩)).pr hwW)
  clear hR hk
  subst hk3
  clear hwW
  by_cases h1:(ks.length:Int) < a
  case pos =>
    have hd1:decide ((ks.length:Int) < a)=true:=by simpa using h1
    clear h1 hfar
    go_enter Tryz.func31,Tryz.ntmps31
    go_upto_region 1 with fail
    rw [← hW];clear hW
    have x0:=d0 _ (Pr.refl _);have x3:=s0 _ (Pr.refl _)
    have y0:=fun o=>d0 _ (Pr.alloc W o)
    go_upto_region 14 with fail
    obtain ⟨V,hV⟩:∃ V,V=W.alloc (.cells #[.string l,.slice none 0 0] 34):=⟨_,rfl⟩
    have hwV:Pr W V:=by rw [hV];exact Pr.alloc _ _
    rw [← hV]
    have x1:=d2 _ hwV;have x2:=s1 _ hwV;have x4:=s0 _ hwV;have x5:=d3 _ hwV
    have hB2:=hwV.blk HR.out
    have r0:=blk_cell (o:=0) hB2;have r1:=blk_cell (o:=1) hB2;have f0:=blk_frozen (o:=0) hB2;have f1:=blk_frozen (o:=1) hB2
    have Hp:=Lib.hid (HW.out.trans hwV);have HkV:=Lib.hid (HK.out.pr hwV)
    clear hV hwV hB2 y0
    go_wp2_with fail
    refine bodyPost_ret (v:=.tuple #[.agg #[.string l,.slice oa ks.length cap],.int .i64 9]) (by simp [results,Tryz.results31,go_sem,r0,r1]) rfl ?_
    exact done_fin (c:=9) rfl hl Hp.out (HkV.out.mono (fun j hj _=>.inl hj))
  case neg =>
    have hd1:decide ((ks.length:Int) < a)=false:=by simpa using h1
    have hd2:decide ((ks.length:Int) - a < m)=true:=by simp;omega
    have hle:a≤(ks.length:Int):=by omega
    clear h1 hfar
    go_enter Tryz.func31,Tryz.ntmps31
    go_upto_region 1 with fail
    rw [← hW];clear hW
    have x0:=d0 _ (Pr.refl _);have x3:=s0 _ (Pr.refl _)
    have y0:=fun o=>d0 _ (Pr.alloc W o)
    go_upto_region 14 with fail
    obtain ⟨V,hV⟩:∃ V,V=W.alloc (.cells #[.string l,.slice none 0 0] 34):=⟨_,rfl⟩
    have hwV:Pr W V:=by rw [hV];exact Pr.alloc _ _
    rw [← hV]
    have x1:=d2 _ hwV;have x2:=s1 _ hwV;have x4:=s0 _ hwV;have x5:=d3 _ hwV
    have hB2:=hwV.blk HR.out
    have r0:=blk_cell (o:=0) hB2;have r1:=blk_cell (o:=1) hB2;have f0:=blk_frozen (o:=0) hB2;have f1:=blk_frozen (o:=1) hB2
    have Hp:=Lib.hid (HW.out.trans hwV);have HkV:=Lib.hid (HK.out.pr hwV)
    clear hV hwV hB2 y0
    go_wp2_with fail
    refine bodyPost_ret (v:=.tuple #[.agg #[.string l,.slice oa ks.length cap],.int .i64 9]) (by simp [results,Tryz.results31,go_sem,r0,r1]) rfl ?_
    exact done_fin (c:=9) rfl hl Hp.out (HkV.out.mono (fun j hj _=>.inl hj))
end
end Go.Proofs.YtdbnfhpgmcjngacGreat
/- Walks: the document's deed done: beneath a kid. -/
namespace Go.Proofs.YtdbnfhpgmcjngacGreat
open Go Go.RowKit
theorem frozen_own {w:World} {b e size:Nat} {v:Value} {n:Nat} {xs:List Value} (h:w.ownsRow b e size v n xs) (hn:0 < n):∃ g cb cur,v=.slice (some ⟨g,0,none⟩) n cb∧b≤g∧w.heap[g]? = some (.cells cur e (0,0))∧n≤cb∧cb≤maxLen:=by
  rcases h.2 with ⟨_,h0⟩ | ⟨g,cb,cur,rfl,h1,h2,h3,h4,_⟩
  · omega
  · exact ⟨g,cb,cur,rfl,h1,h2,h3,h4⟩
theorem kids_set {base:Nat} {w:World} {v:Value} {ks:List Tr} (hown:OwnsTs base w v ks) {i:Nat} (hi:i < ks.length) {l':ByteArray} {ks':List Tr} {oa':Option Addr} {cap':Nat} (hl':l'.size≤maxLen) {S:Nat→Prop} (hS:∀ j,S j→j < base) (hk':Kids S w ks' oa' cap') :
    ∃ g cb,v=.slice (some ⟨g,0,none⟩) ks.length cb∧base≤g∧g < w.heap.size∧(∀ j,w.frozen? ⟨g,j,none⟩=false)∧(∃ u0,w.cell? ⟨g,i * 2,none⟩=some u0)∧(∃ u1,w.cell? ⟨g,i * 2+1,none⟩=some u1) ∧
      Kids (fun j=>S j∨base≤j) ((w.setCell ⟨g,i * 2,none⟩ (.string l')).setCell ⟨g,i * 2+1,none⟩ (.slice oa' ks'.length cap')) (ks.set i (.node l' ks')) (some ⟨g,0,none⟩) cb:=by
  obtain ⟨xs,h1,h2⟩:=hown
  obtain ⟨g,cb,cur,rfl,hbg,hg,hnc,hcm⟩:=frozen_own h1 (by omega)
  have hka:KidsAt (Apart base (.slice (some ⟨g,0,none⟩) ks.length cb)) w ks g 0:=h2.kidsAt fun j u hj=>by
    have:=h1.cells (g:=g) rfl j u hj
    rw [Addr.add_lit] at this;exact this
  obtain ⟨u0,u1,e0,e1,_⟩:=hka.get i hi
  rw [Nat.zero_add] at e0 e1
  refine ⟨g,cb,rfl,hbg,blk_lt hg,fun j=>blk_frozen hg,⟨u0,e0⟩,⟨u1,e1⟩,⟨by rw [List.length_set];exact hnc,hcm⟩,g,0,fun _=>⟨rfl,.inr hbg⟩,KidsAt.mk fun j hj=>?_⟩
  have hj':j < ks.length:=by rw [List.length_set] at hj;exact hj
  have hkept:∀ k,k≠g→((w.setCell ⟨g,i * 2,none⟩ (.string l')).setCell ⟨g,i * 2+1,none⟩ (.slice oa' ks'.length cap')).heap[k]? = w.heap[k]? := fun k hk=>by
    rw [Below.heap_setCell _ _ _ _ hk,Below.heap_setCell _ _ _ _ hk]
  simp only [Nat.zero_add]
  by_cases hij:i=j
  · subst hij
    have hb1:=blk_set (o:=i * 2) hg (.string l')
    have hlen:i * 2+1 < cur.size:=by
      have:=e1
      rw [blk_cell hg] at this
      exact (Array.getElem?_eq_some_iff.1 this).1
    refine ⟨.string l',.slice oa' ks'.length cap',?_,?_,?_⟩
    · rw [cell_off (by omega),blk_cell hb1,Array.getElem?_setIfInBounds,if_pos rfl,if_pos (by omega)]
    · rw [blk_cell (blk_set (o:=i * 2+1) hb1 _),Array.getElem?_setIfInBounds,if_pos rfl,if_pos (by rw [Array.size_setIfInBounds];omega)]
    · rw [List.getElem_set_self]
      exact (treeV_mk cap' hl' hk').carry fun k hS' _=>⟨hkept k (by have:=hS k hS';omega),.inl hS'⟩
  · obtain ⟨vl,vk,f0,f1,ht⟩:=hka.get j hj'
    rw [Nat.zero_add] at f0 f1
    refine ⟨vl,vk,?_,?_,?_⟩
    · rw [cell_off (by omega),cell_off (by omega)];exact f0
    · rw [cell_off (by omega),cell_off (by omega)];exact f1
    · rw [List.getElem_set_ne hij]
      exact ht.carry fun k hS' _=>⟨hkept k (fun e=>hS'.2 (by simp [Value.ownBlock,e])),.inr hS'.1⟩
section
variable {S:Nat→Prop} {l:ByteArray} {ks:List Tr} {oa:Option Addr} {cap:Nat} {k a m:Int} {s:ByteArray} {pa:Option Addr} {np pc:Nat} {qa:Option Addr} {qc:Nat} {w:World}
set_option maxRecDepth 100000 in
set_option maxHeartbeats 6400000 in
theorem rdone_in (x:Nat) (q:List Int) (R:Tr × Nat) (hl:l.size≤maxLen) (hsz:Tr.szL ks≤1000000) (hk:Kids S w ks oa cap) (hq:Ints Any w ((x:Int) :: q) qa qc) (hlast:k=2→q≠[]) (hx:x < ks.length)
    (hrec:∀ (S':Nat→Prop) (l':ByteArray) (ks':List Tr) (oa':Option Addr) (cap':Nat) (qa':Option Addr) (qc':Nat) (W':World),ks[x]=.node l' ks'→l'.size≤maxLen→Kids S' W' ks' oa' cap'→Ints Any W' q qa' qc' →
      Calls Tryz.prog 31 #[.agg #[.string l',.slice oa' ks'.length cap'],.agg #[.int .i64 k,.slice pa np pc,.int .i64 a,.int .i64 m,.string s],.slice qa' q.length qc'] W' (DonePost S' R W')) :
    Calls Tryz.prog 31 #[.agg #[.string l,.slice oa ks.length cap],.agg #[.int .i64 k,.slice pa np pc,.int .i64 a,.int .i64 m,.string s],.slice qa (q.length+1) qc] w (DonePost S (.node l (ks.set x R.1),R.2) w):=by
  have hm:=hk.len
  have hmq:=Ints.len hq
  simp only [List.length_cons] at hmq
  obtain ⟨bq,oq,rfl,cq⟩:=Ints.get hq 0 (by simp)
  simp only [List.getElem_cons_zero,Nat.add_zero] at cq
  have ht:=Flat.tail (v:=.int .i64 (x:Int)) (vs:=ints q) hq
  have hqc:=hq.1
  simp only [ints,List.length_map,List.length_cons] at hqc
  obtain ⟨W,hW⟩:∃ W,W=((w.alloc (.cells #[.string l,.slice oa ks.length cap] 34)).alloc (.cells #[.int .i64 k,.slice pa np pc,.int .i64 a,.int .i64 m,.string s] 25)).alloc (.cells #[.string ⟨#[]⟩,.slice none 0 0] 34):=⟨_,rfl⟩
  have hwW:Pr w W:=by rw [hW];exact ((Pr.alloc _ _).alloc' _).alloc' _
  have hWs:W.heap.size=w.heap.size+3:=by rw [hW];simp
  have s0:=stays (show W.cell? ⟨w.heap.size,0,none⟩=some (.string l) by rw [hW];simp [go_sem])
  have s1:=stays (show W.cell? ⟨w.heap.size,1,none⟩=some (.slice oa ks.length cap) by rw [hW];simp [go_sem])
  have d0:=stays (show W.cell? ⟨w.heap.size+1,0,none⟩=some (.int .i64 k) by rw [hW];simp [go_sem])
  have d1:=stays (show W.cell? ⟨w.heap.size+1,1,none⟩=some (.slice pa np pc) by rw [hW];simp [go_sem])
  have d2:=stays (show W.cell? ⟨w.heap.size+1,2,none⟩=some (.int .i64 a) by rw [hW];simp [go_sem])
  have d3:=stays (show W.cell? ⟨w.heap.size+1,3,none⟩=some (.int .i64 m) by rw [hW];simp [go_sem])
  have d4:=stays (show W.cell? ⟨w.heap.size+1,4,none⟩=some (.string s) by rw [hW];simp [go_sem])
  have hR:W.heap[w.heap.size+1+1]? = some (.cells #[.string ⟨#[]⟩,.slice none 0 0] 34 (0,0)):=by
    rw [hW];simpa using heap_alloc_new ((w.alloc (.cells #[.string l,.slice oa ks.length cap] 34)).alloc (.cells #[.int .i64 k,.slice pa np pc,.int .i64 a,.int .i64 m,.string s] 25)) (.cells #[.string ⟨#[]⟩,.slice none 0 0] 34)
  have HR:=Lib.hid hR;have HW:=Lib.hid hwW;have HWs:=Lib.hid hWs;have HK:=Lib.hid ((hk.mono (S':=fun j=>S j∧j < w.heap.size) (fun j h1 h2=>⟨h1,h2⟩)).pr hwW)
  clear hR hk
  have cq:=stays (hwW.cell cq)
  have hws1:w.heap.size+3≤W.heap.size:=by omega
  obtain ⟨bk,ok,kl,kk,ko,kc,ek,hkl,rfl,c0,c1,hkk⟩:=HK.out.get x hx
  have K0:=stays c0;have K1:=stays c1
  have hd1:decide ((ks.length:Int)≤(x:Int))=false:=by simp;omega
  have hd2:decide (ks.length≤x)=false:=by simp;omega
  have hx0:(0:Int)≤(x:Int):=by omega
  have hx1:(x:Int) < (ks.length:Int):=by omega
  have hq1:(1:Int)≤(q.length:Int)+1:=by omega
  have z1:((q.length:Int)+1==0)=false:=by simp;omega
  have Hkk:=Lib.hid hkk;have Ht:=Lib.hid ht;have Hrec:=Lib.hid hrec;have Hek:=Lib.hid ek
  clear hq hWs c0 c1 hkk ht hrec ek
  by_cases hqc1:qc=1
  case pos =>
    have hq0:q.length=0:=by omega
    obtain rfl:q=[]:=List.eq_nil_of_length_eq_zero hq0
    subst hqc1
    have hne2:k≠2:=fun e=>hlast e rfl
    have e2:(k==2)=false:=by simp [hne2]
    have REC:Hid (∀ W',Pr W W'→Calls Tryz.prog 31 #[.agg #[.string kl,.slice ko kk.length kc],.agg #[.int .i64 k,.slice pa np pc,.int .i64 a,.int .i64 m,.string s],.slice (some ⟨bq,oq,none⟩) 0 0] W' (DonePost (fun j=>S j∧j < w.heap.size) R W')):=Lib.hid fun W' h =>
      Hrec.out _ kl kk ko kc _ 0 W' Hek.out hkl (Hkk.out.pr h) (Flat.nil _ _ _ _ (Nat.zero_le _))
    clear hlast hne2 hwW
    go_enter Tryz.func31,Tryz.ntmps31
    go_upto_region 1 with fail
    rw [← hW];clear hW
    have y0:=d0 _ (Pr.refl _);have y1:=cq _ (Pr.refl _);have y2:=s1 _ (Pr.refl _);have y3:=s0 _ (Pr.refl _)
    go_upto_region 8 with fail
    clear y0 y1 y2 y3
    go_cut [10,11] from 36 to 47 (fun v10 v11 wx=>∃ B rl rk ro rc,v10=.pointer (some ⟨B,0,none⟩)∧v11=.int .i64 (R.2:Nat)∧R.1=.node rl rk∧rl.size≤maxLen∧wx.heap[B]? = some (.cells #[.string rl,.slice ro rk.length rc] 34 (0,0))∧W.heap.size≤B∧Kids (fun j=>(S j∧j < w.heap.size)∨W.heap.size≤j) wx rk ro rc∧Pr W wx)
    case first =>
      go_region_held3 (fun W'=>Pr W W')
        (first | with_reducible exact Pr.drew W | with_reducible exact (Pr.alloc _ _).drew' | with_reducible exact hp | with_reducible exact hp.alloc' _ | exact (hp.setCell (Nat.le_refl _) _).setCell (Nat.le_refl _) _)
        (first
          | (go_at_call 31;(with_reducible refine Calls.mono (REC.out _ (Pr.drew W)) ?_);rintro e w5 ⟨rl,rk,ro,rc,hr1,hrl,rfl,hrk,hb⟩;have hp:=(Pr.drew W).trans hb)
          | (go_at_call 31;(with_reducible refine Calls.mono (REC.out _ (Pr.drew' (Pr.alloc _ _))) ?_);rintro e w5 ⟨rl,rk,ro,rc,hr1,hrl,rfl,hrk,hb⟩;have hp:=((Pr.alloc _ _).drew').trans hb;have z:=hb.blk ((Pr.drew _).blk (heap_alloc_new W _));have z0:w5.cell? ⟨W.heap.size,0,none⟩=some (.string ⟨#[]⟩):=blk_cell z;have z1:w5.cell? ⟨W.heap.size,1,none⟩=some (.slice none 0 0):=blk_cell z;have z2:w5.frozen? ⟨W.heap.size,0,none⟩=false:=blk_frozen z;have z3:w5.frozen? ⟨W.heap.size,1,none⟩=false:=blk_frozen z;have Hz:=Lib.hid z;clear z))
      all_goals
        go_wp2_with fail
        go_meet
      case rel=>exact ⟨w5.heap.size,rl,rk,ro,rc,rfl,rfl,hr1,hrl,heap_alloc_new w5 _,hp.size,(hrk.pr (Pr.alloc _ _)).mono (fun j hj _=>hj.imp id (fun h=>Nat.le_trans (Nat.le_refl _) (by simpa using h))),hp.alloc' _⟩
      case rel=>exact ⟨W.heap.size,rl,rk,ro,rc,rfl,rfl,hr1,hrl,blk_set (o:=1) (blk_set (o:=0) Hz.out _) _,Nat.le_refl _,((hrk.setCell _ _ (by show ¬ _;simp;omega)).setCell _ _ (by show ¬ _;simp;omega)).mono (fun j hj _=>hj.imp id (fun h=>by have h':W.heap.size+1≤j:=(by simpa using h);omega)),(hp.setCell (Nat.le_refl _) _).setCell (Nat.le_refl _) _⟩
    case rest =>
      obtain ⟨B,rl,rk,ro,rc,rfl,rfl,hr1,hrl,hB,hWB,hrk,hpx⟩:=hcut
      obtain ⟨wx,hwx⟩:∃ wx,wx=wc:=⟨_,rfl⟩
      subst hwx
      have HB:=Lib.hid hB;have Hrk:=Lib.hid hrk;have Hpx:=Lib.hid hpx;have Hr1:=Lib.hid hr1
      have hsx:=hpx.size
      have b0:=stays (blk_cell (o:=0) hB);have b1:=stays (blk_cell (o:=1) hB)
      have hBx:=blk_lt hB
      have HKx:=Lib.hid (HK.out.pr hpx)
      have OL:=Lib.hid fun (W':World) (h:Pr wx W')=>rownList_any ks _ cap W' hsz (HKx.out.any.pr h)
      have X0:=stays (s0 _ hpx);have X1:=stays (s1 _ hpx)
      have HRx:=Lib.hid (hpx.blk HR.out)
      clear hB hrk hpx hr1 REC
      go_upto_region 9 with fail
      go_cut [12] from 48 to 53 (fun v12 wy=>∃ B2 ob cb,v12=.pointer (some ⟨B2,0,none⟩)∧wy.heap[B2]? = some (.cells #[.string l,.slice ob ks.length cb] 34 (0,0))∧wx.heap.size≤B2∧OwnsTs wx.heap.size wy (.slice ob ks.length cb) ks∧(Value.slice ob ks.length cb).ownBlock≠some B2∧Pr wx wy)
      case first =>
        go_region_held3 (fun W'=>Pr wx W')
          (first | with_reducible exact Pr.drew wx | with_reducible exact (Pr.alloc _ _).drew' | with_reducible exact hp | with_reducible exact hp.alloc' _ | exact (hp.setCell (Nat.le_refl _) _).setCell (Nat.le_refl _) _)
          (first
            | (go_at_call 42;(with_reducible refine Calls.mono (OL.out _ (Pr.drew wx)) ?_);rintro e w5 ⟨v5,rfl,hown,hb⟩;obtain ⟨ob,cb,rfl,hkb⟩:=hown.kids;have hp:=(Pr.drew wx).trans hb)
            | (go_at_call 42;(with_reducible refine Calls.mono (OL.out _ (Pr.drew' (Pr.alloc _ _))) ?_);rintro e w5 ⟨v5,rfl,hown,hb⟩;obtain ⟨ob,cb,rfl,hkb⟩:=hown.kids;have hp:=((Pr.alloc _ _).drew').trans hb;have z:=hb.blk ((Pr.drew _).blk (heap_alloc_new wx _));have z0:w5.cell? ⟨wx.heap.size,0,none⟩=some (.string ⟨#[]⟩):=blk_cell z;have z1:w5.cell? ⟨wx.heap.size,1,none⟩=some (.slice none 0 0):=blk_cell z;have z2:w5.frozen? ⟨wx.heap.size,0,none⟩=false:=blk_frozen z;have z3:w5.frozen? ⟨wx.heap.size,1,none⟩=false:=blk_frozen z;have Hz:=Lib.hid z;clear z))
        all_goals
          go_wp2_with fail
          go_meet
        case rel=>exact ⟨w5.heap.size,ob,cb,rfl,heap_alloc_new w5 _,hp.size,(hown.pr (Pr.alloc _ _)).mono (Nat.le_refl _),fun e=>by have:=(hown.block _ e).2;omega,hp.alloc' _⟩
        case rel=>exact ⟨wx.heap.size,ob,cb,rfl,blk_set (o:=1) (blk_set (o:=0) Hz.out _) _,Nat.le_refl _,((hown.setCell _ _ (by simp)).setCell _ _ (by simp)).mono (by simp),fun e=>by have:=(hown.block _ e).1;simp at this;omega,(hp.setCell (Nat.le_refl _) _).setCell (Nat.le_refl _) _⟩
      case rest =>
        obtain ⟨B2,ob,cb,rfl,hB2,hxB2,hown,hnb,hpy⟩:=hcut
        obtain ⟨wy,hwy⟩:∃ wy,wy=wc:=⟨_,rfl⟩
        subst hwy
        have hrk2:=(Hrk.out.mono (S':=fun j=>(S j∧j < w.heap.size)∨(W.heap.size≤j∧j < wx.heap.size)) (fun j h1 h2=>h1.imp id (fun h=>⟨h,h2⟩))).pr hpy
        obtain ⟨g,cg,hv,hbg,hgl,hfz,⟨u0,g0⟩,⟨u1,g1⟩,hkset⟩:=kids_set hown hx hrl (S:=fun j=>(S j∧j < w.heap.size)∨(W.heap.size≤j∧j < wx.heap.size)) (fun j hj=>by rcases hj with h | h <;> omega) hrk2
        simp only [Value.slice.injEq] at hv
        obtain ⟨rfl,-,rfl⟩:=hv
        have hgB:¬ g=B2:=fun e=>hnb (by simp [Value.ownBlock,e])
        have hfz0:=hfz (x * 2);have hfz1:=hfz (x * 2+1)
        have q0:=b0 _ hpy;have q1:=b1 _ hpy
        have q2:=blk_cell (o:=1) hB2
        have HRy:=Lib.hid (hpy.blk HRx.out);have HB2:=Lib.hid hB2;have Hpy:=Lib.hid hpy;have Hkset:=Lib.hid hkset
        clear hB2 hown hnb hpy hfz hrk2 hkset
        go_upto_region 11 with fail
        obtain ⟨wz,hwz⟩:∃ wz,wz=(wy.setCell ⟨g,x * 2,none⟩ (.string rl)).setCell ⟨g,x * 2+1,none⟩ (.slice ro rk.length rc):=⟨_,rfl⟩
        rw [← hwz]
        have hkz:=Hkset.out
        rw [← hwz] at hkz
        have hBz:wz.heap[B2]? = some (.cells #[.string l,.slice (some ⟨g,0,none⟩) ks.length cb] 34 (0,0)):=by
          rw [hwz,Below.heap_setCell _ _ _ _ (fun e=>hgB e.symm),Below.heap_setCell _ _ _ _ (fun e=>hgB e.symm)];exact HB2.out
        have hRz:wz.heap[w.heap.size+1+1]? = some (.cells #[.string ⟨#[]⟩,.slice none 0 0] 34 (0,0)):=by
          rw [hwz,Below.heap_setCell _ _ _ _ (by simp;omega),Below.heap_setCell _ _ _ _ (by simp;omega)];exact HRy.out
        have hpz:Pr w wz:=by rw [hwz];exact (((HW.out.trans Hpx.out).trans Hpy.out).setCell (by simp;omega) _).setCell (by simp;omega) _
        have v0:=blk_cell (o:=0) hBz;have v1:=blk_cell (o:=1) hBz
        have r0:=blk_cell (o:=0) hRz;have r1:=blk_cell (o:=1) hRz;have f0:=blk_frozen (o:=0) hRz;have f1:=blk_frozen (o:=1) hRz
        have Hkz:=Lib.hid hkz;have Hpz:=Lib.hid hpz
        clear hwz hBz hRz hkz hpz q0 q1 q2 hfz0 hfz1 g0 g1
        go_wp2_with fail
        refine bodyPost_ret (v:=.tuple #[.agg #[.string l,.slice (some ⟨g,0,none⟩) ks.length cb],.int .i64 (R.2:Nat)]) (by simp [results,Tryz.results31,go_sem,r0,r1]) rfl ?_
        have hln:(ks.set x (.node rl rk)).length=ks.length:=List.length_set
        have:=done_fin (S:=S) (w:=w) (w9:=wz) (r:=(.node l (ks.set x R.1),R.2)) (c:=R.2) (by rw [Hr1.out]) hl Hpz.out (Hkz.out.mono (fun j hj _=>by rcases hj with (h | h) | h;exact .inl h;exact .inr (by omega);exact .inr (by omega)))
        rw [hln] at this
        exact this
  case neg =>
    have ht2:Ints Any w q (some ⟨bq,oq+1,none⟩) (qc - 1):=by have:=Ht.out;rw [if_neg hqc1] at this;exact this
    have REC:Hid (∀ W',Pr W W'→Calls Tryz.prog 31 #[.agg #[.string kl,.slice ko kk.length kc],.agg #[.int .i64 k,.slice pa np pc,.int .i64 a,.int .i64 m,.string s],.slice (some ⟨bq,oq+1,none⟩) q.length (qc - 1)] W' (DonePost (fun j=>S j∧j < w.heap.size) R W')):=Lib.hid fun W' h =>
      Hrec.out _ kl kk ko kc _ _ W' Hek.out hkl (Hkk.out.pr h) (Flat.pr (hwW.trans h) ht2)
    by_cases hk2:k=2
    case pos =>
      have e2:(k==2)=true:=by simp [hk2]
      have hql:0 < q.length:=List.length_pos_iff.2 (hlast hk2)
      have z2:((q.length:Int)+1==1)=false:=by simp;omega
      have z3:((q.length:Int)==0)=false:=by rw [beq_eq_false_iff_ne];omega
      have z4:¬ q=[]:=hlast hk2
      clear hk2 hlast hwW ht2
      go_enter Tryz.func31,Tryz.ntmps31
      go_upto_region 1 with fail
      rw [← hW];clear hW
      have y0:=d0 _ (Pr.refl _);have y1:=cq _ (Pr.refl _);have y2:=s1 _ (Pr.refl _);have y3:=s0 _ (Pr.refl _)
      go_upto_region 8 with fail
      clear y0 y1 y2 y3
      go_cut [10,11] from 36 to 47 (fun v10 v11 wx=>∃ B rl rk ro rc,v10=.pointer (some ⟨B,0,none⟩)∧v11=.int .i64 (R.2:Nat)∧R.1=.node rl rk∧rl.size≤maxLen∧wx.heap[B]? = some (.cells #[.string rl,.slice ro rk.length rc] 34 (0,0))∧W.heap.size≤B∧Kids (fun j=>(S j∧j < w.heap.size)∨W.heap.size≤j) wx rk ro rc∧Pr W wx)
      case first =>
        go_region_held3 (fun W'=>Pr W W')
          (first | with_reducible exact Pr.drew W | with_reducible exact (Pr.alloc _ _).drew' | with_reducible exact hp | with_reducible exact hp.alloc' _ | exact (hp.setCell (Nat.le_refl _) _).setCell (Nat.le_refl _) _)
          (first
            | (go_at_call 31;(with_reducible refine Calls.mono (REC.out _ (Pr.drew W)) ?_);rintro e w5 ⟨rl,rk,ro,rc,hr1,hrl,rfl,hrk,hb⟩;have hp:=(Pr.drew W).trans hb)
            | (go_at_call 31;(with_reducible refine Calls.mono (REC.out _ (Pr.drew' (Pr.alloc _ _))) ?_);rintro e w5 ⟨rl,rk,ro,rc,hr1,hrl,rfl,hrk,hb⟩;have hp:=((Pr.alloc _ _).drew').trans hb;have z:=hb.blk ((Pr.drew _).blk (heap_alloc_new W _));have z0:w5.cell? ⟨W.heap.size,0,none⟩=some (.string ⟨#[]⟩):=blk_cell z;have z1:w5.cell? ⟨W.heap.size,1,none⟩=some (.slice none 0 0):=blk_cell z;have z2:w5.frozen? ⟨W.heap.size,0,none⟩=false:=blk_frozen z;have z3:w5.frozen? ⟨W.heap.size,1,none⟩=false:=blk_frozen z;have Hz:=Lib.hid z;clear z))
        all_goals
          go_wp2_with fail
          go_meet
        case rel=>exact ⟨w5.heap.size,rl,rk,ro,rc,rfl,rfl,hr1,hrl,heap_alloc_new w5 _,hp.size,(hrk.pr (Pr.alloc _ _)).mono (fun j hj _=>hj.imp id (fun h=>Nat.le_trans (Nat.le_refl _) (by simpa using h))),hp.alloc' _⟩
        case rel=>exact ⟨W.heap.size,rl,rk,ro,rc,rfl,rfl,hr1,hrl,blk_set (o:=1) (blk_set (o:=0) Hz.out _) _,Nat.le_refl _,((hrk.setCell _ _ (by show ¬ _;simp;omega)).setCell _ _ (by show ¬ _;simp;omega)).mono (fun j hj _=>hj.imp id (fun h=>by have h':W.heap.size+1≤j:=(by simpa using h);omega)),(hp.setCell (Nat.le_refl _) _).setCell (Nat.le_refl _) _⟩
      case rest =>
        obtain ⟨B,rl,rk,ro,rc,rfl,rfl,hr1,hrl,hB,hWB,hrk,hpx⟩:=hcut
        obtain ⟨wx,hwx⟩:∃ wx,wx=wc:=⟨_,rfl⟩
        subst hwx
        have HB:=Lib.hid hB;have Hrk:=Lib.hid hrk;have Hpx:=Lib.hid hpx;have Hr1:=Lib.hid hr1
        have hsx:=hpx.size
        have b0:=stays (blk_cell (o:=0) hB);have b1:=stays (blk_cell (o:=1) hB)
        have hBx:=blk_lt hB
        have HKx:=Lib.hid (HK.out.pr hpx)
        have OL:=Lib.hid fun (W':World) (h:Pr wx W')=>rownList_any ks _ cap W' hsz (HKx.out.any.pr h)
        have X0:=stays (s0 _ hpx);have X1:=stays (s1 _ hpx)
        have HRx:=Lib.hid (hpx.blk HR.out)
        clear hB hrk hpx hr1 REC
        go_upto_region 9 with fail
        go_cut [12] from 48 to 53 (fun v12 wy=>∃ B2 ob cb,v12=.pointer (some ⟨B2,0,none⟩)∧wy.heap[B2]? = some (.cells #[.string l,.slice ob ks.length cb] 34 (0,0))∧wx.heap.size≤B2∧OwnsTs wx.heap.size wy (.slice ob ks.length cb) ks∧(Value.slice ob ks.length cb).ownBlock≠some B2∧Pr wx wy)
        case first =>
          go_region_held3 (fun W'=>Pr wx W')
            (first | with_reducible exact Pr.drew wx | with_reducible exact (Pr.alloc _ _).drew' | with_reducible exact hp | with_reducible exact hp.alloc' _ | exact (hp.setCell (Nat.le_refl _) _).setCell (Nat.le_refl _) _)
            (first
              | (go_at_call 42;(with_reducible refine Calls.mono (OL.out _ (Pr.drew wx)) ?_);rintro e w5 ⟨v5,rfl,hown,hb⟩;obtain ⟨ob,cb,rfl,hkb⟩:=hown.kids;have hp:=(Pr.drew wx).trans hb)
              | (go_at_call 42;(with_reducible refine Calls.mono (OL.out _ (Pr.drew' (Pr.alloc _ _))) ?_);rintro e w5 ⟨v5,rfl,hown,hb⟩;obtain ⟨ob,cb,rfl,hkb⟩:=hown.kids;have hp:=((Pr.alloc _ _).drew').trans hb;have z:=hb.blk ((Pr.drew _).blk (heap_alloc_new wx _));have z0:w5.cell? ⟨wx.heap.size,0,none⟩=some (.string ⟨#[]⟩):=blk_cell z;have z1:w5.cell? ⟨wx.heap.size,1,none⟩=some (.slice none 0 0):=blk_cell z;have z2:w5.frozen? ⟨wx.heap.size,0,none⟩=false:=blk_frozen z;have z3:w5.frozen? ⟨wx.heap.size,1,none⟩=false:=blk_frozen z;have Hz:=Lib.hid z;clear z))
          all_goals
            go_wp2_with fail
            go_meet
          case rel=>exact ⟨w5.heap.size,ob,cb,rfl,heap_alloc_new w5 _,hp.size,(hown.pr (Pr.alloc _ _)).mono (Nat.le_refl _),fun e=>by have:=(hown.block _ e).2;omega,hp.alloc' _⟩
          case rel=>exact ⟨wx.heap.size,ob,cb,rfl,blk_set (o:=1) (blk_set (o:=0) Hz.out _) _,Nat.le_refl _,((hown.setCell _ _ (by simp)).setCell _ _ (by simp)).mono (by simp),fun e=>by have:=(hown.block _ e).1;simp at this;omega,(hp.setCell (Nat.le_refl _) _).setCell (Nat.le_refl _) _⟩
        case rest =>
          obtain ⟨B2,ob,cb,rfl,hB2,hxB2,hown,hnb,hpy⟩:=hcut
          obtain ⟨wy,hwy⟩:∃ wy,wy=wc:=⟨_,rfl⟩
          subst hwy
          have hrk2:=(Hrk.out.mono (S':=fun j=>(S j∧j < w.heap.size)∨(W.heap.size≤j∧j < wx.heap.size)) (fun j h1 h2=>h1.imp id (fun h=>⟨h,h2⟩))).pr hpy
          obtain ⟨g,cg,hv,hbg,hgl,hfz,⟨u0,g0⟩,⟨u1,g1⟩,hkset⟩:=kids_set hown hx hrl (S:=fun j=>(S j∧j < w.heap.size)∨(W.heap.size≤j∧j < wx.heap.size)) (fun j hj=>by rcases hj with h | h <;> omega) hrk2
          simp only [Value.slice.injEq] at hv
          obtain ⟨rfl,-,rfl⟩:=hv
          have hgB:¬ g=B2:=fun e=>hnb (by simp [Value.ownBlock,e])
          have hfz0:=hfz (x * 2);have hfz1:=hfz (x * 2+1)
          have q0:=b0 _ hpy;have q1:=b1 _ hpy
          have q2:=blk_cell (o:=1) hB2
          have HRy:=Lib.hid (hpy.blk HRx.out);have HB2:=Lib.hid hB2;have Hpy:=Lib.hid hpy;have Hkset:=Lib.hid hkset
          clear hB2 hown hnb hpy hfz hrk2 hkset
          go_upto_region 11 with fail
          obtain ⟨wz,hwz⟩:∃ wz,wz=(wy.setCell ⟨g,x * 2,none⟩ (.string rl)).setCell ⟨g,x * 2+1,none⟩ (.slice ro rk.length rc):=⟨_,rfl⟩
          rw [← hwz]
          have hkz:=Hkset.out
          rw [← hwz] at hkz
          have hBz:wz.heap[B2]? = some (.cells #[.string l,.slice (some ⟨g,0,none⟩) ks.length cb] 34 (0,0)):=by
            rw [hwz,Below.heap_setCell _ _ _ _ (fun e=>hgB e.symm),Below.heap_setCell _ _ _ _ (fun e=>hgB e.symm)];exact HB2.out
          have hRz:wz.heap[w.heap.size+1+1]? = some (.cells #[.string ⟨#[]⟩,.slice none 0 0] 34 (0,0)):=by
            rw [hwz,Below.heap_setCell _ _ _ _ (by simp;omega),Below.heap_setCell _ _ _ _ (by simp;omega)];exact HRy.out
          have hpz:Pr w wz:=by rw [hwz];exact (((HW.out.trans Hpx.out).trans Hpy.out).setCell (by simp;omega) _).setCell (by simp;omega) _
          have v0:=blk_cell (o:=0) hBz;have v1:=blk_cell (o:=1) hBz
          have r0:=blk_cell (o:=0) hRz;have r1:=blk_cell (o:=1) hRz;have f0:=blk_frozen (o:=0) hRz;have f1:=blk_frozen (o:=1) hRz
          have Hkz:=Lib.hid hkz;have Hpz:=Lib.hid hpz
          clear hwz hBz hRz hkz hpz q0 q1 q2 hfz0 hfz1 g0 g1
          go_wp2_with fail
          refine bodyPost_ret (v:=.tuple #[.agg #[.string l,.slice (some ⟨g,0,none⟩) ks.length cb],.int .i64 (R.2:Nat)]) (by simp [results,Tryz.results31,go_sem,r0,r1]) rfl ?_
          have hln:(ks.set x (.node rl rk)).length=ks.length:=List.length_set
          have:=done_fin (S:=S) (w:=w) (w9:=wz) (r:=(.node l (ks.set x R.1),R.2)) (c:=R.2) (by rw [Hr1.out]) hl Hpz.out (Hkz.out.mono (fun j hj _=>by rcases hj with (h | h) | h;exact .inl h;exact .inr (by omega);exact .inr (by omega)))
          rw [hln] at this
          exact this
    case neg =>
      have e2:(k==2)=false:=by simp [hk2]
      clear hk2 hlast hwW ht2
      go_enter Tryz.func31,Tryz.ntmps31
      go_upto_region 1 with fail
      rw [← hW];clear hW
      have y0:=d0 _ (Pr.refl _);have y1:=cq _ (Pr.refl _);have y2:=s1 _ (Pr.refl _);have y3:=s0 _ (Pr.refl _)
      go_upto_region 8 with fail
      clear y0 y1 y2 y3
      go_cut [10,11] from 36 to 47 (fun v10 v11 wx=>∃ B rl rk ro rc,v10=.pointer (some ⟨B,0,none⟩)∧v11=.int .i64 (R.2:Nat)∧R.1=.node rl rk∧rl.size≤maxLen∧wx.heap[B]? = some (.cells #[.string rl,.slice ro rk.length rc] 34 (0,0))∧W.heap.size≤B∧Kids (fun j=>(S j∧j < w.heap.size)∨W.heap.size≤j) wx rk ro rc∧Pr W wx)
      case first =>
        go_region_held3 (fun W'=>Pr W W')
          (first | with_reducible exact Pr.drew W | with_reducible exact (Pr.alloc _ _).drew' | with_reducible exact hp | with_reducible exact hp.alloc' _ | exact (hp.setCell (Nat.le_refl _) _).setCell (Nat.le_refl _) _)
          (first
            | (go_at_call 31;(with_reducible refine Calls.mono (REC.out _ (Pr.drew W)) ?_);rintro e w5 ⟨rl,rk,ro,rc,hr1,hrl,rfl,hrk,hb⟩;have hp:=(Pr.drew W).trans hb)
            | (go_at_call 31;(with_reducible refine Calls.mono (REC.out _ (Pr.drew' (Pr.alloc _ _))) ?_);rintro e w5 ⟨rl,rk,ro,rc,hr1,hrl,rfl,hrk,hb⟩;have hp:=((Pr.alloc _ _).drew').trans hb;have z:=hb.blk ((Pr.drew _).blk (heap_alloc_new W _));have z0:w5.cell? ⟨W.heap.size,0,none⟩=some (.string ⟨#[]⟩):=blk_cell z;have z1:w5.cell? ⟨W.heap.size,1,none⟩=some (.slice none 0 0):=blk_cell z;have z2:w5.frozen? ⟨W.heap.size,0,none⟩=false:=blk_frozen z;have z3:w5.frozen? ⟨W.heap.size,1,none⟩=false:=blk_frozen z;have Hz:=Lib.hid z;clear z))
        all_goals
          go_wp2_with fail
          go_meet
        case rel=>exact ⟨w5.heap.size,rl,rk,ro,rc,rfl,rfl,hr1,hrl,heap_alloc_new w5 _,hp.size,(hrk.pr (Pr.alloc _ _)).mono (fun j hj _=>hj.imp id (fun h=>Nat.le_trans (Nat.le_refl _) (by simpa using h))),hp.alloc' _⟩
        case rel=>exact ⟨W.heap.size,rl,rk,ro,rc,rfl,rfl,hr1,hrl,blk_set (o:=1) (blk_set (o:=0) Hz.out _) _,Nat.le_refl _,((hrk.setCell _ _ (by show ¬ _;simp;omega)).setCell _ _ (by show ¬ _;simp;omega)).mono (fun j hj _=>hj.imp id (fun h=>by have h':W.heap.size+1≤j:=(by simpa using h);omega)),(hp.setCell (Nat.le_refl _) _).setCell (Nat.le_refl _) _⟩
      case rest =>
        obtain ⟨B,rl,rk,ro,rc,rfl,rfl,hr1,hrl,hB,hWB,hrk,hpx⟩:=hcut
        obtain ⟨wx,hwx⟩:∃ wx,wx=wc:=⟨_,rfl⟩
        subst hwx
        have HB:=Lib.hid hB;have Hrk:=Lib.hid hrk;have Hpx:=Lib.hid hpx;have Hr1:=Lib.hid hr1
        have hsx:=hpx.size
        have b0:=stays (blk_cell (o:=0) hB);have b1:=stays (blk_cell (o:=1) hB)
        have hBx:=blk_lt hB
        have HKx:=Lib.hid (HK.out.pr hpx)
        have OL:=Lib.hid fun (W':World) (h:Pr wx W')=>rownList_any ks _ cap W' hsz (HKx.out.any.pr h)
        have X0:=stays (s0 _ hpx);have X1:=stays (s1 _ hpx)
        have HRx:=Lib.hid (hpx.blk HR.out)
        clear hB hrk hpx hr1 REC
        go_upto_region 9 with fail
        go_cut [12] from 48 to 53 (fun v12 wy=>∃ B2 ob cb,v12=.pointer (some ⟨B2,0,none⟩)∧wy.heap[B2]? = some (.cells #[.string l,.slice ob ks.length cb] 34 (0,0))∧wx.heap.size≤B2∧OwnsTs wx.heap.size wy (.slice ob ks.length cb) ks∧(Value.slice ob ks.length cb).ownBlock≠some B2∧Pr wx wy)
        case first =>
          go_region_held3 (fun W'=>Pr wx W')
            (first | with_reducible exact Pr.drew wx | with_reducible exact (Pr.alloc _ _).drew' | with_reducible exact hp | with_reducible exact hp.alloc' _ | exact (hp.setCell (Nat.le_refl _) _).setCell (Nat.le_refl _) _)
            (first
              | (go_at_call 42;(with_reducible refine Calls.mono (OL.out _ (Pr.drew wx)) ?_);rintro e w5 ⟨v5,rfl,hown,hb⟩;obtain ⟨ob,cb,rfl,hkb⟩:=hown.kids;have hp:=(Pr.drew wx).trans hb)
              | (go_at_call 42;(with_reducible refine Calls.mono (OL.out _ (Pr.drew' (Pr.alloc _ _))) ?_);rintro e w5 ⟨v5,rfl,hown,hb⟩;obtain ⟨ob,cb,rfl,hkb⟩:=hown.kids;have hp:=((Pr.alloc _ _).drew').trans hb;have z:=hb.blk ((Pr.drew _).blk (heap_alloc_new wx _));have z0:w5.cell? ⟨wx.heap.size,0,none⟩=some (.string ⟨#[]⟩):=blk_cell z;have z1:w5.cell? ⟨wx.heap.size,1,none⟩=some (.slice none 0 0):=blk_cell z;have z2:w5.frozen? ⟨wx.heap.size,0,none⟩=false:=blk_frozen z;have z3:w5.frozen? ⟨wx.heap.size,1,none⟩=false:=blk_frozen z;have Hz:=Lib.hid z;clear z))
          all_goals
            go_wp2_with fail
            go_meet
          case rel=>exact ⟨w5.heap.size,ob,cb,rfl,heap_alloc_new w5 _,hp.size,(hown.pr (Pr.alloc _ _)).mono (Nat.le_refl _),fun e=>by have:=(hown.block _ e).2;omega,hp.alloc' _⟩
          case rel=>exact ⟨wx.heap.size,ob,cb,rfl,blk_set (o:=1) (blk_set (o:=0) Hz.out _) _,Nat.le_refl _,((hown.setCell _ _ (by simp)).setCell _ _ (by simp)).mono (by simp),fun e=>by have:=(hown.block _ e).1;simp at this;omega,(hp.setCell (Nat.le_refl _) _).setCell (Nat.le_refl _) _⟩
        case rest =>
          obtain ⟨B2,ob,cb,rfl,hB2,hxB2,hown,hnb,hpy⟩:=hcut
          obtain ⟨wy,hwy⟩:∃ wy,wy=wc:=⟨_,rfl⟩
          subst hwy
          have hrk2:=(Hrk.out.mono (S':=fun j=>(S j∧j < w.heap.size)∨(W.heap.size≤j∧j < wx.heap.size)) (fun j h1 h2=>h1.imp id (fun h=>⟨h,h2⟩))).pr hpy
          obtain ⟨g,cg,hv,hbg,hgl,hfz,⟨u0,g0⟩,⟨u1,g1⟩,hkset⟩:=kids_set hown hx hrl (S:=fun j=>(S j∧j < w.heap.size)∨(W.heap.size≤j∧j < wx.heap.size)) (fun j hj=>by rcases hj with h | h <;> omega) hrk2
          simp only [Value.slice.injEq] at hv
          obtain ⟨rfl,-,rfl⟩:=hv
          have hgB:¬ g=B2:=fun e=>hnb (by simp [Value.ownBlock,e])
          have hfz0:=hfz (x * 2);have hfz1:=hfz (x * 2+1)
          have q0:=b0 _ hpy;have q1:=b1 _ hpy
          have q2:=blk_cell (o:=1) hB2
          have HRy:=Lib.hid (hpy.blk HRx.out);have HB2:=Lib.hid hB2;have Hpy:=Lib.hid hpy;have Hkset:=Lib.hid hkset
          clear hB2 hown hnb hpy hfz hrk2 hkset
          go_upto_region 11 with fail
          obtain ⟨wz,hwz⟩:∃ wz,wz=(wy.setCell ⟨g,x * 2,none⟩ (.string rl)).setCell ⟨g,x * 2+1,none⟩ (.slice ro rk.length rc):=⟨_,rfl⟩
          rw [← hwz]
          have hkz:=Hkset.out
          rw [← hwz] at hkz
          have hBz:wz.heap[B2]? = some (.cells #[.string l,.slice (some ⟨g,0,none⟩) ks.length cb] 34 (0,0)):=by
            rw [hwz,Below.heap_setCell _ _ _ _ (fun e=>hgB e.symm),Below.heap_setCell _ _ _ _ (fun e=>hgB e.symm)];exact HB2.out
          have hRz:wz.heap[w.heap.size+1+1]? = some (.cells #[.string ⟨#[]⟩,.slice none 0 0] 34 (0,0)):=by
            rw [hwz,Below.heap_setCell _ _ _ _ (by simp;omega),Below.heap_setCell _ _ _ _ (by simp;omega)];exact HRy.out
          have hpz:Pr w wz:=by rw [hwz];exact (((HW.out.trans Hpx.out).trans Hpy.out).setCell (by simp;omega) _).setCell (by simp;omega) _
          have v0:=blk_cell (o:=0) hBz;have v1:=blk_cell (o:=1) hBz
          have r0:=blk_cell (o:=0) hRz;have r1:=blk_cell (o:=1) hRz;have f0:=blk_frozen (o:=0) hRz;have f1:=blk_frozen (o:=1) hRz
          have Hkz:=Lib.hid hkz;have Hpz:=Lib.hid hpz
          clear hwz hBz hRz hkz hpz q0 q1 q2 hfz0 hfz1 g0 g1
          go_wp2_with fail
          refine bodyPost_ret (v:=.tuple #[.agg #[.string l,.slice (some ⟨g,0,none⟩) ks.length cb],.int .i64 (R.2:Nat)]) (by simp [results,Tryz.results31,go_sem,r0,r1]) rfl ?_
          have hln:(ks.set x (.node rl rk)).length=ks.length:=List.length_set
          have:=done_fin (S:=S) (w:=w) (w9:=wz) (r:=(.node l (ks.set x R.1),R.2)) (c:=R.2) (by rw [Hr1.out]) hl Hpz.out (Hkz.out.mono (fun j hj _=>by rcases hj with (h | h) | h;exact .inl h;exact .inr (by omega);exact .inr (by omega)))
          rw [hln] at this
          exact this
end
end Go.Proofs.YtdbnfhpgmcjngacGreat
/- Walks: the document's deed done: a node deleted. -/
namespace Go.Proofs.YtdbnfhpgmcjngacGreat
open Go Go.RowKit
section
variable {ops:Array Oper} {o:Oper} {a:Act} {w:World} {Q:Exit→Act→World→Prop} {K:Act→World→Prop} {E:Prop}
theorem step_trees (hgd:o.guard=none) (s x:Operand) (ho:o.op=.call { callee:=.builtin .append,args:=#[s,x],argTypes:=#[22,22] })
    (b:Nat) (v:Value) (ts:List Tr) (hs:a.eval s=v) (hown:OwnsTs b w v ts) (us:List Tr) (ao:Option Addr) (c:Nat) (hx:a.eval x=.slice ao us.length c) (hu:Kids (Apart b v) w us ao c)
    (hlen:ts.length+us.length≤1000000000) (hbase:b≤w.heap.size)
    (h:∀ v' w',OwnsTs b w' v' (ts ++ us)→w.grownBy w' v.ownBlock→K (a.put o.dst v') w') :
    if Region.wanted o (yielded ops a.tmps)=true then Oper.wp Tryz.prog o a w K Q else E:=by
  obtain ⟨i0,hi,hz0,hz1,hz2⟩:=info_parts info_tree
  obtain ⟨xs,h1,h2⟩:=hown
  obtain ⟨ys,g1,g2⟩:=hu.vals
  by_cases hm:0 < us.length
  · obtain ⟨ad,rfl,hc⟩:=g2 hm
    refine step_append_lies w hgd s x _ ho b _ i0 _ 2 40 under_trees hi hz0 hz1 hz2 rfl (by omega) v ts.length xs hs h1 ad us.length c ys hx g1.length hc g1.one hm (by unfold maxLen;omega) (by omega) hbase w.heap.size rfl ?_
    intro g cap w' k1 k2 k3 _
    exact h _ w' (OwnsTs.grown h2 g1 k1 k2 k3) k2
  · have hus:us=[]:=List.eq_nil_of_length_eq_zero (by omega)
    subst hus
    have hw:Region.wanted o (yielded ops a.tmps)=true:=by simp [Region.wanted,hgd]
    rw [if_pos hw]
    have hrun:=run_append_zero (P:=Tryz.prog) (w:=w) b 22 o.type _ i0 2 under_trees hi v ts.length xs h1 ao c
    unfold Oper.wp execOp
    simp only [ho,resolve,invoke,builtin,Sem.run_bind,Sem.run_pure,Result.andThen_ok,List.map_toArray,List.map_cons,List.map_nil,hs,hx,List.length_nil,hrun]
    exact h v w (by rw [List.append_nil];exact ⟨xs,h1,h2⟩) (World.grownBy.refl _ _)
end
theorem chgC {X:Nat→Prop} {w w1:World} (h:Chg X w w1) {b o:Nat} {v:Value} (hc:w.cell? ⟨b,o,none⟩=some v) (hX:¬ X b):w1.cell? ⟨b,o,none⟩=some v:=by
  rw [World.cell?_of_block (h.block b (lt_of_cell hc) hX)];exact hc
theorem chgOver {X:Nat→Prop} {w w1 w2:World} (hp:Pr w w1) (h:Chg X w1 w2) (hX:∀ k,X k→w.heap.size≤k):Pr w w2 :=
  ((hp.chg X).trans h (fun _ h=>.inl h)).to_pr hX
def delP (ks:List Tr) (x i:Nat):List Tr:=if i≤x then ks.take i else ks.take x ++ (kidN ks (x:Int)).kids ++ (ks.drop (x+1)).take (i - (x+1))
theorem delP_zero (ks:List Tr) (x:Nat):delP ks x 0=[]:=by simp [delP]
theorem delP_at (ks:List Tr) (x:Nat) (h:x < ks.length):delP ks x (x+1)=delP ks x x ++ ks[x].kids:=by
  unfold delP
  rw [if_neg (by omega),if_pos (Nat.le_refl _),kidN_in ks x h];simp
theorem delP_succ (ks:List Tr) (x i:Nat) (h:i < ks.length) (hne:i≠x):delP ks x (i+1)=delP ks x i ++ [ks[i]]:=by
  unfold delP
  by_cases hi:i < x
  · rw [if_pos (by omega),if_pos (by omega)];exact List.take_succ_eq_append_getElem h
  · rw [if_neg (by omega),if_neg (by omega),List.append_assoc]
    rw [show i+1 - (x+1)=(i - (x+1))+1 by omega,List.take_succ_eq_append_getElem (by simp;omega)]
    simp only [List.append_assoc]
    congr 3
    simp only [List.getElem_drop]
    congr 2
    omega
theorem delP_all (ks:List Tr) (x:Nat) (h:x < ks.length):delP ks x ks.length=ks.take x ++ (kidN ks (x:Int)).kids ++ ks.drop (x+1):=by
  unfold delP
  rw [if_neg (by omega),List.take_of_length_le (l:=ks.drop (x+1)) (by rw [List.length_drop];omega)]
theorem delP_length (ks:List Tr) (x i:Nat) (hi:i≤ks.length):(delP ks x i).length≤ks.length+(kidN ks (x:Int)).kids.length:=by
  unfold delP
  split
  · rw [List.length_take];omega
  · simp;omega
section
variable {S:Nat→Prop} {l:ByteArray} {ks:List Tr} {oa:Option Addr} {cap:Nat} {k a m:Int} {s:ByteArray} {pa:Option Addr} {np pc:Nat} {qa:Option Addr} {qc:Nat} {w:World}
set_option maxRecDepth 100000 in
set_option maxHeartbeats 6400000 in
theorem rdone_del (x:Nat) (hl:l.size≤maxLen) (hsz:Tr.szL ks≤1000000) (hk:Kids S w ks oa cap) (hq:Ints Any w [(x:Int)] qa qc) (hk2:k=2) (hx:x < ks.length) :
    Calls Tryz.prog 31 #[.agg #[.string l,.slice oa ks.length cap],.agg #[.int .i64 k,.slice pa np pc,.int .i64 a,.int .i64 m,.string s],.slice qa 1 qc] w (DonePost S (.node l (delP ks x ks.length),0) w):=by
  have hm:=hk.len
  obtain ⟨bq,oq,rfl,cq⟩:=Ints.get hq 0 (by simp)
  simp only [List.getElem_cons_zero,Nat.add_zero] at cq
  obtain ⟨W,hW⟩:∃ W,W=((w.alloc (.cells #[.string l,.slice oa ks.length cap] 34)).alloc (.cells #[.int .i64 k,.slice pa np pc,.int .i64 a,.int .i64 m,.string s] 25)).alloc (.cells #[.string ⟨#[]⟩,.slice none 0 0] 34):=⟨_,rfl⟩
  have hwW:Pr w W:=by rw [hW];exact ((Pr.alloc _ _).alloc' _).alloc' _
  have hWs:W.heap.size=w.heap.size+3:=by rw [hW];simp
  have s0:=stays (show W.cell? ⟨w.heap.size,0,none⟩=some (.string l) by rw [hW];simp [go_sem])
  have s1:=stays (show W.cell? ⟨w.heap.size,1,none⟩=some (.slice oa ks.length cap) by rw [hW];simp [go_sem])
  have d0:=stays (show W.cell? ⟨w.heap.size+1,0,none⟩=some (.int .i64 k) by rw [hW];simp [go_sem])
  have d1:=stays (show W.cell? ⟨w.heap.size+1,1,none⟩=some (.slice pa np pc) by rw [hW];simp [go_sem])
  have d2:=stays (show W.cell? ⟨w.heap.size+1,2,none⟩=some (.int .i64 a) by rw [hW];simp [go_sem])
  have d3:=stays (show W.cell? ⟨w.heap.size+1,3,none⟩=some (.int .i64 m) by rw [hW];simp [go_sem])
  have d4:=stays (show W.cell? ⟨w.heap.size+1,4,none⟩=some (.string s) by rw [hW];simp [go_sem])
  have hR:W.heap[w.heap.size+1+1]? = some (.cells #[.string ⟨#[]⟩,.slice none 0 0] 34 (0,0)):=by
    rw [hW];simpa using heap_alloc_new ((w.alloc (.cells #[.string l,.slice oa ks.length cap] 34)).alloc (.cells #[.int .i64 k,.slice pa np pc,.int .i64 a,.int .i64 m,.string s] 25)) (.cells #[.string ⟨#[]⟩,.slice none 0 0] 34)
  have HR:=Lib.hid hR;have HW:=Lib.hid hwW;have HWs:=Lib.hid hWs;have HK:=Lib.hid ((hk.mono (S':=fun j=>S j∧j < w.heap.size) (fun j h1 h2=>⟨h1,h2⟩)).pr hwW)
  clear hR hk
  have cq:=stays (hwW.cell cq)
  have hws1:w.heap.size+3≤W.heap.size:=by omega
  have hbq:bq < W.heap.size:=lt_of_cell (cq _ (Pr.refl _))
  have hd1:decide ((ks.length:Int)≤(x:Int))=false:=by simp;omega
  have hd2:decide (ks.length≤x)=false:=by simp;omega
  have hkx:(kidN ks (x:Int)).kids.length≤1000000:=by
    rw [kidN_in ks x hx]
    have h1:=Tr.szL_get ks x hx
    cases hkk:ks[x] with
    | node l' ks'=>rw [hkk,Tr.sz_node] at h1;have:=Tr.length_le ks';simp only [Tr.kids_node];omega
  have hkl:=Tr.length_le ks
  subst hk2
  clear hwW hq hWs
  go_enter Tryz.func31,Tryz.ntmps31
  go_upto_region 1 with fail
  rw [← hW];clear hW
  have y0:=d0 _ (Pr.refl _);have y3:=s0 _ (Pr.refl _)
  have y1:=fun o=>d0 _ (Pr.alloc W o)
  go_upto_region 23 with fail
  obtain ⟨V,hV⟩:∃ V,V=W.alloc (.cells #[.string l,.slice none 0 0] 34):=⟨_,rfl⟩
  have hwV:Pr W V:=by rw [hV];exact Pr.alloc _ _
  have hVs:V.heap.size=W.heap.size+1:=by rw [hV];simp
  have hT:V.heap[W.heap.size]? = some (.cells #[.string l,.slice none 0 0] 34 (0,0)):=by rw [hV];exact heap_alloc_new _ _
  rw [← hV]
  clear hV y0 y1 y3
  have s1:=stays (s1 _ hwV);have cq:=stays (cq _ hwV)
  have HR2:=Lib.hid (hwV.blk HR.out);have HT:=Lib.hid hT;have HW2:=Lib.hid (HW.out.trans hwV);have HK2:=Lib.hid (HK.out.pr hwV)
  have hvs1:W.heap.size+1≤V.heap.size:=by omega
  clear hVs hT hwV HR HK HW
  have x1:=s1 _ (Pr.refl _);have x2:=cq _ (Pr.refl _)
  go_quiet (fail)
  obtain ⟨V1,hV1⟩:∃ V1,V1=V.drewN nq:=⟨_,rfl⟩
  have hV1p:Pr V V1:=by rw [hV1];exact Pr.drewN _ _
  rw [← hV1]
  clear hV1 x1 x2
  have HT1:=Lib.hid (hV1p.blk HT.out)
  go_wp2_with fail
  go_loopw [14] (fun vi wr=>∃ (i:Nat) (v:Value),i≤ks.length∧vi=.int .i64 i∧OwnsTs V.heap.size wr v (delP ks x i)∧wr.heap[W.heap.size]? = some (.cells #[.string l,v] 34 (0,0))∧Chg (fun j=>j=W.heap.size) V wr) (fun vi _=>ks.length - (intOf vi).toNat)
  case atStart=>exact ⟨0,.slice none 0 0,by omega,rfl,by rw [delP_zero];exact OwnsTs.nil _ _,HT1.out,hV1p.chg _⟩
  case round =>
    obtain ⟨i,v,hi,rfl,hown,hblk,hcr⟩:=hrel
    have hsr:=hcr.size
    have x1:wr.cell? ⟨w.heap.size,1,none⟩=some (.slice oa ks.length cap):=chgC hcr (s1 _ (Pr.refl _)) (by omega)
    have hlen:=delP_length ks x i hi
    by_cases hlt:i < ks.length
    · have x2:wr.cell? ⟨bq,oq,none⟩=some (.int .i64 (x:Int)):=chgC hcr (cq _ (Pr.refl _)) (by omega)
      have hkr:Kids (fun j=>S j∧j < w.heap.size) wr ks oa cap:=HK2.out.carry fun j hj hl=>⟨hcr.block j hl (by have:=hj.2;omega),hj⟩
      obtain ⟨bk,ok,l',ks',oa',cap',e1,hl',rfl,c0,c1,hk'⟩:=hkr.get i hlt
      have hsz':=Tr.szL_get ks i hlt
      rw [e1,Tr.sz_node] at hsz'
      have hkl':=Tr.length_le ks'
      have g1:wr.cell? ⟨W.heap.size,1,none⟩=some v:=blk_cell hblk
      have hd0:=Pr.drew wr
      have n1:v.ownBlock≠some W.heap.size:=fun e=>by have:=(hown.block _ e).1;omega
      have l0:(0:Int)≤(i:Int):=by omega
      have l1:(i:Int) < (ks.length:Int):=by omega
      have Hbk:=Lib.hid hblk;have Hcr:=Lib.hid hcr;have He1:=Lib.hid e1
      by_cases hix:i=x
      · have e5:((i:Int)==(x:Int))=true:=by simp [hix]
        have hsuc:delP ks x (i+1)=delP ks x i ++ ks':=by
          subst hix;rw [delP_at ks i hlt,He1.out];rfl
        have Hsuc:=Lib.hid hsuc
        have OL:=Lib.hid fun (W':World) (h:Pr wr W')=>rownList_any ks' oa' cap' W' (by omega) (hk'.any.pr h)
        clear hblk hcr e1 hix hsuc hkr hk'
        go_upto_region 29 with fail
        go_region_law (first
          | (go_simp;go_at_call 42;(with_reducible refine Calls.mono (OL.out _ hd0) ?_);rintro e w5 ⟨v5,rfl,hown5,hb5⟩;obtain ⟨o5,c5,rfl,hk5⟩:=hown5.kids;have s1':w5.cell? ⟨W.heap.size,1,none⟩=some v:=blk_cell ((hd0.trans hb5).blk Hbk.out))
          | (refine step_trees rfl _ _ rfl V.heap.size v (delP ks x i) rfl ((hown.pr hd0).pr hb5) ks' _ _ rfl (hk5.mono (fun j hj _=>⟨by have hj':wr.heap.size≤j:=(by simpa using hj);omega,fun e=>by have hj':wr.heap.size≤j:=(by simpa using hj);have:=(hown.block j e).2;omega⟩)) (by omega) (by have:=hb5.size;simp at this;omega) ?_;intro v6 w6 ho6 hg6;obtain ⟨o6,c6,rfl,hk6⟩:=ho6.kids;have B6:=Lib.hid (grown_blk hg6 ((hd0.trans hb5).blk Hbk.out) n1);have t4:=blk_frozen (o:=1) B6.out;have t5:=blk_cell (o:=1) B6.out))
        all_goals
          have hs6:=hg6.size
          have hs5:=hb5.size
          simp at hs5
          obtain ⟨wz,hwz⟩:∃ wz,wz=w6.setCell ⟨W.heap.size,1,none⟩ (.slice o6 ((delP ks x i).length+ks'.length) c6):=⟨_,rfl⟩
          have h1:OwnsTs V.heap.size wz (.slice o6 ((delP ks x i).length+ks'.length) c6) (delP ks x (i+1)):=by
            rw [hwz,Hsuc.out];rw [List.length_append] at ho6;exact ho6.setCell _ _ (by simp;omega)
          have h2:wz.heap[W.heap.size]? = some (.cells #[.string l,.slice o6 ((delP ks x i).length+ks'.length) c6] 34 (0,0)):=by rw [hwz];exact blk_set (o:=1) B6.out _
          have h3:Chg (fun j=>j=W.heap.size) V wz:=by
            rw [hwz]
            exact (((Hcr.out.pr hd0).pr hb5).trans (chg_grown hg6) (fun j hj=>.inr (hown.block j hj).1)).setCell _ _ (.inl rfl)
          rw [← hwz]
          have H:=Lib.hid (And.intro h1 (And.intro h2 h3))
          clear hwz h1 h2 h3 ho6 hg6 hk6 hk5 hown5 hb5 hown t4 t5 s1'
          go_wp2_with fail
          exact ⟨⟨i+1,_,by omega,by go_num,H.out.1,H.out.2.1,H.out.2.2⟩,by simp [intOf];omega⟩
      · have e5:((i:Int)==(x:Int))=false:=by simp;omega
        have hsuc:delP ks x (i+1)=delP ks x i ++ [.node l' ks']:=by rw [delP_succ ks x i hlt hix,He1.out]
        have Hsuc:=Lib.hid hsuc
        have OW:=Lib.hid fun (W':World) (h:Pr wr W')=>rown_any l' ks' oa' cap' W' (by omega) (hk'.any.pr h)
        clear hblk hcr e1 hix hsuc hkr hk'
        go_upto_region 30 with fail
        go_region_law (first
          | (go_simp;go_at_call 24;(with_reducible refine Calls.mono (OW.out _ hd0) ?_);rintro e w5 ⟨o5,c5,rfl,hk5,hb5⟩;have s1':w5.cell? ⟨W.heap.size,1,none⟩=some v:=blk_cell ((hd0.trans hb5).blk Hbk.out);have s1'':=fun o=>(Pr.alloc w5 o).cell s1')
          | (refine step_tree rfl _ _ rfl V.heap.size v (delP ks x i) rfl (((hown.pr hd0).pr hb5).pr (Pr.alloc _ _)) w5.heap.size rfl (.node l' ks') _ _ (heap_alloc_new w5 _) (treeV_mk c5 hl' ((hk5.pr (Pr.alloc _ _)).mono (fun j hj _=>⟨by have hj':wr.heap.size≤j:=(by simpa using hj);omega,fun e=>by have hj':wr.heap.size≤j:=(by simpa using hj);have:=(hown.block j e).2;omega⟩))) (by omega) (by have:=hb5.size;simp at this ⊢;omega) ?_;intro g6 c6 w6 ho6 hg6 hat6;have B6:=Lib.hid (grown_blk hg6 ((Pr.alloc w5 _).blk ((hd0.trans hb5).blk Hbk.out)) n1);have t4:=blk_frozen (o:=1) B6.out;have t5:=blk_cell (o:=1) B6.out))
        all_goals
          have hs6:=hg6.size
          have hs5:=hb5.size
          simp at hs5 hs6
          obtain ⟨wz,hwz⟩:∃ wz,wz=w6.setCell ⟨W.heap.size,1,none⟩ (.slice (some ⟨g6,0,none⟩) ((delP ks x i).length+1) c6):=⟨_,rfl⟩
          have h1:OwnsTs V.heap.size wz (.slice (some ⟨g6,0,none⟩) ((delP ks x i).length+1) c6) (delP ks x (i+1)):=by
            rw [hwz,Hsuc.out];exact ho6.setCell _ _ (by simp;omega)
          have h2:wz.heap[W.heap.size]? = some (.cells #[.string l,.slice (some ⟨g6,0,none⟩) ((delP ks x i).length+1) c6] 34 (0,0)):=by rw [hwz];exact blk_set (o:=1) B6.out _
          have h3:Chg (fun j=>j=W.heap.size) V wz:=by
            rw [hwz]
            exact ((((Hcr.out.pr hd0).pr hb5).pr (Pr.alloc w5 (.cells #[.string l',.slice o5 ks'.length c5] 34))).trans (chg_grown hg6) (fun j hj=>.inr (hown.block j hj).1)).setCell _ _ (.inl rfl)
          rw [← hwz]
          have H:=Lib.hid (And.intro h1 (And.intro h2 h3))
          clear hwz h1 h2 h3 ho6 hg6 hat6 hk5 hb5 hown t4 t5 s1' s1''
          go_wp2_with fail
          exact ⟨⟨i+1,_,by omega,by go_num,H.out.1,H.out.2.1,H.out.2.2⟩,by simp [intOf];omega⟩
    · have hin:i=ks.length:=by omega
      have z1:decide ((i:Int) < (ks.length:Int))=false:=by simp;omega
      have z2:decide (i < ks.length)=false:=by simp;omega
      obtain ⟨oz,cz,rfl,hkz⟩:=hown.kids
      have t0:=blk_cell (o:=0) hblk;have t1:=blk_cell (o:=1) hblk
      have hRr:=hcr.blk HR2.out (by omega)
      have r0:=blk_cell (o:=0) hRr;have r1:=blk_cell (o:=1) hRr;have f0:=blk_frozen (o:=0) hRr;have f1:=blk_frozen (o:=1) hRr
      have Hin:=Lib.hid hin;have Hkz:=Lib.hid hkz;have Hcr:=Lib.hid hcr
      have hVw:=HW2.out.size
      clear hin hlt hown hkz hblk hRr hcr
      go_wp2_with fail
      refine bodyPost_ret (v:=.tuple #[.agg #[.string l,.slice oz (delP ks x i).length cz],.int .i64 0]) (by simp [results,Tryz.results31,go_sem,r0,r1]) rfl ?_
      have hpr:Pr w wr:=chgOver HW2.out Hcr.out (fun j hj=>by omega)
      rw [← Hin.out]
      exact done_fin (c:=0) rfl hl hpr (Hkz.out.mono (fun j hj _=>.inr (by have hj':V.heap.size≤j:=hj;omega)))
end
end Go.Proofs.YtdbnfhpgmcjngacGreat
