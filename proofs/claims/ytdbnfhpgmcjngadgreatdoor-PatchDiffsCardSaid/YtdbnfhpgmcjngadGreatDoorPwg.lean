/- Walks: a line's deed; the program's. -/
import Derived.Test.YtdbnfhpgmcjngadGreatDoorPwf
namespace Go.Proofs.YtdbnfhpgmcjngadGreatDoor
open Go Go.RowKit
def PDeedPost (r:Dee × Nat) (w:World) (e:Ending) (w':World):Prop:=∃ pa pc,e=.returned (.tuple #[.agg #[.int .i64 r.1.kind,.slice pa r.1.path.length pc,.int .i64 r.1.pos,.int .i64 r.1.many,.string r.1.lab],.int .i64 (r.2:Int)])∧Ints (From w.heap.size) w' r.1.path pa pc∧r.1.lab.size≤1000000∧Pr w w'
theorem chk_bad {d:Dee} (h:dfault d≠0):chk d=(Dee.zero,dfault d):=by unfold chk;rw [if_pos h]
theorem deedW_few {ps:List (List UInt8)} (h:ps.length < 2):deedW ps=(Dee.zero,6):=by
  match ps,h with
  | [],_=>rfl
  | [x],_=>rfl
theorem deedW_path {ps:List (List UInt8)} (h:1 < ps.length) (hp:pathIn ps[1]=none):deedW ps=(Dee.zero,6):=by
  match ps,h,hp with
  | [a,b],_,hp=>simp only [List.getElem_cons_succ,List.getElem_cons_zero] at hp;simp [deedW,hp]
  | [a,b,c],_,hp=>simp only [List.getElem_cons_succ,List.getElem_cons_zero] at hp;simp [deedW,hp]
  | [a,b,c,d],_,hp=>rfl
  | [a,b,c,d,e],_,hp=>simp only [List.getElem_cons_succ,List.getElem_cons_zero] at hp;simp [deedW,hp]
  | a :: b :: c :: d :: e :: f :: r,_,hp=>rfl
theorem deedW_no {ps:List (List UInt8)} (h:1 < ps.length) (h1:¬ (ps[0]=wName∧ps.length=3)) (h2:¬ (ps[0]=wDelete∧ps.length=2)) (h3:¬ (ps[0]=wInsert∧ps.length=5)):deedW ps=(Dee.zero,6):=by
  match ps,h,h1,h2,h3 with
  | [a,b],_,_,h2,_=>simp at h2;simp [deedW,h2]
  | [a,b,c],_,h1,_,_=>simp at h1;simp [deedW,h1]
  | [a,b,c,d],_,_,_,_=>rfl
  | [a,b,c,d,e],_,_,_,h3=>simp at h3;simp [deedW,h3]
  | a :: b :: c :: d :: e :: f :: r,_,_,_,_=>rfl
theorem deedW_name {ps:List (List UInt8)} {q:List Int} (h:ps.length=3) (h0:ps[0]=wName) (hp:pathIn ps[1]=some q):deedW ps=chk ⟨1,q,0,0,⟨⟨ps[2]⟩⟩⟩:=by
  match ps,h,h0,hp with
  | [a,b,c],_,h0,hp=>simp only [List.getElem_cons_succ,List.getElem_cons_zero] at hp h0;simp [deedW,hp,h0]
theorem deedW_delete {ps:List (List UInt8)} {q:List Int} (h:ps.length=2) (h0:ps[0]=wDelete) (hp:pathIn ps[1]=some q):deedW ps=chk ⟨2,q,0,0,⟨#[]⟩⟩:=by
  match ps,h,h0,hp with
  | [a,b],_,h0,hp=>simp only [List.getElem_cons_succ,List.getElem_cons_zero] at hp h0;simp [deedW,hp,h0]
theorem deedW_insert {ps:List (List UInt8)} {q:List Int} (h:ps.length=5) (h0:ps[0]=wInsert) (hp:pathIn ps[1]=some q):deedW ps=match fewN ps[2],fewN ps[3] with | some x,some y=>chk ⟨3,q,(x:Int),(y:Int),⟨⟨ps[4]⟩⟩⟩ | _,_=>(Dee.zero,6):=by
  match ps,h,h0,hp with
  | [a,b,c,d,e],_,h0,hp=>simp only [List.getElem_cons_succ,List.getElem_cons_zero] at hp h0;simp [deedW,hp,h0];cases fewN c <;> cases fewN d <;> rfl
abbrev deeZ:Array Value:=#[.int .i64 0,.slice none 0 0,.int .i64 0,.int .i64 0,.string ⟨#[]⟩]
theorem set5P {w:World} {b:Nat} {x0 x1 x2 x3 x4:Value} {T:TypeId} (v0 v1 v2 v3 v4:Value) (h:w.heap[b]? = some (.cells #[x0,x1,x2,x3,x4] T (0,0))) :
    (((((w.setCell ⟨b,0,none⟩ v0).setCell ⟨b,1,none⟩ v1).setCell ⟨b,2,none⟩ v2).setCell ⟨b,3,none⟩ v3).setCell ⟨b,4,none⟩ v4).heap[b]? = some (.cells #[v0,v1,v2,v3,v4] T (0,0)):=by
  have:=blk_set (o:=4) (blk_set (o:=3) (blk_set (o:=2) (blk_set (o:=1) (blk_set (o:=0) h v0) v1) v2) v3) v4
  simpa using this
theorem pr5 {a w:World} {b:Nat} (h:Pr a w) (hb:a.heap.size≤b) (v0 v1 v2 v3 v4:Value):Pr a (((((w.setCell ⟨b,0,none⟩ v0).setCell ⟨b,1,none⟩ v1).setCell ⟨b,2,none⟩ v2).setCell ⟨b,3,none⟩ v3).setCell ⟨b,4,none⟩ v4) :=
  ((((h.setCell hb v0).setCell hb v1).setCell hb v2).setCell hb v3).setCell hb v4
theorem ints5 {w:World} {b:Nat} {S:Nat→Prop} {p:List Int} {pa pc} (h:Ints S w p pa pc) (hb:¬ S b) (v0 v1 v2 v3 v4:Value):Ints S (((((w.setCell ⟨b,0,none⟩ v0).setCell ⟨b,1,none⟩ v1).setCell ⟨b,2,none⟩ v2).setCell ⟨b,3,none⟩ v3).setCell ⟨b,4,none⟩ v4) p pa pc :=
  Flat.kept (kept_setCell S _ _ _ hb) (Flat.kept (kept_setCell S _ _ _ hb) (Flat.kept (kept_setCell S _ _ _ hb) (Flat.kept (kept_setCell S _ _ _ hb) (Flat.kept (kept_setCell S _ _ _ hb) h))))
set_option maxRecDepth 100000 in
set_option maxHeartbeats 6400000 in
theorem deed_any (s:ByteArray) (hs:s.size≤1000000) (w:World) (hw:Lv w) :
    Calls Tryz.prog 55 #[.string s] w (PDeedPost (deedIn s.data.toList) w):=by
  obtain ⟨W,hW⟩:∃ W,W=w.alloc (.cells deeZ 69):=⟨_,rfl⟩
  have hwW:Pr w W:=by rw [hW];exact Pr.alloc _ _
  have hsW:W.heap.size=w.heap.size+1:=by rw [hW];simp
  have hbW:W.heap[w.heap.size]? = some (.cells deeZ 69 (0,0)):=by rw [hW];exact heap_alloc_new w _
  obtain ⟨ps,hps⟩:∃ ps,ps=cutC 32 s.data.toList:=⟨_,rfl⟩
  obtain ⟨r,hr⟩:∃ r,r=deedW ps:=⟨_,rfl⟩
  have e:deedIn s.data.toList=r:=by rw [hr,hps];rfl
  rw [e]
  clear e
  have C:=split_parts s 32 hs W (hw.pr hwW)
  have hcl:=cut_le 32 s.data.toList
  rw [← hps] at C hcl
  have C:=Lib.hid C;have Hcl:=Lib.hid hcl;have HW:=Lib.hid (hw.pr hwW);have HwW:=Lib.hid hwW;have HbW:=Lib.hid hbW;have HsW:=Lib.hid hsW
  clear hw hwW hps hcl hbW hsW
  by_cases h2:ps.length < 2
  · have hz:=deedW_few h2
    rw [← hr] at hz
    have Hz:=Lib.hid hz
    clear hz hr
    go_enter Tryz.func55,Tryz.ntmps55
    go_upto_region 1 with fail
    rw [← hW];clear hW
    go_wp2_with (go_at_call 54;(with_reducible refine Calls.mono C.out ?_);rintro e w1 ⟨oa,cap,rfl,hst,hp⟩;have hbk:=hp.blk HbW.out;have z0:=blk_cell (o:=0) hbk;have z1:=blk_cell (o:=1) hbk;have z2:=blk_cell (o:=2) hbk;have z3:=blk_cell (o:=3) hbk;have z4:=blk_cell (o:=4) hbk;have y0:w1.frozen? ⟨w.heap.size,0,none⟩=false:=blk_frozen hbk;have y1:w1.frozen? ⟨w.heap.size,1,none⟩=false:=blk_frozen hbk;have y2:w1.frozen? ⟨w.heap.size,2,none⟩=false:=blk_frozen hbk;have y3:w1.frozen? ⟨w.heap.size,3,none⟩=false:=blk_frozen hbk;have y4:w1.frozen? ⟨w.heap.size,4,none⟩=false:=blk_frozen hbk;simp only [deeZ,List.getElem?_toArray,List.getElem?_cons_zero,List.getElem?_cons_succ] at z0 z1 z2 z3 z4)
    have hq5:=set5P (.int .i64 0) (.slice none 0 0) (.int .i64 0) (.int .i64 0) (.string ⟨#[]⟩) hbk
    have q0:=blk_cell (o:=0) hq5;have q1:=blk_cell (o:=1) hq5;have q2:=blk_cell (o:=2) hq5;have q3:=blk_cell (o:=3) hq5;have q4:=blk_cell (o:=4) hq5
    simp only [List.getElem?_toArray,List.getElem?_cons_zero,List.getElem?_cons_succ] at q0 q1 q2 q3 q4
    refine bodyPost_ret (v:=.tuple #[.agg #[.int .i64 0,.slice none 0 0,.int .i64 0,.int .i64 0,.string ⟨#[]⟩],.int .i64 6]) (by simp [results,Tryz.results55,go_sem,q0,q1,q2,q3,q4]) rfl ?_
    rw [Hz.out];exact ⟨none,0,rfl,Flat.nil _ _ _ _ (Nat.zero_le _),(by show (⟨#[]⟩:ByteArray).size≤1000000;decide),pr5 (HwW.out.trans hp) (Nat.le_refl _) _ _ _ _ _⟩
  · have h1n:1 < ps.length:=by omega
    have d0:decide ((ps.length:Int) < 2)=false:=by simp;omega
    have d1:decide (ps.length < 2)=false:=by simp;omega
    obtain ⟨x0,hx0⟩:∃ x:ByteArray,x=⟨⟨ps[0]⟩⟩:=⟨_,rfl⟩
    obtain ⟨x1,hx1⟩:∃ x:ByteArray,x=⟨⟨ps[1]⟩⟩:=⟨_,rfl⟩
    have hs1:x1.size≤1000000:=by
      have h1:=Hcl.out ps[1] (List.getElem_mem _)
      rw [sizeL] at h1
      have h2:x1.size=ps[1].length:=by rw [hx1];rfl
      omega
    have hl0:x0.toList=ps[0]:=by rw [hx0,ByteArray.toList_eq]
    have hl1:x1.data.toList=ps[1]:=by rw [hx1]
    obtain ⟨op,hop⟩:∃ op,op=pathIn ps[1]:=⟨_,rfl⟩
    have PA:∀ W',Pr W W'→Calls Tryz.prog 81 #[.string x1] W' (PathPost ps[1] W'):=fun W' h=>by
      have:=parsePath_any x1 hs1 W' (HW.out.pr h)
      rwa [hl1] at this
    unfold PathPost at PA
    rw [← hop] at PA
    have PA:=Lib.hid PA
    have Hx0:=Lib.hid hx0;have Hx1:=Lib.hid hx1;have Hl0:=Lib.hid hl0;have Hop:=Lib.hid hop
    clear hx0 hx1 hl0 hl1 hop
    go_enter Tryz.func55,Tryz.ntmps55
    go_upto_region 1 with fail
    rw [← hW];clear hW
    go_upto_region 4 with (go_at_call 54;(with_reducible refine Calls.mono C.out ?_);rintro e w1 ⟨oa,cap,rfl,hst,hp⟩;obtain ⟨g,o,rfl,c0⟩:=Strs.get hst 0 (by omega);have Hst:=Lib.hid hst;clear hst)
    have hcell:∀ (i:Nat) (hi:i < ps.length),w1.cell? ⟨g,o+i,none⟩=some (.string ⟨⟨ps[i]⟩⟩):=fun i hi=>by
      obtain ⟨g',o',e,c⟩:=Strs.get Hst.out i hi
      cases e;exact c
    have hgW:g < w1.heap.size:=lt_of_cell c0
    have c1:=hcell 1 h1n
    rw [← Hx1.out] at c1
    rw [← Hx0.out,Nat.add_zero] at c0
    have d2:decide ((1:Int) < ps.length)=true:=by simp;omega
    have d3:decide (1 < ps.length)=true:=by simp;omega
    have Hcell:=Lib.hid hcell
    clear hcell
    have Hp1:=Lib.hid hp
    cases op with
    | none =>
      have hz:=deedW_path h1n Hop.out.symm
      rw [← hr] at hz
      have Hz:=Lib.hid hz
      clear hz hr
      go_upto_region 7 with (go_at_call 81;(with_reducible refine Calls.mono (PA.out _ hp) ?_);rintro e w5 ⟨pa,pc,rfl,hpi,hp5⟩)
      have hp5W:=hp.trans hp5
      obtain ⟨w6,hw6⟩:∃ w6,w6=w5.alloc (.cells #[.int .i64 0,.slice pa 0 pc,.int .i64 0,.int .i64 0,.string ⟨#[]⟩] 69):=⟨_,rfl⟩
      rw [← hw6]
      have hB:w6.heap[w5.heap.size]? = some (.cells #[.int .i64 0,.slice pa 0 pc,.int .i64 0,.int .i64 0,.string ⟨#[]⟩] 69 (0,0)):=by rw [hw6];exact heap_alloc_new w5 _
      have h56:Pr w5 w6:=by rw [hw6];exact Pr.alloc _ _
      have hlt6:w.heap.size < w5.heap.size:=by have:=hp5W.size;have:=HsW.out;omega
      have c0:=h56.cell (hp5.cell c0);have c1:=h56.cell (hp5.cell c1)
      have hpi:=Flat.pr h56 (hpi.mono (S':=fun k=>w.heap.size+1≤k∧k < w5.heap.size) (fun k h hl=>⟨by have:=Hp1.out.size;have:=HsW.out;have:w1.heap.size≤k:=h;omega,hl⟩))
      have hp:=hp5W.trans h56
      have hgW:g < w5.heap.size:=Nat.lt_of_lt_of_le hgW hp5.size
      clear hw6
      have hbk:=hp.blk HbW.out;have z0:=blk_cell (o:=0) hbk;have z1:=blk_cell (o:=1) hbk;have z2:=blk_cell (o:=2) hbk;have z3:=blk_cell (o:=3) hbk;have z4:=blk_cell (o:=4) hbk;have y0:w6.frozen? ⟨w.heap.size,0,none⟩=false:=blk_frozen hbk;have y1:w6.frozen? ⟨w.heap.size,1,none⟩=false:=blk_frozen hbk;have y2:w6.frozen? ⟨w.heap.size,2,none⟩=false:=blk_frozen hbk;have y3:w6.frozen? ⟨w.heap.size,3,none⟩=false:=blk_frozen hbk;have y4:w6.frozen? ⟨w.heap.size,4,none⟩=false:=blk_frozen hbk;simp only [deeZ,List.getElem?_toArray,List.getElem?_cons_zero,List.getElem?_cons_succ] at z0 z1 z2 z3 z4
      go_wp2_with fail
      have hq5:=set5P (.int .i64 0) (.slice none 0 0) (.int .i64 0) (.int .i64 0) (.string ⟨#[]⟩) hbk
      have q0:=blk_cell (o:=0) hq5;have q1:=blk_cell (o:=1) hq5;have q2:=blk_cell (o:=2) hq5;have q3:=blk_cell (o:=3) hq5;have q4:=blk_cell (o:=4) hq5
      simp only [List.getElem?_toArray,List.getElem?_cons_zero,List.getElem?_cons_succ] at q0 q1 q2 q3 q4
      refine bodyPost_ret (v:=.tuple #[.agg #[.int .i64 0,.slice none 0 0,.int .i64 0,.int .i64 0,.string ⟨#[]⟩],.int .i64 6]) (by simp [results,Tryz.results55,go_sem,q0,q1,q2,q3,q4]) rfl ?_
      rw [Hz.out];exact ⟨none,0,rfl,Flat.nil _ _ _ _ (Nat.zero_le _),(by show (⟨#[]⟩:ByteArray).size≤1000000;decide),pr5 (HwW.out.trans hp) (Nat.le_refl _) _ _ _ _ _⟩
    | some q =>
      by_cases hN:ps[0]=wName
      · have bN:(x0.toList==[110,97,109,101])=true:=by rw [Hl0.out,hN];rfl
        have bN':x0.toList=[110,97,109,101]:=by rw [Hl0.out,hN];rfl
        by_cases h3:ps.length=3
        · have i2:2 < ps.length:=by omega
          obtain ⟨x2,hx2⟩:∃ x:ByteArray,x=⟨⟨ps[2]⟩⟩:=⟨_,rfl⟩
          have hz:=deedW_name h3 hN Hop.out.symm
          rw [← hr,← hx2] at hz
          have Hz:=Lib.hid hz;have Hx2:=Lib.hid hx2
          clear hz hr
          have l3:((ps.length:Int)==3)=true:=by simp;omega
          have l3':(ps.length==3)=true:=by simp;omega
          have c2:=Hcell.out 2 i2
          rw [← hx2] at c2
          have g2:(2:Int) < ps.length:=by omega
          have hs2:x2.size≤1000000:=by
            have h1:=Hcl.out ps[2] (List.getElem_mem _)
            rw [sizeL] at h1
            have h2:x2.size=ps[2].length:=by rw [hx2];rfl
            omega
          have Hs2:=Lib.hid hs2
          clear hx2 h3
          go_upto_region 7 with (go_at_call 81;(with_reducible refine Calls.mono (PA.out _ hp) ?_);rintro e w5 ⟨pa,pc,rfl,hpi,hp5⟩)
          have hp5W:=hp.trans hp5
          obtain ⟨w6,hw6⟩:∃ w6,w6=w5.alloc (.cells #[.int .i64 0,.slice pa q.length pc,.int .i64 0,.int .i64 0,.string ⟨#[]⟩] 69):=⟨_,rfl⟩
          rw [← hw6]
          have hB:w6.heap[w5.heap.size]? = some (.cells #[.int .i64 0,.slice pa q.length pc,.int .i64 0,.int .i64 0,.string ⟨#[]⟩] 69 (0,0)):=by rw [hw6];exact heap_alloc_new w5 _
          have h56:Pr w5 w6:=by rw [hw6];exact Pr.alloc _ _
          have hlt6:w.heap.size < w5.heap.size:=by have:=hp5W.size;have:=HsW.out;omega
          have c0:=h56.cell (hp5.cell c0);have c1:=h56.cell (hp5.cell c1)
          have hpi:=Flat.pr h56 (hpi.mono (S':=fun k=>w.heap.size+1≤k∧k < w5.heap.size) (fun k h hl=>⟨by have:=Hp1.out.size;have:=HsW.out;have:w1.heap.size≤k:=h;omega,hl⟩))
          have hp:=hp5W.trans h56
          have hgW:g < w5.heap.size:=Nat.lt_of_lt_of_le hgW hp5.size
          clear hw6
          have c2:=h56.cell (hp5.cell c2)
          have e0:=blk_cell (o:=0) hB;have e1:=blk_cell (o:=1) hB;have e2:=blk_cell (o:=2) hB;have e3:=blk_cell (o:=3) hB;have e4:=blk_cell (o:=4) hB;have f0:w6.frozen? ⟨w5.heap.size,0,none⟩=false:=blk_frozen hB;have f1:w6.frozen? ⟨w5.heap.size,1,none⟩=false:=blk_frozen hB;have f2:w6.frozen? ⟨w5.heap.size,2,none⟩=false:=blk_frozen hB;have f3:w6.frozen? ⟨w5.heap.size,3,none⟩=false:=blk_frozen hB;have f4:w6.frozen? ⟨w5.heap.size,4,none⟩=false:=blk_frozen hB;simp only [List.getElem?_toArray,List.getElem?_cons_zero,List.getElem?_cons_succ] at e0 e1 e2 e3 e4
          go_upto_region 8 with fail
          go_region
          obtain ⟨w7,hw7⟩:∃ w7,w7=((w6.setCell ⟨w5.heap.size,0,none⟩ (.int .i64 1)).setCell ⟨w5.heap.size,4,none⟩ (.string x2)).drew:=⟨_,rfl⟩
          rw [← hw7]
          have hge:W.heap.size≤w5.heap.size:=hp5W.size
          have hnS:¬ (fun k=>w.heap.size+1≤k∧k < w5.heap.size) w5.heap.size:=fun h=>Nat.lt_irrefl _ h.2
          have hB:w7.heap[w5.heap.size]? = some (.cells #[.int .i64 1,.slice pa q.length pc,.int .i64 0,.int .i64 0,.string x2] 69 (0,0)):=by rw [hw7];show (((w6.setCell ⟨w5.heap.size,0,none⟩ (.int .i64 1)).setCell ⟨w5.heap.size,4,none⟩ (.string x2))).heap[w5.heap.size]? = _;have:=(blk_set (o:=4) (blk_set (o:=0) hB (.int .i64 1)) (.string x2));simpa using this
          have hp:Pr W w7:=by rw [hw7];exact (((hp.setCell hge (.int .i64 1)).setCell hge (.string x2)).drew')
          have hpi:Ints (fun k=>w.heap.size+1≤k∧k < w5.heap.size) w7 q pa pc:=by rw [hw7];exact (Flat.pr (Pr.drew _) (Flat.kept (kept_setCell _ _ _ _ hnS) (Flat.kept (kept_setCell _ _ _ _ hnS) hpi)))
          clear hw7 e0 e1 e2 e3 e4 f0 f1 f2 f3 f4
          have e0:=blk_cell (o:=0) hB;have e1:=blk_cell (o:=1) hB;have e2:=blk_cell (o:=2) hB;have e3:=blk_cell (o:=3) hB;have e4:=blk_cell (o:=4) hB
          simp only [List.getElem?_toArray,List.getElem?_cons_zero,List.getElem?_cons_succ] at e0 e1 e2 e3 e4
          have K:=dcheck_any 1 q 0 0 x2 pa pc w7 (by unfold maxLen;have:=Hs2.out;omega) (Flat.any hpi)
          obtain ⟨c,hc⟩:∃ c,c=dfault ⟨1,q,0,0,x2⟩:=⟨_,rfl⟩
          rw [← hc] at K
          have K:=Lib.hid K;have Hc:=Lib.hid hc
          clear hc
          by_cases hc0:c=0
          · obtain rfl:=hc0
            go_wp2_with (go_at_call 76;(with_reducible refine Calls.mono K.out ?_);rintro e w8 ⟨rfl,hp8⟩;have e0:=hp8.cell e0;have e1:=hp8.cell e1;have e2:=hp8.cell e2;have e3:=hp8.cell e3;have e4:=hp8.cell e4;have hp:=hp.trans hp8;have hbk:=hp.blk HbW.out;have z0:=blk_cell (o:=0) hbk;have z1:=blk_cell (o:=1) hbk;have z2:=blk_cell (o:=2) hbk;have z3:=blk_cell (o:=3) hbk;have z4:=blk_cell (o:=4) hbk;have y0:w8.frozen? ⟨w.heap.size,0,none⟩=false:=blk_frozen hbk;have y1:w8.frozen? ⟨w.heap.size,1,none⟩=false:=blk_frozen hbk;have y2:w8.frozen? ⟨w.heap.size,2,none⟩=false:=blk_frozen hbk;have y3:w8.frozen? ⟨w.heap.size,3,none⟩=false:=blk_frozen hbk;have y4:w8.frozen? ⟨w.heap.size,4,none⟩=false:=blk_frozen hbk;simp only [deeZ,List.getElem?_toArray,List.getElem?_cons_zero,List.getElem?_cons_succ] at z0 z1 z2 z3 z4)
            have hq5:=set5P (.int .i64 1) (.slice pa q.length pc) (.int .i64 0) (.int .i64 0) (.string x2) hbk
            have q0:=blk_cell (o:=0) hq5;have q1:=blk_cell (o:=1) hq5;have q2:=blk_cell (o:=2) hq5;have q3:=blk_cell (o:=3) hq5;have q4:=blk_cell (o:=4) hq5
            simp only [List.getElem?_toArray,List.getElem?_cons_zero,List.getElem?_cons_succ] at q0 q1 q2 q3 q4
            refine bodyPost_ret (v:=.tuple #[.agg #[.int .i64 1,.slice pa q.length pc,.int .i64 0,.int .i64 0,.string x2],.int .i64 0]) (by simp [results,Tryz.results55,go_sem,q0,q1,q2,q3,q4]) rfl ?_
            rw [Hz.out,chk_ok (d:=⟨1,q,0,0,x2⟩) Hc.out.symm];exact ⟨pa,pc,rfl,(ints5 (Flat.pr hp8 hpi) (fun h=>by have:=h.1;omega) _ _ _ _ _).mono (fun k h _=>by have:=h.1;show w.heap.size≤k;omega),by show (x2:ByteArray).size≤_;have:=Hs2.out;omega,pr5 (HwW.out.trans hp) (Nat.le_refl _) _ _ _ _ _⟩
          · have n0:((c:Int) != 0)=true:=by simp [bne_iff_ne];omega
            have n1:(c != 0)=true:=by simp [bne_iff_ne];omega
            have hbad:=chk_bad (d:=⟨1,q,0,0,x2⟩) (by rw [← Hc.out];exact hc0)
            rw [← Hc.out] at hbad
            have Hbad:=Lib.hid hbad
            clear hbad hc0
            go_wp2_with (go_at_call 76;(with_reducible refine Calls.mono K.out ?_);rintro e w8 ⟨rfl,hp8⟩;have e0:=hp8.cell e0;have hp:=hp.trans hp8;have hbk:=hp.blk HbW.out;have z0:=blk_cell (o:=0) hbk;have z1:=blk_cell (o:=1) hbk;have z2:=blk_cell (o:=2) hbk;have z3:=blk_cell (o:=3) hbk;have z4:=blk_cell (o:=4) hbk;have y0:w8.frozen? ⟨w.heap.size,0,none⟩=false:=blk_frozen hbk;have y1:w8.frozen? ⟨w.heap.size,1,none⟩=false:=blk_frozen hbk;have y2:w8.frozen? ⟨w.heap.size,2,none⟩=false:=blk_frozen hbk;have y3:w8.frozen? ⟨w.heap.size,3,none⟩=false:=blk_frozen hbk;have y4:w8.frozen? ⟨w.heap.size,4,none⟩=false:=blk_frozen hbk;simp only [deeZ,List.getElem?_toArray,List.getElem?_cons_zero,List.getElem?_cons_succ] at z0 z1 z2 z3 z4)
            have hq5:=set5P (.int .i64 0) (.slice none 0 0) (.int .i64 0) (.int .i64 0) (.string ⟨#[]⟩) hbk
            have q0:=blk_cell (o:=0) hq5;have q1:=blk_cell (o:=1) hq5;have q2:=blk_cell (o:=2) hq5;have q3:=blk_cell (o:=3) hq5;have q4:=blk_cell (o:=4) hq5
            simp only [List.getElem?_toArray,List.getElem?_cons_zero,List.getElem?_cons_succ] at q0 q1 q2 q3 q4
            refine bodyPost_ret (v:=.tuple #[.agg #[.int .i64 0,.slice none 0 0,.int .i64 0,.int .i64 0,.string ⟨#[]⟩],.int .i64 (c:Int)]) (by simp [results,Tryz.results55,go_sem,q0,q1,q2,q3,q4]) rfl ?_
            rw [Hz.out,Hbad.out];exact ⟨none,0,rfl,Flat.nil _ _ _ _ (Nat.zero_le _),(by show (⟨#[]⟩:ByteArray).size≤1000000;decide),pr5 (HwW.out.trans hp) (Nat.le_refl _) _ _ _ _ _⟩
        · have l3:((ps.length:Int)==3)=false:=by simp;omega
          have l3':(ps.length==3)=false:=by simp;omega
          have hz:=deedW_no h1n (fun e=>h3 e.2) (fun e=>by have:=e.1;rw [hN] at this;cases this) (fun e=>by have:=e.1;rw [hN] at this;cases this)
          rw [← hr] at hz
          have Hz:=Lib.hid hz
          clear hz hr h3
          go_upto_region 7 with (go_at_call 81;(with_reducible refine Calls.mono (PA.out _ hp) ?_);rintro e w5 ⟨pa,pc,rfl,hpi,hp5⟩)
          have hp5W:=hp.trans hp5
          obtain ⟨w6,hw6⟩:∃ w6,w6=w5.alloc (.cells #[.int .i64 0,.slice pa q.length pc,.int .i64 0,.int .i64 0,.string ⟨#[]⟩] 69):=⟨_,rfl⟩
          rw [← hw6]
          have hB:w6.heap[w5.heap.size]? = some (.cells #[.int .i64 0,.slice pa q.length pc,.int .i64 0,.int .i64 0,.string ⟨#[]⟩] 69 (0,0)):=by rw [hw6];exact heap_alloc_new w5 _
          have h56:Pr w5 w6:=by rw [hw6];exact Pr.alloc _ _
          have hlt6:w.heap.size < w5.heap.size:=by have:=hp5W.size;have:=HsW.out;omega
          have c0:=h56.cell (hp5.cell c0);have c1:=h56.cell (hp5.cell c1)
          have hpi:=Flat.pr h56 (hpi.mono (S':=fun k=>w.heap.size+1≤k∧k < w5.heap.size) (fun k h hl=>⟨by have:=Hp1.out.size;have:=HsW.out;have:w1.heap.size≤k:=h;omega,hl⟩))
          have hp:=hp5W.trans h56
          have hgW:g < w5.heap.size:=Nat.lt_of_lt_of_le hgW hp5.size
          clear hw6
          have hbk:=hp.blk HbW.out;have z0:=blk_cell (o:=0) hbk;have z1:=blk_cell (o:=1) hbk;have z2:=blk_cell (o:=2) hbk;have z3:=blk_cell (o:=3) hbk;have z4:=blk_cell (o:=4) hbk;have y0:w6.frozen? ⟨w.heap.size,0,none⟩=false:=blk_frozen hbk;have y1:w6.frozen? ⟨w.heap.size,1,none⟩=false:=blk_frozen hbk;have y2:w6.frozen? ⟨w.heap.size,2,none⟩=false:=blk_frozen hbk;have y3:w6.frozen? ⟨w.heap.size,3,none⟩=false:=blk_frozen hbk;have y4:w6.frozen? ⟨w.heap.size,4,none⟩=false:=blk_frozen hbk;simp only [deeZ,List.getElem?_toArray,List.getElem?_cons_zero,List.getElem?_cons_succ] at z0 z1 z2 z3 z4
          go_wp2_with fail
          have hq5:=set5P (.int .i64 0) (.slice none 0 0) (.int .i64 0) (.int .i64 0) (.string ⟨#[]⟩) hbk
          have q0:=blk_cell (o:=0) hq5;have q1:=blk_cell (o:=1) hq5;have q2:=blk_cell (o:=2) hq5;have q3:=blk_cell (o:=3) hq5;have q4:=blk_cell (o:=4) hq5
          simp only [List.getElem?_toArray,List.getElem?_cons_zero,List.getElem?_cons_succ] at q0 q1 q2 q3 q4
          refine bodyPost_ret (v:=.tuple #[.agg #[.int .i64 0,.slice none 0 0,.int .i64 0,.int .i64 0,.string ⟨#[]⟩],.int .i64 6]) (by simp [results,Tryz.results55,go_sem,q0,q1,q2,q3,q4]) rfl ?_
          rw [Hz.out];exact ⟨none,0,rfl,Flat.nil _ _ _ _ (Nat.zero_le _),(by show (⟨#[]⟩:ByteArray).size≤1000000;decide),pr5 (HwW.out.trans hp) (Nat.le_refl _) _ _ _ _ _⟩
      · have bN:(x0.toList==[110,97,109,101])=false:=by rw [Hl0.out,Bool.eq_false_iff];intro e;exact hN (by simpa [wName] using e)
        by_cases hD:ps[0]=wDelete
        · have bD:(x0.toList==[100,101,108,101,116,101])=true:=by rw [Hl0.out,hD];rfl
          have bD':x0.toList=[100,101,108,101,116,101]:=by rw [Hl0.out,hD];rfl
          clear bN
          by_cases h3:ps.length=2
          · have hz:=deedW_delete h3 hD Hop.out.symm
            rw [← hr] at hz
            have Hz:=Lib.hid hz
            clear hz hr
            have l3:((ps.length:Int)==2)=true:=by simp;omega
            have l3':(ps.length==2)=true:=by simp;omega
            clear h3
            go_upto_region 7 with (go_at_call 81;(with_reducible refine Calls.mono (PA.out _ hp) ?_);rintro e w5 ⟨pa,pc,rfl,hpi,hp5⟩)
            have hp5W:=hp.trans hp5
            obtain ⟨w6,hw6⟩:∃ w6,w6=w5.alloc (.cells #[.int .i64 0,.slice pa q.length pc,.int .i64 0,.int .i64 0,.string ⟨#[]⟩] 69):=⟨_,rfl⟩
            rw [← hw6]
            have hB:w6.heap[w5.heap.size]? = some (.cells #[.int .i64 0,.slice pa q.length pc,.int .i64 0,.int .i64 0,.string ⟨#[]⟩] 69 (0,0)):=by rw [hw6];exact heap_alloc_new w5 _
            have h56:Pr w5 w6:=by rw [hw6];exact Pr.alloc _ _
            have hlt6:w.heap.size < w5.heap.size:=by have:=hp5W.size;have:=HsW.out;omega
            have c0:=h56.cell (hp5.cell c0);have c1:=h56.cell (hp5.cell c1)
            have hpi:=Flat.pr h56 (hpi.mono (S':=fun k=>w.heap.size+1≤k∧k < w5.heap.size) (fun k h hl=>⟨by have:=Hp1.out.size;have:=HsW.out;have:w1.heap.size≤k:=h;omega,hl⟩))
            have hp:=hp5W.trans h56
            have hgW:g < w5.heap.size:=Nat.lt_of_lt_of_le hgW hp5.size
            clear hw6
            have e0:=blk_cell (o:=0) hB;have e1:=blk_cell (o:=1) hB;have e2:=blk_cell (o:=2) hB;have e3:=blk_cell (o:=3) hB;have e4:=blk_cell (o:=4) hB;have f0:w6.frozen? ⟨w5.heap.size,0,none⟩=false:=blk_frozen hB;have f1:w6.frozen? ⟨w5.heap.size,1,none⟩=false:=blk_frozen hB;have f2:w6.frozen? ⟨w5.heap.size,2,none⟩=false:=blk_frozen hB;have f3:w6.frozen? ⟨w5.heap.size,3,none⟩=false:=blk_frozen hB;have f4:w6.frozen? ⟨w5.heap.size,4,none⟩=false:=blk_frozen hB;simp only [List.getElem?_toArray,List.getElem?_cons_zero,List.getElem?_cons_succ] at e0 e1 e2 e3 e4
            go_upto_region 17 with fail
            obtain ⟨w7,hw7⟩:∃ w7,w7=w6.setCell ⟨w5.heap.size,0,none⟩ (.int .i64 2):=⟨_,rfl⟩
            rw [← hw7]
            have hge:W.heap.size≤w5.heap.size:=hp5W.size
            have hnS:¬ (fun k=>w.heap.size+1≤k∧k < w5.heap.size) w5.heap.size:=fun h=>Nat.lt_irrefl _ h.2
            have hB:w7.heap[w5.heap.size]? = some (.cells #[.int .i64 2,.slice pa q.length pc,.int .i64 0,.int .i64 0,.string ⟨#[]⟩] 69 (0,0)):=by rw [hw7];show ((w6.setCell ⟨w5.heap.size,0,none⟩ (.int .i64 2))).heap[w5.heap.size]? = _;have:=(blk_set (o:=0) hB (.int .i64 2));simpa using this
            have hp:Pr W w7:=by rw [hw7];exact (hp.setCell hge (.int .i64 2))
            have hpi:Ints (fun k=>w.heap.size+1≤k∧k < w5.heap.size) w7 q pa pc:=by rw [hw7];exact (Flat.kept (kept_setCell _ _ _ _ hnS) hpi)
            clear hw7 e0 e1 e2 e3 e4 f0 f1 f2 f3 f4
            have e0:=blk_cell (o:=0) hB;have e1:=blk_cell (o:=1) hB;have e2:=blk_cell (o:=2) hB;have e3:=blk_cell (o:=3) hB;have e4:=blk_cell (o:=4) hB
            simp only [List.getElem?_toArray,List.getElem?_cons_zero,List.getElem?_cons_succ] at e0 e1 e2 e3 e4
            have K:=dcheck_any 2 q 0 0 ⟨#[]⟩ pa pc w7 (by unfold maxLen;show (⟨#[]⟩:ByteArray).size≤_;decide) (Flat.any hpi)
            obtain ⟨c,hc⟩:∃ c,c=dfault ⟨2,q,0,0,⟨#[]⟩⟩:=⟨_,rfl⟩
            rw [← hc] at K
            have K:=Lib.hid K;have Hc:=Lib.hid hc
            clear hc
            by_cases hc0:c=0
            · obtain rfl:=hc0
              go_wp2_with (go_at_call 76;(with_reducible refine Calls.mono K.out ?_);rintro e w8 ⟨rfl,hp8⟩;have e0:=hp8.cell e0;have e1:=hp8.cell e1;have e2:=hp8.cell e2;have e3:=hp8.cell e3;have e4:=hp8.cell e4;have hp:=hp.trans hp8;have hbk:=hp.blk HbW.out;have z0:=blk_cell (o:=0) hbk;have z1:=blk_cell (o:=1) hbk;have z2:=blk_cell (o:=2) hbk;have z3:=blk_cell (o:=3) hbk;have z4:=blk_cell (o:=4) hbk;have y0:w8.frozen? ⟨w.heap.size,0,none⟩=false:=blk_frozen hbk;have y1:w8.frozen? ⟨w.heap.size,1,none⟩=false:=blk_frozen hbk;have y2:w8.frozen? ⟨w.heap.size,2,none⟩=false:=blk_frozen hbk;have y3:w8.frozen? ⟨w.heap.size,3,none⟩=false:=blk_frozen hbk;have y4:w8.frozen? ⟨w.heap.size,4,none⟩=false:=blk_frozen hbk;simp only [deeZ,List.getElem?_toArray,List.getElem?_cons_zero,List.getElem?_cons_succ] at z0 z1 z2 z3 z4)
              have hq5:=set5P (.int .i64 2) (.slice pa q.length pc) (.int .i64 0) (.int .i64 0) (.string ⟨#[]⟩) hbk
              have q0:=blk_cell (o:=0) hq5;have q1:=blk_cell (o:=1) hq5;have q2:=blk_cell (o:=2) hq5;have q3:=blk_cell (o:=3) hq5;have q4:=blk_cell (o:=4) hq5
              simp only [List.getElem?_toArray,List.getElem?_cons_zero,List.getElem?_cons_succ] at q0 q1 q2 q3 q4
              refine bodyPost_ret (v:=.tuple #[.agg #[.int .i64 2,.slice pa q.length pc,.int .i64 0,.int .i64 0,.string ⟨#[]⟩],.int .i64 0]) (by simp [results,Tryz.results55,go_sem,q0,q1,q2,q3,q4]) rfl ?_
              rw [Hz.out,chk_ok (d:=⟨2,q,0,0,⟨#[]⟩⟩) Hc.out.symm];exact ⟨pa,pc,rfl,(ints5 (Flat.pr hp8 hpi) (fun h=>by have:=h.1;omega) _ _ _ _ _).mono (fun k h _=>by have:=h.1;show w.heap.size≤k;omega),by show (⟨#[]⟩:ByteArray).size≤_;show (⟨#[]⟩:ByteArray).size≤_;decide,pr5 (HwW.out.trans hp) (Nat.le_refl _) _ _ _ _ _⟩
            · have n0:((c:Int) != 0)=true:=by simp [bne_iff_ne];omega
              have n1:(c != 0)=true:=by simp [bne_iff_ne];omega
              have hbad:=chk_bad (d:=⟨2,q,0,0,⟨#[]⟩⟩) (by rw [← Hc.out];exact hc0)
              rw [← Hc.out] at hbad
              have Hbad:=Lib.hid hbad
              clear hbad hc0
              go_wp2_with (go_at_call 76;(with_reducible refine Calls.mono K.out ?_);rintro e w8 ⟨rfl,hp8⟩;have e0:=hp8.cell e0;have hp:=hp.trans hp8;have hbk:=hp.blk HbW.out;have z0:=blk_cell (o:=0) hbk;have z1:=blk_cell (o:=1) hbk;have z2:=blk_cell (o:=2) hbk;have z3:=blk_cell (o:=3) hbk;have z4:=blk_cell (o:=4) hbk;have y0:w8.frozen? ⟨w.heap.size,0,none⟩=false:=blk_frozen hbk;have y1:w8.frozen? ⟨w.heap.size,1,none⟩=false:=blk_frozen hbk;have y2:w8.frozen? ⟨w.heap.size,2,none⟩=false:=blk_frozen hbk;have y3:w8.frozen? ⟨w.heap.size,3,none⟩=false:=blk_frozen hbk;have y4:w8.frozen? ⟨w.heap.size,4,none⟩=false:=blk_frozen hbk;simp only [deeZ,List.getElem?_toArray,List.getElem?_cons_zero,List.getElem?_cons_succ] at z0 z1 z2 z3 z4)
              have hq5:=set5P (.int .i64 0) (.slice none 0 0) (.int .i64 0) (.int .i64 0) (.string ⟨#[]⟩) hbk
              have q0:=blk_cell (o:=0) hq5;have q1:=blk_cell (o:=1) hq5;have q2:=blk_cell (o:=2) hq5;have q3:=blk_cell (o:=3) hq5;have q4:=blk_cell (o:=4) hq5
              simp only [List.getElem?_toArray,List.getElem?_cons_zero,List.getElem?_cons_succ] at q0 q1 q2 q3 q4
              refine bodyPost_ret (v:=.tuple #[.agg #[.int .i64 0,.slice none 0 0,.int .i64 0,.int .i64 0,.string ⟨#[]⟩],.int .i64 (c:Int)]) (by simp [results,Tryz.results55,go_sem,q0,q1,q2,q3,q4]) rfl ?_
              rw [Hz.out,Hbad.out];exact ⟨none,0,rfl,Flat.nil _ _ _ _ (Nat.zero_le _),(by show (⟨#[]⟩:ByteArray).size≤1000000;decide),pr5 (HwW.out.trans hp) (Nat.le_refl _) _ _ _ _ _⟩
          · have l3:((ps.length:Int)==2)=false:=by simp;omega
            have l3':(ps.length==2)=false:=by simp;omega
            have hz:=deedW_no h1n (fun e=>by have:=e.1;rw [hD] at this;cases this) (fun e=>h3 e.2) (fun e=>by have:=e.1;rw [hD] at this;cases this)
            rw [← hr] at hz
            have Hz:=Lib.hid hz
            clear hz hr h3
            go_upto_region 7 with (go_at_call 81;(with_reducible refine Calls.mono (PA.out _ hp) ?_);rintro e w5 ⟨pa,pc,rfl,hpi,hp5⟩)
            have hp5W:=hp.trans hp5
            obtain ⟨w6,hw6⟩:∃ w6,w6=w5.alloc (.cells #[.int .i64 0,.slice pa q.length pc,.int .i64 0,.int .i64 0,.string ⟨#[]⟩] 69):=⟨_,rfl⟩
            rw [← hw6]
            have hB:w6.heap[w5.heap.size]? = some (.cells #[.int .i64 0,.slice pa q.length pc,.int .i64 0,.int .i64 0,.string ⟨#[]⟩] 69 (0,0)):=by rw [hw6];exact heap_alloc_new w5 _
            have h56:Pr w5 w6:=by rw [hw6];exact Pr.alloc _ _
            have hlt6:w.heap.size < w5.heap.size:=by have:=hp5W.size;have:=HsW.out;omega
            have c0:=h56.cell (hp5.cell c0);have c1:=h56.cell (hp5.cell c1)
            have hpi:=Flat.pr h56 (hpi.mono (S':=fun k=>w.heap.size+1≤k∧k < w5.heap.size) (fun k h hl=>⟨by have:=Hp1.out.size;have:=HsW.out;have:w1.heap.size≤k:=h;omega,hl⟩))
            have hp:=hp5W.trans h56
            have hgW:g < w5.heap.size:=Nat.lt_of_lt_of_le hgW hp5.size
            clear hw6
            have hbk:=hp.blk HbW.out;have z0:=blk_cell (o:=0) hbk;have z1:=blk_cell (o:=1) hbk;have z2:=blk_cell (o:=2) hbk;have z3:=blk_cell (o:=3) hbk;have z4:=blk_cell (o:=4) hbk;have y0:w6.frozen? ⟨w.heap.size,0,none⟩=false:=blk_frozen hbk;have y1:w6.frozen? ⟨w.heap.size,1,none⟩=false:=blk_frozen hbk;have y2:w6.frozen? ⟨w.heap.size,2,none⟩=false:=blk_frozen hbk;have y3:w6.frozen? ⟨w.heap.size,3,none⟩=false:=blk_frozen hbk;have y4:w6.frozen? ⟨w.heap.size,4,none⟩=false:=blk_frozen hbk;simp only [deeZ,List.getElem?_toArray,List.getElem?_cons_zero,List.getElem?_cons_succ] at z0 z1 z2 z3 z4
            go_wp2_with fail
            have hq5:=set5P (.int .i64 0) (.slice none 0 0) (.int .i64 0) (.int .i64 0) (.string ⟨#[]⟩) hbk
            have q0:=blk_cell (o:=0) hq5;have q1:=blk_cell (o:=1) hq5;have q2:=blk_cell (o:=2) hq5;have q3:=blk_cell (o:=3) hq5;have q4:=blk_cell (o:=4) hq5
            simp only [List.getElem?_toArray,List.getElem?_cons_zero,List.getElem?_cons_succ] at q0 q1 q2 q3 q4
            refine bodyPost_ret (v:=.tuple #[.agg #[.int .i64 0,.slice none 0 0,.int .i64 0,.int .i64 0,.string ⟨#[]⟩],.int .i64 6]) (by simp [results,Tryz.results55,go_sem,q0,q1,q2,q3,q4]) rfl ?_
            rw [Hz.out];exact ⟨none,0,rfl,Flat.nil _ _ _ _ (Nat.zero_le _),(by show (⟨#[]⟩:ByteArray).size≤1000000;decide),pr5 (HwW.out.trans hp) (Nat.le_refl _) _ _ _ _ _⟩
        · have bD:(x0.toList==[100,101,108,101,116,101])=false:=by rw [Hl0.out,Bool.eq_false_iff];intro e;exact hD (by simpa [wDelete] using e)
          by_cases hI:ps[0]=wInsert
          · have bI:(x0.toList==[105,110,115,101,114,116])=true:=by rw [Hl0.out,hI];rfl
            have bI':x0.toList=[105,110,115,101,114,116]:=by rw [Hl0.out,hI];rfl
            clear bN bD
            by_cases h3:ps.length=5
            · have i2:2 < ps.length:=by omega
              have i3:3 < ps.length:=by omega
              have i4:4 < ps.length:=by omega
              have hz:=deedW_insert h3 hI Hop.out.symm
              obtain ⟨x2,hx2⟩:∃ x:ByteArray,x=⟨⟨ps[2]⟩⟩:=⟨_,rfl⟩
              obtain ⟨x3,hx3⟩:∃ x:ByteArray,x=⟨⟨ps[3]⟩⟩:=⟨_,rfl⟩
              obtain ⟨x4,hx4⟩:∃ x:ByteArray,x=⟨⟨ps[4]⟩⟩:=⟨_,rfl⟩
              obtain ⟨o2,ho2⟩:∃ x,x=fewN ps[2]:=⟨_,rfl⟩
              obtain ⟨o3,ho3⟩:∃ x,x=fewN ps[3]:=⟨_,rfl⟩
              rw [← hr,← hx4,← ho2,← ho3] at hz
              have hs2:x2.size≤1000000∧x3.size≤1000000∧x4.size≤1000000:=by
                have h1:=Hcl.out ps[2] (List.getElem_mem _)
                have h3:=Hcl.out ps[3] (List.getElem_mem _)
                have h4:=Hcl.out ps[4] (List.getElem_mem _)
                rw [sizeL] at h1 h3 h4
                have g2:x2.size=ps[2].length:=by rw [hx2];rfl
                have g3:x3.size=ps[3].length:=by rw [hx3];rfl
                have g4:x4.size=ps[4].length:=by rw [hx4];rfl
                omega
              have F2:∀ W',Pr W W'→Calls Tryz.prog 82 #[.string x2] W' fun e w'=>∃ v:Int,e=.returned (.tuple #[.int .i64 v,.bool o2.isSome])∧(∀ n,o2=some n→v=(n:Int))∧Pr W' w':=fun W' h=>by
                rw [ho2,← show x2.data.toList=ps[2] by rw [hx2]];exact small_any x2 hs2.1 W' (HW.out.pr h)
              have F3:∀ W',Pr W W'→Calls Tryz.prog 82 #[.string x3] W' fun e w'=>∃ v:Int,e=.returned (.tuple #[.int .i64 v,.bool o3.isSome])∧(∀ n,o3=some n→v=(n:Int))∧Pr W' w':=fun W' h=>by
                rw [ho3,← show x3.data.toList=ps[3] by rw [hx3]];exact small_any x3 hs2.2.1 W' (HW.out.pr h)
              have F2:=Lib.hid F2;have F3:=Lib.hid F3
              have Hs2:=Lib.hid hs2;have Hz0:=Lib.hid hz;have Hx2:=Lib.hid hx2;have Hx3:=Lib.hid hx3;have Hx4:=Lib.hid hx4
              have l3:((ps.length:Int)==5)=true:=by simp;omega
              have l3':(ps.length==5)=true:=by simp;omega
              have g2:(2:Int) < ps.length:=by omega
              have g3:(3:Int) < ps.length:=by omega
              have g4:(4:Int) < ps.length:=by omega
              have c2:=Hcell.out 2 i2;have c3:=Hcell.out 3 i3;have c4:=Hcell.out 4 i4
              rw [← hx2] at c2
              rw [← hx3] at c3
              rw [← hx4] at c4
              clear hx2 hx3 hx4 ho2 ho3 hz hr h3 hs2
              go_upto_region 7 with (go_at_call 81;(with_reducible refine Calls.mono (PA.out _ hp) ?_);rintro e w5 ⟨pa,pc,rfl,hpi,hp5⟩)
              have hp5W:=hp.trans hp5
              obtain ⟨w6,hw6⟩:∃ w6,w6=w5.alloc (.cells #[.int .i64 0,.slice pa q.length pc,.int .i64 0,.int .i64 0,.string ⟨#[]⟩] 69):=⟨_,rfl⟩
              rw [← hw6]
              have hB:w6.heap[w5.heap.size]? = some (.cells #[.int .i64 0,.slice pa q.length pc,.int .i64 0,.int .i64 0,.string ⟨#[]⟩] 69 (0,0)):=by rw [hw6];exact heap_alloc_new w5 _
              have h56:Pr w5 w6:=by rw [hw6];exact Pr.alloc _ _
              have hlt6:w.heap.size < w5.heap.size:=by have:=hp5W.size;have:=HsW.out;omega
              have c0:=h56.cell (hp5.cell c0);have c1:=h56.cell (hp5.cell c1)
              have hpi:=Flat.pr h56 (hpi.mono (S':=fun k=>w.heap.size+1≤k∧k < w5.heap.size) (fun k h hl=>⟨by have:=Hp1.out.size;have:=HsW.out;have:w1.heap.size≤k:=h;omega,hl⟩))
              have hp:=hp5W.trans h56
              have hgW:g < w5.heap.size:=Nat.lt_of_lt_of_le hgW hp5.size
              clear hw6
              have c2:=h56.cell (hp5.cell c2);have c3:=h56.cell (hp5.cell c3);have c4:=h56.cell (hp5.cell c4)
              go_upto_region 13 with (go_at_call 82;(with_reducible refine Calls.mono (F2.out _ hp) ?_);rintro e wa ⟨va,rfl,hva,hpa⟩)
              have c3:=hpa.cell c3;have c4:=hpa.cell c4;have hpA:=hp.trans hpa
              go_upto_region 14 with (go_at_call 82;(with_reducible refine Calls.mono (F3.out _ hpA) ?_);rintro e wb ⟨vb,rfl,hvb,hpb⟩)
              have c4:=hpb.cell c4
              have hB:=(hpa.trans hpb).blk hB
              have hpi:=Flat.pr (hpa.trans hpb) hpi
              have hp:=hpA.trans hpb
              cases o2 with
              | none =>
                have Hz:=Lib.hid (show r=(Dee.zero,6) from Hz0.out)
                have hbk:=hp.blk HbW.out;have z0:=blk_cell (o:=0) hbk;have z1:=blk_cell (o:=1) hbk;have z2:=blk_cell (o:=2) hbk;have z3:=blk_cell (o:=3) hbk;have z4:=blk_cell (o:=4) hbk;have y0:wb.frozen? ⟨w.heap.size,0,none⟩=false:=blk_frozen hbk;have y1:wb.frozen? ⟨w.heap.size,1,none⟩=false:=blk_frozen hbk;have y2:wb.frozen? ⟨w.heap.size,2,none⟩=false:=blk_frozen hbk;have y3:wb.frozen? ⟨w.heap.size,3,none⟩=false:=blk_frozen hbk;have y4:wb.frozen? ⟨w.heap.size,4,none⟩=false:=blk_frozen hbk;simp only [deeZ,List.getElem?_toArray,List.getElem?_cons_zero,List.getElem?_cons_succ] at z0 z1 z2 z3 z4
                go_wp2_with fail
                have hq5:=set5P (.int .i64 0) (.slice none 0 0) (.int .i64 0) (.int .i64 0) (.string ⟨#[]⟩) hbk
                have q0:=blk_cell (o:=0) hq5;have q1:=blk_cell (o:=1) hq5;have q2:=blk_cell (o:=2) hq5;have q3:=blk_cell (o:=3) hq5;have q4:=blk_cell (o:=4) hq5
                simp only [List.getElem?_toArray,List.getElem?_cons_zero,List.getElem?_cons_succ] at q0 q1 q2 q3 q4
                refine bodyPost_ret (v:=.tuple #[.agg #[.int .i64 0,.slice none 0 0,.int .i64 0,.int .i64 0,.string ⟨#[]⟩],.int .i64 6]) (by simp [results,Tryz.results55,go_sem,q0,q1,q2,q3,q4]) rfl ?_
                rw [Hz.out];exact ⟨none,0,rfl,Flat.nil _ _ _ _ (Nat.zero_le _),(by show (⟨#[]⟩:ByteArray).size≤1000000;decide),pr5 (HwW.out.trans hp) (Nat.le_refl _) _ _ _ _ _⟩
              | some na =>
                cases o3 with
                | none =>
                  have Hz:=Lib.hid (show r=(Dee.zero,6) from Hz0.out)
                  have hbk:=hp.blk HbW.out;have z0:=blk_cell (o:=0) hbk;have z1:=blk_cell (o:=1) hbk;have z2:=blk_cell (o:=2) hbk;have z3:=blk_cell (o:=3) hbk;have z4:=blk_cell (o:=4) hbk;have y0:wb.frozen? ⟨w.heap.size,0,none⟩=false:=blk_frozen hbk;have y1:wb.frozen? ⟨w.heap.size,1,none⟩=false:=blk_frozen hbk;have y2:wb.frozen? ⟨w.heap.size,2,none⟩=false:=blk_frozen hbk;have y3:wb.frozen? ⟨w.heap.size,3,none⟩=false:=blk_frozen hbk;have y4:wb.frozen? ⟨w.heap.size,4,none⟩=false:=blk_frozen hbk;simp only [deeZ,List.getElem?_toArray,List.getElem?_cons_zero,List.getElem?_cons_succ] at z0 z1 z2 z3 z4
                  go_wp2_with fail
                  have hq5:=set5P (.int .i64 0) (.slice none 0 0) (.int .i64 0) (.int .i64 0) (.string ⟨#[]⟩) hbk
                  have q0:=blk_cell (o:=0) hq5;have q1:=blk_cell (o:=1) hq5;have q2:=blk_cell (o:=2) hq5;have q3:=blk_cell (o:=3) hq5;have q4:=blk_cell (o:=4) hq5
                  simp only [List.getElem?_toArray,List.getElem?_cons_zero,List.getElem?_cons_succ] at q0 q1 q2 q3 q4
                  refine bodyPost_ret (v:=.tuple #[.agg #[.int .i64 0,.slice none 0 0,.int .i64 0,.int .i64 0,.string ⟨#[]⟩],.int .i64 6]) (by simp [results,Tryz.results55,go_sem,q0,q1,q2,q3,q4]) rfl ?_
                  rw [Hz.out];exact ⟨none,0,rfl,Flat.nil _ _ _ _ (Nat.zero_le _),(by show (⟨#[]⟩:ByteArray).size≤1000000;decide),pr5 (HwW.out.trans hp) (Nat.le_refl _) _ _ _ _ _⟩
                | some nb =>
                  obtain rfl:=hva na rfl
                  obtain rfl:=hvb nb rfl
                  have Hz:=Lib.hid (show r=chk ⟨3,q,(na:Int),(nb:Int),x4⟩ from Hz0.out)
                  have e0:=blk_cell (o:=0) hB;have e1:=blk_cell (o:=1) hB;have e2:=blk_cell (o:=2) hB;have e3:=blk_cell (o:=3) hB;have e4:=blk_cell (o:=4) hB;have f0:wb.frozen? ⟨w5.heap.size,0,none⟩=false:=blk_frozen hB;have f1:wb.frozen? ⟨w5.heap.size,1,none⟩=false:=blk_frozen hB;have f2:wb.frozen? ⟨w5.heap.size,2,none⟩=false:=blk_frozen hB;have f3:wb.frozen? ⟨w5.heap.size,3,none⟩=false:=blk_frozen hB;have f4:wb.frozen? ⟨w5.heap.size,4,none⟩=false:=blk_frozen hB;simp only [List.getElem?_toArray,List.getElem?_cons_zero,List.getElem?_cons_succ] at e0 e1 e2 e3 e4
                  go_upto_region 16 with fail
                  go_region
                  obtain ⟨w7,hw7⟩:∃ w7,w7=((((wb.setCell ⟨w5.heap.size,0,none⟩ (.int .i64 3)).setCell ⟨w5.heap.size,2,none⟩ (.int .i64 (na:Int))).setCell ⟨w5.heap.size,3,none⟩ (.int .i64 (nb:Int))).setCell ⟨w5.heap.size,4,none⟩ (.string x4)).drew:=⟨_,rfl⟩
                  rw [← hw7]
                  have hge:W.heap.size≤w5.heap.size:=hp5W.size
                  have hnS:¬ (fun k=>w.heap.size+1≤k∧k < w5.heap.size) w5.heap.size:=fun h=>Nat.lt_irrefl _ h.2
                  have hB:w7.heap[w5.heap.size]? = some (.cells #[.int .i64 3,.slice pa q.length pc,.int .i64 (na:Int),.int .i64 (nb:Int),.string x4] 69 (0,0)):=by rw [hw7];show (((((wb.setCell ⟨w5.heap.size,0,none⟩ (.int .i64 3)).setCell ⟨w5.heap.size,2,none⟩ (.int .i64 (na:Int))).setCell ⟨w5.heap.size,3,none⟩ (.int .i64 (nb:Int))).setCell ⟨w5.heap.size,4,none⟩ (.string x4))).heap[w5.heap.size]? = _;have:=(blk_set (o:=4) (blk_set (o:=3) (blk_set (o:=2) (blk_set (o:=0) hB (.int .i64 3)) (.int .i64 (na:Int))) (.int .i64 (nb:Int))) (.string x4));simpa using this
                  have hp:Pr W w7:=by rw [hw7];exact (((((hp.setCell hge (.int .i64 3)).setCell hge (.int .i64 (na:Int))).setCell hge (.int .i64 (nb:Int))).setCell hge (.string x4)).drew')
                  have hpi:Ints (fun k=>w.heap.size+1≤k∧k < w5.heap.size) w7 q pa pc:=by rw [hw7];exact (Flat.pr (Pr.drew _) (Flat.kept (kept_setCell _ _ _ _ hnS) (Flat.kept (kept_setCell _ _ _ _ hnS) (Flat.kept (kept_setCell _ _ _ _ hnS) (Flat.kept (kept_setCell _ _ _ _ hnS) hpi)))))
                  clear hw7 e0 e1 e2 e3 e4 f0 f1 f2 f3 f4
                  have e0:=blk_cell (o:=0) hB;have e1:=blk_cell (o:=1) hB;have e2:=blk_cell (o:=2) hB;have e3:=blk_cell (o:=3) hB;have e4:=blk_cell (o:=4) hB
                  simp only [List.getElem?_toArray,List.getElem?_cons_zero,List.getElem?_cons_succ] at e0 e1 e2 e3 e4
                  have K:=dcheck_any 3 q (na:Int) (nb:Int) x4 pa pc w7 (by unfold maxLen;have:=Hs2.out;omega) (Flat.any hpi)
                  obtain ⟨c,hc⟩:∃ c,c=dfault ⟨3,q,(na:Int),(nb:Int),x4⟩:=⟨_,rfl⟩
                  rw [← hc] at K
                  have K:=Lib.hid K;have Hc:=Lib.hid hc
                  clear hc
                  by_cases hc0:c=0
                  · obtain rfl:=hc0
                    go_wp2_with (go_at_call 76;(with_reducible refine Calls.mono K.out ?_);rintro e w8 ⟨rfl,hp8⟩;have e0:=hp8.cell e0;have e1:=hp8.cell e1;have e2:=hp8.cell e2;have e3:=hp8.cell e3;have e4:=hp8.cell e4;have hp:=hp.trans hp8;have hbk:=hp.blk HbW.out;have z0:=blk_cell (o:=0) hbk;have z1:=blk_cell (o:=1) hbk;have z2:=blk_cell (o:=2) hbk;have z3:=blk_cell (o:=3) hbk;have z4:=blk_cell (o:=4) hbk;have y0:w8.frozen? ⟨w.heap.size,0,none⟩=false:=blk_frozen hbk;have y1:w8.frozen? ⟨w.heap.size,1,none⟩=false:=blk_frozen hbk;have y2:w8.frozen? ⟨w.heap.size,2,none⟩=false:=blk_frozen hbk;have y3:w8.frozen? ⟨w.heap.size,3,none⟩=false:=blk_frozen hbk;have y4:w8.frozen? ⟨w.heap.size,4,none⟩=false:=blk_frozen hbk;simp only [deeZ,List.getElem?_toArray,List.getElem?_cons_zero,List.getElem?_cons_succ] at z0 z1 z2 z3 z4)
                    have hq5:=set5P (.int .i64 3) (.slice pa q.length pc) (.int .i64 (na:Int)) (.int .i64 (nb:Int)) (.string x4) hbk
                    have q0:=blk_cell (o:=0) hq5;have q1:=blk_cell (o:=1) hq5;have q2:=blk_cell (o:=2) hq5;have q3:=blk_cell (o:=3) hq5;have q4:=blk_cell (o:=4) hq5
                    simp only [List.getElem?_toArray,List.getElem?_cons_zero,List.getElem?_cons_succ] at q0 q1 q2 q3 q4
                    refine bodyPost_ret (v:=.tuple #[.agg #[.int .i64 3,.slice pa q.length pc,.int .i64 (na:Int),.int .i64 (nb:Int),.string x4],.int .i64 0]) (by simp [results,Tryz.results55,go_sem,q0,q1,q2,q3,q4]) rfl ?_
                    rw [Hz.out,chk_ok (d:=⟨3,q,(na:Int),(nb:Int),x4⟩) Hc.out.symm];exact ⟨pa,pc,rfl,(ints5 (Flat.pr hp8 hpi) (fun h=>by have:=h.1;omega) _ _ _ _ _).mono (fun k h _=>by have:=h.1;show w.heap.size≤k;omega),by show (x4:ByteArray).size≤_;have:=Hs2.out;omega,pr5 (HwW.out.trans hp) (Nat.le_refl _) _ _ _ _ _⟩
                  · have n0:((c:Int) != 0)=true:=by simp [bne_iff_ne];omega
                    have n1:(c != 0)=true:=by simp [bne_iff_ne];omega
                    have hbad:=chk_bad (d:=⟨3,q,(na:Int),(nb:Int),x4⟩) (by rw [← Hc.out];exact hc0)
                    rw [← Hc.out] at hbad
                    have Hbad:=Lib.hid hbad
                    clear hbad hc0
                    go_wp2_with (go_at_call 76;(with_reducible refine Calls.mono K.out ?_);rintro e w8 ⟨rfl,hp8⟩;have e0:=hp8.cell e0;have hp:=hp.trans hp8;have hbk:=hp.blk HbW.out;have z0:=blk_cell (o:=0) hbk;have z1:=blk_cell (o:=1) hbk;have z2:=blk_cell (o:=2) hbk;have z3:=blk_cell (o:=3) hbk;have z4:=blk_cell (o:=4) hbk;have y0:w8.frozen? ⟨w.heap.size,0,none⟩=false:=blk_frozen hbk;have y1:w8.frozen? ⟨w.heap.size,1,none⟩=false:=blk_frozen hbk;have y2:w8.frozen? ⟨w.heap.size,2,none⟩=false:=blk_frozen hbk;have y3:w8.frozen? ⟨w.heap.size,3,none⟩=false:=blk_frozen hbk;have y4:w8.frozen? ⟨w.heap.size,4,none⟩=false:=blk_frozen hbk;simp only [deeZ,List.getElem?_toArray,List.getElem?_cons_zero,List.getElem?_cons_succ] at z0 z1 z2 z3 z4)
                    have hq5:=set5P (.int .i64 0) (.slice none 0 0) (.int .i64 0) (.int .i64 0) (.string ⟨#[]⟩) hbk
                    have q0:=blk_cell (o:=0) hq5;have q1:=blk_cell (o:=1) hq5;have q2:=blk_cell (o:=2) hq5;have q3:=blk_cell (o:=3) hq5;have q4:=blk_cell (o:=4) hq5
                    simp only [List.getElem?_toArray,List.getElem?_cons_zero,List.getElem?_cons_succ] at q0 q1 q2 q3 q4
                    refine bodyPost_ret (v:=.tuple #[.agg #[.int .i64 0,.slice none 0 0,.int .i64 0,.int .i64 0,.string ⟨#[]⟩],.int .i64 (c:Int)]) (by simp [results,Tryz.results55,go_sem,q0,q1,q2,q3,q4]) rfl ?_
                    rw [Hz.out,Hbad.out];exact ⟨none,0,rfl,Flat.nil _ _ _ _ (Nat.zero_le _),(by show (⟨#[]⟩:ByteArray).size≤1000000;decide),pr5 (HwW.out.trans hp) (Nat.le_refl _) _ _ _ _ _⟩
            · have l3:((ps.length:Int)==5)=false:=by simp;omega
              have l3':(ps.length==5)=false:=by simp;omega
              have hz:=deedW_no h1n (fun e=>by have:=e.1;rw [hI] at this;cases this) (fun e=>by have:=e.1;rw [hI] at this;cases this) (fun e=>h3 e.2)
              rw [← hr] at hz
              have Hz:=Lib.hid hz
              clear hz hr h3
              go_upto_region 7 with (go_at_call 81;(with_reducible refine Calls.mono (PA.out _ hp) ?_);rintro e w5 ⟨pa,pc,rfl,hpi,hp5⟩)
              have hp5W:=hp.trans hp5
              obtain ⟨w6,hw6⟩:∃ w6,w6=w5.alloc (.cells #[.int .i64 0,.slice pa q.length pc,.int .i64 0,.int .i64 0,.string ⟨#[]⟩] 69):=⟨_,rfl⟩
              rw [← hw6]
              have hB:w6.heap[w5.heap.size]? = some (.cells #[.int .i64 0,.slice pa q.length pc,.int .i64 0,.int .i64 0,.string ⟨#[]⟩] 69 (0,0)):=by rw [hw6];exact heap_alloc_new w5 _
              have h56:Pr w5 w6:=by rw [hw6];exact Pr.alloc _ _
              have hlt6:w.heap.size < w5.heap.size:=by have:=hp5W.size;have:=HsW.out;omega
              have c0:=h56.cell (hp5.cell c0);have c1:=h56.cell (hp5.cell c1)
              have hpi:=Flat.pr h56 (hpi.mono (S':=fun k=>w.heap.size+1≤k∧k < w5.heap.size) (fun k h hl=>⟨by have:=Hp1.out.size;have:=HsW.out;have:w1.heap.size≤k:=h;omega,hl⟩))
              have hp:=hp5W.trans h56
              have hgW:g < w5.heap.size:=Nat.lt_of_lt_of_le hgW hp5.size
              clear hw6
              have hbk:=hp.blk HbW.out;have z0:=blk_cell (o:=0) hbk;have z1:=blk_cell (o:=1) hbk;have z2:=blk_cell (o:=2) hbk;have z3:=blk_cell (o:=3) hbk;have z4:=blk_cell (o:=4) hbk;have y0:w6.frozen? ⟨w.heap.size,0,none⟩=false:=blk_frozen hbk;have y1:w6.frozen? ⟨w.heap.size,1,none⟩=false:=blk_frozen hbk;have y2:w6.frozen? ⟨w.heap.size,2,none⟩=false:=blk_frozen hbk;have y3:w6.frozen? ⟨w.heap.size,3,none⟩=false:=blk_frozen hbk;have y4:w6.frozen? ⟨w.heap.size,4,none⟩=false:=blk_frozen hbk;simp only [deeZ,List.getElem?_toArray,List.getElem?_cons_zero,List.getElem?_cons_succ] at z0 z1 z2 z3 z4
              go_wp2_with fail
              have hq5:=set5P (.int .i64 0) (.slice none 0 0) (.int .i64 0) (.int .i64 0) (.string ⟨#[]⟩) hbk
              have q0:=blk_cell (o:=0) hq5;have q1:=blk_cell (o:=1) hq5;have q2:=blk_cell (o:=2) hq5;have q3:=blk_cell (o:=3) hq5;have q4:=blk_cell (o:=4) hq5
              simp only [List.getElem?_toArray,List.getElem?_cons_zero,List.getElem?_cons_succ] at q0 q1 q2 q3 q4
              refine bodyPost_ret (v:=.tuple #[.agg #[.int .i64 0,.slice none 0 0,.int .i64 0,.int .i64 0,.string ⟨#[]⟩],.int .i64 6]) (by simp [results,Tryz.results55,go_sem,q0,q1,q2,q3,q4]) rfl ?_
              rw [Hz.out];exact ⟨none,0,rfl,Flat.nil _ _ _ _ (Nat.zero_le _),(by show (⟨#[]⟩:ByteArray).size≤1000000;decide),pr5 (HwW.out.trans hp) (Nat.le_refl _) _ _ _ _ _⟩
          · have bI:(x0.toList==[105,110,115,101,114,116])=false:=by rw [Hl0.out,Bool.eq_false_iff];intro e;exact hI (by simpa [wInsert] using e)
            have hz:=deedW_no h1n (fun e=>hN e.1) (fun e=>hD e.1) (fun e=>hI e.1)
            rw [← hr] at hz
            have Hz:=Lib.hid hz
            clear hz hr
            go_upto_region 7 with (go_at_call 81;(with_reducible refine Calls.mono (PA.out _ hp) ?_);rintro e w5 ⟨pa,pc,rfl,hpi,hp5⟩)
            have hp5W:=hp.trans hp5
            obtain ⟨w6,hw6⟩:∃ w6,w6=w5.alloc (.cells #[.int .i64 0,.slice pa q.length pc,.int .i64 0,.int .i64 0,.string ⟨#[]⟩] 69):=⟨_,rfl⟩
            rw [← hw6]
            have hB:w6.heap[w5.heap.size]? = some (.cells #[.int .i64 0,.slice pa q.length pc,.int .i64 0,.int .i64 0,.string ⟨#[]⟩] 69 (0,0)):=by rw [hw6];exact heap_alloc_new w5 _
            have h56:Pr w5 w6:=by rw [hw6];exact Pr.alloc _ _
            have hlt6:w.heap.size < w5.heap.size:=by have:=hp5W.size;have:=HsW.out;omega
            have c0:=h56.cell (hp5.cell c0);have c1:=h56.cell (hp5.cell c1)
            have hpi:=Flat.pr h56 (hpi.mono (S':=fun k=>w.heap.size+1≤k∧k < w5.heap.size) (fun k h hl=>⟨by have:=Hp1.out.size;have:=HsW.out;have:w1.heap.size≤k:=h;omega,hl⟩))
            have hp:=hp5W.trans h56
            have hgW:g < w5.heap.size:=Nat.lt_of_lt_of_le hgW hp5.size
            clear hw6
            have hbk:=hp.blk HbW.out;have z0:=blk_cell (o:=0) hbk;have z1:=blk_cell (o:=1) hbk;have z2:=blk_cell (o:=2) hbk;have z3:=blk_cell (o:=3) hbk;have z4:=blk_cell (o:=4) hbk;have y0:w6.frozen? ⟨w.heap.size,0,none⟩=false:=blk_frozen hbk;have y1:w6.frozen? ⟨w.heap.size,1,none⟩=false:=blk_frozen hbk;have y2:w6.frozen? ⟨w.heap.size,2,none⟩=false:=blk_frozen hbk;have y3:w6.frozen? ⟨w.heap.size,3,none⟩=false:=blk_frozen hbk;have y4:w6.frozen? ⟨w.heap.size,4,none⟩=false:=blk_frozen hbk;simp only [deeZ,List.getElem?_toArray,List.getElem?_cons_zero,List.getElem?_cons_succ] at z0 z1 z2 z3 z4
            go_wp2_with fail
            have hq5:=set5P (.int .i64 0) (.slice none 0 0) (.int .i64 0) (.int .i64 0) (.string ⟨#[]⟩) hbk
            have q0:=blk_cell (o:=0) hq5;have q1:=blk_cell (o:=1) hq5;have q2:=blk_cell (o:=2) hq5;have q3:=blk_cell (o:=3) hq5;have q4:=blk_cell (o:=4) hq5
            simp only [List.getElem?_toArray,List.getElem?_cons_zero,List.getElem?_cons_succ] at q0 q1 q2 q3 q4
            refine bodyPost_ret (v:=.tuple #[.agg #[.int .i64 0,.slice none 0 0,.int .i64 0,.int .i64 0,.string ⟨#[]⟩],.int .i64 6]) (by simp [results,Tryz.results55,go_sem,q0,q1,q2,q3,q4]) rfl ?_
            rw [Hz.out];exact ⟨none,0,rfl,Flat.nil _ _ _ _ (Nat.zero_le _),(by show (⟨#[]⟩:ByteArray).size≤1000000;decide),pr5 (HwW.out.trans hp) (Nat.le_refl _) _ _ _ _ _⟩
end Go.Proofs.YtdbnfhpgmcjngadGreatDoor
