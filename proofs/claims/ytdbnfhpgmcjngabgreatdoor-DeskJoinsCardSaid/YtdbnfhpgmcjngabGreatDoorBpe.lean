/- Walks: a deed's line; the program's. -/
import Derived.Test.YtdbnfhpgmcjngabGreatDoorBpa
import Derived.Test.YtdbnfhpgmcjngabGreatDoorBdw
import Derived.Test.YtdbnfhpgmcjngabGreatDoorBgl
import Derived.Test.YtdbnfhpgmcjngabGreatDoorBma
import Derived.Deep.CutBlock
import Derived.Deep.DeepCutAuto
namespace Go.Proofs.YtdbnfhpgmcjngabGreatDoor
open Go Go.RowKit
def LinePost (d:Dee) (w:World) (e:Ending) (w':World):Prop:=e=.returned (.tuple #[.string ⟨⟨(lineP d).1⟩⟩,.int .i64 ((lineP d).2:Int)])∧Pr w w'
theorem ba_mk (a:ByteArray):a=⟨⟨a.data.toList⟩⟩:=ba_ext rfl
def bigD (d:Dee):Prop:=∃ x∈d.pos :: d.many :: d.path,999 < x
theorem lineC_big {d:Dee} (hf:dfault d=0) (h:bigD d):lineP d=([],9):=by
  obtain ⟨x,hx,h9⟩:=h
  have:lineC d=9:=by
    unfold lineC
    rw [if_neg (by simpa using hf),if_pos]
    simp only [List.mem_cons] at hx
    rcases hx with rfl | rfl | hx
    · exact .inr (.inl h9)
    · exact .inr (.inr h9)
    · exact .inl ⟨x,hx,h9⟩
  unfold lineP;rw [this];rfl
theorem lineC_few {d:Dee} (hf:dfault d=0) (h:¬ bigD d):lineC d=0:=by
  unfold lineC
  rw [if_neg (by simpa using hf),if_neg]
  rintro (⟨x,hx,h9⟩ | h9 | h9)
  · exact h ⟨x,by simp [hx],h9⟩
  · exact h ⟨d.pos,by simp,h9⟩
  · exact h ⟨d.many,by simp,h9⟩
theorem lineP_bad {d:Dee} (hf:dfault d≠0):lineP d=([],dfault d):=by
  have:lineC d=dfault d:=by unfold lineC;rw [if_pos hf]
  unfold lineP;rw [this,if_pos hf]
theorem lineP_ok {d:Dee} (h:lineC d=0):lineP d=(lineT d,0):=by unfold lineP;rw [if_neg (by simpa using h)]
theorem line1 {d:Dee} (h:d.kind=1):lineT d=[110,97,109,101,32] ++ pathTx d.path ++ [32] ++ d.lab.data.toList:=by
  unfold lineT words;rw [if_pos h];simp [joinC,wName]
theorem line2 {d:Dee} (h:d.kind=2):lineT d=[100,101,108,101,116,101,32] ++ pathTx d.path:=by
  unfold lineT words;rw [if_neg (by omega),if_pos h];simp [joinC,wDelete]
theorem line3 {d:Dee} (h:d.kind=3):lineT d=[105,110,115,101,114,116,32] ++ pathTx d.path ++ [32] ++ Lib.itoa d.pos ++ [32] ++ Lib.itoa d.many ++ [32] ++ d.lab.data.toList:=by
  unfold lineT words;rw [if_neg (by omega),if_neg (by omega)];simp [joinC,wInsert]
theorem ret_line {d:Dee} {b:ByteArray} (h:lineP d=(b.data.toList,0)):Ending.returned (.tuple #[.string b,.int .i64 0])=.returned (.tuple #[.string ⟨⟨(lineP d).1⟩⟩,.int .i64 ((lineP d).2:Int)]):=by
  rw [h,← ba_mk b];rfl
theorem OwnsIs.made2 (w:World) (a m:Int):OwnsIs w.heap.size (w.alloc (.cells #[.int .i64 a,.int .i64 m] 3)) (.slice (some ⟨w.heap.size,0,none⟩) 2 2) [a,m] :=
  ⟨rfl,.inr ⟨w.heap.size,2,#[.int .i64 a,.int .i64 m],rfl,Nat.le_refl _,heap_alloc_new w _,Nat.le_refl _,by unfold maxLen;omega,rfl,rfl⟩⟩
set_option maxRecDepth 100000 in
set_option maxHeartbeats 6400000 in
theorem line_any (k:Int) (p:List Int) (a m:Int) (s:ByteArray) (pa pc) (w:World) (hs:s.size≤100000) (hp:Ints Any w p pa pc) (hn:p.length≤100000) (hw:Lv w) :
    Calls Tryz.prog 141 #[.agg #[.int .i64 k,.slice pa p.length pc,.int .i64 a,.int .i64 m,.string s]] w (LinePost ⟨k,p,a,m,s⟩ w):=by
  obtain ⟨W,hW⟩:∃ W,W=w.alloc (.cells #[.int .i64 k,.slice pa p.length pc,.int .i64 a,.int .i64 m,.string s] 72):=⟨_,rfl⟩
  have hwW:Pr w W:=by rw [hW];exact Pr.alloc _ _
  have s0:=stays (show W.cell? ⟨w.heap.size,0,none⟩=some (.int .i64 k) by rw [hW];simp [go_sem])
  have s1:=stays (show W.cell? ⟨w.heap.size,1,none⟩=some (.slice pa p.length pc) by rw [hW];simp [go_sem])
  have s2:=stays (show W.cell? ⟨w.heap.size,2,none⟩=some (.int .i64 a) by rw [hW];simp [go_sem])
  have s3:=stays (show W.cell? ⟨w.heap.size,3,none⟩=some (.int .i64 m) by rw [hW];simp [go_sem])
  have s4:=stays (show W.cell? ⟨w.heap.size,4,none⟩=some (.string s) by rw [hW];simp [go_sem])
  have C:=Lib.hid (dcheck_any k p a m s pa pc W (by unfold maxLen;omega) (hp.pr hwW))
  obtain ⟨d,hd⟩:∃ d:Dee,d=⟨k,p,a,m,s⟩:=⟨_,rfl⟩
  rw [← hd] at C ⊢
  have hk:d.kind=k:=by rw [hd]
  have hpd:d.path=p:=by rw [hd]
  have had:d.pos=a:=by rw [hd]
  have hmd:d.many=m:=by rw [hd]
  have hld:d.lab=s:=by rw [hd]
  obtain ⟨c,hc⟩:∃ c,c=dfault d:=⟨_,rfl⟩
  rw [← hc] at C
  have HP:=Lib.hid (hp.pr hwW);have HW:=Lib.hid (hw.pr hwW);have HwW:=Lib.hid hwW
  have HD:=Lib.hid (And.intro hk (And.intro hpd (And.intro had (And.intro hmd hld))))
  clear hk hpd had hmd hld hd hp hw hwW
  by_cases hc0:c=0
  · rw [hc0] at hc
    subst hc0
    have Hc:=Lib.hid hc.symm
    clear hc
    go_enter Tryz.func141,Tryz.ntmps141
    go_upto_region 1 with fail
    rw [← hW];clear hW
    have x0:=s0 _ (Pr.refl _)
    have x1:=s1 _ (Pr.refl _);have x2:=s2 _ (Pr.refl _);have x3:=s3 _ (Pr.refl _);have x4:=s4 _ (Pr.refl _)
    go_upto_region 4 with (go_at_call 58;(with_reducible refine Calls.mono C.out ?_);rintro e w1 ⟨rfl,hp1⟩;have x0:=s0 _ hp1;have x1:=s1 _ hp1;have x2:=s2 _ hp1;have x3:=s3 _ hp1;have x4:=s4 _ hp1)
    have HP5:=Lib.hid (Flat.pr hp1 HP.out)
    have z1:=s1 _ (hp1.alloc' (.cells #[.int .i64 a,.int .i64 m] 3))
    go_wp2_with (at_builtin;go_must (refine app_ints rfl _ _ rfl w1.heap.size _ [a,m] rfl (OwnsIs.made2 w1 a m) Any p pa pc rfl (Flat.pr (Pr.alloc _ _) HP5.out) (by simp;omega) (by simp) ?_);intro v5 w5 ho5 hg5 hd5;refine Hid.out ?_)
    refine Lib.hid ?_
    generalize hxs:[a,m] ++ p=xs at ho5
    have Hxs:=Lib.hid hxs
    have hp5:Pr W w5:=hp1.trans (Below.grown (Pr.alloc _ _) hg5 (by simp) (fun k hk=>((OwnsIs.made2 w1 a m).block k hk).1))
    obtain ⟨oa5,c5,rfl,hi5⟩:=ho5.ints
    have Hi5:=Lib.hid hi5
    clear hi5 ho5 hg5 hd5 hxs z1
    have hxl:xs.length=p.length+2:=by rw [← Hxs.out];simp
    have Hp5:=Lib.hid hp5
    have x0:=s0 _ hp5;have x1:=s1 _ hp5;have x2:=s2 _ hp5;have x3:=s3 _ hp5;have x4:=s4 _ hp5
    have hxl2:xs.length≤100002:=by omega
    clear hxl hp5
    go_wp2_with fail
    have hp5:=Hp5.out
    go_loopw [21] (fun x wr=>∃ i:Nat,i≤xs.length∧x=.int .i64 i∧(∀ (j:Nat) (h:j < xs.length),j < i→xs[j]≤999)∧wr=w5) (fun x _=>xs.length - (intOf x).toNat)
    case atStart=>exact ⟨0,by omega,rfl,fun _ _ h=>absurd h (Nat.not_lt_zero _),rfl⟩
    case round =>
      obtain ⟨i,hi,rfl,hall,rfl⟩:=hrel
      have Hall:=Lib.hid hall
      clear hall
      by_cases hlt:i < xs.length
      · obtain ⟨bk,o,rfl,c0⟩:=Ints.get Hi5.out i hlt
        by_cases h9:999 < xs[i]
        · have hb:=lineC_big (d:=d) Hc.out (by
            refine ⟨xs[i],?_,h9⟩
            have h:=HD.out
            rw [h.2.1,h.2.2.1,h.2.2.2.1]
            have hm:xs[i]∈[a,m] ++ p:=by rw [Hxs.out];exact List.getElem_mem _
            simpa using hm)
          have Hb:=Lib.hid hb
          clear hb
          go_wp2_with fail
          go_ret2
          exact ⟨by rw [Hb.out];rfl,HwW.out.trans Hp5.out⟩
        · have h9':decide (999 < xs[i])=false:=by simpa using h9
          go_wp2_with fail
          refine ⟨⟨i+1,by omega,by go_num,fun j hj hji=>?_,trivial⟩,by simp [intOf];omega⟩
          by_cases e:j=i
          · subst e;omega
          · exact Hall.out j hj (by omega)
      · have hno:¬ bigD d:=by
          rintro ⟨x,hx,h9⟩
          have h:=HD.out
          rw [h.2.1,h.2.2.1,h.2.2.2.1] at hx
          have hx':x∈xs:=by rw [← Hxs.out];simpa using hx
          obtain ⟨j,hj,rfl⟩:=List.mem_iff_getElem.1 hx'
          have:=Hall.out j hj (by omega)
          omega
        have hl0:=lineC_few Hc.out hno
        have hz:=lineC_zero hl0
        have hkk:k=1∨k=2∨k=3:=by
          have h1:=(dfault_zero.1 hz.1).1
          rw [HD.out.1] at h1;omega
        have hl:=lineP_ok hl0
        have Hl:=Lib.hid hl;have Hz:=Lib.hid hz
        have hI:I64 p:=fun x hx=>by
          have:=hz.2.1 x (by rw [HD.out.2.1];exact hx);omega
        have hptl:=pathT_le p hI
        obtain ⟨b,hb⟩:∃ b:ByteArray,b=⟨⟨pathTx p⟩⟩:=⟨_,rfl⟩
        have hbs:b.size≤2200001:=by rw [hb,← sizeL];show (pathTx p).length≤_;omega
        have hT:∀ W',Pr wr W'→Calls Tryz.prog 71 #[.slice pa p.length pc] W' fun e w'=>e=.returned (.string b)∧Pr W' w':=fun W' h=>by
          rw [hb];exact pathTx_any p pa pc W' (Flat.pr (hp5.trans h) HP.out) hI hn (HW.out.pr (hp5.trans h))
        have HT:=Lib.hid hT;have HB:=Lib.hid hb
        clear hl hl0 hz hno hI hptl hT hb
        have d1:decide ((i:Int) < xs.length)=false:=by simp;omega
        have d3:decide (i < xs.length)=false:=by simp;omega
        rcases hkk with hk1 | hk1 | hk1
        · obtain rfl:=hk1
          have hf:=line1 (d:=d) HD.out.1
          rw [HD.out.2.1,HD.out.2.2.2.2] at hf
          have Hf:=Lib.hid hf
          clear hf
          go_upto_region 12 with fail
          have y1:=After.cell x1;have y4:=After.cell x4
          have S1:=Lib.hid (After.call HT.out)
          refine wp_region_after (by kernel_rfl) (by kernel_rfl) ?_
          repeat (go_big_quiet_step (first | (go_at_call 71;with_reducible exact S1.out _)))
          refine wpQuiet_nil ?_
          rintro wq ⟨⟨_,hq⟩,rfl⟩
          go_wp2_with fail
          go_ret2
          refine ⟨ret_line ?_,(HwW.out.trans Hp5.out).trans hq⟩
          rw [Hl.out,Hf.out,baL,baL,baL,HB.out]
        · obtain rfl:=hk1
          have hf:=line2 (d:=d) HD.out.1
          rw [HD.out.2.1] at hf
          have Hf:=Lib.hid hf
          clear hf
          go_wp2_with (go_at_call 71;(with_reducible refine Calls.mono (HT.out _ (Pr.refl _)) ?_);rintro e w6 ⟨rfl,hp6⟩)
          go_ret2
          refine ⟨ret_line ?_,(HwW.out.trans Hp5.out).trans hp6⟩
          rw [Hl.out,Hf.out,baL,HB.out]
        · obtain rfl:=hk1
          have hf:=line3 (d:=d) HD.out.1
          rw [HD.out.2.1,HD.out.2.2.1,HD.out.2.2.2.1,HD.out.2.2.2.2] at hf
          have Hf:=Lib.hid hf
          have hza:=Hz.out.2.2.1;have hzm:=Hz.out.2.2.2
          rw [HD.out.2.2.1] at hza
          rw [HD.out.2.2.2.1] at hzm
          obtain ⟨ba,hba⟩:∃ b:ByteArray,b=⟨⟨Lib.itoa a⟩⟩:=⟨_,rfl⟩
          obtain ⟨bm,hbm⟩:∃ b:ByteArray,b=⟨⟨Lib.itoa m⟩⟩:=⟨_,rfl⟩
          have hbas:ba.size≤21:=by rw [hba,← sizeL];exact Lib.itoa_length_le a (by omega) (by omega)
          have hbms:bm.size≤21:=by rw [hbm,← sizeL];exact Lib.itoa_length_le m (by omega) (by omega)
          have hIa:∀ W',Pr wr W'→Calls Tryz.prog 52 #[.int .i64 a] W' fun e w'=>e=.returned (.string ba)∧Pr W' w':=fun W' h=>by
            rw [hba];exact itoa_any a (by omega) (by omega) W' (HW.out.pr (hp5.trans h))
          have hIm:∀ W',Pr wr W'→Calls Tryz.prog 52 #[.int .i64 m] W' fun e w'=>e=.returned (.string bm)∧Pr W' w':=fun W' h=>by
            rw [hbm];exact itoa_any m (by omega) (by omega) W' (HW.out.pr (hp5.trans h))
          have HIa:=Lib.hid hIa;have HIm:=Lib.hid hIm;have HBa:=Lib.hid hba;have HBm:=Lib.hid hbm
          clear hf hIa hIm hba hbm
          go_upto_region 15 with fail
          have y1:=After.cell x1;have y2:=After.cell x2;have y3:=After.cell x3;have y4:=After.cell x4
          have S1:=Lib.hid (After.call HT.out);have S2:=Lib.hid (After.call HIa.out);have S3:=Lib.hid (After.call HIm.out)
          refine wp_region_after (by kernel_rfl) (by kernel_rfl) ?_
          repeat (go_big_quiet_step (first | (go_at_call 71;with_reducible exact S1.out _) | (go_at_call 52;with_reducible exact S2.out _) | (go_at_call 52;with_reducible exact S3.out _)))
          refine wpQuiet_nil ?_
          rintro wq ⟨⟨_,hq⟩,rfl⟩
          go_wp2_with fail
          go_ret2
          refine ⟨ret_line ?_,(HwW.out.trans Hp5.out).trans hq⟩
          rw [Hl.out,Hf.out,baL,baL,baL,baL,baL,baL,baL,HB.out,HBa.out,HBm.out]
  · have hb:=lineP_bad (d:=d) (by rw [← hc];exact hc0)
    rw [← hc] at hb
    have Hb:=Lib.hid hb
    have n0:((c:Int) != 0)=true:=by simp [bne_iff_ne];omega
    have n1:(c != 0)=true:=by simp [bne_iff_ne];omega
    clear hb hc hc0
    go_enter Tryz.func141,Tryz.ntmps141
    go_upto_region 1 with fail
    rw [← hW];clear hW
    have x0:=s0 _ (Pr.refl _)
    have x1:=s1 _ (Pr.refl _);have x2:=s2 _ (Pr.refl _);have x3:=s3 _ (Pr.refl _);have x4:=s4 _ (Pr.refl _)
    go_wp2_with (go_at_call 58;(with_reducible refine Calls.mono C.out ?_);rintro e w1 ⟨rfl,hp1⟩;have x0:=s0 _ hp1)
    go_ret2
    exact ⟨by rw [Hb.out];rfl,HwW.out.trans hp1⟩
end Go.Proofs.YtdbnfhpgmcjngabGreatDoor
/- Walks: a deed's line; the document's. -/
namespace Go.Proofs.YtdbnfhpgmcjngabGreatDoor
open Go Go.RowKit
end Go.Proofs.YtdbnfhpgmcjngabGreatDoor
/- Walks: a line's deed; the program's. -/
namespace Go.Proofs.YtdbnfhpgmcjngabGreatDoor
open Go Go.RowKit
def PDeedPost (r:Dee × Nat) (w:World) (e:Ending) (w':World):Prop:=∃ pa pc,e=.returned (.tuple #[.agg #[.int .i64 r.1.kind,.slice pa r.1.path.length pc,.int .i64 r.1.pos,.int .i64 r.1.many,.string r.1.lab],.int .i64 (r.2:Int)])∧Ints (From w.heap.size) w' r.1.path pa pc∧r.1.lab.size≤1000000∧Pr w w'
theorem chk_bad {d:Dee} (h:dfault d≠0):chk d=(Dee.zero,dfault d):=by unfold chk;rw [if_pos h]
theorem deedW_few {ps:List (List UInt8)} (h:ps.length < 2):deedW ps=(Dee.zero,6):=by
  match ps,h with
  | [],_=>rfl
  | [x],_=>rfl
theorem deedW_path {ps:List (List UInt8)} (h:1 < ps.length) (hp:pathIn ps[1]=none):deedW ps=(Dee.zero,6):=by
  match ps,h,hp with
  | [a,b],_,hp=>simp only [List.getElem_cons_succ,List.getElem_cons_zero] at hp;simp [deedW,hp]
  | [a,b,c],_,hp=>simp only [List.getElem_cons_succ,List.getElem_cons_zero] at hp;simp [deedW,hp]
  | [a,b,c,d],_,hp=>rfl
  | [a,b,c,d,e],_,hp=>simp only [List.getElem_cons_succ,List.getElem_cons_zero] at hp;simp [deedW,hp]
  | a :: b :: c :: d :: e :: f :: r,_,hp=>rfl
theorem deedW_no {ps:List (List UInt8)} (h:1 < ps.length) (h1:¬ (ps[0]=wName∧ps.length=3)) (h2:¬ (ps[0]=wDelete∧ps.length=2)) (h3:¬ (ps[0]=wInsert∧ps.length=5)):deedW ps=(Dee.zero,6):=by
  match ps,h,h1,h2,h3 with
  | [a,b],_,_,h2,_=>simp at h2;simp [deedW,h2]
  | [a,b,c],_,h1,_,_=>simp at h1;simp [deedW,h1]
  | [a,b,c,d],_,_,_,_=>rfl
  | [a,b,c,d,e],_,_,_,h3=>simp at h3;simp [deedW,h3]
  | a :: b :: c :: d :: e :: f :: r,_,_,_,_=>rfl
theorem deedW_name {ps:List (List UInt8)} {q:List Int} (h:ps.length=3) (h0:ps[0]=wName) (hp:pathIn ps[1]=some q):deedW ps=chk ⟨1,q,0,0,⟨⟨ps[2]⟩⟩⟩:=by
  match ps,h,h0,hp with
  | [a,b,c],_,h0,hp=>simp only [List.getElem_cons_succ,List.getElem_cons_zero] at hp h0;simp [deedW,hp,h0]
theorem deedW_delete {ps:List (List UInt8)} {q:List Int} (h:ps.length=2) (h0:ps[0]=wDelete) (hp:pathIn ps[1]=some q):deedW ps=chk ⟨2,q,0,0,⟨#[]⟩⟩:=by
  match ps,h,h0,hp with
  | [a,b],_,h0,hp=>simp only [List.getElem_cons_succ,List.getElem_cons_zero] at hp h0;simp [deedW,hp,h0]
theorem deedW_insert {ps:List (List UInt8)} {q:List Int} (h:ps.length=5) (h0:ps[0]=wInsert) (hp:pathIn ps[1]=some q):deedW ps=match fewN ps[2],fewN ps[3] with | some x,some y=>chk ⟨3,q,(x:Int),(y:Int),⟨⟨ps[4]⟩⟩⟩ | _,_=>(Dee.zero,6):=by
  match ps,h,h0,hp with
  | [a,b,c,d,e],_,h0,hp=>simp only [List.getElem_cons_succ,List.getElem_cons_zero] at hp h0;simp [deedW,hp,h0];cases fewN c <;> cases fewN d <;> rfl
abbrev deeZ:Array Value:=#[.int .i64 0,.slice none 0 0,.int .i64 0,.int .i64 0,.string ⟨#[]⟩]
theorem set5P {w:World} {b:Nat} {x0 x1 x2 x3 x4:Value} {T:TypeId} (v0 v1 v2 v3 v4:Value) (h:w.heap[b]? = some (.cells #[x0,x1,x2,x3,x4] T (0,0))) :
    (((((w.setCell ⟨b,0,none⟩ v0).setCell ⟨b,1,none⟩ v1).setCell ⟨b,2,none⟩ v2).setCell ⟨b,3,none⟩ v3).setCell ⟨b,4,none⟩ v4).heap[b]? = some (.cells #[v0,v1,v2,v3,v4] T (0,0)):=by
  have:=blk_set (o:=4) (blk_set (o:=3) (blk_set (o:=2) (blk_set (o:=1) (blk_set (o:=0) h v0) v1) v2) v3) v4
  simpa using this
theorem pr5 {a w:World} {b:Nat} (h:Pr a w) (hb:a.heap.size≤b) (v0 v1 v2 v3 v4:Value):Pr a (((((w.setCell ⟨b,0,none⟩ v0).setCell ⟨b,1,none⟩ v1).setCell ⟨b,2,none⟩ v2).setCell ⟨b,3,none⟩ v3).setCell ⟨b,4,none⟩ v4) :=
  ((((h.setCell hb v0).setCell hb v1).setCell hb v2).setCell hb v3).setCell hb v4
theorem ints5 {w:World} {b:Nat} {S:Nat→Prop} {p:List Int} {pa pc} (h:Ints S w p pa pc) (hb:¬ S b) (v0 v1 v2 v3 v4:Value):Ints S (((((w.setCell ⟨b,0,none⟩ v0).setCell ⟨b,1,none⟩ v1).setCell ⟨b,2,none⟩ v2).setCell ⟨b,3,none⟩ v3).setCell ⟨b,4,none⟩ v4) p pa pc :=
  Flat.kept (kept_setCell S _ _ _ hb) (Flat.kept (kept_setCell S _ _ _ hb) (Flat.kept (kept_setCell S _ _ _ hb) (Flat.kept (kept_setCell S _ _ _ hb) (Flat.kept (kept_setCell S _ _ _ hb) h))))
set_option maxRecDepth 100000 in
set_option maxHeartbeats 6400000 in
theorem deed_any (s:ByteArray) (hs:s.size≤1000000) (w:World) (hw:Lv w) :
    Calls Tryz.prog 29 #[.string s] w (PDeedPost (deedIn s.data.toList) w):=by
  obtain ⟨W,hW⟩:∃ W,W=w.alloc (.cells deeZ 72):=⟨_,rfl⟩
  have hwW:Pr w W:=by rw [hW];exact Pr.alloc _ _
  have hsW:W.heap.size=w.heap.size+1:=by rw [hW];simp
  have hbW:W.heap[w.heap.size]? = some (.cells deeZ 72 (0,0)):=by rw [hW];exact heap_alloc_new w _
  obtain ⟨ps,hps⟩:∃ ps,ps=cutC 32 s.data.toList:=⟨_,rfl⟩
  obtain ⟨r,hr⟩:∃ r,r=deedW ps:=⟨_,rfl⟩
  have e:deedIn s.data.toList=r:=by rw [hr,hps];rfl
  rw [e]
  clear e
  have C:=split_parts s 32 hs W (hw.pr hwW)
  have hcl:=cut_le 32 s.data.toList
  rw [← hps] at C hcl
  have C:=Lib.hid C;have Hcl:=Lib.hid hcl;have HW:=Lib.hid (hw.pr hwW);have HwW:=Lib.hid hwW;have HbW:=Lib.hid hbW;have HsW:=Lib.hid hsW
  clear hw hwW hps hcl hbW hsW
  by_cases h2:ps.length < 2
  · have hz:=deedW_few h2
    rw [← hr] at hz
    have Hz:=Lib.hid hz
    clear hz hr
    go_enter Tryz.func29,Tryz.ntmps29
    go_upto_region 1 with fail
    rw [← hW];clear hW
    go_wp2_with (go_at_call 19;(with_reducible refine Calls.mono C.out ?_);rintro e w1 ⟨oa,cap,rfl,hst,hp⟩;have hbk:=hp.blk HbW.out;have z0:=blk_cell (o:=0) hbk;have z1:=blk_cell (o:=1) hbk;have z2:=blk_cell (o:=2) hbk;have z3:=blk_cell (o:=3) hbk;have z4:=blk_cell (o:=4) hbk;have y0:w1.frozen? ⟨w.heap.size,0,none⟩=false:=blk_frozen hbk;have y1:w1.frozen? ⟨w.heap.size,1,none⟩=false:=blk_frozen hbk;have y2:w1.frozen? ⟨w.heap.size,2,none⟩=false:=blk_frozen hbk;have y3:w1.frozen? ⟨w.heap.size,3,none⟩=false:=blk_frozen hbk;have y4:w1.frozen? ⟨w.heap.size,4,none⟩=false:=blk_frozen hbk;simp only [deeZ,List.getElem?_toArray,List.getElem?_cons_zero,List.getElem?_cons_succ] at z0 z1 z2 z3 z4)
    have hq5:=set5P (.int .i64 0) (.slice none 0 0) (.int .i64 0) (.int .i64 0) (.string ⟨#[]⟩) hbk
    have q0:=blk_cell (o:=0) hq5;have q1:=blk_cell (o:=1) hq5;have q2:=blk_cell (o:=2) hq5;have q3:=blk_cell (o:=3) hq5;have q4:=blk_cell (o:=4) hq5
    simp only [List.getElem?_toArray,List.getElem?_cons_zero,List.getElem?_cons_succ] at q0 q1 q2 q3 q4
    refine bodyPost_ret (v:=.tuple #[.agg #[.int .i64 0,.slice none 0 0,.int .i64 0,.int .i64 0,.string ⟨#[]⟩],.int .i64 6]) (by simp [results,Tryz.results29,go_sem,q0,q1,q2,q3,q4]) rfl ?_
    rw [Hz.out];exact ⟨none,0,rfl,Flat.nil _ _ _ _ (Nat.zero_le _),(by show (⟨#[]⟩:ByteArray).size≤1000000;decide),pr5 (HwW.out.trans hp) (Nat.le_refl _) _ _ _ _ _⟩
  · have h1n:1 < ps.length:=by omega
    have d0:decide ((ps.length:Int) < 2)=false:=by simp;omega
    have d1:decide (ps.length < 2)=false:=by simp;omega
    obtain ⟨x0,hx0⟩:∃ x:ByteArray,x=⟨⟨ps[0]⟩⟩:=⟨_,rfl⟩
    obtain ⟨x1,hx1⟩:∃ x:ByteArray,x=⟨⟨ps[1]⟩⟩:=⟨_,rfl⟩
    have hs1:x1.size≤1000000:=by
      have h1:=Hcl.out ps[1] (List.getElem_mem _)
      rw [sizeL] at h1
      have h2:x1.size=ps[1].length:=by rw [hx1];rfl
      omega
    have hl0:x0.toList=ps[0]:=by rw [hx0,ByteArray.toList_eq]
    have hl1:x1.data.toList=ps[1]:=by rw [hx1]
    obtain ⟨op,hop⟩:∃ op,op=pathIn ps[1]:=⟨_,rfl⟩
    have PA:∀ W',Pr W W'→Calls Tryz.prog 56 #[.string x1] W' (PathPost ps[1] W'):=fun W' h=>by
      have:=parsePath_any x1 hs1 W' (HW.out.pr h)
      rwa [hl1] at this
    unfold PathPost at PA
    rw [← hop] at PA
    have PA:=Lib.hid PA
    have Hx0:=Lib.hid hx0;have Hx1:=Lib.hid hx1;have Hl0:=Lib.hid hl0;have Hop:=Lib.hid hop
    clear hx0 hx1 hl0 hl1 hop
    go_enter Tryz.func29,Tryz.ntmps29
    go_upto_region 1 with fail
    rw [← hW];clear hW
    go_upto_region 4 with (go_at_call 19;(with_reducible refine Calls.mono C.out ?_);rintro e w1 ⟨oa,cap,rfl,hst,hp⟩;obtain ⟨g,o,rfl,c0⟩:=Strs.get hst 0 (by omega);have Hst:=Lib.hid hst;clear hst)
    have hcell:∀ (i:Nat) (hi:i < ps.length),w1.cell? ⟨g,o+i,none⟩=some (.string ⟨⟨ps[i]⟩⟩):=fun i hi=>by
      obtain ⟨g',o',e,c⟩:=Strs.get Hst.out i hi
      cases e;exact c
    have hgW:g < w1.heap.size:=lt_of_cell c0
    have c1:=hcell 1 h1n
    rw [← Hx1.out] at c1
    rw [← Hx0.out,Nat.add_zero] at c0
    have d2:decide ((1:Int) < ps.length)=true:=by simp;omega
    have d3:decide (1 < ps.length)=true:=by simp;omega
    have Hcell:=Lib.hid hcell
    clear hcell
    have Hp1:=Lib.hid hp
    cases op with
    | none =>
      have hz:=deedW_path h1n Hop.out.symm
      rw [← hr] at hz
      have Hz:=Lib.hid hz
      clear hz hr
      go_upto_region 7 with (go_at_call 56;(with_reducible refine Calls.mono (PA.out _ hp) ?_);rintro e w5 ⟨pa,pc,rfl,hpi,hp5⟩)
      have hp5W:=hp.trans hp5
      obtain ⟨w6,hw6⟩:∃ w6,w6=w5.alloc (.cells #[.int .i64 0,.slice pa 0 pc,.int .i64 0,.int .i64 0,.string ⟨#[]⟩] 72):=⟨_,rfl⟩
      rw [← hw6]
      have hB:w6.heap[w5.heap.size]? = some (.cells #[.int .i64 0,.slice pa 0 pc,.int .i64 0,.int .i64 0,.string ⟨#[]⟩] 72 (0,0)):=by rw [hw6];exact heap_alloc_new w5 _
      have h56:Pr w5 w6:=by rw [hw6];exact Pr.alloc _ _
      have hlt6:w.heap.size < w5.heap.size:=by have:=hp5W.size;have:=HsW.out;omega
      have c0:=h56.cell (hp5.cell c0);have c1:=h56.cell (hp5.cell c1)
      have hpi:=Flat.pr h56 (hpi.mono (S':=fun k=>w.heap.size+1≤k∧k < w5.heap.size) (fun k h hl=>⟨by have:=Hp1.out.size;have:=HsW.out;have:w1.heap.size≤k:=h;omega,hl⟩))
      have hp:=hp5W.trans h56
      have hgW:g < w5.heap.size:=Nat.lt_of_lt_of_le hgW hp5.size
      clear hw6
      have hbk:=hp.blk HbW.out;have z0:=blk_cell (o:=0) hbk;have z1:=blk_cell (o:=1) hbk;have z2:=blk_cell (o:=2) hbk;have z3:=blk_cell (o:=3) hbk;have z4:=blk_cell (o:=4) hbk;have y0:w6.frozen? ⟨w.heap.size,0,none⟩=false:=blk_frozen hbk;have y1:w6.frozen? ⟨w.heap.size,1,none⟩=false:=blk_frozen hbk;have y2:w6.frozen? ⟨w.heap.size,2,none⟩=false:=blk_frozen hbk;have y3:w6.frozen? ⟨w.heap.size,3,none⟩=false:=blk_frozen hbk;have y4:w6.frozen? ⟨w.heap.size,4,none⟩=false:=blk_frozen hbk;simp only [deeZ,List.getElem?_toArray,List.getElem?_cons_zero,List.getElem?_cons_succ] at z0 z1 z2 z3 z4
      go_wp2_with fail
      have hq5:=set5P (.int .i64 0) (.slice none 0 0) (.int .i64 0) (.int .i64 0) (.string ⟨#[]⟩) hbk
      have q0:=blk_cell (o:=0) hq5;have q1:=blk_cell (o:=1) hq5;have q2:=blk_cell (o:=2) hq5;have q3:=blk_cell (o:=3) hq5;have q4:=blk_cell (o:=4) hq5
      simp only [List.getElem?_toArray,List.getElem?_cons_zero,List.getElem?_cons_succ] at q0 q1 q2 q3 q4
      refine bodyPost_ret (v:=.tuple #[.agg #[.int .i64 0,.slice none 0 0,.int .i64 0,.int .i64 0,.string ⟨#[]⟩],.int .i64 6]) (by simp [results,Tryz.results29,go_sem,q0,q1,q2,q3,q4]) rfl ?_
      rw [Hz.out];exact ⟨none,0,rfl,Flat.nil _ _ _ _ (Nat.zero_le _),(by show (⟨#[]⟩:ByteArray).size≤1000000;decide),pr5 (HwW.out.trans hp) (Nat.le_refl _) _ _ _ _ _⟩
    | some q =>
      by_cases hN:ps[0]=wName
      · have bN:(x0.toList==[110,97,109,101])=true:=by rw [Hl0.out,hN];rfl
        have bN':x0.toList=[110,97,109,101]:=by rw [Hl0.out,hN];rfl
        by_cases h3:ps.length=3
        · have i2:2 < ps.length:=by omega
          obtain ⟨x2,hx2⟩:∃ x:ByteArray,x=⟨⟨ps[2]⟩⟩:=⟨_,rfl⟩
          have hz:=deedW_name h3 hN Hop.out.symm
          rw [← hr,← hx2] at hz
          have Hz:=Lib.hid hz;have Hx2:=Lib.hid hx2
          clear hz hr
          have l3:((ps.length:Int)==3)=true:=by simp;omega
          have l3':(ps.length==3)=true:=by simp;omega
          have c2:=Hcell.out 2 i2
          rw [← hx2] at c2
          have g2:(2:Int) < ps.length:=by omega
          have hs2:x2.size≤1000000:=by
            have h1:=Hcl.out ps[2] (List.getElem_mem _)
            rw [sizeL] at h1
            have h2:x2.size=ps[2].length:=by rw [hx2];rfl
            omega
          have Hs2:=Lib.hid hs2
          clear hx2 h3
          go_upto_region 7 with (go_at_call 56;(with_reducible refine Calls.mono (PA.out _ hp) ?_);rintro e w5 ⟨pa,pc,rfl,hpi,hp5⟩)
          have hp5W:=hp.trans hp5
          obtain ⟨w6,hw6⟩:∃ w6,w6=w5.alloc (.cells #[.int .i64 0,.slice pa q.length pc,.int .i64 0,.int .i64 0,.string ⟨#[]⟩] 72):=⟨_,rfl⟩
          rw [← hw6]
          have hB:w6.heap[w5.heap.size]? = some (.cells #[.int .i64 0,.slice pa q.length pc,.int .i64 0,.int .i64 0,.string ⟨#[]⟩] 72 (0,0)):=by rw [hw6];exact heap_alloc_new w5 _
          have h56:Pr w5 w6:=by rw [hw6];exact Pr.alloc _ _
          have hlt6:w.heap.size < w5.heap.size:=by have:=hp5W.size;have:=HsW.out;omega
          have c0:=h56.cell (hp5.cell c0);have c1:=h56.cell (hp5.cell c1)
          have hpi:=Flat.pr h56 (hpi.mono (S':=fun k=>w.heap.size+1≤k∧k < w5.heap.size) (fun k h hl=>⟨by have:=Hp1.out.size;have:=HsW.out;have:w1.heap.size≤k:=h;omega,hl⟩))
          have hp:=hp5W.trans h56
          have hgW:g < w5.heap.size:=Nat.lt_of_lt_of_le hgW hp5.size
          clear hw6
          have c2:=h56.cell (hp5.cell c2)
          have e0:=blk_cell (o:=0) hB;have e1:=blk_cell (o:=1) hB;have e2:=blk_cell (o:=2) hB;have e3:=blk_cell (o:=3) hB;have e4:=blk_cell (o:=4) hB;have f0:w6.frozen? ⟨w5.heap.size,0,none⟩=false:=blk_frozen hB;have f1:w6.frozen? ⟨w5.heap.size,1,none⟩=false:=blk_frozen hB;have f2:w6.frozen? ⟨w5.heap.size,2,none⟩=false:=blk_frozen hB;have f3:w6.frozen? ⟨w5.heap.size,3,none⟩=false:=blk_frozen hB;have f4:w6.frozen? ⟨w5.heap.size,4,none⟩=false:=blk_frozen hB;simp only [List.getElem?_toArray,List.getElem?_cons_zero,List.getElem?_cons_succ] at e0 e1 e2 e3 e4
          go_upto_region 8 with fail
          go_region
          obtain ⟨w7,hw7⟩:∃ w7,w7=((w6.setCell ⟨w5.heap.size,0,none⟩ (.int .i64 1)).setCell ⟨w5.heap.size,4,none⟩ (.string x2)).drew:=⟨_,rfl⟩
          rw [← hw7]
          have hge:W.heap.size≤w5.heap.size:=hp5W.size
          have hnS:¬ (fun k=>w.heap.size+1≤k∧k < w5.heap.size) w5.heap.size:=fun h=>Nat.lt_irrefl _ h.2
          have hB:w7.heap[w5.heap.size]? = some (.cells #[.int .i64 1,.slice pa q.length pc,.int .i64 0,.int .i64 0,.string x2] 72 (0,0)):=by rw [hw7];show (((w6.setCell ⟨w5.heap.size,0,none⟩ (.int .i64 1)).setCell ⟨w5.heap.size,4,none⟩ (.string x2))).heap[w5.heap.size]? = _;have:=(blk_set (o:=4) (blk_set (o:=0) hB (.int .i64 1)) (.string x2));simpa using this
          have hp:Pr W w7:=by rw [hw7];exact (((hp.setCell hge (.int .i64 1)).setCell hge (.string x2)).drew')
          have hpi:Ints (fun k=>w.heap.size+1≤k∧k < w5.heap.size) w7 q pa pc:=by rw [hw7];exact (Flat.pr (Pr.drew _) (Flat.kept (kept_setCell _ _ _ _ hnS) (Flat.kept (kept_setCell _ _ _ _ hnS) hpi)))
          clear hw7 e0 e1 e2 e3 e4 f0 f1 f2 f3 f4
          have e0:=blk_cell (o:=0) hB;have e1:=blk_cell (o:=1) hB;have e2:=blk_cell (o:=2) hB;have e3:=blk_cell (o:=3) hB;have e4:=blk_cell (o:=4) hB
          simp only [List.getElem?_toArray,List.getElem?_cons_zero,List.getElem?_cons_succ] at e0 e1 e2 e3 e4
          have K:=dcheck_any 1 q 0 0 x2 pa pc w7 (by unfold maxLen;have:=Hs2.out;omega) (Flat.any hpi)
          obtain ⟨c,hc⟩:∃ c,c=dfault ⟨1,q,0,0,x2⟩:=⟨_,rfl⟩
          rw [← hc] at K
          have K:=Lib.hid K;have Hc:=Lib.hid hc
          clear hc
          by_cases hc0:c=0
          · obtain rfl:=hc0
            go_wp2_with (go_at_call 58;(with_reducible refine Calls.mono K.out ?_);rintro e w8 ⟨rfl,hp8⟩;have e0:=hp8.cell e0;have e1:=hp8.cell e1;have e2:=hp8.cell e2;have e3:=hp8.cell e3;have e4:=hp8.cell e4;have hp:=hp.trans hp8;have hbk:=hp.blk HbW.out;have z0:=blk_cell (o:=0) hbk;have z1:=blk_cell (o:=1) hbk;have z2:=blk_cell (o:=2) hbk;have z3:=blk_cell (o:=3) hbk;have z4:=blk_cell (o:=4) hbk;have y0:w8.frozen? ⟨w.heap.size,0,none⟩=false:=blk_frozen hbk;have y1:w8.frozen? ⟨w.heap.size,1,none⟩=false:=blk_frozen hbk;have y2:w8.frozen? ⟨w.heap.size,2,none⟩=false:=blk_frozen hbk;have y3:w8.frozen? ⟨w.heap.size,3,none⟩=false:=blk_frozen hbk;have y4:w8.frozen? ⟨w.heap.size,4,none⟩=false:=blk_frozen hbk;simp only [deeZ,List.getElem?_toArray,List.getElem?_cons_zero,List.getElem?_cons_succ] at z0 z1 z2 z3 z4)
            have hq5:=set5P (.int .i64 1) (.slice pa q.length pc) (.int .i64 0) (.int .i64 0) (.string x2) hbk
            have q0:=blk_cell (o:=0) hq5;have q1:=blk_cell (o:=1) hq5;have q2:=blk_cell (o:=2) hq5;have q3:=blk_cell (o:=3) hq5;have q4:=blk_cell (o:=4) hq5
            simp only [List.getElem?_toArray,List.getElem?_cons_zero,List.getElem?_cons_succ] at q0 q1 q2 q3 q4
            refine bodyPost_ret (v:=.tuple #[.agg #[.int .i64 1,.slice pa q.length pc,.int .i64 0,.int .i64 0,.string x2],.int .i64 0]) (by simp [results,Tryz.results29,go_sem,q0,q1,q2,q3,q4]) rfl ?_
            rw [Hz.out,chk_ok (d:=⟨1,q,0,0,x2⟩) Hc.out.symm];exact ⟨pa,pc,rfl,(ints5 (Flat.pr hp8 hpi) (fun h=>by have:=h.1;omega) _ _ _ _ _).mono (fun k h _=>by have:=h.1;show w.heap.size≤k;omega),by show (x2:ByteArray).size≤_;have:=Hs2.out;omega,pr5 (HwW.out.trans hp) (Nat.le_refl _) _ _ _ _ _⟩
          · have n0:((c:Int) != 0)=true:=by simp [bne_iff_ne];omega
            have n1:(c != 0)=true:=by simp [bne_iff_ne];omega
            have hbad:=chk_bad (d:=⟨1,q,0,0,x2⟩) (by rw [← Hc.out];exact hc0)
            rw [← Hc.out] at hbad
            have Hbad:=Lib.hid hbad
            clear hbad hc0
            go_wp2_with (go_at_call 58;(with_reducible refine Calls.mono K.out ?_);rintro e w8 ⟨rfl,hp8⟩;have e0:=hp8.cell e0;have hp:=hp.trans hp8;have hbk:=hp.blk HbW.out;have z0:=blk_cell (o:=0) hbk;have z1:=blk_cell (o:=1) hbk;have z2:=blk_cell (o:=2) hbk;have z3:=blk_cell (o:=3) hbk;have z4:=blk_cell (o:=4) hbk;have y0:w8.frozen? ⟨w.heap.size,0,none⟩=false:=blk_frozen hbk;have y1:w8.frozen? ⟨w.heap.size,1,none⟩=false:=blk_frozen hbk;have y2:w8.frozen? ⟨w.heap.size,2,none⟩=false:=blk_frozen hbk;have y3:w8.frozen? ⟨w.heap.size,3,none⟩=false:=blk_frozen hbk;have y4:w8.frozen? ⟨w.heap.size,4,none⟩=false:=blk_frozen hbk;simp only [deeZ,List.getElem?_toArray,List.getElem?_cons_zero,List.getElem?_cons_succ] at z0 z1 z2 z3 z4)
            have hq5:=set5P (.int .i64 0) (.slice none 0 0) (.int .i64 0) (.int .i64 0) (.string ⟨#[]⟩) hbk
            have q0:=blk_cell (o:=0) hq5;have q1:=blk_cell (o:=1) hq5;have q2:=blk_cell (o:=2) hq5;have q3:=blk_cell (o:=3) hq5;have q4:=blk_cell (o:=4) hq5
            simp only [List.getElem?_toArray,List.getElem?_cons_zero,List.getElem?_cons_succ] at q0 q1 q2 q3 q4
            refine bodyPost_ret (v:=.tuple #[.agg #[.int .i64 0,.slice none 0 0,.int .i64 0,.int .i64 0,.string ⟨#[]⟩],.int .i64 (c:Int)]) (by simp [results,Tryz.results29,go_sem,q0,q1,q2,q3,q4]) rfl ?_
            rw [Hz.out,Hbad.out];exact ⟨none,0,rfl,Flat.nil _ _ _ _ (Nat.zero_le _),(by show (⟨#[]⟩:ByteArray).size≤1000000;decide),pr5 (HwW.out.trans hp) (Nat.le_refl _) _ _ _ _ _⟩
        · have l3:((ps.length:Int)==3)=false:=by simp;omega
          have l3':(ps.length==3)=false:=by simp;omega
          have hz:=deedW_no h1n (fun e=>h3 e.2) (fun e=>by have:=e.1;rw [hN] at this;cases this) (fun e=>by have:=e.1;rw [hN] at this;cases this)
          rw [← hr] at hz
          have Hz:=Lib.hid hz
          clear hz hr h3
          go_upto_region 7 with (go_at_call 56;(with_reducible refine Calls.mono (PA.out _ hp) ?_);rintro e w5 ⟨pa,pc,rfl,hpi,hp5⟩)
          have hp5W:=hp.trans hp5
          obtain ⟨w6,hw6⟩:∃ w6,w6=w5.alloc (.cells #[.int .i64 0,.slice pa q.length pc,.int .i64 0,.int .i64 0,.string ⟨#[]⟩] 72):=⟨_,rfl⟩
          rw [← hw6]
          have hB:w6.heap[w5.heap.size]? = some (.cells #[.int .i64 0,.slice pa q.length pc,.int .i64 0,.int .i64 0,.string ⟨#[]⟩] 72 (0,0)):=by rw [hw6];exact heap_alloc_new w5 _
          have h56:Pr w5 w6:=by rw [hw6];exact Pr.alloc _ _
          have hlt6:w.heap.size < w5.heap.size:=by have:=hp5W.size;have:=HsW.out;omega
          have c0:=h56.cell (hp5.cell c0);have c1:=h56.cell (hp5.cell c1)
          have hpi:=Flat.pr h56 (hpi.mono (S':=fun k=>w.heap.size+1≤k∧k < w5.heap.size) (fun k h hl=>⟨by have:=Hp1.out.size;have:=HsW.out;have:w1.heap.size≤k:=h;omega,hl⟩))
          have hp:=hp5W.trans h56
          have hgW:g < w5.heap.size:=Nat.lt_of_lt_of_le hgW hp5.size
          clear hw6
          have hbk:=hp.blk HbW.out;have z0:=blk_cell (o:=0) hbk;have z1:=blk_cell (o:=1) hbk;have z2:=blk_cell (o:=2) hbk;have z3:=blk_cell (o:=3) hbk;have z4:=blk_cell (o:=4) hbk;have y0:w6.frozen? ⟨w.heap.size,0,none⟩=false:=blk_frozen hbk;have y1:w6.frozen? ⟨w.heap.size,1,none⟩=false:=blk_frozen hbk;have y2:w6.frozen? ⟨w.heap.size,2,none⟩=false:=blk_frozen hbk;have y3:w6.frozen? ⟨w.heap.size,3,none⟩=false:=blk_frozen hbk;have y4:w6.frozen? ⟨w.heap.size,4,none⟩=false:=blk_frozen hbk;simp only [deeZ,List.getElem?_toArray,List.getElem?_cons_zero,List.getElem?_cons_succ] at z0 z1 z2 z3 z4
          go_wp2_with fail
          have hq5:=set5P (.int .i64 0) (.slice none 0 0) (.int .i64 0) (.int .i64 0) (.string ⟨#[]⟩) hbk
          have q0:=blk_cell (o:=0) hq5;have q1:=blk_cell (o:=1) hq5;have q2:=blk_cell (o:=2) hq5;have q3:=blk_cell (o:=3) hq5;have q4:=blk_cell (o:=4) hq5
          simp only [List.getElem?_toArray,List.getElem?_cons_zero,List.getElem?_cons_succ] at q0 q1 q2 q3 q4
          refine bodyPost_ret (v:=.tuple #[.agg #[.int .i64 0,.slice none 0 0,.int .i64 0,.int .i64 0,.string ⟨#[]⟩],.int .i64 6]) (by simp [results,Tryz.results29,go_sem,q0,q1,q2,q3,q4]) rfl ?_
          rw [Hz.out];exact ⟨none,0,rfl,Flat.nil _ _ _ _ (Nat.zero_le _),(by show (⟨#[]⟩:ByteArray).size≤1000000;decide),pr5 (HwW.out.trans hp) (Nat.le_refl _) _ _ _ _ _⟩
      · have bN:(x0.toList==[110,97,109,101])=false:=by rw [Hl0.out,Bool.eq_false_iff];intro e;exact hN (by simpa [wName] using e)
        by_cases hD:ps[0]=wDelete
        · have bD:(x0.toList==[100,101,108,101,116,101])=true:=by rw [Hl0.out,hD];rfl
          have bD':x0.toList=[100,101,108,101,116,101]:=by rw [Hl0.out,hD];rfl
          clear bN
          by_cases h3:ps.length=2
          · have hz:=deedW_delete h3 hD Hop.out.symm
            rw [← hr] at hz
            have Hz:=Lib.hid hz
            clear hz hr
            have l3:((ps.length:Int)==2)=true:=by simp;omega
            have l3':(ps.length==2)=true:=by simp;omega
            clear h3
            go_upto_region 7 with (go_at_call 56;(with_reducible refine Calls.mono (PA.out _ hp) ?_);rintro e w5 ⟨pa,pc,rfl,hpi,hp5⟩)
            have hp5W:=hp.trans hp5
            obtain ⟨w6,hw6⟩:∃ w6,w6=w5.alloc (.cells #[.int .i64 0,.slice pa q.length pc,.int .i64 0,.int .i64 0,.string ⟨#[]⟩] 72):=⟨_,rfl⟩
            rw [← hw6]
            have hB:w6.heap[w5.heap.size]? = some (.cells #[.int .i64 0,.slice pa q.length pc,.int .i64 0,.int .i64 0,.string ⟨#[]⟩] 72 (0,0)):=by rw [hw6];exact heap_alloc_new w5 _
            have h56:Pr w5 w6:=by rw [hw6];exact Pr.alloc _ _
            have hlt6:w.heap.size < w5.heap.size:=by have:=hp5W.size;have:=HsW.out;omega
            have c0:=h56.cell (hp5.cell c0);have c1:=h56.cell (hp5.cell c1)
            have hpi:=Flat.pr h56 (hpi.mono (S':=fun k=>w.heap.size+1≤k∧k < w5.heap.size) (fun k h hl=>⟨by have:=Hp1.out.size;have:=HsW.out;have:w1.heap.size≤k:=h;omega,hl⟩))
            have hp:=hp5W.trans h56
            have hgW:g < w5.heap.size:=Nat.lt_of_lt_of_le hgW hp5.size
            clear hw6
            have e0:=blk_cell (o:=0) hB;have e1:=blk_cell (o:=1) hB;have e2:=blk_cell (o:=2) hB;have e3:=blk_cell (o:=3) hB;have e4:=blk_cell (o:=4) hB;have f0:w6.frozen? ⟨w5.heap.size,0,none⟩=false:=blk_frozen hB;have f1:w6.frozen? ⟨w5.heap.size,1,none⟩=false:=blk_frozen hB;have f2:w6.frozen? ⟨w5.heap.size,2,none⟩=false:=blk_frozen hB;have f3:w6.frozen? ⟨w5.heap.size,3,none⟩=false:=blk_frozen hB;have f4:w6.frozen? ⟨w5.heap.size,4,none⟩=false:=blk_frozen hB;simp only [List.getElem?_toArray,List.getElem?_cons_zero,List.getElem?_cons_succ] at e0 e1 e2 e3 e4
            go_upto_region 17 with fail
            obtain ⟨w7,hw7⟩:∃ w7,w7=w6.setCell ⟨w5.heap.size,0,none⟩ (.int .i64 2):=⟨_,rfl⟩
            rw [← hw7]
            have hge:W.heap.size≤w5.heap.size:=hp5W.size
            have hnS:¬ (fun k=>w.heap.size+1≤k∧k < w5.heap.size) w5.heap.size:=fun h=>Nat.lt_irrefl _ h.2
            have hB:w7.heap[w5.heap.size]? = some (.cells #[.int .i64 2,.slice pa q.length pc,.int .i64 0,.int .i64 0,.string ⟨#[]⟩] 72 (0,0)):=by rw [hw7];show ((w6.setCell ⟨w5.heap.size,0,none⟩ (.int .i64 2))).heap[w5.heap.size]? = _;have:=(blk_set (o:=0) hB (.int .i64 2));simpa using this
            have hp:Pr W w7:=by rw [hw7];exact (hp.setCell hge (.int .i64 2))
            have hpi:Ints (fun k=>w.heap.size+1≤k∧k < w5.heap.size) w7 q pa pc:=by rw [hw7];exact (Flat.kept (kept_setCell _ _ _ _ hnS) hpi)
            clear hw7 e0 e1 e2 e3 e4 f0 f1 f2 f3 f4
            have e0:=blk_cell (o:=0) hB;have e1:=blk_cell (o:=1) hB;have e2:=blk_cell (o:=2) hB;have e3:=blk_cell (o:=3) hB;have e4:=blk_cell (o:=4) hB
            simp only [List.getElem?_toArray,List.getElem?_cons_zero,List.getElem?_cons_succ] at e0 e1 e2 e3 e4
            have K:=dcheck_any 2 q 0 0 ⟨#[]⟩ pa pc w7 (by unfold maxLen;show (⟨#[]⟩:ByteArray).size≤_;decide) (Flat.any hpi)
            obtain ⟨c,hc⟩:∃ c,c=dfault ⟨2,q,0,0,⟨#[]⟩⟩:=⟨_,rfl⟩
            rw [← hc] at K
            have K:=Lib.hid K;have Hc:=Lib.hid hc
            clear hc
            by_cases hc0:c=0
            · obtain rfl:=hc0
              go_wp2_with (go_at_call 58;(with_reducible refine Calls.mono K.out ?_);rintro e w8 ⟨rfl,hp8⟩;have e0:=hp8.cell e0;have e1:=hp8.cell e1;have e2:=hp8.cell e2;have e3:=hp8.cell e3;have e4:=hp8.cell e4;have hp:=hp.trans hp8;have hbk:=hp.blk HbW.out;have z0:=blk_cell (o:=0) hbk;have z1:=blk_cell (o:=1) hbk;have z2:=blk_cell (o:=2) hbk;have z3:=blk_cell (o:=3) hbk;have z4:=blk_cell (o:=4) hbk;have y0:w8.frozen? ⟨w.heap.size,0,none⟩=false:=blk_frozen hbk;have y1:w8.frozen? ⟨w.heap.size,1,none⟩=false:=blk_frozen hbk;have y2:w8.frozen? ⟨w.heap.size,2,none⟩=false:=blk_frozen hbk;have y3:w8.frozen? ⟨w.heap.size,3,none⟩=false:=blk_frozen hbk;have y4:w8.frozen? ⟨w.heap.size,4,none⟩=false:=blk_frozen hbk;simp only [deeZ,List.getElem?_toArray,List.getElem?_cons_zero,List.getElem?_cons_succ] at z0 z1 z2 z3 z4)
              have hq5:=set5P (.int .i64 2) (.slice pa q.length pc) (.int .i64 0) (.int .i64 0) (.string ⟨#[]⟩) hbk
              have q0:=blk_cell (o:=0) hq5;have q1:=blk_cell (o:=1) hq5;have q2:=blk_cell (o:=2) hq5;have q3:=blk_cell (o:=3) hq5;have q4:=blk_cell (o:=4) hq5
              simp only [List.getElem?_toArray,List.getElem?_cons_zero,List.getElem?_cons_succ] at q0 q1 q2 q3 q4
              refine bodyPost_ret (v:=.tuple #[.agg #[.int .i64 2,.slice pa q.length pc,.int .i64 0,.int .i64 0,.string ⟨#[]⟩],.int .i64 0]) (by simp [results,Tryz.results29,go_sem,q0,q1,q2,q3,q4]) rfl ?_
              rw [Hz.out,chk_ok (d:=⟨2,q,0,0,⟨#[]⟩⟩) Hc.out.symm];exact ⟨pa,pc,rfl,(ints5 (Flat.pr hp8 hpi) (fun h=>by have:=h.1;omega) _ _ _ _ _).mono (fun k h _=>by have:=h.1;show w.heap.size≤k;omega),by show (⟨#[]⟩:ByteArray).size≤_;show (⟨#[]⟩:ByteArray).size≤_;decide,pr5 (HwW.out.trans hp) (Nat.le_refl _) _ _ _ _ _⟩
            · have n0:((c:Int) != 0)=true:=by simp [bne_iff_ne];omega
              have n1:(c != 0)=true:=by simp [bne_iff_ne];omega
              have hbad:=chk_bad (d:=⟨2,q,0,0,⟨#[]⟩⟩) (by rw [← Hc.out];exact hc0)
              rw [← Hc.out] at hbad
              have Hbad:=Lib.hid hbad
              clear hbad hc0
              go_wp2_with (go_at_call 58;(with_reducible refine Calls.mono K.out ?_);rintro e w8 ⟨rfl,hp8⟩;have e0:=hp8.cell e0;have hp:=hp.trans hp8;have hbk:=hp.blk HbW.out;have z0:=blk_cell (o:=0) hbk;have z1:=blk_cell (o:=1) hbk;have z2:=blk_cell (o:=2) hbk;have z3:=blk_cell (o:=3) hbk;have z4:=blk_cell (o:=4) hbk;have y0:w8.frozen? ⟨w.heap.size,0,none⟩=false:=blk_frozen hbk;have y1:w8.frozen? ⟨w.heap.size,1,none⟩=false:=blk_frozen hbk;have y2:w8.frozen? ⟨w.heap.size,2,none⟩=false:=blk_frozen hbk;have y3:w8.frozen? ⟨w.heap.size,3,none⟩=false:=blk_frozen hbk;have y4:w8.frozen? ⟨w.heap.size,4,none⟩=false:=blk_frozen hbk;simp only [deeZ,List.getElem?_toArray,List.getElem?_cons_zero,List.getElem?_cons_succ] at z0 z1 z2 z3 z4)
              have hq5:=set5P (.int .i64 0) (.slice none 0 0) (.int .i64 0) (.int .i64 0) (.string ⟨#[]⟩) hbk
              have q0:=blk_cell (o:=0) hq5;have q1:=blk_cell (o:=1) hq5;have q2:=blk_cell (o:=2) hq5;have q3:=blk_cell (o:=3) hq5;have q4:=blk_cell (o:=4) hq5
              simp only [List.getElem?_toArray,List.getElem?_cons_zero,List.getElem?_cons_succ] at q0 q1 q2 q3 q4
              refine bodyPost_ret (v:=.tuple #[.agg #[.int .i64 0,.slice none 0 0,.int .i64 0,.int .i64 0,.string ⟨#[]⟩],.int .i64 (c:Int)]) (by simp [results,Tryz.results29,go_sem,q0,q1,q2,q3,q4]) rfl ?_
              rw [Hz.out,Hbad.out];exact ⟨none,0,rfl,Flat.nil _ _ _ _ (Nat.zero_le _),(by show (⟨#[]⟩:ByteArray).size≤1000000;decide),pr5 (HwW.out.trans hp) (Nat.le_refl _) _ _ _ _ _⟩
          · have l3:((ps.length:Int)==2)=false:=by simp;omega
            have l3':(ps.length==2)=false:=by simp;omega
            have hz:=deedW_no h1n (fun e=>by have:=e.1;rw [hD] at this;cases this) (fun e=>h3 e.2) (fun e=>by have:=e.1;rw [hD] at this;cases this)
            rw [← hr] at hz
            have Hz:=Lib.hid hz
            clear hz hr h3
            go_upto_region 7 with (go_at_call 56;(with_reducible refine Calls.mono (PA.out _ hp) ?_);rintro e w5 ⟨pa,pc,rfl,hpi,hp5⟩)
            have hp5W:=hp.trans hp5
            obtain ⟨w6,hw6⟩:∃ w6,w6=w5.alloc (.cells #[.int .i64 0,.slice pa q.length pc,.int .i64 0,.int .i64 0,.string ⟨#[]⟩] 72):=⟨_,rfl⟩
            rw [← hw6]
            have hB:w6.heap[w5.heap.size]? = some (.cells #[.int .i64 0,.slice pa q.length pc,.int .i64 0,.int .i64 0,.string ⟨#[]⟩] 72 (0,0)):=by rw [hw6];exact heap_alloc_new w5 _
            have h56:Pr w5 w6:=by rw [hw6];exact Pr.alloc _ _
            have hlt6:w.heap.size < w5.heap.size:=by have:=hp5W.size;have:=HsW.out;omega
            have c0:=h56.cell (hp5.cell c0);have c1:=h56.cell (hp5.cell c1)
            have hpi:=Flat.pr h56 (hpi.mono (S':=fun k=>w.heap.size+1≤k∧k < w5.heap.size) (fun k h hl=>⟨by have:=Hp1.out.size;have:=HsW.out;have:w1.heap.size≤k:=h;omega,hl⟩))
            have hp:=hp5W.trans h56
            have hgW:g < w5.heap.size:=Nat.lt_of_lt_of_le hgW hp5.size
            clear hw6
            have hbk:=hp.blk HbW.out;have z0:=blk_cell (o:=0) hbk;have z1:=blk_cell (o:=1) hbk;have z2:=blk_cell (o:=2) hbk;have z3:=blk_cell (o:=3) hbk;have z4:=blk_cell (o:=4) hbk;have y0:w6.frozen? ⟨w.heap.size,0,none⟩=false:=blk_frozen hbk;have y1:w6.frozen? ⟨w.heap.size,1,none⟩=false:=blk_frozen hbk;have y2:w6.frozen? ⟨w.heap.size,2,none⟩=false:=blk_frozen hbk;have y3:w6.frozen? ⟨w.heap.size,3,none⟩=false:=blk_frozen hbk;have y4:w6.frozen? ⟨w.heap.size,4,none⟩=false:=blk_frozen hbk;simp only [deeZ,List.getElem?_toArray,List.getElem?_cons_zero,List.getElem?_cons_succ] at z0 z1 z2 z3 z4
            go_wp2_with fail
            have hq5:=set5P (.int .i64 0) (.slice none 0 0) (.int .i64 0) (.int .i64 0) (.string ⟨#[]⟩) hbk
            have q0:=blk_cell (o:=0) hq5;have q1:=blk_cell (o:=1) hq5;have q2:=blk_cell (o:=2) hq5;have q3:=blk_cell (o:=3) hq5;have q4:=blk_cell (o:=4) hq5
            simp only [List.getElem?_toArray,List.getElem?_cons_zero,List.getElem?_cons_succ] at q0 q1 q2 q3 q4
            refine bodyPost_ret (v:=.tuple #[.agg #[.int .i64 0,.slice none 0 0,.int .i64 0,.int .i64 0,.string ⟨#[]⟩],.int .i64 6]) (by simp [results,Tryz.results29,go_sem,q0,q1,q2,q3,q4]) rfl ?_
            rw [Hz.out];exact ⟨none,0,rfl,Flat.nil _ _ _ _ (Nat.zero_le _),(by show (⟨#[]⟩:ByteArray).size≤1000000;decide),pr5 (HwW.out.trans hp) (Nat.le_refl _) _ _ _ _ _⟩
        · have bD:(x0.toList==[100,101,108,101,116,101])=false:=by rw [Hl0.out,Bool.eq_false_iff];intro e;exact hD (by simpa [wDelete] using e)
          by_cases hI:ps[0]=wInsert
          · have bI:(x0.toList==[105,110,115,101,114,116])=true:=by rw [Hl0.out,hI];rfl
            have bI':x0.toList=[105,110,115,101,114,116]:=by rw [Hl0.out,hI];rfl
            clear bN bD
            by_cases h3:ps.length=5
            · have i2:2 < ps.length:=by omega
              have i3:3 < ps.length:=by omega
              have i4:4 < ps.length:=by omega
              have hz:=deedW_insert h3 hI Hop.out.symm
              obtain ⟨x2,hx2⟩:∃ x:ByteArray,x=⟨⟨ps[2]⟩⟩:=⟨_,rfl⟩
              obtain ⟨x3,hx3⟩:∃ x:ByteArray,x=⟨⟨ps[3]⟩⟩:=⟨_,rfl⟩
              obtain ⟨x4,hx4⟩:∃ x:ByteArray,x=⟨⟨ps[4]⟩⟩:=⟨_,rfl⟩
              obtain ⟨o2,ho2⟩:∃ x,x=fewN ps[2]:=⟨_,rfl⟩
              obtain ⟨o3,ho3⟩:∃ x,x=fewN ps[3]:=⟨_,rfl⟩
              rw [← hr,← hx4,← ho2,← ho3] at hz
              have hs2:x2.size≤1000000∧x3.size≤1000000∧x4.size≤1000000:=by
                have h1:=Hcl.out ps[2] (List.getElem_mem _)
                have h3:=Hcl.out ps[3] (List.getElem_mem _)
                have h4:=Hcl.out ps[4] (List.getElem_mem _)
                rw [sizeL] at h1 h3 h4
                have g2:x2.size=ps[2].length:=by rw [hx2];rfl
                have g3:x3.size=ps[3].length:=by rw [hx3];rfl
                have g4:x4.size=ps[4].length:=by rw [hx4];rfl
                omega
              have F2:∀ W',Pr W W'→Calls Tryz.prog 57 #[.string x2] W' fun e w'=>∃ v:Int,e=.returned (.tuple #[.int .i64 v,.bool o2.isSome])∧(∀ n,o2=some n→v=(n:Int))∧Pr W' w':=fun W' h=>by
                rw [ho2,← show x2.data.toList=ps[2] by rw [hx2]];exact small_any x2 hs2.1 W' (HW.out.pr h)
              have F3:∀ W',Pr W W'→Calls Tryz.prog 57 #[.string x3] W' fun e w'=>∃ v:Int,e=.returned (.tuple #[.int .i64 v,.bool o3.isSome])∧(∀ n,o3=some n→v=(n:Int))∧Pr W' w':=fun W' h=>by
                rw [ho3,← show x3.data.toList=ps[3] by rw [hx3]];exact small_any x3 hs2.2.1 W' (HW.out.pr h)
              have F2:=Lib.hid F2;have F3:=Lib.hid F3
              have Hs2:=Lib.hid hs2;have Hz0:=Lib.hid hz;have Hx2:=Lib.hid hx2;have Hx3:=Lib.hid hx3;have Hx4:=Lib.hid hx4
              have l3:((ps.length:Int)==5)=true:=by simp;omega
              have l3':(ps.length==5)=true:=by simp;omega
              have g2:(2:Int) < ps.length:=by omega
              have g3:(3:Int) < ps.length:=by omega
              have g4:(4:Int) < ps.length:=by omega
              have c2:=Hcell.out 2 i2;have c3:=Hcell.out 3 i3;have c4:=Hcell.out 4 i4
              rw [← hx2] at c2
              rw [← hx3] at c3
              rw [← hx4] at c4
              clear hx2 hx3 hx4 ho2 ho3 hz hr h3 hs2
              go_upto_region 7 with (go_at_call 56;(with_reducible refine Calls.mono (PA.out _ hp) ?_);rintro e w5 ⟨pa,pc,rfl,hpi,hp5⟩)
              have hp5W:=hp.trans hp5
              obtain ⟨w6,hw6⟩:∃ w6,w6=w5.alloc (.cells #[.int .i64 0,.slice pa q.length pc,.int .i64 0,.int .i64 0,.string ⟨#[]⟩] 72):=⟨_,rfl⟩
              rw [← hw6]
              have hB:w6.heap[w5.heap.size]? = some (.cells #[.int .i64 0,.slice pa q.length pc,.int .i64 0,.int .i64 0,.string ⟨#[]⟩] 72 (0,0)):=by rw [hw6];exact heap_alloc_new w5 _
              have h56:Pr w5 w6:=by rw [hw6];exact Pr.alloc _ _
              have hlt6:w.heap.size < w5.heap.size:=by have:=hp5W.size;have:=HsW.out;omega
              have c0:=h56.cell (hp5.cell c0);have c1:=h56.cell (hp5.cell c1)
              have hpi:=Flat.pr h56 (hpi.mono (S':=fun k=>w.heap.size+1≤k∧k < w5.heap.size) (fun k h hl=>⟨by have:=Hp1.out.size;have:=HsW.out;have:w1.heap.size≤k:=h;omega,hl⟩))
              have hp:=hp5W.trans h56
              have hgW:g < w5.heap.size:=Nat.lt_of_lt_of_le hgW hp5.size
              clear hw6
              have c2:=h56.cell (hp5.cell c2);have c3:=h56.cell (hp5.cell c3);have c4:=h56.cell (hp5.cell c4)
              go_upto_region 13 with (go_at_call 57;(with_reducible refine Calls.mono (F2.out _ hp) ?_);rintro e wa ⟨va,rfl,hva,hpa⟩)
              have c3:=hpa.cell c3;have c4:=hpa.cell c4;have hpA:=hp.trans hpa
              go_upto_region 14 with (go_at_call 57;(with_reducible refine Calls.mono (F3.out _ hpA) ?_);rintro e wb ⟨vb,rfl,hvb,hpb⟩)
              have c4:=hpb.cell c4
              have hB:=(hpa.trans hpb).blk hB
              have hpi:=Flat.pr (hpa.trans hpb) hpi
              have hp:=hpA.trans hpb
              cases o2 with
              | none =>
                have Hz:=Lib.hid (show r=(Dee.zero,6) from Hz0.out)
                have hbk:=hp.blk HbW.out;have z0:=blk_cell (o:=0) hbk;have z1:=blk_cell (o:=1) hbk;have z2:=blk_cell (o:=2) hbk;have z3:=blk_cell (o:=3) hbk;have z4:=blk_cell (o:=4) hbk;have y0:wb.frozen? ⟨w.heap.size,0,none⟩=false:=blk_frozen hbk;have y1:wb.frozen? ⟨w.heap.size,1,none⟩=false:=blk_frozen hbk;have y2:wb.frozen? ⟨w.heap.size,2,none⟩=false:=blk_frozen hbk;have y3:wb.frozen? ⟨w.heap.size,3,none⟩=false:=blk_frozen hbk;have y4:wb.frozen? ⟨w.heap.size,4,none⟩=false:=blk_frozen hbk;simp only [deeZ,List.getElem?_toArray,List.getElem?_cons_zero,List.getElem?_cons_succ] at z0 z1 z2 z3 z4
                go_wp2_with fail
                have hq5:=set5P (.int .i64 0) (.slice none 0 0) (.int .i64 0) (.int .i64 0) (.string ⟨#[]⟩) hbk
                have q0:=blk_cell (o:=0) hq5;have q1:=blk_cell (o:=1) hq5;have q2:=blk_cell (o:=2) hq5;have q3:=blk_cell (o:=3) hq5;have q4:=blk_cell (o:=4) hq5
                simp only [List.getElem?_toArray,List.getElem?_cons_zero,List.getElem?_cons_succ] at q0 q1 q2 q3 q4
                refine bodyPost_ret (v:=.tuple #[.agg #[.int .i64 0,.slice none 0 0,.int .i64 0,.int .i64 0,.string ⟨#[]⟩],.int .i64 6]) (by simp [results,Tryz.results29,go_sem,q0,q1,q2,q3,q4]) rfl ?_
                rw [Hz.out];exact ⟨none,0,rfl,Flat.nil _ _ _ _ (Nat.zero_le _),(by show (⟨#[]⟩:ByteArray).size≤1000000;decide),pr5 (HwW.out.trans hp) (Nat.le_refl _) _ _ _ _ _⟩
              | some na =>
                cases o3 with
                | none =>
                  have Hz:=Lib.hid (show r=(Dee.zero,6) from Hz0.out)
                  have hbk:=hp.blk HbW.out;have z0:=blk_cell (o:=0) hbk;have z1:=blk_cell (o:=1) hbk;have z2:=blk_cell (o:=2) hbk;have z3:=blk_cell (o:=3) hbk;have z4:=blk_cell (o:=4) hbk;have y0:wb.frozen? ⟨w.heap.size,0,none⟩=false:=blk_frozen hbk;have y1:wb.frozen? ⟨w.heap.size,1,none⟩=false:=blk_frozen hbk;have y2:wb.frozen? ⟨w.heap.size,2,none⟩=false:=blk_frozen hbk;have y3:wb.frozen? ⟨w.heap.size,3,none⟩=false:=blk_frozen hbk;have y4:wb.frozen? ⟨w.heap.size,4,none⟩=false:=blk_frozen hbk;simp only [deeZ,List.getElem?_toArray,List.getElem?_cons_zero,List.getElem?_cons_succ] at z0 z1 z2 z3 z4
                  go_wp2_with fail
                  have hq5:=set5P (.int .i64 0) (.slice none 0 0) (.int .i64 0) (.int .i64 0) (.string ⟨#[]⟩) hbk
                  have q0:=blk_cell (o:=0) hq5;have q1:=blk_cell (o:=1) hq5;have q2:=blk_cell (o:=2) hq5;have q3:=blk_cell (o:=3) hq5;have q4:=blk_cell (o:=4) hq5
                  simp only [List.getElem?_toArray,List.getElem?_cons_zero,List.getElem?_cons_succ] at q0 q1 q2 q3 q4
                  refine bodyPost_ret (v:=.tuple #[.agg #[.int .i64 0,.slice none 0 0,.int .i64 0,.int .i64 0,.string ⟨#[]⟩],.int .i64 6]) (by simp [results,Tryz.results29,go_sem,q0,q1,q2,q3,q4]) rfl ?_
                  rw [Hz.out];exact ⟨none,0,rfl,Flat.nil _ _ _ _ (Nat.zero_le _),(by show (⟨#[]⟩:ByteArray).size≤1000000;decide),pr5 (HwW.out.trans hp) (Nat.le_refl _) _ _ _ _ _⟩
                | some nb =>
                  obtain rfl:=hva na rfl
                  obtain rfl:=hvb nb rfl
                  have Hz:=Lib.hid (show r=chk ⟨3,q,(na:Int),(nb:Int),x4⟩ from Hz0.out)
                  have e0:=blk_cell (o:=0) hB;have e1:=blk_cell (o:=1) hB;have e2:=blk_cell (o:=2) hB;have e3:=blk_cell (o:=3) hB;have e4:=blk_cell (o:=4) hB;have f0:wb.frozen? ⟨w5.heap.size,0,none⟩=false:=blk_frozen hB;have f1:wb.frozen? ⟨w5.heap.size,1,none⟩=false:=blk_frozen hB;have f2:wb.frozen? ⟨w5.heap.size,2,none⟩=false:=blk_frozen hB;have f3:wb.frozen? ⟨w5.heap.size,3,none⟩=false:=blk_frozen hB;have f4:wb.frozen? ⟨w5.heap.size,4,none⟩=false:=blk_frozen hB;simp only [List.getElem?_toArray,List.getElem?_cons_zero,List.getElem?_cons_succ] at e0 e1 e2 e3 e4
                  go_upto_region 16 with fail
                  go_region
                  obtain ⟨w7,hw7⟩:∃ w7,w7=((((wb.setCell ⟨w5.heap.size,0,none⟩ (.int .i64 3)).setCell ⟨w5.heap.size,2,none⟩ (.int .i64 (na:Int))).setCell ⟨w5.heap.size,3,none⟩ (.int .i64 (nb:Int))).setCell ⟨w5.heap.size,4,none⟩ (.string x4)).drew:=⟨_,rfl⟩
                  rw [← hw7]
                  have hge:W.heap.size≤w5.heap.size:=hp5W.size
                  have hnS:¬ (fun k=>w.heap.size+1≤k∧k < w5.heap.size) w5.heap.size:=fun h=>Nat.lt_irrefl _ h.2
                  have hB:w7.heap[w5.heap.size]? = some (.cells #[.int .i64 3,.slice pa q.length pc,.int .i64 (na:Int),.int .i64 (nb:Int),.string x4] 72 (0,0)):=by rw [hw7];show (((((wb.setCell ⟨w5.heap.size,0,none⟩ (.int .i64 3)).setCell ⟨w5.heap.size,2,none⟩ (.int .i64 (na:Int))).setCell ⟨w5.heap.size,3,none⟩ (.int .i64 (nb:Int))).setCell ⟨w5.heap.size,4,none⟩ (.string x4))).heap[w5.heap.size]? = _;have:=(blk_set (o:=4) (blk_set (o:=3) (blk_set (o:=2) (blk_set (o:=0) hB (.int .i64 3)) (.int .i64 (na:Int))) (.int .i64 (nb:Int))) (.string x4));simpa using this
                  have hp:Pr W w7:=by rw [hw7];exact (((((hp.setCell hge (.int .i64 3)).setCell hge (.int .i64 (na:Int))).setCell hge (.int .i64 (nb:Int))).setCell hge (.string x4)).drew')
                  have hpi:Ints (fun k=>w.heap.size+1≤k∧k < w5.heap.size) w7 q pa pc:=by rw [hw7];exact (Flat.pr (Pr.drew _) (Flat.kept (kept_setCell _ _ _ _ hnS) (Flat.kept (kept_setCell _ _ _ _ hnS) (Flat.kept (kept_setCell _ _ _ _ hnS) (Flat.kept (kept_setCell _ _ _ _ hnS) hpi)))))
                  clear hw7 e0 e1 e2 e3 e4 f0 f1 f2 f3 f4
                  have e0:=blk_cell (o:=0) hB;have e1:=blk_cell (o:=1) hB;have e2:=blk_cell (o:=2) hB;have e3:=blk_cell (o:=3) hB;have e4:=blk_cell (o:=4) hB
                  simp only [List.getElem?_toArray,List.getElem?_cons_zero,List.getElem?_cons_succ] at e0 e1 e2 e3 e4
                  have K:=dcheck_any 3 q (na:Int) (nb:Int) x4 pa pc w7 (by unfold maxLen;have:=Hs2.out;omega) (Flat.any hpi)
                  obtain ⟨c,hc⟩:∃ c,c=dfault ⟨3,q,(na:Int),(nb:Int),x4⟩:=⟨_,rfl⟩
                  rw [← hc] at K
                  have K:=Lib.hid K;have Hc:=Lib.hid hc
                  clear hc
                  by_cases hc0:c=0
                  · obtain rfl:=hc0
                    go_wp2_with (go_at_call 58;(with_reducible refine Calls.mono K.out ?_);rintro e w8 ⟨rfl,hp8⟩;have e0:=hp8.cell e0;have e1:=hp8.cell e1;have e2:=hp8.cell e2;have e3:=hp8.cell e3;have e4:=hp8.cell e4;have hp:=hp.trans hp8;have hbk:=hp.blk HbW.out;have z0:=blk_cell (o:=0) hbk;have z1:=blk_cell (o:=1) hbk;have z2:=blk_cell (o:=2) hbk;have z3:=blk_cell (o:=3) hbk;have z4:=blk_cell (o:=4) hbk;have y0:w8.frozen? ⟨w.heap.size,0,none⟩=false:=blk_frozen hbk;have y1:w8.frozen? ⟨w.heap.size,1,none⟩=false:=blk_frozen hbk;have y2:w8.frozen? ⟨w.heap.size,2,none⟩=false:=blk_frozen hbk;have y3:w8.frozen? ⟨w.heap.size,3,none⟩=false:=blk_frozen hbk;have y4:w8.frozen? ⟨w.heap.size,4,none⟩=false:=blk_frozen hbk;simp only [deeZ,List.getElem?_toArray,List.getElem?_cons_zero,List.getElem?_cons_succ] at z0 z1 z2 z3 z4)
                    have hq5:=set5P (.int .i64 3) (.slice pa q.length pc) (.int .i64 (na:Int)) (.int .i64 (nb:Int)) (.string x4) hbk
                    have q0:=blk_cell (o:=0) hq5;have q1:=blk_cell (o:=1) hq5;have q2:=blk_cell (o:=2) hq5;have q3:=blk_cell (o:=3) hq5;have q4:=blk_cell (o:=4) hq5
                    simp only [List.getElem?_toArray,List.getElem?_cons_zero,List.getElem?_cons_succ] at q0 q1 q2 q3 q4
                    refine bodyPost_ret (v:=.tuple #[.agg #[.int .i64 3,.slice pa q.length pc,.int .i64 (na:Int),.int .i64 (nb:Int),.string x4],.int .i64 0]) (by simp [results,Tryz.results29,go_sem,q0,q1,q2,q3,q4]) rfl ?_
                    rw [Hz.out,chk_ok (d:=⟨3,q,(na:Int),(nb:Int),x4⟩) Hc.out.symm];exact ⟨pa,pc,rfl,(ints5 (Flat.pr hp8 hpi) (fun h=>by have:=h.1;omega) _ _ _ _ _).mono (fun k h _=>by have:=h.1;show w.heap.size≤k;omega),by show (x4:ByteArray).size≤_;have:=Hs2.out;omega,pr5 (HwW.out.trans hp) (Nat.le_refl _) _ _ _ _ _⟩
                  · have n0:((c:Int) != 0)=true:=by simp [bne_iff_ne];omega
                    have n1:(c != 0)=true:=by simp [bne_iff_ne];omega
                    have hbad:=chk_bad (d:=⟨3,q,(na:Int),(nb:Int),x4⟩) (by rw [← Hc.out];exact hc0)
                    rw [← Hc.out] at hbad
                    have Hbad:=Lib.hid hbad
                    clear hbad hc0
                    go_wp2_with (go_at_call 58;(with_reducible refine Calls.mono K.out ?_);rintro e w8 ⟨rfl,hp8⟩;have e0:=hp8.cell e0;have hp:=hp.trans hp8;have hbk:=hp.blk HbW.out;have z0:=blk_cell (o:=0) hbk;have z1:=blk_cell (o:=1) hbk;have z2:=blk_cell (o:=2) hbk;have z3:=blk_cell (o:=3) hbk;have z4:=blk_cell (o:=4) hbk;have y0:w8.frozen? ⟨w.heap.size,0,none⟩=false:=blk_frozen hbk;have y1:w8.frozen? ⟨w.heap.size,1,none⟩=false:=blk_frozen hbk;have y2:w8.frozen? ⟨w.heap.size,2,none⟩=false:=blk_frozen hbk;have y3:w8.frozen? ⟨w.heap.size,3,none⟩=false:=blk_frozen hbk;have y4:w8.frozen? ⟨w.heap.size,4,none⟩=false:=blk_frozen hbk;simp only [deeZ,List.getElem?_toArray,List.getElem?_cons_zero,List.getElem?_cons_succ] at z0 z1 z2 z3 z4)
                    have hq5:=set5P (.int .i64 0) (.slice none 0 0) (.int .i64 0) (.int .i64 0) (.string ⟨#[]⟩) hbk
                    have q0:=blk_cell (o:=0) hq5;have q1:=blk_cell (o:=1) hq5;have q2:=blk_cell (o:=2) hq5;have q3:=blk_cell (o:=3) hq5;have q4:=blk_cell (o:=4) hq5
                    simp only [List.getElem?_toArray,List.getElem?_cons_zero,List.getElem?_cons_succ] at q0 q1 q2 q3 q4
                    refine bodyPost_ret (v:=.tuple #[.agg #[.int .i64 0,.slice none 0 0,.int .i64 0,.int .i64 0,.string ⟨#[]⟩],.int .i64 (c:Int)]) (by simp [results,Tryz.results29,go_sem,q0,q1,q2,q3,q4]) rfl ?_
                    rw [Hz.out,Hbad.out];exact ⟨none,0,rfl,Flat.nil _ _ _ _ (Nat.zero_le _),(by show (⟨#[]⟩:ByteArray).size≤1000000;decide),pr5 (HwW.out.trans hp) (Nat.le_refl _) _ _ _ _ _⟩
            · have l3:((ps.length:Int)==5)=false:=by simp;omega
              have l3':(ps.length==5)=false:=by simp;omega
              have hz:=deedW_no h1n (fun e=>by have:=e.1;rw [hI] at this;cases this) (fun e=>by have:=e.1;rw [hI] at this;cases this) (fun e=>h3 e.2)
              rw [← hr] at hz
              have Hz:=Lib.hid hz
              clear hz hr h3
              go_upto_region 7 with (go_at_call 56;(with_reducible refine Calls.mono (PA.out _ hp) ?_);rintro e w5 ⟨pa,pc,rfl,hpi,hp5⟩)
              have hp5W:=hp.trans hp5
              obtain ⟨w6,hw6⟩:∃ w6,w6=w5.alloc (.cells #[.int .i64 0,.slice pa q.length pc,.int .i64 0,.int .i64 0,.string ⟨#[]⟩] 72):=⟨_,rfl⟩
              rw [← hw6]
              have hB:w6.heap[w5.heap.size]? = some (.cells #[.int .i64 0,.slice pa q.length pc,.int .i64 0,.int .i64 0,.string ⟨#[]⟩] 72 (0,0)):=by rw [hw6];exact heap_alloc_new w5 _
              have h56:Pr w5 w6:=by rw [hw6];exact Pr.alloc _ _
              have hlt6:w.heap.size < w5.heap.size:=by have:=hp5W.size;have:=HsW.out;omega
              have c0:=h56.cell (hp5.cell c0);have c1:=h56.cell (hp5.cell c1)
              have hpi:=Flat.pr h56 (hpi.mono (S':=fun k=>w.heap.size+1≤k∧k < w5.heap.size) (fun k h hl=>⟨by have:=Hp1.out.size;have:=HsW.out;have:w1.heap.size≤k:=h;omega,hl⟩))
              have hp:=hp5W.trans h56
              have hgW:g < w5.heap.size:=Nat.lt_of_lt_of_le hgW hp5.size
              clear hw6
              have hbk:=hp.blk HbW.out;have z0:=blk_cell (o:=0) hbk;have z1:=blk_cell (o:=1) hbk;have z2:=blk_cell (o:=2) hbk;have z3:=blk_cell (o:=3) hbk;have z4:=blk_cell (o:=4) hbk;have y0:w6.frozen? ⟨w.heap.size,0,none⟩=false:=blk_frozen hbk;have y1:w6.frozen? ⟨w.heap.size,1,none⟩=false:=blk_frozen hbk;have y2:w6.frozen? ⟨w.heap.size,2,none⟩=false:=blk_frozen hbk;have y3:w6.frozen? ⟨w.heap.size,3,none⟩=false:=blk_frozen hbk;have y4:w6.frozen? ⟨w.heap.size,4,none⟩=false:=blk_frozen hbk;simp only [deeZ,List.getElem?_toArray,List.getElem?_cons_zero,List.getElem?_cons_succ] at z0 z1 z2 z3 z4
              go_wp2_with fail
              have hq5:=set5P (.int .i64 0) (.slice none 0 0) (.int .i64 0) (.int .i64 0) (.string ⟨#[]⟩) hbk
              have q0:=blk_cell (o:=0) hq5;have q1:=blk_cell (o:=1) hq5;have q2:=blk_cell (o:=2) hq5;have q3:=blk_cell (o:=3) hq5;have q4:=blk_cell (o:=4) hq5
              simp only [List.getElem?_toArray,List.getElem?_cons_zero,List.getElem?_cons_succ] at q0 q1 q2 q3 q4
              refine bodyPost_ret (v:=.tuple #[.agg #[.int .i64 0,.slice none 0 0,.int .i64 0,.int .i64 0,.string ⟨#[]⟩],.int .i64 6]) (by simp [results,Tryz.results29,go_sem,q0,q1,q2,q3,q4]) rfl ?_
              rw [Hz.out];exact ⟨none,0,rfl,Flat.nil _ _ _ _ (Nat.zero_le _),(by show (⟨#[]⟩:ByteArray).size≤1000000;decide),pr5 (HwW.out.trans hp) (Nat.le_refl _) _ _ _ _ _⟩
          · have bI:(x0.toList==[105,110,115,101,114,116])=false:=by rw [Hl0.out,Bool.eq_false_iff];intro e;exact hI (by simpa [wInsert] using e)
            have hz:=deedW_no h1n (fun e=>hN e.1) (fun e=>hD e.1) (fun e=>hI e.1)
            rw [← hr] at hz
            have Hz:=Lib.hid hz
            clear hz hr
            go_upto_region 7 with (go_at_call 56;(with_reducible refine Calls.mono (PA.out _ hp) ?_);rintro e w5 ⟨pa,pc,rfl,hpi,hp5⟩)
            have hp5W:=hp.trans hp5
            obtain ⟨w6,hw6⟩:∃ w6,w6=w5.alloc (.cells #[.int .i64 0,.slice pa q.length pc,.int .i64 0,.int .i64 0,.string ⟨#[]⟩] 72):=⟨_,rfl⟩
            rw [← hw6]
            have hB:w6.heap[w5.heap.size]? = some (.cells #[.int .i64 0,.slice pa q.length pc,.int .i64 0,.int .i64 0,.string ⟨#[]⟩] 72 (0,0)):=by rw [hw6];exact heap_alloc_new w5 _
            have h56:Pr w5 w6:=by rw [hw6];exact Pr.alloc _ _
            have hlt6:w.heap.size < w5.heap.size:=by have:=hp5W.size;have:=HsW.out;omega
            have c0:=h56.cell (hp5.cell c0);have c1:=h56.cell (hp5.cell c1)
            have hpi:=Flat.pr h56 (hpi.mono (S':=fun k=>w.heap.size+1≤k∧k < w5.heap.size) (fun k h hl=>⟨by have:=Hp1.out.size;have:=HsW.out;have:w1.heap.size≤k:=h;omega,hl⟩))
            have hp:=hp5W.trans h56
            have hgW:g < w5.heap.size:=Nat.lt_of_lt_of_le hgW hp5.size
            clear hw6
            have hbk:=hp.blk HbW.out;have z0:=blk_cell (o:=0) hbk;have z1:=blk_cell (o:=1) hbk;have z2:=blk_cell (o:=2) hbk;have z3:=blk_cell (o:=3) hbk;have z4:=blk_cell (o:=4) hbk;have y0:w6.frozen? ⟨w.heap.size,0,none⟩=false:=blk_frozen hbk;have y1:w6.frozen? ⟨w.heap.size,1,none⟩=false:=blk_frozen hbk;have y2:w6.frozen? ⟨w.heap.size,2,none⟩=false:=blk_frozen hbk;have y3:w6.frozen? ⟨w.heap.size,3,none⟩=false:=blk_frozen hbk;have y4:w6.frozen? ⟨w.heap.size,4,none⟩=false:=blk_frozen hbk;simp only [deeZ,List.getElem?_toArray,List.getElem?_cons_zero,List.getElem?_cons_succ] at z0 z1 z2 z3 z4
            go_wp2_with fail
            have hq5:=set5P (.int .i64 0) (.slice none 0 0) (.int .i64 0) (.int .i64 0) (.string ⟨#[]⟩) hbk
            have q0:=blk_cell (o:=0) hq5;have q1:=blk_cell (o:=1) hq5;have q2:=blk_cell (o:=2) hq5;have q3:=blk_cell (o:=3) hq5;have q4:=blk_cell (o:=4) hq5
            simp only [List.getElem?_toArray,List.getElem?_cons_zero,List.getElem?_cons_succ] at q0 q1 q2 q3 q4
            refine bodyPost_ret (v:=.tuple #[.agg #[.int .i64 0,.slice none 0 0,.int .i64 0,.int .i64 0,.string ⟨#[]⟩],.int .i64 6]) (by simp [results,Tryz.results29,go_sem,q0,q1,q2,q3,q4]) rfl ?_
            rw [Hz.out];exact ⟨none,0,rfl,Flat.nil _ _ _ _ (Nat.zero_le _),(by show (⟨#[]⟩:ByteArray).size≤1000000;decide),pr5 (HwW.out.trans hp) (Nat.le_refl _) _ _ _ _ _⟩
end Go.Proofs.YtdbnfhpgmcjngabGreatDoor
/- Walks: a line's deed; the document's. -/
namespace Go.Proofs.YtdbnfhpgmcjngabGreatDoor
open Go Go.RowKit
end Go.Proofs.YtdbnfhpgmcjngabGreatDoor
