/- Walks: a deed's line; the program's. -/
import Derived.Test.YtdbnfhpgmcjngadGreatDoorPwd
import Derived.Test.YtdbnfhpgmcjngadGreatDoorBdw
import Derived.Test.YtdbnfhpgmcjngadGreatDoorAf
import Derived.Test.YtdbnfhpgmcjngadGreatDoorBma
import Derived.Deep.CutBlock
import Derived.Deep.DeepCutAuto
namespace Go.Proofs.YtdbnfhpgmcjngadGreatDoor
open Go Go.RowKit
def LinePost (d:Dee) (w:World) (e:Ending) (w':World):Prop:=e=.returned (.tuple #[.string ⟨⟨(lineP d).1⟩⟩,.int .i64 ((lineP d).2:Int)])∧Pr w w'
theorem ba_mk (a:ByteArray):a=⟨⟨a.data.toList⟩⟩:=ba_ext rfl
def bigD (d:Dee):Prop:=∃ x∈d.pos :: d.many :: d.path,999 < x
theorem lineC_big {d:Dee} (hf:dfault d=0) (h:bigD d):lineP d=([],9):=by
  obtain ⟨x,hx,h9⟩:=h
  have:lineC d=9:=by
    unfold lineC
    rw [if_neg (by simpa using hf),if_pos]
    simp only [List.mem_cons] at hx
    rcases hx with rfl | rfl | hx
    · exact .inr (.inl h9)
    · exact .inr (.inr h9)
    · exact .inl ⟨x,hx,h9⟩
  unfold lineP;rw [this];rfl
theorem lineC_few {d:Dee} (hf:dfault d=0) (h:¬ bigD d):lineC d=0:=by
  unfold lineC
  rw [if_neg (by simpa using hf),if_neg]
  rintro (⟨x,hx,h9⟩ | h9 | h9)
  · exact h ⟨x,by simp [hx],h9⟩
  · exact h ⟨d.pos,by simp,h9⟩
  · exact h ⟨d.many,by simp,h9⟩
theorem lineP_bad {d:Dee} (hf:dfault d≠0):lineP d=([],dfault d):=by
  have:lineC d=dfault d:=by unfold lineC;rw [if_pos hf]
  unfold lineP;rw [this,if_pos hf]
theorem lineP_ok {d:Dee} (h:lineC d=0):lineP d=(lineT d,0):=by unfold lineP;rw [if_neg (by simpa using h)]
theorem line1 {d:Dee} (h:d.kind=1):lineT d=[110,97,109,101,32] ++ pathTx d.path ++ [32] ++ d.lab.data.toList:=by
  unfold lineT words;rw [if_pos h];simp [joinC,wName]
theorem line2 {d:Dee} (h:d.kind=2):lineT d=[100,101,108,101,116,101,32] ++ pathTx d.path:=by
  unfold lineT words;rw [if_neg (by omega),if_pos h];simp [joinC,wDelete]
theorem line3 {d:Dee} (h:d.kind=3):lineT d=[105,110,115,101,114,116,32] ++ pathTx d.path ++ [32] ++ Lib.itoa d.pos ++ [32] ++ Lib.itoa d.many ++ [32] ++ d.lab.data.toList:=by
  unfold lineT words;rw [if_neg (by omega),if_neg (by omega)];simp [joinC,wInsert]
theorem ret_line {d:Dee} {b:ByteArray} (h:lineP d=(b.data.toList,0)):Ending.returned (.tuple #[.string b,.int .i64 0])=.returned (.tuple #[.string ⟨⟨(lineP d).1⟩⟩,.int .i64 ((lineP d).2:Int)]):=by
  rw [h,← ba_mk b];rfl
theorem OwnsIs.made2 (w:World) (a m:Int):OwnsIs w.heap.size (w.alloc (.cells #[.int .i64 a,.int .i64 m] 3)) (.slice (some ⟨w.heap.size,0,none⟩) 2 2) [a,m] :=
  ⟨rfl,.inr ⟨w.heap.size,2,#[.int .i64 a,.int .i64 m],rfl,Nat.le_refl _,heap_alloc_new w _,Nat.le_refl _,by unfold maxLen;omega,rfl,rfl⟩⟩
set_option maxRecDepth 100000 in
set_option maxHeartbeats 6400000 in
theorem line_any (k:Int) (p:List Int) (a m:Int) (s:ByteArray) (pa pc) (w:World) (hs:s.size≤100000) (hp:Ints Any w p pa pc) (hn:p.length≤100000) (hw:Lv w) :
    Calls Tryz.prog 50 #[.agg #[.int .i64 k,.slice pa p.length pc,.int .i64 a,.int .i64 m,.string s]] w (LinePost ⟨k,p,a,m,s⟩ w):=by
  obtain ⟨W,hW⟩:∃ W,W=w.alloc (.cells #[.int .i64 k,.slice pa p.length pc,.int .i64 a,.int .i64 m,.string s] 69):=⟨_,rfl⟩
  have hwW:Pr w W:=by rw [hW];exact Pr.alloc _ _
  have s0:=stays (show W.cell? ⟨w.heap.size,0,none⟩=some (.int .i64 k) by rw [hW];simp [go_sem])
  have s1:=stays (show W.cell? ⟨w.heap.size,1,none⟩=some (.slice pa p.length pc) by rw [hW];simp [go_sem])
  have s2:=stays (show W.cell? ⟨w.heap.size,2,none⟩=some (.int .i64 a) by rw [hW];simp [go_sem])
  have s3:=stays (show W.cell? ⟨w.heap.size,3,none⟩=some (.int .i64 m) by rw [hW];simp [go_sem])
  have s4:=stays (show W.cell? ⟨w.heap.size,4,none⟩=some (.string s) by rw [hW];simp [go_sem])
  have C:=Lib.hid (dcheck_any k p a m s pa pc W (by unfold maxLen;omega) (hp.pr hwW))
  obtain ⟨d,hd⟩:∃ d:Dee,d=⟨k,p,a,m,s⟩:=⟨_,rfl⟩
  rw [← hd] at C ⊢
  have hk:d.kind=k:=by rw [hd]
  have hpd:d.path=p:=by rw [hd]
  have had:d.pos=a:=by rw [hd]
  have hmd:d.many=m:=by rw [hd]
  have hld:d.lab=s:=by rw [hd]
  obtain ⟨c,hc⟩:∃ c,c=dfault d:=⟨_,rfl⟩
  rw [← hc] at C
  have HP:=Lib.hid (hp.pr hwW);have HW:=Lib.hid (hw.pr hwW);have HwW:=Lib.hid hwW
  have HD:=Lib.hid (And.intro hk (And.intro hpd (And.intro had (And.intro hmd hld))))
  clear hk hpd had hmd hld hd hp hw hwW
  by_cases hc0:c=0
  · rw [hc0] at hc
    subst hc0
    have Hc:=Lib.hid hc.symm
    clear hc
    go_enter Tryz.func50,Tryz.ntmps50
    go_upto_region 1 with fail
    rw [← hW];clear hW
    have x0:=s0 _ (Pr.refl _)
    have x1:=s1 _ (Pr.refl _);have x2:=s2 _ (Pr.refl _);have x3:=s3 _ (Pr.refl _);have x4:=s4 _ (Pr.refl _)
    go_upto_region 4 with (go_at_call 76;(with_reducible refine Calls.mono C.out ?_);rintro e w1 ⟨rfl,hp1⟩;have x0:=s0 _ hp1;have x1:=s1 _ hp1;have x2:=s2 _ hp1;have x3:=s3 _ hp1;have x4:=s4 _ hp1)
    have HP5:=Lib.hid (Flat.pr hp1 HP.out)
    have z1:=s1 _ (hp1.alloc' (.cells #[.int .i64 a,.int .i64 m] 3))
    go_wp2_with (at_builtin;go_must (refine app_ints rfl _ _ rfl w1.heap.size _ [a,m] rfl (OwnsIs.made2 w1 a m) Any p pa pc rfl (Flat.pr (Pr.alloc _ _) HP5.out) (by simp;omega) (by simp) ?_);intro v5 w5 ho5 hg5 hd5;refine Hid.out ?_)
    refine Lib.hid ?_
    generalize hxs:[a,m] ++ p=xs at ho5
    have Hxs:=Lib.hid hxs
    have hp5:Pr W w5:=hp1.trans (Below.grown (Pr.alloc _ _) hg5 (by simp) (fun k hk=>((OwnsIs.made2 w1 a m).block k hk).1))
    obtain ⟨oa5,c5,rfl,hi5⟩:=ho5.ints
    have Hi5:=Lib.hid hi5
    clear hi5 ho5 hg5 hd5 hxs z1
    have hxl:xs.length=p.length+2:=by rw [← Hxs.out];simp
    have Hp5:=Lib.hid hp5
    have x0:=s0 _ hp5;have x1:=s1 _ hp5;have x2:=s2 _ hp5;have x3:=s3 _ hp5;have x4:=s4 _ hp5
    have hxl2:xs.length≤100002:=by omega
    clear hxl hp5
    go_wp2_with fail
    have hp5:=Hp5.out
    go_loopw [21] (fun x wr=>∃ i:Nat,i≤xs.length∧x=.int .i64 i∧(∀ (j:Nat) (h:j < xs.length),j < i→xs[j]≤999)∧wr=w5) (fun x _=>xs.length - (intOf x).toNat)
    case atStart=>exact ⟨0,by omega,rfl,fun _ _ h=>absurd h (Nat.not_lt_zero _),rfl⟩
    case round =>
      obtain ⟨i,hi,rfl,hall,rfl⟩:=hrel
      have Hall:=Lib.hid hall
      clear hall
      by_cases hlt:i < xs.length
      · obtain ⟨bk,o,rfl,c0⟩:=Ints.get Hi5.out i hlt
        by_cases h9:999 < xs[i]
        · have hb:=lineC_big (d:=d) Hc.out (by
            refine ⟨xs[i],?_,h9⟩
            have h:=HD.out
            rw [h.2.1,h.2.2.1,h.2.2.2.1]
            have hm:xs[i]∈[a,m] ++ p:=by rw [Hxs.out];exact List.getElem_mem _
            simpa using hm)
          have Hb:=Lib.hid hb
          clear hb
          go_wp2_with fail
          go_ret2
          exact ⟨by rw [Hb.out];rfl,HwW.out.trans Hp5.out⟩
        · have h9':decide (999 < xs[i])=false:=by simpa using h9
          go_wp2_with fail
          refine ⟨⟨i+1,by omega,by go_num,fun j hj hji=>?_,trivial⟩,by simp [intOf];omega⟩
          by_cases e:j=i
          · subst e;omega
          · exact Hall.out j hj (by omega)
      · have hno:¬ bigD d:=by
          rintro ⟨x,hx,h9⟩
          have h:=HD.out
          rw [h.2.1,h.2.2.1,h.2.2.2.1] at hx
          have hx':x∈xs:=by rw [← Hxs.out];simpa using hx
          obtain ⟨j,hj,rfl⟩:=List.mem_iff_getElem.1 hx'
          have:=Hall.out j hj (by omega)
          omega
        have hl0:=lineC_few Hc.out hno
        have hz:=lineC_zero hl0
        have hkk:k=1∨k=2∨k=3:=by
          have h1:=(dfault_zero.1 hz.1).1
          rw [HD.out.1] at h1;omega
        have hl:=lineP_ok hl0
        have Hl:=Lib.hid hl;have Hz:=Lib.hid hz
        have hI:I64 p:=fun x hx=>by
          have:=hz.2.1 x (by rw [HD.out.2.1];exact hx);omega
        have hptl:=pathT_le p hI
        obtain ⟨b,hb⟩:∃ b:ByteArray,b=⟨⟨pathTx p⟩⟩:=⟨_,rfl⟩
        have hbs:b.size≤2200001:=by rw [hb,← sizeL];show (pathTx p).length≤_;omega
        have hT:∀ W',Pr wr W'→Calls Tryz.prog 77 #[.slice pa p.length pc] W' fun e w'=>e=.returned (.string b)∧Pr W' w':=fun W' h=>by
          rw [hb];exact pathTx_any p pa pc W' (Flat.pr (hp5.trans h) HP.out) hI hn (HW.out.pr (hp5.trans h))
        have HT:=Lib.hid hT;have HB:=Lib.hid hb
        clear hl hl0 hz hno hI hptl hT hb
        have d1:decide ((i:Int) < xs.length)=false:=by simp;omega
        have d3:decide (i < xs.length)=false:=by simp;omega
        rcases hkk with hk1 | hk1 | hk1
        · obtain rfl:=hk1
          have hf:=line1 (d:=d) HD.out.1
          rw [HD.out.2.1,HD.out.2.2.2.2] at hf
          have Hf:=Lib.hid hf
          clear hf
          go_upto_region 12 with fail
          have y1:=After.cell x1;have y4:=After.cell x4
          have S1:=Lib.hid (After.call HT.out)
          refine wp_region_after (by kernel_rfl) (by kernel_rfl) ?_
          repeat (go_big_quiet_step (first | (go_at_call 77;with_reducible exact S1.out _)))
          refine wpQuiet_nil ?_
          rintro wq ⟨⟨_,hq⟩,rfl⟩
          go_wp2_with fail
          go_ret2
          refine ⟨ret_line ?_,(HwW.out.trans Hp5.out).trans hq⟩
          rw [Hl.out,Hf.out,baL,baL,baL,HB.out]
        · obtain rfl:=hk1
          have hf:=line2 (d:=d) HD.out.1
          rw [HD.out.2.1] at hf
          have Hf:=Lib.hid hf
          clear hf
          go_wp2_with (go_at_call 77;(with_reducible refine Calls.mono (HT.out _ (Pr.refl _)) ?_);rintro e w6 ⟨rfl,hp6⟩)
          go_ret2
          refine ⟨ret_line ?_,(HwW.out.trans Hp5.out).trans hp6⟩
          rw [Hl.out,Hf.out,baL,HB.out]
        · obtain rfl:=hk1
          have hf:=line3 (d:=d) HD.out.1
          rw [HD.out.2.1,HD.out.2.2.1,HD.out.2.2.2.1,HD.out.2.2.2.2] at hf
          have Hf:=Lib.hid hf
          have hza:=Hz.out.2.2.1;have hzm:=Hz.out.2.2.2
          rw [HD.out.2.2.1] at hza
          rw [HD.out.2.2.2.1] at hzm
          obtain ⟨ba,hba⟩:∃ b:ByteArray,b=⟨⟨Lib.itoa a⟩⟩:=⟨_,rfl⟩
          obtain ⟨bm,hbm⟩:∃ b:ByteArray,b=⟨⟨Lib.itoa m⟩⟩:=⟨_,rfl⟩
          have hbas:ba.size≤21:=by rw [hba,← sizeL];exact Lib.itoa_length_le a (by omega) (by omega)
          have hbms:bm.size≤21:=by rw [hbm,← sizeL];exact Lib.itoa_length_le m (by omega) (by omega)
          have hIa:∀ W',Pr wr W'→Calls Tryz.prog 32 #[.int .i64 a] W' fun e w'=>e=.returned (.string ba)∧Pr W' w':=fun W' h=>by
            rw [hba];exact itoa_any a (by omega) (by omega) W' (HW.out.pr (hp5.trans h))
          have hIm:∀ W',Pr wr W'→Calls Tryz.prog 32 #[.int .i64 m] W' fun e w'=>e=.returned (.string bm)∧Pr W' w':=fun W' h=>by
            rw [hbm];exact itoa_any m (by omega) (by omega) W' (HW.out.pr (hp5.trans h))
          have HIa:=Lib.hid hIa;have HIm:=Lib.hid hIm;have HBa:=Lib.hid hba;have HBm:=Lib.hid hbm
          clear hf hIa hIm hba hbm
          go_upto_region 15 with fail
          have y1:=After.cell x1;have y2:=After.cell x2;have y3:=After.cell x3;have y4:=After.cell x4
          have S1:=Lib.hid (After.call HT.out);have S2:=Lib.hid (After.call HIa.out);have S3:=Lib.hid (After.call HIm.out)
          refine wp_region_after (by kernel_rfl) (by kernel_rfl) ?_
          repeat (go_big_quiet_step (first | (go_at_call 77;with_reducible exact S1.out _) | (go_at_call 32;with_reducible exact S2.out _) | (go_at_call 32;with_reducible exact S3.out _)))
          refine wpQuiet_nil ?_
          rintro wq ⟨⟨_,hq⟩,rfl⟩
          go_wp2_with fail
          go_ret2
          refine ⟨ret_line ?_,(HwW.out.trans Hp5.out).trans hq⟩
          rw [Hl.out,Hf.out,baL,baL,baL,baL,baL,baL,baL,HB.out,HBa.out,HBm.out]
  · have hb:=lineP_bad (d:=d) (by rw [← hc];exact hc0)
    rw [← hc] at hb
    have Hb:=Lib.hid hb
    have n0:((c:Int) != 0)=true:=by simp [bne_iff_ne];omega
    have n1:(c != 0)=true:=by simp [bne_iff_ne];omega
    clear hb hc hc0
    go_enter Tryz.func50,Tryz.ntmps50
    go_upto_region 1 with fail
    rw [← hW];clear hW
    have x0:=s0 _ (Pr.refl _)
    have x1:=s1 _ (Pr.refl _);have x2:=s2 _ (Pr.refl _);have x3:=s3 _ (Pr.refl _);have x4:=s4 _ (Pr.refl _)
    go_wp2_with (go_at_call 76;(with_reducible refine Calls.mono C.out ?_);rintro e w1 ⟨rfl,hp1⟩;have x0:=s0 _ hp1)
    go_ret2
    exact ⟨by rw [Hb.out];rfl,HwW.out.trans hp1⟩
end Go.Proofs.YtdbnfhpgmcjngadGreatDoor
