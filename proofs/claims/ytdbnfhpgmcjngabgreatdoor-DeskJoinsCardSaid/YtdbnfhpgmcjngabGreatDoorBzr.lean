/- Walks: a mark's deed, where the path ends. -/
import Derived.Test.YtdbnfhpgmcjngabGreatDoorBzp
namespace Go.Proofs.YtdbnfhpgmcjngabGreatDoor
open Go Go.RowKit
theorem mconcat3 (S:Nat→Prop) (A B C:List Mk) (oA oB oC:Option Addr) (nA nB nC cA cB cC N:Nat) (hA:A.length=nA) (hB:B.length=nB) (hC:C.length=nC) (hN:(A ++ B ++ C).length=N) (Bk:Nat) (w:World) (d0:w.cell? ⟨Bk,0,none⟩=some (.slice oA nA cA)) (d1:w.cell? ⟨Bk,1,none⟩=some (.slice oB nB cB)) (d2:w.cell? ⟨Bk,2,none⟩=some (.slice oC nC cC))
    (kA:Mrk.Kids S w A oA cA) (kB:Mrk.Kids S w B oB cB) (kC:Mrk.Kids S w C oC cC) (hn:N≤1000000) :
    Calls Tryz.prog 143 #[.slice (some ⟨Bk,0,none⟩) 3 3] w fun e w'=>(∃ oc cp,e=.returned (.slice oc N cp)∧Mrk.Kids (fun k=>S k∨w.heap.size≤k) w' (A ++ B ++ C) oc cp)∧Pr w w':=by
  subst hA;subst hB;subst hC;subst hN
  have hfl:Mrk.flen [A,B,C] 3=(A ++ B ++ C).length:=by simp [Mrk.flen]
  have hfe:[A,B,C].flatten=A ++ B ++ C:=by simp
  have hR:Mrk.Rows2 S w [A,B,C] Bk:=by
    intro i hi
    match i with
    | 0=>exact ⟨oA,cA,d0,kA⟩
    | 1=>exact ⟨oB,cB,d1,kB⟩
    | 2=>exact ⟨oC,cC,d2,kC⟩
  refine (Mrk.concatTrees_any S _ Bk 3 w hR (by simp only [List.length_cons,List.length_nil];rw [hfl];exact hn) (by simp)).mono ?_
  rintro e w' ⟨⟨oc,cp,rfl,hkk⟩,hb⟩
  rw [hfe] at hkk
  exact ⟨⟨oc,cp,by simp only [List.length_cons,List.length_nil];rw [← hfl],hkk⟩,hb⟩
section
variable {S:Nat→Prop} {s:Int} {ms:List Mk} {oa:Option Addr} {cap:Nat} {k a m now:Int} {lab:ByteArray} {pa:Option Addr} {pc:Nat} {w:World}
set_option maxRecDepth 100000 in
set_option maxHeartbeats 6400000 in
theorem mdo_name (hk:Mrk.Kids S w ms oa cap) (h2:k≠2) (h3:k≠3) :
    Calls Tryz.prog 114 #[.agg #[.int .i64 s,.slice oa ms.length cap],.agg #[.int .i64 k,.slice pa 0 pc,.int .i64 a,.int .i64 m,.string lab],.int .i64 now] w (MDoPost S w (.node s ms)):=by
  obtain ⟨W,hW⟩:∃ W,W=((w.alloc (.cells #[.int .i64 s,.slice oa ms.length cap] 173)).alloc (.cells #[.int .i64 k,.slice pa 0 pc,.int .i64 a,.int .i64 m,.string lab] 72)).alloc (.cells #[.int .i64 0,.slice none 0 0] 173):=⟨_,rfl⟩
  have hwW:Pr w W:=by rw [hW];exact ((Pr.alloc _ _).alloc' _).alloc' _
  have s0:W.cell? ⟨w.heap.size,0,none⟩=some (.int .i64 s):=by rw [hW];simp [go_sem]
  have s1:W.cell? ⟨w.heap.size,1,none⟩=some (.slice oa ms.length cap):=by rw [hW];simp [go_sem]
  have d0:W.cell? ⟨w.heap.size+1,0,none⟩=some (.int .i64 k):=by rw [hW];simp [go_sem]
  have d1:W.cell? ⟨w.heap.size+1,1,none⟩=some (.slice pa 0 pc):=by rw [hW];simp [go_sem]
  have hR:W.heap[w.heap.size+2]? = some (.cells #[.int .i64 0,.slice none 0 0] 173 (0,0)):=by
    rw [hW];simpa using heap_alloc_new ((w.alloc (.cells #[.int .i64 s,.slice oa ms.length cap] 173)).alloc (.cells #[.int .i64 k,.slice pa 0 pc,.int .i64 a,.int .i64 m,.string lab] 72)) (.cells #[.int .i64 0,.slice none 0 0] 173)
  have q0:=blk_cell (o:=0) hR;have q1:=blk_cell (o:=1) hR;have q2:=blk_frozen (o:=0) hR;have q3:=blk_frozen (o:=1) hR
  have e2:(k==2)=false:=by simp [h2]
  have e3:(k==3)=false:=by simp [h3]
  have HK:=Lib.hid hk;have HW:=Lib.hid hwW
  clear hR hwW hk h2 h3
  go_enter Tryz.func114,Tryz.ntmps114
  go_upto_region 1 with fail
  rw [← hW];clear hW
  go_wp2_with fail
  refine bodyPost_ret (v:=.agg #[.int .i64 s,.slice oa ms.length cap]) (by simp [results,Tryz.results114,go_sem,q0,q1]) rfl ⟨s,_,_,_,rfl,rfl,?_,?_⟩
  · refine HK.out.carry fun j hj hl=>⟨?_,.inl hj⟩
    rw [Below.heap_setCell _ _ _ _ (by show j≠w.heap.size+1+1;omega),Below.heap_setCell _ _ _ _ (by show j≠w.heap.size+1+1;omega)];exact Below.block HW.out j hl
  · exact (HW.out.setCell (by simp;omega) _).setCell (by simp;omega) _
set_option maxRecDepth 100000 in
set_option maxHeartbeats 6400000 in
theorem mdo_del (x:Nat) (s':Int) (ks':List Mk) (hms:ms.length≤1000) (hk:Mrk.Kids S w ms oa cap) (hq:Ints Any w [(x:Int)] pa pc) (hx:x < ms.length) (hek:ms[x]=.node s' ks') (hks:ks'.length≤1000) :
    Calls Tryz.prog 114 #[.agg #[.int .i64 s,.slice oa ms.length cap],.agg #[.int .i64 2,.slice pa 1 pc,.int .i64 a,.int .i64 m,.string lab],.int .i64 now] w (MDoPost S w (.node s (ms.take x ++ ks' ++ ms.drop (x+1)))):=by
  have hm:=hk.len
  obtain ⟨bq,oq,rfl,hq0⟩:=Ints.get hq 0 (by simp)
  simp only [List.getElem_cons_zero,Nat.add_zero] at hq0
  have hqc:1≤pc:=by have:=hq.1.1;simpa using this
  have hpm:pc≤9223372036854775807:=by have:=hq.1.2;unfold maxLen at this;omega
  obtain ⟨b,o,s9,ks9,ok,ck,he9,_,rfl,k0,k1,hkk⟩:=hk.get x hx
  rw [hek] at he9
  cases he9
  have hcap:=hk.1.1
  have hcm:cap≤9223372036854775807:=by have:=hk.1.2;unfold maxLen at this;omega
  obtain ⟨W,hW⟩:∃ W,W=((w.alloc (.cells #[.int .i64 s,.slice (some ⟨b,o,none⟩) ms.length cap] 173)).alloc (.cells #[.int .i64 2,.slice (some ⟨bq,oq,none⟩) 1 pc,.int .i64 a,.int .i64 m,.string lab] 72)).alloc (.cells #[.int .i64 0,.slice none 0 0] 173):=⟨_,rfl⟩
  have hwW:Pr w W:=by rw [hW];exact ((Pr.alloc _ _).alloc' _).alloc' _
  have hWs:W.heap.size=w.heap.size+3:=by rw [hW];simp
  have KP:∀ b j (v:Value),b≠w.heap.size+1+1→W.cell? ⟨b,j,none⟩=some v→∀ W',Chg (fun j=>j=w.heap.size+1+1) W W'→W'.cell? ⟨b,j,none⟩=some v:=fun b j v h1 h2 W' h=>by
    rw [World.cell?_of_block (h.block b (lt_of_cell h2) h1)];exact h2
  have s0:=KP _ _ _ (by omega) (show W.cell? ⟨w.heap.size,0,none⟩=some (.int .i64 s) by rw [hW];simp [go_sem])
  have s1:=KP _ _ _ (by omega) (show W.cell? ⟨w.heap.size,1,none⟩=some (.slice (some ⟨b,o,none⟩) ms.length cap) by rw [hW];simp [go_sem])
  have d0:=KP _ _ _ (by omega) (show W.cell? ⟨w.heap.size+1,0,none⟩=some (.int .i64 2) by rw [hW];simp [go_sem])
  have d1:=KP _ _ _ (by omega) (show W.cell? ⟨w.heap.size+1,1,none⟩=some (.slice (some ⟨bq,oq,none⟩) 1 pc) by rw [hW];simp [go_sem])
  have hR:W.heap[w.heap.size+1+1]? = some (.cells #[.int .i64 0,.slice none 0 0] 173 (0,0)):=by
    rw [hW];simpa using heap_alloc_new ((w.alloc (.cells #[.int .i64 s,.slice (some ⟨b,o,none⟩) ms.length cap] 173)).alloc (.cells #[.int .i64 2,.slice (some ⟨bq,oq,none⟩) 1 pc,.int .i64 a,.int .i64 m,.string lab] 72)) (.cells #[.int .i64 0,.slice none 0 0] 173)
  have cq:=KP _ _ _ (by have:=lt_of_cell hq0;omega) (hwW.cell hq0)
  have c0:=KP _ _ _ (by have:=lt_of_cell k0;omega) (hwW.cell k0)
  have c1:=KP _ _ _ (by have:=lt_of_cell k1;omega) (hwW.cell k1)
  have i0:(0:Int)≤(x:Int):=by omega
  have i1:(x:Int) < (ms.length:Int):=by omega
  have i2:(x:Int)≤(cap:Int):=by omega
  obtain ⟨y,hy⟩:∃ y,y=x+1:=⟨_,rfl⟩
  have i3:(0:Int)≤(y:Int):=by omega
  have i4:(y:Int)≤(ms.length:Int):=by omega
  have i5:(y:Int)≤(cap:Int):=by omega
  have i8:(x:Int)≤(y:Int):=by omega
  have i9:(x:Int) < (y:Int):=by omega
  have i6:(ms.length:Int)≤(cap:Int):=by omega
  have i7:(x:Int)≤(ms.length:Int):=by omega
  have u1:IntKind.i64.wrap ((x:Int)+1)=(y:Int):=by rw [IntWalk.i64_in _ (by omega)];omega
  have Hy:=Lib.hid hy
  have HR:=Lib.hid hR;have HW:=Lib.hid hwW;have HWs:=Lib.hid hWs;have HK:=Lib.hid hk;have Hek:=Lib.hid hek
  have hkw:=hkk
  have Hkk:=Lib.hid hkk
  have y0:=d0 _ (Chg.refl _ _);have y1:=d1 _ (Chg.refl _ _);have y2:=cq _ (Chg.refl _ _)
  obtain ⟨L,hL⟩:∃ L,L=ms.take x ++ ks' ++ ms.drop y:=⟨_,rfl⟩
  have HL:=Lib.hid hL
  have CC:Hid (∀ W' Bk ob cb,Pr W W'→W'.cell? ⟨Bk,0,none⟩=some (.slice (some ⟨b,o,none⟩) x cap)→W'.cell? ⟨Bk,1,none⟩=some (.slice ok ks'.length ck)→W'.cell? ⟨Bk,2,none⟩=some (.slice ob (ms.length - y) cb)→Mrk.Kids S w (ms.drop y) ob cb →
      Calls Tryz.prog 143 #[.slice (some ⟨Bk,0,none⟩) 3 3] W' fun e w'=>(∃ oc cp,e=.returned (.slice oc L.length cp)∧Mrk.Kids (fun k=>(S k∧k < w.heap.size)∨W'.heap.size≤k) w' L oc cp)∧Pr W' w'):=Lib.hid fun W' Bk ob cb hp e0 e1 e2 hk2=>by
    have hpw:=HW.out.trans hp
    have:=mconcat3 (fun k=>S k∧k < w.heap.size) (ms.take x) ks' (ms.drop y) (some ⟨b,o,none⟩) ok ob x ks'.length (ms.length - y) cap ck cb L.length (by rw [List.length_take];omega) rfl List.length_drop (by rw [HL.out]) Bk W' e0 e1 e2
      (((HK.out.carry (S':=fun k=>S k∧k < w.heap.size) fun j hS hl=>⟨rfl,hS,hl⟩).cutP x (by omega)).pr hpw) ((Hkk.out.carry (S':=fun k=>S k∧k < w.heap.size) fun j hS hl=>⟨rfl,hS,hl⟩).pr hpw) ((hk2.carry (S':=fun k=>S k∧k < w.heap.size) fun j hS hl=>⟨rfl,hS,hl⟩).pr hpw)
      (by rw [HL.out];simp only [List.length_append,List.length_take,List.length_drop];omega)
    rw [HL.out];rw [HL.out] at this;exact this
  rw [← hy,← hL]
  clear hy hR hwW hWs hk hq0 k0 k1 hkk hkw hq hek KP hL
  go_enter Tryz.func114,Tryz.ntmps114
  go_upto_region 1 with fail
  rw [← hW];clear hW
  go_upto_region 11 with fail
  clear y0 y1 y2
  by_cases hc2:cap=y
  · subst hc2
    have hkn:ms.length=cap:=by omega
    have s1:∀ W',Chg (fun j=>j=w.heap.size+1+1) W W'→W'.cell? ⟨w.heap.size,1,none⟩=some (.slice (some ⟨b,o,none⟩) cap cap):=fun W' h=>by have:=s1 W' h;rw [hkn] at this;exact this
    have CC2:Hid (∀ W' Bk,Pr W W'→W'.cell? ⟨Bk,0,none⟩=some (.slice (some ⟨b,o,none⟩) x cap)→W'.cell? ⟨Bk,1,none⟩=some (.slice ok ks'.length ck)→W'.cell? ⟨Bk,2,none⟩=some (.slice (some ⟨b,o,none⟩) 0 0) →
      Calls Tryz.prog 143 #[.slice (some ⟨Bk,0,none⟩) 3 3] W' fun e w'=>(∃ oc cp,e=.returned (.slice oc L.length cp)∧Mrk.Kids (fun k=>(S k∧k < w.heap.size)∨W'.heap.size≤k) w' L oc cp)∧Pr W' w'):=Lib.hid fun W' Bk hp e0 e1 e2 =>
      CC.out W' Bk (some ⟨b,o,none⟩) 0 hp e0 e1 (by rw [hkn,Nat.sub_self];exact e2) (by rw [List.drop_eq_nil_of_le (by omega)];exact Mrk.Kids.nil _ _ _ _ (Nat.zero_le _))
    clear CC hkn
    go_region_held3 (fun W'=>Chg (fun j=>j=w.heap.size+1+1) W W')
      (first | with_reducible exact (Pr.drew W).chg _ | with_reducible exact (Pr.drew' (Pr.alloc _ _)).chg _ | with_reducible exact hp5.chg _ | exact Chg.setCell (Chg.setCell (hp5.chg (fun j=>j=w.heap.size+1+1)) ⟨w.heap.size+1+1,0,none⟩ _ (.inl rfl)) ⟨w.heap.size+1+1,1,none⟩ _ (.inl rfl))
      (first
        | (go_at_call 143;(with_reducible refine Calls.mono (CC2.out _ _ (Pr.drew' (Pr.alloc _ _)) (by simp [go_sem]) (by simp [go_sem]) (by simp [go_sem])) ?_);rintro e w5 ⟨⟨oc,cc,rfl,hk5⟩,hb5⟩;have hp5:=((Pr.alloc _ _).drew').trans hb5;have z:=hp5.blk HR.out;have q0:=blk_cell (o:=0) z;have q1:=blk_cell (o:=1) z;have q2:=blk_frozen (o:=0) z;have q3:=blk_frozen (o:=1) z;clear z))
    have Hk5:=Lib.hid hk5;have Hp5:=Lib.hid hp5
    clear hk5 hb5 hp5
    go_wp2_with fail
    refine bodyPost_ret (v:=.agg #[.int .i64 s,.slice oc L.length cc]) (by simp [results,Tryz.results114,go_sem,q0,q1]) rfl ⟨s,L,oc,cc,rfl,rfl,?_,?_⟩
    · have:=HWs.out
      refine (Hk5.out.mono (S':=fun j=>(S j∨w.heap.size≤j)∧j≠w.heap.size+1+1) fun j hj _=>?_).carry fun j hj hl=>⟨?_,hj.1⟩
      · rcases hj with h | h
        · exact ⟨.inl h.1,by omega⟩
        · simp at h;exact ⟨.inr (by omega),by omega⟩
      · rw [Below.heap_setCell _ _ _ _ (show j≠w.heap.size+1+1 from hj.2),Below.heap_setCell _ _ _ _ (show j≠w.heap.size+1+1 from hj.2)]
    · exact ((HW.out.trans Hp5.out).setCell (by simp;omega) _).setCell (by simp;omega) _
  · have CC2:Hid (∀ W' Bk,Pr W W'→W'.cell? ⟨Bk,0,none⟩=some (.slice (some ⟨b,o,none⟩) x cap)→W'.cell? ⟨Bk,1,none⟩=some (.slice ok ks'.length ck)→W'.cell? ⟨Bk,2,none⟩=some (.slice (some ⟨b,o+y * 2,none⟩) (ms.length - y) (cap - y)) →
      Calls Tryz.prog 143 #[.slice (some ⟨Bk,0,none⟩) 3 3] W' fun e w'=>(∃ oc cp,e=.returned (.slice oc L.length cp)∧Mrk.Kids (fun k=>(S k∧k < w.heap.size)∨W'.heap.size≤k) w' L oc cp)∧Pr W' w'):=Lib.hid fun W' Bk hp e0 e1 e2 =>
      CC.out W' Bk (some ⟨b,o+y * 2,none⟩) (cap - y) hp e0 e1 e2 (by have:=HK.out.cutL y (by omega);simpa [Addr.add_lit] using this)
    clear CC
    go_region_held3 (fun W'=>Chg (fun j=>j=w.heap.size+1+1) W W')
      (first | with_reducible exact (Pr.drew W).chg _ | with_reducible exact (Pr.drew' (Pr.alloc _ _)).chg _ | with_reducible exact hp5.chg _ | exact Chg.setCell (Chg.setCell (hp5.chg (fun j=>j=w.heap.size+1+1)) ⟨w.heap.size+1+1,0,none⟩ _ (.inl rfl)) ⟨w.heap.size+1+1,1,none⟩ _ (.inl rfl))
      (first
        | (go_at_call 143;(with_reducible refine Calls.mono (CC2.out _ _ (Pr.drew' (Pr.alloc _ _)) (by simp [go_sem]) (by simp [go_sem]) (by simp [go_sem])) ?_);rintro e w5 ⟨⟨oc,cc,rfl,hk5⟩,hb5⟩;have hp5:=((Pr.alloc _ _).drew').trans hb5;have z:=hp5.blk HR.out;have q0:=blk_cell (o:=0) z;have q1:=blk_cell (o:=1) z;have q2:=blk_frozen (o:=0) z;have q3:=blk_frozen (o:=1) z;clear z))
    have Hk5:=Lib.hid hk5;have Hp5:=Lib.hid hp5
    clear hk5 hb5 hp5
    go_wp2_with fail
    refine bodyPost_ret (v:=.agg #[.int .i64 s,.slice oc L.length cc]) (by simp [results,Tryz.results114,go_sem,q0,q1]) rfl ⟨s,L,oc,cc,rfl,rfl,?_,?_⟩
    · have:=HWs.out
      refine (Hk5.out.mono (S':=fun j=>(S j∨w.heap.size≤j)∧j≠w.heap.size+1+1) fun j hj _=>?_).carry fun j hj hl=>⟨?_,hj.1⟩
      · rcases hj with h | h
        · exact ⟨.inl h.1,by omega⟩
        · simp at h;exact ⟨.inr (by omega),by omega⟩
      · rw [Below.heap_setCell _ _ _ _ (show j≠w.heap.size+1+1 from hj.2),Below.heap_setCell _ _ _ _ (show j≠w.heap.size+1+1 from hj.2)]
    · exact ((HW.out.trans Hp5.out).setCell (by simp;omega) _).setCell (by simp;omega) _
end
end Go.Proofs.YtdbnfhpgmcjngabGreatDoor
/- Walks: a mark's deed, where the path ends: a node put in; and the deed whole. -/
namespace Go.Proofs.YtdbnfhpgmcjngabGreatDoor
open Go Go.RowKit
section
variable {S:Nat→Prop} {s:Int} {ms:List Mk} {oa:Option Addr} {cap:Nat} {k a m now:Int} {lab:ByteArray} {pa:Option Addr} {pc:Nat} {w:World}
set_option maxRecDepth 100000 in
set_option maxHeartbeats 6400000 in
theorem mdo_ins (n m:Nat) (hms:ms.length≤1000) (hk:Mrk.Kids S w ms oa cap) (hnm:n+m≤ms.length) :
    Calls Tryz.prog 114 #[.agg #[.int .i64 s,.slice oa ms.length cap],.agg #[.int .i64 3,.slice pa 0 pc,.int .i64 n,.int .i64 m,.string lab],.int .i64 now] w (MDoPost S w (.node s (ms.take n ++ [.node now ((ms.drop n).take m)] ++ ms.drop (n+m)))):=by
  have hm:=hk.len
  have hcap:=hk.1.1
  have hcm:cap≤9223372036854775807:=by have:=hk.1.2;unfold maxLen at this;omega
  obtain ⟨W,hW⟩:∃ W,W=((w.alloc (.cells #[.int .i64 s,.slice oa ms.length cap] 173)).alloc (.cells #[.int .i64 3,.slice pa 0 pc,.int .i64 n,.int .i64 m,.string lab] 72)).alloc (.cells #[.int .i64 0,.slice none 0 0] 173):=⟨_,rfl⟩
  have hwW:Pr w W:=by rw [hW];exact ((Pr.alloc _ _).alloc' _).alloc' _
  have hWs:W.heap.size=w.heap.size+3:=by rw [hW];simp
  have s0:=stays (show W.cell? ⟨w.heap.size,0,none⟩=some (.int .i64 s) by rw [hW];simp [go_sem])
  have s1:=stays (show W.cell? ⟨w.heap.size,1,none⟩=some (.slice oa ms.length cap) by rw [hW];simp [go_sem])
  have d0:=stays (show W.cell? ⟨w.heap.size+1,0,none⟩=some (.int .i64 3) by rw [hW];simp [go_sem])
  have d1:=stays (show W.cell? ⟨w.heap.size+1,1,none⟩=some (.slice pa 0 pc) by rw [hW];simp [go_sem])
  have d2:=stays (show W.cell? ⟨w.heap.size+1,2,none⟩=some (.int .i64 n) by rw [hW];simp [go_sem])
  have d3:=stays (show W.cell? ⟨w.heap.size+1,3,none⟩=some (.int .i64 m) by rw [hW];simp [go_sem])
  have hR:W.heap[w.heap.size+1+1]? = some (.cells #[.int .i64 0,.slice none 0 0] 173 (0,0)):=by
    rw [hW];simpa using heap_alloc_new ((w.alloc (.cells #[.int .i64 s,.slice oa ms.length cap] 173)).alloc (.cells #[.int .i64 3,.slice pa 0 pc,.int .i64 n,.int .i64 m,.string lab] 72)) (.cells #[.int .i64 0,.slice none 0 0] 173)
  obtain ⟨y,hy⟩:∃ y,y=n+m:=⟨_,rfl⟩
  have i0:(0:Int)≤(n:Int):=by omega
  have i1:(n:Int)≤(y:Int):=by omega
  have i2:(n:Int)≤(cap:Int):=by omega
  have i3:(0:Int)≤(y:Int):=by omega
  have i4:(y:Int)≤(ms.length:Int):=by omega
  have i5:(y:Int)≤(cap:Int):=by omega
  have i6:(ms.length:Int)≤(cap:Int):=by omega
  have i7:(n:Int)≤(ms.length:Int):=by omega
  have u1:IntKind.i64.wrap ((n:Int)+(m:Int))=(y:Int):=by rw [IntWalk.i64_in _ (by omega)];omega
  obtain ⟨mid,hmid⟩:∃ mid,mid=(ms.drop n).take m:=⟨_,rfl⟩
  have hml:mid.length=m:=by rw [hmid,List.length_take,List.length_drop];omega
  have hym:y - n=m:=by omega
  have Hmid:=Lib.hid hmid;have Hml:=Lib.hid hml;have Hy:=Lib.hid hy;have Hym:=Lib.hid hym
  have HR:=Lib.hid hR;have HW:=Lib.hid hwW;have HWs:=Lib.hid hWs;have HK:=Lib.hid hk
  have y0:=d0 _ (Pr.refl _);have y1:=d1 _ (Pr.refl _)
  obtain ⟨L,hL⟩:∃ L,L=ms.take n ++ [.node now mid] ++ ms.drop y:=⟨_,rfl⟩
  have HL:=Lib.hid hL
  rw [← hmid,← hy,← hL]
  clear hR hwW hWs hk hmid hml hy hym hL
  go_enter Tryz.func114,Tryz.ntmps114
  go_upto_region 1 with fail
  rw [← hW];clear hW
  go_upto_region 13 with fail
  clear y0 y1
  go_cut [11] from 87 to 99 (fun v11 wx=>∃ Bk oc cc,v11=.pointer (some ⟨Bk,0,none⟩)∧W.heap.size≤Bk∧wx.heap[Bk]? = some (.cells #[.int .i64 now,.slice oc m cc] 173 (0,0))∧Mrk.Kids (fun j=>(S j∧j < w.heap.size)∨W.heap.size≤j) wx mid oc cc∧Pr W wx)
  case first =>
    have y1:=s1 _ (Pr.refl _);have y2:=d2 _ (Pr.refl _);have y3:=d3 _ (Pr.refl _)
    by_cases hcn:cap=n
    · subst hcn
      have hm0:m=0:=by have:=Hy.out;omega
      have hln:ms.length=cap:=by omega
      have hyc:y=cap:=by have:=Hy.out;omega
      subst hyc;subst hm0
      have y1:W.cell? ⟨w.heap.size,1,none⟩=some (.slice oa y y):=by rw [y1,hln]
      have CT:Hid (Calls Tryz.prog 142 #[.slice oa 0 0] W fun e w'=>(∃ ob cp,e=.returned (.slice ob 0 cp)∧Mrk.Kids (fun k=>(S k∧k < w.heap.size)∨W.heap.size≤k) w' mid ob cp)∧Pr W w'):=Lib.hid (by
        have h0:mid=[]:=List.eq_nil_of_length_eq_zero Hml.out
        rw [h0]
        exact Mrk.cloneTrees_any (fun k=>S k∧k < w.heap.size) [] oa 0 W (Mrk.Kids.nil _ _ _ _ (Nat.zero_le _)) (by simp))
      clear hln s0 s1 d0 d1 d2 d3
      go_wp2_with (go_at_call 142;(with_reducible refine Calls.mono CT.out ?_);rintro e w2 ⟨⟨oc,cc,rfl,hk2⟩,hb2⟩)
      go_meet
      exact ⟨w2.heap.size,oc,cc,rfl,Below.size hb2,heap_alloc_new w2 _,hk2.pr (Pr.alloc _ _),hb2.alloc' _⟩
    · have CT:Hid (Calls Tryz.prog 142 #[.slice (Option.map (fun x=>x.add (n * 2)) oa) (y - n) (cap - n)] W fun e w'=>(∃ ob cp,e=.returned (.slice ob m cp)∧Mrk.Kids (fun k=>(S k∧k < w.heap.size)∨W.heap.size≤k) w' mid ob cp)∧Pr W w'):=Lib.hid (by
        rw [Hym.out]
        have hk:=(((HK.out.carry (S':=fun k=>S k∧k < w.heap.size) fun j hS hl=>⟨rfl,hS,hl⟩).pr HW.out).cutL n (by omega)).cutP m (by rw [List.length_drop];omega)
        rw [← Hmid.out] at hk
        have:=Mrk.cloneTrees_any _ mid _ _ W hk (by rw [Hml.out];omega)
        rw [Hml.out] at this;exact this)
      clear s0 s1 d0 d1 d2 d3
      go_wp2_with (go_at_call 142;(with_reducible refine Calls.mono CT.out ?_);rintro e w2 ⟨⟨oc,cc,rfl,hk2⟩,hb2⟩)
      go_meet
      exact ⟨w2.heap.size,oc,cc,rfl,Below.size hb2,heap_alloc_new w2 _,hk2.pr (Pr.alloc _ _),hb2.alloc' _⟩
  case rest =>
    obtain ⟨Bk,oc,cc,rfl,hBk,hbk,hk2,hpx⟩:=hcut
    obtain ⟨wx,hwx⟩:∃ wx,wx=wc:=⟨_,rfl⟩
    subst hwx
    have hwx:=Below.size hpx
    have KP:∀ b j (v:Value),b≠w.heap.size+1+1→wx.cell? ⟨b,j,none⟩=some v→∀ W',Chg (fun j=>j=w.heap.size+1+1) wx W'→W'.cell? ⟨b,j,none⟩=some v:=fun b j v h1 h2 W' h=>by
      rw [World.cell?_of_block (h.block b (lt_of_cell h2) h1)];exact h2
    have x0:=KP _ _ _ (by omega) (s0 _ hpx);have x1:=KP _ _ _ (by omega) (s1 _ hpx);have x2:=KP _ _ _ (by omega) (d2 _ hpx);have x3:=KP _ _ _ (by omega) (d3 _ hpx)
    have k0:=KP _ _ _ (by have:=HWs.out;omega) (blk_cell (o:=0) hbk);have k1:=KP _ _ _ (by have:=HWs.out;omega) (blk_cell (o:=1) hbk)
    have Hk2:=Lib.hid hk2;have Hpx:=Lib.hid hpx
    have CC:Hid (∀ W' Bk B1 ob cb,Pr wx W'→wx.heap.size≤B1→W'.heap[B1]? = some (.cells #[.int .i64 now,.slice oc m cc] 173 (0,0))→W'.cell? ⟨Bk,0,none⟩=some (.slice oa n cap)→W'.cell? ⟨Bk,1,none⟩=some (.slice (some ⟨B1,0,none⟩) 1 1)→W'.cell? ⟨Bk,2,none⟩=some (.slice ob (ms.length - y) cb)→Mrk.Kids S w (ms.drop y) ob cb →
        Calls Tryz.prog 143 #[.slice (some ⟨Bk,0,none⟩) 3 3] W' fun e w'=>(∃ oc cp,e=.returned (.slice oc L.length cp)∧Mrk.Kids (fun k=>((S k∧k < w.heap.size)∨W.heap.size≤k)∨W'.heap.size≤k) w' L oc cp)∧Pr W' w'):=Lib.hid fun W' Bk B1 ob cb hp hB1 h1 e0 e1 e2 hk3=>by
      have hpw:=HW.out.trans (Hpx.out.trans hp)
      have hkid:Mrk.Kids (fun k=>(S k∧k < w.heap.size)∨W.heap.size≤k) W' [.node now mid] (some ⟨B1,0,none⟩) 1:=by
        refine ⟨⟨by simp,by unfold maxLen;omega⟩,B1,0,fun _=>⟨rfl,.inr (by omega)⟩,.int .i64 now,.slice oc m cc,blk_cell (o:=0) h1,blk_cell (o:=1) h1,?_,trivial⟩
        have:=Mrk.treeV_mk (l:=now) cc trivial (Hk2.out.pr hp)
        rw [Hml.out] at this;exact this
      have:=mconcat3 (fun k=>(S k∧k < w.heap.size)∨W.heap.size≤k) (ms.take n) [.node now mid] (ms.drop y) oa (some ⟨B1,0,none⟩) ob n 1 (ms.length - y) cap 1 cb L.length (by rw [List.length_take];omega) rfl List.length_drop (by rw [HL.out]) Bk W' e0 e1 e2
        (((HK.out.carry (S':=fun k=>(S k∧k < w.heap.size)∨W.heap.size≤k) fun j hS hl=>⟨rfl,.inl ⟨hS,hl⟩⟩).cutP n (by omega)).pr hpw) hkid ((hk3.carry (S':=fun k=>(S k∧k < w.heap.size)∨W.heap.size≤k) fun j hS hl=>⟨rfl,.inl ⟨hS,hl⟩⟩).pr hpw)
        (by rw [HL.out];simp only [List.length_append,List.length_take,List.length_drop,List.length_cons,List.length_nil];omega)
      rw [HL.out];rw [HL.out] at this;exact this
    have HRx:=Lib.hid (hpx.blk HR.out)
    clear hk2 hpx KP hbk s0 s1 d0 d1 d2 d3
    go_upto_region 14 with fail
    by_cases hc2:cap=y
    · subst hc2
      have hkn:ms.length=cap:=by omega
      have x1:∀ W',Chg (fun j=>j=w.heap.size+1+1) wx W'→W'.cell? ⟨w.heap.size,1,none⟩=some (.slice oa cap cap):=fun W' h=>by have:=x1 W' h;rw [hkn] at this;exact this
      have CC2:Hid (∀ W' Bk B1,Pr wx W'→wx.heap.size≤B1→W'.heap[B1]? = some (.cells #[.int .i64 now,.slice oc m cc] 173 (0,0))→W'.cell? ⟨Bk,0,none⟩=some (.slice oa n cap)→W'.cell? ⟨Bk,1,none⟩=some (.slice (some ⟨B1,0,none⟩) 1 1)→W'.cell? ⟨Bk,2,none⟩=some (.slice oa 0 0) →
        Calls Tryz.prog 143 #[.slice (some ⟨Bk,0,none⟩) 3 3] W' fun e w'=>(∃ oc cp,e=.returned (.slice oc L.length cp)∧Mrk.Kids (fun k=>((S k∧k < w.heap.size)∨W.heap.size≤k)∨W'.heap.size≤k) w' L oc cp)∧Pr W' w'):=Lib.hid fun W' Bk B1 hp hB1 h1 e0 e1 e2 =>
        CC.out W' Bk B1 oa 0 hp hB1 h1 e0 e1 (by rw [hkn,Nat.sub_self];exact e2) (by rw [List.drop_eq_nil_of_le (by omega)];exact Mrk.Kids.nil _ _ _ _ (Nat.zero_le _))
      clear CC hkn
      go_region_held3 (fun W'=>Chg (fun j=>j=w.heap.size+1+1) wx W')
        (first | with_reducible exact (Pr.drew wx).chg _ | with_reducible exact (Pr.drew' (Pr.alloc _ _)).chg _ | with_reducible exact (Pr.drew' (Pr.alloc' (Pr.alloc _ _) _)).chg _ | with_reducible exact hp5.chg _ | exact Chg.setCell (Chg.setCell (hp5.chg (fun j=>j=w.heap.size+1+1)) ⟨w.heap.size+1+1,0,none⟩ _ (.inl rfl)) ⟨w.heap.size+1+1,1,none⟩ _ (.inl rfl))
        (first
          | (go_at_call 143;(with_reducible refine Calls.mono (CC2.out _ _ wx.heap.size (Pr.drew' (Pr.alloc' (Pr.alloc _ _) _)) (Nat.le_refl _) ((Pr.drew _).blk ((Pr.alloc _ _).blk (heap_alloc_new wx _))) (by simp [go_sem]) (by simp [go_sem]) (by simp [go_sem])) ?_);rintro e w5 ⟨⟨o5,c5,rfl,hk5⟩,hb5⟩;have hp5:=((Pr.drew' (Pr.alloc' (Pr.alloc wx _) _))).trans hb5;have z:=hp5.blk HRx.out;have q0:=blk_cell (o:=0) z;have q1:=blk_cell (o:=1) z;have q2:=blk_frozen (o:=0) z;have q3:=blk_frozen (o:=1) z;clear z))
      have Hk5:=Lib.hid hk5;have Hp5:=Lib.hid hp5
      clear hk5 hb5 hp5
      go_wp2_with fail
      refine bodyPost_ret (v:=.agg #[.int .i64 s,.slice o5 L.length c5]) (by simp [results,Tryz.results114,go_sem,q0,q1]) rfl ⟨s,L,o5,c5,rfl,rfl,?_,?_⟩
      · have:=HWs.out
        refine (Hk5.out.mono (S':=fun j=>(S j∨w.heap.size≤j)∧j≠w.heap.size+1+1) fun j hj _=>?_).carry fun j hj hl=>⟨?_,hj.1⟩
        · rcases hj with (h | h) | h
          · exact ⟨.inl h.1,by omega⟩
          · exact ⟨.inr (by omega),by omega⟩
          · simp at h;exact ⟨.inr (by omega),by omega⟩
        · rw [Below.heap_setCell _ _ _ _ (show j≠w.heap.size+1+1 from hj.2),Below.heap_setCell _ _ _ _ (show j≠w.heap.size+1+1 from hj.2)]
      · exact ((HW.out.trans (Hpx.out.trans Hp5.out)).setCell (by simp;omega) _).setCell (by simp;omega) _
    · have CC2:Hid (∀ W' Bk B1,Pr wx W'→wx.heap.size≤B1→W'.heap[B1]? = some (.cells #[.int .i64 now,.slice oc m cc] 173 (0,0))→W'.cell? ⟨Bk,0,none⟩=some (.slice oa n cap)→W'.cell? ⟨Bk,1,none⟩=some (.slice (some ⟨B1,0,none⟩) 1 1)→W'.cell? ⟨Bk,2,none⟩=some (.slice (Option.map (fun x=>x.add (y * 2)) oa) (ms.length - y) (cap - y)) →
        Calls Tryz.prog 143 #[.slice (some ⟨Bk,0,none⟩) 3 3] W' fun e w'=>(∃ oc cp,e=.returned (.slice oc L.length cp)∧Mrk.Kids (fun k=>((S k∧k < w.heap.size)∨W.heap.size≤k)∨W'.heap.size≤k) w' L oc cp)∧Pr W' w'):=Lib.hid fun W' Bk B1 hp hB1 h1 e0 e1 e2 =>
        CC.out W' Bk B1 _ _ hp hB1 h1 e0 e1 e2 (HK.out.cutL y (by omega))
      clear CC
      go_region_held3 (fun W'=>Chg (fun j=>j=w.heap.size+1+1) wx W')
        (first | with_reducible exact (Pr.drew wx).chg _ | with_reducible exact (Pr.drew' (Pr.alloc _ _)).chg _ | with_reducible exact (Pr.drew' (Pr.alloc' (Pr.alloc _ _) _)).chg _ | with_reducible exact hp5.chg _ | exact Chg.setCell (Chg.setCell (hp5.chg (fun j=>j=w.heap.size+1+1)) ⟨w.heap.size+1+1,0,none⟩ _ (.inl rfl)) ⟨w.heap.size+1+1,1,none⟩ _ (.inl rfl))
        (first
          | (go_at_call 143;(with_reducible refine Calls.mono (CC2.out _ _ wx.heap.size (Pr.drew' (Pr.alloc' (Pr.alloc _ _) _)) (Nat.le_refl _) ((Pr.drew _).blk ((Pr.alloc _ _).blk (heap_alloc_new wx _))) (by simp [go_sem]) (by simp [go_sem]) (by simp [go_sem])) ?_);rintro e w5 ⟨⟨o5,c5,rfl,hk5⟩,hb5⟩;have hp5:=((Pr.drew' (Pr.alloc' (Pr.alloc wx _) _))).trans hb5;have z:=hp5.blk HRx.out;have q0:=blk_cell (o:=0) z;have q1:=blk_cell (o:=1) z;have q2:=blk_frozen (o:=0) z;have q3:=blk_frozen (o:=1) z;clear z))
      have Hk5:=Lib.hid hk5;have Hp5:=Lib.hid hp5
      clear hk5 hb5 hp5
      go_wp2_with fail
      refine bodyPost_ret (v:=.agg #[.int .i64 s,.slice o5 L.length c5]) (by simp [results,Tryz.results114,go_sem,q0,q1]) rfl ⟨s,L,o5,c5,rfl,rfl,?_,?_⟩
      · have:=HWs.out
        refine (Hk5.out.mono (S':=fun j=>(S j∨w.heap.size≤j)∧j≠w.heap.size+1+1) fun j hj _=>?_).carry fun j hj hl=>⟨?_,hj.1⟩
        · rcases hj with (h | h) | h
          · exact ⟨.inl h.1,by omega⟩
          · exact ⟨.inr (by omega),by omega⟩
          · simp at h;exact ⟨.inr (by omega),by omega⟩
        · rw [Below.heap_setCell _ _ _ _ (show j≠w.heap.size+1+1 from hj.2),Below.heap_setCell _ _ _ _ (show j≠w.heap.size+1+1 from hj.2)]
      · exact ((HW.out.trans (Hpx.out.trans Hp5.out)).setCell (by simp;omega) _).setCell (by simp;omega) _
end
theorem kidM_in (ms:List Mk) (n:Nat) (h:n < ms.length):kidM ms (n:Int)=ms[n]:=by simp [kidM,h]
theorem mdo_any (d:Dee) (now:Int):∀ (p:List Int) (S:Nat→Prop) (s:Int) (ms:List Mk) (oa:Option Addr) (cap:Nat) (pa:Option Addr) (pc:Nat) (w:World),okM d p (.node s ms)→Mrk.Kids S w ms oa cap→Ints Any w p pa pc →
    Calls Tryz.prog 114 #[.agg #[.int .i64 s,.slice oa ms.length cap],.agg #[.int .i64 d.kind,.slice pa p.length pc,.int .i64 d.pos,.int .i64 d.many,.string d.lab],.int .i64 now] w (MDoPost S w (doM d now p (.node s ms)))
  | [],S,s,ms,oa,cap,pa,pc,w,hok,hk,_=>by
    obtain ⟨kind,path,pos,many,lab⟩:=d
    obtain ⟨h1,h2,h3⟩:=hok
    simp only at h1 h2 h3
    simp only [doM]
    by_cases hk3:kind=3
    · subst hk3
      obtain ⟨g1,g2,g3⟩:=h3 rfl
      obtain ⟨n,rfl⟩:=Int.eq_ofNat_of_zero_le g1
      obtain ⟨m,rfl⟩:=Int.eq_ofNat_of_zero_le g2
      rw [if_pos rfl]
      exact mdo_ins n m h1 hk (by omega)
    · rw [if_neg hk3]
      exact mdo_name hk h2 hk3
  | k :: q,S,s,ms,oa,cap,pa,pc,w,hok,hk,hp=>by
    obtain ⟨h1,h2,⟨h3,h4⟩,h5⟩:=hok
    obtain ⟨x,rfl⟩:=Int.eq_ofNat_of_zero_le h3
    have hx:x < ms.length:=by omega
    rw [kidM_in ms x hx] at h2 h5
    simp only [doM]
    rw [kidM_in ms x hx,Int.toNat_natCast]
    by_cases hc:d.kind=2∧q=[]
    · rw [if_pos hc]
      obtain ⟨hc1,rfl⟩:=hc
      cases hek:ms[x] with
      | node s' ks' =>
        rw [hek] at h2
        obtain ⟨kind,path,pos,many,lab⟩:=d
        simp only at hc1
        subst hc1
        exact mdo_del x s' ks' h1 hk hp hx hek h2
    · rw [if_neg hc]
      refine mdo_in x q _ h1 hk hp (fun e hq=>hc ⟨e,hq⟩) hx ?_
      intro S' s' ks' oa' cap' qa' qc' W' hek hk' hq'
      have h6:=h5 hc
      rw [hek] at h6 ⊢
      exact mdo_any d now q S' s' ks' oa' cap' qa' qc' W' h6 hk' hq'
end Go.Proofs.YtdbnfhpgmcjngabGreatDoor
