/- The law BookMerges: its walk. -/
import Derived.Test.YtdbnfhpgmcjngacGreatBm
import Derived.Test.YtdbnfhpgmcjngacGreatBf
import Derived.Test.YtdbnfhpgmcjngacGreatJf
import Derived.Test.YtdbnfhpgmcjngacGreatVf
import Derived.Test.YtdbnfhpgmcjngacGreatBjg
namespace Go.Proofs.YtdbnfhpgmcjngacGreat
open Go Go.RowKit
theorem has_any (LB:Nat) (k:Int) (o:Option Addr) (n c:Nat) (w:World) (h:w.cell? ⟨LB,0,none⟩=some (.slice o n c)) :
    Calls Tryz.prog 8 #[.int .i64 k,.pointer (some ⟨LB,0,none⟩)] w fun e w'=>e=.returned (.bool (decide (0≤k∧k < n)))∧w'=w:=by
  by_cases h0:0≤k
  · have e0:decide ((0:Int)≤k)=true:=decide_eq_true h0
    have e1:decide (0≤k∧k < (n:Int))=decide (k < (n:Int)):=by rw [decide_eq_decide];omega
    rw [e1]
    go_enter Tryz.func8,Tryz.ntmps8
    go_wp2_with fail
    go_ret
    exact ⟨rfl,rfl⟩
  · have e0:decide ((0:Int)≤k)=false:=decide_eq_false h0
    have e1:decide (0≤k∧k < (n:Int))=false:=decide_eq_false (by omega)
    rw [e1]
    go_enter Tryz.func8,Tryz.ntmps8
    go_wp2_with fail
    go_ret
    exact ⟨rfl,rfl⟩
theorem getT_at {ts:List Tr} {i:Nat} (h:i < ts.length):getT ts (i:Int)=ts[i]:=by
  unfold getT
  rw [if_pos ⟨by omega,by omega⟩,Int.toNat_natCast,List.getD_eq_getElem?_getD,List.getElem?_eq_getElem h]
  rfl
set_option maxRecDepth 100000 in
set_option maxHeartbeats 12800000 in
theorem bookMerges_walk (ls:List Tr) (oa cap) (o x y:Int) (d:Dee) (pa pc) (w:World) (hk:Kids Any w ls oa cap) (_:True) (_:(Lit.int .i64 o).wf=true) (_:(Lit.int .i64 x).wf=true) (_:(Lit.int .i64 y).wf=true) (hp:Ints Any w d.path pa pc) (hs:d.lab.size≤maxLen) :
    Calls Tryz.prog 3 #[.slice oa ls.length cap,.int .i64 o,.int .i64 x,.int .i64 y,.agg #[.int .i64 d.kind,.slice pa d.path.length pc,.int .i64 d.pos,.int .i64 d.many,.string d.lab]] w fun e w'=>e=.returned (.bool true)∧Pr w w':=by
  obtain ⟨k,p,a,m,s⟩:=d
  simp only at hp hs ⊢
  obtain ⟨W,hW⟩:∃ W,W=w.alloc (.cells #[.int .i64 k,.slice pa p.length pc,.int .i64 a,.int .i64 m,.string s] 25):=⟨_,rfl⟩
  have hwW:Pr w W:=by rw [hW];exact Pr.alloc _ _
  have d0:=stays (show W.cell? ⟨w.heap.size,0,none⟩=some (.int .i64 k) by rw [hW];simp [go_sem])
  have d1:=stays (show W.cell? ⟨w.heap.size,1,none⟩=some (.slice pa p.length pc) by rw [hW];simp [go_sem])
  have d2:=stays (show W.cell? ⟨w.heap.size,2,none⟩=some (.int .i64 a) by rw [hW];simp [go_sem])
  have d3:=stays (show W.cell? ⟨w.heap.size,3,none⟩=some (.int .i64 m) by rw [hW];simp [go_sem])
  have d4:=stays (show W.cell? ⟨w.heap.size,4,none⟩=some (.string s) by rw [hW];simp [go_sem])
  have hk:=hk.pr hwW
  have hp:=Flat.pr hwW hp
  obtain ⟨gb,hgb⟩:∃ b,b=greatD p s:=⟨_,rfl⟩
  have G1:=Lib.hid fun W' (h:Pr W W')=>greats_any ls oa cap W' (hk.pr h)
  have G2:Hid (∀ W',Pr W W'→Calls Tryz.prog 6 #[.agg #[.int .i64 k,.slice pa p.length pc,.int .i64 a,.int .i64 m,.string s]] W' fun e w'=>e=.returned (.bool gb)∧Pr W' w'):=Lib.hid fun W' h=>by rw [hgb];exact greatDeed_any k p a m s pa pc W' (Flat.pr h hp)
  have HK:=Lib.hid hk;have HP:=Lib.hid hp;have HW:=Lib.hid hwW;have Hgb:=Lib.hid hgb
  clear hk hp hwW hgb
  go_enter Tryz.func3,Tryz.ntmps3
  go_upto_region 1 with fail
  rw [← hW];clear hW
  go_upto_region 3 with (go_at_call 4;refine (bookBegun_any _).mono ?_;rintro e w1 ⟨rfl,hp1⟩)
  have z0:=d0 _ hp1;have z1:=d1 _ hp1;have z2:=d2 _ hp1;have z3:=d3 _ hp1;have z4:=d4 _ hp1
  go_cut [34] from 29 to 34 (fun v wx=>(∃ b,v=.bool b∧(b=false→FewTs ls∧gb=false))∧Pr W wx)
  case first =>
    have hq:=hp1
    cases gb
    all_goals
      go_wp2_with (first
        | (go_at_call 5;(with_reducible refine Calls.mono (G1.out _ hq) ?_);rintro e w2 ⟨⟨b,rfl,hb⟩,hp2⟩;have hq:=hq.trans hp2;have z0:=d0 _ hq;have z1:=d1 _ hq;have z2:=d2 _ hq;have z3:=d3 _ hq;have z4:=d4 _ hq)
        | (go_at_call 6;(with_reducible refine Calls.mono (G2.out _ hq) ?_);rintro e w3 ⟨rfl,hp3⟩;have hq:=hq.trans hp3))
    all_goals go_meet
    all_goals first
      | (case rel=>exact ⟨⟨true,rfl,fun h=>by cases h⟩,hq⟩)
      | (case rel=>exact ⟨⟨false,rfl,fun _=>⟨hb (by simpa using ‹¬b=true›),by first | rfl | trivial⟩⟩,hq⟩)
      | trace_state
  case rest =>
  obtain ⟨⟨b,rfl,hb⟩,hp2⟩:=hcut
  obtain ⟨w2,hw2⟩:∃ w2,w2=wc:=⟨_,rfl⟩
  subst hw2
  cases b
  case true =>
    go_wp2_with fail
    go_ret
    exact ⟨rfl,HW.out.trans hp2⟩
  obtain ⟨ft,rfl⟩:=hb rfl
  have hpl:p.length≤60∧s.size≤100:=by
    have h3:=Hgb.out;unfold greatD at h3;simp only [Bool.false_eq,Bool.or_eq_false_iff,decide_eq_false_iff_not] at h3;omega
  have B1:=Lib.hid fun W' (h:Pr w2 W')=>books_any ls oa cap W' (HK.out.pr (hp2.trans h))
  have HP2:=Lib.hid hp2
  generalize inP ls=ts at *
  clear hb hp2 z0 z1 z2 z3 z4 hp1 G1 G2
  go_upto_region 6 with (go_at_call 7;(with_reducible refine Calls.mono (B1.out _ (Pr.refl _)) ?_);rintro e w3 ⟨X3,Ba,va,oi,ci,rfl,hba,hki,_,_,hb3⟩)
  obtain ⟨V,hV⟩:∃ V,V=w3.alloc (.cells #[.slice oi ts.length ci] 22):=⟨_,rfl⟩
  obtain ⟨LB,hLB⟩:∃ LB,LB=w3.heap.size:=⟨_,rfl⟩
  rw [← hV,← hLB]
  have hwV:Pr w3 V:=by rw [hV];exact Pr.alloc _ _
  have L0:=stays (show V.cell? ⟨LB,0,none⟩=some (.slice oi ts.length ci) by rw [hV,hLB];simp [go_sem])
  have HBA:=Lib.hid (hba.pr hwV);have HKI:=Lib.hid ((hki.any).pr hwV)
  have HV:=Lib.hid (HP2.out.trans (hb3.trans hwV))
  have hfew:=hba.few
  clear hV hLB hwV hba hki hb3
  obtain ⟨R,hR⟩:∃ R,R=bmergeP ts o x y:=⟨_,rfl⟩
  have M1:=bmerge_any Ba va ts o x y V HBA.out
  rw [← hR] at M1
  unfold MergePost at M1
  have M1:=Lib.hid M1;have HRm:=Lib.hid hR
  clear hR
  go_upto_region 8 with (go_at_call 9;(with_reducible refine Calls.mono M1.out ?_);rintro e w4 ⟨lm,km,om,cm,pm,qm,hrm,hlm,rfl,hkm,him,hb4⟩)
  obtain ⟨V4,hV4⟩:∃ V4,V4=w4.alloc (.cells #[.string lm,.slice om km.length cm] 34):=⟨_,rfl⟩
  obtain ⟨MB,hMB⟩:∃ MB,MB=w4.heap.size:=⟨_,rfl⟩
  rw [← hV4,← hMB]
  obtain ⟨rp,hrp⟩:∃ z,z=R.2.1:=⟨_,rfl⟩
  obtain ⟨rn,hrn⟩:∃ z,z=R.2.1.length:=⟨_,rfl⟩
  obtain ⟨rc,hrc⟩:∃ z:Int,z=((R.2.2:Nat):Int):=⟨_,rfl⟩
  rw [← hrp] at him
  rw [← hrn,← hrc]
  have Hrp:=Lib.hid hrp;have Hrc:=Lib.hid hrc;have Hrn:=Lib.hid hrn
  clear hrp hrc hrn
  have hwV4:Pr w4 V4:=by rw [hV4];exact Pr.alloc _ _
  have m0:=stays (show V4.cell? ⟨MB,0,none⟩=some (.string lm) by rw [hV4,hMB];simp [go_sem])
  have m1:=stays (show V4.cell? ⟨MB,1,none⟩=some (.slice om km.length cm) by rw [hV4,hMB];simp [go_sem])
  have HKM:=Lib.hid (hkm.pr hwV4);have HIM:=Lib.hid (Flat.pr hwV4 him)
  have h4:=hb4.trans hwV4
  have L0:=stays (L0 _ h4)
  have HBA:=Lib.hid (HBA.out.pr h4);have HKI:=Lib.hid (HKI.out.pr h4)
  have HV:=Lib.hid (HV.out.trans h4)
  have Hrm:=Lib.hid hrm
  clear hV4 hMB hwV4 hkm him h4 hb4 hrm B1
  have C1:∀ (z:Int) W',Pr V4 W'→Calls Tryz.prog 8 #[.int .i64 z,.pointer (some ⟨LB,0,none⟩)] W' fun e w'=>e=.returned (.bool (hasT ts z))∧w'=W':=fun z W' h=>has_any LB z oi ts.length ci W' (L0 _ h)
  have C1:=Lib.hid C1
  obtain ⟨bo,hbo⟩:∃ b,b=hasT ts o:=⟨_,rfl⟩
  obtain ⟨bx,hbx⟩:∃ b,b=hasT ts x:=⟨_,rfl⟩
  obtain ⟨bz,hbz⟩:∃ b,b=hasT ts y:=⟨_,rfl⟩
  have CO:=Lib.hid (C1.out o);have CX:=Lib.hid (C1.out x);have CY:=Lib.hid (C1.out y)
  rw [← hbo] at CO;rw [← hbx] at CX;rw [← hbz] at CY
  have Hbo:=Lib.hid hbo
  have hRv:=HRm.out
  unfold bmergeP at hRv
  rw [← hbo,← hbx,← hbz] at hRv
  have HRv:=Lib.hid hRv
  clear C1 HRm hRv
  go_cut [65] from 50 to 65 (fun v wx=>v=.bool (!(bo && bx && bz))∧wx=V4)
  case first =>
    have h3:bo=false∨(bo=true∧bx=false)∨(bo=true∧bx=true∧bz=false)∨(bo=true∧bx=true∧bz=true):=by cases bo <;> cases bx <;> cases bz <;> simp
    clear HRv hbo hbx hbz
    rcases h3 with rfl | ⟨rfl,rfl⟩ | ⟨rfl,rfl,rfl⟩ | ⟨rfl,rfl,rfl⟩
    all_goals
      go_wp2_with (first
        | (go_at_call 8;(with_reducible refine Calls.mono (CO.out _ (Pr.refl _)) ?_);rintro e wd ⟨rfl,hwd⟩;obtain rfl:=hwd.symm)
        | (go_at_call 8;(with_reducible refine Calls.mono (CX.out _ (Pr.refl _)) ?_);rintro e wd ⟨rfl,hwd⟩;obtain rfl:=hwd.symm)
        | (go_at_call 8;(with_reducible refine Calls.mono (CY.out _ (Pr.refl _)) ?_);rintro e wd ⟨rfl,hwd⟩;obtain rfl:=hwd.symm))
      go_meet
      case rel=>simp
  case rest =>
  obtain ⟨rfl,hwc⟩:=hcut
  have hwc2:=hwc.symm
  clear hwc
  subst hwc2
  obtain ⟨nb,hnb⟩:∃ nb,nb=!(bo && bx && bz):=⟨_,rfl⟩
  rw [← hnb]
  go_upto_if 65 with fail
  go_cut [17,18,19] from 66 to 104 (fun _ _ _ wx=>Pr V4 wx)
  case first =>
    by_cases hall:(bo && bx && bz)=true
    case neg =>
      have hR:=HRv.out
      rw [if_neg hall] at hR
      have hal2:(bo && bx && bz)=false:=by simpa using hall
      obtain rfl:nb=true:=by rw [hnb,hal2];rfl
      clear hnb
      clear HRv hbo hbx hbz
      obtain rfl:rc=7:=by rw [Hrc.out,hR];rfl
      obtain rfl:rn=0:=by rw [Hrn.out,hR];rfl
      clear hR
      go_wp2_with fail
      go_meet
      exact Pr.refl _
    case pos =>
      have hR:=HRv.out
      rw [if_pos hall] at hR
      obtain rfl:nb=false:=by rw [hnb,hall];rfl
      clear hnb
      obtain ⟨⟨rfl,rfl⟩,rfl⟩:(bo=true∧bx=true)∧bz=true:=by simpa using hall
      clear hall HRv
      have ho:=of_decide_eq_true (show decide (0≤o∧o < ts.length)=true from hbo.symm)
      have hx':=of_decide_eq_true (show decide (0≤x∧x < ts.length)=true from hbx.symm)
      have hy':=of_decide_eq_true (show decide (0≤y∧y < ts.length)=true from hbz.symm)
      obtain ⟨O,rfl⟩:=Int.eq_ofNat_of_zero_le ho.1
      obtain ⟨X,rfl⟩:=Int.eq_ofNat_of_zero_le hx'.1
      obtain ⟨Y,rfl⟩:=Int.eq_ofNat_of_zero_le hy'.1
      have hO:O < ts.length:=by omega
      have hX:X < ts.length:=by omega
      have hY:Y < ts.length:=by omega
      obtain ⟨b1,f1,l1,k1,a1,c1,e1,hl1,rfl,u10,u11,hk1⟩:=HKI.out.get O hO
      obtain ⟨b2,f2,l2,k2,a2,c2,e2,hl2,eb2,u20,u21,hk2⟩:=HKI.out.get X hX
      obtain ⟨b3,f3,l3,k3,a3,c3,e3,hl3,eb3,u30,u31,hk3⟩:=HKI.out.get Y hY
      obtain ⟨rfl,rfl⟩:b1=b2∧f1=f2:=by simpa using eb2
      obtain ⟨rfl,rfl⟩:b1=b3∧f1=f3:=by simpa using eb3
      have hRe:R=mergeT (.node l1 k1) (.node l2 k2) (.node l3 k3):=by
        rw [hR,getT_at hO,getT_at hX,getT_at hY,e1,e2,e3]
      have RM:Hid (∀ W',Pr V4 W'→Calls Tryz.prog 10 #[.agg #[.string l1,.slice a1 k1.length c1],.agg #[.string l2,.slice a2 k2.length c2],.agg #[.string l3,.slice a3 k3.length c3]] W' fun e w' =>
          (∃ oa cap pa pc,e=.returned (.tuple #[.agg #[.string lm,.slice oa km.length cap],.slice pa rn pc,.int .i64 rc])∧Kids (From W'.heap.size) w' km oa cap∧Ints (From W'.heap.size) w' rp pa pc)∧Pr W' w'):=Lib.hid fun W' h=>by
        refine (rmerge_anyF hl1 hl2 hl3 (hk1.pr h) (hk2.pr h) (hk3.pr h)).mono ?_
        rintro e w' ⟨l5,ks5,oa,cap,pa,pc,h1,h2,rfl,h3,h4,h5⟩
        rw [← hRe] at h1 h4
        rw [Hrm.out] at h1
        cases h1
        rw [Hrp.out,Hrn.out,Hrc.out]
        exact ⟨⟨oa,cap,pa,pc,by rw [← hRe],h3,h4⟩,h5⟩
      have d1:(0:Int)≤(O:Int):=by omega
      have d2:(O:Int) < (ts.length:Int):=by omega
      have d3:(0:Int)≤(X:Int):=by omega
      have d4:(X:Int) < (ts.length:Int):=by omega
      have d5:(0:Int)≤(Y:Int):=by omega
      have d6:(Y:Int) < (ts.length:Int):=by omega
      have x0:=L0 _ (Pr.refl _)
      clear hbo hbx hbz ho hx' hy' e1 e2 e3 eb2 eb3 hk1 hk2 hk3 hR hRe
      go_upto_region 11 with fail
      have hp:=Pr.refl V4
      have U10:=stays u10;have U11:=stays u11;have U20:=stays u20;have U21:=stays u21;have U30:=stays u30;have U31:=stays u31
      go_cut [17,18,19] from 73 to 89 (fun v17 v18 v19 wx=>∃ T ou cu pu qu,v17=.pointer (some ⟨T,0,none⟩)∧v18=.slice pu rn qu∧v19=.int .i64 rc∧wx.cell? ⟨T,0,none⟩=some (.string lm)∧wx.cell? ⟨T,1,none⟩=some (.slice ou km.length cu)∧Kids Any wx km ou cu∧Ints Any wx rp pu qu∧Pr V4 wx)
      case first =>
        go_region_held3 (fun W'=>Pr V4 W')
          (first | with_reducible exact Pr.drew V4 | with_reducible exact (Pr.alloc _ _).drew' | with_reducible exact hp | with_reducible exact hp.alloc' _ | exact Pr.setCell (Pr.setCell hp (Nat.le_refl _) _) (Nat.le_refl _) _)
          (first
            | (go_at_call 10;(with_reducible refine Calls.mono (RM.out _ (Pr.drew V4)) ?_);rintro e w5 ⟨⟨oa5,ca5,pa5,pc5,rfl,hk5,hi5⟩,hb⟩;have hp:=(Pr.drew V4).trans hb)
            | (go_at_call 10;(with_reducible refine Calls.mono (RM.out _ (Pr.drew' (Pr.alloc _ _))) ?_);rintro e w5 ⟨⟨oa5,ca5,pa5,pc5,rfl,hk5,hi5⟩,hb⟩;have hp:=((Pr.alloc _ _).drew').trans hb;have z:=hb.blk ((Pr.drew _).blk (heap_alloc_new V4 _));have z0:w5.cell? ⟨V4.heap.size,0,none⟩=some (.string ⟨#[]⟩):=blk_cell z;have z1:w5.cell? ⟨V4.heap.size,1,none⟩=some (.slice none 0 0):=blk_cell z;have y0:w5.frozen? ⟨V4.heap.size,0,none⟩=false:=blk_frozen z;have y1:w5.frozen? ⟨V4.heap.size,1,none⟩=false:=blk_frozen z;have Hz:=Lib.hid z;clear z))
        all_goals
          go_wp2_with fail
          go_meet
        case rel=>exact ⟨w5.heap.size,oa5,ca5,pa5,pc5,rfl,rfl,rfl,by simp [go_sem],by simp [go_sem],hk5.any.pr (Pr.alloc _ _),Flat.pr (Pr.alloc _ _) (Flat.any hi5),hp.alloc' _⟩
        case rel=>exact ⟨V4.heap.size,oa5,ca5,pa5,pc5,rfl,rfl,rfl,by rw [blk_cell (blk_set (o:=1) (blk_set (o:=0) Hz.out _) _)];rfl,by rw [blk_cell (blk_set (o:=1) (blk_set (o:=0) Hz.out _) _)];rfl,((hk5.setCell _ _ (by show ¬ _;simp)).setCell _ _ (by show ¬ _;simp)).any,Flat.any ((hi5.kept (kept_setCell _ _ _ _ (by show ¬ _;simp))).kept (kept_setCell _ _ _ _ (by show ¬ _;simp))),Pr.setCell (Pr.setCell hp (Nat.le_refl _) _) (Nat.le_refl _) _⟩
      case rest =>
      obtain ⟨T,ou,cu,pu,qu,rfl,rfl,rfl,t0,t1,hku,hiu,hq⟩:=hcut
      have x0:=m0 _ hq;have x1:=m1 _ hq
      have S1:=sameTree_any lm lm km km om cm ou cu wc (HKM.out.pr hq) hku
      rw [Tr.beq_self] at S1
      have S1:=Lib.hid S1
      have S2:Hid (∀ W',Pr wc W'→Calls Tryz.prog 12 #[.slice pm rn qm,.slice pu rn qu] W' fun e w'=>e=.returned (.bool true)∧Pr W' w'):=Lib.hid fun W' h=>by
        have:=sints_any rp rp pm qm pu qu W' (Flat.pr (hq.trans h) HIM.out) (Flat.pr h hiu)
        rw [show rp.length=rn by rw [Hrp.out,Hrn.out]] at this
        simpa using this
      clear hku hiu
      go_wp2_with (first
        | (go_at_call 11;(with_reducible refine Calls.mono S1.out ?_);rintro e w6 ⟨rfl,hb6⟩)
        | (go_at_call 12;(with_reducible refine Calls.mono (S2.out _ hb6) ?_);rintro e w7 ⟨rfl,hb7⟩))
      go_meet
      exact hq.trans (hb6.trans hb7)
  case rest =>
  obtain ⟨w5,hw5⟩:∃ w5,w5=wc:=⟨_,rfl⟩
  subst hw5
  have h45:=hcut
  have L0:=stays (L0 _ h45)
  have HBA:=Lib.hid (HBA.out.pr h45);have HKI:=Lib.hid (HKI.out.pr h45)
  have HV:=Lib.hid (HV.out.trans h45)
  have D0:=stays (d0 _ HV.out);have D1:=stays (d1 _ HV.out);have D2:=stays (d2 _ HV.out);have D3:=stays (d3 _ HV.out);have D4:=stays (d4 _ HV.out)
  have HPI:=Lib.hid (Flat.pr HV.out HP.out)
  have WT:=bwith_any Ba va ts o k p a m s pa pc w5 HBA.out hs HPI.out (by omega)
  obtain ⟨⟨T,c⟩,hT⟩:∃ r,r=bwithP ts o ⟨k,p,a,m,s⟩:=⟨_,rfl⟩
  rw [← hT] at WT
  unfold WithPost at WT
  simp only [] at WT
  have WT:=Lib.hid WT;have HT:=Lib.hid hT
  have z0:=D0 _ (Pr.refl _);have z1:=D1 _ (Pr.refl _);have z2:=D2 _ (Pr.refl _);have z3:=D3 _ (Pr.refl _);have z4:=D4 _ (Pr.refl _)
  have H45:=Lib.hid h45
  clear hT hcut h45 HRv CX CY m0 m1 hbo hbx hbz
  go_upto_region 15 with (go_at_call 13;(with_reducible refine Calls.mono WT.out ?_);rintro e w6 ⟨lw,kw,ow,cw,hTw,rfl,hkw,hb6⟩)
  obtain ⟨V6,hV6⟩:∃ V6,V6=w6.alloc (.cells #[.string lw,.slice ow kw.length cw] 34):=⟨_,rfl⟩
  obtain ⟨WB,hWB⟩:∃ WB,WB=w6.heap.size:=⟨_,rfl⟩
  rw [← hV6,← hWB]
  have hw6:Pr w6 V6:=by rw [hV6];exact Pr.alloc _ _
  have n0:=stays (show V6.cell? ⟨WB,0,none⟩=some (.string lw) by rw [hV6,hWB];simp [go_sem])
  have n1:=stays (show V6.cell? ⟨WB,1,none⟩=some (.slice ow kw.length cw) by rw [hV6,hWB];simp [go_sem])
  have h56:=hb6.trans hw6
  have HKW:=Lib.hid (hkw.pr hw6)
  have L0:=stays (L0 _ h56)
  have HBA:=Lib.hid (HBA.out.pr h56);have HKI:=Lib.hid (HKI.out.pr h56)
  have HV:=Lib.hid (HV.out.trans h56)
  have D0:=stays (D0 _ h56);have D1:=stays (D1 _ h56);have D2:=stays (D2 _ h56);have D3:=stays (D3 _ h56);have D4:=stays (D4 _ h56)
  have HPI:=Lib.hid (Flat.pr h56 HPI.out)
  have CO:=Lib.hid (CO.out V6 (H45.out.trans h56))
  clear hV6 hWB hw6 hkw hb6 h56 z0 z1 z2 z3 z4
  have Hhas:=Hbo.out
  have HTw:=Lib.hid hTw
  clear hTw
  cases bo
  case false =>
    have hT:=HT.out
    unfold bwithP at hT
    rw [← Hhas,if_neg (by decide)] at hT
    have hc:c=7:=by cases hT;rfl
    subst hc
    clear hT Hhas
    go_wp2_with (go_at_call 8;(with_reducible refine Calls.mono CO.out ?_);rintro e wd ⟨rfl,hwd⟩;obtain rfl:=hwd.symm)
    go_ret
    exact ⟨rfl,HW.out.trans HV.out⟩
  case true =>
  have ho:=of_decide_eq_true (show decide (0≤o∧o < ts.length)=true from Hhas.symm)
  obtain ⟨O,rfl⟩:=Int.eq_ofNat_of_zero_le ho.1
  have hO:O < ts.length:=by omega
  obtain ⟨b1,og1,l1,k1,a1,c1,e1,hl1,rfl,u10,u11,hk1⟩:=HKI.out.get O hO
  have hT:=HT.out
  unfold bwithP at hT
  rw [← Hhas,if_pos rfl,getT_at hO,e1] at hT
  obtain ⟨l2,k2,dk,dp,da,dm,dl,dc,hdo⟩:∃ l2 k2 dk dp da dm dl dc,doD (.node l1 k1) ⟨k,p,a,m,s⟩=(.node l2 k2,⟨dk,dp,da,dm,dl⟩,dc):=by
    obtain ⟨⟨l2,k2⟩,⟨dk,dp,da,dm,dl⟩,dc⟩:=doD (.node l1 k1) ⟨k,p,a,m,s⟩
    exact ⟨_,_,_,_,_,_,_,_,rfl⟩
  rw [hdo] at hT
  simp only [] at hT
  have hT1:T=.node l2 k2:=by cases hT;rfl
  have hT2:c=dc:=by cases hT;rfl
  have hTw:=HTw.out
  rw [hT1] at hTw
  obtain ⟨rfl,rfl⟩:l2=lw∧k2=kw:=by cases hTw;exact ⟨rfl,rfl⟩
  subst hT2
  have hkS:=hk1.mono (S':=fun j=>j < V6.heap.size) (fun k _ h=>h)
  have hpS:=Flat.mono (S':=fun j=>j < V6.heap.size) (fun k _ h=>h) HPI.out
  have RD:Hid (∀ W',Pr V6 W'→Calls Tryz.prog 14 #[.agg #[.string l1,.slice a1 k1.length c1],.agg #[.int .i64 k,.slice pa p.length pc,.int .i64 a,.int .i64 m,.string s]] W' fun e w' =>
      ∃ oa cap bp bc,e=.returned (.tuple #[.agg #[.string l2,.slice oa k2.length cap],.agg #[.int .i64 dk,.slice bp dp.length bc,.int .i64 da,.int .i64 dm,.string dl],.int .i64 (c:Nat)])∧Kids (fun j=>j < V6.heap.size∨W'.heap.size≤j) w' k2 oa cap∧Pr W' w'):=Lib.hid fun W' h=>by
    refine (rdoS_any (fun j=>j < V6.heap.size) l1 k1 a1 c1 k p a m s pa pc W' hl1 (hkS.pr h) hs (Flat.pr h hpS) (by omega)).mono ?_
    rintro e w' ⟨l',ks',oa',cap',k',p',a',m',s',bp,bc,c',hd,hl',rfl,hk2,hi2,hp⟩
    have hd2:=hd.symm.trans hdo
    simp only [Prod.mk.injEq,Tr.node.injEq,Dee.mk.injEq] at hd2
    obtain ⟨⟨rfl,rfl⟩,⟨rfl,rfl,rfl,rfl,rfl⟩,rfl⟩:=hd2
    exact ⟨oa',cap',bp,bc,rfl,hk2,hp⟩
  have Hdo:=Lib.hid hdo;have He1:=Lib.hid e1
  have U10:=stays u10;have U11:=stays u11
  have q1:(0:Int)≤(O:Int):=by omega
  have q2:(O:Int) < (ts.length:Int):=by omega
  have HKO:=Lib.hid hk1
  clear Hhas ho hT hT1 hTw hdo e1 u10 u11 hk1 hkS hpS
  go_upto_region 17 with (go_at_call 8;(with_reducible refine Calls.mono CO.out ?_);rintro e wd ⟨rfl,hwd⟩;obtain rfl:=hwd.symm)
  go_cut [22,23,24] from 118 to 127 (fun v22 _ v24 wx=>∃ T ou cu,v22=.pointer (some ⟨T,0,none⟩)∧v24=.int .i64 (c:Nat)∧wx.cell? ⟨T,0,none⟩=some (.string l2)∧wx.cell? ⟨T,1,none⟩=some (.slice ou k2.length cu)∧Kids Any wx k2 ou cu∧Pr V6 wx)
  case first =>
--BEGIN R17
    refine wp_region_invA (by kernel_rfl) (by kernel_rfl) (fun a0 L a' w'=>∃ (tag:Nat→Nat) (oc:Option Addr) (cc:Nat) (bp:Option Addr) (bc:Nat) (v119:Value) (v120:Value) (v121:Value) (v122:Value) (v123:Value) (v124:Value) (v118:Value) (v125:Value) (v126:Value) (v127:Value) (v22:Value) (v23:Value) (v24:Value),a'=(((((((((((((a0.put (some 119) v119).put (some 120) v120).put (some 121) v121).put (some 122) v122).put (some 123) v123).put (some 124) v124).put (some 118) v118).put (some 125) v125).put (some 126) v126).put (some 127) v127).put (some 22) v22).put (some 23) v23).put (some 24) v24)∧Pr V6 w' ∧
      (L.getD 0 false=true→v119=.slice (some ⟨b1,og1,none⟩) ts.length ci) ∧
      (L.getD 1 false=true→v120=.int .i64 (O:Int)) ∧
      (L.getD 2 false=true→v121=.pointer (some ⟨b1,og1+O * 2,none⟩)) ∧
      (L.getD 3 false=true→v122=.agg #[.string l1,.slice a1 k1.length c1]) ∧
      (L.getD 4 false=true→v123=.agg #[.int .i64 k,.slice pa p.length pc,.int .i64 a,.int .i64 m,.string s]) ∧
      (L.getD 5 false=true→v124=.tuple #[.agg #[.string l2,.slice oc k2.length cc],.agg #[.int .i64 dk,.slice bp dp.length bc,.int .i64 da,.int .i64 dm,.string dl],.int .i64 (c:Nat)]) ∧
      (L.getD 6 false=true→v118=.tuple #[.agg #[.string l2,.slice oc k2.length cc],.agg #[.int .i64 dk,.slice bp dp.length bc,.int .i64 da,.int .i64 dm,.string dl],.int .i64 (c:Nat)]) ∧
      (L.getD 7 false=true→v125=.agg #[.string l2,.slice oc k2.length cc]) ∧
      (L.getD 8 false=true→v126=.agg #[.int .i64 dk,.slice bp dp.length bc,.int .i64 da,.int .i64 dm,.string dl]) ∧
      (L.getD 9 false=true→v127=.int .i64 (c:Nat)) ∧
      (L.getD 14 false=true→v24=.int .i64 (c:Nat)) ∧
      (L.getD 5 false=true→Kids (fun j=>j < V6.heap.size∨tag j=1) w' k2 oc cc) ∧
      (L.getD 10 false=true→∃ T x y,v22=.pointer (some ⟨T,0,none⟩)∧V6.heap.size≤T∧tag T=2∧w'.heap[T]? = some (.cells #[x,y] 34 (0,0))) ∧
      (L.getD 11 false=true→L.getD 13 false=false→∃ T x0 x1 x2 x3 x4,v23=.pointer (some ⟨T,0,none⟩)∧V6.heap.size≤T∧tag T=3∧w'.heap[T]? = some (.cells #[x0,x1,x2,x3,x4] 25 (0,0))) ∧
      (L.getD 12 false=true→∃ T,v22=.pointer (some ⟨T,0,none⟩)∧V6.heap.size≤T∧tag T=2∧w'.heap[T]? = some (.cells #[.string l2,.slice oc k2.length cc] 34 (0,0))) ∧
      (L.getD 6 false=true→L.getD 5 false=true) ∧
      (L.getD 7 false=true→L.getD 5 false=true) ∧
      (L.getD 8 false=true→L.getD 5 false=true) ∧
      (L.getD 12 false=true→L.getD 5 false=true) ∧
      (L.getD 12 false=true→L.getD 10 false=true) ∧
      (L.getD 13 false=true→L.getD 11 false=true)) ?_ ?_ ?_
    · exact ⟨fun _=>0,none,0,none,0,undef,undef,undef,undef,undef,undef,undef,undef,undef,undef,undef,undef,undef,by simp [Act.put],Pr.drew _,rep_no,rep_no,rep_no,rep_no,rep_no,rep_no,rep_no,rep_no,rep_no,rep_no,rep_no,rep_no,rep_no,rep_no,rep_no,rep_no,rep_no,rep_no,rep_no,rep_no,rep_no⟩
    · intro i L a' w' hI' hi
      obtain ⟨tag,oc,cc,bp,bc,v119,v120,v121,v122,v123,v124,v118,v125,v126,v127,v22,v23,v24,rfl,hpr,f0,f1,f2,f3,f4,f5,f6,f7,f8,f9,f14,kk,f10,f11,f12,d6x5,d7x5,d8x5,d12x5,d12x10,d13x11⟩:=hI'
      have h15:i < 15:=by have:=(List.mem_filter.1 hi).1;simpa using this
      have hun:∀ j,j≠i→(L.setIfInBounds i true).getD j false=L.getD j false:=fun j hj=>setD_ne hj
      rcases (show i=0∨i=1∨i=2∨i=3∨i=4∨i=5∨i=6∨i=7∨i=8∨i=9∨i=10∨i=11∨i=12∨i=13∨i=14 by omega) with rfl | rfl | rfl | rfl | rfl | rfl | rfl | rfl | rfl | rfl | rfl | rfl | rfl | rfl | rfl
      · refine wpOp_step rfl (fun K hK=>?_)
        simp only [Act.put,List.setIfInBounds_toArray,List.set_cons_zero,List.set_cons_succ]
        have x0:=L0 _ hpr
        go_simp
        exact hK _ _ ⟨tag,oc,cc,bp,bc,.slice (some ⟨b1,og1,none⟩) ts.length ci,v120,v121,v122,v123,v124,v118,v125,v126,v127,v22,v23,v24,by simp [Act.put],hpr,(fun _=>rfl),(fun h=>f1 (by rwa [hun 1 (by decide)] at h)),(fun h=>f2 (by rwa [hun 2 (by decide)] at h)),(fun h=>f3 (by rwa [hun 3 (by decide)] at h)),(fun h=>f4 (by rwa [hun 4 (by decide)] at h)),(fun h=>f5 (by rwa [hun 5 (by decide)] at h)),(fun h=>f6 (by rwa [hun 6 (by decide)] at h)),(fun h=>f7 (by rwa [hun 7 (by decide)] at h)),(fun h=>f8 (by rwa [hun 8 (by decide)] at h)),(fun h=>f9 (by rwa [hun 9 (by decide)] at h)),(fun h=>f14 (by rwa [hun 14 (by decide)] at h)),(fun h=>kk (by rwa [hun 5 (by decide)] at h)),(fun h=>f10 (by rwa [hun 10 (by decide)] at h)),(fun h h2=>f11 (by rwa [hun 11 (by decide)] at h) (by rwa [hun 13 (by decide)] at h2)),(fun h=>f12 (by rwa [hun 12 (by decide)] at h)),(fun h=>by rw [hun 5 (by decide)];exact d6x5 (by rwa [hun 6 (by decide)] at h)),(fun h=>by rw [hun 5 (by decide)];exact d7x5 (by rwa [hun 7 (by decide)] at h)),(fun h=>by rw [hun 5 (by decide)];exact d8x5 (by rwa [hun 8 (by decide)] at h)),(fun h=>by rw [hun 5 (by decide)];exact d12x5 (by rwa [hun 12 (by decide)] at h)),(fun h=>by rw [hun 10 (by decide)];exact d12x10 (by rwa [hun 12 (by decide)] at h)),(fun h=>by rw [hun 11 (by decide)];exact d13x11 (by rwa [hun 13 (by decide)] at h))⟩
      · refine wpOp_step rfl (fun K hK=>?_)
        simp only [Act.put,List.setIfInBounds_toArray,List.set_cons_zero,List.set_cons_succ]
        go_simp
        exact hK _ _ ⟨tag,oc,cc,bp,bc,v119,.int .i64 (O:Int),v121,v122,v123,v124,v118,v125,v126,v127,v22,v23,v24,by simp [Act.put],hpr,(fun h=>f0 (by rwa [hun 0 (by decide)] at h)),(fun _=>rfl),(fun h=>f2 (by rwa [hun 2 (by decide)] at h)),(fun h=>f3 (by rwa [hun 3 (by decide)] at h)),(fun h=>f4 (by rwa [hun 4 (by decide)] at h)),(fun h=>f5 (by rwa [hun 5 (by decide)] at h)),(fun h=>f6 (by rwa [hun 6 (by decide)] at h)),(fun h=>f7 (by rwa [hun 7 (by decide)] at h)),(fun h=>f8 (by rwa [hun 8 (by decide)] at h)),(fun h=>f9 (by rwa [hun 9 (by decide)] at h)),(fun h=>f14 (by rwa [hun 14 (by decide)] at h)),(fun h=>kk (by rwa [hun 5 (by decide)] at h)),(fun h=>f10 (by rwa [hun 10 (by decide)] at h)),(fun h h2=>f11 (by rwa [hun 11 (by decide)] at h) (by rwa [hun 13 (by decide)] at h2)),(fun h=>f12 (by rwa [hun 12 (by decide)] at h)),(fun h=>by rw [hun 5 (by decide)];exact d6x5 (by rwa [hun 6 (by decide)] at h)),(fun h=>by rw [hun 5 (by decide)];exact d7x5 (by rwa [hun 7 (by decide)] at h)),(fun h=>by rw [hun 5 (by decide)];exact d8x5 (by rwa [hun 8 (by decide)] at h)),(fun h=>by rw [hun 5 (by decide)];exact d12x5 (by rwa [hun 12 (by decide)] at h)),(fun h=>by rw [hun 10 (by decide)];exact d12x10 (by rwa [hun 12 (by decide)] at h)),(fun h=>by rw [hun 11 (by decide)];exact d13x11 (by rwa [hun 13 (by decide)] at h))⟩
      · refine wpOp_step rfl (fun K hK=>?_)
        simp only [Act.put,List.setIfInBounds_toArray,List.set_cons_zero,List.set_cons_succ]
        have hd0:=(ready_dep hi rfl).2 { on:=0,ground:=.data } (by simp) (by kernel_rfl)
        obtain rfl:=f0 hd0
        have hd1:=(ready_dep hi rfl).2 { on:=1,ground:=.data } (by simp) (by kernel_rfl)
        obtain rfl:=f1 hd1
        go_simp
        exact hK _ _ ⟨tag,oc,cc,bp,bc,.slice (some ⟨b1,og1,none⟩) ts.length ci,.int .i64 (O:Int),.pointer (some ⟨b1,og1+O * 2,none⟩),v122,v123,v124,v118,v125,v126,v127,v22,v23,v24,by simp [Act.put],hpr,(fun h=>f0 (by rwa [hun 0 (by decide)] at h)),(fun h=>f1 (by rwa [hun 1 (by decide)] at h)),(fun _=>rfl),(fun h=>f3 (by rwa [hun 3 (by decide)] at h)),(fun h=>f4 (by rwa [hun 4 (by decide)] at h)),(fun h=>f5 (by rwa [hun 5 (by decide)] at h)),(fun h=>f6 (by rwa [hun 6 (by decide)] at h)),(fun h=>f7 (by rwa [hun 7 (by decide)] at h)),(fun h=>f8 (by rwa [hun 8 (by decide)] at h)),(fun h=>f9 (by rwa [hun 9 (by decide)] at h)),(fun h=>f14 (by rwa [hun 14 (by decide)] at h)),(fun h=>kk (by rwa [hun 5 (by decide)] at h)),(fun h=>f10 (by rwa [hun 10 (by decide)] at h)),(fun h h2=>f11 (by rwa [hun 11 (by decide)] at h) (by rwa [hun 13 (by decide)] at h2)),(fun h=>f12 (by rwa [hun 12 (by decide)] at h)),(fun h=>by rw [hun 5 (by decide)];exact d6x5 (by rwa [hun 6 (by decide)] at h)),(fun h=>by rw [hun 5 (by decide)];exact d7x5 (by rwa [hun 7 (by decide)] at h)),(fun h=>by rw [hun 5 (by decide)];exact d8x5 (by rwa [hun 8 (by decide)] at h)),(fun h=>by rw [hun 5 (by decide)];exact d12x5 (by rwa [hun 12 (by decide)] at h)),(fun h=>by rw [hun 10 (by decide)];exact d12x10 (by rwa [hun 12 (by decide)] at h)),(fun h=>by rw [hun 11 (by decide)];exact d13x11 (by rwa [hun 13 (by decide)] at h))⟩
      · refine wpOp_step rfl (fun K hK=>?_)
        simp only [Act.put,List.setIfInBounds_toArray,List.set_cons_zero,List.set_cons_succ]
        have hd2:=(ready_dep hi rfl).2 { on:=2,ground:=.data } (by simp) (by kernel_rfl)
        obtain rfl:=f2 hd2
        have x0:=U10 _ hpr;have x1:=U11 _ hpr
        go_simp
        exact hK _ _ ⟨tag,oc,cc,bp,bc,v119,v120,.pointer (some ⟨b1,og1+O * 2,none⟩),.agg #[.string l1,.slice a1 k1.length c1],v123,v124,v118,v125,v126,v127,v22,v23,v24,by simp [Act.put],hpr,(fun h=>f0 (by rwa [hun 0 (by decide)] at h)),(fun h=>f1 (by rwa [hun 1 (by decide)] at h)),(fun h=>f2 (by rwa [hun 2 (by decide)] at h)),(fun _=>rfl),(fun h=>f4 (by rwa [hun 4 (by decide)] at h)),(fun h=>f5 (by rwa [hun 5 (by decide)] at h)),(fun h=>f6 (by rwa [hun 6 (by decide)] at h)),(fun h=>f7 (by rwa [hun 7 (by decide)] at h)),(fun h=>f8 (by rwa [hun 8 (by decide)] at h)),(fun h=>f9 (by rwa [hun 9 (by decide)] at h)),(fun h=>f14 (by rwa [hun 14 (by decide)] at h)),(fun h=>kk (by rwa [hun 5 (by decide)] at h)),(fun h=>f10 (by rwa [hun 10 (by decide)] at h)),(fun h h2=>f11 (by rwa [hun 11 (by decide)] at h) (by rwa [hun 13 (by decide)] at h2)),(fun h=>f12 (by rwa [hun 12 (by decide)] at h)),(fun h=>by rw [hun 5 (by decide)];exact d6x5 (by rwa [hun 6 (by decide)] at h)),(fun h=>by rw [hun 5 (by decide)];exact d7x5 (by rwa [hun 7 (by decide)] at h)),(fun h=>by rw [hun 5 (by decide)];exact d8x5 (by rwa [hun 8 (by decide)] at h)),(fun h=>by rw [hun 5 (by decide)];exact d12x5 (by rwa [hun 12 (by decide)] at h)),(fun h=>by rw [hun 10 (by decide)];exact d12x10 (by rwa [hun 12 (by decide)] at h)),(fun h=>by rw [hun 11 (by decide)];exact d13x11 (by rwa [hun 13 (by decide)] at h))⟩
      · refine wpOp_step rfl (fun K hK=>?_)
        simp only [Act.put,List.setIfInBounds_toArray,List.set_cons_zero,List.set_cons_succ]
        have x0:=D0 _ hpr;have x1:=D1 _ hpr;have x2:=D2 _ hpr;have x3:=D3 _ hpr;have x4:=D4 _ hpr
        go_simp
        exact hK _ _ ⟨tag,oc,cc,bp,bc,v119,v120,v121,v122,.agg #[.int .i64 k,.slice pa p.length pc,.int .i64 a,.int .i64 m,.string s],v124,v118,v125,v126,v127,v22,v23,v24,by simp [Act.put],hpr,(fun h=>f0 (by rwa [hun 0 (by decide)] at h)),(fun h=>f1 (by rwa [hun 1 (by decide)] at h)),(fun h=>f2 (by rwa [hun 2 (by decide)] at h)),(fun h=>f3 (by rwa [hun 3 (by decide)] at h)),(fun _=>rfl),(fun h=>f5 (by rwa [hun 5 (by decide)] at h)),(fun h=>f6 (by rwa [hun 6 (by decide)] at h)),(fun h=>f7 (by rwa [hun 7 (by decide)] at h)),(fun h=>f8 (by rwa [hun 8 (by decide)] at h)),(fun h=>f9 (by rwa [hun 9 (by decide)] at h)),(fun h=>f14 (by rwa [hun 14 (by decide)] at h)),(fun h=>kk (by rwa [hun 5 (by decide)] at h)),(fun h=>f10 (by rwa [hun 10 (by decide)] at h)),(fun h h2=>f11 (by rwa [hun 11 (by decide)] at h) (by rwa [hun 13 (by decide)] at h2)),(fun h=>f12 (by rwa [hun 12 (by decide)] at h)),(fun h=>by rw [hun 5 (by decide)];exact d6x5 (by rwa [hun 6 (by decide)] at h)),(fun h=>by rw [hun 5 (by decide)];exact d7x5 (by rwa [hun 7 (by decide)] at h)),(fun h=>by rw [hun 5 (by decide)];exact d8x5 (by rwa [hun 8 (by decide)] at h)),(fun h=>by rw [hun 5 (by decide)];exact d12x5 (by rwa [hun 12 (by decide)] at h)),(fun h=>by rw [hun 10 (by decide)];exact d12x10 (by rwa [hun 12 (by decide)] at h)),(fun h=>by rw [hun 11 (by decide)];exact d13x11 (by rwa [hun 13 (by decide)] at h))⟩
      · refine wpOp_step rfl (fun K hK=>?_)
        simp only [Act.put,List.setIfInBounds_toArray,List.set_cons_zero,List.set_cons_succ]
        have hd3:=(ready_dep hi rfl).2 { on:=3,ground:=.data } (by simp) (by kernel_rfl)
        obtain rfl:=f3 hd3
        have hd4:=(ready_dep hi rfl).2 { on:=4,ground:=.data } (by simp) (by kernel_rfl)
        obtain rfl:=f4 hd4
        go_simp
        go_at_call 14
        refine (RD.out _ hpr).mono ?_
        rintro e wn ⟨oc,cc,bp,bc,rfl,hk5,hb⟩
        exact hK _ _ ⟨newTag tag w'.heap.size 1,oc,cc,bp,bc,v119,v120,v121,.agg #[.string l1,.slice a1 k1.length c1],.agg #[.int .i64 k,.slice pa p.length pc,.int .i64 a,.int .i64 m,.string s],.tuple #[.agg #[.string l2,.slice oc k2.length cc],.agg #[.int .i64 dk,.slice bp dp.length bc,.int .i64 da,.int .i64 dm,.string dl],.int .i64 (c:Nat)],v118,v125,v126,v127,v22,v23,v24,by simp [Act.put],hpr.trans hb,(fun h=>f0 (by rwa [hun 0 (by decide)] at h)),(fun h=>f1 (by rwa [hun 1 (by decide)] at h)),(fun h=>f2 (by rwa [hun 2 (by decide)] at h)),(fun h=>f3 (by rwa [hun 3 (by decide)] at h)),(fun h=>f4 (by rwa [hun 4 (by decide)] at h)),(fun _=>rfl),(fun h=>by have h2:=d6x5 (by rwa [hun 6 (by decide)] at h);rw [getD_un (ready_dep hi rfl).1] at h2;cases h2),(fun h=>by have h2:=d7x5 (by rwa [hun 7 (by decide)] at h);rw [getD_un (ready_dep hi rfl).1] at h2;cases h2),(fun h=>by have h2:=d8x5 (by rwa [hun 8 (by decide)] at h);rw [getD_un (ready_dep hi rfl).1] at h2;cases h2),(fun h=>f9 (by rwa [hun 9 (by decide)] at h)),(fun h=>f14 (by rwa [hun 14 (by decide)] at h)),(fun _=>hk5.mono fun j hj _=>hj.imp id fun h=>newTag_ge h),(fun h=>by obtain ⟨S,x,y,e1,e2,e3,e4⟩:=f10 (by rwa [hun 10 (by decide)] at h);exact ⟨S,x,y,e1,e2,(newTag_lt (blk_lt e4)).trans e3,by rw [Below.block hb _ (blk_lt e4)];exact e4⟩),(fun h h2=>by obtain ⟨S,x0,x1,x2,x3,x4,e1,e2,e3,e4⟩:=f11 (by rwa [hun 11 (by decide)] at h) (by rwa [hun 13 (by decide)] at h2);exact ⟨S,x0,x1,x2,x3,x4,e1,e2,(newTag_lt (blk_lt e4)).trans e3,by rw [Below.block hb _ (blk_lt e4)];exact e4⟩),(fun h=>by have h2:=d12x5 (by rwa [hun 12 (by decide)] at h);rw [getD_un (ready_dep hi rfl).1] at h2;cases h2),(fun _=>setD_eq (ready_dep hi rfl).1),(fun _=>setD_eq (ready_dep hi rfl).1),(fun _=>setD_eq (ready_dep hi rfl).1),(fun _=>setD_eq (ready_dep hi rfl).1),(fun h=>by rw [hun 10 (by decide)];exact d12x10 (by rwa [hun 12 (by decide)] at h)),(fun h=>by rw [hun 11 (by decide)];exact d13x11 (by rwa [hun 13 (by decide)] at h))⟩
      · refine wpOp_step rfl (fun K hK=>?_)
        simp only [Act.put,List.setIfInBounds_toArray,List.set_cons_zero,List.set_cons_succ]
        have hd5:=(ready_dep hi rfl).2 { on:=5,ground:=.data } (by simp) (by kernel_rfl)
        obtain rfl:=f5 hd5
        have hq5:=hd5
        go_simp
        exact hK _ _ ⟨tag,oc,cc,bp,bc,v119,v120,v121,v122,v123,.tuple #[.agg #[.string l2,.slice oc k2.length cc],.agg #[.int .i64 dk,.slice bp dp.length bc,.int .i64 da,.int .i64 dm,.string dl],.int .i64 (c:Nat)],.tuple #[.agg #[.string l2,.slice oc k2.length cc],.agg #[.int .i64 dk,.slice bp dp.length bc,.int .i64 da,.int .i64 dm,.string dl],.int .i64 (c:Nat)],v125,v126,v127,v22,v23,v24,by simp [Act.put],hpr,(fun h=>f0 (by rwa [hun 0 (by decide)] at h)),(fun h=>f1 (by rwa [hun 1 (by decide)] at h)),(fun h=>f2 (by rwa [hun 2 (by decide)] at h)),(fun h=>f3 (by rwa [hun 3 (by decide)] at h)),(fun h=>f4 (by rwa [hun 4 (by decide)] at h)),(fun h=>f5 (by rwa [hun 5 (by decide)] at h)),(fun _=>rfl),(fun h=>f7 (by rwa [hun 7 (by decide)] at h)),(fun h=>f8 (by rwa [hun 8 (by decide)] at h)),(fun h=>f9 (by rwa [hun 9 (by decide)] at h)),(fun h=>f14 (by rwa [hun 14 (by decide)] at h)),(fun h=>kk (by rwa [hun 5 (by decide)] at h)),(fun h=>f10 (by rwa [hun 10 (by decide)] at h)),(fun h h2=>f11 (by rwa [hun 11 (by decide)] at h) (by rwa [hun 13 (by decide)] at h2)),(fun h=>f12 (by rwa [hun 12 (by decide)] at h)),(fun _=>by rw [hun 5 (by decide)];exact hq5),(fun h=>by rw [hun 5 (by decide)];exact d7x5 (by rwa [hun 7 (by decide)] at h)),(fun h=>by rw [hun 5 (by decide)];exact d8x5 (by rwa [hun 8 (by decide)] at h)),(fun h=>by rw [hun 5 (by decide)];exact d12x5 (by rwa [hun 12 (by decide)] at h)),(fun h=>by rw [hun 10 (by decide)];exact d12x10 (by rwa [hun 12 (by decide)] at h)),(fun h=>by rw [hun 11 (by decide)];exact d13x11 (by rwa [hun 13 (by decide)] at h))⟩
      · refine wpOp_step rfl (fun K hK=>?_)
        simp only [Act.put,List.setIfInBounds_toArray,List.set_cons_zero,List.set_cons_succ]
        have hd6:=(ready_dep hi rfl).2 { on:=6,ground:=.data } (by simp) (by kernel_rfl)
        obtain rfl:=f6 hd6
        have F5:=Lib.hid f5
        clear f5
        go_simp
        have f5:=F5.out
        have hq5:=d6x5 hd6
        exact hK _ _ ⟨tag,oc,cc,bp,bc,v119,v120,v121,v122,v123,v124,.tuple #[.agg #[.string l2,.slice oc k2.length cc],.agg #[.int .i64 dk,.slice bp dp.length bc,.int .i64 da,.int .i64 dm,.string dl],.int .i64 (c:Nat)],.agg #[.string l2,.slice oc k2.length cc],v126,v127,v22,v23,v24,by simp [Act.put],hpr,(fun h=>f0 (by rwa [hun 0 (by decide)] at h)),(fun h=>f1 (by rwa [hun 1 (by decide)] at h)),(fun h=>f2 (by rwa [hun 2 (by decide)] at h)),(fun h=>f3 (by rwa [hun 3 (by decide)] at h)),(fun h=>f4 (by rwa [hun 4 (by decide)] at h)),(fun h=>f5 (by rwa [hun 5 (by decide)] at h)),(fun h=>f6 (by rwa [hun 6 (by decide)] at h)),(fun _=>rfl),(fun h=>f8 (by rwa [hun 8 (by decide)] at h)),(fun h=>f9 (by rwa [hun 9 (by decide)] at h)),(fun h=>f14 (by rwa [hun 14 (by decide)] at h)),(fun h=>kk (by rwa [hun 5 (by decide)] at h)),(fun h=>f10 (by rwa [hun 10 (by decide)] at h)),(fun h h2=>f11 (by rwa [hun 11 (by decide)] at h) (by rwa [hun 13 (by decide)] at h2)),(fun h=>f12 (by rwa [hun 12 (by decide)] at h)),(fun h=>by rw [hun 5 (by decide)];exact d6x5 (by rwa [hun 6 (by decide)] at h)),(fun _=>by rw [hun 5 (by decide)];exact hq5),(fun h=>by rw [hun 5 (by decide)];exact d8x5 (by rwa [hun 8 (by decide)] at h)),(fun h=>by rw [hun 5 (by decide)];exact d12x5 (by rwa [hun 12 (by decide)] at h)),(fun h=>by rw [hun 10 (by decide)];exact d12x10 (by rwa [hun 12 (by decide)] at h)),(fun h=>by rw [hun 11 (by decide)];exact d13x11 (by rwa [hun 13 (by decide)] at h))⟩
      · refine wpOp_step rfl (fun K hK=>?_)
        simp only [Act.put,List.setIfInBounds_toArray,List.set_cons_zero,List.set_cons_succ]
        have hd6:=(ready_dep hi rfl).2 { on:=6,ground:=.data } (by simp) (by kernel_rfl)
        obtain rfl:=f6 hd6
        have F5:=Lib.hid f5
        clear f5
        go_simp
        have f5:=F5.out
        have hq5:=d6x5 hd6
        exact hK _ _ ⟨tag,oc,cc,bp,bc,v119,v120,v121,v122,v123,v124,.tuple #[.agg #[.string l2,.slice oc k2.length cc],.agg #[.int .i64 dk,.slice bp dp.length bc,.int .i64 da,.int .i64 dm,.string dl],.int .i64 (c:Nat)],v125,.agg #[.int .i64 dk,.slice bp dp.length bc,.int .i64 da,.int .i64 dm,.string dl],v127,v22,v23,v24,by simp [Act.put],hpr,(fun h=>f0 (by rwa [hun 0 (by decide)] at h)),(fun h=>f1 (by rwa [hun 1 (by decide)] at h)),(fun h=>f2 (by rwa [hun 2 (by decide)] at h)),(fun h=>f3 (by rwa [hun 3 (by decide)] at h)),(fun h=>f4 (by rwa [hun 4 (by decide)] at h)),(fun h=>f5 (by rwa [hun 5 (by decide)] at h)),(fun h=>f6 (by rwa [hun 6 (by decide)] at h)),(fun h=>f7 (by rwa [hun 7 (by decide)] at h)),(fun _=>rfl),(fun h=>f9 (by rwa [hun 9 (by decide)] at h)),(fun h=>f14 (by rwa [hun 14 (by decide)] at h)),(fun h=>kk (by rwa [hun 5 (by decide)] at h)),(fun h=>f10 (by rwa [hun 10 (by decide)] at h)),(fun h h2=>f11 (by rwa [hun 11 (by decide)] at h) (by rwa [hun 13 (by decide)] at h2)),(fun h=>f12 (by rwa [hun 12 (by decide)] at h)),(fun h=>by rw [hun 5 (by decide)];exact d6x5 (by rwa [hun 6 (by decide)] at h)),(fun h=>by rw [hun 5 (by decide)];exact d7x5 (by rwa [hun 7 (by decide)] at h)),(fun _=>by rw [hun 5 (by decide)];exact hq5),(fun h=>by rw [hun 5 (by decide)];exact d12x5 (by rwa [hun 12 (by decide)] at h)),(fun h=>by rw [hun 10 (by decide)];exact d12x10 (by rwa [hun 12 (by decide)] at h)),(fun h=>by rw [hun 11 (by decide)];exact d13x11 (by rwa [hun 13 (by decide)] at h))⟩
      · refine wpOp_step rfl (fun K hK=>?_)
        simp only [Act.put,List.setIfInBounds_toArray,List.set_cons_zero,List.set_cons_succ]
        have hd6:=(ready_dep hi rfl).2 { on:=6,ground:=.data } (by simp) (by kernel_rfl)
        obtain rfl:=f6 hd6
        have F5:=Lib.hid f5
        clear f5
        go_simp
        have f5:=F5.out
        have hq5:=d6x5 hd6
        exact hK _ _ ⟨tag,oc,cc,bp,bc,v119,v120,v121,v122,v123,v124,.tuple #[.agg #[.string l2,.slice oc k2.length cc],.agg #[.int .i64 dk,.slice bp dp.length bc,.int .i64 da,.int .i64 dm,.string dl],.int .i64 (c:Nat)],v125,v126,.int .i64 (c:Nat),v22,v23,v24,by simp [Act.put],hpr,(fun h=>f0 (by rwa [hun 0 (by decide)] at h)),(fun h=>f1 (by rwa [hun 1 (by decide)] at h)),(fun h=>f2 (by rwa [hun 2 (by decide)] at h)),(fun h=>f3 (by rwa [hun 3 (by decide)] at h)),(fun h=>f4 (by rwa [hun 4 (by decide)] at h)),(fun h=>f5 (by rwa [hun 5 (by decide)] at h)),(fun h=>f6 (by rwa [hun 6 (by decide)] at h)),(fun h=>f7 (by rwa [hun 7 (by decide)] at h)),(fun h=>f8 (by rwa [hun 8 (by decide)] at h)),(fun _=>rfl),(fun h=>f14 (by rwa [hun 14 (by decide)] at h)),(fun h=>kk (by rwa [hun 5 (by decide)] at h)),(fun h=>f10 (by rwa [hun 10 (by decide)] at h)),(fun h h2=>f11 (by rwa [hun 11 (by decide)] at h) (by rwa [hun 13 (by decide)] at h2)),(fun h=>f12 (by rwa [hun 12 (by decide)] at h)),(fun h=>by rw [hun 5 (by decide)];exact d6x5 (by rwa [hun 6 (by decide)] at h)),(fun h=>by rw [hun 5 (by decide)];exact d7x5 (by rwa [hun 7 (by decide)] at h)),(fun h=>by rw [hun 5 (by decide)];exact d8x5 (by rwa [hun 8 (by decide)] at h)),(fun h=>by rw [hun 5 (by decide)];exact d12x5 (by rwa [hun 12 (by decide)] at h)),(fun h=>by rw [hun 10 (by decide)];exact d12x10 (by rwa [hun 12 (by decide)] at h)),(fun h=>by rw [hun 11 (by decide)];exact d13x11 (by rwa [hun 13 (by decide)] at h))⟩
      · refine wpOp_step rfl (fun K hK=>?_)
        simp only [Act.put,List.setIfInBounds_toArray,List.set_cons_zero,List.set_cons_succ]
        go_simp
        exact hK _ _ ⟨newTag tag w'.heap.size 2,oc,cc,bp,bc,v119,v120,v121,v122,v123,v124,v118,v125,v126,v127,.pointer (some ⟨w'.heap.size,0,none⟩),v23,v24,by simp [Act.put],hpr.alloc' _,(fun h=>f0 (by rwa [hun 0 (by decide)] at h)),(fun h=>f1 (by rwa [hun 1 (by decide)] at h)),(fun h=>f2 (by rwa [hun 2 (by decide)] at h)),(fun h=>f3 (by rwa [hun 3 (by decide)] at h)),(fun h=>f4 (by rwa [hun 4 (by decide)] at h)),(fun h=>f5 (by rwa [hun 5 (by decide)] at h)),(fun h=>f6 (by rwa [hun 6 (by decide)] at h)),(fun h=>f7 (by rwa [hun 7 (by decide)] at h)),(fun h=>f8 (by rwa [hun 8 (by decide)] at h)),(fun h=>f9 (by rwa [hun 9 (by decide)] at h)),(fun h=>f14 (by rwa [hun 14 (by decide)] at h)),(fun h=>(kk (by rwa [hun 5 (by decide)] at h)).carry fun j hj hl=>⟨Below.block (Pr.alloc _ _) j hl,hj.imp id fun h=>(newTag_lt hl).trans h⟩),(fun _=>⟨w'.heap.size,_,_,rfl,hpr.size,newTag_ge (Nat.le_refl _),heap_alloc_new _ _⟩),(fun h h2=>by obtain ⟨S,x0,x1,x2,x3,x4,e1,e2,e3,e4⟩:=f11 (by rwa [hun 11 (by decide)] at h) (by rwa [hun 13 (by decide)] at h2);exact ⟨S,x0,x1,x2,x3,x4,e1,e2,(newTag_lt (blk_lt e4)).trans e3,by rw [Below.block (Pr.alloc _ _) _ (blk_lt e4)];exact e4⟩),(fun h=>by have h2:=d12x10 (by rwa [hun 12 (by decide)] at h);rw [getD_un (ready_dep hi rfl).1] at h2;cases h2),(fun h=>by rw [hun 5 (by decide)];exact d6x5 (by rwa [hun 6 (by decide)] at h)),(fun h=>by rw [hun 5 (by decide)];exact d7x5 (by rwa [hun 7 (by decide)] at h)),(fun h=>by rw [hun 5 (by decide)];exact d8x5 (by rwa [hun 8 (by decide)] at h)),(fun h=>by rw [hun 5 (by decide)];exact d12x5 (by rwa [hun 12 (by decide)] at h)),(fun _=>setD_eq (ready_dep hi rfl).1),(fun h=>by rw [hun 11 (by decide)];exact d13x11 (by rwa [hun 13 (by decide)] at h))⟩
      · refine wpOp_step rfl (fun K hK=>?_)
        simp only [Act.put,List.setIfInBounds_toArray,List.set_cons_zero,List.set_cons_succ]
        go_simp
        exact hK _ _ ⟨newTag tag w'.heap.size 3,oc,cc,bp,bc,v119,v120,v121,v122,v123,v124,v118,v125,v126,v127,v22,.pointer (some ⟨w'.heap.size,0,none⟩),v24,by simp [Act.put],hpr.alloc' _,(fun h=>f0 (by rwa [hun 0 (by decide)] at h)),(fun h=>f1 (by rwa [hun 1 (by decide)] at h)),(fun h=>f2 (by rwa [hun 2 (by decide)] at h)),(fun h=>f3 (by rwa [hun 3 (by decide)] at h)),(fun h=>f4 (by rwa [hun 4 (by decide)] at h)),(fun h=>f5 (by rwa [hun 5 (by decide)] at h)),(fun h=>f6 (by rwa [hun 6 (by decide)] at h)),(fun h=>f7 (by rwa [hun 7 (by decide)] at h)),(fun h=>f8 (by rwa [hun 8 (by decide)] at h)),(fun h=>f9 (by rwa [hun 9 (by decide)] at h)),(fun h=>f14 (by rwa [hun 14 (by decide)] at h)),(fun h=>(kk (by rwa [hun 5 (by decide)] at h)).carry fun j hj hl=>⟨Below.block (Pr.alloc _ _) j hl,hj.imp id fun h=>(newTag_lt hl).trans h⟩),(fun h=>by obtain ⟨S,x,y,e1,e2,e3,e4⟩:=f10 (by rwa [hun 10 (by decide)] at h);exact ⟨S,x,y,e1,e2,(newTag_lt (blk_lt e4)).trans e3,by rw [Below.block (Pr.alloc _ _) _ (blk_lt e4)];exact e4⟩),(fun _ _=>⟨w'.heap.size,_,_,_,_,_,rfl,hpr.size,newTag_ge (Nat.le_refl _),heap_alloc_new _ _⟩),(fun h=>by obtain ⟨S,e1,e2,e3,e4⟩:=f12 (by rwa [hun 12 (by decide)] at h);exact ⟨S,e1,e2,(newTag_lt (blk_lt e4)).trans e3,by rw [Below.block (Pr.alloc _ _) _ (blk_lt e4)];exact e4⟩),(fun h=>by rw [hun 5 (by decide)];exact d6x5 (by rwa [hun 6 (by decide)] at h)),(fun h=>by rw [hun 5 (by decide)];exact d7x5 (by rwa [hun 7 (by decide)] at h)),(fun h=>by rw [hun 5 (by decide)];exact d8x5 (by rwa [hun 8 (by decide)] at h)),(fun h=>by rw [hun 5 (by decide)];exact d12x5 (by rwa [hun 12 (by decide)] at h)),(fun h=>by rw [hun 10 (by decide)];exact d12x10 (by rwa [hun 12 (by decide)] at h)),(fun _=>setD_eq (ready_dep hi rfl).1)⟩
      · refine wpOp_step rfl (fun K hK=>?_)
        simp only [Act.put,List.setIfInBounds_toArray,List.set_cons_zero,List.set_cons_succ]
        have hd7:=(ready_dep hi rfl).2 { on:=7,ground:=.data } (by simp) (by kernel_rfl)
        obtain rfl:=f7 hd7
        have hq10:=(ready_dep hi rfl).2 { on:=10,ground:=.data } (by simp) (by kernel_rfl)
        obtain ⟨T,x,y,rfl,hT,hTt,hTb⟩:=f10 hq10
        have z0:=blk_cell (o:=0) hTb;have z1:=blk_cell (o:=1) hTb;have z2:w'.frozen? ⟨T,0,none⟩=false:=blk_frozen hTb;have z3:w'.frozen? ⟨T,1,none⟩=false:=blk_frozen hTb
        have hB:=blk_set (o:=1) (blk_set (o:=0) hTb (.string l2)) (.slice oc k2.length cc)
        simp only [List.getElem?_toArray,List.getElem?_cons_zero,List.getElem?_cons_succ] at z0 z1
        have F5:=Lib.hid f5
        clear f5
        go_simp
        have f5:=F5.out
        have hq5:=d7x5 hd7
        exact hK _ _ ⟨tag,oc,cc,bp,bc,v119,v120,v121,v122,v123,v124,v118,.agg #[.string l2,.slice oc k2.length cc],v126,v127,.pointer (some ⟨T,0,none⟩),v23,v24,by simp [Act.put],(hpr.setCell hT _).setCell hT _,(fun h=>f0 (by rwa [hun 0 (by decide)] at h)),(fun h=>f1 (by rwa [hun 1 (by decide)] at h)),(fun h=>f2 (by rwa [hun 2 (by decide)] at h)),(fun h=>f3 (by rwa [hun 3 (by decide)] at h)),(fun h=>f4 (by rwa [hun 4 (by decide)] at h)),(fun h=>f5 (by rwa [hun 5 (by decide)] at h)),(fun h=>f6 (by rwa [hun 6 (by decide)] at h)),(fun h=>f7 (by rwa [hun 7 (by decide)] at h)),(fun h=>f8 (by rwa [hun 8 (by decide)] at h)),(fun h=>f9 (by rwa [hun 9 (by decide)] at h)),(fun h=>f14 (by rwa [hun 14 (by decide)] at h)),(fun h=>(kk (by rwa [hun 5 (by decide)] at h)).carry fun j hj _=>⟨by have hn:j≠T:=(by rintro rfl;rcases hj with h | h;omega;omega);rw [Below.heap_setCell _ _ _ _ hn,Below.heap_setCell _ _ _ _ hn],hj⟩),(fun _=>⟨T,_,_,rfl,hT,hTt,hB⟩),(fun h h2=>by obtain ⟨S,x0,x1,x2,x3,x4,e1,e2,e3,e4⟩:=f11 (by rwa [hun 11 (by decide)] at h) (by rwa [hun 13 (by decide)] at h2);have hn:S≠T:=(by rintro rfl;omega);exact ⟨S,x0,x1,x2,x3,x4,e1,e2,e3,by rw [Below.heap_setCell _ _ _ _ hn,Below.heap_setCell _ _ _ _ hn];exact e4⟩),(fun _=>⟨T,rfl,hT,hTt,hB⟩),(fun h=>by rw [hun 5 (by decide)];exact d6x5 (by rwa [hun 6 (by decide)] at h)),(fun h=>by rw [hun 5 (by decide)];exact d7x5 (by rwa [hun 7 (by decide)] at h)),(fun h=>by rw [hun 5 (by decide)];exact d8x5 (by rwa [hun 8 (by decide)] at h)),(fun _=>by rw [hun 5 (by decide)];exact hq5),(fun _=>by rw [hun 10 (by decide)];exact hq10),(fun h=>by rw [hun 11 (by decide)];exact d13x11 (by rwa [hun 13 (by decide)] at h))⟩
      · refine wpOp_step rfl (fun K hK=>?_)
        simp only [Act.put,List.setIfInBounds_toArray,List.set_cons_zero,List.set_cons_succ]
        have hd8:=(ready_dep hi rfl).2 { on:=8,ground:=.data } (by simp) (by kernel_rfl)
        obtain rfl:=f8 hd8
        have hq11:=(ready_dep hi rfl).2 { on:=11,ground:=.data } (by simp) (by kernel_rfl)
        obtain ⟨T,x0,x1,x2,x3,x4,rfl,hT,hTt,hTb⟩:=f11 hq11 (getD_un (ready_dep hi rfl).1)
        have z0:=blk_cell (o:=0) hTb;have y0:w'.frozen? ⟨T,0,none⟩=false:=blk_frozen hTb;have z1:=blk_cell (o:=1) hTb;have y1:w'.frozen? ⟨T,1,none⟩=false:=blk_frozen hTb;have z2:=blk_cell (o:=2) hTb;have y2:w'.frozen? ⟨T,2,none⟩=false:=blk_frozen hTb;have z3:=blk_cell (o:=3) hTb;have y3:w'.frozen? ⟨T,3,none⟩=false:=blk_frozen hTb;have z4:=blk_cell (o:=4) hTb;have y4:w'.frozen? ⟨T,4,none⟩=false:=blk_frozen hTb
        simp only [List.getElem?_toArray,List.getElem?_cons_zero,List.getElem?_cons_succ] at z0 z1 z2 z3 z4
        have F5:=Lib.hid f5
        clear f5
        go_simp
        have f5:=F5.out
        exact hK _ _ ⟨tag,oc,cc,bp,bc,v119,v120,v121,v122,v123,v124,v118,v125,.agg #[.int .i64 dk,.slice bp dp.length bc,.int .i64 da,.int .i64 dm,.string dl],v127,v22,.pointer (some ⟨T,0,none⟩),v24,by simp [Act.put],((((hpr.setCell hT _).setCell hT _).setCell hT _).setCell hT _).setCell hT _,(fun h=>f0 (by rwa [hun 0 (by decide)] at h)),(fun h=>f1 (by rwa [hun 1 (by decide)] at h)),(fun h=>f2 (by rwa [hun 2 (by decide)] at h)),(fun h=>f3 (by rwa [hun 3 (by decide)] at h)),(fun h=>f4 (by rwa [hun 4 (by decide)] at h)),(fun h=>f5 (by rwa [hun 5 (by decide)] at h)),(fun h=>f6 (by rwa [hun 6 (by decide)] at h)),(fun h=>f7 (by rwa [hun 7 (by decide)] at h)),(fun h=>f8 (by rwa [hun 8 (by decide)] at h)),(fun h=>f9 (by rwa [hun 9 (by decide)] at h)),(fun h=>f14 (by rwa [hun 14 (by decide)] at h)),(fun h=>(kk (by rwa [hun 5 (by decide)] at h)).carry fun j hj _=>⟨far5 (by rintro rfl;rcases hj with h | h;omega;omega) _ _ _ _ _,hj⟩),(fun h=>by obtain ⟨S,x,y,e1,e2,e3,e4⟩:=f10 (by rwa [hun 10 (by decide)] at h);exact ⟨S,x,y,e1,e2,e3,by rw [far5 (by rintro rfl;omega)];exact e4⟩),(fun _ h=>by rw [setD_eq (ready_dep hi rfl).1] at h;cases h),(fun h=>by obtain ⟨S,e1,e2,e3,e4⟩:=f12 (by rwa [hun 12 (by decide)] at h);exact ⟨S,e1,e2,e3,by rw [far5 (by rintro rfl;omega)];exact e4⟩),(fun h=>by rw [hun 5 (by decide)];exact d6x5 (by rwa [hun 6 (by decide)] at h)),(fun h=>by rw [hun 5 (by decide)];exact d7x5 (by rwa [hun 7 (by decide)] at h)),(fun h=>by rw [hun 5 (by decide)];exact d8x5 (by rwa [hun 8 (by decide)] at h)),(fun h=>by rw [hun 5 (by decide)];exact d12x5 (by rwa [hun 12 (by decide)] at h)),(fun h=>by rw [hun 10 (by decide)];exact d12x10 (by rwa [hun 12 (by decide)] at h)),(fun _=>by rw [hun 11 (by decide)];exact hq11)⟩
      · refine wpOp_step rfl (fun K hK=>?_)
        simp only [Act.put,List.setIfInBounds_toArray,List.set_cons_zero,List.set_cons_succ]
        have hd9:=(ready_dep hi rfl).2 { on:=9,ground:=.data } (by simp) (by kernel_rfl)
        obtain rfl:=f9 hd9
        go_simp
        exact hK _ _ ⟨tag,oc,cc,bp,bc,v119,v120,v121,v122,v123,v124,v118,v125,v126,.int .i64 (c:Nat),v22,v23,.int .i64 (c:Nat),by simp [Act.put],hpr,(fun h=>f0 (by rwa [hun 0 (by decide)] at h)),(fun h=>f1 (by rwa [hun 1 (by decide)] at h)),(fun h=>f2 (by rwa [hun 2 (by decide)] at h)),(fun h=>f3 (by rwa [hun 3 (by decide)] at h)),(fun h=>f4 (by rwa [hun 4 (by decide)] at h)),(fun h=>f5 (by rwa [hun 5 (by decide)] at h)),(fun h=>f6 (by rwa [hun 6 (by decide)] at h)),(fun h=>f7 (by rwa [hun 7 (by decide)] at h)),(fun h=>f8 (by rwa [hun 8 (by decide)] at h)),(fun h=>f9 (by rwa [hun 9 (by decide)] at h)),(fun _=>rfl),(fun h=>kk (by rwa [hun 5 (by decide)] at h)),(fun h=>f10 (by rwa [hun 10 (by decide)] at h)),(fun h h2=>f11 (by rwa [hun 11 (by decide)] at h) (by rwa [hun 13 (by decide)] at h2)),(fun h=>f12 (by rwa [hun 12 (by decide)] at h)),(fun h=>by rw [hun 5 (by decide)];exact d6x5 (by rwa [hun 6 (by decide)] at h)),(fun h=>by rw [hun 5 (by decide)];exact d7x5 (by rwa [hun 7 (by decide)] at h)),(fun h=>by rw [hun 5 (by decide)];exact d8x5 (by rwa [hun 8 (by decide)] at h)),(fun h=>by rw [hun 5 (by decide)];exact d12x5 (by rwa [hun 12 (by decide)] at h)),(fun h=>by rw [hun 10 (by decide)];exact d12x10 (by rwa [hun 12 (by decide)] at h)),(fun h=>by rw [hun 11 (by decide)];exact d13x11 (by rwa [hun 13 (by decide)] at h))⟩
    · intro L a' w' hall hI'
      obtain ⟨tag,oc,cc,bp,bc,v119,v120,v121,v122,v123,v124,v118,v125,v126,v127,v22,v23,v24,rfl,hpr,f0,f1,f2,f3,f4,f5,f6,f7,f8,f9,f14,kk,f10,f11,f12,d6x5,d7x5,d8x5,d12x5,d12x10,d13x11⟩:=hI'
      obtain ⟨T,rfl,hT,hTt,hB⟩:=f12 (hall 12 (by decide))
      have hk5:=kk (hall 5 (by decide))
      obtain rfl:=f14 (hall 14 (by decide))
      simp only [Act.put,List.setIfInBounds_toArray,List.set_cons_zero,List.set_cons_succ]
      have hR:=Lib.hid (show w'.cell? ⟨T,0,none⟩=some (.string l2)∧w'.cell? ⟨T,1,none⟩=some (.slice oc k2.length cc)∧Kids Any w' k2 oc cc∧Pr V6 w' from ⟨by rw [blk_cell (o:=0) hB];rfl,by rw [blk_cell (o:=1) hB];rfl,hk5.any,hpr⟩)
      clear f0 f1 f2 f3 f4 f5 f6 f7 f8 f9 kk f10 f11 f12 d6x5 d7x5 d8x5 d12x5 d12x10 d13x11 hall hB hk5 hpr
      go_wp2_with fail
      go_meet
      case rel=>exact ⟨T,oc,cc,rfl,rfl,hR.out⟩
--END R17
  case rest =>
  obtain ⟨UB,ou,cu,rfl,rfl,t0,t1,hku,hp7⟩:=hcut
  obtain ⟨w7,hw7⟩:∃ w7,w7=wc:=⟨_,rfl⟩
  subst hw7
  have t0:=stays t0;have t1:=stays t1
  have HKU:=Lib.hid hku;have Hp7:=Lib.hid hp7
  have GT:=get_any Ba va ts (O:Int) w7 (HBA.out.pr hp7)
  unfold GetPost at GT
  rw [getT_at hO,He1.out,← Hbo.out] at GT
  have GT:=Lib.hid GT
  clear hku hp7
  go_upto_region 19 with (go_at_call 15;(with_reducible refine Calls.mono GT.out ?_);rintro e w8 ⟨lg,kg,og,cg,hg,hlg,rfl,hkg,hb8⟩)
  obtain ⟨rfl,rfl⟩:l1=lg∧k1=kg:=by cases hg;exact ⟨rfl,rfl⟩
  obtain ⟨V8,hV8⟩:∃ V8,V8=w8.alloc (.cells #[.string l1,.slice og k1.length cg] 34):=⟨_,rfl⟩
  have hw8:Pr w8 V8:=by rw [hV8];exact Pr.alloc _ _
  have g0:=After.cell (show V8.cell? ⟨w8.heap.size,0,none⟩=some (.string l1) by rw [hV8];simp [go_sem])
  have g1:=After.cell (show V8.cell? ⟨w8.heap.size,1,none⟩=some (.slice og k1.length cg) by rw [hV8];simp [go_sem])
  rw [← hV8]
  have h78:=hb8.trans hw8
  have h68:=Hp7.out.trans h78
  have T1:=Lib.hid (After.call (P:=Tryz.prog) (V:=V8) (v:=.bool true) fun W' (h:Pr V8 W')=>by
    have:=sameTree_any l2 l2 k2 k2 ow cw ou cu W' (HKW.out.pr (h68.trans h)) (HKU.out.pr (h78.trans h))
    rw [Tr.beq_self] at this;exact this)
  have T2:=Lib.hid (After.call (P:=Tryz.prog) (V:=V8) (v:=.bool true) fun W' (h:Pr V8 W')=>by
    have:=sameTree_any l1 l1 k1 k1 og cg a1 c1 W' (hkg.any.pr (hw8.trans h)) (HKO.out.pr (h68.trans h))
    rw [Tr.beq_self] at this;exact this)
  have T3:=Lib.hid (After.call (P:=Tryz.prog) (V:=V8) (v:=.int .i64 ts.length) fun W' (h:Pr V8 W') =>
    (len_any Ba va ts W' (HBA.out.pr (h68.trans h))).mono fun _ _ ⟨he,hw⟩=>⟨he,by rw [hw];exact Pr.refl _⟩)
  have y0:=After.cell (n0 _ h68);have y1:=After.cell (n1 _ h68);have y2:=After.cell (t0 _ h78);have y3:=After.cell (t1 _ h78)
  have y4:=After.cell (L0 _ h68);have y5:=After.cell (U10 _ h68);have y6:=After.cell (U11 _ h68)
  have H68:=Lib.hid h68
  clear hV8 hw8 h78 h68 hkg hg hb8
  refine wp_region_after (by kernel_rfl) (by kernel_rfl) ?_
  repeat (go_big_quiet_step (first | (go_at_call 11;with_reducible exact T1.out _) | (go_at_call 11;with_reducible exact T2.out _) | (go_at_call 16;with_reducible exact T3.out _)))
  refine wpQuiet_nil ?_
  rintro wq ⟨⟨_,hq⟩,rfl⟩
  go_wp2_with fail
  go_ret
  exact ⟨rfl,HW.out.trans (HV.out.trans (H68.out.trans hq))⟩
end Go.Proofs.YtdbnfhpgmcjngacGreat
