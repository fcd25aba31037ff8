/- The law BookBlame: its walk. -/
import Derived.Test.YtdbnfhpgmcjngadGreatDoorBzv
import Derived.Test.YtdbnfhpgmcjngadGreatDoorYw
import Derived.Test.YtdbnfhpgmcjngadGreatDoorBp
import Derived.Test.YtdbnfhpgmcjngadGreatDoorBgl
import Derived.Test.YtdbnfhpgmcjngadGreatDoorBcl
import Derived.Test.YtdbnfhpgmcjngadGreatDoorBda
import Derived.Deep.DeepCutAuto
namespace Go.Proofs.YtdbnfhpgmcjngadGreatDoor
open Go Go.RowKit
def aheadP (ts:List Tr) (k:Nat):List Int:=if k=0 then [] else listM (blM ts (k - 1))
theorem ints_zero (n:Nat) (w:World) (hn:n≤1000000):Ints Any (w.alloc (.cells (Array.replicate n (.int .i64 0)) 3)) (List.replicate n (0:Int)) (some ⟨w.heap.size,0,none⟩) n:=by
  refine ⟨⟨by simp,by unfold maxLen;omega⟩,w.heap.size,0,fun _=>⟨rfl,trivial⟩,fun i hi=>?_⟩
  simp at hi
  rw [blk_cell (heap_alloc_new w _)]
  simp [hi]
theorem make_zeros (m:Nat) (hn:m≤1000000) (W:World):(Instr.makeSlice 28 (.int .i64 m) (.int .i64 m)).run Tryz.prog W=.ok (.slice (some ⟨W.heap.size,0,none⟩) m m) (W.alloc (.cells (Array.replicate m (.int .i64 0)) 3)):=by
  have:=make_ints m hn W
  rw [rowV_zero] at this;exact this
theorem sizeR_is {l:ByteArray} {ks:List Tr} (h:fault (.node l ks)=0):sizeR (Tr.szL ks+1) 1000=(((Tr.node l ks).sz:Nat):Int):=by
  have:=(fault_zero.1 h).1
  rw [Tr.sz_node] at this ⊢
  unfold sizeR;omega
set_option maxRecDepth 100000 in
set_option maxHeartbeats 12800000 in
theorem bookBlame_walk (ls:List Tr) (oa cap) (w:World) (hk:Kids Any w ls oa cap) (_:True) (hlt0:Lt w) :
    Calls Tryz.prog 3 #[.slice oa ls.length cap] w fun e w'=>e=.returned (.bool true)∧Pr w w':=by
  have G1:=Lib.hid fun W' (h:Pr w W')=>greats_any ls oa cap W' (hk.pr h)
  have HK:=Lib.hid hk
  have HLt:=Lib.hid hlt0
  have hlen:=hk.len
  clear hk hlt0
  go_enter Tryz.func3,Tryz.ntmps3
  go_upto_region 3 with (go_at_call 5;refine (bookBegun_any _).mono ?_;rintro e w1 ⟨rfl,hp⟩)
  go_cut [21] from 20 to 21 (fun v wx=>(∃ b,v=.bool b∧(b=false→FewTs ls))∧Pr w wx)
  case first =>
    go_wp2_with (go_at_call 6;(with_reducible refine Calls.mono (G1.out _ hp) ?_);rintro e w2 ⟨⟨b,rfl,hb⟩,hp2⟩)
    go_meet
    exact ⟨⟨b,rfl,hb⟩,hp.trans hp2⟩
  case rest =>
  obtain ⟨⟨b,rfl,hb⟩,hp2⟩:=hcut
  obtain ⟨w2,hw2⟩:∃ w2,w2=wc:=⟨_,rfl⟩
  subst hw2
  cases b
  case true =>
    go_wp2_with fail
    go_ret
    exact ⟨rfl,hp2⟩
  case false =>
    have B1:=Lib.hid (books_any ls oa cap w2 (HK.out.pr hp2))
    generalize inP ls=ts at *
    have Hp2:=Lib.hid hp2
    clear hb hp2 G1
    go_upto_region 8 with (go_at_call 7;(with_reducible refine Calls.mono B1.out ?_);rintro e w3 ⟨X,B,v,oi,ci,rfl,hbk,hki,_,_,hb3⟩)
    have HB:=Lib.hid hbk;have HKi:=Lib.hid hki
    have Hw3:=Lib.hid (Hp2.out.trans hb3)
    have HLt3:=Lib.hid (HLt.out.pr Hw3.out)
    have hfew:=hbk.few
    have hflt:=Lib.hid hbk.flt
    clear hbk hki hb3 B1
    go_loopw [5,6] (fun v5 v6 wr=>∃ (k:Nat) (o:Option Addr) (c:Nat),k≤ts.length∧v6=.int .i64 k∧v5=.slice o (aheadP ts k).length c∧Ints Any wr (aheadP ts k) o c∧Pr w3 wr) (fun _ v6 _=>ts.length - (intOf v6).toNat)
    case atStart=>exact ⟨0,none,0,by omega,rfl,rfl,Flat.nil _ _ _ _ (Nat.zero_le _),Pr.refl _⟩
    case round =>
      obtain ⟨k,o5,c5,hk,rfl,rfl,hi5,hb⟩:=hrel
      have Hb:=Lib.hid hb
      by_cases hlt:k < ts.length
      case neg =>
        have hke:k=ts.length:=by omega
        subst hke
        have L1:=Lib.hid fun W' (h:Pr wr W')=>blame_any B v ts (ts.length:Int) W' (HB.out.pr (hb.trans h))
        have L2:=Lib.hid fun W' (h:Pr wr W')=>blame_any B v ts (-1) W' (HB.out.pr (hb.trans h))
        have h1:¬ hasB ts (ts.length:Int):=by unfold hasB;omega
        have h2:¬ hasB ts (-1):=by unfold hasB;omega
        have p1:blameP ts (ts.length:Int)=[]:=by unfold blameP;rw [if_neg h1]
        have p2:blameP ts (-1)=[]:=by unfold blameP;rw [if_neg h2]
        have q1:blameC ts (ts.length:Int)=7:=by unfold blameC;rw [if_neg h1]
        have q2:blameC ts (-1)=7:=by unfold blameC;rw [if_neg h2]
        unfold BlamePost at L1 L2
        rw [p1,q1] at L1
        rw [p2,q2] at L2
        clear h1 h2 p1 p2 q1 q2 hi5 hb
        go_wp2_with (first
          | (go_at_call 8;(with_reducible refine Calls.mono (L1.out _ (Pr.refl _)) ?_);rintro e w4 ⟨o4,c4,rfl,_,hp4⟩)
          | (go_at_call 8;(with_reducible refine Calls.mono (L2.out _ hp4) ?_);rintro e w5 ⟨o6,c6,rfl,_,hp5⟩))
        go_ret
        exact ⟨by simp,Hw3.out.trans (Hb.out.trans (hp4.trans hp5))⟩
      case pos =>
        obtain ⟨bb,ob1,lb,kb,ab,cb,eb,hlb,hab,b0,b1,hkb⟩:=(HKi.out.pr hb).get k hlt
        subst hab
        have fk:fault (.node lb kb)=0:=by rw [← eb];exact hflt.out _ (List.getElem_mem hlt)
        have hform:=blM_form hflt.out k hlt
        have hall:=blM_all hflt.out k hlt
        have hB:hasB ts (k:Int):=by unfold hasB;omega
        obtain ⟨M,hM⟩:∃ M,M=listM (blM ts k):=⟨_,rfl⟩
        have p1:blameP ts (k:Int)=M:=by unfold blameP;rw [if_pos hB,Int.toNat_natCast,hM]
        have q1:blameC ts (k:Int)=0:=by unfold blameC;rw [if_pos hB]
        have hMl:M.length=(Tr.node lb kb).sz:=by rw [hM,Form.list hform,eb]
        have hMs:M.length≤40:=by rw [hMl];exact (fault_zero.1 fk).1
        have hMa:∀ x∈M,0≤x∧x≤(k:Int):=by rw [hM];exact hall
        have L1:=Lib.hid (blame_any B v ts (k:Int) wr (HB.out.pr hb))
        unfold BlamePost at L1
        rw [p1,q1] at L1
        have SZ:=Lib.hid fun u (h:Pr wr u)=>sizeOf_any _ lb kb ab cb 1000 u (Nat.lt_succ_self _) (by omega) (by omega) (hkb.any.pr h)
        rw [sizeR_is fk,← hMl] at SZ
        have SI:Hid (∀ u o c o' c',Ints Any u M o c→Ints Any u M o' c'→Calls Tryz.prog 12 #[.slice o M.length c,.slice o' M.length c'] u fun e w'=>e=.returned (.bool true)∧Pr u w'):=Lib.hid fun u o c o' c' h1 h2=>by
          have:=sints_any M M o c o' c' u h1 h2
          rw [decide_eq_true rfl] at this;exact this
        have C0:=stays b0;have C1:=stays b1
        have HM:=Lib.hid hM;have HMa:=Lib.hid hMa;have Heb:=Lib.hid eb;have Hi5:=Lib.hid hi5;have Hkb:=Lib.hid hkb;have Hfk:=Lib.hid fk
        have y4:(k:Int) < (ts.length:Int):=by omega
        have y5:(0:Int)≤(k:Int):=by omega
        clear hform hall hB p1 q1 hMl hM hMa eb hi5 hkb b0 b1 hb fk
        go_upto_region 11 with (go_at_call 8;(with_reducible refine Calls.mono L1.out ?_);rintro e w4 ⟨o7,c7,rfl,hi7,hp4⟩)
        have Hi7:=Lib.hid (Flat.any hi7)
        have Hp4:=Lib.hid hp4
        clear hi7 L1
        have eK:((k:Int)==0)=decide (k=0):=by cases k <;> rfl
        go_upto_if 40 with fail
        go_cut [5] from 41 to 60 (fun v5 wx=>∃ o c,v5=.slice o M.length c∧Ints Any wx M o c∧Pr w4 wx)
        case first =>
          by_cases hk0:k=0
          case pos =>
            subst hk0
            have hms:M=List.replicate M.length 0:=by
              rw [HM.out];simp only [blM]
              rw [listM_markP,List.length_replicate]
            have hmk:=fun W=>make_zeros M.length (by omega) W
            have a0:=C0 _ hp4;have a1:=C1 _ hp4
            rw [Nat.zero_mul,Nat.add_zero] at a0 a1
            have Hms:=Lib.hid hms
            have h0:0 < ts.length:=hlt
            have e1:(((0:Nat):Int)==0)=true:=rfl
            clear hms hp4
            go_wp2_with (go_at_call 9;(with_reducible refine Calls.mono (SZ.out _ Hp4.out) ?_);rintro e w5 ⟨rfl,hp5⟩)
            go_meet
            case rel=>exact ⟨_,_,rfl,by have:=ints_zero M.length w5 (by omega);rw [← Hms.out] at this;exact this,hp5.alloc' _⟩
          case neg =>
            obtain ⟨j,rfl⟩:∃ j,k=j+1:=⟨k - 1,by omega⟩
            have hj0:j < ts.length:=by omega
            have S1:=Lib.hid (stepB_any B v ts ((j:Int)+1) w4 ((HB.out.pr Hb.out).pr hp4))
            have hd:stepD ts ((j:Int)+1)=(stepP ts[j] ts[j+1]).1:=by
              exact stepD_get ts j hlt
            unfold StepPost at S1
            rw [hd] at S1
            obtain ⟨ba,oa1,la,ka,aa,ca,ea,hla,haa,a0,a1,hka⟩:=(HKi.out.pr (Hb.out.trans hp4)).get j hj0
            cases haa
            obtain ⟨back,hgo⟩:=stepP_go (hflt.out _ (List.getElem_mem hj0)) (hflt.out _ (List.getElem_mem hlt))
            have fj:=hflt.out _ (List.getElem_mem hj0)
            have hformj:=blM_form hflt.out j hj0
            have hallj:=blM_all hflt.out j hj0
            have hxs:aheadP ts (j+1)=listM (blM ts j):=by unfold aheadP;rw [if_neg (by omega),Nat.add_sub_cancel]
            have hMd:M=listM (doMs ((j:Int)+1) (stepP ts[j] ts[j+1]).1 (blM ts j)):=by
              rw [HM.out];simp only [blM];rw [stepD_get ts j hlt]
            have e1:(((j:Int)+1)==0)=false:=by rw [beq_eq_false_iff_ne];omega
            have y1:IntKind.i64.wrap (((j:Int)+1) - 1)=(j:Int):=by rw [show (j:Int)+1 - 1=(j:Int) by omega];exact IntWalk.i64_in _ (by omega)
            have hi5:=Hi5.out
            obtain ⟨xs,hxs2⟩:∃ xs,xs=aheadP ts (j+1):=⟨_,rfl⟩
            rw [← hxs2] at hi5 hxs ⊢
            obtain ⟨D,hD⟩:∃ D,D=(stepP ts[j] ts[j+1]).1:=⟨_,rfl⟩
            rw [← hD] at S1 hgo hMd
            have RS:Hid (∀ u o9 c9,Pr w4 u→Dees Any u D o9 c9→Calls Tryz.prog 11 #[.agg #[.string la,.slice aa ka.length ca],.slice o5 xs.length c5,.slice o9 D.length c9,.int .i64 ((j:Int)+1)] u (RSinPost u M)):=Lib.hid fun u o9 c9 h hd9=>by
              rw [hMd]
              exact rsince_any la ka aa ca (blM ts j) xs hxs o5 c5 D o9 c9 _ _ u hla (by rw [← ea];exact fj) (hka.any.pr h) (by rw [← ea];exact hformj) (Flat.pr (hp4.trans h) hi5) (by rw [hxs];exact fun x hx=>by have:=hallj x hx;omega) hd9 (by omega) (by omega) (by rw [← ea];exact hgo) ((HLt3.out.pr (Hb.out.trans hp4)).pr h)
            have A0:=stays a0;have A1:=stays a1
            have y2:(j:Int) < (ts.length:Int):=by omega
            have y3:(0:Int)≤(j:Int):=by omega
            clear hd ea hka hgo fj hformj hallj hxs hMd hi5 hxs2 hD a0 a1
            go_upto_region 14 with (go_at_call 10;(with_reducible refine Calls.mono S1.out ?_);rintro e w5 ⟨o9,c9,rfl,hd9,hp5⟩)
            have a0:=A0 _ hp5;have a1:=A1 _ hp5
            go_wp2_with (go_at_call 11;(with_reducible refine Calls.mono (RS.out _ _ _ hp5 hd9.any) ?_);rintro e w6 ⟨o10,c10,rfl,hi10,hp6⟩)
            go_meet
            case rel=>exact ⟨o10,c10,rfl,Flat.any hi10,hp5.trans hp6⟩
        case rest =>
          obtain ⟨o8,c8,rfl,hi8,hp5⟩:=hcut
          obtain ⟨w5,hw5⟩:∃ w,w=wc:=⟨_,rfl⟩
          subst hw5
          have SI1:=Lib.hid (SI.out w5 o7 c7 o8 c8 (Flat.pr hp5 Hi7.out) hi8)
          have hp45:=Hp4.out.trans hp5
          have b0':=C0 _ hp45;have b1':=C1 _ hp45
          have Hi8:=Lib.hid hi8;have Hp45:=Lib.hid hp45
          have Hp5:=Lib.hid hp5
          clear hi8 hp5
          go_upto_region 17 with (first
            | (go_at_call 12;(with_reducible refine Calls.mono SI1.out ?_);rintro e w6 ⟨rfl,hp6⟩;have b0':=C0 _ (Hp45.out.trans hp6);have b1':=C1 _ (Hp45.out.trans hp6))
            | (go_at_call 9;(with_reducible refine Calls.mono (SZ.out _ (Hp45.out.trans hp6)) ?_);rintro e w7 ⟨rfl,hp7⟩))
          have hp47:=Hp45.out.trans (hp6.trans hp7)
          have Hi77:=Lib.hid (Flat.pr (Hp5.out.trans (hp6.trans hp7)) Hi7.out)
          have Hi87:=Lib.hid (Flat.pr (hp6.trans hp7) Hi8.out)
          have hnext:aheadP ts (k+1)=M:=by unfold aheadP;rw [if_neg (by omega),Nat.add_sub_cancel,HM.out]
          have Hnext:=Lib.hid hnext;have Hp47:=Lib.hid hp47
          clear hnext hp47 hp6 hp7 hp45 b0' b1' SI1
          go_wp2_with fail
          go_loopw [11] (fun v11 wz=>∃ i:Nat,i≤M.length∧v11=.int .i64 i∧w7=wz) (fun v11 _=>M.length - (intOf v11).toNat)
          case atStart=>exact ⟨0,by omega,rfl,rfl⟩
          case round =>
            obtain ⟨i,hi,rfl,hwz⟩:=hrel
            subst hwz
            by_cases hlt2:i < M.length
            case pos =>
              obtain ⟨b9,o9,e9,c0⟩:=Ints.get Hi77.out i hlt2
              have hx:=HMa.out M[i] (List.getElem_mem hlt2)
              obtain ⟨x,hxe⟩:∃ x,x=M[i]:=⟨_,rfl⟩
              rw [← hxe] at hx c0
              subst e9
              have f1:decide (x < 0)=false:=decide_eq_false (by omega)
              have f2:decide ((k:Int) < x)=false:=decide_eq_false (by omega)
              clear hx hxe
              go_wp2_with fail
              refine ⟨⟨i+1,by omega,by go_num,by simp⟩,?_⟩
              simp [intOf];omega
            case neg =>
              have hie:i=M.length:=by omega
              subst hie
              by_cases hk0:k=0
              case pos =>
                subst hk0
                clear SI SZ
                go_wp2_with fail
                go_quiet (fail)
                go_wp2_with fail
                refine ⟨⟨0+1,o8,c8,by omega,by go_num,by rw [Hnext.out],by rw [Hnext.out];exact Flat.pr (Pr.drewN _ _) Hi87.out,(Hb.out.trans Hp47.out).trans (Pr.drewN _ _)⟩,?_⟩
                simp [intOf];omega
              case neg =>
                obtain ⟨j,rfl⟩:∃ j,k=j+1:=⟨k - 1,by omega⟩
                have hj0:j < ts.length:=by omega
                have hq:=Hb.out.trans Hp47.out
                obtain ⟨ba,oa1,la,ka,aa,ca,ea,hla,haa,a0,a1,hka⟩:=(HKi.out.pr hq).get j hj0
                cases haa
                have A0:=After.cell a0;have A1:=After.cell a1;have B0:=After.cell (C0 _ Hp47.out);have B1:=After.cell (C1 _ Hp47.out)
                obtain ⟨bq,hbq⟩:∃ b,b=(Tr.node la ka).beq (.node lb kb):=⟨_,rfl⟩
                have T1:=Lib.hid (After.call (P:=Tryz.prog) (v:=.bool bq) fun W' (h:Pr w7 W')=>by
                  have:=sameTree_any la lb ka kb aa ca ab cb W' (hka.any.pr h) (Hkb.out.any.pr (Hp47.out.trans h))
                  rw [← hbq] at this;exact this)
                have hsame:bq=true→listM (blM ts j)=M:=fun e=>by
                  rw [hbq] at e
                  have he:=(Tr.beq_iff _ _).1 e
                  rw [HM.out,blM_same hflt.out j hlt (by rw [ea,Heb.out];exact he)]
                have hB:hasB ts (j:Int):=by unfold hasB;omega
                have p1:blameP ts (j:Int)=listM (blM ts j):=by unfold blameP;rw [if_pos hB,Int.toNat_natCast]
                have L2:bq=true→∀ u,Pr w7 u→Calls Tryz.prog 8 #[.pointer (some ⟨B,0,none⟩),.int .i64 (j:Int)] u fun e w'=>∃ o c z,e=.returned (.tuple #[.slice o M.length c,.int .i64 z])∧Ints Any w' M o c∧Pr u w':=fun e u h=>by
                  refine (blame_any B v ts (j:Int) u ((HB.out.pr hq).pr h)).mono ?_
                  rintro e' w' ⟨o,c,rfl,h1,h2⟩
                  rw [p1,hsame e] at h1
                  exact ⟨o,c,_,by rw [p1,hsame e],Flat.any h1,h2⟩
                have HL2:=Lib.hid L2
                have e2:decide ((0:Int) < (j:Int)+1)=true:=decide_eq_true (by omega)
                have y1:IntKind.i64.wrap ((j:Int)+1 - 1)=(j:Int):=by rw [show (j:Int)+1 - 1=(j:Int) by omega];exact IntWalk.i64_in _ (by omega)
                have y2:(j:Int) < (ts.length:Int):=by omega
                have y3:(0:Int)≤(j:Int):=by omega
                have y6:(0:Int)≤(j:Int)+1:=by omega
                have y7:(j:Int)+1 < (ts.length:Int):=by omega
                clear hka ea hbq hsame hB p1 L2 a0 a1 SZ hq
                go_upto_region 22 with fail
                refine wp_region_after (by kernel_rfl) (by kernel_rfl) ?_
                repeat (go_big_quiet_step (first | (go_at_call 13;with_reducible exact T1.out _)))
                refine wpQuiet_nil ?_
                rintro wq ⟨⟨_,hq8⟩,rfl⟩
                cases bq
                case false =>
                  go_wp2_with fail
                  refine ⟨⟨j+1+1,o8,c8,by omega,by go_num,by rw [Hnext.out],by rw [Hnext.out];exact Flat.pr hq8 Hi87.out,(Hb.out.trans Hp47.out).trans hq8⟩,?_⟩
                  simp [intOf];omega
                case true =>
                  have L3:=Lib.hid (HL2.out rfl wq hq8)
                  go_upto_region 24 with (go_at_call 8;(with_reducible refine Calls.mono L3.out ?_);rintro e w9 ⟨o11,c11,z11,rfl,hi11,hp9⟩)
                  have SI2:=Lib.hid (SI.out w9 o11 c11 o7 c7 hi11 (Flat.pr (hq8.trans hp9) Hi77.out))
                  go_wp2_with (go_at_call 12;(with_reducible refine Calls.mono SI2.out ?_);rintro e w10 ⟨rfl,hp10⟩)
                  refine ⟨⟨j+1+1,o8,c8,by omega,by go_num,by rw [Hnext.out],by rw [Hnext.out];exact Flat.pr ((hq8.trans hp9).trans hp10) Hi87.out,(Hb.out.trans Hp47.out).trans ((hq8.trans hp9).trans hp10)⟩,?_⟩
                  simp [intOf];omega
end Go.Proofs.YtdbnfhpgmcjngadGreatDoor
