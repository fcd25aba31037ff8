/- The law ScriptDiffs: its walk. -/
import Derived.Test.YtdbnfhpgmcjngacDoorYk
import Derived.Test.YtdbnfhpgmcjngacDoorYu
import Derived.Test.YtdbnfhpgmcjngacDoorByf
import Derived.Test.YtdbnfhpgmcjngacDoorRe
import Derived.Test.YtdbnfhpgmcjngacDoorRf
import Derived.Deep.DeepCutAuto
namespace Go.Proofs.YtdbnfhpgmcjngacDoor
open Go Go.RowKit
set_option maxRecDepth 100000 in
set_option maxHeartbeats 6400000 in
theorem scriptDiffs_walk (l:ByteArray) (ks:List Tr) (oa cap) (m:ByteArray) (js:List Tr) (ob cbp) (w:World) (hl:l.size≤maxLen) (hk:Kids Any w ks oa cap) (hm:m.size≤maxLen) (hj:Kids Any w js ob cbp) (hlt0:Lt w) :
    Calls Tryd.prog 3 #[.agg #[.string l,.slice oa ks.length cap],.agg #[.string m,.slice ob js.length cbp]] w fun e w'=>e=.returned (.bool true)∧Pr w w':=by
  obtain ⟨W,hW⟩:∃ W,W=(w.alloc (.cells #[.string l,.slice oa ks.length cap] 24)).alloc (.cells #[.string m,.slice ob js.length cbp] 24):=⟨_,rfl⟩
  have hwW:Pr w W:=by rw [hW];exact (Pr.alloc _ _).alloc' _
  have s0:=stays (show W.cell? ⟨w.heap.size,0,none⟩=some (.string l) by rw [hW];simp [go_sem])
  have s1:=stays (show W.cell? ⟨w.heap.size,1,none⟩=some (.slice oa ks.length cap) by rw [hW];simp [go_sem])
  have s2:=stays (show W.cell? ⟨w.heap.size+1,0,none⟩=some (.string m) by rw [hW];simp [go_sem])
  have s3:=stays (show W.cell? ⟨w.heap.size+1,1,none⟩=some (.slice ob js.length cbp) by rw [hW];simp [go_sem])
  have hk:=hk.pr hwW
  have hj:=hj.pr hwW
  obtain ⟨ga,hga⟩:∃ b,b=great (.node l ks):=⟨_,rfl⟩
  obtain ⟨gb,hgb⟩:∃ b,b=great (.node m js):=⟨_,rfl⟩
  have G1:Hid (∀ W',Pr W W'→Calls Tryd.prog 6 #[.agg #[.string l,.slice oa ks.length cap]] W' fun e w'=>e=.returned (.bool ga)∧Pr W' w'):=Lib.hid fun W' h=>by rw [hga];exact great_any l ks _ _ _ (hk.pr h)
  have G2:Hid (∀ W',Pr W W'→Calls Tryd.prog 6 #[.agg #[.string m,.slice ob js.length cbp]] W' fun e w'=>e=.returned (.bool gb)∧Pr W' w'):=Lib.hid fun W' h=>by rw [hgb];exact great_any m js _ _ _ (hj.pr h)
  have F1:=Lib.hid (fun W' (h:Pr W W')=>treeFault_any l ks oa cap W' hl (hk.pr h))
  have F2:=Lib.hid (fun W' (h:Pr W W')=>treeFault_any m js ob cbp W' hm (hj.pr h))
  have Z1:=Lib.hid (fun W' (h:Pr W W')=>sizeOf_any _ l ks oa cap 20 W' (Nat.lt_succ_self _) (by omega) (by omega) (hk.pr h))
  have Z2:=Lib.hid (fun W' (h:Pr W W')=>sizeOf_any _ m js ob cbp 20 W' (Nat.lt_succ_self _) (by omega) (by omega) (hj.pr h))
  have HK:=Lib.hid hk;have HJ:=Lib.hid hj;have HW:=Lib.hid hwW;have HLt:=Lib.hid (hlt0.pr hwW)
  clear hga hgb hk hj hwW hlt0
  go_enter Tryd.func3,Tryd.ntmps3
  go_upto_region 1 with fail
  rw [← hW];clear hW
  go_upto_region 3 with (first
    | (go_at_call 5;(with_reducible refine Calls.mono (scriptBegun_any _) ?_);rintro e w1 ⟨rfl,hc⟩))
  have z0:=s0 _ hc;have z1:=s1 _ hc
  have y2:=stays (s2 _ hc);have y3:=stays (s3 _ hc)
  have Hc:=Lib.hid hc
  clear hc
  go_cut [15] from 10 to 14 (fun v wx=>v=.bool (ga || gb)∧Pr w1 wx)
  case first =>
    have hp:=Pr.refl w1
    cases ga <;> cases gb
    all_goals
      go_wp2_with (first
        | (go_at_call 6;(with_reducible refine Calls.mono (G1.out _ (Hc.out.trans hp)) ?_);rintro e w2 ⟨rfl,hb⟩;have hp:=hp.trans hb;have x2:=y2 _ hp;have x3:=y3 _ hp)
        | (go_at_call 6;(with_reducible refine Calls.mono (G2.out _ (Hc.out.trans hp)) ?_);rintro e w3 ⟨rfl,hb⟩;have hp:=hp.trans hb))
      go_meet
      case rel=>exact ⟨rfl,hp⟩
  case rest =>
    obtain ⟨rfl,hp⟩:=hcut
    cases hbad:(ga || gb)
    case true =>
      go_wp2_with fail
      go_ret
      exact ⟨rfl,HW.out.trans (Hc.out.trans hp)⟩
    case false =>
      obtain ⟨w2,hw2⟩:∃ w2,w2=wc:=⟨_,rfl⟩
      subst hw2
      have hWp:=Hc.out.trans hp
      have x0:=s0 _ hWp;have x1:=s1 _ hWp;have x2:=s2 _ hWp;have x3:=s3 _ hWp
      clear z0 z1 y2 y3
      by_cases hf:fault (.node l ks)=0∧fault (.node m js)=0
      case neg =>
        obtain ⟨c,hc⟩:∃ c,c=if fault (.node l ks)=0 then fault (.node m js) else fault (.node l ks):=⟨_,rfl⟩
        have h0:c≠0:=by
          rw [hc];split
          · exact fun e=>hf ⟨by assumption,e⟩
          · assumption
        have D1:=Lib.hid (diff_no l ks oa cap m js ob cbp w2 hl (HK.out.pr hWp) hm (HJ.out.pr hWp) c hc h0)
        have HWp:=Lib.hid hWp
        by_cases h1:fault (.node l ks)=0
        · rw [if_pos h1] at hc
          rw [h1] at F1
          rw [← hc] at F2
          have n1:((c:Int)==0)=false:=by simp;omega
          have n2:((c:Int) != 0)=true:=by simp [bne_iff_ne];omega
          clear hc h0 hf h1
          go_wp2_with (first
            | (go_at_call 7;(with_reducible refine Calls.mono D1.out ?_);rintro e w3 ⟨rfl,hb3⟩;have hW3:=HWp.out.trans hb3;have x0:=s0 _ hW3;have x1:=s1 _ hW3)
            | (go_at_call 8;(with_reducible refine Calls.mono (F1.out _ hW3) ?_);rintro e w4 ⟨rfl,hb4⟩;have hW4:=hW3.trans hb4;have x2:=s2 _ hW4;have x3:=s3 _ hW4)
            | (go_at_call 8;(with_reducible refine Calls.mono (F2.out _ hW4) ?_);rintro e w5 ⟨rfl,hb5⟩))
          go_ret
          exact ⟨by simp,HW.out.trans (hW4.trans hb5)⟩
        · rw [if_neg h1] at hc
          rw [← hc] at F1
          have n1:((c:Int)==0)=false:=by simp;omega
          have n2:((c:Int) != 0)=true:=by simp [bne_iff_ne];omega
          clear hc h0 hf h1
          go_wp2_with (first
            | (go_at_call 7;(with_reducible refine Calls.mono D1.out ?_);rintro e w3 ⟨rfl,hb3⟩;have hW3:=HWp.out.trans hb3;have x0:=s0 _ hW3;have x1:=s1 _ hW3)
            | (go_at_call 8;(with_reducible refine Calls.mono (F1.out _ hW3) ?_);rintro e w4 ⟨rfl,hb4⟩))
          go_ret
          exact ⟨by simp,HW.out.trans (hW3.trans hb4)⟩
      case pos =>
        obtain ⟨fa,fb⟩:=hf
        have D1:=Lib.hid (diff_yes l ks oa cap m js ob cbp w2 hl (HK.out.pr hWp) hm (HJ.out.pr hWp) fa fb)
        unfold DiffPost at D1
        rw [fa] at F1
        rw [fb] at F2
        have RD:=Lib.hid fun u zs (hzs:zs=zp (bestT (.node l ks) (.node m js))) bo bc (h:Pr W u) (hp:Prs Any u zs bo bc)=>rdiff_any l ks oa cap m js ob cbp _ zs hzs bo bc u hl (HK.out.pr h) hm (HJ.out.pr h) fa fb rfl hp (HLt.out.pr h)
        unfold RDiffPost at RD
        have HWp:=Lib.hid hWp
        by_cases h1:(Tr.node l ks).sz≤16
        case neg =>
          have n1:decide (sizeR (Tr.szL ks+1) 20 > 16)=true:=by unfold sizeR;rw [Tr.sz_node] at h1;simp;omega
          obtain ⟨z1,hz1⟩:∃ z,z=sizeR (Tr.szL ks+1) 20:=⟨_,rfl⟩
          rw [← hz1] at Z1 n1
          have n2:decide ((16:Int) < z1)=true:=n1
          clear n1 hz1 h1 fa fb
          go_wp2_with (first
            | (go_at_call 7;(with_reducible refine Calls.mono D1.out ?_);rintro e w3 ⟨oD,cD,rfl,hD,hb3⟩;have hW3:=HWp.out.trans hb3;have x0:=s0 _ hW3;have x1:=s1 _ hW3)
            | (go_at_call 8;(with_reducible refine Calls.mono (F1.out _ hW3) ?_);rintro e w4 ⟨rfl,hb4⟩;have hW4:=hW3.trans hb4;have x0:=s0 _ hW4;have x1:=s1 _ hW4;have x2:=s2 _ hW4;have x3:=s3 _ hW4)
            | (go_at_call 8;(with_reducible refine Calls.mono (F2.out _ hW4) ?_);rintro e w5 ⟨rfl,hb5⟩;have hW5:=hW4.trans hb5;have x0:=s0 _ hW5;have x1:=s1 _ hW5)
            | (go_at_call 9;(with_reducible refine Calls.mono (Z1.out _ hW5) ?_);rintro e w6 ⟨rfl,hb6⟩))
          go_ret
          exact ⟨rfl,HW.out.trans (hW5.trans hb6)⟩
        case pos =>
          have n1:decide (sizeR (Tr.szL ks+1) 20 > 16)=false:=by unfold sizeR;rw [Tr.sz_node] at h1;simp;omega
          obtain ⟨z1,hz1⟩:∃ z,z=sizeR (Tr.szL ks+1) 20:=⟨_,rfl⟩
          rw [← hz1] at Z1 n1
          have n2:decide ((16:Int) < z1)=false:=n1
          clear n1 hz1
          by_cases h2:(Tr.node m js).sz≤16
          case neg =>
            have n3:decide (sizeR (Tr.szL js+1) 20 > 16)=true:=by unfold sizeR;rw [Tr.sz_node] at h2;simp;omega
            obtain ⟨z2,hz2⟩:∃ z,z=sizeR (Tr.szL js+1) 20:=⟨_,rfl⟩
            rw [← hz2] at Z2 n3
            have n4:decide ((16:Int) < z2)=true:=n3
            clear n3 hz2 h1 h2 fa fb
            go_wp2_with (first
              | (go_at_call 7;(with_reducible refine Calls.mono D1.out ?_);rintro e w3 ⟨oD,cD,rfl,hD,hb3⟩;have hW3:=HWp.out.trans hb3;have x0:=s0 _ hW3;have x1:=s1 _ hW3)
              | (go_at_call 8;(with_reducible refine Calls.mono (F1.out _ hW3) ?_);rintro e w4 ⟨rfl,hb4⟩;have hW4:=hW3.trans hb4;have x0:=s0 _ hW4;have x1:=s1 _ hW4;have x2:=s2 _ hW4;have x3:=s3 _ hW4)
              | (go_at_call 8;(with_reducible refine Calls.mono (F2.out _ hW4) ?_);rintro e w5 ⟨rfl,hb5⟩;have hW5:=hW4.trans hb5;have x0:=s0 _ hW5;have x1:=s1 _ hW5)
              | (go_at_call 9;(with_reducible refine Calls.mono (Z1.out _ hW5) ?_);rintro e w6 ⟨rfl,hb6⟩;have hW6:=hW5.trans hb6;have x2:=s2 _ hW6;have x3:=s3 _ hW6)
              | (go_at_call 9;(with_reducible refine Calls.mono (Z2.out _ hW6) ?_);rintro e w7 ⟨rfl,hb7⟩))
            go_ret
            exact ⟨rfl,HW.out.trans (hW6.trans hb7)⟩
          case pos =>
            have n3:decide (sizeR (Tr.szL js+1) 20 > 16)=false:=by unfold sizeR;rw [Tr.sz_node] at h2;simp;omega
            obtain ⟨z2,hz2⟩:∃ z,z=sizeR (Tr.szL js+1) 20:=⟨_,rfl⟩
            rw [← hz2] at Z2 n3
            have n4:decide ((16:Int) < z2)=false:=n3
            clear n3 hz2
            obtain ⟨na,hna⟩:∃ na,na=nds (.node l ks):=⟨_,rfl⟩
            obtain ⟨nb,hnb⟩:∃ nb,nb=nds (.node m js):=⟨_,rfl⟩
            have hla:na.length=(Tr.node l ks).sz:=by rw [hna,nds_length]
            have hlb:nb.length=(Tr.node m js).sz:=by rw [hnb,nds_length]
            have fx:Fit na:=by rw [hna];exact fit_nds _
            have fy:Fit nb:=by rw [hnb];exact fit_nds _
            have NA:=Lib.hid fun u (h:Pr W u)=>newApart_any l ks oa cap m js ob cbp u (HK.out.pr h) (HJ.out.pr h) (by rw [← hna];omega) (by rw [← hnb];omega)
            rw [← hna,← hnb] at NA
            have hbt:zp (bestP na nb 0 (na.length - 1) 0 (nb.length - 1) ++ [(na.length - 1,nb.length - 1)])=zp (bestT (.node l ks) (.node m js)):=by rw [hla,hlb,hna,hnb];rfl
            obtain ⟨zs,hzs⟩:∃ zs,zs=zp (bestT (.node l ks) (.node m js)):=⟨_,rfl⟩
            have BT:=Lib.hid fun u B xb xo xc yb yo yc g K (hA:Apt u B na nb xb xo xc yb yo yc g K) (hM:Memo u g K na nb)=>rbestTop_any hA hM fx fy (by omega) (by omega) (by have:=(Tr.node l ks).sz_pos;omega) (by have:=(Tr.node m js).sz_pos;omega)
            rw [hbt,← hzs] at BT
            have RD2:=Lib.hid fun u bo bc (h:Pr W u) (hp:Prs Any u zs bo bc)=>RD.out u zs hzs bo bc h hp
            generalize diffP (.node l ks) (.node m js) (bestT (.node l ks) (.node m js))=D at *
            have SD:Hid (∀ W' o c o2 c2,Dees Any W' D o c→Dees Any W' D o2 c2→Calls Tryd.prog 10 #[.slice o D.length c,.slice o2 D.length c2] W' fun e w'=>e=.returned (.bool true)∧Pr W' w'):=Lib.hid fun W' o c o2 c2 h1 h2=>by
              have:=sameDeeds_any D D o c o2 c2 W' h1 h2;rw [decide_eq_true rfl] at this;exact this
            clear h1 h2 fa fb hna hnb hla hlb fx fy hbt hzs RD
            go_upto_region 13 with (first
              | (go_at_call 7;(with_reducible refine Calls.mono D1.out ?_);rintro e w3 ⟨oD,cD,rfl,hD,hb3⟩;have hW3:=HWp.out.trans hb3;have x0:=s0 _ hW3;have x1:=s1 _ hW3)
              | (go_at_call 8;(with_reducible refine Calls.mono (F1.out _ hW3) ?_);rintro e w4 ⟨rfl,hb4⟩;have hW4:=hW3.trans hb4;have x0:=s0 _ hW4;have x1:=s1 _ hW4;have x2:=s2 _ hW4;have x3:=s3 _ hW4)
              | (go_at_call 8;(with_reducible refine Calls.mono (F2.out _ hW4) ?_);rintro e w5 ⟨rfl,hb5⟩;have hW5:=hW4.trans hb5;have x0:=s0 _ hW5;have x1:=s1 _ hW5)
              | (go_at_call 9;(with_reducible refine Calls.mono (Z1.out _ hW5) ?_);rintro e w6 ⟨rfl,hb6⟩;have hW6:=hW5.trans hb6;have x2:=s2 _ hW6;have x3:=s3 _ hW6)
              | (go_at_call 9;(with_reducible refine Calls.mono (Z2.out _ hW6) ?_);rintro e w7 ⟨rfl,hb7⟩))
            have hW7:=hW6.trans hb7
            have hD7:=hD.any.pr ((((hb4.trans hb5).trans hb6).trans hb7))
            have X0:=fun u (h:Pr w7 u)=>s0 u (hW7.trans h);have X1:=fun u (h:Pr w7 u)=>s1 u (hW7.trans h);have X2:=fun u (h:Pr w7 u)=>s2 u (hW7.trans h);have X3:=fun u (h:Pr w7 u)=>s3 u (hW7.trans h)
            have HW7:=Lib.hid hW7;have HD7:=Lib.hid hD7;have HWw:=Lib.hid (HW.out.trans hW7)
            clear hW7 hD7 hD hb3 hb4 hb5 hb6 hb7 hW3 hW4 hW5 hW6 x0 x1 x2 x3 s0 s1 s2 s3 D1 F1 F2 Z1 Z2 n2 n4
            go_region_held3 (fun W'=>Pr w7 W')
              (first | with_reducible exact Pr.drew w7 | with_reducible exact hp5 | with_reducible exact hp6 | with_reducible exact hp8 | with_reducible exact hp9)
              (first
                | (go_at_call 12;(with_reducible refine Calls.mono (NA.out _ (HW7.out.trans (Pr.drew w7))) ?_);rintro e w8 ⟨B,xb,xo,xc,yb,yo,yc,g,K,rfl,hA,hM,hb8,hg⟩;have hp5:=(Pr.drew w7).trans hb8)
                | (go_at_call 13;(with_reducible refine Calls.mono (BT.out _ _ _ _ _ _ _ _ _ _ hA hM) ?_);rintro e w9 ⟨v9,rfl,ho9,hc9,hM9⟩;obtain ⟨bo,bc,rfl,hprs⟩:=ho9.prs;have hp6:Pr w7 w9:=((hp5.chg _).trans hc9 (fun _ h=>.inl h)).to_pr (fun k hk=>hk ▸ hg))
                | (go_at_call 11;(with_reducible refine Calls.mono (RD2.out _ _ _ (HW7.out.trans hp6) hprs.any) ?_);rintro e wa ⟨oa9,ca9,rfl,hda,hba⟩;have hp8:=hp6.trans hba)
                | (go_at_call 10;(with_reducible refine Calls.mono (SD.out _ _ _ _ _ (HD7.out.pr hp8) hda) ?_);rintro e wb ⟨rfl,hbb⟩;have hp9:=hp8.trans hbb))
            all_goals
              go_wp2_with fail
              go_ret
              exact ⟨rfl,HWw.out.trans hp9⟩
end Go.Proofs.YtdbnfhpgmcjngacDoor
