/- The law PatchDiffs: its walk. -/
import Derived.Test.YtdbnfhpgmcjngadGreatDoorPwm
import Derived.Test.YtdbnfhpgmcjngadGreatDoorPwn
import Derived.Test.YtdbnfhpgmcjngadGreatDoorPx
import Derived.Test.YtdbnfhpgmcjngadGreatDoorYk
import Derived.Deep.DeepCutAuto
namespace Go.Proofs.YtdbnfhpgmcjngadGreatDoor
open Go Go.RowKit
theorem diff_few {a b:Tr} (ha:fault a=0) (hb:fault b=0):(∀ d∈diffP a b (bestT a b),lineC d=0∧d.path.length≤60∧d.lab.size≤100)∧(diffP a b (bestT a b)).length≤80:=by
  obtain ⟨⟨back,hgo⟩,hlen⟩:=diff_ok ha hb
  have hc80:=cost_few ha hb
  have h1:=run_lines hgo
  have h2:=run_few hgo
  exact ⟨fun d hd=>⟨h1 d hd,h2 d hd⟩,by omega⟩
set_option maxRecDepth 100000 in
set_option maxHeartbeats 6400000 in
theorem patchDiffs_walk (l:ByteArray) (ks:List Tr) (oa cap) (m:ByteArray) (js:List Tr) (ob cbp) (w:World) (hl:l.size≤maxLen) (hk:Kids Any w ks oa cap) (hm:m.size≤maxLen) (hj:Kids Any w js ob cbp) (hw:Lv w) :
    Calls Tryz.prog 4 #[.agg #[.string l,.slice oa ks.length cap],.agg #[.string m,.slice ob js.length cbp]] w fun e w'=>e=.returned (.bool true)∧Pr w w':=by
  obtain ⟨W,hW⟩:∃ W,W=(w.alloc (.cells #[.string l,.slice oa ks.length cap] 33)).alloc (.cells #[.string m,.slice ob js.length cbp] 33):=⟨_,rfl⟩
  have hwW:Pr w W:=by rw [hW];exact (Pr.alloc _ _).alloc' _
  have s0:=stays (show W.cell? ⟨w.heap.size,0,none⟩=some (.string l) by rw [hW];simp [go_sem])
  have s1:=stays (show W.cell? ⟨w.heap.size,1,none⟩=some (.slice oa ks.length cap) by rw [hW];simp [go_sem])
  have s2:=stays (show W.cell? ⟨w.heap.size+1,0,none⟩=some (.string m) by rw [hW];simp [go_sem])
  have s3:=stays (show W.cell? ⟨w.heap.size+1,1,none⟩=some (.slice ob js.length cbp) by rw [hW];simp [go_sem])
  have hk:=hk.pr hwW
  have hj:=hj.pr hwW
  obtain ⟨ga,hga⟩:∃ b,b=great (.node l ks):=⟨_,rfl⟩
  obtain ⟨gb,hgb⟩:∃ b,b=great (.node m js):=⟨_,rfl⟩
  have G1:Hid (∀ W',Pr W W'→Calls Tryz.prog 15 #[.agg #[.string l,.slice oa ks.length cap]] W' fun e w'=>e=.returned (.bool ga)∧Pr W' w'):=Lib.hid fun W' h=>by rw [hga];exact great_any l ks _ _ _ (hk.pr h)
  have G2:Hid (∀ W',Pr W W'→Calls Tryz.prog 15 #[.agg #[.string m,.slice ob js.length cbp]] W' fun e w'=>e=.returned (.bool gb)∧Pr W' w'):=Lib.hid fun W' h=>by rw [hgb];exact great_any m js _ _ _ (hj.pr h)
  have BG:=Lib.hid (patchBegun_any W (hw.pr hwW))
  have HK:=Lib.hid hk;have HJ:=Lib.hid hj;have HW:=Lib.hid hwW;have HL:=Lib.hid (hw.pr hwW)
  clear hga hgb hk hj hwW hw
  go_enter Tryz.func4,Tryz.ntmps4
  go_upto_region 1 with fail
  rw [← hW];clear hW
  go_upto_region 3 with (first
    | (go_at_call 14;(with_reducible refine Calls.mono BG.out ?_);rintro e w1 ⟨rfl,hc⟩))
  have z0:=s0 _ hc;have z1:=s1 _ hc
  have y2:=stays (s2 _ hc);have y3:=stays (s3 _ hc)
  have Hc:=Lib.hid hc
  clear hc
  go_cut [21] from 16 to 20 (fun v wx=>v=.bool (ga || gb)∧Pr w1 wx)
  case first =>
    have hp:=Pr.refl w1
    cases ga <;> cases gb
    all_goals
      go_wp2_with (first
        | (go_at_call 15;(with_reducible refine Calls.mono (G1.out _ (Hc.out.trans hp)) ?_);rintro e w2 ⟨rfl,hb⟩;have hp:=hp.trans hb;have x2:=y2 _ hp;have x3:=y3 _ hp)
        | (go_at_call 15;(with_reducible refine Calls.mono (G2.out _ (Hc.out.trans hp)) ?_);rintro e w3 ⟨rfl,hb⟩;have hp:=hp.trans hb))
      go_meet
      case rel=>exact ⟨rfl,hp⟩
  case rest =>
    obtain ⟨rfl,hp⟩:=hcut
    cases hbad:(ga || gb)
    case true =>
      go_wp2_with fail
      go_ret
      exact ⟨rfl,HW.out.trans (Hc.out.trans hp)⟩
    case false =>
      obtain ⟨w2,hw2⟩:∃ w2,w2=wc:=⟨_,rfl⟩
      subst hw2
      have hWp:=Hc.out.trans hp
      have x0:=s0 _ hWp;have x1:=s1 _ hWp;have x2:=s2 _ hWp;have x3:=s3 _ hWp
      clear z0 z1 y2 y3
      by_cases hf:fault (.node l ks)=0∧fault (.node m js)=0
      case neg =>
        obtain ⟨c,hc⟩:∃ c,c=if fault (.node l ks)=0 then fault (.node m js) else fault (.node l ks):=⟨_,rfl⟩
        have h0:c≠0:=by
          rw [hc];split
          · exact fun e=>hf ⟨by assumption,e⟩
          · assumption
        have D1:=Lib.hid (diff_no l ks oa cap m js ob cbp w2 hl (HK.out.pr hWp) hm (HJ.out.pr hWp) c hc h0)
        have e1:((c:Int) != 0)=true:=by simp [bne_iff_ne];omega
        have HWp:=Lib.hid hWp
        clear hc h0 hf hWp
        go_wp2_with (go_at_call 16;(with_reducible refine Calls.mono D1.out ?_);rintro e w3 ⟨rfl,hb3⟩)
        go_ret
        exact ⟨rfl,HW.out.trans (HWp.out.trans hb3)⟩
      case pos =>
        obtain ⟨fa,fb⟩:=hf
        obtain ⟨⟨back,hgo⟩,hlen⟩:=diff_ok fa fb
        obtain ⟨hfw,hf80⟩:=diff_few fa fb
        have hpth:=runGo_paths hgo
        have hrun:=runT_ok fa hf80 hgo
        have D1:=Lib.hid (diff_yes l ks oa cap m js ob cbp w2 hl (HK.out.pr hWp) hm (HJ.out.pr hWp) fa fb)
        unfold DiffPost at D1
        generalize diffP (.node l ks) (.node m js) (bestT (.node l ks) (.node m js))=D at *
        have hprint:=ok_print hf80 (fun d hd=>(hfw d hd).1)
        obtain ⟨tx,htx⟩:∃ tx,tx=ended (D.map lineT):=⟨_,rfl⟩
        rw [← htx] at hprint
        have hread:=print_back (ds:=D) (by rw [hprint])
        rw [hprint] at hread
        simp only [] at hread
        have htl:tx.length≤200000:=by rw [htx];have:=ended_few (ds:=D) (fun d hd=>line_few (hfw d hd).1 (hfw d hd).2.1 (hfw d hd).2.2);omega
        have hF:FewD D:=fun d hd=>by have:=hfw d hd;omega
        obtain ⟨b1,hb1⟩:∃ b:ByteArray,b=⟨⟨tx⟩⟩:=⟨_,rfl⟩
        have hb1l:b1.data.toList=tx:=by rw [hb1]
        have hb1s:b1.size≤200000:=by rw [← sizeL,hb1l];exact htl
        have P1:∀ W' o c,Pr W W'→Dees Any W' D o c→Calls Tryz.prog 17 #[.slice o D.length c] W' (PrintPost D W'):=fun W' o c h hd=>print_any D o c W' hd hF (HL.out.pr h)
        unfold PrintPost at P1
        rw [hprint] at P1
        simp only [] at P1
        rw [← hb1] at P1
        have R1:∀ W',Pr W W'→Calls Tryz.prog 18 #[.string b1] W' (ReadPost b1.data.toList W'):=fun W' h=>parse_any2 b1 (by omega) W' (HL.out.pr h)
        unfold ReadPost at R1
        rw [hb1l,hread] at R1
        simp only [] at R1
        have P1:=Lib.hid P1;have R1:=Lib.hid R1
        have RU:Hid (∀ W' oD cD,Pr W W'→Dees Any W' D oD cD→Calls Tryz.prog 19 #[.agg #[.string l,.slice oa ks.length cap],.slice oD D.length cD] W' fun e w'=>(∃ oa cap ob cb,e=.returned (.tuple #[.agg #[.string m,.slice oa js.length cap],.slice ob back.length cb,.agg #[.int .i64 0,.int .i64 0]])∧Kids Any w' js oa cap)∧Pr W' w'):=Lib.hid fun W' oD cD h hd =>
          (run_is l ks _ _ D oD cD W' hl (HK.out.pr h) hd (fun d hd=>by have:=hpth d hd;omega) m js back 0 0 hrun).mono fun e w' ⟨⟨⟨o,c,o2,c2,h1,h2,_⟩,_⟩,hp⟩=>⟨⟨o,c,o2,c2,h1,h2⟩,hp⟩
        have S1:Hid (∀ W' o c,Pr W W'→Kids Any W' js o c→Calls Tryz.prog 13 #[.agg #[.string m,.slice o js.length c],.agg #[.string m,.slice ob js.length cbp]] W' fun e w'=>e=.returned (.bool true)∧Pr W' w'):=Lib.hid fun W' o c h hk=>by
          have:=sameTree_any m m js js o c ob cbp W' hk (HJ.out.pr h);rw [Tr.beq_self] at this;exact this
        have SD:Hid (∀ W' o c o2 c2,Dees Any W' D o c→Dees Any W' D o2 c2→Calls Tryz.prog 20 #[.slice o D.length c,.slice o2 D.length c2] W' fun e w'=>e=.returned (.bool true)∧Pr W' w'):=Lib.hid fun W' o c o2 c2 h1 h2=>by
          have:=sameDeeds_any D D o c o2 c2 W' h1 h2;rw [decide_eq_true rfl] at this;exact this
        have HWp:=Lib.hid hWp
        clear hgo hpth hlen hrun fa fb hWp hfw hf80 hprint htx hread htl hF hb1 hb1l hb1s
        go_upto_region 8 with (go_at_call 16;(with_reducible refine Calls.mono D1.out ?_);rintro e w3 ⟨oD,cD,rfl,hD,hb3⟩)
        have hW3:=HWp.out.trans hb3
        go_upto_region 9 with (go_at_call 17;(with_reducible refine Calls.mono (P1.out _ _ _ hW3 hD.any) ?_);rintro e w4 ⟨rfl,hb4⟩)
        obtain ⟨w5,hw5⟩:∃ w5,w5=w4.alloc (.cells #[.int .i64 0,.int .i64 0] 44):=⟨_,rfl⟩
        have h45:Pr w4 w5:=by rw [hw5];exact Pr.alloc _ _
        have c5:=stays (show w5.cell? ⟨w4.heap.size,0,none⟩=some (.int .i64 0) by rw [hw5];simp [go_sem])
        rw [← hw5];clear hw5
        have hW5:=(hW3.trans hb4).trans h45
        go_upto_region 10 with (go_at_call 18;(with_reducible refine Calls.mono (R1.out _ hW5) ?_);rintro e w6 ⟨o6,c6,rfl,hd6,hb6⟩)
        obtain ⟨w7,hw7⟩:∃ w7,w7=w6.alloc (.cells #[.int .i64 0,.int .i64 0] 44):=⟨_,rfl⟩
        have h67:Pr w6 w7:=by rw [hw7];exact Pr.alloc _ _
        have c7:=stays (show w7.cell? ⟨w6.heap.size,0,none⟩=some (.int .i64 0) by rw [hw7];simp [go_sem])
        rw [← hw7];clear hw7
        have hW7:=(hW5.trans hb6).trans h67
        have y0:=s0 _ hW7;have y1:=s1 _ hW7
        have hd7:=Dees.any (hd6.pr h67)
        go_upto_region 11 with (go_at_call 19;(with_reducible refine Calls.mono (RU.out _ _ _ hW7 hd7) ?_);rintro e w8 ⟨⟨o8,c8,o9,c9,rfl,hk8⟩,hb8⟩)
        obtain ⟨w9,hw9⟩:∃ w9,w9=(w8.alloc (.cells #[.string m,.slice o8 js.length c8] 33)).alloc (.cells #[.int .i64 0,.int .i64 0] 44):=⟨_,rfl⟩
        have h89:Pr w8 w9:=by rw [hw9];exact (Pr.alloc _ _).alloc' _
        have q0:=stays (show w9.cell? ⟨w8.heap.size,0,none⟩=some (.string m) by rw [hw9];simp [go_sem])
        have q1:=stays (show w9.cell? ⟨w8.heap.size,1,none⟩=some (.slice o8 js.length c8) by rw [hw9];simp [go_sem])
        have q2:w9.cell? ⟨w8.heap.size+1,0,none⟩=some (.int .i64 0):=by rw [hw9];simp [go_sem]
        rw [← hw9];clear hw9
        have h79:=hb8.trans h89
        have hW9:=hW7.trans h79
        have c5':=c5 _ ((hb6.trans h67).trans h79)
        have c7':=c7 _ h79
        have SD2:=Lib.hid (SD.out w9 oD cD o6 c6 ((hD.any.pr ((hb4.trans h45).trans (hb6.trans h67))).pr h79) (hd7.pr h79))
        have HK8:=Lib.hid (hk8.pr h89)
        clear hd6 hd7 hk8 hD
        go_wp2_with (first
          | (go_at_call 20;(with_reducible refine Calls.mono SD2.out ?_);rintro e wa ⟨rfl,hba⟩;have g0:=q0 _ hba;have g1:=q1 _ hba;have g2:=s2 _ (hW9.trans hba);have g3:=s3 _ (hW9.trans hba))
          | (go_at_call 13;(with_reducible refine Calls.mono (S1.out _ _ _ (hW9.trans hba) (HK8.out.pr hba)) ?_);rintro e wb ⟨rfl,hbb⟩))
        go_ret
        exact ⟨by simp,HW.out.trans ((hW9.trans hba).trans hbb)⟩
end Go.Proofs.YtdbnfhpgmcjngadGreatDoor
