/- Walks: pleachingref.Do. -/
import Derived.Test.YtdbnfhpgmcjngacGreatBvd
import Derived.Test.YtdbnfhpgmcjngacGreatBeh
namespace Go.Proofs.YtdbnfhpgmcjngacGreat
open Go Go.RowKit
section
variable {ops:Array Oper} {o:Oper} {a:Act} {w:World} {Q:Exit→Act→World→Prop} {K:Act→World→Prop} {E:Prop}
theorem step_ints (hgd:o.guard=none) (s x:Operand) (ho:o.op=.call { callee:=.builtin .append,args:=#[s,x],argTypes:=#[23,23] })
    (b:Nat) (v:Value) (xs:List Int) (hs:a.eval s=v) (hown:OwnsIs b w v xs) (S:Nat→Prop) (ys:List Int) (ao:Option Addr) (c:Nat) (hx:a.eval x=.slice ao ys.length c) (hy:Ints S w ys ao c)
    (hlen:xs.length+ys.length≤1000000000) (hbase:b≤w.heap.size)
    (h:∀ v' w',OwnsIs b w' v' (xs ++ ys)→w.grownBy w' v.ownBlock→K (a.put o.dst v') w') :
    if Region.wanted o (yielded ops a.tmps)=true then Oper.wp Tryz.prog o a w K Q else E:=by
  obtain ⟨i0,hi,hz0,hz1,hz2⟩:=info_parts info_int
  by_cases hm:0 < ys.length
  · obtain ⟨_,b',o',h1,h2⟩:=hy
    have hne:ints ys≠[]:=by intro e;have:=congrArg List.length e;simp at this;subst this;simp at hm
    obtain ⟨rfl,-⟩:=h1 hne
    refine step_append_lies w hgd s x _ ho b _ i0 _ 1 8 under_intsT hi hz0 hz1 hz2 rfl (by omega) v xs.length (ints xs) hs hown ⟨b',o',none⟩ ys.length c (ints ys) hx (by simp) (fun j u hu=>by
      obtain ⟨hj,rfl⟩:=List.getElem?_eq_some_iff.1 hu
      rw [Addr.add_lit];exact h2 j hj) (by intro u hu;obtain ⟨y,_,rfl⟩:=List.mem_map.1 hu;rfl) hm (by unfold maxLen;omega) (by omega) hbase w.heap.size rfl ?_
    intro g cap w' k1 k2 k3 _
    refine h _ w' ?_ k2
    unfold OwnsIs
    rw [List.length_append]
    have:ints (xs ++ ys)=ints xs ++ ints ys:=by simp
    rw [this];exact k1
  · have hys:ys=[]:=List.eq_nil_of_length_eq_zero (by omega)
    subst hys
    have hw:Region.wanted o (yielded ops a.tmps)=true:=by simp [Region.wanted,hgd]
    rw [if_pos hw]
    have hrun:=run_append_zero (P:=Tryz.prog) (w:=w) b 23 o.type _ i0 1 under_intsT hi v xs.length (ints xs) hown ao c
    unfold Oper.wp execOp
    simp only [ho,resolve,invoke,builtin,Sem.run_bind,Sem.run_pure,Result.andThen_ok,List.map_toArray,List.map_cons,List.map_nil,hs,hx,List.length_nil,hrun]
    exact h v w (by rw [List.append_nil];exact hown) (World.grownBy.refl _ _)
end
theorem Flat.takeV {S:Nat→Prop} {w:World} {vs:List Value} {oa:Option Addr} {cap:Nat} (h:Flat S w vs oa cap) (k:Nat):Flat S w (vs.take k) oa cap:=by
  obtain ⟨⟨hc,hm⟩,b,o,h1,h2⟩:=h
  refine ⟨⟨by rw [List.length_take];omega,hm⟩,b,o,fun hn=>h1 (by intro e;subst e;simp at hn),fun i hi=>?_⟩
  rw [List.length_take] at hi
  rw [h2 i (by omega)];simp
theorem Chg.cellV {X:Nat→Prop} {w w1:World} (h:Chg X w w1) {b o:Nat} {v:Value} (hc:w.cell? ⟨b,o,none⟩=some v) (hX:¬ X b):w1.cell? ⟨b,o,none⟩=some v:=by
  have hb:b < w.heap.size:=by
    rcases Nat.lt_or_ge b w.heap.size with h' | h'
    · exact h'
    · simp [World.cell?,Array.getElem?_eq_none h'] at hc
  unfold World.cell? at hc ⊢
  rw [show (⟨b,o,none⟩:Addr).block=b from rfl] at *
  rw [h.block b hb hX];exact hc
theorem grown_nil {w w':World} (h:w.grownBy w' (Value.slice none 0 0).ownBlock):Pr w w':=⟨h.os,h.tape,h.output,h.size,fun k hk=>h.block k hk (by intro e;exact absurd e (by simp [Value.ownBlock]))⟩
def RDeedPostS (S0:Nat→Prop) (w:World) (t:Tr) (d:Dee) (e:Ending) (w':World):Prop :=
  ∃ l ks oa cap k p a m s bp bc c,doD t d=(.node l ks,⟨k,p,a,m,s⟩,c)∧l.size≤maxLen∧e=.returned (.tuple #[.agg #[.string l,.slice oa ks.length cap],.agg #[.int .i64 k,.slice bp p.length bc,.int .i64 a,.int .i64 m,.string s],.int .i64 (c:Nat)])∧Kids (fun j=>S0 j∨w.heap.size≤j) w' ks oa cap∧Ints (fun j=>S0 j∨w.heap.size≤j) w' p bp bc∧Pr w w'
theorem RDeedPostS.no {S0:Nat→Prop} {w w':World} {t:Tr} {d:Dee} {c:Nat} (h:doD t d=(Tr.zero,Dee.zero,c)) (hp:Pr w w') :
    RDeedPostS S0 w t d (.returned (.tuple #[.agg #[.string ⟨#[]⟩,.slice none 0 0],.agg #[.int .i64 0,.slice none 0 0,.int .i64 0,.int .i64 0,.string ⟨#[]⟩],.int .i64 (c:Nat)])) w' :=
  ⟨⟨#[]⟩,[],none,0,0,[],0,0,⟨#[]⟩,none,0,c,h,by simp [ByteArray.size],rfl,Kids.nil _ _ _ _ (Nat.zero_le _),Flat.nil _ _ _ _ (Nat.zero_le _),hp⟩
set_option maxRecDepth 100000 in
set_option maxHeartbeats 6400000 in
theorem rdoS_any (S0:Nat→Prop) (l:ByteArray) (ks:List Tr) (oa cap) (k:Int) (p:List Int) (a m:Int) (s:ByteArray) (pa pc) (w:World) (hl:l.size≤maxLen) (hk:Kids S0 w ks oa cap) (hs:s.size≤maxLen) (hp:Ints S0 w p pa pc) (hpl:p.length≤100000) :
    Calls Tryz.prog 14 #[.agg #[.string l,.slice oa ks.length cap],.agg #[.int .i64 k,.slice pa p.length pc,.int .i64 a,.int .i64 m,.string s]] w (RDeedPostS S0 w (.node l ks) ⟨k,p,a,m,s⟩):=by
  obtain ⟨W,hW⟩:∃ W,W=(((w.alloc (.cells #[.string l,.slice oa ks.length cap] 34)).alloc (.cells #[.int .i64 k,.slice pa p.length pc,.int .i64 a,.int .i64 m,.string s] 25)).alloc (.cells #[.string ⟨#[]⟩,.slice none 0 0] 34)).alloc (.cells #[.int .i64 0,.slice none 0 0,.int .i64 0,.int .i64 0,.string ⟨#[]⟩] 25):=⟨_,rfl⟩
  have hwW:Pr w W:=by rw [hW];exact (((Pr.alloc _ _).alloc' _).alloc' _).alloc' _
  have hWs:W.heap.size=w.heap.size+4:=by rw [hW];simp
  have s0:=stays (show W.cell? ⟨w.heap.size,0,none⟩=some (.string l) by rw [hW];simp [go_sem])
  have s1:=stays (show W.cell? ⟨w.heap.size,1,none⟩=some (.slice oa ks.length cap) by rw [hW];simp [go_sem])
  have d0:=stays (show W.cell? ⟨w.heap.size+1,0,none⟩=some (.int .i64 k) by rw [hW];simp [go_sem])
  have d1:=stays (show W.cell? ⟨w.heap.size+1,1,none⟩=some (.slice pa p.length pc) by rw [hW];simp [go_sem])
  have d2:=stays (show W.cell? ⟨w.heap.size+1,2,none⟩=some (.int .i64 a) by rw [hW];simp [go_sem])
  have d3:=stays (show W.cell? ⟨w.heap.size+1,3,none⟩=some (.int .i64 m) by rw [hW];simp [go_sem])
  have d4:=stays (show W.cell? ⟨w.heap.size+1,4,none⟩=some (.string s) by rw [hW];simp [go_sem])
  have hR4:W.heap[w.heap.size+2]? = some (.cells #[.string ⟨#[]⟩,.slice none 0 0] 34 (0,0)):=by
    rw [hW];exact (Pr.alloc _ _).blk (by simpa using heap_alloc_new ((w.alloc (.cells #[.string l,.slice oa ks.length cap] 34)).alloc (.cells #[.int .i64 k,.slice pa p.length pc,.int .i64 a,.int .i64 m,.string s] 25)) (.cells #[.string ⟨#[]⟩,.slice none 0 0] 34))
  have hR5:W.heap[w.heap.size+3]? = some (.cells #[.int .i64 0,.slice none 0 0,.int .i64 0,.int .i64 0,.string ⟨#[]⟩] 25 (0,0)):=by
    rw [hW];simpa using heap_alloc_new (((w.alloc (.cells #[.string l,.slice oa ks.length cap] 34)).alloc (.cells #[.int .i64 k,.slice pa p.length pc,.int .i64 a,.int .i64 m,.string s] 25)).alloc (.cells #[.string ⟨#[]⟩,.slice none 0 0] 34)) (.cells #[.int .i64 0,.slice none 0 0,.int .i64 0,.int .i64 0,.string ⟨#[]⟩] 25)
  have R:∀ W',Chg (fun k=>k≠w.heap.size+2∧k≠w.heap.size+3) W W'→(W'.cell? ⟨w.heap.size+2,0,none⟩=some (.string ⟨#[]⟩)∧W'.cell? ⟨w.heap.size+2,1,none⟩=some (.slice none 0 0)∧W'.frozen? ⟨w.heap.size+2,0,none⟩=false∧W'.frozen? ⟨w.heap.size+2,1,none⟩=false) ∧
      (W'.cell? ⟨w.heap.size+3,0,none⟩=some (.int .i64 0)∧W'.cell? ⟨w.heap.size+3,1,none⟩=some (.slice none 0 0)∧W'.cell? ⟨w.heap.size+3,2,none⟩=some (.int .i64 0)∧W'.cell? ⟨w.heap.size+3,3,none⟩=some (.int .i64 0)∧W'.cell? ⟨w.heap.size+3,4,none⟩=some (.string ⟨#[]⟩)) ∧
      (W'.frozen? ⟨w.heap.size+3,0,none⟩=false∧W'.frozen? ⟨w.heap.size+3,1,none⟩=false∧W'.frozen? ⟨w.heap.size+3,2,none⟩=false∧W'.frozen? ⟨w.heap.size+3,3,none⟩=false∧W'.frozen? ⟨w.heap.size+3,4,none⟩=false):=fun W' h=>by
    have h4:=h.blk hR4 (by simp)
    have h5:=h.blk hR5 (by simp)
    exact ⟨⟨blk_cell h4,blk_cell h4,blk_frozen h4,blk_frozen h4⟩,⟨blk_cell h5,blk_cell h5,blk_cell h5,blk_cell h5,blk_cell h5⟩,blk_frozen h5,blk_frozen h5,blk_frozen h5,blk_frozen h5,blk_frozen h5⟩
  have HR:=Lib.hid R
  have F1:=Lib.hid (fun W' (h:Pr W W')=>treeFault_any l ks oa cap W' hl (hk.any.pr (hwW.trans h)))
  have F2:=Lib.hid (fun W' (h:Pr W W')=>dfault_any k p a m s pa pc W' hs (Flat.pr (hwW.trans h) (Flat.any hp)))
  have HW:=Lib.hid hwW;have HWs:=Lib.hid hWs;have HK:=Lib.hid hk;have HP:=Lib.hid hp
  clear R hwW hWs hR4 hR5 hk hp
  by_cases ft:fault (.node l ks)=0
  case neg =>
    have hno:doD (.node l ks) ⟨k,p,a,m,s⟩=(Tr.zero,Dee.zero,fault (.node l ks)):=by unfold doD;rw [if_pos ft]
    have Hno:=Lib.hid hno
    have e1:((fault (.node l ks):Int) != 0)=true:=by simp [bne_iff_ne];omega
    clear hno
    generalize fault (.node l ks)=c at *
    go_enter Tryz.func14,Tryz.ntmps14
    go_upto_region 1 with fail
    rw [← hW];clear hW
    have x0:=s0 _ (Pr.refl _);have x1:=s1 _ (Pr.refl _)
    go_wp2_with (first
      | (go_at_call 26;(with_reducible refine Calls.mono (F1.out _ (Pr.refl _)) ?_);rintro e w1 ⟨rfl,hb⟩;obtain ⟨⟨q0,q1,q2,q3⟩,⟨q4,q5,q6,q7,q8⟩,q9,q10,q11,q12,q13⟩:=HR.out _ (hb.chg _);have hp:=HW.out.trans hb;clear hb))
    exact bodyPost_ret (v:=.tuple #[.agg #[.string ⟨#[]⟩,.slice none 0 0],.agg #[.int .i64 0,.slice none 0 0,.int .i64 0,.int .i64 0,.string ⟨#[]⟩],.int .i64 c]) (by simp [results,Tryz.results14,go_sem,q0,q1,q4,q5,q6,q7,q8]) rfl (RDeedPostS.no Hno.out (set5_pr _ _ _ _ _ ((hp.setCell (by simp;omega) _).setCell (by simp;omega) _) (by omega)))
  by_cases fd:dfault ⟨k,p,a,m,s⟩=0
  case neg =>
    have hno:doD (.node l ks) ⟨k,p,a,m,s⟩=(Tr.zero,Dee.zero,dfault ⟨k,p,a,m,s⟩):=by unfold doD;rw [if_neg (by simpa using ft),if_pos fd]
    have Hno:=Lib.hid hno
    rw [ft] at F1
    have e1:((dfault ⟨k,p,a,m,s⟩:Int) != 0)=true:=by simp [bne_iff_ne];omega
    clear hno ft
    generalize dfault ⟨k,p,a,m,s⟩=c at *
    go_enter Tryz.func14,Tryz.ntmps14
    go_upto_region 1 with fail
    rw [← hW];clear hW
    have x0:=s0 _ (Pr.refl _);have x1:=s1 _ (Pr.refl _)
    go_wp2_with (first
      | (go_at_call 26;(with_reducible refine Calls.mono (F1.out _ (Pr.refl _)) ?_);rintro e w1 ⟨rfl,hb⟩;have z0:=d0 _ hb;have z1:=d1 _ hb;have z2:=d2 _ hb;have z3:=d3 _ hb;have z4:=d4 _ hb)
      | (go_at_call 30;(with_reducible refine Calls.mono (F2.out _ hb) ?_);rintro e w2 ⟨rfl,hb2⟩;obtain ⟨⟨q0,q1,q2,q3⟩,⟨q4,q5,q6,q7,q8⟩,q9,q10,q11,q12,q13⟩:=HR.out _ ((hb.trans hb2).chg _);have hp:=HW.out.trans (hb.trans hb2);clear hb hb2))
    exact bodyPost_ret (v:=.tuple #[.agg #[.string ⟨#[]⟩,.slice none 0 0],.agg #[.int .i64 0,.slice none 0 0,.int .i64 0,.int .i64 0,.string ⟨#[]⟩],.int .i64 c]) (by simp [results,Tryz.results14,go_sem,q0,q1,q4,q5,q6,q7,q8]) rfl (RDeedPostS.no Hno.out (set5_pr _ _ _ _ _ ((hp.setCell (by simp;omega) _).setCell (by simp;omega) _) (by omega)))
  have hsz:=(fault_zero.1 ft).1
  rw [Tr.sz_node] at hsz
  obtain ⟨⟨f1,f3⟩,g1,g2,ha0,hm0,hp0,_⟩:=dfault_zero.1 fd
  have f1:1≤k:=f1;have f3:k≤3:=f3;have g2:k=2→s=⟨#[]⟩∧p≠[]:=g2;have ha0:0≤a:=ha0;have hm0:0≤m:=hm0;have hp0:∀ x∈p,0≤x:=hp0
  rw [ft] at F1
  rw [fd] at F2
  have RD:=Lib.hid fun (W':World) (h:Pr W W')=>rdone_any k p a m s pa p.length pc f1 f3 ha0 hm0 hs p hp0 (fun e=>(g2 e).2) (fun j=>S0 j∧j < w.heap.size) l ks oa cap pa pc W' hl (by omega) ((HK.out.mono (S':=fun j=>S0 j∧j < w.heap.size) (fun j h hj=>⟨h,hj⟩)).pr (HW.out.trans h)) (Flat.pr (HW.out.trans h) (Flat.any HP.out))
  have AT:=Lib.hid fun (W':World) (h:Pr W W')=>rat_any p Any l ks oa cap pa pc W' hl (HK.out.any.pr (HW.out.trans h)) (Flat.pr (HW.out.trans h) (Flat.any HP.out))
  obtain ⟨r,hr⟩:∃ r,r=doneT ⟨k,p,a,m,s⟩ p (.node l ks):=⟨_,rfl⟩
  rw [← hr] at RD
  have hdd:doD (.node l ks) ⟨k,p,a,m,s⟩=if r.2≠0 then (Tr.zero,Dee.zero,r.2) else if fault r.1≠0 then (Tr.zero,Dee.zero,fault r.1) else (r.1,backD (.node l ks) ⟨k,p,a,m,s⟩,0):=by
    unfold doD;rw [if_neg (by simpa using ft),if_neg (by simpa using fd),← hr]
  have Hdd:=Lib.hid hdd
  obtain ⟨rt,rc⟩:=r
  have Hdd:Hid (doD (.node l ks) ⟨k,p,a,m,s⟩=if rc≠0 then (Tr.zero,Dee.zero,rc) else if fault rt≠0 then (Tr.zero,Dee.zero,fault rt) else (rt,backD (.node l ks) ⟨k,p,a,m,s⟩,0)):=Hdd
  clear hr hdd ft fd g1 hp0
  go_enter Tryz.func14,Tryz.ntmps14
  go_upto_region 1 with fail
  rw [← hW];clear hW
  have x0:=s0 _ (Pr.refl _);have x1:=s1 _ (Pr.refl _)
  go_upto_region 8 with (first
    | (go_at_call 26;(with_reducible refine Calls.mono (F1.out _ (Pr.refl _)) ?_);rintro e w1 ⟨rfl,hb⟩;have z0:=d0 _ hb;have z1:=d1 _ hb;have z2:=d2 _ hb;have z3:=d3 _ hb;have z4:=d4 _ hb)
    | (go_at_call 30;(with_reducible refine Calls.mono (F2.out _ hb) ?_);rintro e w2 ⟨rfl,hb2⟩;have hp:=hb.trans hb2;have z0:=s0 _ hp;have z1:=s1 _ hp;have y0:=d0 _ hp;have y1:=d1 _ hp;have y2:=d2 _ hp;have y3:=d3 _ hp;have y4:=d4 _ hp)
    | (go_at_call 31;(with_reducible refine Calls.mono (RD.out _ hp) ?_);rintro e w3 ⟨rl,rk,ro,rcp,hre,hrl,rfl,hrk,hb3⟩))
  have hre:rt=.node rl rk:=hre
  obtain ⟨V,hV⟩:∃ V,V=w3.alloc (.cells #[.string rl,.slice ro rk.length rcp] 34):=⟨_,rfl⟩
  have hpV:Pr w3 V:=by rw [hV];exact Pr.alloc _ _
  have v0:=stays (show V.cell? ⟨w3.heap.size,0,none⟩=some (.string rl) by rw [hV];simp [go_sem])
  have v1:=stays (show V.cell? ⟨w3.heap.size,1,none⟩=some (.slice ro rk.length rcp) by rw [hV];simp [go_sem])
  have hWV:=(hp.trans hb3).trans hpV
  rw [← hV]
  have HWV:=Lib.hid hWV;have hws0:=hp.size;have Hrk:=Lib.hid ((hrk.mono (S':=fun j=>(S0 j∧j < w.heap.size)∨W.heap.size≤j) (fun j hj _=>hj.imp id (fun h=>by omega))).pr hpV);have Hrl:=Lib.hid hrl
  have hws:=HWs.out
  have hws2:=hp.size
  have hws3:=hb3.size
  subst hre
  clear hV hpV hrk hp hb3 z0 z1 z2 z3 z4 y0 y1 y2 y3 y4 x0 x1 hWV hrl
  by_cases hc:rc=0
  case neg =>
    have hno:doD (.node l ks) ⟨k,p,a,m,s⟩=(Tr.zero,Dee.zero,rc):=by rw [Hdd.out,if_pos hc]
    have Hno:=Lib.hid hno
    have e1:((rc:Int) != 0)=true:=by simp [bne_iff_ne];omega
    have e2:((rc:Int)==0)=false:=by simp;omega
    clear hno hc
    obtain ⟨⟨q0,q1,q2,q3⟩,⟨q4,q5,q6,q7,q8⟩,q9,q10,q11,q12,q13⟩:=HR.out _ (HWV.out.chg _)
    have hpf:=HW.out.trans HWV.out
    go_wp2_with fail
    exact bodyPost_ret (v:=.tuple #[.agg #[.string ⟨#[]⟩,.slice none 0 0],.agg #[.int .i64 0,.slice none 0 0,.int .i64 0,.int .i64 0,.string ⟨#[]⟩],.int .i64 rc]) (by simp [results,Tryz.results14,go_sem,q0,q1,q4,q5,q6,q7,q8]) rfl (RDeedPostS.no Hno.out (set5_pr _ _ _ _ _ ((hpf.setCell (by simp;omega) _).setCell (by simp;omega) _) (by omega)))
  case pos =>
    subst hc
    obtain ⟨c,hcc⟩:∃ c,c=fault (.node rl rk):=⟨_,rfl⟩
    have F3:Hid (∀ W',Pr V W'→Calls Tryz.prog 26 #[.agg #[.string rl,.slice ro rk.length rcp]] W' fun e w'=>e=.returned (.int .i64 (c:Nat))∧Pr W' w'):=Lib.hid fun W' h=>by
      rw [hcc];exact treeFault_any rl rk ro rcp W' Hrl.out (Hrk.out.any.pr h)
    have x0:=v0 _ (Pr.refl _);have x1:=v1 _ (Pr.refl _)
    by_cases hz:c=0
    case neg =>
      have hno:doD (.node l ks) ⟨k,p,a,m,s⟩=(Tr.zero,Dee.zero,c):=by rw [Hdd.out,if_neg (by simp),if_pos (by rw [← hcc];exact hz),hcc]
      have Hno:=Lib.hid hno
      have e1:((c:Int) != 0)=true:=by simp [bne_iff_ne];omega
      clear hno hz hcc
      go_wp2_with (go_at_call 26;(with_reducible refine Calls.mono (F3.out _ (Pr.refl _)) ?_);rintro e w4 ⟨rfl,hb4⟩;obtain ⟨⟨q0,q1,q2,q3⟩,⟨q4,q5,q6,q7,q8⟩,q9,q10,q11,q12,q13⟩:=HR.out _ ((HWV.out.trans hb4).chg _);have hpf:=HW.out.trans (HWV.out.trans hb4))
      exact bodyPost_ret (v:=.tuple #[.agg #[.string ⟨#[]⟩,.slice none 0 0],.agg #[.int .i64 0,.slice none 0 0,.int .i64 0,.int .i64 0,.string ⟨#[]⟩],.int .i64 c]) (by simp [results,Tryz.results14,go_sem,q0,q1,q4,q5,q6,q7,q8]) rfl (RDeedPostS.no Hno.out (set5_pr _ _ _ _ _ ((hpf.setCell (by simp;omega) _).setCell (by simp;omega) _) (by omega)))
    case pos =>
      have hyes:doD (.node l ks) ⟨k,p,a,m,s⟩=(.node rl rk,backD (.node l ks) ⟨k,p,a,m,s⟩,0):=by rw [Hdd.out,if_neg (by simp),if_neg (by rw [← hcc,hz];simp)]
      have Hyes:=Lib.hid hyes
      subst hz
      clear hyes hcc
      obtain ⟨xt,hxt⟩:∃ xt,xt=((Tr.node l ks).at? p).getD Tr.zero:=⟨_,rfl⟩
      have AT2:Hid (∀ W',Pr W W'→Calls Tryz.prog 32 #[.agg #[.string l,.slice oa ks.length cap],.slice pa p.length pc] W' fun e w'=>∃ l3 ks3 o3 c3 b3,xt=.node l3 ks3∧l3.size≤maxLen∧e=.returned (.tuple #[.agg #[.string l3,.slice o3 ks3.length c3],.bool b3])∧Kids Any w' ks3 o3 c3∧Pr W' w'):=Lib.hid fun W' h=>(AT.out W' h).mono fun e w' ⟨l3,ks3,o3,c3,h1,h2,h3,h4,h5⟩=>⟨l3,ks3,o3,c3,_,by rw [hxt];exact h1,h2,h3,h4,h5⟩
      have Hxt:=Lib.hid hxt
      clear hxt
      go_upto_region 13 with (first
        | (go_at_call 26;(with_reducible refine Calls.mono (F3.out _ (Pr.refl _)) ?_);rintro e w4 ⟨rfl,hb4⟩;have hp4:=HWV.out.trans hb4;have z0:=s0 _ hp4;have z1:=s1 _ hp4;have y1:=d1 _ hp4)
        | (go_at_call 32;(with_reducible refine Calls.mono (AT2.out _ hp4) ?_);rintro e w5 ⟨l3,ks3,o3,c3,b3,hx3,hl3,rfl,hk3,hb5⟩))
      obtain ⟨V6,hV6⟩:∃ V6,V6=(w5.alloc (.cells #[.string l3,.slice o3 ks3.length c3] 34)).alloc (.cells #[.int .i64 1,.slice pa p.length pc,.int .i64 0,.int .i64 0,.string l3] 25):=⟨_,rfl⟩
      have hp6:Pr w5 V6:=by rw [hV6];exact (Pr.alloc _ _).alloc' _
      have hB6:V6.heap[w5.heap.size+1]? = some (.cells #[.int .i64 1,.slice pa p.length pc,.int .i64 0,.int .i64 0,.string l3] 25 (0,0)):=by
        rw [hV6];simpa using heap_alloc_new (w5.alloc (.cells #[.string l3,.slice o3 ks3.length c3] 34)) (.cells #[.int .i64 1,.slice pa p.length pc,.int .i64 0,.int .i64 0,.string l3] 25)
      have h30:=stays (show V6.cell? ⟨w5.heap.size,0,none⟩=some (.string l3) by rw [hV6];simp [go_sem])
      have h31:=stays (show V6.cell? ⟨w5.heap.size,1,none⟩=some (.slice o3 ks3.length c3) by rw [hV6];simp [go_sem])
      have HpV6:=Lib.hid ((hb4.trans hb5).trans hp6)
      have hs5:=(hb4.trans hb5).size
      have y1:=d1 _ (HWV.out.trans (hb4.trans hb5))
      have y1b:=d1 (w5.alloc (.cells #[.string l3,.slice o3 ks3.length c3] 34)) ((HWV.out.trans (hb4.trans hb5)).alloc' _)
      go_upto_region 14 with fail
      rw [← hV6]
      have HW3:Hid (ks3.length≤9223372036854775807):=Lib.hid hk3.len
      have HB6:=Lib.hid hB6;have Hx3:=Lib.hid hx3
      have hVs3:w3.heap.size≤V.heap.size:=Nat.le_of_lt (lt_of_cell (v0 _ (Pr.refl _)))
      have HPW:=Lib.hid (Flat.mono (S':=fun j=>S0 j∧j < w.heap.size) (fun j h hj=>⟨h,hj⟩) HP.out)
      clear hV6 hB6 hp6 hb4 hb5 hp4 z0 z1 y1 y1b hx3 hk3 x0 x1
      have y0:=d0 _ (HWV.out.trans HpV6.out);have y1:=d1 _ (HWV.out.trans HpV6.out);have y2:=d2 _ (HWV.out.trans HpV6.out)
      have x30:=h30 _ (Pr.refl _);have x31:=h31 _ (Pr.refl _)
      have hk123:k=1∨k=2∨k=3:=by omega
      rcases hk123 with rfl | rfl | rfl
      · obtain ⟨wy,hwy⟩:∃ wy,wy=V6:=⟨_,rfl⟩
        subst hwy
        have HpY:=HpV6
        have HI:Hid (Ints (fun j=>(S0 j∧j < w.heap.size)∨W.heap.size≤j) wy p pa pc):=Lib.hid (Flat.pr (HW.out.trans (HWV.out.trans HpY.out)) (Flat.mono (fun j hj _=>.inl hj) HPW.out))
        have HBK:Hid (backD (.node l ks) ⟨1,p,a,m,s⟩=⟨1,p,0,0,l3⟩):=Lib.hid (by unfold backD;rw [if_neg (by show ¬ (1:Int)=2;decide),if_neg (by show ¬ (1:Int)=3;decide),← Hxt.out,Hx3.out];rfl)
        go_upto_region 20 with fail
        clear y0 y1 y2 x30 x31
        obtain ⟨⟨q0,q1,q2,q3⟩,⟨q4,q5,q6,q7,q8⟩,q9,q10,q11,q12,q13⟩:=HR.out wy ((HWV.out.trans HpY.out).chg _)
        have t0:=v0 _ HpY.out;have t1:=v1 _ HpY.out
        have j0:=blk_cell (o:=0) HB6.out;have j1:=blk_cell (o:=1) HB6.out;have j2:=blk_cell (o:=2) HB6.out;have j3:=blk_cell (o:=3) HB6.out;have j4:=blk_cell (o:=4) HB6.out
        have n0:w.heap.size+1+1≠w3.heap.size:=by omega
        have m0:w3.heap.size≠w.heap.size+1+1:=by omega
        have n1:w.heap.size+1+1+1≠w3.heap.size:=by omega
        have m1:w3.heap.size≠w.heap.size+1+1+1:=by omega
        have n2:w.heap.size+1+1≠w5.heap.size+1:=by omega
        have m2:w5.heap.size+1≠w.heap.size+1+1:=by omega
        have n3:w.heap.size+1+1+1≠w5.heap.size+1:=by omega
        have m3:w5.heap.size+1≠w.heap.size+1+1+1:=by omega
        have hpf:=HW.out.trans (HWV.out.trans HpY.out)
        have hkY:=Hrk.out.pr HpY.out
        have HkY:=Lib.hid hkY;have Hpf:=Lib.hid hpf
        clear hkY hpf
        go_region
        all_goals
          go_wp2_with fail
          have hkf:Kids (fun j=>S0 j∨w.heap.size≤j) (set5 ((wy.setCell ⟨w.heap.size+1+1,0,none⟩ (.string rl)).setCell ⟨w.heap.size+1+1,1,none⟩ (.slice ro rk.length rcp)) (w.heap.size+1+1+1) (.int .i64 1) (.slice pa p.length pc) (.int .i64 0) (.int .i64 0) (.string l3)).drew rk ro rcp :=
            ((((HkY.out.setCell _ _ (by rintro (⟨_,h⟩ | h) <;> (try dsimp only at h) <;> omega)).setCell _ _ (by rintro (⟨_,h⟩ | h) <;> (try dsimp only at h) <;> omega)).kept (set5_kept _ _ _ _ _ (by rintro (⟨_,h⟩ | h) <;> (try dsimp only at h) <;> omega))).mono (fun j hj _=>hj.imp And.left (fun h=>by have h':W.heap.size≤j:=h;have:=HWs.out;omega))).pr (Pr.drew _)
          have hif:Ints (fun j=>S0 j∨w.heap.size≤j) (set5 ((wy.setCell ⟨w.heap.size+1+1,0,none⟩ (.string rl)).setCell ⟨w.heap.size+1+1,1,none⟩ (.slice ro rk.length rcp)) (w.heap.size+1+1+1) (.int .i64 1) (.slice pa p.length pc) (.int .i64 0) (.int .i64 0) (.string l3)).drew p pa pc :=
            Flat.mono (fun j hj _=>hj.imp And.left (fun h=>by have h':W.heap.size≤j:=h;have:=HWs.out;omega)) (Flat.pr (Pr.drew _) (Flat.kept (set5_kept _ _ _ _ _ (by rintro (⟨_,h⟩ | h) <;> (try dsimp only at h) <;> omega)) (Flat.kept (kept_setCell _ _ _ _ (by rintro (⟨_,h⟩ | h) <;> (try dsimp only at h) <;> omega)) (Flat.kept (kept_setCell _ _ _ _ (by rintro (⟨_,h⟩ | h) <;> (try dsimp only at h) <;> omega)) HI.out))))
          exact bodyPost_ret (v:=.tuple #[.agg #[.string rl,.slice ro rk.length rcp],.agg #[.int .i64 1,.slice pa p.length pc,.int .i64 0,.int .i64 0,.string l3],.int .i64 ((0:Nat):Int)]) (by simp [results,Tryz.results14,go_sem,q0,q1,q4,q5,q6,q7,q8]) rfl
            ⟨rl,rk,ro,rcp,1,p,0,0,l3,pa,pc,0,by rw [Hyes.out,HBK.out],Hrl.out,rfl,hkf,hif,(set5_pr _ _ _ _ _ ((Hpf.out.setCell (by simp;omega) _).setCell (by simp;omega) _) (by omega)).drew'⟩
      · obtain ⟨hs0,hne⟩:=g2 rfl
        subst hs0
        clear g2
        obtain ⟨up,y,hpe⟩:∃ up y,p=up ++ [y]:=⟨p.dropLast,p.getLast hne,(List.dropLast_concat_getLast hne).symm⟩
        obtain ⟨n,hn⟩:∃ n,n=up.length:=⟨_,rfl⟩
        have hpn:p.length=n+1:=by rw [hpe,hn];simp
        have hup:ints up=(ints p).take n:=by rw [hpe,hn];simp [ints]
        have HI6:Hid (Ints (fun j=>S0 j∧j < w.heap.size) V6 p pa pc):=Lib.hid (Flat.pr (HW.out.trans (HWV.out.trans HpV6.out)) HPW.out)
        have HBK:Hid (backD (.node l ks) ⟨2,p,a,m,⟨#[]⟩⟩=⟨3,up,y,(ks3.length:Int),l3⟩):=Lib.hid (by
          unfold backD
          rw [if_pos (show (2:Int)=2 from rfl)]
          show (⟨3,p.dropLast,p.getLast?.getD 0,((((Tr.node l ks).at? p).getD Tr.zero).kids.length:Int),(((Tr.node l ks).at? p).getD Tr.zero).label⟩:Dee)=_
          rw [← Hxt.out,Hx3.out,hpe];simp [Tr.kids,Tr.label])
        have hIu:Ints (fun j=>S0 j∧j < w.heap.size) V6 up pa pc:=by
          have:=Flat.takeV HI6.out n;rw [← hup] at this;exact this
        obtain ⟨pb,po,hpa,hc0⟩:=HI6.out.get n (by simp [hpn])
        have hcell:V6.cell? ⟨pb,po+n,none⟩=some (.int .i64 y):=by rw [hc0];simp [hpe,hn]
        have hcap:n+1≤pc:=by have:=HI6.out.1.1;simp only [ints,List.length_map] at this;omega
        have hpc:pc≤9223372036854775807:=by have:=HI6.out.1.2;unfold maxLen at this;omega
        have hk3l:ks3.length≤9223372036854775807:=by have:=HW3.out;exact this
        have HIu:=Lib.hid hIu;have Hpe:=Lib.hid hpe;have Hn:=Lib.hid hn
        clear hIu hpe hn hup hne hc0
        rw [hpa,hpn] at y1
        have u1:IntKind.i64.wrap ((n:Int)+1 - 1)=(n:Int):=by rw [Int.add_sub_cancel];exact IntWalk.i64_in _ (by omega)
        have u2:IntKind.i64.wrap (n:Int)=(n:Int):=IntWalk.i64_in _ (by omega)
        have u3:IntKind.i64.wrap (ks3.length:Int)=(ks3.length:Int):=IntWalk.i64_in _ (by omega)
        have c1:(n:Int)≤(pc:Int):=by omega
        have c2:(0:Int)≤(n:Int):=by omega
        have c3:n < n+1:=by omega
        have c4:n≤pc:=by omega
        go_upto_region 16 with fail
        refine wp_region_quiet_tail 15 (by kernel_rfl) (by kernel_rfl) ?_
        simp only [List.take_succ_cons,List.take_zero,List.drop_succ_cons,List.drop_zero]
        repeat (go_big_quiet_step (fail))
        refine wpQuiet_nil ?_
        rintro _ ⟨nq,rfl⟩
        have qq:=HB6.out
        have k0:=blk_cell (o:=0) qq;have k1:=blk_cell (o:=1) qq;have k2:=blk_cell (o:=2) qq;have k3:=blk_cell (o:=3) qq;have k4:=blk_cell (o:=4) qq
        have z0:=blk_frozen (o:=0) qq;have z1:=blk_frozen (o:=1) qq;have z2:=blk_frozen (o:=2) qq;have z3:=blk_frozen (o:=3) qq;have z4:=blk_frozen (o:=4) qq
        go_upto_region 17 with fail
        clear qq k0 k1 k2 k3 k4 z0 z1 z2 z3 z4
        obtain ⟨wy,hwy⟩:∃ wy,wy=set5 (V6.drewN nq) (w5.heap.size+1) (.int .i64 3) (.slice (some ⟨pb,po,none⟩) n pc) (.int .i64 y) (.int .i64 ks3.length) (.string l3):=⟨_,rfl⟩
        have hpY:Pr V wy:=by rw [hwy];exact set5_pr _ _ _ _ _ (HpV6.out.trans (Pr.drewN _ _)) (by omega)
        have hB:wy.heap[w5.heap.size+1]? = some (.cells #[.int .i64 3,.slice (some ⟨pb,po,none⟩) n pc,.int .i64 y,.int .i64 ks3.length,.string l3] 25 (0,0)):=by rw [hwy];exact set5_blk _ _ _ _ _ ((Pr.drewN _ nq).blk HB6.out)
        have HI:Hid (Ints (fun j=>(S0 j∧j < w.heap.size)∨W.heap.size≤j) wy up (some ⟨pb,po,none⟩) pc):=by
          rw [hwy,← hpa];exact Lib.hid (Flat.mono (fun j hj _=>.inl hj) (Flat.kept (set5_kept _ _ _ _ _ (by rintro ⟨_,h⟩;(try dsimp only at h);omega)) (Flat.pr (Pr.drewN _ nq) HIu.out)))
        unfold set5 at hwy
        rw [← hwy]
        clear hwy HB6 hpa
        have HB6:=Lib.hid hB
        have HpY:=Lib.hid hpY
        clear hB hpY y0 y1 y2 x30 x31 hcell
        have y0:=d0 _ (HWV.out.trans HpY.out)
        go_upto_region 20 with fail
        clear y0
        obtain ⟨⟨q0,q1,q2,q3⟩,⟨q4,q5,q6,q7,q8⟩,q9,q10,q11,q12,q13⟩:=HR.out wy ((HWV.out.trans HpY.out).chg _)
        have t0:=v0 _ HpY.out;have t1:=v1 _ HpY.out
        have j0:=blk_cell (o:=0) HB6.out;have j1:=blk_cell (o:=1) HB6.out;have j2:=blk_cell (o:=2) HB6.out;have j3:=blk_cell (o:=3) HB6.out;have j4:=blk_cell (o:=4) HB6.out
        have n0:w.heap.size+1+1≠w3.heap.size:=by omega
        have m0:w3.heap.size≠w.heap.size+1+1:=by omega
        have n1:w.heap.size+1+1+1≠w3.heap.size:=by omega
        have m1:w3.heap.size≠w.heap.size+1+1+1:=by omega
        have n2:w.heap.size+1+1≠w5.heap.size+1:=by omega
        have m2:w5.heap.size+1≠w.heap.size+1+1:=by omega
        have n3:w.heap.size+1+1+1≠w5.heap.size+1:=by omega
        have m3:w5.heap.size+1≠w.heap.size+1+1+1:=by omega
        have hpf:=HW.out.trans (HWV.out.trans HpY.out)
        have hkY:=Hrk.out.pr HpY.out
        have HkY:=Lib.hid hkY;have Hpf:=Lib.hid hpf
        clear hkY hpf
        go_region
        all_goals
          go_wp2_with fail
          have hkf:Kids (fun j=>S0 j∨w.heap.size≤j) (set5 ((wy.setCell ⟨w.heap.size+1+1,0,none⟩ (.string rl)).setCell ⟨w.heap.size+1+1,1,none⟩ (.slice ro rk.length rcp)) (w.heap.size+1+1+1) (.int .i64 3) (.slice (some ⟨pb,po,none⟩) n pc) (.int .i64 y) (.int .i64 ks3.length) (.string l3)).drew rk ro rcp :=
            ((((HkY.out.setCell _ _ (by rintro (⟨_,h⟩ | h) <;> (try dsimp only at h) <;> omega)).setCell _ _ (by rintro (⟨_,h⟩ | h) <;> (try dsimp only at h) <;> omega)).kept (set5_kept _ _ _ _ _ (by rintro (⟨_,h⟩ | h) <;> (try dsimp only at h) <;> omega))).mono (fun j hj _=>hj.imp And.left (fun h=>by have h':W.heap.size≤j:=h;have:=HWs.out;omega))).pr (Pr.drew _)
          have hif:Ints (fun j=>S0 j∨w.heap.size≤j) (set5 ((wy.setCell ⟨w.heap.size+1+1,0,none⟩ (.string rl)).setCell ⟨w.heap.size+1+1,1,none⟩ (.slice ro rk.length rcp)) (w.heap.size+1+1+1) (.int .i64 3) (.slice (some ⟨pb,po,none⟩) n pc) (.int .i64 y) (.int .i64 ks3.length) (.string l3)).drew up (some ⟨pb,po,none⟩) pc :=
            Flat.mono (fun j hj _=>hj.imp And.left (fun h=>by have h':W.heap.size≤j:=h;have:=HWs.out;omega)) (Flat.pr (Pr.drew _) (Flat.kept (set5_kept _ _ _ _ _ (by rintro (⟨_,h⟩ | h) <;> (try dsimp only at h) <;> omega)) (Flat.kept (kept_setCell _ _ _ _ (by rintro (⟨_,h⟩ | h) <;> (try dsimp only at h) <;> omega)) (Flat.kept (kept_setCell _ _ _ _ (by rintro (⟨_,h⟩ | h) <;> (try dsimp only at h) <;> omega)) HI.out))))
          exact bodyPost_ret (v:=.tuple #[.agg #[.string rl,.slice ro rk.length rcp],.agg #[.int .i64 3,.slice (some ⟨pb,po,none⟩) n pc,.int .i64 y,.int .i64 ks3.length,.string l3],.int .i64 ((0:Nat):Int)]) (by simp [results,Tryz.results14,go_sem,q0,q1,q4,q5,q6,q7,q8]) rfl
            ⟨rl,rk,ro,rcp,3,up,y,ks3.length,l3,(some ⟨pb,po,none⟩),pc,0,by rw [Hyes.out,HBK.out],Hrl.out,(by rw [← Hn.out]),hkf,hif,(set5_pr _ _ _ _ _ ((Hpf.out.setCell (by simp;omega) _).setCell (by simp;omega) _) (by omega)).drew'⟩
      · have HI6:Hid (Ints (fun j=>S0 j∧j < w.heap.size) V6 p pa pc):=Lib.hid (Flat.pr (HW.out.trans (HWV.out.trans HpV6.out)) HPW.out)
        have HBK:Hid (backD (.node l ks) ⟨3,p,a,m,s⟩=⟨2,p ++ [a],0,0,⟨#[]⟩⟩):=Lib.hid (by
          unfold backD
          rw [if_neg (by show ¬ (3:Int)=2;decide),if_pos (show (3:Int)=3 from rfl)])
        go_upto_region 19 with fail
        have qq:=HB6.out
        have k0:=blk_cell (o:=0) qq;have k1:=blk_cell (o:=1) qq;have k2:=blk_cell (o:=2) qq;have k3:=blk_cell (o:=3) qq;have k4:=blk_cell (o:=4) qq
        have z0:=blk_frozen (o:=0) qq;have z1:=blk_frozen (o:=1) qq;have z2:=blk_frozen (o:=2) qq;have z3:=blk_frozen (o:=3) qq;have z4:=blk_frozen (o:=4) qq
        clear qq
        have hlt:=blk_lt HB6.out
        clear z0 z1 z2 z3 z4 k0 k1 k2 k3 k4
        go_region_held3 (fun W'=>W'.cell? ⟨w.heap.size+1,1,none⟩=some (.slice pa p.length pc)∧W'.cell? ⟨w.heap.size+1,2,none⟩=some (.int .i64 a)∧Chg (fun k=>k=w5.heap.size+1) V6 W')
          (first | with_reducible exact ⟨(Pr.drew V6).cell y1,(Pr.drew V6).cell y2,(Pr.drew V6).chg _⟩ | with_reducible exact ⟨(Pr.drew' (Pr.alloc _ _)).cell y1,(Pr.drew' (Pr.alloc _ _)).cell y2,(Pr.drew' (Pr.alloc _ _)).chg _⟩ | with_reducible exact ⟨hp9.cell y1,hp9.cell y2,hp9.chg _⟩ | with_reducible exact ⟨hp8.cell y1,hp8.cell y2,hp8.chg _⟩ | with_reducible exact ⟨(hp8.alloc' _).cell y1,(hp8.alloc' _).cell y2,(hp8.alloc' _).chg _⟩ | exact ⟨(set5_chg _ _ _ _ _ (hp9.chg _) (.inl rfl)).cellV y1 (by show ¬ (_=_);omega),(set5_chg _ _ _ _ _ (hp9.chg _) (.inl rfl)).cellV y2 (by show ¬ (_=_);omega),set5_chg _ _ _ _ _ (hp9.chg _) (.inl rfl)⟩)
          (first
          | ((refine step_ints rfl _ _ rfl V6.heap.size (.slice none 0 0) [] rfl (OwnsIs.nil _ _) (fun j=>S0 j∧j < w.heap.size) p pa pc rfl (show Ints _ V6.drew _ _ _ from Flat.pr (Pr.drew V6) HI6.out) (by simp;omega) (by simp) ?_);intro v8 w8 ho8 hg8;have hp8:Pr V6 w8:=Below.grown (Pr.drew V6) hg8 (by simp) (fun k hk=>((OwnsIs.nil V6.heap.size V6).block k hk).1);have qq:=hp8.blk HB6.out;have q0:=blk_cell (o:=0) qq;have q1:=blk_cell (o:=1) qq;have q2:=blk_cell (o:=2) qq;have q3:=blk_cell (o:=3) qq;have q4:=blk_cell (o:=4) qq;have g0:=blk_frozen (o:=0) qq;have g1:=blk_frozen (o:=1) qq;have g2:=blk_frozen (o:=2) qq;have g3:=blk_frozen (o:=3) qq;have g4:=blk_frozen (o:=4) qq;clear qq)
          | ((refine step_ints rfl _ _ rfl V6.heap.size (.slice none 0 0) [] rfl (OwnsIs.nil _ _) (fun j=>S0 j∧j < w.heap.size) p pa pc rfl (Flat.pr ((Pr.alloc V6 _).drew') HI6.out) (by simp;omega) (by simp) ?_);intro v8 w8 ho8 hg8;have hp8a:=grown_nil hg8;have hp8:Pr V6 w8:=((Pr.alloc _ _).drew').trans hp8a;have hbk:=hp8a.blk ((Pr.drew _).blk (heap_alloc_new V6 _));have qq:=hp8.blk HB6.out;have q0:=blk_cell (o:=0) qq;have q1:=blk_cell (o:=1) qq;have q2:=blk_cell (o:=2) qq;have q3:=blk_cell (o:=3) qq;have q4:=blk_cell (o:=4) qq;have g0:=blk_frozen (o:=0) qq;have g1:=blk_frozen (o:=1) qq;have g2:=blk_frozen (o:=2) qq;have g3:=blk_frozen (o:=3) qq;have g4:=blk_frozen (o:=4) qq;clear qq)
          | ((refine step_int rfl _ _ rfl V6.heap.size v8 ([] ++ p) rfl (ho8.pr (Pr.alloc _ _)) w8.heap.size rfl a (heap_alloc_new w8 _) (by simp;omega) (by have:=hp8.size;simp;omega) ?_);intro g9 c9 w9 ho9 hg9 hat9;have hp9:Pr V6 w9:=Below.grown (hp8.alloc' _) hg9 (by have:=hp8.size;simp;omega) (fun k hk=>(ho8.block k hk).1);have qq:=hp9.blk HB6.out;have q0:=blk_cell (o:=0) qq;have q1:=blk_cell (o:=1) qq;have q2:=blk_cell (o:=2) qq;have q3:=blk_cell (o:=3) qq;have q4:=blk_cell (o:=4) qq;have g0:=blk_frozen (o:=0) qq;have g1:=blk_frozen (o:=1) qq;have g2:=blk_frozen (o:=2) qq;have g3:=blk_frozen (o:=3) qq;have g4:=blk_frozen (o:=4) qq;clear qq)
          | ((refine step_int rfl _ _ rfl V6.heap.size v8 ([] ++ p) rfl ho8 V6.heap.size rfl a hbk (by simp;omega) hp8.size ?_);intro g9 c9 w9 ho9 hg9 hat9;have hp9:Pr V6 w9:=Below.grown hp8 hg9 hp8.size (fun k hk=>(ho8.block k hk).1);have qq:=hp9.blk HB6.out;have q0:=blk_cell (o:=0) qq;have q1:=blk_cell (o:=1) qq;have q2:=blk_cell (o:=2) qq;have q3:=blk_cell (o:=3) qq;have q4:=blk_cell (o:=4) qq;have g0:=blk_frozen (o:=0) qq;have g1:=blk_frozen (o:=1) qq;have g2:=blk_frozen (o:=2) qq;have g3:=blk_frozen (o:=3) qq;have g4:=blk_frozen (o:=4) qq;clear qq))
        all_goals
          go_upto_region 20 with fail
          have ho9':OwnsIs V6.heap.size w9 (.slice (some ⟨g9,0,none⟩) (p.length+1) c9) (p ++ [a]):=by simpa using ho9
          obtain ⟨wy,hwy⟩:∃ wy,wy=set5 w9 (w5.heap.size+1) (.int .i64 2) (.slice (some ⟨g9,0,none⟩) (p.length+1) c9) (.int .i64 0) (.int .i64 0) (.string ⟨#[]⟩):=⟨_,rfl⟩
          have hpY:Pr V wy:=by rw [hwy];exact set5_pr _ _ _ _ _ (HpV6.out.trans hp9) (by omega)
          have hB:wy.heap[w5.heap.size+1]? = some (.cells #[.int .i64 2,.slice (some ⟨g9,0,none⟩) (p.length+1) c9,.int .i64 0,.int .i64 0,.string ⟨#[]⟩] 25 (0,0)):=by rw [hwy];exact set5_blk _ _ _ _ _ (hp9.blk HB6.out)
          have HI:Hid (Ints (fun j=>(S0 j∧j < w.heap.size)∨W.heap.size≤j) wy (p ++ [a]) (some ⟨g9,0,none⟩) c9):=by
            obtain ⟨oa9,cp9,he9,hi9⟩:=ho9'.ints
            simp only [Value.slice.injEq] at he9
            obtain ⟨rfl,_,rfl⟩:=he9
            rw [hwy];exact Lib.hid (Flat.mono (fun j hj _=>.inr (by have:V6.heap.size≤j:=hj;omega)) (Flat.kept (set5_kept _ _ _ _ _ (by show ¬ (V6.heap.size≤_);omega)) hi9))
          unfold set5 at hwy
          rw [← hwy]
          clear hwy HB6 q0 q1 q2 q3 q4 g0 g1 g2 g3 g4
          have HB6:=Lib.hid hB
          have HpY:=Lib.hid hpY
          clear hB hpY y0 y1 y2 x30 x31
          obtain ⟨⟨q0,q1,q2,q3⟩,⟨q4,q5,q6,q7,q8⟩,q9,q10,q11,q12,q13⟩:=HR.out wy ((HWV.out.trans HpY.out).chg _)
          have t0:=v0 _ HpY.out;have t1:=v1 _ HpY.out
          have j0:=blk_cell (o:=0) HB6.out;have j1:=blk_cell (o:=1) HB6.out;have j2:=blk_cell (o:=2) HB6.out;have j3:=blk_cell (o:=3) HB6.out;have j4:=blk_cell (o:=4) HB6.out
          have n0:w.heap.size+1+1≠w3.heap.size:=by omega
          have m0:w3.heap.size≠w.heap.size+1+1:=by omega
          have n1:w.heap.size+1+1+1≠w3.heap.size:=by omega
          have m1:w3.heap.size≠w.heap.size+1+1+1:=by omega
          have n2:w.heap.size+1+1≠w5.heap.size+1:=by omega
          have m2:w5.heap.size+1≠w.heap.size+1+1:=by omega
          have n3:w.heap.size+1+1+1≠w5.heap.size+1:=by omega
          have m3:w5.heap.size+1≠w.heap.size+1+1+1:=by omega
          have hpf:=HW.out.trans (HWV.out.trans HpY.out)
          have hkY:=Hrk.out.pr HpY.out
          have HkY:=Lib.hid hkY;have Hpf:=Lib.hid hpf
          clear hkY hpf
          go_region
          all_goals
            go_wp2_with fail
            have hkf:Kids (fun j=>S0 j∨w.heap.size≤j) (set5 ((wy.setCell ⟨w.heap.size+1+1,0,none⟩ (.string rl)).setCell ⟨w.heap.size+1+1,1,none⟩ (.slice ro rk.length rcp)) (w.heap.size+1+1+1) (.int .i64 2) (.slice (some ⟨g9,0,none⟩) (p.length+1) c9) (.int .i64 0) (.int .i64 0) (.string ⟨#[]⟩)).drew rk ro rcp :=
              ((((HkY.out.setCell _ _ (by rintro (⟨_,h⟩ | h) <;> (try dsimp only at h) <;> omega)).setCell _ _ (by rintro (⟨_,h⟩ | h) <;> (try dsimp only at h) <;> omega)).kept (set5_kept _ _ _ _ _ (by rintro (⟨_,h⟩ | h) <;> (try dsimp only at h) <;> omega))).mono (fun j hj _=>hj.imp And.left (fun h=>by have h':W.heap.size≤j:=h;have:=HWs.out;omega))).pr (Pr.drew _)
            have hif:Ints (fun j=>S0 j∨w.heap.size≤j) (set5 ((wy.setCell ⟨w.heap.size+1+1,0,none⟩ (.string rl)).setCell ⟨w.heap.size+1+1,1,none⟩ (.slice ro rk.length rcp)) (w.heap.size+1+1+1) (.int .i64 2) (.slice (some ⟨g9,0,none⟩) (p.length+1) c9) (.int .i64 0) (.int .i64 0) (.string ⟨#[]⟩)).drew (p ++ [a]) (some ⟨g9,0,none⟩) c9 :=
              Flat.mono (fun j hj _=>hj.imp And.left (fun h=>by have h':W.heap.size≤j:=h;have:=HWs.out;omega)) (Flat.pr (Pr.drew _) (Flat.kept (set5_kept _ _ _ _ _ (by rintro (⟨_,h⟩ | h) <;> (try dsimp only at h) <;> omega)) (Flat.kept (kept_setCell _ _ _ _ (by rintro (⟨_,h⟩ | h) <;> (try dsimp only at h) <;> omega)) (Flat.kept (kept_setCell _ _ _ _ (by rintro (⟨_,h⟩ | h) <;> (try dsimp only at h) <;> omega)) HI.out))))
            exact bodyPost_ret (v:=.tuple #[.agg #[.string rl,.slice ro rk.length rcp],.agg #[.int .i64 2,.slice (some ⟨g9,0,none⟩) (p.length+1) c9,.int .i64 0,.int .i64 0,.string ⟨#[]⟩],.int .i64 ((0:Nat):Int)]) (by simp [results,Tryz.results14,go_sem,q0,q1,q4,q5,q6,q7,q8]) rfl
              ⟨rl,rk,ro,rcp,2,(p ++ [a]),0,0,⟨#[]⟩,(some ⟨g9,0,none⟩),c9,0,by rw [Hyes.out,HBK.out],Hrl.out,(by rw [List.length_append];rfl),hkf,hif,(set5_pr _ _ _ _ _ ((Hpf.out.setCell (by simp;omega) _).setCell (by simp;omega) _) (by omega)).drew'⟩
end Go.Proofs.YtdbnfhpgmcjngacGreat
