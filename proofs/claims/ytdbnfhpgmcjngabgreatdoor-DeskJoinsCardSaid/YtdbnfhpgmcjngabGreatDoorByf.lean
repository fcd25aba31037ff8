/- Walks: script.Diff. -/
import Derived.Test.YtdbnfhpgmcjngabGreatDoorBya
import Derived.Test.YtdbnfhpgmcjngabGreatDoorByc
import Derived.Test.YtdbnfhpgmcjngabGreatDoorYe
import Derived.Test.YtdbnfhpgmcjngabGreatDoorBdj
import Derived.Test.YtdbnfhpgmcjngabGreatDoorBdf
import Derived.Deep.DeepCutAuto
import Derived.Test.YtdbnfhpgmcjngabGreatDoorBds
import Derived.Test.YtdbnfhpgmcjngabGreatDoorBwa
namespace Go.Proofs.YtdbnfhpgmcjngabGreatDoor
open Go Go.RowKit
theorem restZ_gone1 (P:List (Nat × Nat)) (n:Nat):restZ (fun i=>(zp P).any fun p=>p.1==(i:Int)) n=(goneL (P.map (·.1)) n).map Int.ofNat:=by
  unfold restZ goneL
  congr 1
  refine List.filter_congr fun i _=>?_
  rw [Bool.eq_iff_iff]
  simp [zp]
  constructor
  · intro h x hx;exact h i x hx rfl
  · intro h a b hab e
    have:a=i:=by omega
    subst this;exact h b hab
theorem restZ_gone2 (P:List (Nat × Nat)) (n:Nat):restZ (fun i=>(zp P).any fun p=>p.2==(i:Int)) n=(goneL (P.map (·.2)) n).map Int.ofNat:=by
  unfold restZ goneL
  congr 1
  refine List.filter_congr fun i _=>?_
  rw [Bool.eq_iff_iff]
  simp [zp]
  constructor
  · intro h x hx;exact h x i hx rfl
  · intro h a b hab e
    have:b=i:=by omega
    subst this;exact h a hab
theorem goneL_le (K:List Nat) (n:Nat):(goneL K n).length≤n:=by
  unfold goneL
  have:=List.length_filter_le (fun i=>decide (i ∉ K)) (List.range' 0 n)
  rw [List.length_range'] at this;exact this
theorem goneL_root {t:Tr} {K:List Nat} (hr:t.sz - 1∈K):∀ n∈goneL K t.sz,n+1 < t.sz:=fun n hn=>by
  rw [mem_goneL] at hn
  have:n≠t.sz - 1:=fun e=>hn.2 (e ▸ hr)
  omega
def DiffPost (w:World) (a b:Tr) (e:Ending) (w':World):Prop:=∃ oa cap,e=.returned (.tuple #[.slice oa (diffP a b (bestT a b)).length cap,.int .i64 0])∧Dees (From w.heap.size) w' (diffP a b (bestT a b)) oa cap∧Pr w w'
def LessPost (w:World) (T:Tr) (D U:List Dee) (e:Ending) (w':World):Prop :=
  ∃ l ks oa cap o7 c7 o8 c8,T=.node l ks∧l.size≤maxLen∧e=.returned (.tuple #[.agg #[.string l,.slice oa ks.length cap],.slice o7 D.length c7,.slice o8 U.length c8])∧Kids (From w.heap.size) w' ks oa cap∧Dees (From w.heap.size) w' D o7 c7∧Dees (From w.heap.size) w' U o8 c8∧Pr w w'
def LessOk (V:World) (T:Tr) (D U:List Dee) (v1 v2 v3:Value) (w':World):Prop:=∃ B l ks oa cap o7 c7 o8 c8,v1=.pointer (some ⟨B,0,none⟩)∧v2=.slice o7 D.length c7∧v3=.slice o8 U.length c8 ∧
  w'.heap[B]? = some (.cells #[.string l,.slice oa ks.length cap] 46 (0,0))∧T=.node l ks∧l.size≤maxLen∧Kids (From V.heap.size) w' ks oa cap∧Dees (From V.heap.size) w' D o7 c7∧Dees (From V.heap.size) w' U o8 c8∧Pr V w'
theorem LessOk.mk' {V w5 w6:World} {T:Tr} {D U:List Dee} {l:ByteArray} {ks:List Tr} {oa cap o7 c7 o8 c8} (base B:Nat) (hT:T=.node l ks) (hl:l.size≤maxLen) (hk:Kids (From base) w5 ks oa cap) (h7:Dees (From base) w5 D o7 c7) (h8:Dees (From base) w5 U o8 c8)
    (hp:Pr V w5) (hbase:V.heap.size≤base) (hVB:V.heap.size≤B) (hne:∀ j,base≤j→j < w5.heap.size→j≠B) (hch:Chg (fun k=>k=B) w5 w6) (hB:w6.heap[B]? = some (.cells #[.string l,.slice oa ks.length cap] 46 (0,0))) :
    LessOk V T D U (.pointer (some ⟨B,0,none⟩)) (.slice o7 D.length c7) (.slice o8 U.length c8) w6 :=
  have hc:∀ j,From base j→j < w5.heap.size→w6.heap[j]? = w5.heap[j]? ∧ From V.heap.size j:=fun j (hj:base≤j) hl=>⟨hch.block j hl (hne j hj hl),show V.heap.size≤j by omega⟩
  ⟨B,l,ks,oa,cap,o7,c7,o8,c8,rfl,rfl,rfl,hB,hT,hl,hk.carry hc,h7.carry hc,h8.carry hc,((hp.chg (fun k=>k=B)).trans hch (fun _ h=>.inl h)).to_pr (fun k hk=>hk ▸ hVB)⟩
set_option maxRecDepth 100000 in
set_option maxHeartbeats 6400000 in
theorem diff_yes (l:ByteArray) (ks:List Tr) (oa cap) (m:ByteArray) (js:List Tr) (ob cbp) (w:World) (hl:l.size≤maxLen) (hk:Kids Any w ks oa cap) (hm:m.size≤maxLen) (hj:Kids Any w js ob cbp)
    (fa:fault (.node l ks)=0) (fb:fault (.node m js)=0) :
    Calls Tryz.prog 64 #[.agg #[.string l,.slice oa ks.length cap],.agg #[.string m,.slice ob js.length cbp]] w (DiffPost w (.node l ks) (.node m js)):=by
  have hmf:∀ (fn:Fn) (first cap:Array Value) (w:World),(Instr.makeFunc fn first cap).run Tryz.prog w=.ok (.func fn first cap) w:=fun _ _ _ _=>rfl
  have hsa:(Tr.node l ks).sz≤40:=(fault_zero.1 fa).1
  have hsb:(Tr.node m js).sz≤40:=(fault_zero.1 fb).1
  obtain ⟨W,hW⟩:∃ W,W=(w.alloc (.cells #[.string l,.slice oa ks.length cap] 46)).alloc (.cells #[.string m,.slice ob js.length cbp] 46):=⟨_,rfl⟩
  have hwW:Pr w W:=by rw [hW];exact (Pr.alloc _ _).alloc' _
  have s0:=stays (show W.cell? ⟨w.heap.size,0,none⟩=some (.string l) by rw [hW];simp [go_sem])
  have s1:=stays (show W.cell? ⟨w.heap.size,1,none⟩=some (.slice oa ks.length cap) by rw [hW];simp [go_sem])
  have s2:=stays (show W.cell? ⟨w.heap.size+1,0,none⟩=some (.string m) by rw [hW];simp [go_sem])
  have s3:=stays (show W.cell? ⟨w.heap.size+1,1,none⟩=some (.slice ob js.length cbp) by rw [hW];simp [go_sem])
  obtain ⟨na,hna⟩:∃ na,na=nds (.node l ks):=⟨_,rfl⟩
  obtain ⟨nb,hnb⟩:∃ nb,nb=nds (.node m js):=⟨_,rfl⟩
  obtain ⟨P,hP⟩:∃ P,P=bestT (.node l ks) (.node m js):=⟨_,rfl⟩
  obtain ⟨zs,hzs⟩:∃ zs,zs=zp P:=⟨_,rfl⟩
  have hla:na.length=(Tr.node l ks).sz:=by rw [hna,nds_length]
  have hlb:nb.length=(Tr.node m js).sz:=by rw [hnb,nds_length]
  have T1:=Lib.hid (distOf_yes l ks oa cap m js ob cbp W hl (hk.pr hwW) hm (hj.pr hwW) fa fb)
  have N1:=Lib.hid fun W' B (h:TblOk W' B na nb)=>nodes_any na nb B W' h (by omega) (by omega)
  have B1:Hid (∀ W' B,TblOk W' B na nb→Calls Tryz.prog 98 #[.pointer (some ⟨B,0,none⟩)] W' (PsPost W' zs)):=Lib.hid fun W' B h=>by
    rw [hna,hnb] at h;rw [hzs,hP];exact best_nds _ _ B W' h fa fb
  rw [← hna,← hnb] at T1
  have hroot:((Tr.node l ks).sz - 1,(Tr.node m js).sz - 1)∈P:=by rw [hP];unfold bestT;simp
  have r1:(Tr.node l ks).sz - 1∈P.map (·.1):=List.mem_map.2 ⟨_,hroot,rfl⟩
  have r2:(Tr.node m js).sz - 1∈P.map (·.2):=List.mem_map.2 ⟨_,hroot,rfl⟩
  have hform:bare (lessT (.node l ks) (P.map (·.1)))=bare (lessT (.node m js) (P.map (·.2))):=by
    rw [hP] at hroot ⊢
    obtain ⟨h1,hg,_⟩:=bestT_good (.node l ks) (.node m js)
    exact less_form hg h1 hroot
  unfold DiffPost
  rw [← hP]
  obtain ⟨LA,hLA⟩:∃ L,L=goneL (P.map (·.1)) (Tr.node l ks).sz:=⟨_,rfl⟩
  obtain ⟨LB,hLB⟩:∃ L,L=goneL (P.map (·.2)) (Tr.node m js).sz:=⟨_,rfl⟩
  obtain ⟨TA,hTA⟩:∃ T,T=prune (inL LA) (.node l ks):=⟨_,rfl⟩
  obtain ⟨TB,hTB⟩:∃ T,T=prune (inL LB) (.node m js):=⟨_,rfl⟩
  obtain ⟨DA,hDA⟩:∃ D,D=delL (.node l ks) [] LA:=⟨_,rfl⟩
  obtain ⟨DB,hDB⟩:∃ D,D=delL (.node m js) [] LB:=⟨_,rfl⟩
  obtain ⟨UA,hUA⟩:∃ D,D=undoL (.node l ks) LA:=⟨_,rfl⟩
  obtain ⟨UB,hUB⟩:∃ D,D=undoL (.node m js) LB:=⟨_,rfl⟩
  obtain ⟨NL,hNL⟩:∃ D,D=namesL TA (nds TA) (nds TB) (List.range' 0 TA.sz):=⟨_,rfl⟩
  have hdiff:diffP (.node l ks) (.node m js) P=DA ++ (NL ++ UB):=by rw [hDA,hNL,hUB,hTA,hTB,hLA,hLB];rfl
  have hszT:TA.sz=TB.sz:=by rw [← bare_sz TA,← bare_sz TB,hTA,hTB,hLA,hLB];exact congrArg Tr.sz hform
  have fTA:fault TA=0:=by rw [hTA];exact prune_fault _ fa
  have fTB:fault TB=0:=by rw [hTB];exact prune_fault _ fb
  have hlAl:LA.length≤40:=by rw [hLA];have:=goneL_le (P.map (·.1)) (Tr.node l ks).sz;omega
  have hlBl:LB.length≤40:=by rw [hLB];have:=goneL_le (P.map (·.2)) (Tr.node m js).sz;omega
  have hlen:(DA ++ (NL ++ UB)).length≤1000:=by
    have h1:DA.length≤40:=by rw [hDA,delL_length];exact hlAl
    have h2:NL.length≤40:=by rw [hNL];have:=namesL_le TA (nds TA) (nds TB) TA.sz;have:=(fault_zero.1 fTA).1;omega
    have h3:UB.length≤40:=by
      have h:=runGo_length (undo_ok fb r2)
      rw [delL_length] at h
      rw [hUB,hLB];simp only [] at h;rw [h,← hLB];exact hlBl
    simp;omega
  obtain ⟨FL,hFL⟩:∃ FL,FL=DA ++ (NL ++ UB):=⟨_,rfl⟩
  rw [hdiff,← hFL]
  rw [← hFL] at hlen
  have RA:=Lib.hid fun W' C bo bc (hp:Prs Any W' zs bo bc) (hc:W'.cell? ⟨C,0,none⟩=some (.slice bo zs.length bc))=>rest_any (fun i=>zs.any fun p=>p.1==(i:Int)) 99 [.pointer (some ⟨C,0,none⟩)] na.length (by omega) W' dA_run (fun i wr _ h=>dA_any zs bo bc i C wr (hp.pr h) (h.cell hc))
  have RB:=Lib.hid fun W' C bo bc (hp:Prs Any W' zs bo bc) (hc:W'.cell? ⟨C,0,none⟩=some (.slice bo zs.length bc))=>rest_any (fun i=>zs.any fun p=>p.2==(i:Int)) 102 [.pointer (some ⟨C,0,none⟩)] nb.length (by omega) W' dB_run (fun i wr _ h=>dB_any zs bo bc i C wr (hp.pr h) (h.cell hc))
  have e1:restZ (fun i=>zs.any fun p=>p.1==(i:Int)) na.length=LA.map Int.ofNat:=by rw [hzs,restZ_gone1,hla,hLA]
  have e2:restZ (fun i=>zs.any fun p=>p.2==(i:Int)) nb.length=LB.map Int.ofNat:=by rw [hzs,restZ_gone2,hlb,hLB]
  obtain ⟨xa,hxa⟩:∃ xa,xa=LA.map Int.ofNat:=⟨_,rfl⟩
  obtain ⟨xb,hxb⟩:∃ xb,xb=LB.map Int.ofNat:=⟨_,rfl⟩
  rw [e1,← hxa] at RA;rw [e2,← hxb] at RB
  have WA:Hid (∀ W' ob' cb' og cg,Pr w W'→Nds Any W' na ob' cb'→Ints Any W' xa og cg→Calls Tryz.prog 104 #[.agg #[.string l,.slice oa ks.length cap],.slice ob' na.length cb',.slice og xa.length cg] W' (LessPost W' TA DA UA)):=Lib.hid fun W' ob' cb' og cg h hn hx=>by
    rw [hTA,hDA,hUA]
    exact (without_any l ks oa cap na hna ob' cb' LA xa hxa og cg W' hl fa (hk.pr h) hn hx (by rw [hLA];exact goneL_sorted _ _) (by rw [hLA];exact goneL_root r1) (by omega)).mono fun _ _ h=>h
  have WB:Hid (∀ W' ob' cb' og cg,Pr w W'→Nds Any W' nb ob' cb'→Ints Any W' xb og cg→Calls Tryz.prog 104 #[.agg #[.string m,.slice ob js.length cbp],.slice ob' nb.length cb',.slice og xb.length cg] W' (LessPost W' TB DB UB)):=Lib.hid fun W' ob' cb' og cg h hn hx=>by
    rw [hTB,hDB,hUB]
    exact (without_any m js ob cbp nb hnb ob' cb' LB xb hxb og cg W' hm fb (hj.pr h) hn hx (by rw [hLB];exact goneL_sorted _ _) (by rw [hLB];exact goneL_root r2) (by omega)).mono fun _ _ h=>h
  have NM:Hid (∀ W' l1 k1 o1 c1 l2 k2 o2 c2,TA=.node l1 k1→TB=.node l2 k2→l1.size≤maxLen→Kids Any W' k1 o1 c1→l2.size≤maxLen→Kids Any W' k2 o2 c2→Calls Tryz.prog 107 #[.agg #[.string l1,.slice o1 k1.length c1],.agg #[.string l2,.slice o2 k2.length c2]] W' (DeesPost W' NL)):=Lib.hid fun W' l1 k1 o1 c1 l2 k2 o2 c2 h1 h2 g1 g2 g3 g4=>by
    rw [hNL,h1,h2]
    exact names_any l1 k1 o1 c1 l2 k2 o2 c2 W' g1 g2 g3 g4 (h1 ▸ fTA) (h2 ▸ fTB) (by rw [← h1,← h2];exact hszT)
  have HW:=Lib.hid hwW;have Hlen:=Lib.hid hlen;have HFL:=Lib.hid hFL
  have Hla:=Lib.hid hla;have Hlb:=Lib.hid hlb
  clear hwW hk hj hna hnb hP hzs hla hlb hroot r1 r2 hform e1 e2 fa fb hLA hLB hTA hTB hDA hDB hUA hUB hNL hdiff hszT fTA fTB hlAl hlBl hlen hxa hxb hFL
  go_enter Tryz.func64,Tryz.ntmps64
  go_upto_region 1 with fail
  rw [← hW];clear hW
  have x0:=s0 _ (Pr.refl _);have x1:=s1 _ (Pr.refl _);have x2:=s2 _ (Pr.refl _);have x3:=s3 _ (Pr.refl _)
  go_upto_region 8 with (first
    | (go_at_call 65;(with_reducible refine Calls.mono T1.out ?_);rintro e w1 ⟨B,rfl,ht,hb1⟩)
    | (go_at_call 97;(with_reducible refine Calls.mono (N1.out _ _ ht) ?_);rintro e w2 ⟨oN,cN,oM,cM,rfl,hn,hn',hb2⟩)
    | (go_at_call 98;(with_reducible refine Calls.mono (B1.out _ _ (ht.pr hb2)) ?_);rintro e w3 ⟨v3,rfl,hbe,hb3⟩;obtain ⟨bo,bc,rfl,hprs⟩:=hbe.prs))
  obtain ⟨V,hV⟩:∃ V,V=w3.alloc (.cells #[.slice bo zs.length bc] 149):=⟨_,rfl⟩
  have hpV:Pr w3 V:=by rw [hV];exact Pr.alloc _ _
  have hC:V.cell? ⟨w3.heap.size,0,none⟩=some (.slice bo zs.length bc):=by rw [hV];simp [go_sem]
  have hWV:Pr W V:=((hb1.trans hb2).trans hb3).trans hpV
  have hwV:Pr w V:=HW.out.trans hWV
  have RA2:=Lib.hid fun u (h:Pr V u)=>RA.out u w3.heap.size bo bc ((hprs.any.pr hpV).pr h) (h.cell hC)
  have RB2:=Lib.hid fun u (h:Pr V u)=>RB.out u w3.heap.size bo bc ((hprs.any.pr hpV).pr h) (h.cell hC)
  have WA2:=Lib.hid fun u og cg (h:Pr V u) (hx:Ints Any u xa og cg)=>WA.out u oN cN og cg (hwV.trans h) (((hn.pr hb3).pr hpV).pr h) hx
  have WB2:=Lib.hid fun u og cg (h:Pr V u) (hx:Ints Any u xb og cg)=>WB.out u oM cM og cg (hwV.trans h) (((hn'.pr hb3).pr hpV).pr h) hx
  have s0:=fun u (h:Pr V u)=>s0 u (hWV.trans h);have s1:=fun u (h:Pr V u)=>s1 u (hWV.trans h);have s2:=fun u (h:Pr V u)=>s2 u (hWV.trans h);have s3:=fun u (h:Pr V u)=>s3 u (hWV.trans h)
  rw [← hV]
  have HwV:=Lib.hid hwV
  clear hV hpV hC hWV hwV hbe hprs hn hn' ht hb1 hb2 hb3 x0 x1 x2 x3 RA RB WA WB T1 N1 B1 HW
  go_cut [13,14,15] from 37 to 47 (fun v13 v14 v15 wx=>LessOk V TA DA UA v13 v14 v15 wx)
  case first =>
    go_region_held3 (fun W'=>Pr V W')
      (first | with_reducible exact Pr.drew V | with_reducible exact (Pr.alloc _ _).drew' | with_reducible exact hp5 | with_reducible exact hp5.alloc' _ | with_reducible exact hp4 | with_reducible exact hp4.alloc' _ | exact Pr.setCell (Pr.setCell hp5 hz _) hz _)
      (first
        | (go_at_call 105;(with_reducible refine Calls.mono (RA2.out _ (Pr.drew V)) ?_);rintro e w4 ⟨v4,rfl,ho4,hb4⟩;obtain ⟨og,cg,rfl,hi4⟩:=ho4.ints;have hi4:=Flat.any hi4;have hp4:=(Pr.drew V).trans hb4)
        | (go_at_call 105;(with_reducible refine Calls.mono (RA2.out _ (Pr.drew' (Pr.alloc _ _))) ?_);rintro e w4 ⟨v4,rfl,ho4,hb4⟩;obtain ⟨og,cg,rfl,hi4⟩:=ho4.ints;have hi4:=Flat.any hi4;have hp4:=((Pr.alloc _ _).drew').trans hb4;have z:=hb4.blk ((Pr.drew _).blk (heap_alloc_new V _)))
        | (go_at_call 104;(with_reducible refine Calls.mono (WA2.out _ _ _ hp4 hi4) ?_);rintro e w5 ⟨l5,ks5,o5,c5,o7,c7,o8,c8,hT5,hl5,rfl,hk5,hd7,hd8,hb5⟩;have hp5:=hp4.trans hb5;have z5:=hb5.blk z;have z0:=blk_cell (o:=0) z5;have z1:=blk_cell (o:=1) z5;have y0:=blk_frozen (o:=0) z5;have y1:=blk_frozen (o:=1) z5;have hz:=Nat.le_refl V.heap.size)
        | (go_at_call 104;(with_reducible refine Calls.mono (WA2.out _ _ _ hp4 hi4) ?_);rintro e w5 ⟨l5,ks5,o5,c5,o7,c7,o8,c8,hT5,hl5,rfl,hk5,hd7,hd8,hb5⟩;have hp5:=hp4.trans hb5)
        | (go_at_call 104;(with_reducible refine Calls.mono (WA2.out _ _ _ (hp4.alloc' _) (Flat.pr (Pr.alloc _ _) hi4)) ?_);rintro e w5 ⟨l5,ks5,o5,c5,o7,c7,o8,c8,hT5,hl5,rfl,hk5,hd7,hd8,hb5⟩;have hp5:=(hp4.alloc' _).trans hb5;have z5:=hb5.blk (heap_alloc_new w4 _);have z0:=blk_cell (o:=0) z5;have z1:=blk_cell (o:=1) z5;have y0:=blk_frozen (o:=0) z5;have y1:=blk_frozen (o:=1) z5;have hz:=Below.size hp4))
    all_goals
      go_wp2_with fail
      go_meet
    all_goals first
      | exact LessOk.mk' w4.heap.size V.heap.size hT5 hl5 hk5 hd7 hd8 hp5 (Below.size hp4) (Nat.le_refl _) (fun j h1 _=>by have:=blk_lt z;omega) (Chg.setCell (Chg.setCell (Chg.refl (fun k=>k=V.heap.size) w5) ⟨V.heap.size,0,none⟩ _ (.inl rfl)) ⟨V.heap.size,1,none⟩ _ (.inl rfl)) (blk_set (o:=1) (blk_set (o:=0) z5 _) _)
      | exact LessOk.mk' (w4.alloc _).heap.size w4.heap.size hT5 hl5 hk5 hd7 hd8 hp5 (by have:=Below.size hp4;simp;omega) (Below.size hp4) (fun j h1 _=>by simp at h1;omega) (Chg.setCell (Chg.setCell (Chg.refl (fun k=>k=w4.heap.size) w5) ⟨w4.heap.size,0,none⟩ _ (.inl rfl)) ⟨w4.heap.size,1,none⟩ _ (.inl rfl)) (blk_set (o:=1) (blk_set (o:=0) z5 _) _)
      | exact LessOk.mk' w4.heap.size w5.heap.size hT5 hl5 hk5 hd7 hd8 hp5 (Below.size hp4) (Below.size hp5) (fun j _ h=>by omega) ((Pr.alloc _ _).chg _) (heap_alloc_new w5 _)
  case rest =>
    obtain ⟨BA,lA,kA,oA,cA,oD,cD,oU,cU,rfl,rfl,rfl,hBA,hTA,hlA,hkA,hDA,hUA,hpA⟩:=hcut
    obtain ⟨V2,hV2⟩:∃ V2,V2=wc:=⟨_,rfl⟩
    subst hV2
    have s2:=fun u (h:Pr V2 u)=>s2 u (hpA.trans h);have s3:=fun u (h:Pr V2 u)=>s3 u (hpA.trans h)
    have RB2:=Lib.hid fun u (h:Pr V2 u)=>RB2.out u (hpA.trans h)
    have WB2:=Lib.hid fun u og cg (h:Pr V2 u) (hx:Ints Any u xb og cg)=>WB2.out u og cg (hpA.trans h) hx
    have HpA:=Lib.hid hpA;have HBA:=Lib.hid hBA;have HTA:=Lib.hid hTA;have HkA:=Lib.hid hkA;have HDA:=Lib.hid hDA
    clear hpA hBA hTA hkA hDA hUA RA2 WA2 s0 s1
    go_upto_region 9 with fail
    go_cut [16,17,18] from 48 to 58 (fun v16 v17 v18 wx=>LessOk V2 TB DB UB v16 v17 v18 wx)
    case first =>
      go_region_held3 (fun W'=>Pr V2 W')
        (first | with_reducible exact Pr.drew V2 | with_reducible exact (Pr.alloc _ _).drew' | with_reducible exact hp5 | with_reducible exact hp5.alloc' _ | with_reducible exact hp4 | with_reducible exact hp4.alloc' _ | exact Pr.setCell (Pr.setCell hp5 hz _) hz _)
        (first
          | (go_at_call 105;(with_reducible refine Calls.mono (RB2.out _ (Pr.drew V2)) ?_);rintro e w4 ⟨v4,rfl,ho4,hb4⟩;obtain ⟨og,cg,rfl,hi4⟩:=ho4.ints;have hi4:=Flat.any hi4;have hp4:=(Pr.drew V2).trans hb4)
          | (go_at_call 105;(with_reducible refine Calls.mono (RB2.out _ (Pr.drew' (Pr.alloc _ _))) ?_);rintro e w4 ⟨v4,rfl,ho4,hb4⟩;obtain ⟨og,cg,rfl,hi4⟩:=ho4.ints;have hi4:=Flat.any hi4;have hp4:=((Pr.alloc _ _).drew').trans hb4;have z:=hb4.blk ((Pr.drew _).blk (heap_alloc_new V2 _)))
          | (go_at_call 104;(with_reducible refine Calls.mono (WB2.out _ _ _ hp4 hi4) ?_);rintro e w5 ⟨l5,ks5,o5,c5,o7,c7,o8,c8,hT5,hl5,rfl,hk5,hd7,hd8,hb5⟩;have hp5:=hp4.trans hb5;have z5:=hb5.blk z;have z0:=blk_cell (o:=0) z5;have z1:=blk_cell (o:=1) z5;have y0:=blk_frozen (o:=0) z5;have y1:=blk_frozen (o:=1) z5;have hz:=Nat.le_refl V2.heap.size)
          | (go_at_call 104;(with_reducible refine Calls.mono (WB2.out _ _ _ hp4 hi4) ?_);rintro e w5 ⟨l5,ks5,o5,c5,o7,c7,o8,c8,hT5,hl5,rfl,hk5,hd7,hd8,hb5⟩;have hp5:=hp4.trans hb5)
          | (go_at_call 104;(with_reducible refine Calls.mono (WB2.out _ _ _ (hp4.alloc' _) (Flat.pr (Pr.alloc _ _) hi4)) ?_);rintro e w5 ⟨l5,ks5,o5,c5,o7,c7,o8,c8,hT5,hl5,rfl,hk5,hd7,hd8,hb5⟩;have hp5:=(hp4.alloc' _).trans hb5;have z5:=hb5.blk (heap_alloc_new w4 _);have z0:=blk_cell (o:=0) z5;have z1:=blk_cell (o:=1) z5;have y0:=blk_frozen (o:=0) z5;have y1:=blk_frozen (o:=1) z5;have hz:=Below.size hp4))
      all_goals
        go_wp2_with fail
        go_meet
      all_goals first
        | exact LessOk.mk' w4.heap.size V2.heap.size hT5 hl5 hk5 hd7 hd8 hp5 (Below.size hp4) (Nat.le_refl _) (fun j h1 _=>by have:=blk_lt z;omega) (Chg.setCell (Chg.setCell (Chg.refl (fun k=>k=V2.heap.size) w5) ⟨V2.heap.size,0,none⟩ _ (.inl rfl)) ⟨V2.heap.size,1,none⟩ _ (.inl rfl)) (blk_set (o:=1) (blk_set (o:=0) z5 _) _)
        | exact LessOk.mk' (w4.alloc _).heap.size w4.heap.size hT5 hl5 hk5 hd7 hd8 hp5 (by have:=Below.size hp4;simp;omega) (Below.size hp4) (fun j h1 _=>by simp at h1;omega) (Chg.setCell (Chg.setCell (Chg.refl (fun k=>k=w4.heap.size) w5) ⟨w4.heap.size,0,none⟩ _ (.inl rfl)) ⟨w4.heap.size,1,none⟩ _ (.inl rfl)) (blk_set (o:=1) (blk_set (o:=0) z5 _) _)
        | exact LessOk.mk' w4.heap.size w5.heap.size hT5 hl5 hk5 hd7 hd8 hp5 (Below.size hp4) (Below.size hp5) (fun j _ h=>by omega) ((Pr.alloc _ _).chg _) (heap_alloc_new w5 _)
    case rest =>
      obtain ⟨BB,lB,kB,oB,cB,oE,cE,oG,cG,rfl,rfl,rfl,hBB,hTB,hlB,hkB,hDB,hUB,hpB⟩:=hcut
      obtain ⟨V3,hV3⟩:∃ V3,V3=wc:=⟨_,rfl⟩
      subst hV3
      have hlen:=Hlen.out
      have hFL:=HFL.out
      have hpAV:=HpA.out
      have CC:Hid (∀ u B c,Pr V u→RowsD (From V.heap.size) u [DA,NL,UB] B→Calls Tryz.prog 106 #[.slice (some ⟨B,0,none⟩) 3 c] u fun e w'=>(∃ ob cp,e=.returned (.slice ob FL.length cp)∧Dees (From w.heap.size) w' FL ob cp)∧Pr u w'):=Lib.hid fun u B c hu h=>by
        have hfl:[DA,NL,UB].flatten=FL:=by rw [hFL];simp
        have h0:=concatDeeds_any (From V.heap.size) [DA,NL,UB] B c u h (by rw [dlen_all,hfl];omega) (by simp)
        rw [dlen_all,hfl] at h0
        refine h0.mono ?_
        rintro e w' ⟨⟨ob,cp,h1,h2⟩,h3⟩
        exact ⟨⟨ob,cp,h1,h2.mono fun j hj _=>by
          have h4:=Below.size HwV.out;have h5:=Below.size hu
          rcases hj with hj | hj
          · have hj':V.heap.size≤j:=hj
            show w.heap.size≤j;omega
          · show w.heap.size≤j;omega⟩,h3⟩
      have NM2:=Lib.hid (NM.out V3 lA kA oA cA lB kB oB cB HTA.out hTB hlA ((HkA.out.pr hpB).any) hlB hkB.any)
      have tA:=hpB.blk HBA.out
      have a0:=blk_cell (o:=0) tA;have a1:=blk_cell (o:=1) tA;have b0:=blk_cell (o:=0) hBB;have b1:=blk_cell (o:=1) hBB
      have hz2:=Below.size hpAV;have hz3:=Below.size hpB
      have hDA3:=HDA.out.pr hpB
      have hUB3:Dees (From V.heap.size) V3 UB oG cG:=hUB.mono fun j (hj:V2.heap.size≤j) _=>show V.heap.size≤j by omega
      have CR:Hid (∀ w4 oN cN,Pr V3 w4→Dees (From V3.heap.size) w4 NL oN cN→RowsD (From V.heap.size) (w4.alloc (.cells #[.slice oD DA.length cD,.slice oN NL.length cN,.slice oG UB.length cG] 106)) [DA,NL,UB] w4.heap.size):=Lib.hid fun w4 oN cN h4 hN i hi=>by
        match i,hi with
        | 0,_=>exact ⟨oD,cD,by simp [go_sem],(hDA3.pr h4).pr (Pr.alloc _ _)⟩
        | 1,_=>exact ⟨oN,cN,by simp [go_sem],(hN.mono fun j (hj:V3.heap.size≤j) _=>show V.heap.size≤j by omega).pr (Pr.alloc _ _)⟩
        | 2,_=>exact ⟨oG,cG,by simp [go_sem],(hUB3.pr h4).pr (Pr.alloc _ _)⟩
      have HpV3:=Lib.hid (hpAV.trans hpB)
      clear hFL hlen tA hBB hTB hkB hDB hUB hpB hDA3 hUB3 hpAV hz2 hz3 RB2 WB2 s2 s3
      go_upto_region 10 with fail
      go_wp2_with (first
        | (go_at_call 107;(with_reducible refine Calls.mono NM2.out ?_);rintro e w4 ⟨oN',cN',rfl,hNL,hb4⟩)
        | (go_at_call 106;(with_reducible refine Calls.mono (CC.out _ _ _ ((HpV3.out.trans hb4).alloc' _) (CR.out w4 oN' cN' hb4 hNL)) ?_);rintro e w5 ⟨⟨of,cf,rfl,hF⟩,hb5⟩))
      go_ret2
      exact ⟨of,cf,rfl,hF,HwV.out.trans (((HpV3.out.trans hb4).alloc' _).trans hb5)⟩
end Go.Proofs.YtdbnfhpgmcjngabGreatDoor
/- Walks: the laws' greatDeeds; pleachingref.SameDeeds. -/
namespace Go.Proofs.YtdbnfhpgmcjngabGreatDoor
open Go Go.RowKit
end Go.Proofs.YtdbnfhpgmcjngabGreatDoor
/- How the laws on scripts begin. -/
namespace Go.Proofs.YtdbnfhpgmcjngabGreatDoor
open Go Go.RowKit
theorem at?_len {p:List Int} {t u:Tr} (h:t.at? p=some u):p.length+u.sz≤t.sz:=by
  induction p generalizing t with
  | nil=>cases h;simp
  | cons k p ih =>
    simp only [Tr.at?] at h
    cases hk:t.kid? k with
    | none=>rw [hk] at h;cases h
    | some v=>rw [hk] at h;have:=ih h;have:=Tr.kid?_sz hk;simp only [List.length_cons];omega
theorem doD_path {t:Tr} {d:Dee} (h:(doD t d).2.2=0):d.path.length≤40:=by
  obtain ⟨h1,h2,h3,_⟩:=doD_ok.1 h
  obtain ⟨_,_,e2,_,_,hp,_⟩:=dfault_zero.1 h2
  have hs:=(fault_zero.1 h1).1
  cases hat:t.at? d.path with
  | some u=>have:=at?_len hat;omega
  | none =>
    by_cases hk:d.kind=2
    · rw [doneD_none d hk d.path t (e2 hk).2 hp hat] at h3;cases h3
    · rw [doneT_none d hk d.path t hp hat] at h3;cases h3
theorem runGo_paths:∀ {l:List Dee} {i:Nat} {t:Tr} {r:Tr × List Dee},runGo i t l=.ok r→∀ d∈l,d.path.length≤40
  | [],i,t,r,h,d,hd=>by cases hd
  | d' :: l,i,t,r,h,d,hd=>by
    by_cases h0:(doD t d').2.2=0
    · rcases List.mem_cons.1 hd with rfl | hd
      · exact doD_path h0
      · cases hx:runGo (i+1) (doD t d').1 l with
        | error e=>rw [runGo_err h0 hx] at h;cases h
        | ok y=>exact runGo_paths hx d hd
    · rw [runGo_no h0] at h;cases h
theorem run_is (l:ByteArray) (ks:List Tr) (oa cap) (ds:List Dee) (da dc) (w:World) (hl:l.size≤maxLen) (hk:Kids Any w ks oa cap) (hd:Dees Any w ds da dc) (hpl:∀ d∈ds,d.path.length≤100000)
    (l2:ByteArray) (ks2:List Tr) (bs:List Dee) (c i:Int) (h:runT (.node l ks) ds=(.node l2 ks2,bs,c,i)) :
    Calls Tryz.prog 82 #[.agg #[.string l,.slice oa ks.length cap],.slice da ds.length dc] w fun e w' =>
      ((∃ oa cap ob cb,e=.returned (.tuple #[.agg #[.string l2,.slice oa ks2.length cap],.slice ob bs.length cb,.agg #[.int .i64 c,.int .i64 i]])∧Kids Any w' ks2 oa cap∧Dees Any w' bs ob cb∧OwnsDs w.heap.size w' (.slice ob bs.length cb) bs)∧l2.size≤maxLen)∧Pr w w':=by
  refine (run_any l ks oa cap ds da dc w hl hk hd hpl).mono ?_
  rintro e w' ⟨l',ks',oa',cap',bs',ob,cb,c',i',hr,hl',rfl,hk2,hd2,ho2,hp⟩
  have hr2:=hr.symm.trans h
  simp only [Prod.mk.injEq,Tr.node.injEq] at hr2
  obtain ⟨⟨rfl,rfl⟩,rfl,rfl,rfl⟩:=hr2
  exact ⟨⟨⟨oa',cap',ob,cb,rfl,hk2.any,hd2.any,ho2⟩,hl'⟩,hp⟩
end Go.Proofs.YtdbnfhpgmcjngabGreatDoor
/- The law ScriptMakes: its walk; and Diff of what is no tree. -/
namespace Go.Proofs.YtdbnfhpgmcjngabGreatDoor
open Go Go.RowKit
theorem nameC_few (xs ys:List Nd) (L:List (Nat × Nat)):nameC xs ys L≤L.length:=by
  induction L with
  | nil=>simp [nameC]
  | cons p L ih =>
    have h:=lc_le (labN xs p.1) (labN ys p.2)
    simp only [nameC,List.map_cons,List.foldr_cons,List.length_cons] at ih ⊢
    omega
theorem cost_few {a b:Tr} (ha:fault a=0) (hb:fault b=0):costT a b≤80:=by
  have h1:=(bestT_good a b).2.2
  have h2:=nameC_few (nds a) (nds b) (bestT a b)
  have h3:=(fault_zero.1 ha).1
  have h4:=(fault_zero.1 hb).1
  omega
end Go.Proofs.YtdbnfhpgmcjngabGreatDoor
