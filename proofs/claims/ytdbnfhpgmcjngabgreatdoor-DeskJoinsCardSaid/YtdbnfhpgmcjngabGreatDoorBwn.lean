/- Walks: the nodes of a tree, as the document's answer tells them. -/
import Derived.Test.YtdbnfhpgmcjngabGreatDoorBwe
import Derived.Test.YtdbnfhpgmcjngabGreatDoorBmt
import Derived.Test.YtdbnfhpgmcjngabGreatDoorBpl
namespace Go.Proofs.YtdbnfhpgmcjngabGreatDoor
open Go Go.RowKit
theorem Kids.grown {B:Nat} {w w':World} {row:Option Nat} {ks:List Tr} {oa cap} (h:Kids (fun k=>k < B) w ks oa cap) (hg:w.grownBy w' row) (hr:∀ k,row=some k→B≤k):Kids (fun k=>k < B) w' ks oa cap :=
  h.carry fun k hk hl=>⟨hg.block k hl (fun e=>by have:=hr k e.symm;have hk':k < B:=hk;omega),hk⟩
end Go.Proofs.YtdbnfhpgmcjngabGreatDoor
/- Walks: the nodes of a tree, as the program tells them. -/
namespace Go.Proofs.YtdbnfhpgmcjngabGreatDoor
open Go Go.RowKit
def OfPost (base:Nat) (w:World) (B:Nat) (v:Value) (xs:List Nd) (t:Tr) (e:Ending) (w':World):Prop :=
  ∃ g cap,e=.returned (.int .i64 ((xs.length+t.sz - 1:Nat):Int))∧w'.heap[B]? = some (.cells #[.slice (some ⟨g,0,none⟩) (xs.length+t.sz) cap] 146 (0,0)) ∧
    OwnsNds base w' (.slice (some ⟨g,0,none⟩) (xs.length+t.sz) cap) (xs ++ ndsT xs.length (-1) t)∧g≠B∧Chg (fun k=>k=B∨v.ownBlock=some k) w w'∧(v.ownBlock=some g∨w.heap.size≤g)
set_option maxHeartbeats 1600000 in
theorem of_any (N:Nat):∀ (l:ByteArray) (ks:List Tr) (oa cap) (B:Nat) (v:Value) (xs:List Nd) (base:Nat) (w:World),Tr.szL ks < N→Tr.szL ks+xs.length≤1000000→base≤w.heap.size→base≤B→v.ownBlock≠some B→Kids (fun k=>k < base) w ks oa cap→OwnsNds base w v xs →
    w.heap[B]? = some (.cells #[v] 146 (0,0)) →
    Calls Tryz.prog 139 #[.agg #[.string l,.slice oa ks.length cap],.pointer (some ⟨B,0,none⟩)] w (OfPost base w B v xs (.node l ks)):=by
  induction N with
  | zero=>intro l ks oa cap B v xs base w hN;omega
  | succ N ih =>
    have Ih:=Lib.hid ih;clear ih
    intro l ks oa cap B v xs base w hN hsm hbase hbB hvB hk hv hB
    have hm:=hk.len
    have hm2:=Tr.length_le ks
    obtain ⟨ov,cv,rfl,hv1,hv2,hv3⟩:=ownsRow_slice hv
    have hvb:=hv.block
    have hBl:=blk_lt hB
    obtain ⟨W,hW⟩:∃ W,W=w.alloc (.cells #[.string l,.slice oa ks.length cap] 46):=⟨_,rfl⟩
    have hwW:Pr w W:=by rw [hW];exact Pr.alloc _ _
    have hWs:W.heap.size=w.heap.size+1:=by rw [hW];simp
    have hbox:W.heap[w.heap.size]? = some (.cells #[.string l,.slice oa ks.length cap] 46 (0,0)):=by rw [hW];exact heap_alloc_new w _
    have hkW:=hk.pr hwW
    have hvW:=hv.pr hwW
    have hBW:=hwW.blk hB
    have cB:∀ o,(w.alloc o).cell? ⟨B,0,none⟩=some (.slice ov xs.length cv):=fun o=>(Pr.alloc w o).cell (blk_cell hB)
    clear hv hk
    go_enter Tryz.func139,Tryz.ntmps139
    go_wp2_with fail
    rw [← hW]
    clear hW
    have hnb:(Value.slice ov xs.length cv).ownBlock≠some w.heap.size:=fun e=>by have:=(hvb _ e).2;omega
    generalize Value.slice ov xs.length cv=v0 at *
    clear cB
    go_loopw [6,19] (fun v2 i wr=>∃ (k:Nat) (v1:Value),k≤ks.length∧i=.int .i64 k∧wr.heap[B]? = some (.cells #[v1] 146 (0,0))∧OwnsNds base wr v1 (xs ++ ndsF xs.length (-1) (ks.take k))∧OwnsIs (w.heap.size+1) wr v2 ((kidIdx xs.length (ks.take k)).map Int.ofNat) ∧
      Chg (fun k=>k=B∨v0.ownBlock=some k) W wr∧(∀ j,v1.ownBlock=some j→v0.ownBlock=some j∨w.heap.size+1≤j)∧(∀ j,v2.ownBlock=some j→v1.ownBlock≠some j)) (fun _ i _=>ks.length - (intOf i).toNat)
    case atStart=>exact ⟨0,v0,by omega,rfl,hBW,by simpa [ndsF] using hvW,by simpa [kidIdx] using OwnsIs.nil _ _,Chg.refl _ _,fun j hj=>.inl hj,fun j hj=>by cases hj⟩
    case round =>
      obtain ⟨k,v1,hkl,rfl,hBr,ho1,ho2,hg,hd1,hd2⟩:=hrel
      have hgs:=hg.size
      have htl:=Tr.szL_take_le ks k
      have hl1:(xs ++ ndsF xs.length (-1) (ks.take k)).length=xs.length+Tr.szL (ks.take k):=by rw [List.length_append,ndsF_length]
      have hkr:=hkW.chg hg (fun j hj=>by rcases hj with h | h;omega;exact (hvb j h).1)
      have hv1B:v1.ownBlock≠some B:=fun e=>by rcases hd1 _ e with h | h;exact hvB h;omega
      by_cases hlt:k < ks.length
      · obtain ⟨b,o,l',ks',oa',cap',e1,hl',rfl,d0,d1,hk'⟩:=hkr.get k hlt
        have hsz:=Tr.szL_get ks k hlt
        have hs:=Tr.szL_take_succ ks k hlt
        have hnt:=ndsF_take ks k hlt xs.length (-1)
        have hit:=kidIdx_take ks k hlt xs.length
        rw [e1] at hsz hs hnt hit
        have Hnt:=Lib.hid hnt
        have Hit:=Lib.hid hit
        have Hl1:=Lib.hid hl1
        have htl2:=Tr.szL_take_le ks (k+1)
        clear e1 hnt hit hl1
        simp only [Tr.sz] at hsz hs
        have hil:(kidIdx xs.length (ks.take k)).length≤1000000000:=by rw [kidIdx_length,List.length_take];omega
        have HBr:=Lib.hid hBr
        clear hBr
        go_wp2_with (first
          | (go_at_call 139;(with_reducible refine Calls.mono (Ih.out l' ks' _ _ B v1 _ base _ (by omega) (by rw [Hl1.out];omega) (by simp;omega) hbB hv1B (hk'.pr (Pr.alloc _ _)) (ho1.pr (Pr.alloc _ _)) ((Pr.alloc _ _).blk HBr.out)) ?_);rintro e w1 ⟨g3,c3,rfl,hB3,ho3,hgB3,hg3,hd3⟩;rw [Hl1.out,Tr.sz_node] at ho3 hB3 ⊢
             have hg3s:=hg3.size
             have hoi:=(ho2.pr (Pr.alloc _ _)).chg hg3 (fun j hj hX=>by rcases hX with h | h;(have:=(ho2.block j hj).1;omega);exact hd2 j hj h)
             have HB3:=Lib.hid hB3
             clear hB3)
          | (at_builtin;go_must (refine app_int rfl _ _ rfl (w.heap.size+1) _ _ rfl (hoi.pr (Pr.alloc _ _)) w1.heap.size rfl _ (heap_alloc_new w1 _) (by simpa using hil) (by simp at *;omega) ?_);intro g4 c4 w2 ho4 hg4 hd4))
        have hne3:u6.ownBlock≠some g3:=fun e=>by
          have h2:=(ho2.block _ e).2
          rcases hd3 with h | h
          · exact hd2 g3 e h
          · simp at h;omega
        have hne4:u6.ownBlock≠some B:=fun e=>by have:=(ho2.block _ e).1;omega
        have hb3:=(ho3.block g3 rfl).2
        have hBw2:=grown_blk hg4 ((Pr.alloc w1 _).blk HB3.out) hne4
        refine ⟨⟨k+1,_,by omega,by go_num,hBw2,?_,?_,?_,?_,?_⟩,?_⟩
        · rw [Hnt.out,← List.append_assoc]
          exact (ho3.pr (Pr.alloc _ _)).grown hg4 (fun j hj=>by cases hj;exact hne3)
        · rw [Hit.out,List.map_append]
          rw [List.length_map] at ho4
          refine cast (congrArg (OwnsIs _ _ _) ?_) ho4
          congr 1
        · refine Chg.trans (Chg.pr (Chg.trans (Chg.pr hg (Pr.alloc _ _)) hg3 (fun j hj=>?_)) (Pr.alloc _ _)) (chg_grown hg4) (fun j hj=>?_)
          · rcases hj with rfl | hj
            · exact .inl (.inl rfl)
            · rcases hd1 j hj with h | h
              · exact .inl (.inr h)
              · exact .inr (by omega)
          · exact .inr (by have:=(ho2.block j hj).1;omega)
        · intro j hj
          cases hj
          rcases hd3 with h | h
          · exact hd1 g3 h
          · exact .inr (by simp at h;show w.heap.size+1≤g3;omega)
        · intro j hj e
          cases hj;cases e
          rcases hd4 with h | h
          · exact hne3 h
          · simp at h;omega
        · simp [intOf];omega
      · have hkv:k=ks.length:=by omega
        have hkt:ks.take k=ks:=by rw [hkv,List.take_length]
        rw [hkt] at ho1 ho2 hl1
        clear hkt hlt
        have hxl:=ndsF_length ks xs.length (-1)
        have hil:(kidIdx xs.length ks).length=ks.length:=kidIdx_length ks xs.length
        obtain ⟨o1,cc1,hu1,q1,q2,q3⟩:=ownsRow_slice ho1
        obtain ⟨o2,cc2,hu2,p1,p2,p3⟩:=ownsRow_slice ho2
        rw [hl1] at hu1 q1
        rw [List.length_map,hil] at hu2 p1
        subst hu1;subst hu2
        have Hl1:=Lib.hid hl1
        have cB:wr.cell? ⟨B,0,none⟩=some (.slice o1 (xs.length+Tr.szL ks) cc1):=blk_cell hBr
        have HBr:=Lib.hid hBr
        clear hl1 p3 hBr
        go_wp2_with fail
        clear cB
        obtain ⟨wz,hwz⟩:∃ wz,wz=wr:=⟨_,rfl⟩
        go_loopw [36] (fun i wq=>∃ (j:Nat),j≤ks.length∧i=.int .i64 j∧OwnsNds base wq (.slice o1 (xs.length+Tr.szL ks) cc1) (((kidIdx xs.length ks).take j).foldl (fun l i=>setPar l i ((xs.length+Tr.szL ks:Nat):Int)) (xs ++ ndsF xs.length (-1) ks)) ∧
          wq.heap[B]? = some (.cells #[.slice o1 (xs.length+Tr.szL ks) cc1] 146 (0,0)) ∧
          Chg (fun k=>(Value.slice o1 (xs.length+Tr.szL ks) cc1).ownBlock=some k) wz wq) (fun i _=>ks.length - (intOf i).toNat)
        case atStart=>exact ⟨0,by omega,rfl,by simpa using ho1,HBr.out,by rw [hwz];exact Chg.refl _ _⟩
        case round =>
          obtain ⟨j,hjl,rfl,hoj,hBj,hgj⟩:=hrel
          subst hwz
          have ho2j:=ho2.chg hgj (fun j hj=>hd2 j hj)
          have cB:wr.cell? ⟨B,0,none⟩=some (.slice o1 (xs.length+Tr.szL ks) cc1):=blk_cell hBj
          have HBj:=Lib.hid hBj
          clear hBj
          by_cases hlt2:j < ks.length
          · obtain ⟨oz,cz,hz,hints⟩:=ho2j.ints
            rw [List.length_map,hil] at hz
            cases hz
            have hjx:j < (kidIdx xs.length ks).length:=by omega
            obtain ⟨b,o,rfl,cj⟩:=Ints.get hints j (by simpa using hjx)
            have hir:=kidIdx_lt ks xs.length _ (List.getElem_mem hjx)
            have hft:=List.take_succ_eq_append_getElem hjx
            simp only [List.getElem_map] at cj
            generalize hix:(kidIdx xs.length ks)[j]=ix at *
            obtain ⟨g,rfl,hgb⟩:=q3 (by rw [Hl1.out];omega)
            have hlen:(((kidIdx xs.length ks).take j).foldl (fun l i=>setPar l i ((xs.length+Tr.szL ks:Nat):Int)) (xs ++ ndsF xs.length (-1) ks)).length=xs.length+Tr.szL ks:=by rw [setPars_length,Hl1.out]
            obtain ⟨ou,cu,hu,hnd⟩:=hoj.nds
            rw [hlen] at hu
            cases hu
            obtain ⟨b2,o2,hbo,e0,e1,e2⟩:=hnd.get ix (by omega)
            cases hbo
            have hfz:=hoj.frozen (ix * 3+1)
            have hst:=hoj.store ix (by omega) ((xs.length+Tr.szL ks:Nat):Int)
            have Hft:=Lib.hid hft
            clear hft e0 e2
            simp only [Nat.zero_add] at e1
            have hgB:B≠g:=fun e=>hv1B (by rw [e];rfl)
            go_wp2_with fail
            refine ⟨⟨j+1,by omega,by go_num,?_,?_,?_⟩,?_⟩
            · rw [Hft.out,List.foldl_append]
              simp only [List.foldl_cons,List.foldl_nil]
              rw [← Int.natCast_add];exact hst
            · rw [Below.heap_setCell _ _ _ _ hgB];exact HBj.out
            · exact hgj.setCell _ _ (.inl rfl)
            · simp [intOf];omega
          · have hjv:j=ks.length:=by omega
            have hlast:=setPars ((xs.length+Tr.szL ks:Nat):Int) (-1) ks xs
            rw [hjv,← hil,List.take_length,hlast] at hoj
            have hlenF:(xs ++ ndsF xs.length ((xs.length+Tr.szL ks:Nat):Int) ks).length=xs.length+Tr.szL ks:=by rw [List.length_append,ndsF_length]
            have HlenF:=Lib.hid hlenF
            have hbx:=hgj.blk (hg.blk hbox (fun h=>by rcases h with h | h;omega;exact hnb h)) (fun e=>by rcases hd1 _ e with h | h;exact hnb h;omega)
            have b0:wr.cell? ⟨w.heap.size,0,none⟩=some (.string l):=blk_cell hbx
            have hgjs:=hgj.size
            have fB:wr.frozen? ⟨B,0,none⟩=false:=blk_frozen HBj.out
            have cB':∀ o,(wr.alloc o).cell? ⟨B,0,none⟩=some (.slice o1 (xs.length+Tr.szL ks) cc1):=fun o=>(Pr.alloc _ _).cell cB
            clear hbx hlast hlenF
            go_wp2_with fail
            go_region_law (first
              | (refine step_node rfl _ _ rfl base (.slice o1 (xs.length+Tr.szL ks) cc1) (xs ++ ndsF xs.length ((xs.length+Tr.szL ks:Nat):Int) ks) rfl (hoj.pr (Pr.drew' (Pr.alloc _ _))) wr.heap.size rfl ⟨l,-1,(xs.length:Int)⟩ ((Pr.drew _).blk (heap_alloc_new wr _)) (by rw [HlenF.out];omega) (by simp;omega) ?_;intro g5 c5 w5 ho5 hg5 hd5;rw [HlenF.out] at ho5 ⊢
                 have HB5:=Lib.hid (grown_blk hg5 ((Pr.drew' (Pr.alloc _ _)).blk HBj.out) hv1B)
                 have cB5:=blk_cell (o:=0) HB5.out;have fB5:=blk_frozen (o:=0) HB5.out))
            all_goals
              go_wp2_with fail
              go_ret
              have hsz2:xs.length+(Tr.node l ks).sz=xs.length+Tr.szL ks+1:=rfl
              have hBr':=blk_lt HBj.out
              have hgB:g5≠B:=by
                rcases hd5 with h | h
                · intro e;subst e;exact hv1B h
                · simp at h;omega
              have hd1':∀ j,(Value.slice o1 (xs.length+Tr.szL ks) cc1).ownBlock=some j→(j=B∨v0.ownBlock=some j)∨W.heap.size≤j:=fun j hj=>by
                rcases hd1 j hj with h | h
                · exact .inl (.inr h)
                · exact .inr (by omega)
              refine ⟨g5,c5,ret_int (by rw [hsz2];omega),blk_set HB5.out _,?_,hgB,?_,?_⟩
              · have e:xs ++ ndsT xs.length (-1) (.node l ks)=(xs ++ ndsF xs.length ((xs.length+Tr.szL ks:Nat):Int) ks) ++ [⟨l,-1,(xs.length:Int)⟩]:=by simp [ndsT]
                rw [e]
                exact ho5.kept fun k hk=>by cases hk;exact Below.heap_setCell _ _ _ _ hgB
              · refine Chg.setCell (Chg.trans (hwW.chg _) (Chg.trans (Chg.pr (Chg.trans hg hgj hd1') (Pr.drew' (Pr.alloc _ _))) (chg_grown hg5) hd1') (fun _ h=>.inl h)) _ _ (.inl (.inl rfl))
              · rcases hd5 with h | h
                · rcases hd1 _ h with h | h
                  · exact .inl h
                  · exact .inr (by omega)
                · exact .inr (by simp at h;omega)
theorem Chg.behind {X:Nat→Prop} {w w1 w2:World} (h:Pr w w1) (h1:Chg X w1 w2) (hX:∀ k,X k→w.heap.size≤k):Pr w w2 :=
  Chg.to_pr (Chg.trans (h.chg X) h1 (fun _ h=>.inl h)) hX
def OrderOfPost (w:World) (t:Tr) (e:Ending) (w':World):Prop :=
  (fault t≠0→e=.returned (.tuple #[.slice none 0 0,.int .i64 (fault t)])) ∧
  (fault t=0→∃ g c,e=.returned (.tuple #[.slice (some ⟨g,0,none⟩) t.sz c,.int .i64 0])∧OwnsNds w.heap.size w' (.slice (some ⟨g,0,none⟩) t.sz c) (nds t))∧Pr w w'
theorem orderOf_any (l:ByteArray) (ks:List Tr) (oa cap) (w:World) (hl:l.size≤maxLen) (hk:Kids Any w ks oa cap) :
    Calls Tryz.prog 108 #[.agg #[.string l,.slice oa ks.length cap]] w (OrderOfPost w (.node l ks)):=by
  by_cases hf:fault (.node l ks)=0
  · have hz:=(fault_zero.1 hf).1
    simp only [Tr.sz_node] at hz
    have hne:(((fault (.node l ks):Nat):Int) != 0)=false:=by rw [hf];rfl
    have Hf:=Lib.hid hf
    clear hf
    go_enter Tryz.func108,Tryz.ntmps108
    go_wp2_with (first
      | (go_at_call 51;(with_reducible refine Calls.mono (check_any l ks _ _ _ hl (hk.pr (Pr.alloc _ _))) ?_);rintro e w1 ⟨rfl,hb⟩;have c0:=hb.cell (b:=w.heap.size) (o:=0) (v:=.string l) (by simp [go_sem]);have c1:=hb.cell (b:=w.heap.size) (o:=1) (v:=.slice oa ks.length cap) (by simp [go_sem]);have c0':=fun o=>(Pr.alloc w1 o).cell c0;have c1':=fun o=>(Pr.alloc w1 o).cell c1))
    have hk1:Kids (fun k=>k < w1.heap.size) (w1.alloc (.cells #[.slice none 0 0] 146)) ks oa cap:=(((hk.pr (Pr.alloc _ _)).pr hb).mono (fun _ _ h=>h)).pr (Pr.alloc _ _)
    have hcc:=of_any _ l ks oa cap w1.heap.size (.slice none 0 0) [] w1.heap.size _ (Nat.lt_succ_self _) (by simp;omega) (by simp) (Nat.le_refl _) (by intro e;cases e) hk1 (OwnsNds.nil _ _) (heap_alloc_new w1 _)
    refine hcc.mono ?_
    rintro e w2 ⟨g,c,rfl,hB,ho,hgB,hg,hd⟩
    simp only [List.length_nil,Nat.zero_add,List.nil_append] at hB ho
    have cB:=blk_cell (o:=0) hB
    have HB:=Lib.hid hB
    clear hB hcc hk1 c0 c1 c0' c1'
    go_wp2_with fail
    go_ret2
    have hp2:Pr w1 w2:=Chg.behind (Pr.alloc _ _) hg (fun k hk=>by rcases hk with rfl | hk;exact Nat.le_refl _;cases hk)
    refine ⟨fun h=>absurd Hf.out h,fun _=>⟨g,c,by rw [show (0:Int)=0 from rfl];rfl,ho.mono (by have:=hb.size;simp at this;omega)⟩,((Pr.alloc _ _).trans hb).trans hp2⟩
  · have hne:(((fault (.node l ks):Nat):Int) != 0)=true:=by simp [bne_iff_ne];omega
    have Hf:=Lib.hid hf
    clear hf
    go_enter Tryz.func108,Tryz.ntmps108
    go_wp2_with (first
      | (go_at_call 51;(with_reducible refine Calls.mono (check_any l ks _ _ _ hl (hk.pr (Pr.alloc _ _))) ?_);rintro e w1 ⟨rfl,hb⟩))
    go_ret2
    exact ⟨fun _=>rfl,fun h=>absurd h Hf.out,(Pr.alloc _ _).trans hb⟩
end Go.Proofs.YtdbnfhpgmcjngabGreatDoor
/- Walks: are two lists of numbers, of nodes, the same? -/
namespace Go.Proofs.YtdbnfhpgmcjngabGreatDoor
open Go Go.RowKit
end Go.Proofs.YtdbnfhpgmcjngabGreatDoor
/- Walks: the path of a node. -/
namespace Go.Proofs.YtdbnfhpgmcjngabGreatDoor
open Go Go.RowKit
def IntsPost (w:World) (xs:List Int) (e:Ending) (w':World):Prop:=∃ v,e=.returned v∧OwnsIs w.heap.size w' v xs∧Pr w w'
set_option maxHeartbeats 1600000 in
theorem path_step (xs:List Nd) (hs:xs.length≤1000000) (N:Nat):∀ (n:Int) (oa cap) (w:World),xs.length - n.toNat < N→Nds Any w xs oa cap →
    Calls Tryz.prog 138 #[.slice oa xs.length cap,.int .i64 n] w (IntsPost w (pathZ xs n)):=by
  induction N with
  | zero=>intro n oa cap w hN;omega
  | succ N ih =>
    intro n oa cap w hN hx
    have Ih:=Lib.hid ih;clear ih
    by_cases hn:n < 0
    · go_enter Tryz.func138,Tryz.ntmps138
      go_wp2_with fail
      go_ret
      exact ⟨_,rfl,by rw [pathZ_neg hn];exact OwnsIs.nil _ _,Pr.refl _⟩
    obtain ⟨m,rfl⟩:=Int.eq_ofNat_of_zero_le (by omega:0≤n)
    have hlm:((xs.length:Int)≤m)=(xs.length≤m):=by rw [Int.ofNat_le]
    by_cases hm:xs.length≤m
    · have hm':(xs.length:Int)≤m:=by omega
      have Hp:=Lib.hid (pathN_out (l:=xs) (n:=m) (by omega))
      clear hlm
      go_enter Tryz.func138,Tryz.ntmps138
      go_wp2_with fail
      go_ret
      exact ⟨_,rfl,by rw [pathZ_nat,Hp.out];exact OwnsIs.nil _ _,Pr.refl _⟩
    have hm1:m < xs.length:=by omega
    clear hlm
    obtain ⟨b,o,rfl,e0,e1,e2⟩:=hx.get m hm1
    by_cases hp:(m:Int) < xs[m].par
    case neg =>
      have Hp:=Lib.hid (pathN_root hm1 hp)
      generalize xs[m].par=up at *
      clear e0 e2
      go_enter Tryz.func138,Tryz.ntmps138
      go_wp2_with fail
      go_ret
      exact ⟨_,rfl,by rw [pathZ_nat,Hp.out];exact OwnsIs.nil _ _,Pr.refl _⟩
    have Hp:=Lib.hid (pathN_up hm1 hp)
    generalize hup:xs[m].par=up at *
    have Hup:=Lib.hid hup
    clear e0 e2 hup
    go_enter Tryz.func138,Tryz.ntmps138
    go_wp2_with fail
    go_loopw [6,31] (fun c i wr=>∃ (k r:Nat),k≤m∧i=.int .i64 k∧c=.int .i64 r∧r=cntPar xs k up∧r≤k∧wr=w) (fun _ i _=>m - (intOf i).toNat)
    case atStart=>exact ⟨0,0,by omega,rfl,rfl,by simp [cntPar],by omega,rfl⟩
    case round =>
      obtain ⟨k,r,hkl,rfl,rfl,hr,hrk,rfl⟩:=hrel
      have Hr:=Lib.hid hr
      clear hr
      by_cases hlt:k < m
      · obtain ⟨b',o',hbo,d0,d1,d2⟩:=hx.get k (by omega)
        cases hbo
        have hc:=cntPar_succ xs k (by omega) up
        clear d0 d2
        generalize xs[k].par=pk at *
        have Hc:=Lib.hid hc
        clear hc
        by_cases hpk:pk=up
        · have hb1:(pk==up)=true:=by simp [hpk]
          have Hpk:=Lib.hid hpk
          clear hpk
          go_wp2_with fail
          refine ⟨⟨k+1,r+1,by omega,by go_num,by go_num,by rw [Hc.out,← Hr.out,if_pos Hpk.out],by omega,trivial⟩,?_⟩
          simp [intOf];omega
        · have hb1:(pk==up)=false:=by simp [hpk]
          have Hpk:=Lib.hid hpk
          clear hpk
          go_wp2_with fail
          refine ⟨⟨k+1,r,by omega,by go_num,by go_num,by rw [Hc.out,← Hr.out,if_neg Hpk.out];rfl,by omega,trivial⟩,?_⟩
          simp [intOf];omega
      · have hkv:k=m:=by omega
        have Hcx:=Lib.hid (pathN_length xs _ up.toNat (Nat.le_refl _))
        have hupn:¬ up < 0:=by omega
        have Hun:=Lib.hid (pathZ_pos (l:=xs) hupn)
        clear hupn
        go_wp2_with (first
          | (go_at_call 138;(with_reducible refine Calls.mono (Ih.out up _ _ _ (by omega) hx) ?_);rintro e w1 ⟨v,rfl,ho,hb⟩;rw [Hun.out] at ho)
          | (at_builtin;go_must (refine app_int rfl _ _ rfl wr.heap.size _ _ rfl (ho.pr (Pr.alloc _ _)) w1.heap.size rfl _ (heap_alloc_new w1 _) (by have:=Hcx.out;omega) (by have:=hb.size;simp;omega) ?_);intro g4 c4 w2 ho4 hg4 hd4))
        go_ret
        refine ⟨_,rfl,?_,?_⟩
        · rw [pathZ_nat,Hp.out,← hkv,← Hr.out]
          exact ho4
        · exact Below.grown (hb.alloc' _) hg4 (by have:=hb.size;simp;omega) (fun k hk=>(ho.block k hk).1)
theorem path_any (xs:List Nd) (hs:xs.length≤1000000) (n:Int) (oa cap) (w:World) (hx:Nds Any w xs oa cap) :
    Calls Tryz.prog 138 #[.slice oa xs.length cap,.int .i64 n] w (IntsPost w (pathZ xs n)):=path_step xs hs _ n oa cap w (Nat.lt_succ_self _) hx
end Go.Proofs.YtdbnfhpgmcjngabGreatDoor
