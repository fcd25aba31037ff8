/- Walks: a mark's deed, beneath a kid. -/
import Derived.Test.YtdbnfhpgmcjngabGreatDoorBzm
import Derived.Test.YtdbnfhpgmcjngabGreatDoorBva
namespace Go.Proofs.YtdbnfhpgmcjngabGreatDoor
open Go Go.RowKit
namespace Mrk
set_option maxHeartbeats 800000 in
theorem cloneM_own (S:Nat→Prop) (ts:List Mk) (oa cap) (w:World) (hx:Kids S w ts oa cap) (hs:ts.length≤100000) :
    Calls Tryz.prog 142 #[.slice oa ts.length cap] w fun e w'=>(∃ v,e=.returned v∧OwnsX S w w.heap.size w' v ts)∧Pr w w':=by
  have hm:=hx.len
  have e0:=fun (w:World) n c=>Lib.run_eql_slice_nil (P:=Tryz.prog) w 171 173 none n c 0 0 under_trees
  have e1:=fun (w:World) a n c=>Lib.run_eql_slice_nil (P:=Tryz.prog) w 171 173 (some a) n c 0 0 under_trees
  cases oa with
  | none =>
    have hx0:ts=[]:=by
      obtain ⟨_,b,o,h1,_⟩:=hx
      cases ts with
      | nil=>rfl
      | cons x xs=>have:=(h1 (by simp)).1;cases this
    subst hx0
    clear e1
    simp only [List.length_nil] at *
    go_enter Tryz.func142,Tryz.ntmps142
    go_wp2_with fail
    go_ret
    exact ⟨⟨_,rfl,OwnsX.nil _ _ _ _⟩,Pr.refl _⟩
  | some ad =>
    clear e0
    have h0:OwnsX S w w.heap.size (w.alloc (.cells #[] 173)) (.slice (some ⟨w.heap.size,0,none⟩) 0 0) []:=⟨[],ownsRow_empty w _ _,rfl⟩
    have Hx:=Lib.hid hx
    have H0:=Lib.hid h0
    clear hx h0
    go_enter Tryz.func142,Tryz.ntmps142
    go_wp2_with (at_builtin;go_must (refine app_trees rfl _ _ rfl S w w.heap.size _ [] rfl H0.out ts (some ad) cap rfl Hx.out (Pr.alloc _ _) (by simp;omega) (by simp) ?_);intro v5 w5 ho5 hg5 hd5)
    have hp5:Pr w w5:=Below.grown (Pr.alloc w (.cells #[] 173)) hg5 (by simp) (fun k hk=>by cases hk;simp)
    rw [List.nil_append] at ho5
    go_ret
    exact ⟨⟨v5,rfl,ho5⟩,hp5⟩
theorem mkids_set {S S2:Nat→Prop} {w0 w:World} {v:Value} {ks:List Mk} (hown:OwnsX S w0 w0.heap.size w v ks) (hp:Pr w0 w) {i:Nat} (hi:i < ks.length) {s':Int} {ks':List Mk} {oa':Option Addr} {cap':Nat} (hS2:∀ j,S2 j→v.ownBlock≠some j) (hk':Kids S2 w ks' oa' cap') :
    ∃ g cb,v=.slice (some ⟨g,0,none⟩) ks.length cb∧w0.heap.size≤g∧g < w.heap.size∧(∀ j,w.frozen? ⟨g,j,none⟩=false) ∧
      Kids (fun j=>S j∨S2 j∨w0.heap.size≤j) ((w.setCell ⟨g,i * 2,none⟩ (.int .i64 s')).setCell ⟨g,i * 2+1,none⟩ (.slice oa' ks'.length cap')) (ks.set i (.node s' ks')) (some ⟨g,0,none⟩) cb:=by
  obtain ⟨xs,h1,h2⟩:=hown
  obtain ⟨g,cb,cur,rfl,hbg,hg,hnc,hcm⟩:=frozen_own h1 (by omega)
  have h2:Tvals (fun j=>S j∧j < w0.heap.size) w ks xs:=h2.carry fun k hS hl=>⟨Below.block hp k hl,hS,hl⟩
  have hka:KidsAt (fun j=>S j∧j < w0.heap.size) w ks g 0:=h2.kidsAt fun j u hj=>by
    have:=h1.cells (g:=g) rfl j u hj
    rw [Addr.add_lit] at this;exact this
  obtain ⟨u0,u1,e0,e1,_⟩:=hka.get i hi
  rw [Nat.zero_add] at e0 e1
  refine ⟨g,cb,rfl,hbg,blk_lt hg,fun j=>blk_frozen hg,⟨by rw [List.length_set];exact hnc,hcm⟩,g,0,fun _=>⟨rfl,.inr (.inr hbg)⟩,KidsAt.mk fun j hj=>?_⟩
  have hj':j < ks.length:=by rw [List.length_set] at hj;exact hj
  have hkept:∀ k,k≠g→((w.setCell ⟨g,i * 2,none⟩ (.int .i64 s')).setCell ⟨g,i * 2+1,none⟩ (.slice oa' ks'.length cap')).heap[k]? = w.heap[k]? := fun k hk=>by
    rw [Below.heap_setCell _ _ _ _ hk,Below.heap_setCell _ _ _ _ hk]
  simp only [Nat.zero_add]
  by_cases hij:i=j
  · subst hij
    have hb1:=blk_set (o:=i * 2) hg (.int .i64 s')
    have hlen:i * 2+1 < cur.size:=by
      have:=e1
      rw [blk_cell hg] at this
      exact (Array.getElem?_eq_some_iff.1 this).1
    refine ⟨.int .i64 s',.slice oa' ks'.length cap',?_,?_,?_⟩
    · rw [cell_off (by omega),blk_cell hb1,Array.getElem?_setIfInBounds,if_pos rfl,if_pos (by omega)]
    · rw [blk_cell (blk_set (o:=i * 2+1) hb1 _),Array.getElem?_setIfInBounds,if_pos rfl,if_pos (by rw [Array.size_setIfInBounds];omega)]
    · rw [List.getElem_set_self]
      exact (treeV_mk cap' trivial hk').carry fun k hS' _=>⟨hkept k (fun e=>hS2 k hS' (by simp [Value.ownBlock,e])),.inr (.inl hS')⟩
  · obtain ⟨vl,vk,f0,f1,ht⟩:=hka.get j hj'
    rw [Nat.zero_add] at f0 f1
    refine ⟨vl,vk,?_,?_,?_⟩
    · rw [cell_off (by omega),cell_off (by omega)];exact f0
    · rw [cell_off (by omega),cell_off (by omega)];exact f1
    · rw [List.getElem_set_ne hij]
      exact ht.carry fun k hS' _=>⟨hkept k (by have:=hS'.2;omega),.inl hS'.1⟩
theorem Tvals.get {S:Nat→Prop} {w:World}:∀ {ts:List Mk} {xs},Tvals S w ts xs→∀ (i:Nat) (h:i < ts.length),∃ vl vk,xs[i * 2]? = some vl∧xs[i * 2+1]? = some vk∧TreeV S w ts[i] vl vk
  | _ :: _,_,⟨vl,vk,ys,h1,h2,_⟩,0,_=>by subst h1;exact ⟨vl,vk,rfl,rfl,h2⟩
  | _ :: _,_,⟨vl,vk,ys,h1,_,h3⟩,i+1,h=>by
    subst h1
    obtain ⟨a,b,e1,e2,e3⟩:=h3.get i (by simpa using h)
    refine ⟨a,b,?_,?_,e3⟩
    · rw [show (i+1) * 2=i * 2+2 by omega];simpa using e1
    · rw [show (i+1) * 2+1=i * 2+1+2 by omega];simpa using e2
theorem OwnsX.get {S:Nat→Prop} {w0 w:World} {base:Nat} {v:Value} {ks:List Mk} (hown:OwnsX S w0 base w v ks) (i:Nat) (hi:i < ks.length):∃ g cb s' ks' oa' cap',v=.slice (some ⟨g,0,none⟩) ks.length cb∧base≤g∧ks[i]=.node s' ks' ∧
    w.cell? ⟨g,i * 2,none⟩=some (.int .i64 s')∧w.cell? ⟨g,i * 2+1,none⟩=some (.slice oa' ks'.length cap')∧Kids S w0 ks' oa' cap':=by
  obtain ⟨xs,h1,h2⟩:=hown
  obtain ⟨g,cb,cur,rfl,hbg,hg,hnc,hcm⟩:=frozen_own h1 (by omega)
  obtain ⟨vl,vk,g1,g2,g3⟩:=h2.get i hi
  have c0:=h1.cells (g:=g) rfl _ _ g1;have c1:=h1.cells (g:=g) rfl _ _ g2
  rw [Addr.add_lit,Nat.zero_add] at c0 c1
  revert g3
  cases hk:ks[i] with
  | node s' ks' =>
    intro g3
    obtain ⟨⟨rfl,_⟩,oa',cap',rfl,g⟩:=treeV_iff.1 g3
    exact ⟨_,cb,s',ks',oa',cap',rfl,hbg,rfl,c0,c1,g⟩
end Mrk
def MDoPost (S:Nat→Prop) (w:World) (r:Mk) (e:Ending) (w':World):Prop :=
  ∃ s ms oa cap,r=.node s ms∧e=.returned (.agg #[.int .i64 s,.slice oa ms.length cap])∧Mrk.Kids (fun j=>S j∨w.heap.size≤j) w' ms oa cap∧Pr w w'
end Go.Proofs.YtdbnfhpgmcjngabGreatDoor
/- Walks: a mark's deed. -/
namespace Go.Proofs.YtdbnfhpgmcjngabGreatDoor
open Go Go.RowKit
section
variable {S:Nat→Prop} {s:Int} {ms:List Mk} {oa:Option Addr} {cap:Nat} {k a m now:Int} {lab:ByteArray} {pa:Option Addr} {pc:Nat} {w:World}
set_option maxRecDepth 100000 in
set_option maxHeartbeats 6400000 in
theorem mdo_in (x:Nat) (q:List Int) (R:Mk) (hms:ms.length≤1000) (hk:Mrk.Kids S w ms oa cap) (hq:Ints Any w ((x:Int) :: q) pa pc) (hlast:k=2→q≠[]) (hx:x < ms.length)
    (hrec:∀ (S':Nat→Prop) (s':Int) (ks':List Mk) (oa':Option Addr) (cap':Nat) (qa':Option Addr) (qc':Nat) (W':World),ms[x]=.node s' ks'→Mrk.Kids S' W' ks' oa' cap'→Ints Any W' q qa' qc' →
      Calls Tryz.prog 114 #[.agg #[.int .i64 s',.slice oa' ks'.length cap'],.agg #[.int .i64 k,.slice qa' q.length qc',.int .i64 a,.int .i64 m,.string lab],.int .i64 now] W' (MDoPost S' W' R)) :
    Calls Tryz.prog 114 #[.agg #[.int .i64 s,.slice oa ms.length cap],.agg #[.int .i64 k,.slice pa (q.length+1) pc,.int .i64 a,.int .i64 m,.string lab],.int .i64 now] w (MDoPost S w (.node s (ms.set x R))):=by
  have hm:=hk.len
  have hmq:=Ints.len hq
  simp only [List.length_cons] at hmq
  obtain ⟨bq,oq,rfl,hq0⟩:=Ints.get hq 0 (by simp)
  simp only [List.getElem_cons_zero,Nat.add_zero] at hq0
  have ht:Ints Any w q (if pc=1 then some ⟨bq,oq,none⟩ else some ⟨bq,oq+1,none⟩) (pc - 1):=Flat.tail (v:=.int .i64 (x:Int)) (vs:=ints q) hq
  have hqc:q.length+1≤pc:=by have:=hq.1.1;simpa using this
  have hpm:pc≤9223372036854775807:=by have:=hq.1.2;unfold maxLen at this;omega
  obtain ⟨W,hW⟩:∃ W,W=((w.alloc (.cells #[.int .i64 s,.slice oa ms.length cap] 173)).alloc (.cells #[.int .i64 k,.slice (some ⟨bq,oq,none⟩) (q.length+1) pc,.int .i64 a,.int .i64 m,.string lab] 72)).alloc (.cells #[.int .i64 0,.slice none 0 0] 173):=⟨_,rfl⟩
  have hwW:Pr w W:=by rw [hW];exact ((Pr.alloc _ _).alloc' _).alloc' _
  have hWs:W.heap.size=w.heap.size+3:=by rw [hW];simp
  have S0:=Lib.hid (show W.cell? ⟨w.heap.size,0,none⟩=some (.int .i64 s) by rw [hW];simp [go_sem])
  have s1:=stays (show W.cell? ⟨w.heap.size,1,none⟩=some (.slice oa ms.length cap) by rw [hW];simp [go_sem])
  have d0:=stays (show W.cell? ⟨w.heap.size+1,0,none⟩=some (.int .i64 k) by rw [hW];simp [go_sem])
  have d1:=stays (show W.cell? ⟨w.heap.size+1,1,none⟩=some (.slice (some ⟨bq,oq,none⟩) (q.length+1) pc) by rw [hW];simp [go_sem])
  have d2:=stays (show W.cell? ⟨w.heap.size+1,2,none⟩=some (.int .i64 a) by rw [hW];simp [go_sem])
  have d3:=stays (show W.cell? ⟨w.heap.size+1,3,none⟩=some (.int .i64 m) by rw [hW];simp [go_sem])
  have d4:=stays (show W.cell? ⟨w.heap.size+1,4,none⟩=some (.string lab) by rw [hW];simp [go_sem])
  have hR:W.heap[w.heap.size+2]? = some (.cells #[.int .i64 0,.slice none 0 0] 173 (0,0)):=by
    rw [hW];simpa using heap_alloc_new ((w.alloc (.cells #[.int .i64 s,.slice oa ms.length cap] 173)).alloc (.cells #[.int .i64 k,.slice (some ⟨bq,oq,none⟩) (q.length+1) pc,.int .i64 a,.int .i64 m,.string lab] 72)) (.cells #[.int .i64 0,.slice none 0 0] 173)
  have cq:=stays (hwW.cell hq0)
  have Cq0:=Lib.hid hq0
  have HR:=Lib.hid hR;have HW:=Lib.hid hwW;have HWs:=Lib.hid hWs;have HK:=Lib.hid hk;have HT:=Lib.hid ht;have Hrec:=Lib.hid hrec;have Hlast:=Lib.hid hlast
  have CL:=Lib.hid (Mrk.cloneM_own (fun j=>S j∧j < w.heap.size) ms oa cap W ((hk.carry (S':=fun j=>S j∧j < w.heap.size) fun j hS hl=>⟨rfl,hS,hl⟩).pr hwW) (by omega))
  clear hR hwW hWs hk ht hrec hlast hq hq0
  go_enter Tryz.func114,Tryz.ntmps114
  go_upto_region 1 with fail
  rw [← hW];clear hW
  go_cut [7] from 12 to 20 (fun v7 wx=>v7=.bool false∧wx=W)
  case first =>
    have x0:=d0 _ (Pr.refl _);have x1:=d1 _ (Pr.refl _)
    by_cases h2:k=2
    · have e2:(k==2)=true:=by simp [h2]
      have hql:0 < q.length:=List.length_pos_iff.2 (Hlast.out h2)
      have z2:((q.length:Int)+1==1)=false:=by rw [beq_eq_false_iff_ne];omega
      clear h2
      go_wp2_with fail
      go_meet
      exact ⟨rfl,rfl⟩
    · have e2:(k==2)=false:=by simp [h2]
      clear h2
      go_wp2_with fail
      go_meet
      exact ⟨rfl,rfl⟩
  case rest =>
    obtain ⟨rfl,hwc⟩:=hcut
    rw [hwc]
    clear hwc
    have x1:=d1 _ (Pr.refl _);have y1:=s1 _ (Pr.refl _)
    have hq1:(0:Int) < (q.length:Int)+1:=by omega
    go_upto_region 4 with (go_at_call 142;(with_reducible refine Calls.mono CL.out ?_);rintro e w1 ⟨⟨v1,rfl,ho1⟩,hb1⟩)
    have hz1:=Below.size hb1
    have Hb1:=Lib.hid hb1;have Ho1:=Lib.hid ho1
    have z0:=d0 _ hb1;have z1:=d1 _ hb1;have z2:=d2 _ hb1;have z3:=d3 _ hb1;have z4:=d4 _ hb1
    clear ho1 hb1 x1 y1
    go_upto_region 5 with fail
    obtain ⟨V,hV⟩:∃ V,V=w1.alloc (.cells #[.int .i64 k,.slice (some ⟨bq,oq,none⟩) (q.length+1) pc,.int .i64 a,.int .i64 m,.string lab] 72):=⟨_,rfl⟩
    have hpV:Pr w1 V:=by rw [hV];exact Pr.alloc _ _
    have hTV:V.heap[w1.heap.size]? = some (.cells #[.int .i64 k,.slice (some ⟨bq,oq,none⟩) (q.length+1) pc,.int .i64 a,.int .i64 m,.string lab] 72 (0,0)):=by rw [hV];exact heap_alloc_new w1 _
    have hVs:V.heap.size=w1.heap.size+1:=by rw [hV];simp
    rw [← hV]
    have x1:=d1 _ (Hb1.out.trans hpV)
    have b1:=blk_cell (o:=1) hTV;have f1:=blk_frozen (o:=1) hTV
    have HpV:=Lib.hid hpV;have HTV:=Lib.hid hTV;have HVs:=Lib.hid hVs
    clear hV hpV hTV hVs z0 z1 z2 z3 z4
    go_cut [9] from 33 to 36 (fun v9 wx=>v9=.pointer (some ⟨w1.heap.size,0,none⟩)∧∃ qa' ,wx.heap[w1.heap.size]? = some (.cells #[.int .i64 k,.slice qa' q.length (pc - 1),.int .i64 a,.int .i64 m,.string lab] 72 (0,0))∧Ints Any wx q qa' (pc - 1)∧Pr w1 wx)
    case first =>
      have hqq:(1:Int)≤(q.length:Int)+1:=by omega
      by_cases h1:pc=1
      · subst h1
        have ht:=HT.out
        rw [if_pos rfl] at ht
        have Hq0:=Lib.hid (show q.length=0 by omega)
        have Ht:=Lib.hid ht
        clear ht hqc
        go_wp2_with fail
        go_meet
        refine ⟨rfl,_,blk_set (o:=1) HTV.out _,?_,HpV.out.setCell (by simp) _⟩
        exact Flat.pr ((HW.out.trans (Hb1.out.trans HpV.out)).setCell (by have:=Below.size HW.out;simp;omega) _) Ht.out
      · have ht:=HT.out
        rw [if_neg h1] at ht
        have Ht:=Lib.hid ht
        clear ht
        go_wp2_with fail
        go_meet
        refine ⟨rfl,_,blk_set (o:=1) HTV.out _,?_,HpV.out.setCell (by simp) _⟩
        exact Flat.pr ((HW.out.trans (Hb1.out.trans HpV.out)).setCell (by have:=Below.size HW.out;simp;omega) _) Ht.out
    case rest =>
      obtain ⟨rfl,qa,hD,hqi,hpx⟩:=hcut
      obtain ⟨wx,hwx⟩:∃ wx,wx=wc:=⟨_,rfl⟩
      subst hwx
      have hpWx:=Hb1.out.trans hpx
      obtain ⟨g,cb,s',ks',oa',cap',rfl,hbg,hek,k0,k1,hkk⟩:=Ho1.out.get x hx
      have k0:=hpx.cell k0;have k1:=hpx.cell k1
      have x1:=d1 _ hpWx;have x2:=cq _ hpWx;have cq0:=Cq0.out
      have b0:=blk_cell (o:=0) hD;have b1:=blk_cell (o:=1) hD;have b2:=blk_cell (o:=2) hD;have b3:=blk_cell (o:=3) hD;have b4:=blk_cell (o:=4) hD
      have hgw:=lt_of_cell k0
      have i0:(0:Int)≤(x:Int):=by omega
      have i1:(x:Int) < (ms.length:Int):=by omega
      have hq1:(0:Int) < (q.length:Int)+1:=by omega
      have REC:Hid (∀ W',Pr wx W'→Calls Tryz.prog 114 #[.agg #[.int .i64 s',.slice oa' ks'.length cap'],.agg #[.int .i64 k,.slice qa q.length (pc - 1),.int .i64 a,.int .i64 m,.string lab],.int .i64 now] W' (MDoPost (fun j=>S j∧j < w.heap.size) W' R)):=Lib.hid fun W' h =>
        Hrec.out _ s' ks' oa' cap' qa (pc - 1) W' hek ((hkk.pr Hb1.out).pr (hpx.trans h)) (Flat.pr h hqi)
      have HD:=Lib.hid hD;have Hpx:=Lib.hid hpx;have Hqi:=Lib.hid hqi;have Hek:=Lib.hid hek
      have Ho2:=Lib.hid (Ho1.out.pr hpx)
      clear hD hpx hqi hek hkk f1 hpWx s1 d0 d1 d2 d3 d4 cq CL Hrec
      have hg9:∃ cur,wx.heap[g]? = some (.cells cur 173 (0,0)):=by
        obtain ⟨xs,hro,_⟩:=Ho2.out
        obtain ⟨g9,_,cur,e9,_,hg9,_⟩:=frozen_own hro (by omega)
        cases e9
        exact ⟨cur,hg9⟩
      obtain ⟨cur,hg9⟩:=hg9
      have Hg9:=Lib.hid hg9
      clear hg9
      go_upto_region 6 with fail
      have KP:∀ b j (v:Value),b≠g→wx.cell? ⟨b,j,none⟩=some v→∀ W',Chg (fun j=>j=g) wx W'→W'.cell? ⟨b,j,none⟩=some v:=fun b j v h1 h2 W' h=>by
        rw [World.cell?_of_block (h.block b (lt_of_cell h2) h1)];exact h2
      have hg0:w.heap.size+3≤g:=by have:=HWs.out;omega
      have hg1:g < w1.heap.size:=(Ho1.out.block g rfl).2
      have X1:=KP _ _ _ (by omega) x1;have X2:=KP _ _ _ (by have:=lt_of_cell (cq0);omega) x2
      have B0:=KP _ _ _ (by omega) b0;have B1:=KP _ _ _ (by omega) b1;have B2:=KP _ _ _ (by omega) b2;have B3:=KP _ _ _ (by omega) b3;have B4:=KP _ _ _ (by omega) b4
      clear KP x1 x2 b0 b1 b2 b3 b4
      refine wp_region_held_drew (S:=fun W'=>Chg (fun j=>j=g) wx W') (by kernel_rfl) ((Pr.drew wx).chg _) (fun hHeld=>?_)
      refine wpAnyH_take (i:=0) (v:=?_) rfl (by kernel_rfl) (by kernel_rfl) (by kernel_rfl) (fun _ _ _ h=>h) (Or.inl ⟨by rfl,?_⟩) (by assumption) ?_
      rotate_left
      · (intro w hSw;(try dsimp only at hSw);go_simp) <;> with_reducible rfl
      try simp only [Act.put,List.setIfInBounds_toArray]
      refine wpAnyH_take (i:=1) (v:=?_) rfl (by kernel_rfl) (by kernel_rfl) (by kernel_rfl) (fun _ _ _ h=>h) (Or.inl ⟨by rfl,?_⟩) (by assumption) ?_
      rotate_left
      · (intro w hSw;(try dsimp only at hSw);go_simp) <;> with_reducible rfl
      try simp only [Act.put]
      refine wpAnyH_take (i:=2) (v:=?_) rfl (by kernel_rfl) (by kernel_rfl) (by kernel_rfl) (fun _ _ _ h=>h) (Or.inl ⟨by rfl,?_⟩) (by assumption) ?_
      rotate_left
      · (intro w hSw;(try dsimp only at hSw);go_simp) <;> with_reducible rfl
      try simp only [Act.put]
      refine wpAnyH_take (i:=3) (v:=?_) rfl (by kernel_rfl) (by kernel_rfl) (by kernel_rfl) (fun _ _ _ h=>h) (Or.inl ⟨by rfl,?_⟩) (by assumption) ?_
      rotate_left
      · (intro w hSw;(try dsimp only at hSw);go_simp) <;> with_reducible rfl
      try simp only [Act.put]
      refine wpAnyH_take (i:=4) (v:=?_) rfl (by kernel_rfl) (by kernel_rfl) (by kernel_rfl) (fun _ _ _ h=>h) (Or.inl ⟨by rfl,?_⟩) (by assumption) ?_
      rotate_left
      · (intro w hSw;(try dsimp only at hSw);go_simp) <;> with_reducible rfl
      try simp only [Act.put]
      refine wpAnyH_take (i:=5) (v:=?_) rfl (by kernel_rfl) (by kernel_rfl) (by kernel_rfl) (fun _ _ _ h=>h) (Or.inl ⟨by rfl,?_⟩) (by assumption) ?_
      rotate_left
      · (intro w hSw;(try dsimp only at hSw);go_simp) <;> with_reducible rfl
      try simp only [Act.put]
      refine wpAnyH_take (i:=6) (v:=?_) rfl (by kernel_rfl) (by kernel_rfl) (by kernel_rfl) (fun _ _ _ h=>h) (Or.inl ⟨by rfl,?_⟩) (by assumption) ?_
      rotate_left
      · (intro w hSw;(try dsimp only at hSw);go_simp) <;> with_reducible rfl
      try simp only [Act.put]
      refine wpAnyH_take (i:=7) (v:=?_) rfl (by kernel_rfl) (by kernel_rfl) (by kernel_rfl) (fun _ _ _ h=>h) (Or.inl ⟨by rfl,?_⟩) (by assumption) ?_
      rotate_left
      · (intro w hSw;(try dsimp only at hSw);go_simp) <;> with_reducible rfl
      try simp only [Act.put]
      refine wpAnyH_take (i:=8) (v:=?_) rfl (by kernel_rfl) (by kernel_rfl) (by kernel_rfl) (fun _ _ _ h=>h) (Or.inl ⟨by rfl,?_⟩) (by assumption) ?_
      rotate_left
      · (intro w hSw;(try dsimp only at hSw);go_simp) <;> with_reducible rfl
      try simp only [Act.put]
      refine wpAnyH_take (i:=9) (v:=?_) rfl (by kernel_rfl) (by kernel_rfl) (by kernel_rfl) (fun _ _ _ h=>h) (Or.inl ⟨by rfl,?_⟩) (by assumption) ?_
      rotate_left
      · (intro w hSw;(try dsimp only at hSw);go_simp) <;> with_reducible rfl
      try simp only [Act.put]
      refine wpAnyH_take (i:=10) (v:=?_) rfl (by kernel_rfl) (by kernel_rfl) (by kernel_rfl) (fun _ _ _ h=>h) (Or.inl ⟨by rfl,?_⟩) (by assumption) ?_
      rotate_left
      · (intro w hSw;(try dsimp only at hSw);go_simp) <;> with_reducible rfl
      try simp only [Act.put]
      refine wpAnyH_take (i:=12) (v:=?_) rfl (by kernel_rfl) (by kernel_rfl) (by kernel_rfl) (fun _ _ _ h=>h) (Or.inl ⟨by rfl,?_⟩) (by assumption) ?_
      rotate_left
      · (intro w hSw;(try dsimp only at hSw);go_simp) <;> with_reducible rfl
      try simp only [Act.put]
      refine wpAnyH_take (i:=13) (v:=?_) rfl (by kernel_rfl) (by kernel_rfl) (by kernel_rfl) (fun _ _ _ h=>h) (Or.inl ⟨by rfl,?_⟩) (by assumption) ?_
      rotate_left
      · (intro w hSw;(try dsimp only at hSw);go_simp) <;> with_reducible rfl
      try simp only [Act.put]
      refine wpAnyH_ready (rs:=[11]) (by kernel_rfl) (by simp) ?_
      refine AllReadyH.cons rfl (fun K hK=>?_) AllReadyH.nil
      go_simp
      refine hK.out _ _ hHeld (fun hHeld=>?_)
      clear hK K
      try simp only [Act.put,List.setIfInBounds_toArray,List.set_cons_zero,List.set_cons_succ]
      refine wpAnyH_ready (rs:=[14]) (by kernel_rfl) (by simp) ?_
      refine AllReadyH.cons rfl (fun K hK=>?_) AllReadyH.nil
      go_simp
      go_at_call 114;(with_reducible refine Calls.mono (REC.out _ (Pr.drew wx)) ?_);rintro e w4 ⟨s5,k5,o5,c5,hr5,rfl,hk5,hb4⟩;have hp4:=(Pr.drew wx).trans hb4;have m0:=hp4.cell k0;have m1:=hp4.cell k1;have fz0:=blk_frozen (o:=x * 2) (hp4.blk Hg9.out);have fz1:=blk_frozen (o:=x * 2+1) (hp4.blk Hg9.out)
      refine hK.out _ _ (hp4.chg _) (fun hHeld=>?_)
      clear hK K
      try simp only [Act.put,List.setIfInBounds_toArray,List.set_cons_zero,List.set_cons_succ]
      refine wpAnyH_take (i:=15) (v:=?_) rfl (by kernel_rfl) (by kernel_rfl) (by kernel_rfl) (fun _ _ _ h=>h) (Or.inl ⟨by rfl,?_⟩) (by assumption) ?_
      rotate_left
      · (intro w hSw;(try dsimp only at hSw);go_simp) <;> with_reducible rfl
      try simp only [Act.put]
      refine wpAnyH_ready (rs:=[16]) (by kernel_rfl) (by simp) ?_
      refine AllReadyH.cons rfl (fun K hK=>?_) AllReadyH.nil
      go_simp
      refine hK.out _ _ (Chg.setCell (Chg.setCell (hp4.chg (fun j=>j=g)) ⟨g,x * 2,none⟩ (.int .i64 s5) (.inl rfl)) ⟨g,x * 2+1,none⟩ (.slice o5 k5.length c5) (.inl rfl)) (fun hHeld=>?_)
      clear hK K
      try simp only [Act.put,List.setIfInBounds_toArray,List.set_cons_zero,List.set_cons_succ]
      refine wpAnyH_done (by kernel_rfl) ?_ _
      have hwx:=Below.size Hpx.out
      obtain ⟨g',cb',hv,_,_,_,hset⟩:=Mrk.mkids_set (Ho2.out.pr hp4) ((Hb1.out.trans Hpx.out).trans hp4) hx (S2:=fun j=>(S j∧j < w.heap.size)∨wx.heap.size≤j) (s':=s5) (fun j hj e=>by
        have e2:g=j:=Option.some.inj e
        rcases hj with h | h <;> omega) hk5
      rw [Value.slice.injEq,Option.some.injEq,Addr.mk.injEq] at hv
      obtain ⟨⟨rfl,_,_⟩,_,rfl⟩:=hv
      obtain ⟨wz,hwz⟩:∃ wz,wz=(w4.setCell ⟨g,x * 2,none⟩ (.int .i64 s5)).setCell ⟨g,x * 2+1,none⟩ (.slice o5 k5.length c5):=⟨_,rfl⟩
      have hcz:Chg (fun j=>j=g) W wz:=by rw [hwz];exact Chg.setCell (Chg.setCell (((Hb1.out.trans Hpx.out).trans hp4).chg (fun j=>j=g)) ⟨g,x * 2,none⟩ (.int .i64 s5) (.inl rfl)) ⟨g,x * 2+1,none⟩ (.slice o5 k5.length c5) (.inl rfl)
      rw [← hwz] at hset ⊢
      have hpz:Pr w wz:=by rw [hwz];exact ((HW.out.trans ((Hb1.out.trans Hpx.out).trans hp4)).setCell (by simp;omega) _).setCell (by simp;omega) _
      have hRz:=hcz.blk HR.out (by omega)
      have q0:=blk_cell (o:=0) hRz;have q1:=blk_cell (o:=1) hRz;have q2:=blk_frozen (o:=0) hRz;have q3:=blk_frozen (o:=1) hRz
      have q4:wz.cell? ⟨w.heap.size,0,none⟩=some (.int .i64 s):=by rw [World.cell?_of_block (hcz.block w.heap.size (by have:=HWs.out;omega) (by omega))];exact S0.out
      have Hset:=Lib.hid hset;have Hpz:=Lib.hid hpz;have Hr5:=Lib.hid hr5
      clear hwz hcz hset hpz hRz hr5 hHeld m0 m1 fz0 fz1 k0 k1 X1 X2 B0 B1 B2 B3 B4
      go_wp2_with fail
      have hr5:=Hr5.out
      subst hr5
      have hln:(ms.set x (Mk.node s5 k5)).length=ms.length:=List.length_set
      refine bodyPost_ret (v:=.agg #[.int .i64 s,.slice (some ⟨g,0,none⟩) ms.length cb]) (by simp [results,Tryz.results114,go_sem,q0,q1]) rfl ⟨s,_,_,_,rfl,by rw [hln],?_,?_⟩
      · refine ((Hset.out.mono (S':=fun j=>(S j∨w.heap.size≤j)∧j≠w.heap.size+2) fun j hj _=>?_).carry fun j hj hl=>⟨?_,hj.1⟩)
        · have:=HWs.out
          rcases hj with h | h | h
          · exact ⟨.inl h.1,by omega⟩
          · rcases h with h | h
            · exact ⟨.inl h.1,by omega⟩
            · exact ⟨.inr (by omega),by omega⟩
          · exact ⟨.inr (by omega),by omega⟩
        · rw [Below.heap_setCell _ _ _ _ (by simpa using hj.2),Below.heap_setCell _ _ _ _ (by simpa using hj.2)]
      · exact (Hpz.out.setCell (by simp;omega) _).setCell (by simp;omega) _
end
end Go.Proofs.YtdbnfhpgmcjngabGreatDoor
