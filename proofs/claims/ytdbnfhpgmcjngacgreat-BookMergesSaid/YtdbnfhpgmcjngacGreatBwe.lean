/- Walks: trees in memory of their own. -/
import Derived.Test.YtdbnfhpgmcjngacGreatBwa
import Derived.Test.YtdbnfhpgmcjngacGreatBmt
namespace Go.Proofs.YtdbnfhpgmcjngacGreat
open Go Go.RowKit
def OwnPost (w:World) (l:ByteArray) (ks:List Tr) (e:Ending) (w':World):Prop:=∃ oa cap,e=.returned (.agg #[.string l,.slice oa ks.length cap])∧Kids (From w.heap.size) w' ks oa cap∧Pr w w'
def OwnListPost (w:World) (ks:List Tr) (e:Ending) (w':World):Prop:=∃ v,e=.returned v∧OwnsTs w.heap.size w' v ks∧Pr w w'
theorem Pr.grown {w w1 w2:World} {v:Value} {ts:List Tr} (h:Pr w w1) (hown:OwnsTs w.heap.size w1 v ts) (hg:w1.grownBy w2 v.ownBlock):Pr w w2 :=
  Below.grown h hg h.size fun k hk=>(hown.block k hk).1
theorem apart_new {w:World} {b:Nat} {v:Value} {ts:List Tr} (hown:OwnsTs b w v ts) (hb:b≤w.heap.size) {n:Nat}:∀ k,From w.heap.size k→k < n→Apart b v k:=by
  intro k hk _
  have hk':w.heap.size≤k:=hk
  refine ⟨by omega,fun e=>?_⟩
  have:=(hown.block k e).2;omega
set_option maxHeartbeats 1600000 in
theorem rown_both (N:Nat) :
    (∀ (l:ByteArray) (ks:List Tr) (oa cap) (w:World),Tr.szL ks < N→Tr.szL ks≤1000000→Kids Any w ks oa cap →
      Calls Tryz.prog 24 #[.agg #[.string l,.slice oa ks.length cap]] w (OwnPost w l ks)) ∧
    (∀ (ks:List Tr) (oa cap) (w:World),Tr.szL ks < N→Tr.szL ks≤1000000→Kids Any w ks oa cap →
      Calls Tryz.prog 42 #[.slice oa ks.length cap] w (OwnListPost w ks)):=by
  induction N with
  | zero=>exact ⟨fun l ks oa cap w hN=>by omega,fun ks oa cap w hN=>by omega⟩
  | succ N ih =>
    have Ih:=Lib.hid ih.1;clear ih
    have lists:∀ (ks:List Tr) (oa cap) (w:World),Tr.szL ks < N+1→Tr.szL ks≤1000000→Kids Any w ks oa cap →
        Calls Tryz.prog 42 #[.slice oa ks.length cap] w (OwnListPost w ks):=by
      intro ks oa cap w hN hsm hk
      have hm:=hk.len
      have hm2:=Tr.length_le ks
      go_enter Tryz.func42,Tryz.ntmps42
      go_wp2_with fail
      go_loopw [3,4] (fun v i wr=>∃ (k:Nat),k≤ks.length∧i=.int .i64 k∧OwnsTs w.heap.size wr v (ks.take k)∧Pr w wr) (fun _ i _=>ks.length - (intOf i).toNat)
      case atStart=>exact ⟨0,by omega,rfl,by simpa using OwnsTs.nil _ _,Pr.refl _⟩
      case round =>
        obtain ⟨k,hkl,rfl,hown,hb⟩:=hrel
        by_cases hlt:k < ks.length
        · obtain ⟨b,o,l',ks',oa',cap',e1,hl',rfl,c0,c1,hk'⟩:=(hk.pr hb).get k hlt
          have hsz:=Tr.szL_get ks k hlt
          have hsn:=List.take_succ_eq_append_getElem hlt
          rw [e1] at hsz hsn
          have Hsn:=Lib.hid hsn
          clear e1 hsn
          simp only [Tr.sz] at hsz
          have htl:(ks.take k).length≤1000000:=by rw [List.length_take];omega
          go_wp2_with (first
            | (go_at_call 24;refine (Ih.out _ _ _ _ _ (by omega) (by omega) hk').mono ?_;rintro e w1 ⟨oa2,cap2,rfl,hk2,hb1⟩)
            | (at_builtin;go_must (refine app_tree rfl _ _ rfl w.heap.size _ _ rfl ((hown.pr hb1).pr (Pr.alloc _ _)) w1.heap.size rfl (.node l' ks') _ _ (heap_alloc_new w1 _) (treeV_mk cap2 hl' ((hk2.pr (Pr.alloc _ _)).mono (apart_new hown hb.size))) (by omega) (by simp;have:=hb.size;have:=hb1.size;omega) ?_);intro g cap3 w2 ho2 hg2 hat2))
          refine ⟨⟨k+1,by omega,by go_num,?_,?_⟩,?_⟩
          · have hl2:(ks.take k).length=k:=by simp;omega
            rw [hl2] at ho2;rw [Hsn.out];exact ho2
          · exact Pr.grown ((hb.trans hb1).alloc' _) ((hown.pr hb1).pr (Pr.alloc _ _)) hg2
          · simp [intOf];omega
        · have hkv:k=ks.length:=by omega
          go_wp2_with fail
          go_ret
          subst hkv
          rw [List.take_length] at hown
          exact ⟨_,rfl,hown,hb⟩
    refine ⟨?_,lists⟩
    intro l ks oa cap w hN hsm hk
    have Hl:=Lib.hid lists;clear lists
    go_enter Tryz.func24,Tryz.ntmps24
    go_wp2_with fail
    go_region_held3 (fun w'=>w'.cell? ⟨w.heap.size,0,none⟩=some (.string l)∧w'.cell? ⟨w.heap.size,1,none⟩=some (.slice oa ks.length cap))
      (first | go_keep | exact ⟨hb1.cell (by simp [go_sem]),hb1.cell (by simp [go_sem])⟩)
      (first | (go_at_call 42;refine (Hl.out _ _ _ _ (by omega) (by omega) (hk.pr (Pr.drew' (Pr.alloc' (Pr.alloc _ _) _)))).mono ?_;rintro e w1 ⟨v,rfl,hown,hb1⟩;obtain ⟨oa2,cap2,rfl,hk2⟩:=hown.kids;have r0:=hb1.cell (b:=w.heap.size+1) (o:=0) (v:=.string ⟨#[]⟩) (by simp [go_sem]);have r1:=hb1.cell (b:=w.heap.size+1) (o:=1) (v:=.slice none 0 0) (by simp [go_sem]);have f0:w1.frozen? ⟨w.heap.size+1,0,none⟩=false:=(by rw [hb1.frozen (by simp)];simp [go_sem]);have f1:w1.frozen? ⟨w.heap.size+1,1,none⟩=false:=(by rw [hb1.frozen (by simp)];simp [go_sem])))
    go_wp2_with fail
    refine bodyPost_ret (v:=.agg #[.string l,.slice oa2 ks.length cap2]) (by simp [results,Tryz.results24,go_sem,r0,r1]) rfl ⟨oa2,cap2,rfl,?_,?_⟩
    · exact ((hk2.setCell _ _ (by simp)).setCell _ _ (by simp)).from (by simp;omega)
    · exact ((((Pr.alloc _ _).alloc' _).drew'.trans hb1).setCell (by simp) _).setCell (by simp) _
theorem rown_any (l:ByteArray) (ks:List Tr) (oa cap) (w:World) (h:Tr.szL ks≤1000000) (hk:Kids Any w ks oa cap) :
    Calls Tryz.prog 24 #[.agg #[.string l,.slice oa ks.length cap]] w (OwnPost w l ks):=(rown_both _).1 l ks oa cap w (Nat.lt_succ_self _) h hk
theorem rownList_any (ks:List Tr) (oa cap) (w:World) (h:Tr.szL ks≤1000000) (hk:Kids Any w ks oa cap) :
    Calls Tryz.prog 42 #[.slice oa ks.length cap] w (OwnListPost w ks):=(rown_both _).2 ks oa cap w (Nat.lt_succ_self _) h hk
set_option maxHeartbeats 1600000 in
theorem own_step (N : Nat) : ∀ (l : ByteArray) (ks : List Tr) (oa cap) (w : World), Tr.szL ks < N → Tr.szL ks ≤ 1000000 → Kids Any w ks oa cap →
      Calls Tryz.prog 33 #[.agg #[.string l,.slice oa ks.length cap]] w (OwnPost w l ks):=by
  induction N with
  | zero=>intro l ks oa cap w hN;omega
  | succ N ih =>
    have Ih:=Lib.hid ih;clear ih
    intro l ks oa cap w hN hsm hk
    have hm:=hk.len
    have hm2:=Tr.length_le ks
    go_enter Tryz.func33,Tryz.ntmps33
    go_wp2_with fail
    go_loopw [12] (fun i wr=>∃ (k:Nat) (v:Value),k≤ks.length∧i=.int .i64 k∧OwnsTs (w.heap.size+1+1+1) wr v (ks.take k)∧wr.heap[w.heap.size+1+1]? = some (.cells #[.string l,v] 34 (0,0)) ∧
      Pr ((w.alloc (.cells #[.string l,.slice oa ks.length cap] 34)).alloc (.cells #[.string ⟨#[]⟩,.slice none 0 0] 34)) wr) (fun i _=>ks.length - (intOf i).toNat)
    case atStart=>exact ⟨0,.slice none 0 0,by omega,rfl,by simpa using OwnsTs.nil _ _,by simpa using heap_alloc_new ((w.alloc (.cells #[.string l,.slice oa ks.length cap] 34)).alloc (.cells #[.string ⟨#[]⟩,.slice none 0 0] 34)) (.cells #[.string l,.slice none 0 0] 34),Pr.alloc _ _⟩
    case round =>
      obtain ⟨k,v,hkl,rfl,hown,hblk,hb⟩:=hrel
      have hbs:=hb.size
      simp at hbs
      have g1:wr.cell? ⟨w.heap.size+1+1,1,none⟩=some v:=blk_cell hblk
      have g1':∀ o,(wr.alloc o).cell? ⟨w.heap.size+1+1,1,none⟩=some v:=fun o=>(Pr.alloc _ o).cell g1
      have g2:wr.frozen? ⟨w.heap.size+1+1,1,none⟩=false:=blk_frozen hblk
      have g3:=blk_lt hblk
      by_cases hlt:k < ks.length
      · obtain ⟨b,o,l',ks',oa',cap',e1,hl',rfl,c0,c1,hk'⟩:=((hk.pr (Pr.alloc' (Pr.alloc _ _) _)).pr hb).get k hlt
        have hsz:=Tr.szL_get ks k hlt
        have hsn:=List.take_succ_eq_append_getElem hlt
        rw [e1] at hsz hsn
        have Hsn:=Lib.hid hsn
        clear e1 hsn
        simp only [Tr.sz] at hsz
        have htl:(ks.take k).length≤1000000:=by rw [List.length_take];omega
        have Hbk:=Lib.hid hblk
        clear hblk
        go_wp2_with fail
        go_region_law (first
            | (go_simp;go_at_call 33;refine (Ih.out _ _ _ _ _ (by omega) (by omega) (hk'.pr (Pr.drew' (Pr.alloc _ _)))).mono ?_;rintro e w1 ⟨oa2,cap2,rfl,hk2,hb1⟩
               have s1:=hb1.cell ((Pr.drew' (Pr.alloc _ _)).cell g1);have s1':=fun o=>(Pr.alloc w1 o).cell s1;have s2:=hb1.cell (b:=wr.heap.size) (o:=0) (v:=.string l') (by simp [go_sem]);have s3:=hb1.cell (b:=wr.heap.size) (o:=1) (v:=.slice oa' ks'.length cap') (by simp [go_sem]))
            | (refine step_tree rfl _ _ rfl (w.heap.size+1+1+1) v (ks.take k) rfl (((hown.pr (Pr.drew' (Pr.alloc _ _))).pr hb1).pr (Pr.alloc _ _)) w1.heap.size rfl (.node l' ks') _ _ (heap_alloc_new w1 _) (treeV_mk cap2 hl' ((hk2.pr (Pr.alloc _ _)).mono (apart_new (hown.pr (Pr.drew' (Pr.alloc _ _))) (by simp;omega)))) (by omega) (by have:=hb1.size;simp at this ⊢;omega) ?_;intro g cap3 w2 ho2 hg2 hat2
               have n1:v.ownBlock≠some (w.heap.size+1+1):=fun e=>by have:=(hown.block _ e).1;omega
               have n2:v.ownBlock≠some wr.heap.size:=fun e=>by have:=(hown.block _ e).2;omega
               have B2:=Lib.hid (grown_blk hg2 ((Pr.alloc w1 _).blk (hb1.blk ((Pr.drew' (Pr.alloc _ _)).blk Hbk.out))) n1)
               have t1:w2.cell? ⟨w.heap.size+1+1,1,none⟩=some v:=blk_cell (o:=1) B2.out;have t2:=hg2.cell ((Pr.alloc w1 _).cell s2) (fun e=>n2 e.symm);have t3:=hg2.cell ((Pr.alloc w1 _).cell s3) (fun e=>n2 e.symm);have t4:=blk_frozen (o:=1) B2.out))
        all_goals
          go_wp2_with fail
          have hl2:(ks.take k).length=k:=by simp;omega
          rw [hl2] at ho2
          refine ⟨⟨k+1,.slice (some ⟨g,0,none⟩) (k+1) cap3,by omega,by go_num,?_,blk_set B2.out _,?_⟩,?_⟩
          · rw [Hsn.out];exact ho2.setCell _ _ (by simp)
          · refine Pr.setCell (Below.grown (((hb.trans ((Pr.alloc _ _).drew')).trans hb1).alloc' _) hg2 ?_ ?_) (by simp) _
            · have:=hb1.size;simp at this ⊢;omega
            · intro k' hk';have:=(hown.block k' hk').1;simp;omega
          · simp [intOf];omega
      · have hkv:k=ks.length:=by omega
        have r0:=hb.cell (b:=w.heap.size+1) (o:=0) (v:=.string ⟨#[]⟩) (by simp [go_sem])
        have r1:=hb.cell (b:=w.heap.size+1) (o:=1) (v:=.slice none 0 0) (by simp [go_sem])
        have f0:wr.frozen? ⟨w.heap.size+1,0,none⟩=false:=by rw [hb.frozen (by simp)];simp [go_sem]
        have f1:wr.frozen? ⟨w.heap.size+1,1,none⟩=false:=by rw [hb.frozen (by simp)];simp [go_sem]
        have g0:wr.cell? ⟨w.heap.size+1+1,0,none⟩=some (.string l):=blk_cell hblk
        obtain ⟨oa2,cap2,rfl,hk2⟩:=hown.kids
        have hkl2:(ks.take k).length=ks.length:=by rw [hkv,List.take_length]
        rw [hkl2] at g1 hblk hown
        have Hbk:=Lib.hid hblk
        clear hblk hkl2
        go_wp2_with fail
        have hkt:ks.take k=ks:=by rw [hkv,List.take_length]
        rw [hkt] at hk2
        refine bodyPost_ret (v:=.agg #[.string l,.slice oa2 ks.length cap2]) (by simp [results,Tryz.results33,go_sem,r0,r1]) rfl ⟨oa2,cap2,rfl,?_,?_⟩
        · exact ((hk2.setCell _ _ (by simp;omega)).setCell _ _ (by simp;omega)).from (by omega)
        · exact ((((Pr.alloc _ _).trans ((Pr.alloc _ _).trans hb))).setCell (by simp) _).setCell (by simp) _
theorem own_any (l:ByteArray) (ks:List Tr) (oa cap) (w:World) (h:Tr.szL ks≤1000000) (hk:Kids Any w ks oa cap) :
    Calls Tryz.prog 33 #[.agg #[.string l,.slice oa ks.length cap]] w (OwnPost w l ks):=own_step _ l ks oa cap w (Nat.lt_succ_self _) h hk
end Go.Proofs.YtdbnfhpgmcjngacGreat
/- Walks: the node at a path. -/
namespace Go.Proofs.YtdbnfhpgmcjngacGreat
open Go Go.RowKit
def AtPost (S:Nat→Prop) (w:World) (r:Option Tr) (e:Ending) (w':World):Prop :=
  ∃ l ks oa cap,r.getD Tr.zero=.node l ks∧l.size≤maxLen∧e=.returned (.tuple #[.agg #[.string l,.slice oa ks.length cap],.bool r.isSome])∧Kids S w' ks oa cap∧Pr w w'
set_option maxHeartbeats 800000 in
theorem rat_any (p:List Int):∀ (S:Nat→Prop) (l:ByteArray) (ks:List Tr) (oa cap) (pa pc) (w:World),l.size≤maxLen→Kids S w ks oa cap→Ints Any w p pa pc →
    Calls Tryz.prog 32 #[.agg #[.string l,.slice oa ks.length cap],.slice pa p.length pc] w (AtPost S w ((Tr.node l ks).at? p)):=by
  induction p with
  | nil =>
    intro S l ks oa cap pa pc w hl hk hp
    go_enter Tryz.func32,Tryz.ntmps32
    go_wp2_with fail
    exact bodyPost_ret (v:=.tuple #[.agg #[.string l,.slice oa ks.length cap],.bool true]) (by simp [results,Tryz.results32,go_sem]) rfl ⟨l,ks,oa,cap,rfl,hl,rfl,(hk.pr (Pr.alloc _ _)).pr (Pr.alloc _ _),(Pr.alloc _ _).alloc' _⟩
  | cons x p ih =>
    intro S l ks oa cap pa pc w hl hk hp
    have Ih:=Lib.hid ih;clear ih
    have hm:=Ints.len hp
    have hm2:=hk.len
    obtain ⟨b,o,rfl,cp⟩:=Ints.get hp 0 (by simp)
    simp only [List.getElem_cons_zero,Nat.add_zero] at cp
    have cp1:∀ o1 o2,((w.alloc o1).alloc o2).cell? ⟨b,o,none⟩=some (.int .i64 x):=fun o1 o2=>(Pr.alloc' (Pr.alloc _ _) _).cell cp
    have hlp:(x :: p).length=p.length+1:=rfl
    have none_case:∀ W,Pr w W→(Tr.node l ks).kid? x=none→AtPost S w ((Tr.node l ks).at? (x :: p)) (.returned (.tuple #[.agg #[.string ⟨#[]⟩,.slice none 0 0],.bool false])) W:=by
      intro W hW hz
      have hz2:(Tr.node l ks).at? (x :: p)=none:=by simp only [Tr.at?,hz];rfl
      rw [hz2]
      exact ⟨⟨#[]⟩,[],none,0,rfl,by simp [ByteArray.size],rfl,Kids.nil _ _ _ _ (Nat.zero_le _),hW⟩
    have Hnc:=Lib.hid none_case;clear none_case
    by_cases hneg:x < 0
    · go_enter Tryz.func32,Tryz.ntmps32
      go_wp2_with fail
      go_quiet (fail)
      go_wp2_with fail
      exact bodyPost_ret (v:=.tuple #[.agg #[.string ⟨#[]⟩,.slice none 0 0],.bool false]) (by simp [results,Tryz.results32,go_sem]) rfl (Hnc.out _ ((((Pr.alloc _ _).alloc' _).drewN' _ |>.setCell (by simp) _).setCell (by simp) _) (Tr.kid?_neg _ hneg))
    · have hn1:decide (x < 0)=false:=by simpa using hneg
      by_cases hge:(ks.length:Int)≤x
      · have hg1:decide ((ks.length:Int)≤x)=true:=by simpa using hge
        go_enter Tryz.func32,Tryz.ntmps32
        go_wp2_with fail
        go_quiet (fail)
        go_wp2_with fail
        exact bodyPost_ret (v:=.tuple #[.agg #[.string ⟨#[]⟩,.slice none 0 0],.bool false]) (by simp [results,Tryz.results32,go_sem]) rfl (Hnc.out _ ((((Pr.alloc _ _).alloc' _).drewN' _ |>.setCell (by simp) _).setCell (by simp) _) (Tr.kid?_ge _ _ hge))
      · have hg1:decide ((ks.length:Int)≤x)=false:=by simpa using hge
        obtain ⟨n,rfl⟩:=Int.eq_ofNat_of_zero_le (by omega:0≤x)
        have hnl:n < ks.length:=by omega
        obtain ⟨b',o',l2,ks2,oa2,cap2,e1,hl2,rfl,d0,d1,hk2⟩:=hk.get n hnl
        have hat:(Tr.node l ks).at? ((n:Int) :: p)=(Tr.node l2 ks2).at? p:=by simp only [Tr.at?,Tr.kid?_in l ks hnl,e1];rfl
        have Hat:=Lib.hid hat;clear hat e1
        have hcap:(1:Int)≤pc:=by have:=hp.1;simp at this;omega
        have ht:=Lib.hid (Flat.tail (v:=.int .i64 n) (vs:=ints p) hp)
        have d0':∀ o1 o2,((w.alloc o1).alloc o2).cell? ⟨b',o'+n * 2,none⟩=some (.string l2):=fun o1 o2=>(Pr.alloc' (Pr.alloc _ _) _).cell d0
        have d1':∀ o1 o2,((w.alloc o1).alloc o2).cell? ⟨b',o'+n * 2+1,none⟩=some (.slice oa2 ks2.length cap2):=fun o1 o2=>(Pr.alloc' (Pr.alloc _ _) _).cell d1
        have hpl:(0:Int)≤p.length:=by omega
        have lb:=lt_of_cell cp
        have lb':=lt_of_cell d0
        have hpc2:((p.length:Int)+1)≤pc:=by have:=hp.1;simp at this;omega
        by_cases hpc:pc=1
        · subst hpc
          have hp0:p=[]:=List.eq_nil_of_length_eq_zero (by omega)
          subst hp0
          have ht2:=Lib.hid (ht.out:Flat Any w (ints []) (some ⟨b,o,none⟩) 0)
          clear ht
          go_enter Tryz.func32,Tryz.ntmps32
          go_wp2_with fail
          go_quiet (fail)
          go_wp2_with fail
          go_region_held3 (fun w'=>w'.cell? ⟨w.heap.size,1,none⟩=some (.slice (some ⟨b',o',none⟩) ks.length cap)∧w'.cell? ⟨b,o,none⟩=some (.int .i64 n)∧w'.cell? ⟨b',o'+n * 2,none⟩=some (.string l2)∧w'.cell? ⟨b',o'+n * 2+1,none⟩=some (.slice oa2 ks2.length cap2))
            (first | exact ⟨s1,s2,s3,s4⟩ | exact ⟨cell_far (cell_far s1 (by simp)) (by simp),cell_far (cell_far s2 (by simp;omega)) (by simp;omega),cell_far (cell_far s3 (by simp;omega)) (by simp;omega),cell_far (cell_far s4 (by simp;omega)) (by simp;omega)⟩ | go_keep)
            (first | (go_at_call 32;refine (Ih.out (fun k=>S k∧k < w.heap.size) _ _ _ _ _ _ _ hl2 ((hk2.mono (fun k h1 h2=>⟨h1,h2⟩)).pr (Pr.drew' (Pr.drewN' (Pr.alloc' (Pr.alloc _ _) _) _))) (Flat.pr (Pr.drew' (Pr.drewN' (Pr.alloc' (Pr.alloc _ _) _) _)) ht2.out)).mono ?_;rintro e w1 ⟨l3,ks3,oa3,cap3,he3,hl3,rfl,hk3,hb3⟩;have He3:=Lib.hid he3;clear he3;have s1:=hb3.cell (b:=w.heap.size) (o:=1) (v:=.slice (some ⟨b',o',none⟩) ks.length cap) (by simp [go_sem]);have s2:=hb3.cell ((Pr.drew' (Pr.drewN' (Pr.alloc' (Pr.alloc _ _) _) _)).cell cp);have s3:=hb3.cell ((Pr.drew' (Pr.drewN' (Pr.alloc' (Pr.alloc _ _) _) _)).cell d0);have s4:=hb3.cell ((Pr.drew' (Pr.drewN' (Pr.alloc' (Pr.alloc _ _) _) _)).cell d1);have r0:=hb3.cell (b:=w.heap.size+1) (o:=0) (v:=.string ⟨#[]⟩) (by simp [go_sem]);have r1:=hb3.cell (b:=w.heap.size+1) (o:=1) (v:=.slice none 0 0) (by simp [go_sem]);have f0:w1.frozen? ⟨w.heap.size+1,0,none⟩=false:=(by rw [hb3.frozen (by simp)];simp [go_sem]);have f1:w1.frozen? ⟨w.heap.size+1,1,none⟩=false:=(by rw [hb3.frozen (by simp)];simp [go_sem])))
          go_wp2_with fail
          refine bodyPost_ret (v:=.tuple #[.agg #[.string l3,.slice oa3 ks3.length cap3],.bool ((Tr.node l2 ks2).at? []).isSome]) (by simp [results,Tryz.results32,go_sem,r0,r1]) rfl ?_
          rw [Hat.out]
          exact ⟨l3,ks3,oa3,cap3,He3.out,hl3,rfl,((hk3.setCell _ _ (by simp)).setCell _ _ (by simp)).mono (fun k h _=>h.1),(((Pr.drew' (Pr.drewN' (Pr.alloc' (Pr.alloc _ _) _) _)).trans hb3).setCell (by simp) _).setCell (by simp) _⟩
        · have ht2:=ht.out
          rw [if_neg hpc] at ht2
          have Ht:=Lib.hid ht2
          clear ht ht2
          have hpl1:¬ ((p.length:Int)+1 < 1):=by omega
          go_enter Tryz.func32,Tryz.ntmps32
          go_wp2_with fail
          go_quiet (fail)
          go_wp2_with fail
          go_region_held3 (fun w'=>w'.cell? ⟨w.heap.size,1,none⟩=some (.slice (some ⟨b',o',none⟩) ks.length cap)∧w'.cell? ⟨b,o,none⟩=some (.int .i64 n)∧w'.cell? ⟨b',o'+n * 2,none⟩=some (.string l2)∧w'.cell? ⟨b',o'+n * 2+1,none⟩=some (.slice oa2 ks2.length cap2))
            (first | exact ⟨s1,s2,s3,s4⟩ | exact ⟨cell_far (cell_far s1 (by simp)) (by simp),cell_far (cell_far s2 (by simp;omega)) (by simp;omega),cell_far (cell_far s3 (by simp;omega)) (by simp;omega),cell_far (cell_far s4 (by simp;omega)) (by simp;omega)⟩ | go_keep)
            (first | (go_at_call 32;refine (Ih.out (fun k=>S k∧k < w.heap.size) _ _ _ _ _ _ _ hl2 ((hk2.mono (fun k h1 h2=>⟨h1,h2⟩)).pr (Pr.drew' (Pr.drewN' (Pr.alloc' (Pr.alloc _ _) _) _))) (Flat.pr (Pr.drew' (Pr.drewN' (Pr.alloc' (Pr.alloc _ _) _) _)) Ht.out)).mono ?_;rintro e w1 ⟨l3,ks3,oa3,cap3,he3,hl3,rfl,hk3,hb3⟩;have He3:=Lib.hid he3;clear he3;have s1:=hb3.cell (b:=w.heap.size) (o:=1) (v:=.slice (some ⟨b',o',none⟩) ks.length cap) (by simp [go_sem]);have s2:=hb3.cell ((Pr.drew' (Pr.drewN' (Pr.alloc' (Pr.alloc _ _) _) _)).cell cp);have s3:=hb3.cell ((Pr.drew' (Pr.drewN' (Pr.alloc' (Pr.alloc _ _) _) _)).cell d0);have s4:=hb3.cell ((Pr.drew' (Pr.drewN' (Pr.alloc' (Pr.alloc _ _) _) _)).cell d1);have r0:=hb3.cell (b:=w.heap.size+1) (o:=0) (v:=.string ⟨#[]⟩) (by simp [go_sem]);have r1:=hb3.cell (b:=w.heap.size+1) (o:=1) (v:=.slice none 0 0) (by simp [go_sem]);have f0:w1.frozen? ⟨w.heap.size+1,0,none⟩=false:=(by rw [hb3.frozen (by simp)];simp [go_sem]);have f1:w1.frozen? ⟨w.heap.size+1,1,none⟩=false:=(by rw [hb3.frozen (by simp)];simp [go_sem])))
          go_wp2_with fail
          refine bodyPost_ret (v:=.tuple #[.agg #[.string l3,.slice oa3 ks3.length cap3],.bool ((Tr.node l2 ks2).at? p).isSome]) (by simp [results,Tryz.results32,go_sem,r0,r1]) rfl ?_
          rw [Hat.out]
          exact ⟨l3,ks3,oa3,cap3,He3.out,hl3,rfl,((hk3.setCell _ _ (by simp)).setCell _ _ (by simp)).mono (fun k h _=>h.1),(((Pr.drew' (Pr.drewN' (Pr.alloc' (Pr.alloc _ _) _) _)).trans hb3).setCell (by simp) _).setCell (by simp) _⟩
end Go.Proofs.YtdbnfhpgmcjngacGreat
