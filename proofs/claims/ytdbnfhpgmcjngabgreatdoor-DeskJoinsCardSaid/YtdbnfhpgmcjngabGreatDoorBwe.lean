/- Walks: trees in memory of their own. -/
import Derived.Test.YtdbnfhpgmcjngabGreatDoorBwa
import Derived.Test.YtdbnfhpgmcjngabGreatDoorBmt
namespace Go.Proofs.YtdbnfhpgmcjngabGreatDoor
open Go Go.RowKit
def OwnPost (w:World) (l:ByteArray) (ks:List Tr) (e:Ending) (w':World):Prop:=∃ oa cap,e=.returned (.agg #[.string l,.slice oa ks.length cap])∧Kids (From w.heap.size) w' ks oa cap∧Pr w w'
theorem Pr.grown {w w1 w2:World} {v:Value} {ts:List Tr} (h:Pr w w1) (hown:OwnsTs w.heap.size w1 v ts) (hg:w1.grownBy w2 v.ownBlock):Pr w w2 :=
  Below.grown h hg h.size fun k hk=>(hown.block k hk).1
theorem apart_new {w:World} {b:Nat} {v:Value} {ts:List Tr} (hown:OwnsTs b w v ts) (hb:b≤w.heap.size) {n:Nat}:∀ k,From w.heap.size k→k < n→Apart b v k:=by
  intro k hk _
  have hk':w.heap.size≤k:=hk
  refine ⟨by omega,fun e=>?_⟩
  have:=(hown.block k e).2;omega
set_option maxHeartbeats 1600000 in
theorem own_step (N : Nat) : ∀ (l : ByteArray) (ks : List Tr) (oa cap) (w : World), Tr.szL ks < N → Tr.szL ks ≤ 1000000 → Kids Any w ks oa cap →
      Calls Tryz.prog 83 #[.agg #[.string l,.slice oa ks.length cap]] w (OwnPost w l ks):=by
  induction N with
  | zero=>intro l ks oa cap w hN;omega
  | succ N ih =>
    have Ih:=Lib.hid ih;clear ih
    intro l ks oa cap w hN hsm hk
    have hm:=hk.len
    have hm2:=Tr.length_le ks
    go_enter Tryz.func83,Tryz.ntmps83
    go_wp2_with fail
    go_loopw [12] (fun i wr=>∃ (k:Nat) (v:Value),k≤ks.length∧i=.int .i64 k∧OwnsTs (w.heap.size+1+1+1) wr v (ks.take k)∧wr.heap[w.heap.size+1+1]? = some (.cells #[.string l,v] 46 (0,0)) ∧
      Pr ((w.alloc (.cells #[.string l,.slice oa ks.length cap] 46)).alloc (.cells #[.string ⟨#[]⟩,.slice none 0 0] 46)) wr) (fun i _=>ks.length - (intOf i).toNat)
    case atStart=>exact ⟨0,.slice none 0 0,by omega,rfl,by simpa using OwnsTs.nil _ _,by simpa using heap_alloc_new ((w.alloc (.cells #[.string l,.slice oa ks.length cap] 46)).alloc (.cells #[.string ⟨#[]⟩,.slice none 0 0] 46)) (.cells #[.string l,.slice none 0 0] 46),Pr.alloc _ _⟩
    case round =>
      obtain ⟨k,v,hkl,rfl,hown,hblk,hb⟩:=hrel
      have hbs:=hb.size
      simp at hbs
      have g1:wr.cell? ⟨w.heap.size+1+1,1,none⟩=some v:=blk_cell hblk
      have g1':∀ o,(wr.alloc o).cell? ⟨w.heap.size+1+1,1,none⟩=some v:=fun o=>(Pr.alloc _ o).cell g1
      have g2:wr.frozen? ⟨w.heap.size+1+1,1,none⟩=false:=blk_frozen hblk
      have g3:=blk_lt hblk
      by_cases hlt:k < ks.length
      · obtain ⟨b,o,l',ks',oa',cap',e1,hl',rfl,c0,c1,hk'⟩:=((hk.pr (Pr.alloc' (Pr.alloc _ _) _)).pr hb).get k hlt
        have hsz:=Tr.szL_get ks k hlt
        have hsn:=List.take_succ_eq_append_getElem hlt
        rw [e1] at hsz hsn
        have Hsn:=Lib.hid hsn
        clear e1 hsn
        simp only [Tr.sz] at hsz
        have htl:(ks.take k).length≤1000000:=by rw [List.length_take];omega
        have Hbk:=Lib.hid hblk
        clear hblk
        go_wp2_with fail
        go_region_law (first
            | (go_simp;go_at_call 83;refine (Ih.out _ _ _ _ _ (by omega) (by omega) (hk'.pr (Pr.drew' (Pr.alloc _ _)))).mono ?_;rintro e w1 ⟨oa2,cap2,rfl,hk2,hb1⟩
               have s1:=hb1.cell ((Pr.drew' (Pr.alloc _ _)).cell g1);have s1':=fun o=>(Pr.alloc w1 o).cell s1;have s2:=hb1.cell (b:=wr.heap.size) (o:=0) (v:=.string l') (by simp [go_sem]);have s3:=hb1.cell (b:=wr.heap.size) (o:=1) (v:=.slice oa' ks'.length cap') (by simp [go_sem]))
            | (refine step_tree rfl _ _ rfl (w.heap.size+1+1+1) v (ks.take k) rfl (((hown.pr (Pr.drew' (Pr.alloc _ _))).pr hb1).pr (Pr.alloc _ _)) w1.heap.size rfl (.node l' ks') _ _ (heap_alloc_new w1 _) (treeV_mk cap2 hl' ((hk2.pr (Pr.alloc _ _)).mono (apart_new (hown.pr (Pr.drew' (Pr.alloc _ _))) (by simp;omega)))) (by omega) (by have:=hb1.size;simp at this ⊢;omega) ?_;intro g cap3 w2 ho2 hg2 hat2
               have n1:v.ownBlock≠some (w.heap.size+1+1):=fun e=>by have:=(hown.block _ e).1;omega
               have n2:v.ownBlock≠some wr.heap.size:=fun e=>by have:=(hown.block _ e).2;omega
               have B2:=Lib.hid (grown_blk hg2 ((Pr.alloc w1 _).blk (hb1.blk ((Pr.drew' (Pr.alloc _ _)).blk Hbk.out))) n1)
               have t1:w2.cell? ⟨w.heap.size+1+1,1,none⟩=some v:=blk_cell (o:=1) B2.out;have t2:=hg2.cell ((Pr.alloc w1 _).cell s2) (fun e=>n2 e.symm);have t3:=hg2.cell ((Pr.alloc w1 _).cell s3) (fun e=>n2 e.symm);have t4:=blk_frozen (o:=1) B2.out))
        all_goals
          go_wp2_with fail
          have hl2:(ks.take k).length=k:=by simp;omega
          rw [hl2] at ho2
          refine ⟨⟨k+1,.slice (some ⟨g,0,none⟩) (k+1) cap3,by omega,by go_num,?_,blk_set B2.out _,?_⟩,?_⟩
          · rw [Hsn.out];exact ho2.setCell _ _ (by simp)
          · refine Pr.setCell (Below.grown (((hb.trans ((Pr.alloc _ _).drew')).trans hb1).alloc' _) hg2 ?_ ?_) (by simp) _
            · have:=hb1.size;simp at this ⊢;omega
            · intro k' hk';have:=(hown.block k' hk').1;simp;omega
          · simp [intOf];omega
      · have hkv:k=ks.length:=by omega
        have r0:=hb.cell (b:=w.heap.size+1) (o:=0) (v:=.string ⟨#[]⟩) (by simp [go_sem])
        have r1:=hb.cell (b:=w.heap.size+1) (o:=1) (v:=.slice none 0 0) (by simp [go_sem])
        have f0:wr.frozen? ⟨w.heap.size+1,0,none⟩=false:=by rw [hb.frozen (by simp)];simp [go_sem]
        have f1:wr.frozen? ⟨w.heap.size+1,1,none⟩=false:=by rw [hb.frozen (by simp)];simp [go_sem]
        have g0:wr.cell? ⟨w.heap.size+1+1,0,none⟩=some (.string l):=blk_cell hblk
        obtain ⟨oa2,cap2,rfl,hk2⟩:=hown.kids
        have hkl2:(ks.take k).length=ks.length:=by rw [hkv,List.take_length]
        rw [hkl2] at g1 hblk hown
        have Hbk:=Lib.hid hblk
        clear hblk hkl2
        go_wp2_with fail
        have hkt:ks.take k=ks:=by rw [hkv,List.take_length]
        rw [hkt] at hk2
        refine bodyPost_ret (v:=.agg #[.string l,.slice oa2 ks.length cap2]) (by simp [results,Tryz.results83,go_sem,r0,r1]) rfl ⟨oa2,cap2,rfl,?_,?_⟩
        · exact ((hk2.setCell _ _ (by simp;omega)).setCell _ _ (by simp;omega)).from (by omega)
        · exact ((((Pr.alloc _ _).trans ((Pr.alloc _ _).trans hb))).setCell (by simp) _).setCell (by simp) _
theorem own_any (l:ByteArray) (ks:List Tr) (oa cap) (w:World) (h:Tr.szL ks≤1000000) (hk:Kids Any w ks oa cap) :
    Calls Tryz.prog 83 #[.agg #[.string l,.slice oa ks.length cap]] w (OwnPost w l ks):=own_step _ l ks oa cap w (Nat.lt_succ_self _) h hk
end Go.Proofs.YtdbnfhpgmcjngabGreatDoor
/- Walks: the node at a path. -/
namespace Go.Proofs.YtdbnfhpgmcjngabGreatDoor
open Go Go.RowKit
end Go.Proofs.YtdbnfhpgmcjngabGreatDoor
