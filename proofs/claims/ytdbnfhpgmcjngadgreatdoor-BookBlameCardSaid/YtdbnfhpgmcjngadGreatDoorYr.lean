/- Walks: pleachingref.sinceTree: a tree whose labels tell since when its nodes are there. -/
import Derived.Test.YtdbnfhpgmcjngadGreatDoorIt
import Derived.Test.YtdbnfhpgmcjngadGreatDoorBwe
import Derived.Test.YtdbnfhpgmcjngadGreatDoorBpl
import Derived.Test.YtdbnfhpgmcjngadGreatDoorYp
import Derived.Deep.DeepCutAuto
namespace Go.Proofs.YtdbnfhpgmcjngadGreatDoor
open Go Go.RowKit
def sinL (xs:List Int) (i:Nat):ByteArray:=numB (xs.getD i 0)
theorem sinL_size {xs:List Int} (h:∀ x∈xs,0≤x∧x≤1000000) (i:Nat):(sinL xs i).size≤maxLen:=by
  have:0≤xs.getD i 0∧xs.getD i 0≤1000000:=by
    rw [List.getD_eq_getElem?_getD]
    by_cases hi:i < xs.length
    · rw [List.getElem?_eq_getElem hi];exact h _ (List.getElem_mem hi)
    · rw [List.getElem?_eq_none (by omega)];simp
  exact numB_size (by omega) (by omega)
def RSincePost (xs:List Int) (w:World) (p:Nat) (ks:List Tr) (e:Ending) (w':World):Prop :=
  ∃ oa cap,e=.returned (.tuple #[.agg #[.string ((sinL xs) (p+Tr.szL ks)),.slice oa (relF (sinL xs) p ks).length cap],.int .i64 ((p+Tr.szL ks+1:Nat):Int)])∧Kids (From w.heap.size) w' (relF (sinL xs) p ks) oa cap∧Pr w w'
set_option maxRecDepth 100000 in
set_option maxHeartbeats 3200000 in
theorem rsince_step (xs : List Int) (hx0 : ∀ x ∈ xs, 0 ≤ x ∧ x ≤ 1000000) (sa sc) (N : Nat) : ∀ (l : ByteArray) (ks : List Tr) (oa cap) (p : Nat) (w : World), Tr.szL ks < N → p + Tr.szL ks ≤ 1000000 → Kids Any w ks oa cap → Lt w → Ints Any w xs sa sc → p + Tr.szL ks + 1 ≤ xs.length →
      Calls Tryz.prog 31 #[.agg #[.string l,.slice oa ks.length cap],.slice sa xs.length sc,.int .i64 p] w (RSincePost xs w p ks):=by
  induction N with
  | zero=>intro l ks oa cap p w hN;omega
  | succ N ih =>
    have Ih:=Lib.hid ih;clear ih
    intro l ks oa cap p w hN hsm hk hlt0 hin hlen
    have hm:=hk.len
    have hm2:=Tr.length_le ks
    obtain ⟨W,hW⟩:∃ W,W=(w.alloc (.cells #[.string l,.slice oa ks.length cap] 33)).alloc (.cells #[.string ⟨#[]⟩,.slice none 0 0] 33):=⟨_,rfl⟩
    have hwW:Pr w W:=by rw [hW];exact (Pr.alloc _ _).alloc' _
    have hWs:W.heap.size=w.heap.size+2:=by rw [hW];simp
    have t1:W.cell? ⟨w.heap.size,1,none⟩=some (.slice oa ks.length cap):=by rw [hW];simp [go_sem]
    have hR:W.heap[w.heap.size+1]? = some (.cells #[.string ⟨#[]⟩,.slice none 0 0] 33 (0,0)):=by
      rw [hW];simpa using heap_alloc_new (w.alloc (.cells #[.string l,.slice oa ks.length cap] 33)) (.cells #[.string ⟨#[]⟩,.slice none 0 0] 33)
    obtain ⟨V,hV⟩:∃ V,V=W.alloc (.cells #[.string ⟨#[]⟩,.slice none 0 0] 33):=⟨_,rfl⟩
    have hWV:Pr W V:=by rw [hV];exact Pr.alloc _ _
    have hVB:V.heap[w.heap.size+1+1]? = some (.cells #[.string ⟨#[]⟩,.slice none 0 0] 33 (0,0)):=by
      have h:=heap_alloc_new W (.cells #[.string ⟨#[]⟩,.slice none 0 0] 33)
      rw [hWs] at h;rw [hV];exact h
    have HK:=Lib.hid (hk.pr hwW);have HL:=Lib.hid (hlt0.pr hwW);have HW:=Lib.hid hwW;have HWs:=Lib.hid hWs;have HR:=Lib.hid hR;have HI:=Lib.hid (Flat.pr hwW hin)
    clear hk hlt0 hwW hWs hR hin
    go_enter Tryz.func31,Tryz.ntmps31
    go_upto_region 2 with fail
    rw [← hW,← hV]
    clear hW hV
    go_wp2_with fail
    go_loopw [2,9] (fun vn vi wr=>∃ (k:Nat) (v:Value),k≤ks.length∧vi=.int .i64 k∧vn=.int .i64 ((p+Tr.szL (ks.take k):Nat):Int)∧OwnsTs (w.heap.size+1+1+1) wr v (relF (sinL xs) p (ks.take k))∧wr.heap[w.heap.size+1+1]? = some (.cells #[.string ⟨#[]⟩,v] 33 (0,0))∧Pr W wr) (fun _ vi _=>ks.length - (intOf vi).toNat)
    case atStart=>exact ⟨0,.slice none 0 0,by omega,rfl,by simp,by simpa [relF] using OwnsTs.nil _ _,hVB,hWV⟩
    case round =>
      obtain ⟨k,v,hkl,rfl,rfl,hown,hblk,hb⟩:=hrel
      have t1r:=hb.cell t1
      have hbs:=hb.size
      have hws:=HWs.out
      by_cases hlt:k < ks.length
      case pos =>
        obtain ⟨b,o,l',ks',oa',cap',e1,hl',rfl,c0,c1,hk'⟩:=(HK.out.pr hb).get k hlt
        have hsz:=Tr.szL_get ks k hlt
        have hst:=Tr.szL_take_succ ks k hlt
        have hstl:=Tr.szL_take_le ks (k+1)
        have hsn:relF (sinL xs) p (ks.take (k+1))=relF (sinL xs) p (ks.take k) ++ [relT (sinL xs) (p+Tr.szL (ks.take k)) ks[k]]:=by
          rw [List.take_succ_eq_append_getElem hlt,relF_append];simp [relF]
        rw [e1] at hsz hsn hst
        rw [relT_node] at hsn
        simp only [Tr.sz] at hsz hst
        obtain ⟨q,hq⟩:∃ q,q=p+Tr.szL (ks.take k):=⟨_,rfl⟩
        rw [← hq] at hsn ⊢
        have hq1:p+Tr.szL (ks.take (k+1))=q+Tr.szL ks'+1:=by omega
        have hll:(relF (sinL xs) p (ks.take k)).length=k:=by rw [relF_length,List.length_take];omega
        generalize relF (sinL xs) p (ks.take k)=L at *
        have C1:=Lib.hid (Ih.out l' ks' oa' cap' q wr (by omega) (by omega) hk' (HL.out.pr hb) (Flat.pr hb HI.out) (by omega))
        have hlb:=sinL_size hx0 (q+Tr.szL ks')
        obtain ⟨L1,hL1⟩:∃ L1,L1=relF (sinL xs) q ks':=⟨_,rfl⟩
        obtain ⟨s1,hs1⟩:∃ s1,s1=(sinL xs) (q+Tr.szL ks'):=⟨_,rfl⟩
        unfold RSincePost at C1
        rw [← hL1,← hs1] at C1 hsn
        rw [← hs1] at hlb
        have Hsn:=Lib.hid hsn;have Hlb:=Lib.hid hlb;have Hq1:=Lib.hid hq1;have Hown:=Lib.hid hown;have Hblk:=Lib.hid hblk;have Hb:=Lib.hid hb;have Hll:=Lib.hid hll
        clear hsn hlb hq1 hown hblk hb hs1 hL1 hst hstl e1 hk' hq hll
        go_upto_region 6 with (go_at_call 31;(with_reducible refine Calls.mono C1.out ?_);rintro e w1 ⟨oa2,cap2,rfl,hk2,hb1⟩)
        obtain ⟨V1,hV1⟩:∃ V1,V1=w1.alloc (.cells #[.string s1,.slice oa2 L1.length cap2] 33):=⟨_,rfl⟩
        have hp1:Pr wr V1:=by rw [hV1];exact hb1.alloc' _
        have n0:V1.cell? ⟨w1.heap.size,0,none⟩=some (.string s1):=by rw [hV1];simp [go_sem]
        have n1:V1.cell? ⟨w1.heap.size,1,none⟩=some (.slice oa2 L1.length cap2):=by rw [hV1];simp [go_sem]
        have hk3:Kids (From wr.heap.size) V1 L1 oa2 cap2:=by rw [hV1];exact hk2.pr (Pr.alloc _ _)
        have HV1s:Hid (V1.heap.size=w1.heap.size+1):=Lib.hid (by rw [hV1];simp)
        rw [← hV1]
        have hblk1:=hp1.blk Hblk.out
        have g1:V1.cell? ⟨w.heap.size+1+1,1,none⟩=some v:=blk_cell hblk1
        have hu:∀ k,v.ownBlock=some k→w.heap.size+1+1+1≤k∧k < wr.heap.size:=fun k e=>Hown.out.block k e
        have hz1:=hb1.size
        have HO:Hid (OwnsTs (w.heap.size+1+1+1) V1 v L):=Lib.hid (Hown.out.pr hp1)
        have g3:=blk_lt Hblk.out
        have HV:Hid (Kids (Apart (w.heap.size+1+1+1) v) V1 L1 oa2 cap2):=Lib.hid (hk3.mono fun j (hj:wr.heap.size≤j) _=>⟨by omega,fun e=>by have:=(hu j e).2;omega⟩)
        have HB1:=Lib.hid hblk1;have Hu:=Lib.hid hu
        have hLl:=Hll.out
        clear hV1 hk2 hk3 hblk1 hu
        go_upto_region 7 with (at_builtin;go_must (refine app_tree rfl _ _ rfl (w.heap.size+1+1+1) v L rfl (HO.out.pr (Pr.alloc _ _)) V1.heap.size rfl (.node s1 L1) _ _ (heap_alloc_new V1 _) (treeV_mk cap2 Hlb.out (HV.out.pr (Pr.alloc _ _))) (by omega) (by have:=HV1s.out;simp;omega) ?_);intro g cap3 w2 ho2 hg2 hat2;have n2:v.ownBlock≠some (w.heap.size+1+1):=(fun e=>by have:=(Hu.out _ e).1;omega);have B2:=Lib.hid (grown_blk hg2 ((Pr.alloc V1 _).blk HB1.out) n2);have t2:w2.cell? ⟨w.heap.size+1+1,1,none⟩=some v:=blk_cell (o:=1) B2.out;have f2:w2.frozen? ⟨w.heap.size+1+1,1,none⟩=false:=blk_frozen (o:=1) B2.out)
        have hpw:Pr W w2:=Below.grown ((Hb.out.trans hp1).alloc' _) hg2 (by have:=hp1.size;simp;omega) (fun j hj=>by have:=(Hu.out j hj).1;omega)
        rw [Hll.out] at ho2
        have Hpw:=Lib.hid hpw;have Ho2:=Lib.hid ho2
        clear hpw ho2
        go_wp2_with fail
        refine ⟨⟨k+1,.slice (some ⟨g,0,none⟩) (k+1) cap3,by omega,by go_num,by rw [Hq1.out];go_num,?_,by exact blk_set B2.out _,?_⟩,?_⟩
        · rw [Hsn.out];exact Ho2.out.setCell _ _ (by simp)
        · exact Hpw.out.setCell (by simp;omega) _
        · simp [intOf];omega
      case neg =>
        have hkv:k=ks.length:=by omega
        subst hkv
        rw [List.take_length] at hown ⊢
        have wq:IntKind.i64.wrap (((p+Tr.szL ks:Nat):Int)+1)=((p+Tr.szL ks:Nat):Int)+1:=IntWalk.i64_in _ (by omega)
        have hsm1:(((p+Tr.szL ks:Nat):Int))≤9223372036854775807:=by omega
        have g1:wr.cell? ⟨w.heap.size+1+1,1,none⟩=some v:=blk_cell hblk
        have hg3:=blk_lt hblk
        obtain ⟨oa2,cap2,rfl,hk2⟩:=hown.kids
        have hL1:(relF (sinL xs) p ks).length=ks.length:=relF_length _ _ _
        rw [hL1] at hblk
        obtain ⟨q,hq⟩:∃ q,q=p+Tr.szL ks:=⟨_,rfl⟩
        have hbR:=hb.blk HR.out
        rw [← hq] at hsm1 wq ⊢
        obtain ⟨b9,o9,hso,c9⟩:=Ints.get (Flat.pr hb HI.out) q (by omega)
        obtain ⟨x9,hx9⟩:∃ x9,x9=xs[q]'(by omega):=⟨_,rfl⟩
        rw [← hx9] at c9
        have hx91:=hx0 x9 (by rw [hx9];exact List.getElem_mem _)
        have Hx9:Hid (sinL xs q=numB x9):=Lib.hid (by unfold sinL;rw [List.getD_eq_getElem?_getD,List.getElem?_eq_getElem (by omega),hx9];rfl)
        have hq9:q < xs.length:=by omega
        subst hso
        clear hx9
        have I1:=Lib.hid (num_any x9 (by omega) (by omega) wr (HL.out.pr hb))
        have Hblk:=Lib.hid hblk;have Hb:=Lib.hid hb;have Hk2:=Lib.hid hk2;have HbR:=Lib.hid hbR
        obtain ⟨L,hL⟩:∃ L,L=relF (sinL xs) p ks:=⟨_,rfl⟩
        rw [← hL] at hL1 Hk2
        have HL9:=Lib.hid hL;have Hq:=Lib.hid hq;have HLl:=Lib.hid hL1
        clear hL hq hL1 hblk hb hk2 hbR hown
        go_upto_region 9 with (go_at_call 32;(with_reducible refine Calls.mono I1.out ?_);rintro e w1 ⟨rfl,hb1⟩;have B1:=Lib.hid (hb1.blk Hblk.out);have f1:w1.frozen? ⟨w.heap.size+1+1,0,none⟩=false:=blk_frozen (o:=0) B1.out;have c1:w1.cell? ⟨w.heap.size+1+1,0,none⟩=some (.string ⟨#[]⟩):=blk_cell (o:=0) B1.out)
        obtain ⟨sn,hsn⟩:∃ s,s=numB (x9):=⟨_,rfl⟩
        rw [← hsn]
        have Hsn:=Lib.hid hsn
        obtain ⟨V2,hV2⟩:∃ V2,V2=w1.setCell ⟨w.heap.size+1+1,0,none⟩ (.string sn):=⟨_,rfl⟩
        have B2:V2.heap[w.heap.size+1+1]? = some (.cells #[.string sn,.slice oa2 ks.length cap2] 33 (0,0)):=by
          have h:=blk_set (o:=0) B1.out (.string sn)
          rw [hV2];exact h
        have e0:=blk_cell (o:=0) B2;have e1:=blk_cell (o:=1) B2
        have hp2:Pr W V2:=by rw [hV2];exact (Hb.out.trans hb1).setCell (by simp;omega) _
        have hk4:Kids (From (w.heap.size+1+1+1)) V2 L oa2 cap2:=by rw [hV2];exact (Hk2.out.pr hb1).setCell _ _ (by simp)
        have hR2:=hp2.blk HR.out
        have r0:=blk_cell (o:=0) hR2;have r1:=blk_cell (o:=1) hR2;have r2:=blk_frozen (o:=0) hR2;have r3:=blk_frozen (o:=1) hR2
        rw [← hV2]
        have Hk4:=Lib.hid hk4;have Hp2:=Lib.hid hp2
        clear hV2 B2 hk4 hp2 hR2 hsn
        go_wp2_with fail
        refine bodyPost_ret (v:=.tuple #[.agg #[.string sn,.slice oa2 ks.length cap2],.int .i64 (q+1)]) (by simp [results,Tryz.results31,go_sem,r0,r1]) rfl ⟨oa2,cap2,?_,?_,?_⟩
        · rw [Hsn.out,← HL9.out,HLl.out,← Hq.out];rw [Hx9.out];rfl
        · rw [← HL9.out]
          exact ((Hk4.out.setCell _ _ (by simp;omega)).setCell _ _ (by simp;omega)).from (by omega)
        · exact ((HW.out.trans Hp2.out).setCell (by simp) _).setCell (by simp) _
end Go.Proofs.YtdbnfhpgmcjngadGreatDoor
