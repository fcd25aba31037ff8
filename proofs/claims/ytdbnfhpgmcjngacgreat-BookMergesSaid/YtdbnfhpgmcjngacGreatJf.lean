/- Walks: pleachingref.mixed whole, and pleachingref.Merge. -/
import Derived.Test.YtdbnfhpgmcjngacGreatJe
import Derived.Test.YtdbnfhpgmcjngacGreatBmk
namespace Go.Proofs.YtdbnfhpgmcjngacGreat
open Go Go.RowKit
theorem rmixed_step (N:Nat) (IH:RMixC N):RMixC (N+1):=by
  intro l1 l2 l3 k1 k2 k3 o1 o2 o3 c1 c2 c3 M w hs s1 s2 s3 hl1 hl2 hl3 hM hk1 hk2 hk3
  by_cases h:((Tr.node l2 k2).beq (.node l3 k3) || (Tr.node l3 k3).beq (.node l1 k1))=true
  · rw [mixT_same N _ _ _ h];exact rmixed_a hl1 hl2 hl3 hM hk1 hk2 hk3 h
  · by_cases h1:(Tr.node l2 k2).beq (.node l1 k1)=true
    · rw [mixT_left N _ _ _ h h1];exact rmixed_b hl1 hl2 hl3 hM hk1 hk2 hk3 h h1
    · cases hm:mixL l1 l2 l3 with
      | none=>rw [mixT_lab N _ _ _ h h1 hm];exact rmixed_c hl1 hl2 hl3 hM hk1 hk2 hk3 h h1 hm
      | some l =>
        have hd:=rmixed_d N IH (by omega) s1 s2 s3 hl1 hl2 hl3 hM hk1 hk2 hk3 h h1 l hm
        cases hx:segM (mixT N) k1 k2 k3 (held (common k1 k2) (common k1 k3)) 0 0 0 with
        | error e=>rw [hx] at hd;rw [mixT_err N _ _ _ h h1 hm hx];exact hd
        | ok ks=>rw [hx] at hd;rw [mixT_ok N _ _ _ h h1 hm hx];exact hd
theorem rmixed_any:∀ N,RMixC N
  | 0=>fun _ _ _ _ _ _ _ _ _ _ _ _ _ _ h=>absurd h (Nat.not_lt_zero _)
  | N+1=>rmixed_step N (rmixed_any N)
section
variable {w:World} {l1 l2 l3:ByteArray} {k1 k2 k3:List Tr} {o1 o2 o3:Option Addr} {c1 c2 c3:Nat}
set_option maxRecDepth 100000 in
set_option maxHeartbeats 6400000 in
theorem rmerge_anyF (hl1:l1.size≤maxLen) (hl2:l2.size≤maxLen) (hl3:l3.size≤maxLen) (hk1:Kids Any w k1 o1 c1) (hk2:Kids Any w k2 o2 c2) (hk3:Kids Any w k3 o3 c3) :
    Calls Tryz.prog 10 #[.agg #[.string l1,.slice o1 k1.length c1],.agg #[.string l2,.slice o2 k2.length c2],.agg #[.string l3,.slice o3 k3.length c3]] w (MergePostF (mergeT (.node l1 k1) (.node l2 k2) (.node l3 k3)) w):=by
  obtain ⟨r,hr⟩:∃ r,r=mergeT (.node l1 k1) (.node l2 k2) (.node l3 k3):=⟨_,rfl⟩
  rw [← hr]
  have hk1:=hk1.mono (S':=fun k=>k < w.heap.size) (fun k _ h=>h)
  have hk2:=hk2.mono (S':=fun k=>k < w.heap.size) (fun k _ h=>h)
  have hk3:=hk3.mono (S':=fun k=>k < w.heap.size) (fun k _ h=>h)
  obtain ⟨W,hW⟩:∃ W,W=(((w.alloc (.cells #[.string l1,.slice o1 k1.length c1] 34)).alloc (.cells #[.string l2,.slice o2 k2.length c2] 34)).alloc (.cells #[.string l3,.slice o3 k3.length c3] 34)).alloc (.cells #[.string ⟨#[]⟩,.slice none 0 0] 34):=⟨_,rfl⟩
  have hwW:Pr w W:=by rw [hW];exact (((Pr.alloc _ _).alloc' _).alloc' _).alloc' _
  have hWs:W.heap.size=w.heap.size+4:=by rw [hW];simp
  have x0:=stays (show W.cell? ⟨w.heap.size,0,none⟩=some (.string l1) by rw [hW];simp [go_sem])
  have x1:=stays (show W.cell? ⟨w.heap.size,1,none⟩=some (.slice o1 k1.length c1) by rw [hW];simp [go_sem])
  have y0:=stays (show W.cell? ⟨w.heap.size+1,0,none⟩=some (.string l2) by rw [hW];simp [go_sem])
  have y1:=stays (show W.cell? ⟨w.heap.size+1,1,none⟩=some (.slice o2 k2.length c2) by rw [hW];simp [go_sem])
  have z0:=stays (show W.cell? ⟨w.heap.size+1+1,0,none⟩=some (.string l3) by rw [hW];simp [go_sem])
  have z1:=stays (show W.cell? ⟨w.heap.size+1+1,1,none⟩=some (.slice o3 k3.length c3) by rw [hW];simp [go_sem])
  have r0:=stays (show W.cell? ⟨w.heap.size+1+1+1,0,none⟩=some (.string ⟨#[]⟩) by rw [hW];simp [go_sem])
  have r1:=stays (show W.cell? ⟨w.heap.size+1+1+1,1,none⟩=some (.slice none 0 0) by rw [hW];simp [go_sem])
  have f0:W.frozen? ⟨w.heap.size+1+1+1,0,none⟩=false:=by rw [hW];simp [go_sem]
  have f1:W.frozen? ⟨w.heap.size+1+1+1,1,none⟩=false:=by rw [hW];simp [go_sem]
  have hk1:=hk1.pr hwW;have hk2:=hk2.pr hwW;have hk3:=hk3.pr hwW
  have S1:=Lib.hid (fun W' (h:Pr W W')=>sameTree_any l2 l3 k2 k3 o2 c2 o3 c3 W' (hk2.pr h).any (hk3.pr h).any)
  have S2:=Lib.hid (fun W' (h:Pr W W')=>sameTree_any l3 l1 k3 k1 o3 c3 o1 c1 W' (hk3.pr h).any (hk1.pr h).any)
  have S3:=Lib.hid (fun W' (h:Pr W W')=>sameTree_any l2 l1 k2 k1 o2 c2 o1 c1 W' (hk2.pr h).any (hk1.pr h).any)
  clear S1 S2 S3
  have C1:=Lib.hid (fun W' (h:Pr W W')=>treeFault_any l1 k1 o1 c1 W' hl1 (hk1.any.pr h))
  have C2:=Lib.hid (fun W' (h:Pr W W')=>treeFault_any l2 k2 o2 c2 W' hl2 (hk2.any.pr h))
  have C3:=Lib.hid (fun W' (h:Pr W W')=>treeFault_any l3 k3 o3 c3 W' hl3 (hk3.any.pr h))
  have HR:=Lib.hid hr;have K1:=Lib.hid hk1;have K2:=Lib.hid hk2;have K3:=Lib.hid hk3;have HW:=Lib.hid hwW;have HWs:=Lib.hid hWs
  have F0:=Lib.hid f0;have F1:=Lib.hid f1
  clear hr hk1 hk2 hk3 hwW hWs f0 f1
  go_enter Tryz.func10,Tryz.ntmps10
  go_upto_region 1 with fail
  rw [← hW]
  clear hW
  have x0':=x0 _ (Pr.refl _);have x1':=x1 _ (Pr.refl _);have y0':=y0 _ (Pr.refl _);have y1':=y1 _ (Pr.refl _);have z0':=z0 _ (Pr.refl _);have z1':=z1 _ (Pr.refl _)
  obtain ⟨W7,hW7⟩:∃ W7,W7=W.alloc (.cells #[.string l1,.slice o1 k1.length c1,.string l2,.slice o2 k2.length c2,.string l3,.slice o3 k3.length c3] 34):=⟨_,rfl⟩
  have h7:Pr W W7:=by rw [hW7];exact Pr.alloc _ _
  have a0:=stays (show W7.cell? ⟨W.heap.size,0,none⟩=some (.string l1) by rw [hW7];simp [go_sem])
  have a1:=stays (show W7.cell? ⟨W.heap.size,1,none⟩=some (.slice o1 k1.length c1) by rw [hW7];simp [go_sem])
  have a2:=stays (show W7.cell? ⟨W.heap.size,2,none⟩=some (.string l2) by rw [hW7];simp [go_sem])
  have a3:=stays (show W7.cell? ⟨W.heap.size,3,none⟩=some (.slice o2 k2.length c2) by rw [hW7];simp [go_sem])
  have a4:=stays (show W7.cell? ⟨W.heap.size,4,none⟩=some (.string l3) by rw [hW7];simp [go_sem])
  have a5:=stays (show W7.cell? ⟨W.heap.size,5,none⟩=some (.slice o3 k3.length c3) by rw [hW7];simp [go_sem])
  have H7:=Lib.hid h7
  go_upto_region 2 with fail
  rw [← hW7]
  clear hW7 h7 x0' x1' y0' y1' z0' z1'
  obtain ⟨n1,hn1⟩:∃ n,n=fault (.node l1 k1):=⟨_,rfl⟩
  obtain ⟨n2,hn2⟩:∃ n,n=fault (.node l2 k2):=⟨_,rfl⟩
  obtain ⟨n3,hn3⟩:∃ n,n=fault (.node l3 k3):=⟨_,rfl⟩
  rw [← hn1] at C1;rw [← hn2] at C2;rw [← hn3] at C3
  have N1:=Lib.hid hn1;have N2:=Lib.hid hn2;have N3:=Lib.hid hn3
  clear hn1 hn2 hn3
  have hbad:∀ (W'':World) (n:Nat),Pr w W''→r=(Tr.zero,[],n)→MergePostF r w (.returned (.tuple #[.agg #[.string ⟨#[]⟩,.slice none 0 0],.slice none 0 0,.int .i64 n])) W'':=fun W'' n hp e=>by
    rw [e]
    exact ⟨⟨#[]⟩,[],none,0,none,0,rfl,by simp [ByteArray.size,maxLen],rfl,Kids.nil _ _ _ _ (Nat.zero_le _),Flat.nil _ _ _ _ (Nat.zero_le _),hp⟩
  have Hbad:=Lib.hid hbad
  clear hbad
  go_upto_region 3 with fail
  go_loopw [10] (fun v wr=>∃ k:Nat,k≤3∧v=.int .i64 k∧(1≤k→n1=0)∧(2≤k→n2=0)∧(3≤k→n3=0)∧Pr W7 wr) (fun v _=>3 - (intOf v).toNat)
  case atStart=>exact ⟨0,by omega,rfl,by omega,by omega,by omega,Pr.refl _⟩
  case round =>
    obtain ⟨k,hk,rfl,g1,g2,g3,hb⟩:=hrel
    have hbW:=H7.out.trans hb
    have hk4:k=0∨k=1∨k=2∨k=3:=by omega
    have a0:=stays (a0 _ hb);have a1:=stays (a1 _ hb);have a2:=stays (a2 _ hb);have a3:=stays (a3 _ hb);have a4:=stays (a4 _ hb);have a5:=stays (a5 _ hb)
    rcases hk4 with rfl | rfl | rfl | rfl
    · skip
      have aa:=a0 _ (Pr.refl _);have ab:=a1 _ (Pr.refl _)
      by_cases hz:n1=0
      · subst hz
        clear g1 g2 g3
        go_wp2_with (go_at_call 26;(with_reducible refine Calls.mono (C1.out _ hbW) ?_);rintro e w1 ⟨rfl,hb1⟩)
        refine ⟨⟨1,by omega,by go_num,by intros;trivial,by omega,by omega,hb.trans hb1⟩,?_⟩
        simp [intOf]
      · have e1:((n1:Int) != 0)=true:=by simp [bne_iff_ne];omega
        have hr2:=HR.out
        unfold mergeT at hr2
        rw [← N1.out,if_pos hz] at hr2
        have Hr2:=Lib.hid hr2
        clear hz hr2 g1 g2 g3
        go_wp2_with (go_at_call 26;(with_reducible refine Calls.mono (C1.out _ hbW) ?_);rintro e w1 ⟨rfl,hb1⟩;have hp1:=hbW.trans hb1;have q0:=r0 _ hp1;have q1:=r1 _ hp1;have p0:w1.frozen? ⟨w.heap.size+1+1+1,0,none⟩=false:=(by rw [hp1.frozen (by have:=HWs.out;omega)];exact F0.out);have p1:w1.frozen? ⟨w.heap.size+1+1+1,1,none⟩=false:=(by rw [hp1.frozen (by have:=HWs.out;omega)];exact F1.out))
        refine bodyPost_ret (v:=.tuple #[.agg #[.string ⟨#[]⟩,.slice none 0 0],.slice none 0 0,.int .i64 n1]) (by simp [results,Tryz.results10,go_sem,q0,q1]) rfl (Hbad.out _ _ ?_ Hr2.out)
        exact ((HW.out.trans hp1).setCell (by simp;omega) _).setCell (by simp;omega) _
    · skip
      have z1:=g1 (by omega)
      subst z1
      have aa:=a2 _ (Pr.refl _);have ab:=a3 _ (Pr.refl _)
      by_cases hz:n2=0
      · subst hz
        clear g1 g2 g3
        go_wp2_with (go_at_call 26;(with_reducible refine Calls.mono (C2.out _ hbW) ?_);rintro e w1 ⟨rfl,hb1⟩)
        refine ⟨⟨2,by omega,by go_num,by intros;trivial,by intros;trivial,by omega,hb.trans hb1⟩,?_⟩
        simp [intOf]
      · have e1:((n2:Int) != 0)=true:=by simp [bne_iff_ne];omega
        have hr2:=HR.out
        unfold mergeT at hr2
        rw [← N1.out,← N2.out,if_neg (by simp),if_pos hz] at hr2
        have Hr2:=Lib.hid hr2
        clear hz hr2 g1 g2 g3
        go_wp2_with (go_at_call 26;(with_reducible refine Calls.mono (C2.out _ hbW) ?_);rintro e w1 ⟨rfl,hb1⟩;have hp1:=hbW.trans hb1;have q0:=r0 _ hp1;have q1:=r1 _ hp1;have p0:w1.frozen? ⟨w.heap.size+1+1+1,0,none⟩=false:=(by rw [hp1.frozen (by have:=HWs.out;omega)];exact F0.out);have p1:w1.frozen? ⟨w.heap.size+1+1+1,1,none⟩=false:=(by rw [hp1.frozen (by have:=HWs.out;omega)];exact F1.out))
        refine bodyPost_ret (v:=.tuple #[.agg #[.string ⟨#[]⟩,.slice none 0 0],.slice none 0 0,.int .i64 n2]) (by simp [results,Tryz.results10,go_sem,q0,q1]) rfl (Hbad.out _ _ ?_ Hr2.out)
        exact ((HW.out.trans hp1).setCell (by simp;omega) _).setCell (by simp;omega) _
    · skip
      have z1:=g1 (by omega)
      subst z1
      have z2:=g2 (by omega)
      subst z2
      have aa:=a4 _ (Pr.refl _);have ab:=a5 _ (Pr.refl _)
      by_cases hz:n3=0
      · subst hz
        clear g1 g2 g3
        go_wp2_with (go_at_call 26;(with_reducible refine Calls.mono (C3.out _ hbW) ?_);rintro e w1 ⟨rfl,hb1⟩)
        refine ⟨⟨3,by omega,by go_num,by intros;trivial,by intros;trivial,by intros;trivial,hb.trans hb1⟩,?_⟩
        simp [intOf]
      · have e1:((n3:Int) != 0)=true:=by simp [bne_iff_ne];omega
        have hr2:=HR.out
        unfold mergeT at hr2
        rw [← N1.out,← N2.out,← N3.out,if_neg (by simp),if_neg (by simp),if_pos hz] at hr2
        have Hr2:=Lib.hid hr2
        clear hz hr2 g1 g2 g3
        go_wp2_with (go_at_call 26;(with_reducible refine Calls.mono (C3.out _ hbW) ?_);rintro e w1 ⟨rfl,hb1⟩;have hp1:=hbW.trans hb1;have q0:=r0 _ hp1;have q1:=r1 _ hp1;have p0:w1.frozen? ⟨w.heap.size+1+1+1,0,none⟩=false:=(by rw [hp1.frozen (by have:=HWs.out;omega)];exact F0.out);have p1:w1.frozen? ⟨w.heap.size+1+1+1,1,none⟩=false:=(by rw [hp1.frozen (by have:=HWs.out;omega)];exact F1.out))
        refine bodyPost_ret (v:=.tuple #[.agg #[.string ⟨#[]⟩,.slice none 0 0],.slice none 0 0,.int .i64 n3]) (by simp [results,Tryz.results10,go_sem,q0,q1]) rfl (Hbad.out _ _ ?_ Hr2.out)
        exact ((HW.out.trans hp1).setCell (by simp;omega) _).setCell (by simp;omega) _
    · have z1:=g1 (by omega);have z2:=g2 (by omega);have z3:=g3 (by omega)
      subst z1;subst z2;subst z3
      have s1:Tr.szL k1≤1000:=by have:=(fault_zero.1 N1.out.symm).1;rw [Tr.sz_node] at this;omega
      have s1':Tr.szL k1 < 100:=by have:=(fault_zero.1 N1.out.symm).1;rw [Tr.sz_node] at this;omega
      have s2:Tr.szL k2≤1000:=by have:=(fault_zero.1 N2.out.symm).1;rw [Tr.sz_node] at this;omega
      have s3:Tr.szL k3≤1000:=by have:=(fault_zero.1 N3.out.symm).1;rw [Tr.sz_node] at this;omega
      have hmx:=fun t h=>mixT_sz 100 (.node l1 k1) (.node l2 k2) (.node l3 k3) t h
      simp only [Tr.sz_node] at hmx
      have hr2:=HR.out
      unfold mergeT at hr2
      rw [← N1.out,← N2.out,← N3.out,if_neg (by simp),if_neg (by simp),if_neg (by simp)] at hr2
      have MX:=Lib.hid (fun W' (h:Pr W W')=>rmixed_any 100 l1 l2 l3 k1 k2 k3 o1 o2 o3 c1 c2 c3 w.heap.size W' s1' s1 s2 s3 hl1 hl2 hl3 (by have:=HW.out.size;have:=h.size;omega) (K1.out.pr h) (K2.out.pr h) (K3.out.pr h))
      have w0:=x0 _ hbW;have w1':=x1 _ hbW;have w2':=y0 _ hbW;have w3':=y1 _ hbW;have w4':=z0 _ hbW;have w5':=z1 _ hbW
      clear g1 g2 g3 C1 C2 C3 a0 a1 a2 a3 a4 a5
      cases hx:mixT 100 (.node l1 k1) (.node l2 k2) (.node l3 k3) with
      | error p =>
        rw [hx] at hr2 MX
        simp only [] at hr2
        have Hr2:=Lib.hid hr2
        clear hr2 hx hmx
        go_upto_region 9 with (go_at_call 27;(with_reducible refine Calls.mono (MX.out _ hbW) ?_);rintro e wq ⟨hbq,lq,kv,kn,kc,oq,cq,rfl,hiq⟩)
        obtain ⟨V,hV⟩:∃ V,V=wq.alloc (.cells #[.string lq,.slice kv kn kc] 34):=⟨_,rfl⟩
        have hpV:Pr W V:=by rw [hV];exact (hbW.trans hbq).alloc' _
        have hiq:=Flat.pr (show Pr wq V by rw [hV];exact Pr.alloc _ _) hiq
        have q0:=r0 _ hpV;have q1:=r1 _ hpV
        have p0:V.frozen? ⟨w.heap.size+1+1+1,0,none⟩=false:=(by rw [hpV.frozen (by have:=HWs.out;omega)];exact F0.out);have p1:V.frozen? ⟨w.heap.size+1+1+1,1,none⟩=false:=(by rw [hpV.frozen (by have:=HWs.out;omega)];exact F1.out)
        have hWr:=hbW.size
        rw [← hV]
        have Hiq:=Lib.hid hiq;have HpV:=Lib.hid hpV;have hWr:=Lib.hid hWr
        clear hV hiq hpV hbq w0 w1' w2' w3' w4' w5' MX
        go_wp2_with fail
        refine bodyPost_ret (v:=.tuple #[.agg #[.string ⟨#[]⟩,.slice none 0 0],.slice oq p.length cq,.int .i64 12]) (by simp [results,Tryz.results10,go_sem,q0,q1]) rfl ?_
        rw [Hr2.out]
        refine ⟨⟨#[]⟩,[],none,0,oq,cq,rfl,by simp [ByteArray.size,maxLen],rfl,Kids.nil _ _ _ _ (Nat.zero_le _),?_,((HW.out.trans HpV.out).setCell (by simp;omega) _).setCell (by simp;omega) _⟩
        refine ((Hiq.out.kept (kept_setCell _ _ _ _ ?_)).kept (kept_setCell _ _ _ _ ?_)).mono fun k h _=>?_
        · have:=hWr.out;have:=HWs.out;simp [From];omega
        · have:=hWr.out;have:=HWs.out;simp [From];omega
        · have:=hWr.out;have:=HWs.out;simp only [From] at h ⊢;omega
      | ok t =>
        obtain ⟨lt,kt⟩:=t
        rw [hx] at hr2 MX
        simp only [] at hr2
        have hsz:=hmx _ hx
        rw [Tr.sz_node] at hsz
        have Hr2:=Lib.hid hr2
        clear hr2 hx hmx
        go_upto_region 9 with (go_at_call 27;(with_reducible refine Calls.mono (MX.out _ hbW) ?_);rintro e wq ⟨hbq,lt9,kt9,oq,cq,ht9,hlt,rfl,hkt⟩;cases ht9)
        obtain ⟨V,hV⟩:∃ V,V=wq.alloc (.cells #[.string lt,.slice oq kt.length cq] 34):=⟨_,rfl⟩
        have hpV:Pr W V:=by rw [hV];exact (hbW.trans hbq).alloc' _
        have hkV:=(hkt.pr (show Pr wq V by rw [hV];exact Pr.alloc _ _)).any
        have bV:V.heap[wq.heap.size]? = some (.cells #[.string lt,.slice oq kt.length cq] 34 (0,0)):=by rw [hV];exact heap_alloc_new _ _
        have hVs:V.heap.size=wq.heap.size+1:=by rw [hV];simp
        have hWq:W.heap.size≤wq.heap.size:=(hbW.trans hbq).size
        have o0':=blk_cell (o:=0) bV;have o1':=blk_cell (o:=1) bV
        simp only [List.getElem?_toArray,List.getElem?_cons_zero,List.getElem?_cons_succ] at o0' o1'
        rw [← hV]
        have HVs:=Lib.hid hVs;have HpV:=Lib.hid hpV;have HbV:=Lib.hid bV;have HWq:=Lib.hid hWq
        have OW:=Lib.hid (rown_any lt kt oq cq V (by omega) hkV)
        clear hV hpV hbq w0 w1' w2' w3' w4' w5' MX hkt hkV bV hVs hWq
        go_upto_region 12 with (go_at_call 24;(with_reducible refine Calls.mono OW.out ?_);rintro e w5 ⟨o5,c5,rfl,hk5,hb5⟩;have hB5:=hb5.blk HbV.out;have z0:=blk_cell (o:=0) hB5;have z1:=blk_cell (o:=1) hB5;have z2:w5.frozen? ⟨wq.heap.size,0,none⟩=false:=blk_frozen hB5;have z3:w5.frozen? ⟨wq.heap.size,1,none⟩=false:=blk_frozen hB5;have HB5:=Lib.hid hB5;clear hB5)
        obtain ⟨V2,hV2⟩:∃ V2,V2=(w5.setCell ⟨wq.heap.size,0,none⟩ (.string lt)).setCell ⟨wq.heap.size,1,none⟩ (.slice o5 kt.length c5):=⟨_,rfl⟩
        have b2:V2.heap[wq.heap.size]? = some (.cells #[.string lt,.slice o5 kt.length c5] 34 (0,0)):=by rw [hV2];exact blk_set (o:=1) (blk_set (o:=0) HB5.out _) _
        have hp2:Pr W V2:=by rw [hV2];exact ((HpV.out.trans hb5).setCell (show W.heap.size≤(Addr.block ⟨wq.heap.size,0,none⟩) from HWq.out) _).setCell (show W.heap.size≤(Addr.block ⟨wq.heap.size,1,none⟩) from HWq.out) _
        have hk2:Kids (From V.heap.size) V2 kt o5 c5:=by
          rw [hV2];exact (hk5.setCell _ _ (by have:=HVs.out;simp [From];omega)).setCell _ _ (by have:=HVs.out;simp [From];omega)
        have TF:=Lib.hid fun W' (h:Pr V2 W')=>treeFault_any lt kt o5 c5 W' hlt (hk2.any.pr h)
        obtain ⟨n4,hn4⟩:∃ n,n=fault (.node lt kt):=⟨_,rfl⟩
        rw [← hn4] at TF
        have N4:=Lib.hid hn4
        have y0':=blk_cell (o:=0) b2;have y1':=blk_cell (o:=1) b2
        simp only [List.getElem?_toArray,List.getElem?_cons_zero,List.getElem?_cons_succ] at y0' y1'
        have Y0:=stays y0';have Y1:=stays y1'
        rw [← hV2]
        have Hk2:=Lib.hid hk2;have Hp2:=Lib.hid hp2
        clear hV2 b2 hk2 hp2 z0 z1 z2 z3 hk5 hb5 hn4 o0' o1'
        by_cases h4:n4=0
        · have e1:((n4:Int) != 0)=false:=by simp [h4]
          have hr3:=Hr2.out
          rw [← N4.out,if_neg (by simpa using h4)] at hr3
          have Hr3:=Lib.hid hr3
          clear hr3 h4
          go_wp2_with (go_at_call 26;(with_reducible refine Calls.mono (TF.out _ (Pr.refl _)) ?_);rintro e w6 ⟨rfl,hb6⟩;have hp1:=Hp2.out.trans hb6;have y0':=Y0 _ hb6;have y1':=Y1 _ hb6;have q0:=r0 _ hp1;have q1:=r1 _ hp1;have p0:w6.frozen? ⟨w.heap.size+1+1+1,0,none⟩=false:=(by rw [hp1.frozen (by have:=HWs.out;omega)];exact F0.out);have p1:w6.frozen? ⟨w.heap.size+1+1+1,1,none⟩=false:=(by rw [hp1.frozen (by have:=HWs.out;omega)];exact F1.out))
          refine bodyPost_ret (v:=.tuple #[.agg #[.string lt,.slice o5 kt.length c5],.slice none 0 0,.int .i64 0]) (by simp [results,Tryz.results10,go_sem,q0,q1]) rfl ?_
          rw [Hr3.out]
          refine ⟨lt,kt,o5,c5,none,0,rfl,hlt,rfl,?_,Flat.nil _ _ _ _ (Nat.zero_le _),((HW.out.trans hp1).setCell (by simp;omega) _).setCell (by simp;omega) _⟩
          have hVW:=HpV.out.size
          exact (((Hk2.out.pr hb6).setCell _ _ (by have:=HWs.out;simp [From];omega)).setCell _ _ (by have:=HWs.out;simp [From];omega)).mono fun k h _=>by have:=HWs.out;simp only [From] at h ⊢;omega
        · have e1:((n4:Int) != 0)=true:=by simp [bne_iff_ne];omega
          have hr3:=Hr2.out
          rw [← N4.out,if_pos h4] at hr3
          have Hr3:=Lib.hid hr3
          clear hr3 h4
          go_wp2_with (go_at_call 26;(with_reducible refine Calls.mono (TF.out _ (Pr.refl _)) ?_);rintro e w6 ⟨rfl,hb6⟩;have hp1:=Hp2.out.trans hb6;have q0:=r0 _ hp1;have q1:=r1 _ hp1;have p0:w6.frozen? ⟨w.heap.size+1+1+1,0,none⟩=false:=(by rw [hp1.frozen (by have:=HWs.out;omega)];exact F0.out);have p1:w6.frozen? ⟨w.heap.size+1+1+1,1,none⟩=false:=(by rw [hp1.frozen (by have:=HWs.out;omega)];exact F1.out))
          refine bodyPost_ret (v:=.tuple #[.agg #[.string ⟨#[]⟩,.slice none 0 0],.slice none 0 0,.int .i64 n4]) (by simp [results,Tryz.results10,go_sem,q0,q1]) rfl (Hbad.out _ _ ?_ Hr3.out)
          exact ((HW.out.trans hp1).setCell (by simp;omega) _).setCell (by simp;omega) _
end
end Go.Proofs.YtdbnfhpgmcjngacGreat
