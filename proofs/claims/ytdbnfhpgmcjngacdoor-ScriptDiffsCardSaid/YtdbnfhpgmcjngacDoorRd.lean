/- Walks: the document's table: which nodes stay. -/
import Derived.Test.YtdbnfhpgmcjngacDoorRc
namespace Go.Proofs.YtdbnfhpgmcjngacDoor
open Go Go.RowKit
def RPost (xs ys:List Nd) (g K:Nat) (w:World) (ps:List (Int × Int)) (e:Ending) (w':World):Prop:=∃ v,e=.returned v∧OwnsPs w.heap.size w' v ps∧Chg (fun k=>k=g) w w'∧Memo w' g K xs ys
theorem Memo.chg {w w':World} {g K:Nat} {xs ys:List Nd} {X:Nat→Prop} (h:Memo w g K xs ys) (hc:Chg X w w') (hg:¬ X g):Memo w' g K xs ys:=by
  obtain ⟨M,h1,h2⟩:=h;exact ⟨M,hc.blk h1 hg,h2⟩
theorem Memo.lt {w:World} {g K:Nat} {xs ys:List Nd} (h:Memo w g K xs ys):g < w.heap.size:=by obtain ⟨M,h1,_⟩:=h;exact blk_lt h1
theorem OwnsPs.chg {b:Nat} {w w':World} {v:Value} {ps:List (Int × Int)} {g:Nat} (h:OwnsPs b w v ps) (hc:Chg (fun k=>k=g) w w') (hg:g < b):OwnsPs b w' v ps :=
  h.kept fun k hk=>hc.block k (h.block k hk).2 (fun e=>by have:=(h.block k hk).1;omega)
set_option maxRecDepth 100000 in
set_option maxHeartbeats 12800000 in
theorem rbest_any (xs ys:List Nd) (hx:Fit xs) (hy:Fit ys) (hix:xs.length≤16) (hjy:ys.length≤16) (B xb xo xc yb yo yc g K:Nat) (N:Nat):∀ (i0 I j0 J:Nat) (ii jj:Int) (w:World),(I - i0)+(J - j0) < N→i0≤I→j0≤J→I≤xs.length→J≤ys.length →
    Cl xs i0 I→Cl ys j0 J→ii=(I:Int)→jj=(J:Int)→Apt w B xs ys xb xo xc yb yo yc g K→Memo w g K xs ys →
    Calls Tryd.prog 50 #[.pointer (some ⟨B,0,none⟩),.int .i64 i0,.int .i64 ii,.int .i64 j0,.int .i64 jj] w (RPost xs ys g K w (zp (bestP xs ys i0 I j0 J))):=by
  induction N with
  | zero=>intro i0 I j0 J ii jj w h;omega
  | succ N ih =>
    have Ih:=Lib.hid ih;clear ih
    intro i0 I j0 J ii jj w hN hi0 hj0 hIx hJy cx cy hii hjj hA hM
    by_cases hnil:I=i0∨J=j0
    · rw [bestP_nil (xs:=xs) (ys:=ys) (by omega:I≤i0∨J≤j0)]
      have hor:(ii==(i0:Int))=true∨((ii==(i0:Int))=false∧(jj==(j0:Int))=true):=by
        by_cases h:I=i0
        · left;simp;omega
        · right;exact ⟨by rw [beq_eq_false_iff_ne];omega,by simp;omega⟩
      have HM:=Lib.hid hM
      clear hnil hii hjj hA hM cx cy
      rcases hor with h | ⟨h,h2⟩
      all_goals
        go_enter Tryd.func50,Tryd.ntmps50
        go_wp2_with fail
        go_ret
        exact ⟨_,rfl,OwnsPs.nil _ _,Chg.refl _ _,HM.out⟩
    obtain ⟨i,rfl⟩:∃ i,I=i+1:=⟨I - 1,by omega⟩
    obtain ⟨j,rfl⟩:∃ j,J=j+1:=⟨J - 1,by omega⟩
    have p1:(ii==(i0:Int))=false:=by rw [beq_eq_false_iff_ne];omega
    have p2:(jj==(j0:Int))=false:=by rw [beq_eq_false_iff_ne];omega
    have b0:w.cell? ⟨B,0,none⟩=some (.slice (some ⟨xb,xo,none⟩) xs.length xc):=blk_cell hA.blk
    have b1:w.cell? ⟨B,1,none⟩=some (.slice (some ⟨yb,yo,none⟩) ys.length yc):=blk_cell hA.blk
    obtain ⟨L,hL⟩:∃ L,L=lfN xs i:=⟨_,rfl⟩
    obtain ⟨M,hMM⟩:∃ M,M=lfN ys j:=⟨_,rfl⟩
    have hL1:=cx i (by omega) (by omega)
    have hM1:=cy j (by omega) (by omega)
    have hL2:=lfN_le xs i
    have hM2:=lfN_le ys j
    rw [← hL] at hL1 hL2
    rw [← hMM] at hM1 hM2
    have x2:=(hA.nx i (by omega)).2.2
    have y2:=(hA.ny j (by omega)).2.2
    rw [hx.left i (by omega),← hL] at x2
    rw [hy.left j (by omega),← hMM] at y2
    have hst:=bestP_step (xs:=xs) (ys:=ys) (by omega:i0≤i) (by omega:j0≤j) cx cy
    rw [← hL,← hMM] at hst
    have clx:Cl xs L (i+1):=by rw [hL];exact hx.cl (by omega)
    have cly:Cl ys M (j+1):=by rw [hMM];exact hy.cl (by omega)
    have k1:=fdn_bound hx hy (i0:=i0) (i:=i) (j0:=j0) (j:=j+1) (by omega) (by omega) (cx.mono (by omega)) cy (by omega) (by omega)
    have k2:=fdn_bound hx hy (i0:=i0) (i:=i) (j0:=j0) (j:=j) (by omega) (by omega) (cx.mono (by omega)) (cy.mono (by omega)) (by omega) (by omega)
    have k3:=fdn_bound hx hy (i0:=i0) (i:=L) (j0:=j0) (j:=M) (by omega) (by omega) (cx.mono (by omega)) (cy.mono (by omega)) (by omega) (by omega)
    have k4:=fdn_bound hx hy (i0:=L) (i:=i+1) (j0:=M) (j:=j+1) (by omega) (by omega) clx cly (by omega) (by omega)
    have n1:=bestP_len xs ys hx hy (i0:=i0) (i:=i) (j0:=j0) (j:=j) (by omega) (by omega) (cx.mono (by omega)) (cy.mono (by omega)) (by omega) (by omega)
    have n2:=bestP_len xs ys hx hy (i0:=i0) (i:=L) (j0:=j0) (j:=M) (by omega) (by omega) (cx.mono (by omega)) (cy.mono (by omega)) (by omega) (by omega)
    have n3:=bestP_len xs ys hx hy (i0:=L) (i:=i+1) (j0:=M) (j:=j+1) (by omega) (by omega) clx cly (by omega) (by omega)
    rw [← zp_length] at n1 n2 n3
    have hlc:=lc_le (labN xs i) (labN ys j)
    have FN:Hid (∀ W',Apt W' B xs ys xb xo xc yb yo yc g K→Calls Tryd.prog 83 #[.pointer (some ⟨B,0,none⟩),.int .i64 i,.int .i64 j] W' fun e w'=>e=.returned (.int .i64 (lc (labN xs i) (labN ys j):Nat))∧∃ m,w'=W'.drewN m):=Lib.hid fun W' h=>rname_any h i j (by omega) (by omega)
    have F0:Hid (∀ W',Apt W' B xs ys xb xo xc yb yo yc g K→Memo W' g K xs ys→Calls Tryd.prog 82 #[.pointer (some ⟨B,0,none⟩),.int .i64 i0,.int .i64 ii,.int .i64 j0,.int .i64 jj] W' fun e w'=>e=.returned (.int .i64 (fdn xs ys i0 (i+1) j0 (j+1):Nat))∧Chg (fun k=>k=g) W' w'∧Memo w' g K xs ys):=Lib.hid fun W' h h'=>rforests_at xs ys hx hy hix hjy i0 (i+1) j0 (j+1) _ _ (by omega) (by omega) (by omega) (by omega) cx cy hii hjj W' h h'
    have FP:Hid (∀ W',Apt W' B xs ys xb xo xc yb yo yc g K→Memo W' g K xs ys→Calls Tryd.prog 82 #[.pointer (some ⟨B,0,none⟩),.int .i64 i0,.int .i64 i,.int .i64 j0,.int .i64 j] W' fun e w'=>e=.returned (.int .i64 (fdn xs ys i0 i j0 j:Nat))∧Chg (fun k=>k=g) W' w'∧Memo w' g K xs ys):=Lib.hid fun W' h h'=>rforests_at xs ys hx hy hix hjy i0 i j0 j _ _ (by omega) (by omega) (by omega) (by omega) (cx.mono (by omega)) (cy.mono (by omega)) rfl rfl W' h h'
    have FR:Hid (∀ W',Apt W' B xs ys xb xo xc yb yo yc g K→Memo W' g K xs ys→Calls Tryd.prog 82 #[.pointer (some ⟨B,0,none⟩),.int .i64 i0,.int .i64 i,.int .i64 j0,.int .i64 jj] W' fun e w'=>e=.returned (.int .i64 (fdn xs ys i0 i j0 (j+1):Nat))∧Chg (fun k=>k=g) W' w'∧Memo w' g K xs ys):=Lib.hid fun W' h h'=>rforests_at xs ys hx hy hix hjy i0 i j0 (j+1) _ _ (by omega) (by omega) (by omega) (by omega) (cx.mono (by omega)) cy rfl hjj W' h h'
    have FQ:Hid (∀ W',Apt W' B xs ys xb xo xc yb yo yc g K→Memo W' g K xs ys→Calls Tryd.prog 82 #[.pointer (some ⟨B,0,none⟩),.int .i64 i0,.int .i64 L,.int .i64 j0,.int .i64 M] W' fun e w'=>e=.returned (.int .i64 (fdn xs ys i0 L j0 M:Nat))∧Chg (fun k=>k=g) W' w'∧Memo w' g K xs ys):=Lib.hid fun W' h h'=>rforests_at xs ys hx hy hix hjy i0 L j0 M _ _ (by omega) (by omega) (by omega) (by omega) (cx.mono (by omega)) (cy.mono (by omega)) rfl rfl W' h h'
    have FT:Hid (∀ W',Apt W' B xs ys xb xo xc yb yo yc g K→Memo W' g K xs ys→Calls Tryd.prog 82 #[.pointer (some ⟨B,0,none⟩),.int .i64 L,.int .i64 ii,.int .i64 M,.int .i64 jj] W' fun e w'=>e=.returned (.int .i64 (fdn xs ys L (i+1) M (j+1):Nat))∧Chg (fun k=>k=g) W' w'∧Memo w' g K xs ys):=Lib.hid fun W' h h'=>rforests_at xs ys hx hy hix hjy L (i+1) M (j+1) _ _ (by omega) (by omega) (by omega) (by omega) clx cly hii hjj W' h h'
    have R1:Hid (∀ W',Apt W' B xs ys xb xo xc yb yo yc g K→Memo W' g K xs ys→Calls Tryd.prog 50 #[.pointer (some ⟨B,0,none⟩),.int .i64 i0,.int .i64 i,.int .i64 j0,.int .i64 j] W' (RPost xs ys g K W' (zp (bestP xs ys i0 i j0 j)))):=Lib.hid fun W' h h'=>Ih.out i0 i j0 j _ _ W' (by omega) (by omega) (by omega) (by omega) (by omega) (cx.mono (by omega)) (cy.mono (by omega)) rfl rfl h h'
    have R2:Hid (∀ W',Apt W' B xs ys xb xo xc yb yo yc g K→Memo W' g K xs ys→Calls Tryd.prog 50 #[.pointer (some ⟨B,0,none⟩),.int .i64 i0,.int .i64 L,.int .i64 j0,.int .i64 M] W' (RPost xs ys g K W' (zp (bestP xs ys i0 L j0 M)))):=Lib.hid fun W' h h'=>Ih.out i0 L j0 M _ _ W' (by omega) (by omega) (by omega) (by omega) (by omega) (cx.mono (by omega)) (cy.mono (by omega)) rfl rfl h h'
    have R3:Hid (¬ (L=i0∧M=j0)→∀ W',Apt W' B xs ys xb xo xc yb yo yc g K→Memo W' g K xs ys→Calls Tryd.prog 50 #[.pointer (some ⟨B,0,none⟩),.int .i64 L,.int .i64 ii,.int .i64 M,.int .i64 jj] W' (RPost xs ys g K W' (zp (bestP xs ys L (i+1) M (j+1))))):=Lib.hid fun hne W' h h'=>Ih.out L (i+1) M (j+1) _ _ W' (by omega) (by omega) (by omega) (by omega) (by omega) clx cly hii hjj h h'
    have R4:Hid (∀ W',Apt W' B xs ys xb xo xc yb yo yc g K→Memo W' g K xs ys→Calls Tryd.prog 50 #[.pointer (some ⟨B,0,none⟩),.int .i64 i0,.int .i64 i,.int .i64 j0,.int .i64 jj] W' (RPost xs ys g K W' (zp (bestP xs ys i0 i j0 (j+1))))):=Lib.hid fun W' h h'=>Ih.out i0 i j0 (j+1) _ _ W' (by omega) (by omega) (by omega) (by omega) (by omega) (cx.mono (by omega)) cy rfl hjj h h'
    have R5:Hid (∀ W',Apt W' B xs ys xb xo xc yb yo yc g K→Memo W' g K xs ys→Calls Tryd.prog 50 #[.pointer (some ⟨B,0,none⟩),.int .i64 i0,.int .i64 ii,.int .i64 j0,.int .i64 j] W' (RPost xs ys g K W' (zp (bestP xs ys i0 (i+1) j0 j)))):=Lib.hid fun W' h h'=>Ih.out i0 (i+1) j0 j _ _ W' (by omega) (by omega) (by omega) (by omega) (by omega) cx (cy.mono (by omega)) hii rfl h h'
    generalize fdn xs ys i0 (i+1) j0 (j+1)=d at *
    generalize fdn xs ys i0 i j0 j=p at *
    generalize fdn xs ys i0 i j0 (j+1)=r at *
    generalize fdn xs ys i0 L j0 M=q at *
    generalize fdn xs ys L (i+1) M (j+1)=t at *
    generalize lc (labN xs i) (labN ys j)=c at *
    have Hst:=Lib.hid hst
    have hgl:=hM.lt
    have u1:IntKind.i64.wrap ((p:Int)+(c:Int))=(p:Int)+(c:Int):=IntWalk.i64_in _ (by omega)
    have u2:IntKind.i64.wrap ((q:Int)+(t:Int))=(q:Int)+(t:Int):=IntWalk.i64_in _ (by omega)
    have u3:IntKind.i64.wrap ((r:Int)+1)=(r:Int)+1:=IntWalk.i64_in _ (by omega)
    have s1:IntKind.i64.wrap (ii - 1)=(i:Int):=by rw [IntWalk.i64_in _ (by omega)];omega
    have s2:IntKind.i64.wrap (jj - 1)=(j:Int):=by rw [IntWalk.i64_in _ (by omega)];omega
    have t1:(i:Int) < xs.length:=by omega
    have t2:(j:Int) < ys.length:=by omega
    have t3:(0:Int)≤i:=by omega
    have t4:(0:Int)≤j:=by omega
    have hib:i≤16:=by omega
    have hjb:j≤16:=by omega
    have hLb:L≤16:=by omega
    have hMb:M≤16:=by omega
    have HA:=Lib.hid hA;have HM:=Lib.hid hM
    clear hst hA hM cx cy clx cly hL hMM hii hjj hnil k1 k2 k3 k4 hlc hL1 hM1 hL2 hM2 hi0 hj0 hIx hJy hN Ih hx hy hix hjy
    have hcs:(L=i0∧M=j0)∨(¬ (L=i0∧M=j0)∧(((L:Int)==(i0:Int))=false∨(((L:Int)==(i0:Int))=true∧((M:Int)==(j0:Int))=false))):=by
      by_cases h1:L=i0
      · by_cases h2:M=j0
        · exact .inl ⟨h1,h2⟩
        · exact .inr ⟨fun h=>h2 h.2,.inr ⟨by simp [h1],by rw [beq_eq_false_iff_ne];omega⟩⟩
      · exact .inr ⟨fun h=>h1 h.1,.inl (by rw [beq_eq_false_iff_ne];omega)⟩
    rcases hcs with hab | ⟨hab,hbr⟩
    · have f1:((L:Int)==(i0:Int))=true:=by simp;omega
      have f2:((M:Int)==(j0:Int))=true:=by simp;omega
      by_cases hd:d=p+c
      · have f3:(((p:Int)+(c:Int))==(d:Int))=true:=by simp;omega
        have Hs:=Lib.hid (Hst.out.trans (if_pos ⟨hab.1,hab.2,hd⟩))
        clear hab hd
        go_enter Tryd.func50,Tryd.ntmps50
        go_wp2_with fail
        go_quiet (fail)
        have hA:=HA.out.pr (Pr.drewN w nq);have hM:=HM.out.pr (Pr.drewN w nq);have hc:=(Pr.drewN w nq).chg (fun k=>k=g)
        go_wp2_with (first
          | (go_at_call 82;(with_reducible refine Calls.mono (F0.out _ hA hM) ?_);rintro e w1 ⟨rfl,hc1,hM⟩;have hA:=hA.chg hc1;have hc:=hc.trans hc1 (fun _ h=>.inl h))
          | (go_at_call 82;(with_reducible refine Calls.mono (FP.out _ hA hM) ?_);rintro e w1 ⟨rfl,hc1,hM⟩;have hA:=hA.chg hc1;have hc:=hc.trans hc1 (fun _ h=>.inl h))
          | (go_at_call 83;(with_reducible refine Calls.mono (FN.out _ hA) ?_);rintro e w1 ⟨rfl,nq2,rfl⟩;have hA:=hA.pr (Pr.drewN _ nq2);have hM:=hM.pr (Pr.drewN _ nq2);have hc:=hc.pr (Pr.drewN _ nq2))
          | (go_at_call 50;(with_reducible refine Calls.mono (R1.out _ hA hM) ?_);rintro e w4 ⟨v4,rfl,ho4,hc4,hM⟩;have ho4:=ho4.mono hc.size;have hA:=hA.chg hc4;have hc:=hc.trans hc4 (fun _ h=>.inl h))
          | (at_builtin;go_must (refine app_pair rfl _ _ rfl w.heap.size _ _ rfl (ho4.pr (Pr.alloc _ _)) w4.heap.size rfl ((i:Int),(j:Int)) (heap_alloc_new w4 _) (by omega) (by have:=hc.size;simp;omega) ?_);intro v5 w5 ho5 hg5 hd5))
        go_ret
        exact ⟨v5,rfl,by rw [Hs.out,zp_append];exact ho5,(hc.pr (Pr.alloc _ _)).trans (chg_grown hg5) (fun k hk=>.inr (ho4.block k hk).1),(hM.pr (Pr.alloc _ _)).chg (chg_grown hg5) (fun hk=>by have:=(ho4.block g hk).1;omega)⟩
      · have f3:(((p:Int)+(c:Int))==(d:Int))=false:=by rw [beq_eq_false_iff_ne];omega
        have hs:=Hst.out.trans ((if_neg (fun h=>hd h.2.2)).trans (if_neg (fun h=>h.1 hab)))
        by_cases hr:d=r+1
        · have f4:(((r:Int)+1)==(d:Int))=true:=by simp;omega
          have Hs:=Lib.hid (hs.trans (if_pos hr))
          clear hab hd hr hs
          go_enter Tryd.func50,Tryd.ntmps50
          go_wp2_with fail
          go_quiet (fail)
          have hA:=HA.out.pr (Pr.drewN w nq);have hM:=HM.out.pr (Pr.drewN w nq);have hc:=(Pr.drewN w nq).chg (fun k=>k=g)
          go_wp2_with (first
            | (go_at_call 82;(with_reducible refine Calls.mono (F0.out _ hA hM) ?_);rintro e w1 ⟨rfl,hc1,hM⟩;have hA:=hA.chg hc1;have hc:=hc.trans hc1 (fun _ h=>.inl h))
            | (go_at_call 82;(with_reducible refine Calls.mono (FP.out _ hA hM) ?_);rintro e w1 ⟨rfl,hc1,hM⟩;have hA:=hA.chg hc1;have hc:=hc.trans hc1 (fun _ h=>.inl h))
            | (go_at_call 83;(with_reducible refine Calls.mono (FN.out _ hA) ?_);rintro e w1 ⟨rfl,nq2,rfl⟩;have hA:=hA.pr (Pr.drewN _ nq2);have hM:=hM.pr (Pr.drewN _ nq2);have hc:=hc.pr (Pr.drewN _ nq2))
            | (go_at_call 82;(with_reducible refine Calls.mono (FR.out _ hA hM) ?_);rintro e w1 ⟨rfl,hc1,hM⟩;have hA:=hA.chg hc1;have hc:=hc.trans hc1 (fun _ h=>.inl h))
            | (go_at_call 50;(with_reducible refine Calls.mono (R4.out _ hA hM) ?_);rintro e w4 ⟨v4,rfl,ho4,hc4,hM⟩;have ho4:=ho4.mono hc.size;have hA:=hA.chg hc4;have hc:=hc.trans hc4 (fun _ h=>.inl h)))
          go_ret
          exact ⟨v4,rfl,by rw [Hs.out];exact ho4,hc,hM⟩
        · have f4:(((r:Int)+1)==(d:Int))=false:=by rw [beq_eq_false_iff_ne];omega
          have Hs:=Lib.hid (hs.trans (if_neg hr))
          clear hab hd hr hs
          go_enter Tryd.func50,Tryd.ntmps50
          go_wp2_with fail
          go_quiet (fail)
          have hA:=HA.out.pr (Pr.drewN w nq);have hM:=HM.out.pr (Pr.drewN w nq);have hc:=(Pr.drewN w nq).chg (fun k=>k=g)
          go_wp2_with (first
            | (go_at_call 82;(with_reducible refine Calls.mono (F0.out _ hA hM) ?_);rintro e w1 ⟨rfl,hc1,hM⟩;have hA:=hA.chg hc1;have hc:=hc.trans hc1 (fun _ h=>.inl h))
            | (go_at_call 82;(with_reducible refine Calls.mono (FP.out _ hA hM) ?_);rintro e w1 ⟨rfl,hc1,hM⟩;have hA:=hA.chg hc1;have hc:=hc.trans hc1 (fun _ h=>.inl h))
            | (go_at_call 83;(with_reducible refine Calls.mono (FN.out _ hA) ?_);rintro e w1 ⟨rfl,nq2,rfl⟩;have hA:=hA.pr (Pr.drewN _ nq2);have hM:=hM.pr (Pr.drewN _ nq2);have hc:=hc.pr (Pr.drewN _ nq2))
            | (go_at_call 82;(with_reducible refine Calls.mono (FR.out _ hA hM) ?_);rintro e w1 ⟨rfl,hc1,hM⟩;have hA:=hA.chg hc1;have hc:=hc.trans hc1 (fun _ h=>.inl h))
            | (go_at_call 50;(with_reducible refine Calls.mono (R5.out _ hA hM) ?_);rintro e w4 ⟨v4,rfl,ho4,hc4,hM⟩;have ho4:=ho4.mono hc.size;have hA:=hA.chg hc4;have hc:=hc.trans hc4 (fun _ h=>.inl h)))
          go_ret
          exact ⟨v4,rfl,by rw [Hs.out];exact ho4,hc,hM⟩
    · by_cases hd:d=q+t
      · have f3:(((q:Int)+(t:Int))==(d:Int))=true:=by simp;omega
        have Hs:=Lib.hid (Hst.out.trans ((if_neg (fun h=>hab ⟨h.1,h.2.1⟩)).trans (if_pos ⟨hab,hd⟩)))
        have R3':=Lib.hid (R3.out hab)
        clear hab hd
        rcases hbr with f1 | ⟨f1,f2⟩
        all_goals
          go_enter Tryd.func50,Tryd.ntmps50
          go_wp2_with fail
          go_quiet (fail)
          have hA:=HA.out.pr (Pr.drewN w nq);have hM:=HM.out.pr (Pr.drewN w nq);have hc:=(Pr.drewN w nq).chg (fun k=>k=g)
          go_wp2_with (first
            | (go_at_call 82;(with_reducible refine Calls.mono (F0.out _ hA hM) ?_);rintro e w1 ⟨rfl,hc1,hM⟩;have hA:=hA.chg hc1;have hc:=hc.trans hc1 (fun _ h=>.inl h))
            | (go_at_call 82;(with_reducible refine Calls.mono (FQ.out _ hA hM) ?_);rintro e w1 ⟨rfl,hc1,hM⟩;have hA:=hA.chg hc1;have hc:=hc.trans hc1 (fun _ h=>.inl h))
            | (go_at_call 82;(with_reducible refine Calls.mono (FT.out _ hA hM) ?_);rintro e w1 ⟨rfl,hc1,hM⟩;have hA:=hA.chg hc1;have hc:=hc.trans hc1 (fun _ h=>.inl h))
            | (go_at_call 50;(with_reducible refine Calls.mono (R2.out _ hA hM) ?_);rintro e w4 ⟨v4,rfl,ho4,hc4,hM⟩;have ho4:=ho4.mono hc.size;have hA:=hA.chg hc4;have hc:=hc.trans hc4 (fun _ h=>.inl h))
            | (go_at_call 50;(with_reducible refine Calls.mono (R3'.out _ hA hM) ?_);rintro e w6 ⟨v6,rfl,ho6,hc6,hM⟩;obtain ⟨oa6,cap6,rfl,hp6⟩:=ho6.prs;have ho4:=ho4.chg hc6 hgl;have hA:=hA.chg hc6;have hc:=hc.trans hc6 (fun _ h=>.inl h))
            | (at_builtin;go_must (refine app_pairs rfl _ _ rfl w.heap.size _ _ rfl ho4 _ _ _ _ rfl hp6 (by omega) hc.size ?_);intro v5 w5 ho5 hg5 hd5))
          go_ret
          exact ⟨v5,rfl,by rw [Hs.out,zp_append];exact ho5,hc.trans (chg_grown hg5) (fun k hk=>.inr (ho4.block k hk).1),hM.chg (chg_grown hg5) (fun hk=>by have:=(ho4.block g hk).1;omega)⟩
      · have f3:(((q:Int)+(t:Int))==(d:Int))=false:=by rw [beq_eq_false_iff_ne];omega
        have hs:=Hst.out.trans ((if_neg (fun h=>hab ⟨h.1,h.2.1⟩)).trans (if_neg (fun h=>hd h.2)))
        by_cases hr:d=r+1
        · have f4:(((r:Int)+1)==(d:Int))=true:=by simp;omega
          have Hs:=Lib.hid (hs.trans (if_pos hr))
          clear hab hd hr hs
          rcases hbr with f1 | ⟨f1,f2⟩
          all_goals
            go_enter Tryd.func50,Tryd.ntmps50
            go_wp2_with fail
            go_quiet (fail)
            have hA:=HA.out.pr (Pr.drewN w nq);have hM:=HM.out.pr (Pr.drewN w nq);have hc:=(Pr.drewN w nq).chg (fun k=>k=g)
            go_wp2_with (first
              | (go_at_call 82;(with_reducible refine Calls.mono (F0.out _ hA hM) ?_);rintro e w1 ⟨rfl,hc1,hM⟩;have hA:=hA.chg hc1;have hc:=hc.trans hc1 (fun _ h=>.inl h))
              | (go_at_call 82;(with_reducible refine Calls.mono (FQ.out _ hA hM) ?_);rintro e w1 ⟨rfl,hc1,hM⟩;have hA:=hA.chg hc1;have hc:=hc.trans hc1 (fun _ h=>.inl h))
              | (go_at_call 82;(with_reducible refine Calls.mono (FT.out _ hA hM) ?_);rintro e w1 ⟨rfl,hc1,hM⟩;have hA:=hA.chg hc1;have hc:=hc.trans hc1 (fun _ h=>.inl h))
              | (go_at_call 82;(with_reducible refine Calls.mono (FR.out _ hA hM) ?_);rintro e w1 ⟨rfl,hc1,hM⟩;have hA:=hA.chg hc1;have hc:=hc.trans hc1 (fun _ h=>.inl h))
              | (go_at_call 50;(with_reducible refine Calls.mono (R4.out _ hA hM) ?_);rintro e w4 ⟨v4,rfl,ho4,hc4,hM⟩;have ho4:=ho4.mono hc.size;have hA:=hA.chg hc4;have hc:=hc.trans hc4 (fun _ h=>.inl h)))
            go_ret
            exact ⟨v4,rfl,by rw [Hs.out];exact ho4,hc,hM⟩
        · have f4:(((r:Int)+1)==(d:Int))=false:=by rw [beq_eq_false_iff_ne];omega
          have Hs:=Lib.hid (hs.trans (if_neg hr))
          clear hab hd hr hs
          rcases hbr with f1 | ⟨f1,f2⟩
          all_goals
            go_enter Tryd.func50,Tryd.ntmps50
            go_wp2_with fail
            go_quiet (fail)
            have hA:=HA.out.pr (Pr.drewN w nq);have hM:=HM.out.pr (Pr.drewN w nq);have hc:=(Pr.drewN w nq).chg (fun k=>k=g)
            go_wp2_with (first
              | (go_at_call 82;(with_reducible refine Calls.mono (F0.out _ hA hM) ?_);rintro e w1 ⟨rfl,hc1,hM⟩;have hA:=hA.chg hc1;have hc:=hc.trans hc1 (fun _ h=>.inl h))
              | (go_at_call 82;(with_reducible refine Calls.mono (FQ.out _ hA hM) ?_);rintro e w1 ⟨rfl,hc1,hM⟩;have hA:=hA.chg hc1;have hc:=hc.trans hc1 (fun _ h=>.inl h))
              | (go_at_call 82;(with_reducible refine Calls.mono (FT.out _ hA hM) ?_);rintro e w1 ⟨rfl,hc1,hM⟩;have hA:=hA.chg hc1;have hc:=hc.trans hc1 (fun _ h=>.inl h))
              | (go_at_call 82;(with_reducible refine Calls.mono (FR.out _ hA hM) ?_);rintro e w1 ⟨rfl,hc1,hM⟩;have hA:=hA.chg hc1;have hc:=hc.trans hc1 (fun _ h=>.inl h))
              | (go_at_call 50;(with_reducible refine Calls.mono (R5.out _ hA hM) ?_);rintro e w4 ⟨v4,rfl,ho4,hc4,hM⟩;have ho4:=ho4.mono hc.size;have hA:=hA.chg hc4;have hc:=hc.trans hc4 (fun _ h=>.inl h)))
            go_ret
            exact ⟨v4,rfl,by rw [Hs.out];exact ho4,hc,hM⟩
end Go.Proofs.YtdbnfhpgmcjngacDoor
