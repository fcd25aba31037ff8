/- Walks: the document's table: its forests. -/
import Derived.Test.YtdbnfhpgmcjngacDoorRa
namespace Go.Proofs.YtdbnfhpgmcjngacDoor
open Go Go.RowKit
def ForR (xs ys:List Nd) (g K i0 I j0 J:Nat) (w:World) (e:Ending) (w':World):Prop :=
  e=.returned (.int .i64 (fdn xs ys i0 I j0 J:Nat))∧Chg (fun k=>k=g) w w'∧Memo w' g K xs ys
set_option maxRecDepth 100000 in
set_option maxHeartbeats 6400000 in
theorem rforests_any (xs ys:List Nd) (hx:Fit xs) (hy:Fit ys) (hix:xs.length≤16) (hjy:ys.length≤16) (B xb xo xc yb yo yc g K:Nat) (N:Nat):∀ (i0 I j0 J:Nat) (ii jj:Int) (w:World),(I - i0)+(J - j0) < N→i0≤I→j0≤J→I≤xs.length→J≤ys.length →
    Cl xs i0 I→Cl ys j0 J→ii=(I:Int)→jj=(J:Int)→Apt w B xs ys xb xo xc yb yo yc g K→Memo w g K xs ys →
    Calls Tryd.prog 82 #[.pointer (some ⟨B,0,none⟩),.int .i64 i0,.int .i64 ii,.int .i64 j0,.int .i64 jj] w (ForR xs ys g K i0 I j0 J w):=by
  induction N with
  | zero=>intro i0 I j0 J ii jj w h;omega
  | succ N ih =>
    have Ih:=Lib.hid ih;clear ih
    intro i0 I j0 J ii jj w hN hi0 hj0 hIx hJy cx cy hii hjj hA hM
    by_cases h1:I=i0
    · have hd:fdn xs ys i0 I j0 J=J - j0:=fdn_left hy (by omega) hj0 cy hJy
      have hw:IntKind.i64.wrap (jj - (j0:Int))=jj - j0:=IntWalk.i64_in _ (by omega)
      have he:jj - (j0:Int)=((J - j0:Nat):Int):=by omega
      obtain rfl:ii=(i0:Int):=by omega
      have Hd:=Lib.hid hd
      have He:=Lib.hid he
      have HM:=Lib.hid hM
      clear hd he h1 hM hA cx cy hii hjj
      go_enter Tryd.func82,Tryd.ntmps82
      go_wp2_with fail
      go_ret
      exact ⟨by rw [Hd.out,He.out];rfl,Chg.refl _ _,HM.out⟩
    by_cases h2:J=j0
    · have hd:fdn xs ys i0 I j0 J=I - i0:=fdn_right hx (by omega) hi0 cx hIx
      have hw:IntKind.i64.wrap (ii - (i0:Int))=ii - i0:=IntWalk.i64_in _ (by omega)
      have he:ii - (i0:Int)=((I - i0:Nat):Int):=by omega
      have q0:(ii==(i0:Int))=false:=by rw [beq_eq_false_iff_ne];omega
      obtain rfl:jj=(j0:Int):=by omega
      have Hd:=Lib.hid hd
      have He:=Lib.hid he
      have HM:=Lib.hid hM
      clear hd he h1 h2 hM hA cx cy hii hjj
      go_enter Tryd.func82,Tryd.ntmps82
      go_wp2_with fail
      go_ret
      exact ⟨by rw [Hd.out,He.out];rfl,Chg.refl _ _,HM.out⟩
    obtain ⟨i,rfl⟩:∃ i,I=i+1:=⟨I - 1,by omega⟩
    obtain ⟨j,rfl⟩:∃ j,J=j+1:=⟨J - 1,by omega⟩
    have p1:(ii==(i0:Int))=false:=by rw [beq_eq_false_iff_ne];omega
    have p2:(jj==(j0:Int))=false:=by rw [beq_eq_false_iff_ne];omega
    -- where the memo keeps it
    obtain ⟨nn,hnn⟩:∃ nn:Int,nn=(xs.length:Int)+1:=⟨_,rfl⟩
    obtain ⟨mm,hmm⟩:∃ mm:Int,mm=(ys.length:Int)+1:=⟨_,rfl⟩
    have b0:w.cell? ⟨B,0,none⟩=some (.slice (some ⟨xb,xo,none⟩) xs.length xc):=blk_cell hA.blk
    have b1:w.cell? ⟨B,1,none⟩=some (.slice (some ⟨yb,yo,none⟩) ys.length yc):=blk_cell hA.blk
    have b2:w.cell? ⟨B,2,none⟩=some (.int .i64 nn):=by rw [hnn];exact blk_cell hA.blk
    have b3:w.cell? ⟨B,3,none⟩=some (.int .i64 mm):=by rw [hmm];exact blk_cell hA.blk
    have b4:w.cell? ⟨B,4,none⟩=some (.slice (some ⟨g,0,none⟩) K K):=blk_cell hA.blk
    obtain ⟨v,bv,hv⟩:=hM.cell hA.big hi0 hIx hj0 hJy
    have hal:atN (xs.length+1) (ys.length+1) i0 (i+1) j0 (j+1) < K:=by rw [hA.big];exact atN_lt (by omega) (by omega) (by omega) (by omega)
    obtain ⟨a1,ha1⟩:∃ a1,a1=i0 * (xs.length+1):=⟨_,rfl⟩
    obtain ⟨a3,ha3⟩:∃ a3,a3=(a1+(i+1)) * (ys.length+1):=⟨_,rfl⟩
    obtain ⟨a5,ha5⟩:∃ a5,a5=(a3+j0) * (ys.length+1):=⟨_,rfl⟩
    obtain ⟨at',hat⟩:∃ at',at'=a5+(j+1):=⟨_,rfl⟩
    have hatN:atN (xs.length+1) (ys.length+1) i0 (i+1) j0 (j+1)=at':=by rw [hat,ha5,ha3,ha1];rfl
    have l1:a1≤16 * 17:=by rw [ha1];exact Nat.mul_le_mul (by omega) (by omega)
    have l3:a3≤288 * 17:=by rw [ha3];exact Nat.mul_le_mul (by omega) (by omega)
    have l5:a5≤4912 * 17:=by rw [ha5];exact Nat.mul_le_mul (by omega) (by omega)
    have z1:(i0:Int) * nn=(a1:Int):=by rw [ha1,hnn];push_cast;rfl
    have z3:((a1:Int)+ii) * mm=(a3:Int):=by rw [ha3,hmm,hii];push_cast;rfl
    have z5:((a3:Int)+(j0:Int)) * mm=(a5:Int):=by rw [ha5,hmm];push_cast;rfl
    have z6:(a5:Int)+jj=(at':Int):=by rw [hat,hjj];push_cast;rfl
    have q1:IntKind.i64.wrap ((i0:Int) * nn)=(a1:Int):=by rw [z1];exact IntWalk.i64_in _ (by omega)
    have q2:IntKind.i64.wrap ((a1:Int)+ii)=(a1:Int)+ii:=IntWalk.i64_in _ (by omega)
    have q3:IntKind.i64.wrap (((a1:Int)+ii) * mm)=(a3:Int):=by rw [z3];exact IntWalk.i64_in _ (by omega)
    have q4:IntKind.i64.wrap ((a3:Int)+(j0:Int))=(a3:Int)+j0:=IntWalk.i64_in _ (by omega)
    have q5:IntKind.i64.wrap (((a3:Int)+(j0:Int)) * mm)=(a5:Int):=by rw [z5];exact IntWalk.i64_in _ (by omega)
    have q6:IntKind.i64.wrap ((a5:Int)+jj)=(at':Int):=by rw [z6];exact IntWalk.i64_in _ (by omega)
    rw [hatN] at bv hal
    have hal':(at':Int) < K:=by omega
    have hal0:(0:Int)≤at':=by omega
    have HatN:=Lib.hid hatN
    have Hnn:=Lib.hid hnn
    have Hmm:=Lib.hid hmm
    clear hatN hat ha5 ha3 ha1 l1 l3 l5 z1 z3 z5 z6 hnn hmm
    have hbd:=fdn_bound hx hy (i0:=i0) (i:=i+1) (j0:=j0) (j:=j+1) (by omega) (by omega) cx cy (by omega) (by omega)
    by_cases hv0:v=0
    case neg =>
      have hv1:v=(fdn xs ys i0 (i+1) j0 (j+1):Int)+1:=by rcases hv with h | h;exact absurd h hv0;exact h
      have HM:=Lib.hid hM
      have hvp:(0:Int) < v:=by omega
      have hw:IntKind.i64.wrap (v - 1)=v - 1:=IntWalk.i64_in _ (by omega)
      have hf:v - 1=(fdn xs ys i0 (i+1) j0 (j+1):Nat):=by omega
      have Hf:=Lib.hid hf
      clear hv hv0 hv1 hf hM hA cx cy hbd hii hjj h1 h2
      go_enter Tryd.func82,Tryd.ntmps82
      go_wp2_with fail
      go_quiet (fail)
      go_wp2_with fail
      go_ret
      exact ⟨by rw [Hf.out];rfl,(Pr.drewN w _).chg _,HM.out.pr (Pr.drewN w _)⟩
    subst hv0
    clear hv
    obtain ⟨L,hL⟩:∃ L,L=lfN xs i:=⟨_,rfl⟩
    obtain ⟨M,hMM⟩:∃ M,M=lfN ys j:=⟨_,rfl⟩
    have hL1:=cx i (by omega) (by omega)
    have hM1:=cy j (by omega) (by omega)
    have hL2:=lfN_le xs i
    have hM2:=lfN_le ys j
    rw [← hL] at hL1 hL2
    rw [← hMM] at hM1 hM2
    have x2:=(hA.nx i (by omega)).2.2
    have y2:=(hA.ny j (by omega)).2.2
    rw [hx.left i (by omega),← hL] at x2
    rw [hy.left j (by omega),← hMM] at y2
    have hst:=fdn_step hx hy (by omega:i0≤i) (by omega:j0≤j) cx cy (by omega) (by omega)
    rw [← hL,← hMM] at hst
    have clx:Cl xs L i:=by rw [hL];exact hx.cl' (by omega)
    have cly:Cl ys M j:=by rw [hMM];exact hy.cl' (by omega)
    have k1:=fdn_bound hx hy (i0:=i0) (i:=i) (j0:=j0) (j:=j+1) (by omega) (by omega) (cx.mono (by omega)) cy (by omega) (by omega)
    have k2:=fdn_bound hx hy (i0:=i0) (i:=i+1) (j0:=j0) (j:=j) (by omega) (by omega) cx (cy.mono (by omega)) (by omega) (by omega)
    have k3:=fdn_bound hx hy (i0:=i0) (i:=L) (j0:=j0) (j:=M) (by omega) (by omega) (cx.mono (by omega)) (cy.mono (by omega)) (by omega) (by omega)
    have k4:=fdn_bound hx hy (i0:=L) (i:=i) (j0:=M) (j:=j) (by omega) (by omega) clx cly (by omega) (by omega)
    have hlc:=lc_le (labN xs i) (labN ys j)
    have F1:Hid (∀ W',Apt W' B xs ys xb xo xc yb yo yc g K→Memo W' g K xs ys→Calls Tryd.prog 82 #[.pointer (some ⟨B,0,none⟩),.int .i64 i0,.int .i64 i,.int .i64 j0,.int .i64 jj] W' (ForR xs ys g K i0 i j0 (j+1) W')):=Lib.hid fun W' h h'=>Ih.out i0 i j0 (j+1) _ _ W' (by omega) (by omega) (by omega) (by omega) (by omega) (cx.mono (by omega)) cy rfl hjj h h'
    have F2:Hid (∀ W',Apt W' B xs ys xb xo xc yb yo yc g K→Memo W' g K xs ys→Calls Tryd.prog 82 #[.pointer (some ⟨B,0,none⟩),.int .i64 i0,.int .i64 ii,.int .i64 j0,.int .i64 j] W' (ForR xs ys g K i0 (i+1) j0 j W')):=Lib.hid fun W' h h'=>Ih.out i0 (i+1) j0 j _ _ W' (by omega) (by omega) (by omega) (by omega) (by omega) cx (cy.mono (by omega)) hii rfl h h'
    have F3:Hid (∀ W',Apt W' B xs ys xb xo xc yb yo yc g K→Memo W' g K xs ys→Calls Tryd.prog 82 #[.pointer (some ⟨B,0,none⟩),.int .i64 i0,.int .i64 L,.int .i64 j0,.int .i64 M] W' (ForR xs ys g K i0 L j0 M W')):=Lib.hid fun W' h h'=>Ih.out i0 L j0 M _ _ W' (by omega) (by omega) (by omega) (by omega) (by omega) (cx.mono (by omega)) (cy.mono (by omega)) rfl rfl h h'
    have F4:Hid (∀ W',Apt W' B xs ys xb xo xc yb yo yc g K→Memo W' g K xs ys→Calls Tryd.prog 82 #[.pointer (some ⟨B,0,none⟩),.int .i64 L,.int .i64 i,.int .i64 M,.int .i64 j] W' (ForR xs ys g K L i M j W')):=Lib.hid fun W' h h'=>Ih.out L i M j _ _ W' (by omega) (by omega) (by omega) (by omega) (by omega) clx cly rfl rfl h h'
    have FN:Hid (∀ W',Apt W' B xs ys xb xo xc yb yo yc g K→Calls Tryd.prog 83 #[.pointer (some ⟨B,0,none⟩),.int .i64 i,.int .i64 j] W' fun e w'=>e=.returned (.int .i64 (lc (labN xs i) (labN ys j):Nat))∧∃ m,w'=W'.drewN m):=Lib.hid fun W' h=>rname_any h i j (by omega) (by omega)
    have FM:Hid (∀ W' (V:Int),Memo W' g K xs ys→V=(fdn xs ys i0 (i+1) j0 (j+1):Int)+1→Memo (W'.setCell ⟨g,at',none⟩ (.int .i64 V)) g K xs ys):=Lib.hid fun W' V h hV=>by
      have:=h.store hi0 hIx hj0 hJy V hV
      rwa [HatN.out] at this
    have FC:Hid (∀ W',Memo W' g K xs ys→∃ v:Int,W'.cell? ⟨g,at',none⟩=some (.int .i64 v)):=Lib.hid fun W' h=>by
      obtain ⟨v,h1,_⟩:=h.cell hA.big hi0 hIx hj0 hJy
      rw [HatN.out] at h1;exact ⟨v,h1⟩
    unfold ForR at F1 F2 F3 F4 ⊢
    generalize fdn xs ys i0 (i+1) j0 (j+1)=d at *
    generalize fdn xs ys i0 i j0 (j+1)=f1 at *
    generalize fdn xs ys i0 (i+1) j0 j=f2 at *
    generalize fdn xs ys i0 L j0 M=f3 at *
    generalize fdn xs ys L i M j=f4 at *
    generalize lc (labN xs i) (labN ys j)=c at *
    have Hst:=Lib.hid hst
    obtain ⟨A,hAA⟩:∃ A:Int,A=(f1:Int)+1:=⟨_,rfl⟩
    obtain ⟨C,hCC⟩:∃ C:Int,C=(f2:Int)+1:=⟨_,rfl⟩
    obtain ⟨S,hSS⟩:∃ S:Int,S=(f3:Int)+f4+c:=⟨_,rfl⟩
    have r1:IntKind.i64.wrap ((f1:Int)+1)=A:=by rw [hAA];exact IntWalk.i64_in _ (by omega)
    have r2:IntKind.i64.wrap ((f2:Int)+1)=C:=by rw [hCC];exact IntWalk.i64_in _ (by omega)
    have r3:IntKind.i64.wrap ((f3:Int)+(f4:Int))=(f3:Int)+f4:=IntWalk.i64_in _ (by omega)
    have r4:IntKind.i64.wrap ((f3:Int)+(f4:Int)+(c:Int))=S:=by rw [hSS];exact IntWalk.i64_in _ (by omega)
    have r5:IntKind.i64.wrap (A+1)=A+1:=IntWalk.i64_in _ (by omega)
    have r6:IntKind.i64.wrap (C+1)=C+1:=IntWalk.i64_in _ (by omega)
    have r7:IntKind.i64.wrap (S+1)=S+1:=IntWalk.i64_in _ (by omega)
    have s1:IntKind.i64.wrap (ii - 1)=(i:Int):=by rw [IntWalk.i64_in _ (by omega)];omega
    have s2:IntKind.i64.wrap (jj - 1)=(j:Int):=by rw [IntWalk.i64_in _ (by omega)];omega
    have t1:(i:Int) < xs.length:=by omega
    have t2:(j:Int) < ys.length:=by omega
    have t3:(0:Int)≤i:=by omega
    have t4:(0:Int)≤j:=by omega
    have hA0:∀ n,Apt (w.drewN n) B xs ys xb xo xc yb yo yc g K:=fun n=>hA.pr (Pr.drewN w n)
    have hM0:∀ n,Memo (w.drewN n) g K xs ys:=fun n=>hM.pr (Pr.drewN w n)
    have HAA:=Lib.hid hAA;have HCC:=Lib.hid hCC;have HSS:=Lib.hid hSS
    clear hst hAA hCC hSS hA hM cx cy clx cly hL hMM hii hjj h1 h2 hbd k1 k2 k3 k4 hlc hL1 hM1 hL2 hM2 hi0 hj0 hIx hJy hN Ih hal
    go_enter Tryd.func82,Tryd.ntmps82
    go_wp2_with fail
    go_quiet (fail)
    go_wp2_with fail
    go_quiet (fail)
    go_upto_region 11 with (first
      | (go_at_call 82;(with_reducible refine Calls.mono (F1.out _ (hA0 _) (hM0 _)) ?_);rintro e w1 ⟨rfl,hc1,hm1⟩;have hA1:=(hA0 _).chg hc1)
      | (go_at_call 82;(with_reducible refine Calls.mono (F2.out _ hA1 hm1) ?_);rintro e w2 ⟨rfl,hc2,hm2⟩;have hA2:=hA1.chg hc2))
    clear hA0 hM0 F1 F2 b0 b1 b2 b3 b4 bv x2 y2
    by_cases hCA:C < A
    all_goals
      go_wp2_with (first
        | (go_at_call 82;(with_reducible refine Calls.mono (F3.out _ hA2 hm2) ?_);rintro e w3 ⟨rfl,hc3,hm3⟩;have hA3:=hA2.chg hc3)
        | (go_at_call 82;(with_reducible refine Calls.mono (F4.out _ hA3 hm3) ?_);rintro e w4 ⟨rfl,hc4,hm4⟩;have hA4:=hA3.chg hc4)
        | (go_at_call 83;(with_reducible refine Calls.mono (FN.out _ hA4) ?_);rintro e w5 ⟨rfl,nq,rfl⟩;have c4:(w4.drewN nq).cell? ⟨B,4,none⟩=some (.slice (some ⟨g,0,none⟩) K K):=blk_cell (hA4.pr (Pr.drewN _ _)).blk;have cf:=(hm4.pr (Pr.drewN w4 nq)).frozen at';obtain ⟨vo,cv⟩:=FC.out _ (hm4.pr (Pr.drewN w4 nq))))
      all_goals
        go_ret
        have hst:=Hst.out;have hAA:=HAA.out;have hCC:=HCC.out;have hSS:=HSS.out
        refine ⟨?_,?_,FM.out _ _ (hm4.pr (Pr.drewN w4 nq)) (by omega)⟩
        · first
            | (have hS:S=(d:Int):=by omega
               rw [← hS];rfl)
            | (have hS:C=(d:Int):=by omega
               rw [← hS];rfl)
            | (have hS:A=(d:Int):=by omega
               rw [← hS];rfl)
        · exact ((((((Pr.drewN w _).chg _).trans hc1 (fun _ h=>.inl h)).trans hc2 (fun _ h=>.inl h)).trans hc3 (fun _ h=>.inl h)).trans hc4 (fun _ h=>.inl h)).pr (Pr.drewN w4 nq) |>.setCell _ _ (.inl rfl)
end Go.Proofs.YtdbnfhpgmcjngacDoor
