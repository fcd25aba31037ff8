/- Walks: what two trees cost; what two nodes' trees cost. -/
import Derived.Test.YtdbnfhpgmcjngabGreatDoorBda
import Derived.Test.YtdbnfhpgmcjngabGreatDoorBma
import Derived.Test.YtdbnfhpgmcjngabGreatDoorBpl
import Derived.Deep.DeepCutAuto
namespace Go.Proofs.YtdbnfhpgmcjngabGreatDoor
open Go Go.RowKit
set_option maxHeartbeats 1600000 in
theorem cost_any (xs ys:List Nd) (B:Nat) (w:World) (h:TblOk w B xs ys) (hx:Fit xs) (hy:Fit ys) (hix:xs.length≤1000) (hjy:ys.length≤1000) (hi:1≤xs.length) (hj:1≤ys.length) :
    Calls Tryz.prog 66 #[.pointer (some ⟨B,0,none⟩)] w fun e w' =>
      e=.returned (.int .i64 (fdn xs ys 0 (xs.length - 1) 0 (ys.length - 1)+lc (labN xs (xs.length - 1)) (labN ys (ys.length - 1)):Nat))∧Pr w w':=by
  obtain ⟨xb,xo,xc,yb,yo,yc,g,bs,D,hT,hD⟩:=h
  obtain ⟨I,hI⟩:∃ I,I=xs.length - 1:=⟨_,rfl⟩
  obtain ⟨J,hJ⟩:∃ J,J=ys.length - 1:=⟨_,rfl⟩
  rw [← hI,← hJ]
  have b0:w.cell? ⟨B,0,none⟩=some (.slice (some ⟨xb,xo,none⟩) xs.length xc):=blk_cell hT.blk
  have b1:w.cell? ⟨B,1,none⟩=some (.slice (some ⟨yb,yo,none⟩) ys.length yc):=blk_cell hT.blk
  have CF:Hid (∀ W',Pr w W'→Calls Tryz.prog 109 #[.pointer (some ⟨B,0,none⟩),.int .i64 0,.int .i64 I,.int .i64 0,.int .i64 J] W' fun e w'=>∃ gf b1,e=.returned (.slice (some ⟨gf,0,none⟩) (I+2) (I+2)) ∧
      w'.cell? ⟨gf,I,none⟩=some (.slice (some ⟨b1,0,none⟩) (J+2) (J+2))∧w'.cell? ⟨b1,J,none⟩=some (.int .i64 (fdn xs ys 0 I 0 J:Int))∧Pr W' w'):=Lib.hid fun W' hp=>by
    have:=forests_any (hT.pr hp) hx hy 0 I 0 J (by omega) (by omega) (Nat.zero_le _) (Nat.zero_le _) hix hjy (Cl.zero _ _) (Cl.zero _ _) (fun a b _ a2 _ b2 _=>hD a b (by omega) (by omega))
    refine this.mono ?_
    rintro e w' ⟨gf,bF,rfl,hMF,hp,_,_⟩
    have e1:=hMF.cell (x:=I) (y:=J) (by omega) (by omega)
    have q1:=hMF.slice (x:=I) (by omega) (by omega)
    simp only [Nat.zero_add,Nat.sub_zero] at e1 q1
    exact ⟨gf,bF I,rfl,q1,e1,hp⟩
  have CN:=Lib.hid (fun W' (h:Pr w W')=>name_any (hT.pr h) I J (by omega) (by omega))
  have hk:=fdn_bound hx hy (i0:=0) (i:=I) (j0:=0) (j:=J) (by omega) (by omega) (Cl.zero _ _) (Cl.zero _ _) (by omega) (by omega)
  have hlc:=lc_le (labN xs I) (labN ys J)
  generalize fdn xs ys 0 I 0 J=p at *
  generalize lc (labN xs I) (labN ys J)=c at *
  have e1:(xs.length:Int) - 1=I:=by omega
  have e2:(ys.length:Int) - 1=J:=by omega
  have uI:IntKind.i64.wrap (I:Int)=I:=IntWalk.i64_in _ (by omega)
  have uJ:IntKind.i64.wrap (J:Int)=J:=IntWalk.i64_in _ (by omega)
  have uS:IntKind.i64.wrap ((p:Int)+(c:Int))=(p:Int)+(c:Int):=IntWalk.i64_in _ (by omega)
  have z1:(I:Int) < (I:Int)+2:=by omega
  have z2:(J:Int) < (J:Int)+2:=by omega
  have w1:(0:Int)≤I:=by omega
  have w2:(0:Int)≤J:=by omega
  clear hD hT hk hlc hI hJ hi hj hix hjy hx hy
  go_enter Tryz.func66,Tryz.ntmps66
  go_wp2_with fail
  go_quiet (fail)
  go_wp2_with (first
    | (go_at_call 109;(with_reducible refine Calls.mono (CF.out _ (Pr.drewN _ _)) ?_);rintro e w1 ⟨gf,bg,rfl,q1,q2,hb'⟩))
  have hp:=(Pr.drewN w nq).trans hb'
  obtain ⟨nq1,hnq⟩:∃ q,q=nq:=⟨_,rfl⟩
  subst hnq
  have Hp:=Lib.hid hp
  have CN2:=Lib.hid (fun W' (h:Pr w1 W')=>CN.out W' (hp.trans h))
  clear hb' hp
  go_quiet ((go_at_call 110;exact Calls.quiet_of (CN2.out _ (Pr.drewN _ _))))
  go_wp2_with fail
  go_ret
  exact ⟨rfl,Hp.out.drewN' _⟩
end Go.Proofs.YtdbnfhpgmcjngabGreatDoor
/- Walks: which nodes stay. -/
namespace Go.Proofs.YtdbnfhpgmcjngabGreatDoor
open Go Go.RowKit
def zp (ps:List (Nat × Nat)):List (Int × Int):=ps.map fun p=>((p.1:Int),(p.2:Int))
theorem zp_append (a b:List (Nat × Nat)):zp (a ++ b)=zp a ++ zp b:=by simp [zp]
theorem zp_length (a:List (Nat × Nat)):(zp a).length=a.length:=by simp [zp]
def PsPost (w:World) (ps:List (Int × Int)) (e:Ending) (w':World):Prop:=∃ v,e=.returned v∧OwnsPs w.heap.size w' v ps∧Pr w w'
theorem bestP_len (xs ys:List Nd) (hx:Fit xs) (hy:Fit ys) {i0 i j0 j:Nat} (h0:i0≤i) (h1:j0≤j) (cx:Cl xs i0 i) (cy:Cl ys j0 j) (hi:i≤xs.length) (hj:j≤ys.length):(bestP xs ys i0 i j0 j).length≤i+j:=by
  obtain ⟨_,_,h⟩:=bestP_good hx hy _ i0 i j0 j (Nat.lt_succ_self _) h0 h1 cx cy hi hj
  have h2:nameC xs ys (bestP xs ys i0 i j0 j)≤(bestP xs ys i0 i j0 j).length:=by
    generalize bestP xs ys i0 i j0 j=l
    induction l with
    | nil=>simp [nameC]
    | cons p l ih =>
      have:=lc_le (labN xs p.1) (labN ys p.2)
      simp only [nameC,List.map_cons,List.foldr_cons,List.length_cons] at ih ⊢
      omega
  omega
set_option maxRecDepth 100000 in
set_option maxHeartbeats 6400000 in
theorem best_any (xs ys:List Nd) (B:Nat) (hx:Fit xs) (hy:Fit ys) (hix:xs.length≤1000) (hjy:ys.length≤1000) (N:Nat):∀ (i0 I j0 J:Nat) (ii jj:Int) (w:World),(I - i0)+(J - j0) < N→i0≤I→j0≤J→I≤xs.length→J≤ys.length →
    Cl xs i0 I→Cl ys j0 J→ii=(I:Int) - 1→jj=(J:Int) - 1→TblOk w B xs ys →
    Calls Tryz.prog 134 #[.pointer (some ⟨B,0,none⟩),.int .i64 i0,.int .i64 ii,.int .i64 j0,.int .i64 jj] w (PsPost w (zp (bestP xs ys i0 I j0 J))):=by
  induction N with
  | zero=>intro i0 I j0 J ii jj w h;omega
  | succ N ih =>
    have Ih:=Lib.hid ih;clear ih
    intro i0 I j0 J ii jj w hN hi0 hj0 hIx hJy cx cy hii hjj hT0
    by_cases hnil:I≤i0∨J≤j0
    · have hb:=bestP_nil (xs:=xs) (ys:=ys) hnil
      rw [hb]
      have hor:ii < i0∨(¬ ii < i0∧jj < j0):=by omega
      clear hnil hb hii hjj hT0 cx cy
      rcases hor with h | ⟨h,h2⟩
      all_goals
        go_enter Tryz.func134,Tryz.ntmps134
        go_wp2_with fail
        go_ret
        exact ⟨_,rfl,OwnsPs.nil _ _,Pr.refl _⟩
    obtain ⟨i,rfl⟩:∃ i,I=i+1:=⟨I - 1,by omega⟩
    obtain ⟨j,rfl⟩:∃ j,J=j+1:=⟨J - 1,by omega⟩
    obtain rfl:ii=(i:Int):=by omega
    obtain rfl:jj=(j:Int):=by omega
    have hT0':=Lib.hid hT0
    obtain ⟨xb,xo,xc,yb,yo,yc,g,bs,D,hT,hD⟩:=hT0
    obtain ⟨L,hL⟩:∃ L,L=lfN xs i:=⟨_,rfl⟩
    obtain ⟨M,hM⟩:∃ M,M=lfN ys j:=⟨_,rfl⟩
    have hL1:=cx i (by omega) (by omega)
    have hM1:=cy j (by omega) (by omega)
    have hL2:=lfN_le xs i
    have hM2:=lfN_le ys j
    rw [← hL] at hL1 hL2
    rw [← hM] at hM1 hM2
    obtain ⟨X,hX⟩:∃ X,X=i - i0:=⟨_,rfl⟩
    obtain ⟨Y,hY⟩:∃ Y,Y=j - j0:=⟨_,rfl⟩
    obtain ⟨A,hA⟩:∃ A,A=L - i0:=⟨_,rfl⟩
    obtain ⟨C,hC⟩:∃ C,C=M - j0:=⟨_,rfl⟩
    have hst:=bestP_step (by omega:i0≤i) (by omega:j0≤j) cx cy
    rw [← hL,← hM] at hst
    have CF:Hid (∀ W',Pr w W'→Calls Tryz.prog 109 #[.pointer (some ⟨B,0,none⟩),.int .i64 i0,.int .i64 i,.int .i64 j0,.int .i64 j] W' fun e w'=>∃ gf b1 b2 b3,e=.returned (.slice (some ⟨gf,0,none⟩) (X+2) (X+2)) ∧
        w'.cell? ⟨gf,X+1,none⟩=some (.slice (some ⟨b1,0,none⟩) (Y+2) (Y+2))∧w'.cell? ⟨gf,X,none⟩=some (.slice (some ⟨b2,0,none⟩) (Y+2) (Y+2))∧w'.cell? ⟨gf,A,none⟩=some (.slice (some ⟨b3,0,none⟩) (Y+2) (Y+2)) ∧
        w'.cell? ⟨b1,Y+1,none⟩=some (.int .i64 (fdn xs ys i0 (i+1) j0 (j+1):Int))∧w'.cell? ⟨b2,Y,none⟩=some (.int .i64 (fdn xs ys i0 i j0 j:Int))∧w'.cell? ⟨b2,Y+1,none⟩=some (.int .i64 (fdn xs ys i0 i j0 (j+1):Int)) ∧
        w'.cell? ⟨b3,C,none⟩=some (.int .i64 (fdn xs ys i0 L j0 M:Int))∧Pr W' w'):=Lib.hid fun W' h=>by
      refine (forests_any (hT.pr h) hx hy i0 i j0 j (by omega) (by omega) (by omega) (by omega) hix hjy cx cy (fun a b _ a2 _ b2 _=>hD a b (by omega) (by omega))).mono ?_
      rintro e w' ⟨gf,bF,rfl,hMF,hp,_,_⟩
      have e1:=hMF.cell (x:=X+1) (y:=Y+1) (by omega) (by omega)
      have e2:=hMF.cell (x:=X) (y:=Y) (by omega) (by omega)
      have e3:=hMF.cell (x:=X) (y:=Y+1) (by omega) (by omega)
      have e4:=hMF.cell (x:=A) (y:=C) (by omega) (by omega)
      rw [show i0+(X+1)=i+1 by omega,show j0+(Y+1)=j+1 by omega] at e1
      rw [show i0+X=i by omega,show j0+Y=j by omega] at e2
      rw [show i0+X=i by omega,show j0+(Y+1)=j+1 by omega] at e3
      rw [show i0+A=L by omega,show j0+C=M by omega] at e4
      have q1:=hMF.slice (x:=X+1) (by omega) (by omega)
      have q2:=hMF.slice (x:=X) (by omega) (by omega)
      have q3:=hMF.slice (x:=A) (by omega) (by omega)
      rw [show j - j0+2=Y+2 by omega] at q1 q2 q3
      exact ⟨gf,bF (X+1),bF X,bF A,by rw [show i - i0+2=X+2 by omega],q1,q2,q3,e1,e2,e3,e4,hp⟩
    have CN:=Lib.hid (fun W' (h:Pr w W')=>name_any (hT.pr h) i j (by omega) (by omega))
    have hdt:=hD i j (by omega) (by omega)
    rw [← hL,← hM] at hdt
    have t0:=stays (blk_cell (o:=0) hT.blk:w.cell? _=some (.slice (some ⟨xb,xo,none⟩) xs.length xc))
    have t1:=stays (blk_cell (o:=1) hT.blk:w.cell? _=some (.slice (some ⟨yb,yo,none⟩) ys.length yc))
    have t2:=stays (blk_cell (o:=2) hT.blk:w.cell? _=some (.slice (some ⟨g,0,none⟩) xs.length xs.length))
    have x2:=(hT.nx i (by omega)).2.2
    have y2:=(hT.ny j (by omega)).2.2
    rw [hx.left i (by omega),← hL] at x2
    rw [hy.left j (by omega),← hM] at y2
    have x2:=stays x2
    have y2:=stays y2
    have r1:=stays (hT.mat.slice (x:=i) (by omega) (by omega))
    have v1:=hT.mat.cell (x:=i) (y:=j) (by omega) (by omega)
    rw [hdt] at v1
    have v1:=stays v1
    have hlc:=lc_le (labN xs i) (labN ys j)
    have k1:=fdn_bound hx hy (i0:=i0) (i:=i+1) (j0:=j0) (j:=j+1) (by omega) (by omega) cx cy (by omega) (by omega)
    have k2:=fdn_bound hx hy (i0:=i0) (i:=i) (j0:=j0) (j:=j) (by omega) (by omega) (cx.mono (by omega)) (cy.mono (by omega)) (by omega) (by omega)
    have k3:=fdn_bound hx hy (i0:=i0) (i:=i) (j0:=j0) (j:=j+1) (by omega) (by omega) (cx.mono (by omega)) cy (by omega) (by omega)
    have k4:=fdn_bound hx hy (i0:=i0) (i:=L) (j0:=j0) (j:=M) (by omega) (by omega) (cx.mono (by omega)) (cy.mono (by omega)) (by omega) (by omega)
    have clx:Cl xs L (i+1):=by rw [hL];exact hx.cl (by omega)
    have cly:Cl ys M (j+1):=by rw [hM];exact hy.cl (by omega)
    have k5:=fdn_bound hx hy (i0:=L) (i:=i+1) (j0:=M) (j:=j+1) (by omega) (by omega) clx cly (by omega) (by omega)
    -- the calls of itself
    have R1:Hid (∀ W',TblOk W' B xs ys→Calls Tryz.prog 134 #[.pointer (some ⟨B,0,none⟩),.int .i64 i0,.int .i64 ((i:Int) - 1),.int .i64 j0,.int .i64 ((j:Int) - 1)] W' (PsPost W' (zp (bestP xs ys i0 i j0 j)))):=Lib.hid fun W' h=>Ih.out i0 i j0 j _ _ W' (by omega) (by omega) (by omega) (by omega) (by omega) (cx.mono (by omega)) (cy.mono (by omega)) rfl rfl h
    have R2:Hid (∀ W',TblOk W' B xs ys→Calls Tryz.prog 134 #[.pointer (some ⟨B,0,none⟩),.int .i64 i0,.int .i64 ((L:Int) - 1),.int .i64 j0,.int .i64 ((M:Int) - 1)] W' (PsPost W' (zp (bestP xs ys i0 L j0 M)))):=Lib.hid fun W' h=>Ih.out i0 L j0 M _ _ W' (by omega) (by omega) (by omega) (by omega) (by omega) (cx.mono (by omega)) (cy.mono (by omega)) rfl rfl h
    have R3:Hid (¬ (L=i0∧M=j0)→∀ W',TblOk W' B xs ys→Calls Tryz.prog 134 #[.pointer (some ⟨B,0,none⟩),.int .i64 L,.int .i64 i,.int .i64 M,.int .i64 j] W' (PsPost W' (zp (bestP xs ys L (i+1) M (j+1))))):=Lib.hid fun hne W' h=>Ih.out L (i+1) M (j+1) _ _ W' (by omega) (by omega) (by omega) (by omega) (by omega) clx cly (by omega) (by omega) h
    have R4:Hid (∀ W',TblOk W' B xs ys→Calls Tryz.prog 134 #[.pointer (some ⟨B,0,none⟩),.int .i64 i0,.int .i64 ((i:Int) - 1),.int .i64 j0,.int .i64 j] W' (PsPost W' (zp (bestP xs ys i0 i j0 (j+1))))):=Lib.hid fun W' h=>Ih.out i0 i j0 (j+1) _ _ W' (by omega) (by omega) (by omega) (by omega) (by omega) (cx.mono (by omega)) cy rfl (by omega) h
    have R5:Hid (∀ W',TblOk W' B xs ys→Calls Tryz.prog 134 #[.pointer (some ⟨B,0,none⟩),.int .i64 i0,.int .i64 i,.int .i64 j0,.int .i64 ((j:Int) - 1)] W' (PsPost W' (zp (bestP xs ys i0 (i+1) j0 j)))):=Lib.hid fun W' h=>Ih.out i0 (i+1) j0 j _ _ W' (by omega) (by omega) (by omega) (by omega) (by omega) cx (cy.mono (by omega)) (by omega) rfl h
    have n1:=bestP_len xs ys hx hy (i0:=i0) (i:=i) (j0:=j0) (j:=j) (by omega) (by omega) (cx.mono (by omega)) (cy.mono (by omega)) (by omega) (by omega)
    have n2:=bestP_len xs ys hx hy (i0:=i0) (i:=L) (j0:=j0) (j:=M) (by omega) (by omega) (cx.mono (by omega)) (cy.mono (by omega)) (by omega) (by omega)
    have n3:=bestP_len xs ys hx hy (i0:=L) (i:=i+1) (j0:=M) (j:=j+1) (by omega) (by omega) clx cly (by omega) (by omega)
    rw [← zp_length] at n1 n2 n3
    generalize fdn xs ys i0 (i+1) j0 (j+1)=d at *
    generalize fdn xs ys i0 i j0 j=p at *
    generalize fdn xs ys i0 i j0 (j+1)=r at *
    generalize fdn xs ys i0 L j0 M=q at *
    generalize fdn xs ys L (i+1) M (j+1)=t at *
    generalize lc (labN xs i) (labN ys j)=c at *
    have Hst:=Lib.hid hst
    have e1:(i:Int) - i0=X:=by omega
    have e2:(j:Int) - j0=Y:=by omega
    have e3:(L:Int) - i0=A:=by omega
    have e4:(M:Int) - j0=C:=by omega
    have g1:¬ (i:Int) < i0:=by omega
    have g2:¬ (j:Int) < j0:=by omega
    have z1:(X:Int)+1 < (X:Int)+2:=by omega
    have z2:(Y:Int)+1 < (Y:Int)+2:=by omega
    have z3:(X:Int) < (X:Int)+2:=by omega
    have z4:(Y:Int) < (Y:Int)+2:=by omega
    have z5:(A:Int) < (X:Int)+2:=by omega
    have z6:(C:Int) < (Y:Int)+2:=by omega
    have z7:(i:Int) < xs.length:=by omega
    have z8:(j:Int) < ys.length:=by omega
    have w0:(0:Int)≤i:=by omega
    have w1:(0:Int)≤j:=by omega
    have w2:(0:Int)≤X:=by omega
    have w3:(0:Int)≤Y:=by omega
    have w4:(0:Int)≤A:=by omega
    have w5:(0:Int)≤C:=by omega
    have w6:(0:Int)≤(X:Int)+1:=by omega
    have w7:(0:Int)≤(Y:Int)+1:=by omega
    have w8:((X:Int)+1).toNat=X+1:=by omega
    have w9:((Y:Int)+1).toNat=Y+1:=by omega
    have y5:(X:Int)+1 - 1=(X:Int):=by omega
    have y6:(Y:Int)+1 - 1=(Y:Int):=by omega
    have uX:IntKind.i64.wrap (X:Int)=(X:Int):=IntWalk.i64_in _ (by omega)
    have uY:IntKind.i64.wrap (Y:Int)=(Y:Int):=IntWalk.i64_in _ (by omega)
    have uA:IntKind.i64.wrap (A:Int)=(A:Int):=IntWalk.i64_in _ (by omega)
    have uC:IntKind.i64.wrap (C:Int)=(C:Int):=IntWalk.i64_in _ (by omega)
    have uX1:IntKind.i64.wrap ((X:Int)+1)=(X:Int)+1:=IntWalk.i64_in _ (by omega)
    have uY1:IntKind.i64.wrap ((Y:Int)+1)=(Y:Int)+1:=IntWalk.i64_in _ (by omega)
    have u1:IntKind.i64.wrap ((p:Int)+(c:Int))=(p:Int)+(c:Int):=IntWalk.i64_in _ (by omega)
    have u2:IntKind.i64.wrap ((q:Int)+(t:Int))=(q:Int)+(t:Int):=IntWalk.i64_in _ (by omega)
    have u3:IntKind.i64.wrap ((r:Int)+1)=(r:Int)+1:=IntWalk.i64_in _ (by omega)
    have u4:IntKind.i64.wrap ((i:Int) - 1)=(i:Int) - 1:=IntWalk.i64_in _ (by omega)
    have u5:IntKind.i64.wrap ((j:Int) - 1)=(j:Int) - 1:=IntWalk.i64_in _ (by omega)
    have u6:IntKind.i64.wrap ((L:Int) - 1)=(L:Int) - 1:=IntWalk.i64_in _ (by omega)
    have u7:IntKind.i64.wrap ((M:Int) - 1)=(M:Int) - 1:=IntWalk.i64_in _ (by omega)
    clear hT hD hdt hlc k1 k2 k3 k4 k5 clx cly hX hY hA hC cx cy hst hN hnil hii hjj hL hM hx hy hi0 hj0 hIx hJy hL1 hL2 hM1 hM2
    go_enter Tryz.func134,Tryz.ntmps134
    go_upto_region 5 with (first
      | (go_at_call 109;(with_reducible refine Calls.mono (CF.out _ (Pr.refl _)) ?_);rintro e w1 ⟨gf,b1,b2,b3,rfl,q1,q2,q3,q4,q5,q6,q7,hb⟩
         have t0':=t0 _ hb;have t1':=t1 _ hb;have x2':=x2 _ hb;have y2':=y2 _ hb))
    go_quiet (fail)
    go_upto_region 6 with fail
    obtain ⟨w2',hw2⟩:∃ w2',w2'=w1.drewN nq:=⟨_,rfl⟩
    have hb2:Pr w1 w2':=by rw [hw2];exact Pr.drewN _ _
    rw [← hw2]
    have q1:=stays (hb2.cell q1);have q2:=stays (hb2.cell q2);have q3:=stays (hb2.cell q3);have q4:=stays (hb2.cell q4);have q5:=stays (hb2.cell q5);have q6:=stays (hb2.cell q6);have q7:=stays (hb2.cell q7)
    have hwb:=hb.trans hb2
    have t2:=stays (t2 _ hwb);have r1:=stays (r1 _ hwb);have v1:=stays (v1 _ hwb)
    have CN2:=Lib.hid (fun W' (h:Pr w2' W')=>CN.out W' (hwb.trans h))
    have HT:=Lib.hid (fun W' (h:Pr w2' W')=>TblOk.pr hT0'.out (hwb.trans h))
    have Hwb:=Lib.hid hwb
    clear hw2 hb hb2 hwb t0 t1 x2 y2 t0' t1' x2' y2'
    obtain ⟨bA,hbA⟩:∃ bA:Bool,bA=decide (L=i0∧M=j0∧d=p+c):=⟨_,rfl⟩
    have HbA:=Lib.hid hbA
    clear hbA
    go_cut [54] from 55 to 86 (fun v wx=>v=.bool bA∧Pr w2' wx)
    case first =>
      have p1:=q1 _ (Pr.refl _);have p2:=q2 _ (Pr.refl _);have p4:=q4 _ (Pr.refl _);have p5:=q5 _ (Pr.refl _)
      clear q1 q2 q3 q4 q5 q6 q7 t2 r1 v1
      by_cases hl:L=i0
      · have f1:((L:Int)==(i0:Int))=true:=by rw [hl];simp
        by_cases hm:M=j0
        · have f2:((M:Int)==(j0:Int))=true:=by rw [hm];simp
          have f3:((d:Int)==(p:Int)+(c:Int))=bA:=by
            rw [HbA.out,Bool.eq_iff_iff];simp;omega
          clear hl hm
          go_quiet ((go_at_call 110;exact Calls.quiet_of (CN2.out _ (Pr.drewN _ _))))
          go_wp2_with fail
          go_meet
          case rel=>exact ⟨rfl,Pr.drewN _ _⟩
        · have f2:((M:Int)==(j0:Int))=false:=by rw [beq_eq_false_iff_ne];omega
          have f3:bA=false:=by rw [HbA.out];simp;omega
          clear hl hm
          go_quiet (fail)
          go_wp2_with fail
          go_meet
          case rel=>exact ⟨by rw [f3],Pr.drewN _ _⟩
      · have f1:((L:Int)==(i0:Int))=false:=by rw [beq_eq_false_iff_ne];omega
        have f3:bA=false:=by rw [HbA.out];simp;omega
        clear hl
        go_quiet (fail)
        go_wp2_with fail
        go_meet
        case rel=>exact ⟨by rw [f3],Pr.drewN _ _⟩
    case rest =>
      obtain ⟨rfl,hcb⟩:=hcut
      obtain ⟨w3,hw3⟩:∃ w3,w3=wc:=⟨_,rfl⟩
      subst hw3
      cases bA
      case true =>
        have hA:=(decide_eq_true_iff.1 HbA.out.symm)
        have Hs:=Lib.hid (Hst.out.trans (if_pos hA))
        have Hcb:=Lib.hid hcb
        clear hA hcb q1 q2 q3 q4 q5 q6 q7 t2 r1 v1
        go_wp2_with (first
          | (go_at_call 134;(with_reducible refine Calls.mono (R1.out _ (HT.out _ Hcb.out)) ?_);rintro e w4 ⟨v4,rfl,ho4,hb4⟩)
          | (at_builtin;go_must (refine app_pair rfl _ _ rfl w3.heap.size _ _ rfl (ho4.pr (Pr.alloc _ _)) w4.heap.size rfl ((i:Int),(j:Int)) (heap_alloc_new w4 _) (by omega) (by have:=hb4.size;simp;omega) ?_);intro v5 w5 ho5 hg5 hd5))
        go_ret
        have hsz:=(Hwb.out.trans Hcb.out).size
        refine ⟨v5,rfl,?_,?_⟩
        · rw [Hs.out,zp_append];exact ho5.mono hsz
        · refine Below.grown ((((Hwb.out.trans Hcb.out).trans hb4)).alloc' _) hg5 ?_ ?_
          · have:=hb4.size;simp;omega
          · intro k' hk';have:=(ho4.block k' hk').1;omega
      case false =>
        have hA:=(of_decide_eq_false HbA.out.symm)
        have Hs:=Lib.hid (Hst.out.trans (if_neg hA))
        have Hcb:=Lib.hid hcb
        have p1:=q1 _ hcb;have p2:=q2 _ hcb;have p3:=q3 _ hcb;have p4:=q4 _ hcb;have p6:=q6 _ hcb;have p7:=q7 _ hcb;have t2':=t2 _ hcb;have r1':=r1 _ hcb;have v1':=v1 _ hcb
        have Q:=Lib.hid (And.intro q1 (And.intro q2 (And.intro q4 q6)))
        clear hA hcb q1 q2 q3 q4 q5 q6 q7 t2 r1 v1
        obtain ⟨bB,hbB⟩:∃ bB:Bool,bB=decide (¬ (L=i0∧M=j0)∧d=q+t):=⟨_,rfl⟩
        have HbB:=Lib.hid hbB
        clear hbB
        go_upto_region 8 with fail
        go_cut [100] from 101 to 140 (fun v wx=>v=.bool bB∧Pr w3 wx)
        case first =>
          by_cases hl:L=i0
          · have f1:((L:Int) != (i0:Int))=false:=by simp [hl]
            by_cases hm:M=j0
            · have f2:((M:Int) != (j0:Int))=false:=by simp [hm]
              have f3:bB=false:=by rw [HbB.out];simp [hl,hm]
              clear hl hm
              go_quiet (fail)
              go_wp2_with fail
              go_meet
              case rel=>exact ⟨by rw [f3],Pr.drewN _ _⟩
            · have f2:((M:Int) != (j0:Int))=true:=by simp [bne_iff_ne];omega
              have f3:((d:Int)==(q:Int)+(t:Int))=bB:=by
                rw [HbB.out,Bool.eq_iff_iff];simp;omega
              clear hl hm
              go_quiet (fail)
              go_wp2_with fail
              go_meet
              case rel=>exact ⟨rfl,Pr.drewN _ _⟩
          · have f1:((L:Int) != (i0:Int))=true:=by simp [bne_iff_ne];omega
            have f3:((d:Int)==(q:Int)+(t:Int))=bB:=by
              rw [HbB.out,Bool.eq_iff_iff];simp;omega
            clear hl
            go_quiet (fail)
            go_wp2_with fail
            go_meet
            case rel=>exact ⟨rfl,Pr.drewN _ _⟩
        case rest =>
          obtain ⟨rfl,hcb⟩:=hcut
          obtain ⟨w4,hw4⟩:∃ w4,w4=wc:=⟨_,rfl⟩
          subst hw4
          have Hcb2:=Lib.hid hcb
          clear p1 p2 p3 p4 p6 p7 t2' r1' v1' hcb
          cases bB
          case true =>
            have hB:=(of_decide_eq_true HbB.out.symm)
            have Hs2:=Lib.hid (Hs.out.trans (if_pos hB))
            have R3':=Lib.hid (R3.out hB.1)
            have Hw4:=Lib.hid (Hcb.out.trans Hcb2.out)
            clear hB
            go_wp2_with (first
              | (go_at_call 134;(with_reducible refine Calls.mono (R2.out _ (HT.out _ Hw4.out)) ?_);rintro e w5 ⟨v5,rfl,ho5,hb5⟩)
              | (go_at_call 134;(with_reducible refine Calls.mono (R3'.out _ (HT.out _ (Hw4.out.trans hb5))) ?_);rintro e w6 ⟨v6,rfl,ho6,hb6⟩;obtain ⟨oa6,cap6,rfl,hp6⟩:=ho6.prs)
              | (at_builtin;go_must (refine app_pairs rfl _ _ rfl w4.heap.size _ _ rfl (ho5.pr hb6) _ _ _ _ rfl hp6 (by omega) (by have:=hb5.size;have:=hb6.size;omega) ?_);intro v7 w7 ho7 hg7 hd7))
            go_ret
            have hsz:=(Hwb.out.trans Hw4.out).size
            refine ⟨v7,rfl,?_,?_⟩
            · rw [Hs2.out,zp_append];exact ho7.mono hsz
            · refine Below.grown (((Hwb.out.trans Hw4.out).trans hb5).trans hb6) hg7 ?_ ?_
              · have:=hb5.size;have:=hb6.size;omega
              · intro k' hk';have:=(ho5.block k' hk').1;omega
          case false =>
            have hB:=(of_decide_eq_false HbB.out.symm)
            have Hs2:=Lib.hid (Hs.out.trans (if_neg hB))
            have Hw4:=Lib.hid (Hcb.out.trans Hcb2.out)
            obtain ⟨q1,q2,q4,q6⟩:=Q.out
            have p1:=q1 _ Hw4.out;have p2:=q2 _ Hw4.out;have p4:=q4 _ Hw4.out;have p6:=q6 _ Hw4.out
            clear hB q1 q2 q4 q6
            by_cases hC:d=r+1
            · have f1:((d:Int)==(r:Int)+1)=true:=by rw [hC];simp
              have Hs3:=Lib.hid (Hs2.out.trans (if_pos hC))
              clear hC
              go_upto_region 10 with fail
              go_quiet (fail)
              go_wp2_with (first
                | (go_at_call 134;(with_reducible refine Calls.mono (R4.out _ (HT.out _ (Hw4.out.drewN' _))) ?_);rintro e w5 ⟨v5,rfl,ho5,hb5⟩))
              go_ret
              have hsz:=(Hwb.out.trans Hw4.out).size
              exact ⟨v5,rfl,by rw [Hs3.out];exact ho5.mono hsz,((Hwb.out.trans Hw4.out).drewN' _).trans hb5⟩
            · have f1:((d:Int)==(r:Int)+1)=false:=by rw [beq_eq_false_iff_ne];omega
              have Hs3:=Lib.hid (Hs2.out.trans (if_neg hC))
              clear hC
              go_upto_region 10 with fail
              go_quiet (fail)
              go_wp2_with (first
                | (go_at_call 134;(with_reducible refine Calls.mono (R5.out _ (HT.out _ (Hw4.out.drewN' _))) ?_);rintro e w5 ⟨v5,rfl,ho5,hb5⟩))
              go_ret
              have hsz:=(Hwb.out.trans Hw4.out).size
              exact ⟨v5,rfl,by rw [Hs3.out];exact ho5.mono hsz,((Hwb.out.trans Hw4.out).drewN' _).trans hb5⟩
end Go.Proofs.YtdbnfhpgmcjngabGreatDoor
