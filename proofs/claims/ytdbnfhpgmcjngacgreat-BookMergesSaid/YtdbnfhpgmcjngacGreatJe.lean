/- Walks: pleachingref.mixed, from its labels on. -/
import Derived.Test.YtdbnfhpgmcjngacGreatBjd
namespace Go.Proofs.YtdbnfhpgmcjngacGreat
open Go Go.RowKit
section
variable {M:Nat} {w:World} {l1 l2 l3:ByteArray} {k1 k2 k3:List Tr} {o1 o2 o3:Option Addr} {c1 c2 c3:Nat}
set_option maxRecDepth 100000 in
set_option maxHeartbeats 60000000 in
theorem rmixed_d (N:Nat) (IH:RMixC N) (hs1:Tr.szL k1≤N) (s1:Tr.szL k1≤1000) (s2:Tr.szL k2≤1000) (s3:Tr.szL k3≤1000) (hl1:l1.size≤maxLen) (hl2:l2.size≤maxLen) (hl3:l3.size≤maxLen) (hM:M≤w.heap.size) (hk1:Kids (fun k=>k < M) w k1 o1 c1) (hk2:Kids (fun k=>k < M) w k2 o2 c2) (hk3:Kids (fun k=>k < M) w k3 o3 c3) (h:¬ ((Tr.node l2 k2).beq (.node l3 k3) || (Tr.node l3 k3).beq (.node l1 k1))=true) (h1:¬ (Tr.node l2 k2).beq (.node l1 k1)=true) (l:ByteArray) (hm:mixL l1 l2 l3=some l) :
    Calls Tryz.prog 27 #[.agg #[.string l1,.slice o1 k1.length c1],.agg #[.string l2,.slice o2 k2.length c2],.agg #[.string l3,.slice o3 k3.length c3]] w (MixedPost M (exMap (fun ts=>Tr.node l ts) (segM (mixT N) k1 k2 k3 (held (common k1 k2) (common k1 k3)) 0 0 0)) w):=by
  obtain ⟨W,hW⟩:∃ W,W=(((w.alloc (.cells #[.string l1,.slice o1 k1.length c1] 34)).alloc (.cells #[.string l2,.slice o2 k2.length c2] 34)).alloc (.cells #[.string l3,.slice o3 k3.length c3] 34)).alloc (.cells #[.string ⟨#[]⟩,.slice none 0 0] 34):=⟨_,rfl⟩
  have hwW:Pr w W:=by rw [hW];exact (((Pr.alloc _ _).alloc' _).alloc' _).alloc' _
  have hWs:W.heap.size=w.heap.size+4:=by rw [hW];simp
  have x0:=stays (show W.cell? ⟨w.heap.size,0,none⟩=some (.string l1) by rw [hW];simp [go_sem])
  have x1:=stays (show W.cell? ⟨w.heap.size,1,none⟩=some (.slice o1 k1.length c1) by rw [hW];simp [go_sem])
  have y0:=stays (show W.cell? ⟨w.heap.size+1,0,none⟩=some (.string l2) by rw [hW];simp [go_sem])
  have y1:=stays (show W.cell? ⟨w.heap.size+1,1,none⟩=some (.slice o2 k2.length c2) by rw [hW];simp [go_sem])
  have z0:=stays (show W.cell? ⟨w.heap.size+1+1,0,none⟩=some (.string l3) by rw [hW];simp [go_sem])
  have z1:=stays (show W.cell? ⟨w.heap.size+1+1,1,none⟩=some (.slice o3 k3.length c3) by rw [hW];simp [go_sem])
  have r0:=stays (show W.cell? ⟨w.heap.size+1+1+1,0,none⟩=some (.string ⟨#[]⟩) by rw [hW];simp [go_sem])
  have r1:=stays (show W.cell? ⟨w.heap.size+1+1+1,1,none⟩=some (.slice none 0 0) by rw [hW];simp [go_sem])
  have f0:W.frozen? ⟨w.heap.size+1+1+1,0,none⟩=false:=by rw [hW];simp [go_sem]
  have f1:W.frozen? ⟨w.heap.size+1+1+1,1,none⟩=false:=by rw [hW];simp [go_sem]
  have hk1:=hk1.pr hwW;have hk2:=hk2.pr hwW;have hk3:=hk3.pr hwW
  have S1:=Lib.hid (fun W' (h:Pr W W')=>sameTree_any l2 l3 k2 k3 o2 c2 o3 c3 W' (hk2.pr h).any (hk3.pr h).any)
  have S2:=Lib.hid (fun W' (h:Pr W W')=>sameTree_any l3 l1 k3 k1 o3 c3 o1 c1 W' (hk3.pr h).any (hk1.pr h).any)
  have S3:=Lib.hid (fun W' (h:Pr W W')=>sameTree_any l2 l1 k2 k1 o2 c2 o1 c1 W' (hk2.pr h).any (hk1.pr h).any)
  generalize (Tr.node l2 k2).beq (.node l3 k3)=t1 at *
  generalize (Tr.node l3 k3).beq (.node l1 k1)=t2 at *
  generalize (Tr.node l2 k2).beq (.node l1 k1)=t3 at *
  have main:t1=false∧t2=false∧t3=false:=by cases t1 <;> cases t2 <;> simp at h h1 ⊢ <;> exact h1
  obtain ⟨rfl,rfl,rfl⟩:=main
  have HW:=Lib.hid hwW;have HWs:=Lib.hid hWs;have F0:=Lib.hid f0;have F1:=Lib.hid f1
  have HK1:=Lib.hid hk1;have HK2:=Lib.hid hk2;have HK3:=Lib.hid hk3;have HM:=Lib.hid hM
  have hn1:=Tr.length_le k1;have hn2:=Tr.length_le k2;have hn3:=Tr.length_le k3
  have C1:=Lib.hid fun W' (h:Pr W W')=>rcommon_any k1 k2 o1 c1 o2 c2 W' (hk1.pr h).any (hk2.pr h).any (by omega) (by omega)
  have C2:=Lib.hid fun W' (h:Pr W W')=>rcommon_any k1 k3 o1 c1 o3 c3 W' (hk1.pr h).any (hk3.pr h).any (by omega) (by omega)
  have hll:l.size≤maxLen:=by
    unfold mixL at hm
    split at hm
    · cases hm;exact hl2
    · split at hm
      · cases hm;exact hl3
      · cases hm
  have Hll:=Lib.hid hll
  have hlab:((l2=l3∨l2≠l3∧l3=l1)∧l=l2)∨(l2≠l3∧l3≠l1∧l2=l1∧l=l3):=by
    unfold mixL at hm
    by_cases e1:l2=l3
    · rw [if_pos (.inl e1)] at hm;cases hm;exact .inl ⟨.inl e1,rfl⟩
    · by_cases e2:l3=l1
      · rw [if_pos (.inr e2)] at hm;cases hm;exact .inl ⟨.inr ⟨e1,e2⟩,rfl⟩
      · rw [if_neg (by rintro (e | e);exact e1 e;exact e2 e)] at hm
        by_cases e3:l2=l1
        · rw [if_pos e3] at hm;cases hm;exact .inr ⟨e1,e2,e3,rfl⟩
        · rw [if_neg e3] at hm;cases hm
  have Hlab:=Lib.hid hlab
  clear h h1 hk1 hk2 hk3 hwW hWs f0 f1 hm hll hlab hl1 hl2 hl3
  go_enter Tryz.func27,Tryz.ntmps27
  go_upto_region 1 with fail
  rw [← hW]
  clear hW
  have hp:=Pr.refl W
  have x0':=x0 _ hp;have x1':=x1 _ hp;have y0':=y0 _ hp;have y1':=y1 _ hp;have z0':=z0 _ hp;have z1':=z1 _ hp;have r0':=r0 _ hp;have r1':=r1 _ hp
  have f0':W.frozen? ⟨w.heap.size+1+1+1,0,none⟩=false:=(by rw [hp.frozen (by have:=HWs.out;omega)];exact F0.out);have f1':W.frozen? ⟨w.heap.size+1+1+1,1,none⟩=false:=(by rw [hp.frozen (by have:=HWs.out;omega)];exact F1.out)
  go_upto_region 6 with (first
      | (go_at_call 11;(with_reducible refine Calls.mono (S1.out _ hp) ?_);rintro e w1 ⟨rfl,hb⟩;have hp:=hp.trans hb;have x0':=x0 _ hp;have x1':=x1 _ hp;have y0':=y0 _ hp;have y1':=y1 _ hp;have z0':=z0 _ hp;have z1':=z1 _ hp;have r0':=r0 _ hp;have r1':=r1 _ hp;have f0':w1.frozen? ⟨w.heap.size+1+1+1,0,none⟩=false:=(by rw [hp.frozen (by have:=HWs.out;omega)];exact F0.out);have f1':w1.frozen? ⟨w.heap.size+1+1+1,1,none⟩=false:=(by rw [hp.frozen (by have:=HWs.out;omega)];exact F1.out))
      | (go_at_call 11;(with_reducible refine Calls.mono (S2.out _ hp) ?_);rintro e w2 ⟨rfl,hb⟩;have hp:=hp.trans hb;have x0':=x0 _ hp;have x1':=x1 _ hp;have y0':=y0 _ hp;have y1':=y1 _ hp;have z0':=z0 _ hp;have z1':=z1 _ hp;have r0':=r0 _ hp;have r1':=r1 _ hp;have f0':w2.frozen? ⟨w.heap.size+1+1+1,0,none⟩=false:=(by rw [hp.frozen (by have:=HWs.out;omega)];exact F0.out);have f1':w2.frozen? ⟨w.heap.size+1+1+1,1,none⟩=false:=(by rw [hp.frozen (by have:=HWs.out;omega)];exact F1.out))
      | (go_at_call 11;(with_reducible refine Calls.mono (S3.out _ hp) ?_);rintro e w3 ⟨rfl,hb⟩;have hp:=hp.trans hb;have x0':=x0 _ hp;have x1':=x1 _ hp;have y0':=y0 _ hp;have y1':=y1 _ hp;have z0':=z0 _ hp;have z1':=z1 _ hp;have r0':=r0 _ hp;have r1':=r1 _ hp;have f0':w3.frozen? ⟨w.heap.size+1+1+1,0,none⟩=false:=(by rw [hp.frozen (by have:=HWs.out;omega)];exact F0.out);have f1':w3.frozen? ⟨w.heap.size+1+1+1,1,none⟩=false:=(by rw [hp.frozen (by have:=HWs.out;omega)];exact F1.out)))
  obtain ⟨V,hV⟩:∃ V,V=w3.alloc (.cells #[.string l2,.slice none 0 0] 34):=⟨_,rfl⟩
  have hpV:Pr W V:=by rw [hV];exact hp.alloc' _
  have bV:V.heap[w3.heap.size]? = some (.cells #[.string l2,.slice none 0 0] 34 (0,0)):=by rw [hV];exact heap_alloc_new _ _
  rw [← hV]
  have hsV:V.heap.size=w3.heap.size+1:=by rw [hV];simp
  clear hV
  have o0:=blk_cell (o:=0) bV;have o1':=blk_cell (o:=1) bV
  have fo:=blk_frozen (o:=0) bV
  simp only [List.getElem?_toArray,List.getElem?_cons_zero,List.getElem?_cons_succ] at o0 o1'
  have x0':=x0 _ hpV;have y0':=y0 _ hpV;have z0':=z0 _ hpV;have r0':=r0 _ hpV;have r1':=r1 _ hpV
  have f0':V.frozen? ⟨w.heap.size+1+1+1,0,none⟩=false:=(by rw [hpV.frozen (by have:=HWs.out;omega)];exact F0.out);have f1':V.frozen? ⟨w.heap.size+1+1+1,1,none⟩=false:=(by rw [hpV.frozen (by have:=HWs.out;omega)];exact F1.out)
  have hw3:W.heap.size≤w3.heap.size:=hp.size
  clear hp S1 S2 S3
  obtain ⟨cnd,hcnd⟩:∃ cnd:Bool,(cnd=false∧(l2=l3∨l2≠l3∧l3=l1)∧l=l2)∨(cnd=true∧(l2≠l3∧l3≠l1)∧l2=l1∧l=l3):=by
    rcases Hlab.out with ⟨h,hl⟩ | ⟨h1,h2,h3,hl⟩
    · exact ⟨false,.inl ⟨rfl,h,hl⟩⟩
    · exact ⟨true,.inr ⟨rfl,⟨h1,h2⟩,h3,hl⟩⟩
  have Hc:=Lib.hid hcnd
  clear Hlab hcnd
  go_cut [52] from 41 to 52 (fun v52 wx=>v52=.bool cnd∧wx=V)
  case first =>
    rcases Hc.out with ⟨rfl,e1 | ⟨e1,e2⟩,hl⟩ | ⟨rfl,⟨e1,e2⟩,e3,hl⟩
    · have q1:(l2.toList==l3.toList)=true:=by rw [e1];simp
      clear e1
      go_wp2_with fail
      go_meet
      exact ⟨rfl,rfl⟩
    · have q1:(l2.toList==l3.toList)=false:=by simpa using toList_ne e1
      have q2:(l3.toList==l1.toList)=true:=by rw [e2];simp
      clear e1 e2
      go_wp2_with fail
      go_meet
      exact ⟨rfl,rfl⟩
    · have q1:(l2.toList==l3.toList)=false:=by simpa using toList_ne e1
      have q2:(l3.toList==l1.toList)=false:=by simpa using toList_ne e2
      clear e1 e2 e3
      go_wp2_with fail
      go_meet
      exact ⟨rfl,rfl⟩
  case rest =>
  obtain ⟨rfl,rfl⟩:=hcut
  go_upto_if 52 with fail
  go_cut [9] from 53 to 61 (fun v9 wx=>v9=.pointer (some ⟨w3.heap.size,0,none⟩)∧wx.heap[w3.heap.size]? = some (.cells #[.string l,.slice none 0 0] 34 (0,0))∧wx.heap.size=w3.heap.size+1∧Pr W wx)
  case first =>
    rcases Hc.out with ⟨rfl,_,hl⟩ | ⟨rfl,⟨e1,e2⟩,e3,hl⟩
    · go_wp2_with fail
      go_meet
      exact ⟨rfl,by rw [hl];exact bV,hsV,hpV⟩
    · have q3:(l2.toList==l1.toList)=true:=by rw [e3];simp
      clear e1 e2 e3
      go_wp2_with fail
      go_meet
      exact ⟨rfl,by rw [hl];exact blk_set (o:=0) bV _,by simp [hsV],hpV.setCell (show W.heap.size≤(Addr.block ⟨w3.heap.size,0,none⟩) from hw3) _⟩
  case rest =>
  obtain ⟨rfl,hBo,hwxs,hWx⟩:=hcut
  obtain ⟨wx,hwx⟩:∃ wx,wx=wc:=⟨_,rfl⟩
  subst hwx
  obtain ⟨Bo,hBoe⟩:∃ Bo,Bo=w3.heap.size:=⟨_,rfl⟩
  rw [← hBoe] at hBo hwxs hw3 ⊢
  clear x0' x1' y0' y1' z0' z1' r0' r1' f0' f1' hpV bV hsV o0 o1' fo
  have X1:=stays (x1 _ hWx);have Y1:=stays (y1 _ hWx);have Z1:=stays (z1 _ hWx)
  have C1x:=Lib.hid fun W' (h:Pr wx W')=>C1.out W' (hWx.trans h)
  have C2x:=Lib.hid fun W' (h:Pr wx W')=>C2.out W' (hWx.trans h)
  clear C1 C2
  have hXr:=common_rise k1 k2;have hYr:=common_rise k1 k3
  have hH:HeldOk k1 k2 k3 0 0 0 (held (common k1 k2) (common k1 k3)):=held_ok (.node ⟨#[]⟩ k1) (.node ⟨#[]⟩ k2) (.node ⟨#[]⟩ k3)
  have hHl:(held (common k1 k2) (common k1 k3)).length≤k1.length:=held_length hXr hYr _ fun p hp=>(common_here _ _ _ hp).1
  have hXl:(common k1 k2).length≤1000:=by rw [common_length];have:=(lcs_le k1 k2).1;omega
  have hYl:(common k1 k3).length≤1000:=by rw [common_length];have:=(lcs_le k1 k3).1;omega
  generalize hXe:common k1 k2=X at *
  generalize hYe:common k1 k3=Y at *
  have HXe:=Lib.hid hXe;have HYe:=Lib.hid hYe
  clear hXe hYe
  have HXr:=Lib.hid hXr;have HYr:=Lib.hid hYr;have HH:=Lib.hid hH;have HHl:=Lib.hid hHl
  have HBo:=Lib.hid hBo;have HWx:=Lib.hid hWx;have Hwxs:=Lib.hid hwxs;have HBe:=Lib.hid hBoe
  clear hXr hYr hH hHl hBo hWx hwxs hBoe
  go_upto_region 10 with fail
  go_cut [10,11] from 62 to 71 (fun v10 v11 wy=>∃ xo xc yo yc,v10=.slice xo X.length xc∧v11=.slice yo Y.length yc∧Prs Any wy (pz X) xo xc∧Prs Any wy (pz Y) yo yc∧Pr wx wy)
  case first =>
    as_aux_lemma =>
      have hp:=Pr.refl wx
      go_region_held3 (fun W'=>Pr wx W')
        (first | with_reducible exact Pr.drew wx | with_reducible exact hp | with_reducible exact hp.drew')
        (first
          | (go_at_call 47;(with_reducible refine Calls.mono (C1x.out _ (Pr.drew wx)) ?_);rintro e w5 ⟨v5,rfl,ho5,hb⟩;obtain ⟨xo,xc,rfl,hx5⟩:=ho5.prs;have hp:=(Pr.drew wx).trans hb)
          | (go_at_call 47;(with_reducible refine Calls.mono (C2x.out _ (Pr.drew wx)) ?_);rintro e w6 ⟨v6,rfl,ho6,hb⟩;obtain ⟨yo,yc,rfl,hy6⟩:=ho6.prs;have hp:=(Pr.drew wx).trans hb)
          | (go_at_call 47;(with_reducible refine Calls.mono (C1x.out _ hp) ?_);rintro e w5 ⟨v5,rfl,ho5,hb⟩;obtain ⟨xo,xc,rfl,hx5⟩:=ho5.prs;have hy6:=hy6.pr hb;have hp:=hp.trans hb)
          | (go_at_call 47;(with_reducible refine Calls.mono (C2x.out _ hp) ?_);rintro e w6 ⟨v6,rfl,ho6,hb⟩;obtain ⟨yo,yc,rfl,hy6⟩:=ho6.prs;have hx5:=hx5.pr hb;have hp:=hp.trans hb))
      all_goals
        go_wp2_with fail
        go_meet
        exact ⟨xo,xc,yo,yc,by rw [pz_length],by rw [pz_length],hx5.any,hy6.any,hp⟩
  case rest =>
  obtain ⟨xo,xc,yo,yc,rfl,rfl,hx5,hy5,hxy⟩:=hcut
  obtain ⟨wy,hwy⟩:∃ wy,wy=wc:=⟨_,rfl⟩
  subst hwy
  have HX5:=Lib.hid hx5;have HY5:=Lib.hid hy5;have Hxy:=Lib.hid hxy
  clear hx5 hy5 hxy C1x C2x
  go_wp2_with fail
  have H0:Hid (OwnsQs wy.heap.size (wy.alloc (.cells #[.int .i64 (-1),.int .i64 (-1),.int .i64 (-1)] 94)) (.slice (some ⟨wy.heap.size,0,none⟩) 1 1) (((-1,-1,-1):T3) :: tz (held (X.take 0) Y))):=Lib.hid (by
    have:=OwnsQs.made wy ((-1,-1,-1):T3)
    rw [List.take_zero];exact this)
  have hXY:=fun i=>held_mul (X.take i) Y
  have hXY2:∀ i,(held (X.take i) Y).length≤1000000:=fun i=>by
    have h1:=hXY i
    have h2:(X.take i).length≤1000:=by simp;omega
    have:=Nat.mul_le_mul h2 hYl
    omega
  have HXY:=Lib.hid hXY2
  clear hXY hXY2
  go_loopw [12,13] (fun v12 v13 wr=>∃ (i:Nat) (v:Value),i≤X.length∧v13=.int .i64 i∧v=v12∧OwnsQs wy.heap.size wr v (((-1,-1,-1):T3) :: tz (held (X.take i) Y))∧Pr wy wr) (fun _ v13 _=>X.length - (intOf v13).toNat)
  case atStart=>exact ⟨0,_,by omega,rfl,rfl,H0.out,Pr.alloc _ _⟩
  case round =>
    obtain ⟨i,v,hi,rfl,rfl,hown,hb⟩:=hrel
    by_cases hlt:i < X.length
    case pos =>
      as_aux_lemma =>
        have Hown:=Lib.hid hown;have Hb:=Lib.hid hb
        obtain ⟨bx,ox,rfl,hcx⟩:=HX5.out.get (by rw [pz_length];omega)
        obtain ⟨cx0,cx1⟩:=hcx i (by rw [pz_length];omega)
        have ex:(pz X)[i]'(by rw [pz_length];omega)=((X[i].1:Int),(X[i].2:Int)):=by simp [pz]
        rw [ex] at cx0 cx1
        simp only at cx0 cx1
        have Cx0:=stays cx0;have Cx1:=stays cx1
        have H1:Hid (OwnsQs wy.heap.size wr v ((((-1,-1,-1):T3) :: tz (held (X.take i) Y)) ++ tz (held [X[i]] (Y.take 0)))):=Lib.hid (by
          rw [List.take_zero,held_one_nil];simpa [tz] using hown)
        have hzi:(i:Int) < X.length:=by omega
        clear hown hb hcx ex cx0 cx1
        go_wp2_with fail
        go_loopw [12,14] (fun v12 v14 wr2=>∃ (k:Nat) (u:Value),k≤Y.length∧v14=.int .i64 k∧u=v12∧OwnsQs wy.heap.size wr2 u ((((-1,-1,-1):T3) :: tz (held (X.take i) Y)) ++ tz (held [X[i]] (Y.take k)))∧Pr wy wr2) (fun _ v14 _=>Y.length - (intOf v14).toNat)
        case atStart=>exact ⟨0,_,by omega,rfl,rfl,H1.out,Hb.out⟩
        case round =>
          obtain ⟨k,u,hk,rfl,rfl,hown,hb2⟩:=hrel
          by_cases hlk:k < Y.length
          case neg =>
            have hke:k=Y.length:=by omega
            have H2:Hid (OwnsQs wy.heap.size wr u (((-1,-1,-1):T3) :: tz (held (X.take (i+1)) Y))):=Lib.hid (by
              rw [held_take_succ X Y i hlt,tz_append];rw [hke,List.take_length] at hown;exact hown)
            have Hb2:=Lib.hid hb2
            clear hown hb2 Cx0 Cx1
            go_wp2_with fail
            refine ⟨⟨i+1,u,by omega,by go_num,rfl,H2.out,Hb2.out⟩,?_⟩
            simp [intOf];omega
          case pos =>
            obtain ⟨by',oy,rfl,hcy⟩:=HY5.out.get (by rw [pz_length];omega)
            obtain ⟨cy0,cy1⟩:=hcy k (by rw [pz_length];omega)
            have ey:(pz Y)[k]'(by rw [pz_length];omega)=((Y[k].1:Int),(Y[k].2:Int)):=by simp [pz]
            rw [ey] at cy0 cy1
            simp only at cy0 cy1
            have cx0:=Cx0 _ hb2;have cx1:=Cx1 _ hb2
            have cy0:=hb2.cell cy0;have cy1:=hb2.cell cy1
            have D0:=After.cell cx0;have D1:=After.cell cy0
            have hzk:(k:Int) < Y.length:=by omega
            have hzi0:(0:Int)≤(i:Int):=by omega
            have hzk0:(0:Int)≤(k:Int):=by omega
            have Hown2:=Lib.hid hown;have Hb2:=Lib.hid hb2
            clear hown hb2 hcy ey
            by_cases heq:X[i].1=Y[k].1
            case neg =>
              have e1:((X[i].1:Int)==(Y[k].1:Int))=false:=by rw [beq_eq_false_iff_ne];omega
              have H3:Hid (held [X[i]] (Y.take (k+1))=held [X[i]] (Y.take k)):=Lib.hid (held_one_miss _ _ _ hlk heq)
              generalize X[i].1=xi1 at *
              generalize Y[k].1=yk1 at *
              clear heq
              go_upto_region 18 with fail
              refine wp_region_after (by kernel_rfl) (by kernel_rfl) ?_
              repeat (go_big_quiet_step (fail))
              refine wpQuiet_nil ?_
              rintro wq ⟨⟨_,hq⟩,rfl⟩
              go_wp2_with fail
              refine ⟨⟨k+1,u,by omega,by go_num,rfl,by rw [H3.out];exact Hown2.out.pr hq,Hb2.out.trans hq⟩,?_⟩
              simp [intOf];omega
            case pos =>
              have e1:((X[i].1:Int)==(Y[k].1:Int))=true:=by rw [beq_iff_eq];omega
              have H3:Hid (held [X[i]] (Y.take (k+1))=held [X[i]] (Y.take k) ++ [(X[i].1,X[i].2,Y[k].2)]):=Lib.hid (held_one_hit _ _ _ hlk heq)
              have hln:(((((-1,-1,-1):T3) :: tz (held (X.take i) Y)) ++ tz (held [X[i]] (Y.take k)))).length≤1000000000:=by
                have h1:=HXY.out i
                have h2:=held_mul [X[i]] (Y.take k)
                have h3:(Y.take k).length≤k:=by simp;omega
                simp only [List.length_singleton,Nat.one_mul] at h2
                simp only [List.length_append,List.length_cons,tz_length];omega
              have Hln:=Lib.hid hln
              generalize X[i].1=xi1 at *
              generalize X[i].2=xi2 at *
              generalize Y[k].1=yk1 at *
              generalize Y[k].2=yk2 at *
              clear heq hln
              go_upto_region 18 with fail
              refine wp_region_after (by kernel_rfl) (by kernel_rfl) ?_
              repeat (go_big_quiet_step (fail))
              refine wpQuiet_nil ?_
              rintro wq ⟨⟨_,hq⟩,rfl⟩
              have cx0:=hq.cell cx0;have cx1:=hq.cell cx1;have cy1:=hq.cell cy1
              clear D0 D1 cy0
              go_upto_region 19 with fail
              refine wp_region_move_tail 16 _ (by kernel_rfl) (by kernel_rfl) (fun _ _ _ h=>h) rfl (fun _=>rfl) ?_
              simp only [List.take_succ_cons,List.take_zero,List.drop_succ_cons,List.drop_zero,Nat.reduceSub,Act.put,List.setIfInBounds_toArray,List.set_cons_zero,List.set_cons_succ]
              repeat (go_big_quiet_step (fail))
              refine wpQuiet_nil ?_
              rintro _ ⟨nq,rfl⟩
              have hq2:=hq.trans (Pr.drewN wq nq)
              have hwy:=(Hb2.out.trans hq2).size
              go_upto_region 17 with (at_builtin;go_must (refine app_tri rfl _ _ rfl wy.heap.size _ _ rfl ((Hown2.out.pr hq2).pr (Pr.alloc _ _)) (wq.drewN nq).heap.size rfl (((xi1:Int),(xi2:Int),(yk2:Int)):T3) (heap_alloc_new (wq.drewN nq) _) Hln.out (by simp;simp at hwy;omega) ?_);intro v6 w6 ho6 hg6 hd6)
              go_wp2_with fail
              refine ⟨⟨k+1,v6,by omega,by go_num,rfl,?_,?_⟩,?_⟩
              · rw [H3.out,tz_append,← List.append_assoc];exact ho6
              · refine Below.grown ((Hb2.out.trans hq2).alloc' _) hg6 (by simp;simp at hwy;omega) ?_
                intro k' hk';exact (Hown2.out.block k' hk').1
              · simp [intOf];omega
    case neg =>
      have hie:i=X.length:=by omega
      have H2:Hid (OwnsQs wy.heap.size wr v (((-1,-1,-1):T3) :: tz (held X Y))):=Lib.hid (by rw [hie,List.take_length] at hown;exact hown)
      have HXYl:=HXY.out X.length
      rw [List.take_length] at HXYl
      have Hb:=Lib.hid hb
      have hxr:=Hxy.out.trans hb
      have x1':=X1 _ hxr;have y1':=Y1 _ hxr;have z1':=Z1 _ hxr
      have hln:(((-1,-1,-1):T3) :: tz (held X Y)).length≤1000000000:=by simp only [List.length_cons,tz_length];omega
      have Hxr:=Lib.hid hxr;have Hln:=Lib.hid hln
      obtain ⟨wr,hwr⟩:∃ w',w'=wr:=⟨_,rfl⟩
      subst hwr
      clear hown hb hie hxr hln H0
      have hwyr:=Hb.out.size
      go_upto_region 21 with (at_builtin;go_must (refine app_tri rfl _ _ rfl wy.heap.size _ _ rfl (H2.out.pr (Pr.alloc _ _)) wr.heap.size rfl (((k1.length:Int),(k2.length:Int),(k3.length:Int)):T3) (heap_alloc_new wr _) Hln.out (by simp;omega) ?_);intro vh w6 ho6 hg6 hd6)
      have hy6:Pr wy w6:=Below.grown (Hb.out.alloc' _) hg6 (by simp;omega) (fun k' hk'=>(H2.out.block k' hk').1)
      have HO:=Lib.hid ho6;have Hy6:=Lib.hid hy6
      obtain ⟨wl,hwl⟩:∃ wl,wl=w6:=⟨_,rfl⟩
      subst hwl
      have hxl:=Hxy.out.trans hy6
      have hBx:=blk_lt HBo.out
      have hBl:Bo < wl.heap.size:=by have:=hxl.size;omega
      have hI0:MixInv wl Bo l M W.heap.size wl (.slice none 0 0) []:=MixInv.start (hxl.blk HBo.out)
      have hD0:DocRel (mixT N) k1 k2 k3 (held X Y) (segM (mixT N) k1 k2 k3 (held X Y) 0 0 0) 0 0 0 0 []:=DocRel.start HH.out (by omega)
      have HI0:=Lib.hid hI0;have HD0:=Lib.hid hD0
      have hvn:vh=vh:=rfl
      have hgt:=ho6.get (by simp)
      obtain ⟨gh,ch,rfl,hch,hgb,hgl,hcell⟩:=hgt
      have hTl:=docT_length k1 k2 k3 (held X Y)
      have hTl2:(((-1,-1,-1):T3) :: tz (held X Y) ++ [(((k1.length:Int),(k2.length:Int),(k3.length:Int)):T3)]).length=(held X Y).length+2:=by simp [tz_length]
      have HCELL:Hid (∀ (i:Nat) (t:T3),(docT k1 k2 k3 (held X Y))[i]? = some t→wl.cell? ⟨gh,i * 3,none⟩=some (.int .i64 t.1)∧wl.cell? ⟨gh,i * 3+1,none⟩=some (.int .i64 t.2.1)∧wl.cell? ⟨gh,i * 3+2,none⟩=some (.int .i64 t.2.2)):=Lib.hid fun i t ht=>by
        obtain ⟨h1,h2⟩:=List.getElem?_eq_some_iff.1 ht
        subst h2
        exact hcell i h1
      have hghB:gh≠Bo:=by have:=Hxy.out.size;omega
      rw [hTl2] at hch ⊢
      have Hgl:=Lib.hid hgl
      have HXL:=Lib.hid (HWx.out.trans hxl)
      obtain ⟨R,hR⟩:∃ R,R=segM (mixT N) k1 k2 k3 (held X Y) 0 0 0:=⟨_,rfl⟩
      rw [← hR] at HD0
      have HR:=Lib.hid hR
      have hHl2:=HHl.out
      obtain ⟨hl,hhl⟩:∃ n,n=(held X Y).length:=⟨_,rfl⟩
      rw [← hhl] at hch hHl2 ⊢
      have Hhl:=Lib.hid hhl
      generalize hHe:held X Y=H at *
      have HHe:=Lib.hid hHe
      clear hHe
      clear ho6 hg6 hd6 hy6 H2 Hb x1' y1' z1' Hxr Hln X1 Y1 Z1 hxl hI0 hD0 hvn hcell hgl hTl hTl2 hR HXY HXYl HX5 HY5 hhl hgb
      have KK:Hid (∀ wr v ts,MixInv wl Bo l M W.heap.size wr v ts→∀ ks oa c,Kids (fun k=>k < M) W ks oa c→Kids (fun k=>k < M) wr ks oa c):=Lib.hid fun wr v ts hI ks oa c hk=>hk.carry fun k (h:k < M) hlt=>by
        rw [hI.chg.block k (by have:=HXL.out.size;omega) (by show ¬ k=Bo;have:=HM.out;omega),Below.block HXL.out k hlt];exact ⟨rfl,h⟩
      have CE:Hid (∀ wr v ts,MixInv wl Bo l M W.heap.size wr v ts→∀ b,b < W.heap.size→∀ o x,W.cell? ⟨b,o,none⟩=some x→wr.cell? ⟨b,o,none⟩=some x):=Lib.hid fun wr v ts hI b hb o x hx=>by
        rw [World.cell?_of_block (hI.chg.block b (by have:=HXL.out.size;omega) (by show ¬ b=Bo;omega))];exact HXL.out.cell hx
      have FZ:Hid (∀ wr v ts,MixInv wl Bo l M W.heap.size wr v ts→∀ o,W.frozen? ⟨w.heap.size+1+1+1,o,none⟩=false→wr.frozen? ⟨w.heap.size+1+1+1,o,none⟩=false):=Lib.hid fun wr v ts hI o hx=>by
        rw [World.frozen?_of_block (hI.chg.block _ (show w.heap.size+1+1+1 < wl.heap.size by have:=HXL.out.size;have:=HWs.out;omega) (show ¬ (w.heap.size+1+1+1=Bo) by have:=HWs.out;omega)),HXL.out.frozen (by have:=HWs.out;omega)];exact hx
      go_wp2_with fail
      go_loopw [15] (fun v15 wr=>∃ (m:Nat) (v:Value) (ts:List Tr),m≤hl+1∧v15=.int .i64 ((m:Int)+1)∧MixInv wl Bo l M W.heap.size wr v ts∧((m=hl+1∧R=.ok ts)∨∃ i j k,DocRel (mixT N) k1 k2 k3 H R m i j k ts)) (fun v15 _=>hl+2 - (intOf v15).toNat)
      case atStart=>exact ⟨0,_,[],by omega,rfl,HI0.out,.inr ⟨0,0,0,HD0.out⟩⟩
      case round =>
        obtain ⟨m,v,ts,hm,rfl,hI,hrel⟩:=hrel
        by_cases hml:m=hl+1
        case pos =>
          as_aux_lemma =>
            subst hml
            have hR:R=.ok ts:=by
              rcases hrel with ⟨_,h⟩ | ⟨i,j,k,h⟩
              · exact h
              · have:=h.few;have:=Hhl.out;omega
            obtain ⟨oa,cap,rfl,hkk⟩:=hI.kids HXL.out.size hBl
            have r0':=CE.out wr _ _ hI _ (by have:=HWs.out;omega) 0 _ (r0 W (Pr.refl _));have r1':=CE.out wr _ _ hI _ (by have:=HWs.out;omega) 1 _ (r1 W (Pr.refl _))
            have f0':=FZ.out wr _ _ hI 0 F0.out;have f1':=FZ.out wr _ _ hI 1 F1.out
            have q0:=blk_cell (o:=0) hI.blk;have q1:=blk_cell (o:=1) hI.blk
            simp only [List.getElem?_toArray,List.getElem?_cons_zero,List.getElem?_cons_succ] at q0 q1
            have e0:decide ((hl:Int)+1+1 < (hl:Int)+2)=false:=decide_eq_false (by omega)
            have e00:decide (hl+1+1 < hl+2)=false:=decide_eq_false (by omega)
            have HI:=Lib.hid hI;have Hkk:=Lib.hid hkk;have HRo:=Lib.hid hR
            clear hI hkk hR hrel hm
            go_wp2_with fail
            refine bodyPost_ret (v:=.tuple #[.agg #[.string l,.slice oa ts.length cap],.slice none 0 0,.bool true]) (by simp [results,Tryz.results27,go_sem,r0',r1']) rfl ?_
            rw [HXe.out,HYe.out,HHe.out,← HR.out,HRo.out]
            refine ⟨?_,l,ts,oa,cap,rfl,Hll.out,rfl,?_⟩
            · have hpr:Pr w wr:=(HI.out.chg).to_prM (HW.out.trans HXL.out) (fun k hk=>by have:=HWs.out;have h:k=Bo:=hk;omega)
              exact (hpr.setCell (by simp;omega) _).setCell (by simp;omega) _
            · refine ((Hkk.out.setCell _ _ ?_).setCell _ _ ?_).mono fun k h _=>h.1.imp id fun h=>by have:=HWs.out;omega
              · show ¬ ((w.heap.size+1+1+1 < M∨W.heap.size≤w.heap.size+1+1+1)∧_);have:=HWs.out;have:=HM.out;omega
              · show ¬ ((w.heap.size+1+1+1 < M∨W.heap.size≤w.heap.size+1+1+1)∧_);have:=HWs.out;have:=HM.out;omega
        case neg =>
          obtain ⟨i,j,k,hD⟩:∃ i j k,DocRel (mixT N) k1 k2 k3 H R m i j k ts:=by
            rcases hrel with ⟨h,_⟩ | h
            · exact absurd h hml
            · exact h
          obtain ⟨n,p,q,hT1,⟨hin,hno,hjp,hpa,hkq,hqb⟩,herr,hok⟩:=hD.step (fun o a b t=>mixT_sz N o a b t)
          have hT0:=hD.at'
          have hmh:=hD.few
          have hmh2:m≤hl:=by have:=Hhl.out;omega
          have hc0:=HCELL.out m _ hT0
          have hc1:=HCELL.out (m+1) _ hT1
          simp only [] at hc0 hc1
          have hgw:wr.heap[gh]? = wl.heap[gh]? := hI.chg.block gh Hgl.out hghB
          have kc:∀ o x,wl.cell? ⟨gh,o,none⟩=some x→wr.cell? ⟨gh,o,none⟩=some x:=fun o x hx=>by rw [World.cell?_of_block hgw];exact hx
          have g0:=stays (kc _ _ hc0.1);have g1:=stays (kc _ _ hc0.2.1);have g2:=stays (kc _ _ hc0.2.2)
          have g3:=stays (kc _ _ hc1.1);have g4:=stays (kc _ _ hc1.2.1);have g5:=stays (kc _ _ hc1.2.2)
          have e0:decide ((m:Int)+1 < (hl:Int)+2)=true:=decide_eq_true (by omega)
          have e00:decide (m+1 < hl+2)=true:=decide_eq_true (by omega)
          have t1:IntKind.i64.wrap ((m:Int)+1 - 1)=(m:Int):=by rw [Int.add_sub_cancel];exact IntWalk.i64_in _ (by omega)
          have t0:IntKind.i64.wrap (m:Int)=(m:Int):=IntWalk.i64_in _ (by omega)
          have t2:(m:Int) < (hl:Int)+2:=by omega
          have t3:(m:Int)+1 < (hl:Int)+2:=by omega
          have t4:(0:Int)≤(m:Int):=by omega
          have t5:(0:Int)≤(m:Int)+1:=by omega
          have t6:((m:Int)+1).toNat=m+1:=by omega
          have HI:=Lib.hid hI;have HD:=Lib.hid hD;have Herr:=Lib.hid herr;have Hok:=Lib.hid hok
          clear hI hD herr hok hrel hT0 hT1 hc0 hc1 hgw kc
          go_upto_region 24 with fail
          go_cut [16,17] from 135 to 143 (fun v16 v17 wx=>∃ U V,v16=.pointer (some ⟨U,0,none⟩)∧v17=.pointer (some ⟨V,0,none⟩)∧wx.heap[U]? = some (.cells #[.int .i64 ((i:Int) - 1),.int .i64 ((j:Int) - 1),.int .i64 ((k:Int) - 1)] 94 (0,0))∧wx.heap[V]? = some (.cells #[.int .i64 (n:Int),.int .i64 (p:Int),.int .i64 (q:Int)] 94 (0,0))∧wr.heap.size≤U∧wr.heap.size≤V∧Pr wr wx)
          case first =>
            as_aux_lemma =>
              go_region_held3 (fun W'=>Pr wr W')
                (first | with_reducible exact Pr.drew wr | with_reducible exact (Pr.alloc _ _).drew' | with_reducible exact ((Pr.alloc _ _).alloc' _).drew')
                (fail)
              all_goals
                go_wp2_with fail
                go_meet
              case rel=>first | exact ⟨_,_,rfl,rfl,(two_new _ _ _).1,(two_new _ _ _).2.1,Nat.le_refl _,Nat.le_succ _,(two_new _ _ _).2.2⟩ | exact ⟨_,_,rfl,rfl,(two_new _ _ _).2.1,(two_new _ _ _).1,Nat.le_succ _,Nat.le_refl _,(two_new _ _ _).2.2⟩
              case rel=>first | exact ⟨_,_,rfl,rfl,(two_new _ _ _).1,(two_new _ _ _).2.1,Nat.le_refl _,Nat.le_succ _,(two_new _ _ _).2.2⟩ | exact ⟨_,_,rfl,rfl,(two_new _ _ _).2.1,(two_new _ _ _).1,Nat.le_succ _,Nat.le_refl _,(two_new _ _ _).2.2⟩
          case rest =>
          obtain ⟨U,V',rfl,rfl,hU,hV,hUr,hVr,hpx⟩:=hcut
          obtain ⟨wx',hwx'⟩:∃ w',w'=wc:=⟨_,rfl⟩
          subst hwx'
          clear g0 g1 g2 g3 g4 g5 t1 t2 t3 t5 t6 e0 e00
          have hI2:=HI.out.pr hpx
          have hK1:=KK.out _ _ _ hI2 _ _ _ HK1.out;have hK2:=KK.out _ _ _ hI2 _ _ _ HK2.out;have hK3:=KK.out _ _ _ hI2 _ _ _ HK3.out
          have hc1:=hK1.1;have hc2:=hK2.1;have hc3:=hK3.1
          obtain ⟨so1,hsl1,hp1⟩:=slice_trees hK1 i n hin hno
          obtain ⟨so2,hsl2,hp2⟩:=slice_trees hK2 j p hjp hpa
          obtain ⟨so3,hsl3,hp3⟩:=slice_trees hK3 k q hkq hqb
          have x1':=After.cell (CE.out _ _ _ hI2 _ (by have:=HWs.out;omega) 1 _ (x1 W (Pr.refl _)));have y1':=After.cell (CE.out _ _ _ hI2 _ (by have:=HWs.out;omega) 1 _ (y1 W (Pr.refl _)));have z1':=After.cell (CE.out _ _ _ hI2 _ (by have:=HWs.out;omega) 1 _ (z1 W (Pr.refl _)))
          have u0:=After.cell (blk_cell (o:=0) hU);have u1':=After.cell (blk_cell (o:=1) hU);have u2':=After.cell (blk_cell (o:=2) hU)
          have v0:=After.cell (blk_cell (o:=0) hV);have v1':=After.cell (blk_cell (o:=1) hV);have v2':=After.cell (blk_cell (o:=2) hV)
          have r1a:IntKind.i64.wrap ((i:Int) - 1+1)=(i:Int):=by rw [Int.sub_add_cancel];exact IntWalk.i64_in _ (by omega)
          have r2a:IntKind.i64.wrap ((j:Int) - 1+1)=(j:Int):=by rw [Int.sub_add_cancel];exact IntWalk.i64_in _ (by omega)
          have r3a:IntKind.i64.wrap ((k:Int) - 1+1)=(k:Int):=by rw [Int.sub_add_cancel];exact IntWalk.i64_in _ (by omega)
          have r1b:IntKind.i64.wrap (i:Int)=(i:Int):=IntWalk.i64_in _ (by omega)
          have r2b:IntKind.i64.wrap (j:Int)=(j:Int):=IntWalk.i64_in _ (by omega)
          have r3b:IntKind.i64.wrap (k:Int)=(k:Int):=IntWalk.i64_in _ (by omega)
          have zl1:Tr.szL ((k1.drop i).take (n - i))≤Tr.szL k1:=Nat.le_trans (Tr.szL_take_le _ _) (szL_drop_le _ _)
          have zl2:Tr.szL ((k2.drop j).take (p - j))≤Tr.szL k2:=Nat.le_trans (Tr.szL_take_le _ _) (szL_drop_le _ _)
          have zl3:Tr.szL ((k3.drop k).take (q - k))≤Tr.szL k3:=Nat.le_trans (Tr.szL_take_le _ _) (szL_drop_le _ _)
          generalize (k1.drop i).take (n - i)=g1 at *
          generalize (k2.drop j).take (p - j)=g2 at *
          generalize (k3.drop k).take (q - k)=g3 at *
          have HP1:=Lib.hid hp1;have HP2:=Lib.hid hp2;have HP3:=Lib.hid hp3;have HI2:=Lib.hid hI2;have HV:=Lib.hid hV;have HU:=Lib.hid hU;have Hpx:=Lib.hid hpx
          clear hp1 hp2 hp3 hI2 hV hU hpx hK1 hK2 hK3
          go_upto_region 25 with fail
          refine wp_region_after (by kernel_rfl) (by kernel_rfl) ?_
          repeat (go_big_quiet_step (fail))
          refine wpQuiet_nil ?_
          rintro wz ⟨⟨_,hz⟩,rfl⟩
          clear x1' y1' z1' u0 u1' u2' v0 v1' v2' hsl1 hsl2 hsl3 r1a r2a r3a r1b r2b r3b
          have hIz:=HI2.out.pr hz
          have T1:=Lib.hid fun W' (h:Pr wz W')=>(same_both _).2 g2 g1 so2 (c2 - j) so1 (c1 - i) W' (Nat.lt_succ_self _) (HP2.out.pr (hz.trans h)).any (HP1.out.pr (hz.trans h)).any
          have T2:=Lib.hid fun W' (h:Pr wz W')=>(same_both _).2 g2 g3 so2 (c2 - j) so3 (c3 - k) W' (Nat.lt_succ_self _) (HP2.out.pr (hz.trans h)).any (HP3.out.pr (hz.trans h)).any
          have T3:=Lib.hid fun W' (h:Pr wz W')=>(same_both _).2 g3 g1 so3 (c3 - k) so1 (c1 - i) W' (Nat.lt_succ_self _) (HP3.out.pr (hz.trans h)).any (HP1.out.pr (hz.trans h)).any
          obtain ⟨rt,hrt⟩:∃ rt,rt=partM (mixT N) g1 g2 g3 i:=⟨_,rfl⟩
          rw [← hrt] at Herr Hok
          unfold partM at hrt
          generalize Tr.beqL g2 g1=b1 at *
          generalize Tr.beqL g2 g3=b2 at *
          generalize Tr.beqL g3 g1=b3 at *
          have hMB:M≤Bo:=by have:=HM.out;have:=HWs.out;omega
          have hMl:M≤wl.heap.size:=by omega
          have hsz0:=HI.out.chg.size
          have HIz:=Lib.hid hIz
          clear hIz
          go_upto_block 6 with fail
          go_cut [15] from 129 to 260 (fun v15 wt=>v15=.int .i64 ((m:Int)+1)∧∃ o4 n4 c4 t4 s9,rt=.ok s9∧t4=ts ++ s9∧MixInv wl Bo l M W.heap.size wt (.slice o4 n4 c4) t4∧wt.heap[V']? = some (.cells #[.int .i64 (n:Int),.int .i64 (p:Int),.int .i64 (q:Int)] 94 (0,0))∧(Value.slice o4 n4 c4).ownBlock≠some V')
          case rest =>
            obtain ⟨rfl,o4,n4,c4,t4,s9,hrt9,ht4,hI4,hV4,hvn4⟩:=hcut
            obtain ⟨wt,hwt⟩:∃ wt,wt=wc:=⟨_,rfl⟩
            subst hwt
            clear hrt T1 T2 T3
            obtain ⟨hsz4,hmid,hend⟩:=Hok.out s9 hrt9
            rw [← ht4] at hsz4 hmid hend
            have hlen4:t4.length≤3000:=Nat.le_trans (Tr.length_le _) hsz4
            clear ht4
            have t1:IntKind.i64.wrap ((hl:Int)+2 - 1)=(hl:Int)+1:=by rw [show (hl:Int)+2 - 1=(hl:Int)+1 by omega];exact IntWalk.i64_in _ (by omega)
            have t2:IntKind.i64.wrap ((hl:Int)+1)=(hl:Int)+1:=IntWalk.i64_in _ (by omega)
            by_cases hlast:m < hl
            case neg =>
              have d1:decide ((m:Int)+1 < (hl:Int)+1)=false:=decide_eq_false (by omega)
              have d2:decide (m+1 < hl+1)=false:=decide_eq_false (by omega)
              have d3:decide (m < hl)=false:=decide_eq_false (by omega)
              have HI4:=Lib.hid hI4
              have Hend:=Lib.hid (hend (by have:=Hhl.out;omega))
              clear hI4 hmid hend hV4 t1 t2
              go_wp2_with fail
              refine ⟨⟨m+1,(.slice o4 n4 c4),t4,by omega,by go_num,HI4.out,.inl ⟨by omega,Hend.out⟩⟩,?_⟩
              simp [intOf];omega
            case pos =>
              have d1:decide ((m:Int)+1 < (hl:Int)+1)=true:=decide_eq_true (by omega)
              have d2:decide (m+1 < hl+1)=true:=decide_eq_true (by omega)
              have d3:decide (m < hl)=true:=decide_eq_true (by omega)
              obtain ⟨hnl,hsz5,hD5⟩:=hmid (by have:=Hhl.out;omega)
              have hK1t:=KK.out _ _ _ hI4 _ _ _ HK1.out
              obtain ⟨b1,o1',l',ks',oa',cap',e1,hl',rfl,c0,c1',hk'⟩:=hK1t.get n hnl
              have hkn:kidN k1 n=.node l' ks':=by rw [kidN_in k1 n hnl,e1]
              rw [hkn] at hsz5 hD5
              have B4:=stays (blk_cell (o:=1) hI4.blk)
              have hown4:∀ k',(Value.slice o4 n4 c4).ownBlock=some k'→wl.heap.size≤k'∧k' < wt.heap.size:=fun k' e=>hI4.row.block k' e
              have hW4:=HWs.out;have hWl:=HXL.out.size
              have XC:=fun (W':World) (h:Chg (fun k=>k=Bo∨(Value.slice o4 n4 c4).ownBlock=some k) wt W')=>h.cell9 (CE.out _ _ _ hI4 _ (by omega) 1 _ (x1 W (Pr.refl _))) (by rintro (e | e);omega;have:=hown4 _ e;omega)
              have VC:=fun (W':World) (h:Chg (fun k=>k=Bo∨(Value.slice o4 n4 c4).ownBlock=some k) wt W')=>h.cell9 (blk_cell (o:=0) hV4) (by rintro (e | e);omega;exact hvn4 e)
              have hb1M:b1 < M:=by
                obtain ⟨_,b9,o9,hb9,_⟩:=hK1t
                have h9:=hb9 (by intro e;subst e;simp at hnl)
                cases h9.1
                exact h9.2
              have CC0:=fun (W':World) (h:Chg (fun k=>k=Bo∨(Value.slice o4 n4 c4).ownBlock=some k) wt W')=>h.cell9 c0 (by rintro (e | e);omega;have:=hown4 _ e;omega)
              have CC1:=fun (W':World) (h:Chg (fun k=>k=Bo∨(Value.slice o4 n4 c4).ownBlock=some k) wt W')=>h.cell9 c1' (by rintro (e | e);omega;have:=hown4 _ e;omega)
              have y1:(n:Int) < (k1.length:Int):=by omega
              have y2:(0:Int)≤(n:Int):=by omega
              have HI4:=Lib.hid hI4;have HD5:=Lib.hid hD5;have Hk':=Lib.hid hk'
              have hwt:=hI4.chg.size
              have hC0:=(Pr.refl wt).chg (fun k=>k=Bo∨(Value.slice o4 n4 c4).ownBlock=some k)
              clear hI4 hmid hend hV4 hD5 hk' hK1t c0 c1' e1 hkn t1 t2 hW4 hWl hown4
              go_upto_region 40 with fail
              have B4':=B4 _ (Pr.drew wt)
              refine wp_region_held_drew (S:=fun W'=>Chg (fun k=>k=Bo∨(Value.slice o4 n4 c4).ownBlock=some k) wt W') (by kernel_rfl) (hC0.pr (Pr.drew wt)) (fun hHeld=>?_)
              refine wpAnyH_take (i:=0) (v:=?_) rfl (by kernel_rfl) (by kernel_rfl) (by kernel_rfl) (fun _ _ _ h=>h) (Or.inl ⟨by rfl,?_⟩) (by assumption) ?_
              rotate_left
              · (intro w hSw;(try dsimp only at hSw);go_simp) <;> with_reducible rfl
              try simp only [Act.put,List.setIfInBounds_toArray,List.set_cons_zero,List.set_cons_succ]
              refine wpAnyH_take (i:=2) (v:=?_) rfl (by kernel_rfl) (by kernel_rfl) (by kernel_rfl) (fun _ _ _ h=>h) (Or.inl ⟨by rfl,?_⟩) (by assumption) ?_
              rotate_left
              · (intro w hSw;(try dsimp only at hSw);go_simp) <;> with_reducible rfl
              try simp only [Act.put,List.setIfInBounds_toArray,List.set_cons_zero,List.set_cons_succ]
              refine wpAnyH_take (i:=3) (v:=?_) rfl (by kernel_rfl) (by kernel_rfl) (by kernel_rfl) (fun _ _ _ h=>h) (Or.inl ⟨by rfl,?_⟩) (by assumption) ?_
              rotate_left
              · (intro w hSw;(try dsimp only at hSw);go_simp) <;> with_reducible rfl
              try simp only [Act.put,List.setIfInBounds_toArray,List.set_cons_zero,List.set_cons_succ]
              refine wpAnyH_take (i:=4) (v:=?_) rfl (by kernel_rfl) (by kernel_rfl) (by kernel_rfl) (fun _ _ _ h=>h) (Or.inl ⟨by rfl,?_⟩) (by assumption) ?_
              rotate_left
              · (intro w hSw;(try dsimp only at hSw);go_simp) <;> with_reducible rfl
              try simp only [Act.put,List.setIfInBounds_toArray,List.set_cons_zero,List.set_cons_succ]
              refine wpAnyH_take (i:=5) (v:=?_) rfl (by kernel_rfl) (by kernel_rfl) (by kernel_rfl) (fun _ _ _ h=>h) (Or.inl ⟨by rfl,?_⟩) (by assumption) ?_
              rotate_left
              · (intro w hSw;(try dsimp only at hSw);go_simp) <;> with_reducible rfl
              try simp only [Act.put,List.setIfInBounds_toArray,List.set_cons_zero,List.set_cons_succ]
              refine wpAnyH_take (i:=6) (v:=?_) rfl (by kernel_rfl) (by kernel_rfl) (by kernel_rfl) (fun _ _ _ h=>h) (Or.inl ⟨by rfl,?_⟩) (by assumption) ?_
              rotate_left
              · (intro w hSw;(try dsimp only at hSw);go_simp) <;> with_reducible rfl
              try simp only [Act.put,List.setIfInBounds_toArray,List.set_cons_zero,List.set_cons_succ]
              refine wpAnyH_take (i:=7) (v:=?_) rfl (by kernel_rfl) (by kernel_rfl) (by kernel_rfl) (fun _ _ _ h=>h) (Or.inl ⟨by rfl,?_⟩) (by assumption) ?_
              rotate_left
              · (intro w hSw;(try dsimp only at hSw);go_simp) <;> with_reducible rfl
              try simp only [Act.put,List.setIfInBounds_toArray,List.set_cons_zero,List.set_cons_succ]
              refine wpAnyH_ready (rs:=[1,8]) (by kernel_rfl) (by simp) ?_
              have hmk:=(Pr.drew wt).alloc' (.cells #[.string l',.slice oa' ks'.length cap'] 34)
              have hmkb:=(Pr.alloc wt (.cells #[.string l',.slice oa' ks'.length cap'] 34)).drew'
              have hcA:=hC0.pr hmk
              have hcAb:=hC0.pr hmkb
              have B4a:=B4 _ hmk
              have B4b:=B4 _ (Pr.alloc wt (.cells #[.string l',.slice oa' ks'.length cap'] 34))
              have HIm:=Lib.hid (HI4.out.pr hmk)
              have HImb:=Lib.hid (HI4.out.pr hmkb)
              have hlow:∀ k',k' < M→(k' < M∨W.heap.size≤k')∧k'≠Bo∧(Value.slice o4 n4 c4).ownBlock≠some k':=fun k' h=>⟨.inl h,by omega,fun e=>by have:=(HI4.out.row.block k' e).1;omega⟩
              have Hk'm:=Lib.hid ((Hk'.out.pr hmk).mono (S':=fun k=>(k < M∨W.heap.size≤k)∧k≠Bo∧(Value.slice o4 n4 c4).ownBlock≠some k) fun k' (h:k' < M) _=>hlow k' h)
              have Hk'mb:=Lib.hid ((Hk'.out.pr hmkb).mono (S':=fun k=>(k < M∨W.heap.size≤k)∧k≠Bo∧(Value.slice o4 n4 c4).ownBlock≠some k) fun k' (h:k' < M) _=>hlow k' h)
              clear hlow
              refine AllReadyH.cons rfl (fun K hK=>?_) (AllReadyH.cons rfl (fun K hK=>?_) AllReadyH.nil)
              · go_simp
                refine hK.out _ _ (hC0.pr (Pr.drew wt)) (fun hHeld=>?_)
                clear hK K
                try simp only [Act.put,List.setIfInBounds_toArray,List.set_cons_zero,List.set_cons_succ]
                refine wpAnyH_ready (rs:=[8]) (by kernel_rfl) (by simp) ?_
                refine AllReadyH.cons rfl (fun K hK=>?_) AllReadyH.nil
                go_simp
                refine hK.out _ _ hcA (fun hHeld=>?_)
                clear hK K
                try simp only [Act.put,List.setIfInBounds_toArray,List.set_cons_zero,List.set_cons_succ]
                refine wpAnyH_ready (rs:=[9]) (by kernel_rfl) (by simp) ?_
                refine AllReadyH.cons rfl (fun K hK=>?_) AllReadyH.nil
                refine step_treeM rfl _ _ rfl _ _ wl.heap.size (.slice o4 n4 c4) (t4) rfl HIm.out.row wt.drew.heap.size rfl (.node l' ks') _ _ (heap_alloc_new wt.drew _) (treeV_mk cap' hl' Hk'm.out) (by omega) (by simp;omega) ?_
                intro g6 c6 w6 ho6 hg6 hat6
                obtain ⟨z1,z2⟩:=HIm.out.grownB hBl hg6
                have HI6:=Lib.hid (HIm.out.app hBl ho6 hg6 (fun k' hk'=>by cases hk';exact hat6))
                have hcB:=hcA.trans (chg_grown hg6) (fun k hk=>.inl (.inr hk))
                refine hK.out _ _ hcB (fun hHeld=>?_)
                clear hK K
                try simp only [Act.put,List.setIfInBounds_toArray,List.set_cons_zero,List.set_cons_succ]
                refine wpAnyH_take (i:=10) (v:=?_) rfl (by kernel_rfl) (by kernel_rfl) (by kernel_rfl) (fun _ _ _ h=>h) (Or.inl ⟨by rfl,?_⟩) (by assumption) ?_
                rotate_left
                · (intro w hSw;(try dsimp only at hSw);go_simp) <;> with_reducible rfl
                try simp only [Act.put,List.setIfInBounds_toArray,List.set_cons_zero,List.set_cons_succ]
                refine wpAnyH_ready (rs:=[11]) (by kernel_rfl) (by simp) ?_
                refine AllReadyH.cons rfl (fun K hK=>?_) AllReadyH.nil
                go_simp
                refine hK.out _ _ (Chg.setCell hcB _ _ (.inl (.inl rfl))) (fun hHeld=>?_)
                clear hK K
                try simp only [Act.put,List.setIfInBounds_toArray,List.set_cons_zero,List.set_cons_succ]
                refine wpAnyH_done (by kernel_rfl) ?_ _
                clear B4 B4' B4a XC VC CC0 CC1 hcA hcAb hcB hmk hmkb hC0 B4b ho6 hg6 z1 z2
                go_wp2_with fail
                refine ⟨⟨m+1,_,t4 ++ [.node l' ks'],by omega,by go_num,HI6.out,.inr ⟨n+1,p+1,q+1,HD5.out⟩⟩,?_⟩
                simp [intOf];omega
              · go_simp
                refine hK.out _ _ (hcAb) (fun hHeld=>?_)
                clear hK K
                try simp only [Act.put,List.setIfInBounds_toArray,List.set_cons_zero,List.set_cons_succ]
                refine wpAnyH_ready (rs:=[1]) (by kernel_rfl) (by simp) ?_
                refine AllReadyH.cons rfl (fun K hK=>?_) AllReadyH.nil
                go_simp
                refine hK.out _ _ hcAb (fun hHeld=>?_)
                clear hK K
                try simp only [Act.put,List.setIfInBounds_toArray,List.set_cons_zero,List.set_cons_succ]
                refine wpAnyH_ready (rs:=[9]) (by kernel_rfl) (by simp) ?_
                refine AllReadyH.cons rfl (fun K hK=>?_) AllReadyH.nil
                refine step_treeM rfl _ _ rfl _ _ wl.heap.size (.slice o4 n4 c4) (t4) rfl HImb.out.row wt.heap.size rfl (.node l' ks') _ _ ((Pr.drew _).blk (heap_alloc_new wt _)) (treeV_mk cap' hl' Hk'mb.out) (by omega) (by simp;omega) ?_
                intro g6 c6 w6 ho6 hg6 hat6
                obtain ⟨z1,z2⟩:=HImb.out.grownB hBl hg6
                have HI6:=Lib.hid (HImb.out.app hBl ho6 hg6 (fun k' hk'=>by cases hk';exact hat6))
                have hcB:=hcAb.trans (chg_grown hg6) (fun k hk=>.inl (.inr hk))
                refine hK.out _ _ hcB (fun hHeld=>?_)
                clear hK K
                try simp only [Act.put,List.setIfInBounds_toArray,List.set_cons_zero,List.set_cons_succ]
                refine wpAnyH_take (i:=10) (v:=?_) rfl (by kernel_rfl) (by kernel_rfl) (by kernel_rfl) (fun _ _ _ h=>h) (Or.inl ⟨by rfl,?_⟩) (by assumption) ?_
                rotate_left
                · (intro w hSw;(try dsimp only at hSw);go_simp) <;> with_reducible rfl
                try simp only [Act.put,List.setIfInBounds_toArray,List.set_cons_zero,List.set_cons_succ]
                refine wpAnyH_ready (rs:=[11]) (by kernel_rfl) (by simp) ?_
                refine AllReadyH.cons rfl (fun K hK=>?_) AllReadyH.nil
                go_simp
                refine hK.out _ _ (Chg.setCell hcB _ _ (.inl (.inl rfl))) (fun hHeld=>?_)
                clear hK K
                try simp only [Act.put,List.setIfInBounds_toArray,List.set_cons_zero,List.set_cons_succ]
                refine wpAnyH_done (by kernel_rfl) ?_ _
                clear B4 B4' B4a XC VC CC0 CC1 hcA hcAb hcB hmk hmkb hC0 B4b ho6 hg6 z1 z2
                go_wp2_with fail
                refine ⟨⟨m+1,_,t4 ++ [.node l' ks'],by omega,by go_num,HI6.out,.inr ⟨n+1,p+1,q+1,HD5.out⟩⟩,?_⟩
                simp [intOf];omega
          case first =>
          have hIz:=HIz.out
          cases b1
          case true =>
            as_aux_lemma =>
              rw [if_pos (by simp)] at hrt
              subst hrt
              have hp:=Pr.refl wz
              go_upto_region 28 with (first
                | (go_at_call 28;(with_reducible refine Calls.mono (T1.out _ hp) ?_);rintro e w7 ⟨rfl,hb7⟩;have hp:=hp.trans hb7))
              have hIa:=hIz.pr hp
              have hpx2:=Hpx.out.trans (hz.trans hp)
              have hKs:=(HP3.out.pr (hz.trans hp)).mono (S':=fun k=>(k < M∨W.heap.size≤k)∧k≠Bo∧v.ownBlock≠some k) fun k' (h:k' < M) _=>⟨.inl h,by omega,fun e=>by have:=(hIa.row.block k' e).1;omega⟩
              have hVa:=(hz.trans hp).blk HV.out
              have hvn:v.ownBlock≠some V':=fun e=>by have:=(HI.out.row.block V' e).2;omega
              have q1:=blk_cell (o:=1) hIa.blk
              simp only [List.getElem?_toArray,List.getElem?_cons_zero,List.getElem?_cons_succ] at q1
              have hszg:=(Hok.out g3 rfl).1
              have hlg:(ts ++ g3).length≤3000:=Nat.le_trans (Tr.length_le _) hszg
              rw [List.length_append] at hlg
              have hsza:=hIa.chg.size
              have HIa:=Lib.hid hIa;have HKs:=Lib.hid hKs;have HVa:=Lib.hid hVa
              clear hIa hKs hVa hIz T1 T2 T3 hpx2
              go_wp2_with (at_builtin;go_must (refine app_trees rfl _ _ rfl _ _ wl.heap.size v ts rfl HIa.out.row g3 so3 (c3 - k) rfl HKs.out (Pr.refl _) (by omega) (by omega) ?_);intro v4 w8 ho8 hg8 hd8;obtain ⟨z1,z2⟩:=HIa.out.grownB hBl hg8;obtain ⟨o4,n4,c4,rfl⟩:=ho8.isSlice)
              go_meet
              case rel =>
              have hI4:=HIa.out.app hBl ho8 hg8 hd8
              have hV4:=HIa.out.other hg8 (.slice o4 n4 c4) HVa.out (by omega) hvn
              have hvn4:(Value.slice o4 n4 c4).ownBlock≠some V':=fun e=>by rcases hd8 V' e with e | e;exact hvn e;have:=blk_lt HVa.out;omega
              exact ⟨rfl,o4,n4,c4,ts ++ g3,g3,rfl,rfl,hI4,hV4,hvn4⟩
          case false =>
          cases b2
          case true =>
            as_aux_lemma =>
              rw [if_pos (by simp)] at hrt
              subst hrt
              have hp:=Pr.refl wz
              go_upto_region 28 with (first
                | (go_at_call 28;(with_reducible refine Calls.mono (T1.out _ hp) ?_);rintro e w7 ⟨rfl,hb7⟩;have hp:=hp.trans hb7)
                | (go_at_call 28;(with_reducible refine Calls.mono (T2.out _ hp) ?_);rintro e w8 ⟨rfl,hb8⟩;have hp:=hp.trans hb8))
              have hIa:=hIz.pr hp
              have hpx2:=Hpx.out.trans (hz.trans hp)
              have hKs:=(HP3.out.pr (hz.trans hp)).mono (S':=fun k=>(k < M∨W.heap.size≤k)∧k≠Bo∧v.ownBlock≠some k) fun k' (h:k' < M) _=>⟨.inl h,by omega,fun e=>by have:=(hIa.row.block k' e).1;omega⟩
              have hVa:=(hz.trans hp).blk HV.out
              have hvn:v.ownBlock≠some V':=fun e=>by have:=(HI.out.row.block V' e).2;omega
              have q1:=blk_cell (o:=1) hIa.blk
              simp only [List.getElem?_toArray,List.getElem?_cons_zero,List.getElem?_cons_succ] at q1
              have hszg:=(Hok.out g3 rfl).1
              have hlg:(ts ++ g3).length≤3000:=Nat.le_trans (Tr.length_le _) hszg
              rw [List.length_append] at hlg
              have hsza:=hIa.chg.size
              have HIa:=Lib.hid hIa;have HKs:=Lib.hid hKs;have HVa:=Lib.hid hVa
              clear hIa hKs hVa hIz T1 T2 T3 hpx2
              go_wp2_with (at_builtin;go_must (refine app_trees rfl _ _ rfl _ _ wl.heap.size v ts rfl HIa.out.row g3 so3 (c3 - k) rfl HKs.out (Pr.refl _) (by omega) (by omega) ?_);intro v4 w8 ho8 hg8 hd8;obtain ⟨z1,z2⟩:=HIa.out.grownB hBl hg8;obtain ⟨o4,n4,c4,rfl⟩:=ho8.isSlice)
              go_meet
              case rel =>
              have hI4:=HIa.out.app hBl ho8 hg8 hd8
              have hV4:=HIa.out.other hg8 (.slice o4 n4 c4) HVa.out (by omega) hvn
              have hvn4:(Value.slice o4 n4 c4).ownBlock≠some V':=fun e=>by rcases hd8 V' e with e | e;exact hvn e;have:=blk_lt HVa.out;omega
              exact ⟨rfl,o4,n4,c4,ts ++ g3,g3,rfl,rfl,hI4,hV4,hvn4⟩
          case false =>
          rw [if_neg (by simp)] at hrt
          cases b3
          case true =>
            as_aux_lemma =>
              rw [if_pos rfl] at hrt
              subst hrt
              have hp:=Pr.refl wz
              go_upto_region 30 with (first
                | (go_at_call 28;(with_reducible refine Calls.mono (T1.out _ hp) ?_);rintro e w7 ⟨rfl,hb7⟩;have hp:=hp.trans hb7)
                | (go_at_call 28;(with_reducible refine Calls.mono (T2.out _ hp) ?_);rintro e w8 ⟨rfl,hb8⟩;have hp:=hp.trans hb8)
                | (go_at_call 28;(with_reducible refine Calls.mono (T3.out _ hp) ?_);rintro e w9 ⟨rfl,hb9⟩;have hp:=hp.trans hb9))
              have hIa:=hIz.pr hp
              have hpx2:=Hpx.out.trans (hz.trans hp)
              have hKs:=(HP2.out.pr (hz.trans hp)).mono (S':=fun k=>(k < M∨W.heap.size≤k)∧k≠Bo∧v.ownBlock≠some k) fun k' (h:k' < M) _=>⟨.inl h,by omega,fun e=>by have:=(hIa.row.block k' e).1;omega⟩
              have hVa:=(hz.trans hp).blk HV.out
              have hvn:v.ownBlock≠some V':=fun e=>by have:=(HI.out.row.block V' e).2;omega
              have q1:=blk_cell (o:=1) hIa.blk
              simp only [List.getElem?_toArray,List.getElem?_cons_zero,List.getElem?_cons_succ] at q1
              have hszg:=(Hok.out g2 rfl).1
              have hlg:(ts ++ g2).length≤3000:=Nat.le_trans (Tr.length_le _) hszg
              rw [List.length_append] at hlg
              have hsza:=hIa.chg.size
              have HIa:=Lib.hid hIa;have HKs:=Lib.hid hKs;have HVa:=Lib.hid hVa
              clear hIa hKs hVa hIz T1 T2 T3 hpx2
              go_wp2_with (at_builtin;go_must (refine app_trees rfl _ _ rfl _ _ wl.heap.size v ts rfl HIa.out.row g2 so2 (c2 - j) rfl HKs.out (Pr.refl _) (by omega) (by omega) ?_);intro v4 w8 ho8 hg8 hd8;obtain ⟨z1,z2⟩:=HIa.out.grownB hBl hg8;obtain ⟨o4,n4,c4,rfl⟩:=ho8.isSlice)
              go_meet
              case rel =>
              have hI4:=HIa.out.app hBl ho8 hg8 hd8
              have hV4:=HIa.out.other hg8 (.slice o4 n4 c4) HVa.out (by omega) hvn
              have hvn4:(Value.slice o4 n4 c4).ownBlock≠some V':=fun e=>by rcases hd8 V' e with e | e;exact hvn e;have:=blk_lt HVa.out;omega
              exact ⟨rfl,o4,n4,c4,ts ++ g2,g2,rfl,rfl,hI4,hV4,hvn4⟩
          case false =>
          rw [if_neg (by simp)] at hrt
          obtain ⟨ov,nv,cv,rfl⟩:=HI.out.row.isSlice
          have hlow:∀ k',k' < M→(k' < M∨W.heap.size≤k')∧k'≠Bo:=fun k' h=>⟨.inl h,by omega⟩
          have e1:decide ((g1.length:Int)=(g2.length:Int))=decide (g2.length=g1.length):=by rw [decide_eq_decide];omega
          by_cases hne:g2.length≠g1.length∨g3.length≠g1.length
          case pos =>
            as_aux_lemma =>
              rw [if_pos hne] at hrt
              have HRe:=Lib.hid (Herr.out [] hrt)
              have hp:=Pr.refl wz
              have hle:((g1.length:Int)==(g2.length:Int))=false∨(((g1.length:Int)==(g2.length:Int))=true∧((g1.length:Int)==(g3.length:Int))=false):=by
                by_cases h2:g1.length=g2.length
                · right;exact ⟨by rw [beq_iff_eq];omega,by rw [beq_eq_false_iff_ne];omega⟩
                · left;rw [beq_eq_false_iff_ne];omega
              clear e1 hne hrt
              rcases hle with hle | ⟨hle,hle2⟩
              all_goals
                go_upto_region 26 with (first
                | (go_at_call 28;(with_reducible refine Calls.mono (T1.out _ hp) ?_);rintro e w7 ⟨rfl,hb7⟩;have hp:=hp.trans hb7)
                | (go_at_call 28;(with_reducible refine Calls.mono (T2.out _ hp) ?_);rintro e w8 ⟨rfl,hb8⟩;have hp:=hp.trans hb8)
                | (go_at_call 28;(with_reducible refine Calls.mono (T3.out _ hp) ?_);rintro e w9 ⟨rfl,hb9⟩;have hp:=hp.trans hb9))
                have hIa:=hIz.pr hp
                have q0:=blk_cell (o:=0) hIa.blk;have q1:=blk_cell (o:=1) hIa.blk
                simp only [List.getElem?_toArray,List.getElem?_cons_zero,List.getElem?_cons_succ] at q0 q1
                have r0':=CE.out _ _ _ hIa _ (by have:=HWs.out;omega) 0 _ (r0 W (Pr.refl _));have r1':=CE.out _ _ _ hIa _ (by have:=HWs.out;omega) 1 _ (r1 W (Pr.refl _))
                have f0':=FZ.out _ _ _ hIa 0 F0.out;have f1':=FZ.out _ _ _ hIa 1 F1.out
                have HIa:=Lib.hid hIa
                clear hIa hIz T1 T2 T3
                go_wp2_with fail
                refine bodyPost_ret (v:=.tuple #[.agg #[.string l,.slice ov nv cv],.slice none 0 0,.bool false]) (by simp [results,Tryz.results27,go_sem,r0',r1']) rfl ?_
                rw [HXe.out,HYe.out,HHe.out,← HR.out,HRe.out]
                refine ⟨?_,l,_,_,_,none,0,rfl,Flat.nil _ _ _ _ (Nat.zero_le _)⟩
                have hpr:Pr w w9:=(HIa.out.chg).to_prM (HW.out.trans HXL.out) (fun k hk=>by have:=HWs.out;have h:k=Bo:=hk;omega)
                exact (hpr.setCell (by simp;omega) _).setCell (by simp;omega) _
          case neg =>
            rw [if_neg hne] at hrt
            have Hl2:=Lib.hid (show g2.length=g1.length by omega)
            have Hl3:=Lib.hid (show g3.length=g1.length by omega)
            have hle:((g1.length:Int)==(g2.length:Int))=true:=by rw [beq_iff_eq];omega
            have hle2:((g1.length:Int)==(g3.length:Int))=true:=by rw [beq_iff_eq];omega
            have hp:=Pr.refl wz
            clear e1 hne
            have hgl1:=Tr.length_le g1
            have Hrt:=Lib.hid hrt
            clear hrt
            go_upto_region 33 with (first
            | (go_at_call 28;(with_reducible refine Calls.mono (T1.out _ hp) ?_);rintro e w7 ⟨rfl,hb7⟩;have hp:=hp.trans hb7)
            | (go_at_call 28;(with_reducible refine Calls.mono (T2.out _ hp) ?_);rintro e w8 ⟨rfl,hb8⟩;have hp:=hp.trans hb8)
            | (go_at_call 28;(with_reducible refine Calls.mono (T3.out _ hp) ?_);rintro e w9 ⟨rfl,hb9⟩;have hp:=hp.trans hb9))
            have hIa:=hIz.pr hp
            have hUa:=(hz.trans hp).blk HU.out
            have hVa:=(hz.trans hp).blk HV.out
            have hvU:(Value.slice ov nv cv).ownBlock≠some U:=fun e=>by have:=(HI.out.row.block U e).2;omega
            have hvV:(Value.slice ov nv cv).ownBlock≠some V':=fun e=>by have:=(HI.out.row.block V' e).2;omega
            have KL:Hid (∀ wr v ts,MixInv wl Bo l M W.heap.size wr v ts→∀ ks oa c,Kids (fun k=>k < M) wx' ks oa c→Kids (fun k=>k < M) wr ks oa c):=Lib.hid fun wr v ts hI ks oa c hk=>hk.carry fun k (h:k < M) hlt=>by
              rw [hI.chg.block k (by omega) (by show ¬ k=Bo;omega),HI2.out.chg.block k (by omega) (by show ¬ k=Bo;omega)];exact ⟨rfl,h⟩
            have HIa:=Lib.hid hIa;have HUa:=Lib.hid hUa;have HVa:=Lib.hid hVa
            have hUl:wl.heap.size≤U:=by omega
            have hVl:wl.heap.size≤V':=by omega
            clear hIa hUa hVa hIz T1 T2 T3
            go_loopw [21] (fun v21 wr2=>∃ (kk:Nat) (o4:Option Addr) (n4 c4:Nat) (ds:List Tr),kk≤g1.length∧v21=.int .i64 kk∧MixInv wl Bo l M W.heap.size wr2 (.slice o4 n4 c4) (ts ++ ds) ∧
                (wr2.heap[U]? = some (.cells #[.int .i64 ((i:Int) - 1),.int .i64 ((j:Int) - 1),.int .i64 ((k:Int) - 1)] 94 (0,0))∧wr2.heap[V']? = some (.cells #[.int .i64 (n:Int),.int .i64 (p:Int),.int .i64 (q:Int)] 94 (0,0))) ∧
                ((Value.slice o4 n4 c4).ownBlock≠some U∧(Value.slice o4 n4 c4).ownBlock≠some V')∧ds.length=kk∧rt=exMap (fun rs=>ds ++ rs) (zipM (mixT N) (g1.drop kk) (g2.drop kk) (g3.drop kk) (i+kk))) (fun v21 _=>g1.length - (intOf v21).toNat)
            case atStart=>exact ⟨0,ov,nv,cv,[],by omega,rfl,by rw [List.append_nil];exact HIa.out,⟨HUa.out,HVa.out⟩,⟨hvU,hvV⟩,rfl,by rw [exMap_nil'];exact Hrt.out⟩
            case round =>
              obtain ⟨kk,o4,n4,c4,ds,hkk,rfl,hI4,⟨hU4,hV4⟩,⟨hnU,hnV⟩,hdl,hzr⟩:=hrel
              by_cases hlk:kk < g1.length
              case neg =>
                have hke:kk=g1.length:=by omega
                have hre:=zip_end hzr hke
                obtain ⟨t4,ht4⟩:∃ t4,t4=ts ++ ds:=⟨_,rfl⟩
                rw [← ht4] at hI4
                have HI4:=Lib.hid hI4;have HV4:=Lib.hid hV4;have Hre:=Lib.hid hre;have Ht4:=Lib.hid ht4
                clear hI4 hU4 hV4 hzr hre ht4
                go_wp2_with fail
                go_meet
                case rel=>exact ⟨rfl,o4,n4,c4,t4,ds,Hre.out,Ht4.out,HI4.out,HV4.out,hnV⟩
              case pos =>
                have hk2:kk < g2.length:=by have:=Hl2.out;omega
                have hk3:kk < g3.length:=by have:=Hl3.out;omega
                have hP1:=KL.out _ _ _ hI4 _ _ _ HP1.out;have hP2:=KL.out _ _ _ hI4 _ _ _ HP2.out;have hP3:=KL.out _ _ _ hI4 _ _ _ HP3.out
                obtain ⟨ba,oa,la,ka,aa,ca,ea,hla,rfl,a0,a1,hka⟩:=hP1.get kk hlk
                obtain ⟨bb,ob,lb,kb,ab,cb,eb,hlb,rfl,b0,b1,hkb⟩:=hP2.get kk hk2
                obtain ⟨bc,oc,lc',kc,ac,cc,ec,hlc,rfl,d0,d1,hkc⟩:=hP3.get kk hk3
                have za:=Tr.szL_get g1 kk hlk;have zb:=Tr.szL_get g2 kk hk2;have zc:=Tr.szL_get g3 kk hk3
                rw [ea,Tr.sz_node] at za;rw [eb,Tr.sz_node] at zb;rw [ec,Tr.sz_node] at zc
                have hw4:=hI4.chg.size
                have hkaz:Tr.szL ka+1≤1000:=by omega
                have MX:=Lib.hid fun W' (h:Pr wr W')=>IH la lb lc' ka kb kc aa ab ac ca cb cc M W' (by omega) (by omega) (by omega) (by omega) hla hlb hlc (by have:=h.size;omega) (hka.pr h) (hkb.pr h) (hkc.pr h)
                have A0:=stays a0;have A1:=stays a1;have B0:=stays b0;have B1:=stays b1;have D0:=stays d0;have D1:=stays d1
                have y1:(kk:Int) < (g1.length:Int):=by omega
                have y2:(kk:Int) < (g2.length:Int):=by omega
                have y3:(kk:Int) < (g3.length:Int):=by omega
                have y0:(0:Int)≤(kk:Int):=by omega
                have HI4:=Lib.hid hI4;have HU4:=Lib.hid hU4;have HV4:=Lib.hid hV4
                clear hI4 hU4 hV4 hP1 hP2 hP3 a0 a1 b0 b1 d0 d1 hka hkb hkc za zb zc
                cases hx:mixT N (.node la ka) (.node lb kb) (.node lc' kc) with
                | error pe =>
                  have hple:pe.length≤1000:=by
                    obtain ⟨u9,hu9⟩:=mixT_path N _ _ _ _ hx
                    have:=at_len hu9
                    rw [Tr.sz_node] at this;omega
                  have hre:=zip_err hzr hlk hk2 hk3 (by rw [ea,eb,ec];exact hx)
                  have HRe:=Lib.hid (Herr.out _ hre)
                  rw [hx] at MX
                  clear hzr hre hx ea eb ec
                  go_upto_region 35 with fail
                  go_cut [22,23,24] from 205 to 244 (fun v22 v23 v24 wx=>∃ T oq cq,v22=.pointer (some ⟨T,0,none⟩)∧v23=.slice oq pe.length cq∧v24=.bool false∧Ints (From wr.heap.size) wx pe oq cq∧Pr wr wx)
                  case first =>
                    as_aux_lemma =>
                      have hp:=Pr.refl wr
                      go_region_held3 (fun W'=>Pr wr W')
                        (first | with_reducible exact Pr.drew wr | with_reducible exact (Pr.alloc _ _).drew' | with_reducible exact hp | with_reducible exact hp.alloc' _ | with_reducible exact hp.drew' | exact (hp.setCell (Nat.le_refl _) _).setCell (Nat.le_refl _) _)
                        (first
                          | (go_at_call 27;(with_reducible refine Calls.mono (MX.out _ (Pr.drew wr)) ?_);rintro e w9 ⟨hb9,lt9,kv9,kn9,kc9,oq,cq,rfl,hiq⟩;have hp:=(Pr.drew wr).trans hb9)
                          | (go_at_call 27;(with_reducible refine Calls.mono (MX.out _ ((Pr.alloc _ _).drew')) ?_);rintro e w9 ⟨hb9,lt9,kv9,kn9,kc9,oq,cq,rfl,hiq⟩;have hp:=((Pr.alloc _ _).drew').trans hb9;have hz9:=hb9.blk ((Pr.drew _).blk (heap_alloc_new wr _));have z0:=blk_cell (o:=0) hz9;have z1:=blk_cell (o:=1) hz9;have z2:w9.frozen? ⟨wr.heap.size,0,none⟩=false:=blk_frozen hz9;have z3:w9.frozen? ⟨wr.heap.size,1,none⟩=false:=blk_frozen hz9;clear hz9))
                      all_goals
                        go_wp2_with fail
                        go_meet
                      case rel=>first
                        | exact ⟨_,_,_,rfl,rfl,rfl,Flat.pr (Pr.alloc _ _) (hiq.mono fun k' h _=>by simpa [From] using h),hp.alloc' _⟩
                        | exact ⟨_,_,_,rfl,rfl,rfl,((hiq.kept (kept_setCell _ _ _ _ (by show ¬ _;simp))).kept (kept_setCell _ _ _ _ (by show ¬ _;simp))).mono (fun k' h _=>by have h':wr.heap.size+1≤k':=(by simpa [From] using h);show wr.heap.size≤k';omega),(hp.setCell (Nat.le_refl _) _).setCell (Nat.le_refl _) _⟩
                      case rel=>first
                        | exact ⟨_,_,_,rfl,rfl,rfl,Flat.pr (Pr.alloc _ _) (hiq.mono fun k' h _=>by simpa [From] using h),hp.alloc' _⟩
                        | exact ⟨_,_,_,rfl,rfl,rfl,((hiq.kept (kept_setCell _ _ _ _ (by show ¬ _;simp))).kept (kept_setCell _ _ _ _ (by show ¬ _;simp))).mono (fun k' h _=>by have h':wr.heap.size+1≤k':=(by simpa [From] using h);show wr.heap.size≤k';omega),(hp.setCell (Nat.le_refl _) _).setCell (Nat.le_refl _) _⟩
                  case rest =>
                  as_aux_lemma =>
                    obtain ⟨T,oq,cq,rfl,rfl,rfl,hiq,hpx9⟩:=hcut
                    obtain ⟨wd,hwd⟩:∃ w',w'=wc:=⟨_,rfl⟩
                    subst hwd
                    have hI9:=HI4.out.pr hpx9
                    have hU9:=hpx9.blk HU4.out
                    have h3n:w.heap.size+1+1+1≠Bo:=by have:=HWs.out;omega
                    have h3U:w.heap.size+1+1+1≠U:=by have:=HWs.out;have:=HXL.out.size;omega
                    have XB0:=fun (W':World) (h:Chg (fun k=>k=w.heap.size+1+1+1) wd W')=>h.cell9 (blk_cell (o:=0) hI9.blk) (fun e=>h3n e.symm)
                    have XB1:=fun (W':World) (h:Chg (fun k=>k=w.heap.size+1+1+1) wd W')=>h.cell9 (blk_cell (o:=1) hI9.blk) (fun e=>h3n e.symm)
                    have XU:=fun (W':World) (h:Chg (fun k=>k=w.heap.size+1+1+1) wd W')=>h.cell9 (blk_cell (o:=0) hU9) (fun e=>h3U e.symm)
                    have T6:Hid (∀ W',Pr wd W'→W'.cell? ⟨w.heap.size+1+1+1,0,none⟩=some (.string ⟨#[]⟩)∧W'.cell? ⟨w.heap.size+1+1+1,1,none⟩=some (.slice none 0 0)∧W'.frozen? ⟨w.heap.size+1+1+1,0,none⟩=false∧W'.frozen? ⟨w.heap.size+1+1+1,1,none⟩=false):=Lib.hid fun W' h =>
                      ⟨CE.out _ _ _ (hI9.pr h) _ (by have:=HWs.out;omega) 0 _ (r0 W (Pr.refl _)),CE.out _ _ _ (hI9.pr h) _ (by have:=HWs.out;omega) 1 _ (r1 W (Pr.refl _)),FZ.out _ _ _ (hI9.pr h) 0 F0.out,FZ.out _ _ _ (hI9.pr h) 1 F1.out⟩
                    have q1a:IntKind.i64.wrap ((i:Int) - 1+1)=(i:Int):=by rw [Int.sub_add_cancel];exact IntWalk.i64_in _ (by omega)
                    have q1b:IntKind.i64.wrap (i:Int)=(i:Int):=IntWalk.i64_in _ (by omega)
                    have q2a:IntKind.i64.wrap ((i:Int)+(kk:Int))=(i:Int)+(kk:Int):=IntWalk.i64_in _ (by omega)
                    have HI9:=Lib.hid hI9;have Hiq:=Lib.hid hiq
                    clear hI9 hU9 hiq A0 A1 B0 B1 D0 D1 MX
                    go_upto_region 37 with fail
                    have hcD:Chg (fun k=>k=w.heap.size+1+1+1) wd wd.drew:=(Pr.drew wd).chg _
                    have hcE:Chg (fun k=>k=w.heap.size+1+1+1) wd (wd.drew.alloc (.cells #[.int .i64 ((i:Int)+(kk:Int))] 3)):=((Pr.drew wd).alloc' _).chg _
                    go_region_held3 (fun W'=>Chg (fun k=>k=w.heap.size+1+1+1) wd W')
                      (first | with_reducible exact hcD | with_reducible exact hcE | exact ((Pr.drew wd).alloc' _).chg _ | exact ((Pr.alloc wd _).drew').chg _ | (have hq8:=hp8.chg (fun k=>k=w.heap.size+1+1+1);first | exact hq8 | exact (hq8.setCell _ _ (.inl rfl)).setCell _ _ (.inl rfl)))
                      (first
                        | (refine step_intsM rfl _ _ rfl wd.drew.heap.size (.slice (some ⟨wd.drew.heap.size,0,none⟩) 1 1) [(i:Int)+(kk:Int)] rfl (OwnsIs.made wd.drew _) (From wr.heap.size) pe oq cq rfl (Flat.pr ((Pr.drew wd).alloc' _) Hiq.out) (by simp;omega) (by simp) ?_;intro v8 w8 ho8 hg8;obtain ⟨pp,hpp⟩:∃ pp,pp=[(i:Int)+(kk:Int)] ++ pe:=⟨_,rfl⟩;rw [← hpp] at ho8;obtain ⟨o8,c8,rfl,hi8⟩:=ho8.ints;have hp8:Pr wd w8:=Below.grown ((Pr.drew wd).alloc' _) hg8 (by simp) (fun k hk=>by cases hk;exact Nat.le_refl _);obtain ⟨s0,s1',s2',s3'⟩:=T6.out _ hp8;have Hpp:=Lib.hid hpp;have Hi8:=Lib.hid hi8;clear ho8 hg8 hpp hi8))
                    all_goals
                      go_wp2_with fail
                      refine bodyPost_ret (v:=.tuple #[.agg #[.string l,.slice o4 n4 c4],.slice o8 pp.length c8,.bool false]) (by simp [results,Tryz.results27,go_sem,s0,s1']) rfl ?_
                      rw [HXe.out,HYe.out,HHe.out,← HR.out,HRe.out]
                      have he:(((i+kk:Nat):Int) :: pe)=pp:=by rw [Hpp.out];simp
                      rw [he]
                      refine ⟨?_,l,_,_,_,o8,c8,rfl,?_⟩
                      · have hpr:Pr w wd:=(HI9.out.chg).to_prM (HW.out.trans HXL.out) (fun k hk=>by have:=HWs.out;have h:k=Bo:=hk;omega)
                        exact ((hpr.trans hp8).setCell (by simp;omega) _).setCell (by simp;omega) _
                      · refine ((Hi8.out.kept (kept_setCell _ _ _ _ ?_)).kept (kept_setCell _ _ _ _ ?_)).mono fun k' h _=>?_
                        · show ¬ _;have:=HWs.out;have:=HXL.out.size;have:=HI9.out.chg.size;simp;omega
                        · show ¬ _;have:=HWs.out;have:=HXL.out.size;have:=HI9.out.chg.size;simp;omega
                        · have h':wd.drew.heap.size≤k':=h;show w.heap.size≤k';have:=HWs.out;have:=HXL.out.size;have:=HI9.out.chg.size;simp at h';omega
                | ok te =>
                  obtain ⟨lt,kt⟩:=te
                  have hre:=zip_ok hzr hlk hk2 hk3 (by rw [ea,eb,ec];exact hx)
                  have Hre:=Lib.hid hre
                  rw [hx] at MX
                  clear hzr hre hx ea eb ec
                  go_upto_region 35 with fail
                  go_cut [22,23,24] from 205 to 244 (fun v22 v23 v24 wx=>∃ T oa' cap',v22=.pointer (some ⟨T,0,none⟩)∧v23=.slice none 0 0∧v24=.bool true∧wx.heap[T]? = some (.cells #[.string lt,.slice oa' kt.length cap'] 34 (0,0))∧lt.size≤maxLen∧Kids (fun k=>k < M∨wr.heap.size≤k) wx kt oa' cap'∧Pr wr wx)
                  case first =>
                    as_aux_lemma =>
                      have hp:=Pr.refl wr
                      go_region_held3 (fun W'=>Pr wr W')
                        (first | with_reducible exact Pr.drew wr | with_reducible exact (Pr.alloc _ _).drew' | with_reducible exact hp | with_reducible exact hp.alloc' _ | with_reducible exact hp.drew' | exact (hp.setCell (Nat.le_refl _) _).setCell (Nat.le_refl _) _)
                        (first
                          | (go_at_call 27;(with_reducible refine Calls.mono (MX.out _ (Pr.drew wr)) ?_);rintro e w9 ⟨hb9,lt9,kt9,ot,ct,ht9,hlt9,rfl,hkt⟩;have hp:=(Pr.drew wr).trans hb9)
                          | (go_at_call 27;(with_reducible refine Calls.mono (MX.out _ ((Pr.alloc _ _).drew')) ?_);rintro e w9 ⟨hb9,lt9,kt9,ot,ct,ht9,hlt9,rfl,hkt⟩;have hp:=((Pr.alloc _ _).drew').trans hb9;have hz9:=hb9.blk ((Pr.drew _).blk (heap_alloc_new wr _));have z0:=blk_cell (o:=0) hz9;have z1:=blk_cell (o:=1) hz9;have z2:w9.frozen? ⟨wr.heap.size,0,none⟩=false:=blk_frozen hz9;have z3:w9.frozen? ⟨wr.heap.size,1,none⟩=false:=blk_frozen hz9;have Hz9:=Lib.hid hz9;clear hz9))
                      all_goals
                        go_wp2_with fail
                        go_meet
                      all_goals cases ht9
                      case rel.refl=>first
                        | exact ⟨_,_,_,rfl,rfl,rfl,heap_alloc_new w9 _,hlt9,(hkt.mono (S':=fun k=>k < M∨wr.heap.size≤k) fun k' h _=>h.imp id (fun h=>by simpa using h)).pr (Pr.alloc _ _),hp.alloc' _⟩
                        | exact ⟨_,_,_,rfl,rfl,rfl,blk_set (o:=1) (blk_set (o:=0) Hz9.out _) _,hlt9,((hkt.setCell _ _ (by show ¬ _;simp;omega)).setCell _ _ (by show ¬ _;simp;omega)).mono (fun k' h _=>h.imp id (fun h=>by have h':wr.heap.size+1≤k':=(by simpa using h);omega)),(hp.setCell (Nat.le_refl _) _).setCell (Nat.le_refl _) _⟩
                      case rel.refl=>first
                        | exact ⟨_,_,_,rfl,rfl,rfl,heap_alloc_new w9 _,hlt9,(hkt.mono (S':=fun k=>k < M∨wr.heap.size≤k) fun k' h _=>h.imp id (fun h=>by simpa using h)).pr (Pr.alloc _ _),hp.alloc' _⟩
                        | exact ⟨_,_,_,rfl,rfl,rfl,blk_set (o:=1) (blk_set (o:=0) Hz9.out _) _,hlt9,((hkt.setCell _ _ (by show ¬ _;simp;omega)).setCell _ _ (by show ¬ _;simp;omega)).mono (fun k' h _=>h.imp id (fun h=>by have h':wr.heap.size+1≤k':=(by simpa using h);omega)),(hp.setCell (Nat.le_refl _) _).setCell (Nat.le_refl _) _⟩
                  case rest =>
                  obtain ⟨T,ot,ct,rfl,rfl,rfl,hT,hlt,hkt,hpx9⟩:=hcut
                  obtain ⟨wd,hwd⟩:∃ w',w'=wc:=⟨_,rfl⟩
                  subst hwd
                  have hI9:=HI4.out.pr hpx9
                  have hU9:=hpx9.blk HU4.out;have hV9:=hpx9.blk HV4.out
                  have t0:=blk_cell (o:=0) hT;have t1:=blk_cell (o:=1) hT
                  have q1:=blk_cell (o:=1) hI9.blk
                  simp only [List.getElem?_toArray,List.getElem?_cons_zero,List.getElem?_cons_succ] at t0 t1 q1
                  obtain ⟨t4,ht4⟩:∃ t4,t4=ts ++ ds:=⟨_,rfl⟩
                  rw [← ht4] at hI9
                  have htl:t4.length≤4000:=by
                    have h1:=Tr.length_le ts
                    have h2:=HD.out.sz
                    rw [ht4,List.length_append];omega
                  have hkS:Kids (fun k=>(k < M∨W.heap.size≤k)∧k≠Bo∧(Value.slice o4 n4 c4).ownBlock≠some k) wd kt ot ct:=hkt.mono fun k' h _=>by
                    rcases h with h | h
                    · exact ⟨.inl h,by omega,fun e=>by have:=(HI4.out.row.block k' e).1;omega⟩
                    · exact ⟨.inr (by have:=HXL.out.size;omega),by omega,fun e=>by have:=(HI4.out.row.block k' e).2;omega⟩
                  have HI9:=Lib.hid hI9;have HU9:=Lib.hid hU9;have HV9:=Lib.hid hV9;have HkS:=Lib.hid hkS;have Ht4:=Lib.hid ht4
                  have hwd:=hpx9.size
                  clear hI9 hU9 hV9 hkS hkt ht4 hT A0 A1 B0 B1 D0 D1 MX
                  go_wp2_with (at_builtin;go_must (refine app_treeM rfl _ _ rfl _ _ wl.heap.size (.slice o4 n4 c4) t4 rfl (HI9.out.pr (Pr.alloc _ _)).row wd.heap.size rfl (.node lt kt) _ _ (heap_alloc_new wd _) (treeV_mk ct hlt (HkS.out.pr (Pr.alloc _ _))) (by omega) (by simp;omega) ?_);intro g6 c6 w6 ho6 hg6 hat6;obtain ⟨z1,z2⟩:=(HI9.out.pr (Pr.alloc _ _)).grownB hBl hg6;have HI6:=Lib.hid ((HI9.out.pr (Pr.alloc _ _)).app hBl ho6 hg6 (fun k' hk'=>by cases hk';exact hat6));have HU6:=Lib.hid ((HI9.out.pr (Pr.alloc _ _)).other hg6 (.slice (some ⟨g6,0,none⟩) (t4.length+1) c6) ((Pr.alloc _ _).blk HU9.out) (by omega) hnU);have HV6:=Lib.hid ((HI9.out.pr (Pr.alloc _ _)).other hg6 (.slice (some ⟨g6,0,none⟩) (t4.length+1) c6) ((Pr.alloc _ _).blk HV9.out) (by omega) hnV))
                  have hat7:(Value.slice o4 n4 c4).ownBlock=some g6∨wd.heap.size≤g6:=hat6.imp id (fun h=>by rw [h];simp)
                  have hnU6:(Value.slice (some ⟨g6,0,none⟩) (t4.length+1) c6).ownBlock≠some U:=fun e=>by
                    have e':g6=U:=by cases e;rfl
                    rcases hat7 with h | h
                    · rw [e'] at h;exact hnU h
                    · have:=blk_lt HU9.out;omega
                  have hnV6:(Value.slice (some ⟨g6,0,none⟩) (t4.length+1) c6).ownBlock≠some V':=fun e=>by
                    have e':g6=V':=by cases e;rfl
                    rcases hat7 with h | h
                    · rw [e'] at h;exact hnV h
                    · have:=blk_lt HV9.out;omega
                  refine ⟨⟨kk+1,_,_,_,ds ++ [.node lt kt],by omega,by go_num,?_,⟨HU6.out,HV6.out⟩,⟨hnU6,hnV6⟩,by simp [hdl],Hre.out⟩,?_⟩
                  · rw [← List.append_assoc,← Ht4.out];exact HI6.out
                  · simp [intOf];omega
end
end Go.Proofs.YtdbnfhpgmcjngacGreat
