/- Walks: pleachingref.mixed, where it ends early. -/
import Derived.Test.YtdbnfhpgmcjngacGreatBja
import Derived.Test.YtdbnfhpgmcjngacGreatBpl
namespace Go.Proofs.YtdbnfhpgmcjngacGreat
open Go Go.RowKit
section
variable {M:Nat} {w:World} {l1 l2 l3:ByteArray} {k1 k2 k3:List Tr} {o1 o2 o3:Option Addr} {c1 c2 c3:Nat}
set_option maxRecDepth 100000 in
set_option maxHeartbeats 3200000 in
theorem rmixed_a (_:l1.size≤maxLen) (hl2:l2.size≤maxLen) (_:l3.size≤maxLen) (hM:M≤w.heap.size) (hk1:Kids (fun k=>k < M) w k1 o1 c1) (hk2:Kids (fun k=>k < M) w k2 o2 c2) (hk3:Kids (fun k=>k < M) w k3 o3 c3) (h:((Tr.node l2 k2).beq (.node l3 k3) || (Tr.node l3 k3).beq (.node l1 k1))=true) :
    Calls Tryz.prog 27 #[.agg #[.string l1,.slice o1 k1.length c1],.agg #[.string l2,.slice o2 k2.length c2],.agg #[.string l3,.slice o3 k3.length c3]] w (MixedPost M (.ok (.node l2 k2)) w):=by
  obtain ⟨W,hW⟩:∃ W,W=(((w.alloc (.cells #[.string l1,.slice o1 k1.length c1] 34)).alloc (.cells #[.string l2,.slice o2 k2.length c2] 34)).alloc (.cells #[.string l3,.slice o3 k3.length c3] 34)).alloc (.cells #[.string ⟨#[]⟩,.slice none 0 0] 34):=⟨_,rfl⟩
  have hwW:Pr w W:=by rw [hW];exact (((Pr.alloc _ _).alloc' _).alloc' _).alloc' _
  have hWs:W.heap.size=w.heap.size+4:=by rw [hW];simp
  have x0:=stays (show W.cell? ⟨w.heap.size,0,none⟩=some (.string l1) by rw [hW];simp [go_sem])
  have x1:=stays (show W.cell? ⟨w.heap.size,1,none⟩=some (.slice o1 k1.length c1) by rw [hW];simp [go_sem])
  have y0:=stays (show W.cell? ⟨w.heap.size+1,0,none⟩=some (.string l2) by rw [hW];simp [go_sem])
  have y1:=stays (show W.cell? ⟨w.heap.size+1,1,none⟩=some (.slice o2 k2.length c2) by rw [hW];simp [go_sem])
  have z0:=stays (show W.cell? ⟨w.heap.size+1+1,0,none⟩=some (.string l3) by rw [hW];simp [go_sem])
  have z1:=stays (show W.cell? ⟨w.heap.size+1+1,1,none⟩=some (.slice o3 k3.length c3) by rw [hW];simp [go_sem])
  have r0:=stays (show W.cell? ⟨w.heap.size+1+1+1,0,none⟩=some (.string ⟨#[]⟩) by rw [hW];simp [go_sem])
  have r1:=stays (show W.cell? ⟨w.heap.size+1+1+1,1,none⟩=some (.slice none 0 0) by rw [hW];simp [go_sem])
  have f0:W.frozen? ⟨w.heap.size+1+1+1,0,none⟩=false:=by rw [hW];simp [go_sem]
  have f1:W.frozen? ⟨w.heap.size+1+1+1,1,none⟩=false:=by rw [hW];simp [go_sem]
  have hk1:=hk1.pr hwW;have hk2:=hk2.pr hwW;have hk3:=hk3.pr hwW
  have S1:=Lib.hid (fun W' (h:Pr W W')=>sameTree_any l2 l3 k2 k3 o2 c2 o3 c3 W' (hk2.pr h).any (hk3.pr h).any)
  have S2:=Lib.hid (fun W' (h:Pr W W')=>sameTree_any l3 l1 k3 k1 o3 c3 o1 c1 W' (hk3.pr h).any (hk1.pr h).any)
  have S3:=Lib.hid (fun W' (h:Pr W W')=>sameTree_any l2 l1 k2 k1 o2 c2 o1 c1 W' (hk2.pr h).any (hk1.pr h).any)
  have hkk:Hid (Kids (fun k=>k < M) W k2 o2 c2):=Lib.hid hk2
  generalize (Tr.node l2 k2).beq (.node l3 k3)=t1 at *
  generalize (Tr.node l3 k3).beq (.node l1 k1)=t2 at *
  generalize (Tr.node l2 k2).beq (.node l1 k1)=t3 at *
  have main:t1=true∨(t1=false∧t2=true):=by cases t1 <;> cases t2 <;> simp at h ⊢
  have HW:=Lib.hid hwW;have HWs:=Lib.hid hWs;have F0:=Lib.hid f0;have F1:=Lib.hid f1;have HM:=Lib.hid hM
  clear h  hk1 hk2 hk3 hwW hWs f0 f1 hM
  go_enter Tryz.func27,Tryz.ntmps27
  go_upto_region 1 with fail
  rw [← hW]
  clear hW
  have hp:=Pr.refl W
  have x0':=x0 _ hp;have x1':=x1 _ hp;have y0':=y0 _ hp;have y1':=y1 _ hp;have z0':=z0 _ hp;have z1':=z1 _ hp;have r0':=r0 _ hp;have r1':=r1 _ hp
  have f0':W.frozen? ⟨w.heap.size+1+1+1,0,none⟩=false:=(by rw [hp.frozen (by have:=HWs.out;omega)];exact F0.out);have f1':W.frozen? ⟨w.heap.size+1+1+1,1,none⟩=false:=(by rw [hp.frozen (by have:=HWs.out;omega)];exact F1.out)
  rcases main with rfl | ⟨rfl,rfl⟩
  all_goals
    go_wp2_with (first
      | (go_at_call 11;(with_reducible refine Calls.mono (S1.out _ hp) ?_);rintro e w1 ⟨rfl,hb⟩;have hp:=hp.trans hb;have x0':=x0 _ hp;have x1':=x1 _ hp;have y0':=y0 _ hp;have y1':=y1 _ hp;have z0':=z0 _ hp;have z1':=z1 _ hp;have r0':=r0 _ hp;have r1':=r1 _ hp;have f0':w1.frozen? ⟨w.heap.size+1+1+1,0,none⟩=false:=(by rw [hp.frozen (by have:=HWs.out;omega)];exact F0.out);have f1':w1.frozen? ⟨w.heap.size+1+1+1,1,none⟩=false:=(by rw [hp.frozen (by have:=HWs.out;omega)];exact F1.out))
      | (go_at_call 11;(with_reducible refine Calls.mono (S2.out _ hp) ?_);rintro e w2 ⟨rfl,hb⟩;have hp:=hp.trans hb;have x0':=x0 _ hp;have x1':=x1 _ hp;have y0':=y0 _ hp;have y1':=y1 _ hp;have z0':=z0 _ hp;have z1':=z1 _ hp;have r0':=r0 _ hp;have r1':=r1 _ hp;have f0':w2.frozen? ⟨w.heap.size+1+1+1,0,none⟩=false:=(by rw [hp.frozen (by have:=HWs.out;omega)];exact F0.out);have f1':w2.frozen? ⟨w.heap.size+1+1+1,1,none⟩=false:=(by rw [hp.frozen (by have:=HWs.out;omega)];exact F1.out))
      | (go_at_call 11;(with_reducible refine Calls.mono (S3.out _ hp) ?_);rintro e w3 ⟨rfl,hb⟩;have hp:=hp.trans hb;have x0':=x0 _ hp;have x1':=x1 _ hp;have y0':=y0 _ hp;have y1':=y1 _ hp;have z0':=z0 _ hp;have z1':=z1 _ hp;have r0':=r0 _ hp;have r1':=r1 _ hp;have f0':w3.frozen? ⟨w.heap.size+1+1+1,0,none⟩=false:=(by rw [hp.frozen (by have:=HWs.out;omega)];exact F0.out);have f1':w3.frozen? ⟨w.heap.size+1+1+1,1,none⟩=false:=(by rw [hp.frozen (by have:=HWs.out;omega)];exact F1.out)))
    refine bodyPost_ret (v:=.tuple #[.agg #[.string l2,.slice o2 k2.length c2],.slice none 0 0,.bool true]) (by simp [results,Tryz.results27,go_sem,r0',r1']) rfl ⟨((HW.out.trans hp).setCell (by simp;omega) _).setCell (by simp;omega) _,l2,k2,o2,c2,rfl,hl2,rfl,?_⟩
    exact (((hkk.out.pr hp).setCell _ _ (by have:=HM.out;simp;omega)).setCell _ _ (by have:=HM.out;simp;omega)).mono fun k hk _=>.inl hk
set_option maxRecDepth 100000 in
set_option maxHeartbeats 3200000 in
theorem rmixed_b (_:l1.size≤maxLen) (_:l2.size≤maxLen) (hl3:l3.size≤maxLen) (hM:M≤w.heap.size) (hk1:Kids (fun k=>k < M) w k1 o1 c1) (hk2:Kids (fun k=>k < M) w k2 o2 c2) (hk3:Kids (fun k=>k < M) w k3 o3 c3) (h:¬ ((Tr.node l2 k2).beq (.node l3 k3) || (Tr.node l3 k3).beq (.node l1 k1))=true) (h1:(Tr.node l2 k2).beq (.node l1 k1)=true) :
    Calls Tryz.prog 27 #[.agg #[.string l1,.slice o1 k1.length c1],.agg #[.string l2,.slice o2 k2.length c2],.agg #[.string l3,.slice o3 k3.length c3]] w (MixedPost M (.ok (.node l3 k3)) w):=by
  obtain ⟨W,hW⟩:∃ W,W=(((w.alloc (.cells #[.string l1,.slice o1 k1.length c1] 34)).alloc (.cells #[.string l2,.slice o2 k2.length c2] 34)).alloc (.cells #[.string l3,.slice o3 k3.length c3] 34)).alloc (.cells #[.string ⟨#[]⟩,.slice none 0 0] 34):=⟨_,rfl⟩
  have hwW:Pr w W:=by rw [hW];exact (((Pr.alloc _ _).alloc' _).alloc' _).alloc' _
  have hWs:W.heap.size=w.heap.size+4:=by rw [hW];simp
  have x0:=stays (show W.cell? ⟨w.heap.size,0,none⟩=some (.string l1) by rw [hW];simp [go_sem])
  have x1:=stays (show W.cell? ⟨w.heap.size,1,none⟩=some (.slice o1 k1.length c1) by rw [hW];simp [go_sem])
  have y0:=stays (show W.cell? ⟨w.heap.size+1,0,none⟩=some (.string l2) by rw [hW];simp [go_sem])
  have y1:=stays (show W.cell? ⟨w.heap.size+1,1,none⟩=some (.slice o2 k2.length c2) by rw [hW];simp [go_sem])
  have z0:=stays (show W.cell? ⟨w.heap.size+1+1,0,none⟩=some (.string l3) by rw [hW];simp [go_sem])
  have z1:=stays (show W.cell? ⟨w.heap.size+1+1,1,none⟩=some (.slice o3 k3.length c3) by rw [hW];simp [go_sem])
  have r0:=stays (show W.cell? ⟨w.heap.size+1+1+1,0,none⟩=some (.string ⟨#[]⟩) by rw [hW];simp [go_sem])
  have r1:=stays (show W.cell? ⟨w.heap.size+1+1+1,1,none⟩=some (.slice none 0 0) by rw [hW];simp [go_sem])
  have f0:W.frozen? ⟨w.heap.size+1+1+1,0,none⟩=false:=by rw [hW];simp [go_sem]
  have f1:W.frozen? ⟨w.heap.size+1+1+1,1,none⟩=false:=by rw [hW];simp [go_sem]
  have hk1:=hk1.pr hwW;have hk2:=hk2.pr hwW;have hk3:=hk3.pr hwW
  have S1:=Lib.hid (fun W' (h:Pr W W')=>sameTree_any l2 l3 k2 k3 o2 c2 o3 c3 W' (hk2.pr h).any (hk3.pr h).any)
  have S2:=Lib.hid (fun W' (h:Pr W W')=>sameTree_any l3 l1 k3 k1 o3 c3 o1 c1 W' (hk3.pr h).any (hk1.pr h).any)
  have S3:=Lib.hid (fun W' (h:Pr W W')=>sameTree_any l2 l1 k2 k1 o2 c2 o1 c1 W' (hk2.pr h).any (hk1.pr h).any)
  have hkk:Hid (Kids (fun k=>k < M) W k3 o3 c3):=Lib.hid hk3
  generalize (Tr.node l2 k2).beq (.node l3 k3)=t1 at *
  generalize (Tr.node l3 k3).beq (.node l1 k1)=t2 at *
  generalize (Tr.node l2 k2).beq (.node l1 k1)=t3 at *
  have main:t1=false∧t2=false∧t3=true:=by cases t1 <;> cases t2 <;> simp at h h1 ⊢ <;> exact h1
  have HW:=Lib.hid hwW;have HWs:=Lib.hid hWs;have F0:=Lib.hid f0;have F1:=Lib.hid f1;have HM:=Lib.hid hM
  clear h h1 hk1 hk2 hk3 hwW hWs f0 f1 hM
  go_enter Tryz.func27,Tryz.ntmps27
  go_upto_region 1 with fail
  rw [← hW]
  clear hW
  have hp:=Pr.refl W
  have x0':=x0 _ hp;have x1':=x1 _ hp;have y0':=y0 _ hp;have y1':=y1 _ hp;have z0':=z0 _ hp;have z1':=z1 _ hp;have r0':=r0 _ hp;have r1':=r1 _ hp
  have f0':W.frozen? ⟨w.heap.size+1+1+1,0,none⟩=false:=(by rw [hp.frozen (by have:=HWs.out;omega)];exact F0.out);have f1':W.frozen? ⟨w.heap.size+1+1+1,1,none⟩=false:=(by rw [hp.frozen (by have:=HWs.out;omega)];exact F1.out)
  rcases main with ⟨rfl,rfl,rfl⟩
  all_goals
    go_wp2_with (first
      | (go_at_call 11;(with_reducible refine Calls.mono (S1.out _ hp) ?_);rintro e w1 ⟨rfl,hb⟩;have hp:=hp.trans hb;have x0':=x0 _ hp;have x1':=x1 _ hp;have y0':=y0 _ hp;have y1':=y1 _ hp;have z0':=z0 _ hp;have z1':=z1 _ hp;have r0':=r0 _ hp;have r1':=r1 _ hp;have f0':w1.frozen? ⟨w.heap.size+1+1+1,0,none⟩=false:=(by rw [hp.frozen (by have:=HWs.out;omega)];exact F0.out);have f1':w1.frozen? ⟨w.heap.size+1+1+1,1,none⟩=false:=(by rw [hp.frozen (by have:=HWs.out;omega)];exact F1.out))
      | (go_at_call 11;(with_reducible refine Calls.mono (S2.out _ hp) ?_);rintro e w2 ⟨rfl,hb⟩;have hp:=hp.trans hb;have x0':=x0 _ hp;have x1':=x1 _ hp;have y0':=y0 _ hp;have y1':=y1 _ hp;have z0':=z0 _ hp;have z1':=z1 _ hp;have r0':=r0 _ hp;have r1':=r1 _ hp;have f0':w2.frozen? ⟨w.heap.size+1+1+1,0,none⟩=false:=(by rw [hp.frozen (by have:=HWs.out;omega)];exact F0.out);have f1':w2.frozen? ⟨w.heap.size+1+1+1,1,none⟩=false:=(by rw [hp.frozen (by have:=HWs.out;omega)];exact F1.out))
      | (go_at_call 11;(with_reducible refine Calls.mono (S3.out _ hp) ?_);rintro e w3 ⟨rfl,hb⟩;have hp:=hp.trans hb;have x0':=x0 _ hp;have x1':=x1 _ hp;have y0':=y0 _ hp;have y1':=y1 _ hp;have z0':=z0 _ hp;have z1':=z1 _ hp;have r0':=r0 _ hp;have r1':=r1 _ hp;have f0':w3.frozen? ⟨w.heap.size+1+1+1,0,none⟩=false:=(by rw [hp.frozen (by have:=HWs.out;omega)];exact F0.out);have f1':w3.frozen? ⟨w.heap.size+1+1+1,1,none⟩=false:=(by rw [hp.frozen (by have:=HWs.out;omega)];exact F1.out)))
    refine bodyPost_ret (v:=.tuple #[.agg #[.string l3,.slice o3 k3.length c3],.slice none 0 0,.bool true]) (by simp [results,Tryz.results27,go_sem,r0',r1']) rfl ⟨((HW.out.trans hp).setCell (by simp;omega) _).setCell (by simp;omega) _,l3,k3,o3,c3,rfl,hl3,rfl,?_⟩
    exact (((hkk.out.pr hp).setCell _ _ (by have:=HM.out;simp;omega)).setCell _ _ (by have:=HM.out;simp;omega)).mono fun k hk _=>.inl hk
set_option maxRecDepth 100000 in
set_option maxHeartbeats 3200000 in
theorem rmixed_c (_:l1.size≤maxLen) (_:l2.size≤maxLen) (_:l3.size≤maxLen) (_:M≤w.heap.size) (hk1:Kids (fun k=>k < M) w k1 o1 c1) (hk2:Kids (fun k=>k < M) w k2 o2 c2) (hk3:Kids (fun k=>k < M) w k3 o3 c3) (h:¬ ((Tr.node l2 k2).beq (.node l3 k3) || (Tr.node l3 k3).beq (.node l1 k1))=true) (h1:¬ (Tr.node l2 k2).beq (.node l1 k1)=true) (hm:mixL l1 l2 l3=none) :
    Calls Tryz.prog 27 #[.agg #[.string l1,.slice o1 k1.length c1],.agg #[.string l2,.slice o2 k2.length c2],.agg #[.string l3,.slice o3 k3.length c3]] w (MixedPost M (.error []) w):=by
  obtain ⟨W,hW⟩:∃ W,W=(((w.alloc (.cells #[.string l1,.slice o1 k1.length c1] 34)).alloc (.cells #[.string l2,.slice o2 k2.length c2] 34)).alloc (.cells #[.string l3,.slice o3 k3.length c3] 34)).alloc (.cells #[.string ⟨#[]⟩,.slice none 0 0] 34):=⟨_,rfl⟩
  have hwW:Pr w W:=by rw [hW];exact (((Pr.alloc _ _).alloc' _).alloc' _).alloc' _
  have hWs:W.heap.size=w.heap.size+4:=by rw [hW];simp
  have x0:=stays (show W.cell? ⟨w.heap.size,0,none⟩=some (.string l1) by rw [hW];simp [go_sem])
  have x1:=stays (show W.cell? ⟨w.heap.size,1,none⟩=some (.slice o1 k1.length c1) by rw [hW];simp [go_sem])
  have y0:=stays (show W.cell? ⟨w.heap.size+1,0,none⟩=some (.string l2) by rw [hW];simp [go_sem])
  have y1:=stays (show W.cell? ⟨w.heap.size+1,1,none⟩=some (.slice o2 k2.length c2) by rw [hW];simp [go_sem])
  have z0:=stays (show W.cell? ⟨w.heap.size+1+1,0,none⟩=some (.string l3) by rw [hW];simp [go_sem])
  have z1:=stays (show W.cell? ⟨w.heap.size+1+1,1,none⟩=some (.slice o3 k3.length c3) by rw [hW];simp [go_sem])
  have r0:=stays (show W.cell? ⟨w.heap.size+1+1+1,0,none⟩=some (.string ⟨#[]⟩) by rw [hW];simp [go_sem])
  have r1:=stays (show W.cell? ⟨w.heap.size+1+1+1,1,none⟩=some (.slice none 0 0) by rw [hW];simp [go_sem])
  have f0:W.frozen? ⟨w.heap.size+1+1+1,0,none⟩=false:=by rw [hW];simp [go_sem]
  have f1:W.frozen? ⟨w.heap.size+1+1+1,1,none⟩=false:=by rw [hW];simp [go_sem]
  have hk1:=hk1.pr hwW;have hk2:=hk2.pr hwW;have hk3:=hk3.pr hwW
  have S1:=Lib.hid (fun W' (h:Pr W W')=>sameTree_any l2 l3 k2 k3 o2 c2 o3 c3 W' (hk2.pr h).any (hk3.pr h).any)
  have S2:=Lib.hid (fun W' (h:Pr W W')=>sameTree_any l3 l1 k3 k1 o3 c3 o1 c1 W' (hk3.pr h).any (hk1.pr h).any)
  have S3:=Lib.hid (fun W' (h:Pr W W')=>sameTree_any l2 l1 k2 k1 o2 c2 o1 c1 W' (hk2.pr h).any (hk1.pr h).any)
  generalize (Tr.node l2 k2).beq (.node l3 k3)=t1 at *
  generalize (Tr.node l3 k3).beq (.node l1 k1)=t2 at *
  generalize (Tr.node l2 k2).beq (.node l1 k1)=t3 at *
  have main:t1=false∧t2=false∧t3=false:=by cases t1 <;> cases t2 <;> simp at h h1 ⊢ <;> exact h1
  obtain ⟨rfl,rfl,rfl⟩:=main
  have HW:=Lib.hid hwW;have HWs:=Lib.hid hWs;have F0:=Lib.hid f0;have F1:=Lib.hid f1
  have hl:l2≠l3∧l3≠l1∧l2≠l1:=by
    unfold mixL at hm
    split at hm
    · cases hm
    · rename_i hn
      split at hm
      · cases hm
      · rename_i hn2
        exact ⟨fun e=>hn (.inl e),fun e=>hn (.inr e),hn2⟩
  have e1:(l2.toList==l3.toList)=false:=by simpa using toList_ne hl.1
  have e2:(l3.toList==l1.toList)=false:=by simpa using toList_ne hl.2.1
  have e3:(l2.toList==l1.toList)=false:=by simpa using toList_ne hl.2.2
  clear h h1 hk1 hk2 hk3 hwW hWs f0 f1 hm hl
  go_enter Tryz.func27,Tryz.ntmps27
  go_upto_region 1 with fail
  rw [← hW]
  clear hW
  have hp:=Pr.refl W
  have x0':=x0 _ hp;have x1':=x1 _ hp;have y0':=y0 _ hp;have y1':=y1 _ hp;have z0':=z0 _ hp;have z1':=z1 _ hp;have r0':=r0 _ hp;have r1':=r1 _ hp
  have f0':W.frozen? ⟨w.heap.size+1+1+1,0,none⟩=false:=(by rw [hp.frozen (by have:=HWs.out;omega)];exact F0.out);have f1':W.frozen? ⟨w.heap.size+1+1+1,1,none⟩=false:=(by rw [hp.frozen (by have:=HWs.out;omega)];exact F1.out)
  go_upto_region 6 with (first
      | (go_at_call 11;(with_reducible refine Calls.mono (S1.out _ hp) ?_);rintro e w1 ⟨rfl,hb⟩;have hp:=hp.trans hb;have x0':=x0 _ hp;have x1':=x1 _ hp;have y0':=y0 _ hp;have y1':=y1 _ hp;have z0':=z0 _ hp;have z1':=z1 _ hp;have r0':=r0 _ hp;have r1':=r1 _ hp;have f0':w1.frozen? ⟨w.heap.size+1+1+1,0,none⟩=false:=(by rw [hp.frozen (by have:=HWs.out;omega)];exact F0.out);have f1':w1.frozen? ⟨w.heap.size+1+1+1,1,none⟩=false:=(by rw [hp.frozen (by have:=HWs.out;omega)];exact F1.out))
      | (go_at_call 11;(with_reducible refine Calls.mono (S2.out _ hp) ?_);rintro e w2 ⟨rfl,hb⟩;have hp:=hp.trans hb;have x0':=x0 _ hp;have x1':=x1 _ hp;have y0':=y0 _ hp;have y1':=y1 _ hp;have z0':=z0 _ hp;have z1':=z1 _ hp;have r0':=r0 _ hp;have r1':=r1 _ hp;have f0':w2.frozen? ⟨w.heap.size+1+1+1,0,none⟩=false:=(by rw [hp.frozen (by have:=HWs.out;omega)];exact F0.out);have f1':w2.frozen? ⟨w.heap.size+1+1+1,1,none⟩=false:=(by rw [hp.frozen (by have:=HWs.out;omega)];exact F1.out))
      | (go_at_call 11;(with_reducible refine Calls.mono (S3.out _ hp) ?_);rintro e w3 ⟨rfl,hb⟩;have hp:=hp.trans hb;have x0':=x0 _ hp;have x1':=x1 _ hp;have y0':=y0 _ hp;have y1':=y1 _ hp;have z0':=z0 _ hp;have z1':=z1 _ hp;have r0':=r0 _ hp;have r1':=r1 _ hp;have f0':w3.frozen? ⟨w.heap.size+1+1+1,0,none⟩=false:=(by rw [hp.frozen (by have:=HWs.out;omega)];exact F0.out);have f1':w3.frozen? ⟨w.heap.size+1+1+1,1,none⟩=false:=(by rw [hp.frozen (by have:=HWs.out;omega)];exact F1.out)))
  obtain ⟨V,hV⟩:∃ V,V=w3.alloc (.cells #[.string l2,.slice none 0 0] 34):=⟨_,rfl⟩
  have hpV:Pr W V:=by rw [hV];exact hp.alloc' _
  have bV:V.heap[w3.heap.size]? = some (.cells #[.string l2,.slice none 0 0] 34 (0,0)):=by rw [hV];exact heap_alloc_new _ _
  rw [← hV]
  have hsV:V.heap.size=w3.heap.size+1:=by rw [hV];simp
  clear hV
  have o0:=blk_cell (o:=0) bV;have o1':=blk_cell (o:=1) bV
  have fo:=blk_frozen (o:=0) bV
  simp only [List.getElem?_toArray,List.getElem?_cons_zero,List.getElem?_cons_succ] at o0 o1'
  have x0':=x0 _ hpV;have y0':=y0 _ hpV;have z0':=z0 _ hpV;have r0':=r0 _ hpV;have r1':=r1 _ hpV
  have f0':V.frozen? ⟨w.heap.size+1+1+1,0,none⟩=false:=(by rw [hpV.frozen (by have:=HWs.out;omega)];exact F0.out);have f1':V.frozen? ⟨w.heap.size+1+1+1,1,none⟩=false:=(by rw [hpV.frozen (by have:=HWs.out;omega)];exact F1.out)
  go_wp2_with fail
  refine bodyPost_ret (v:=.tuple #[.agg #[.string l2,.slice none 0 0],.slice none 0 0,.bool false]) (by simp [results,Tryz.results27,go_sem,r0',r1']) rfl ⟨?_,l2,_,_,_,none,0,rfl,Flat.nil _ _ _ _ (Nat.zero_le _)⟩
  exact ((HW.out.trans hpV).setCell (by simp;omega) _).setCell (by simp;omega) _
end
end Go.Proofs.YtdbnfhpgmcjngacGreat
/- The document's mixing of lists, part by part; its list in memory. -/
namespace Go.Proofs.YtdbnfhpgmcjngacGreat
open Go Go.RowKit
theorem at_len0 {p:List Int} {t u:Tr} (h:t.at? p=some u):p.length+u.sz≤t.sz:=by
  induction p generalizing t with
  | nil=>cases h;simp
  | cons k p ih =>
    simp only [Tr.at?] at h
    cases hk:t.kid? k with
    | none=>rw [hk] at h;cases h
    | some v=>rw [hk] at h;have:=ih h;have:=Tr.kid?_sz hk;simp only [List.length_cons];omega
theorem at_len {p:List Int} {t u:Tr} (h:t.at? p=some u):p.length≤t.sz:=by have:=at_len0 h;omega
def docT (o a b:List Tr) (H:List (Nat × Nat × Nat)):List T3:=((-1,-1,-1) :: tz H) ++ [((o.length:Int),(a.length:Int),(b.length:Int))]
theorem docT_length (o a b:List Tr) (H:List (Nat × Nat × Nat)):(docT o a b H).length=H.length+2:=by simp [docT,tz_length]
theorem docT_zero (o a b:List Tr) (H:List (Nat × Nat × Nat)):(docT o a b H)[0]? = some (-1,-1,-1):=by simp [docT]
theorem docT_in (o a b:List Tr) (H:List (Nat × Nat × Nat)) (m:Nat) (h:m < H.length):(docT o a b H)[m+1]? = some ((H[m].1:Int),(H[m].2.1:Int),(H[m].2.2:Int)):=by
  unfold docT
  rw [List.cons_append,List.getElem?_cons_succ,List.getElem?_append_left (by rw [tz_length];exact h)]
  simp [tz,h]
theorem docT_last (o a b:List Tr) (H:List (Nat × Nat × Nat)):(docT o a b H)[H.length+1]? = some ((o.length:Int),(a.length:Int),(b.length:Int)):=by
  unfold docT
  rw [List.cons_append,List.getElem?_cons_succ,List.getElem?_append_right (by rw [tz_length];exact Nat.le_refl _),tz_length]
  simp
theorem exMap_nil' (x:Ex (List Tr)):exMap (fun rs=>[] ++ rs) x=x:=by cases x <;> rfl
structure DocRel (f:Tr→Tr→Tr→Ex Tr) (o a b:List Tr) (H:List (Nat × Nat × Nat)) (r:Ex (List Tr)) (m i j k:Nat) (ts:List Tr):Prop where
  few:m≤H.length
  ok:HeldOk o a b i j k (H.drop m)
  at':(docT o a b H)[m]? = some ((i:Int) - 1,(j:Int) - 1,(k:Int) - 1)
  io:i≤o.length
  ja:j≤a.length
  kb:k≤b.length
  sz:Tr.szL ts+Tr.szL (o.drop i)+Tr.szL (a.drop j)+Tr.szL (b.drop k)≤3000
  res:r=exMap (fun rs=>ts ++ rs) (segM f o a b (H.drop m) i j k)
section
variable {f:Tr→Tr→Tr→Ex Tr} {o a b:List Tr} {H:List (Nat × Nat × Nat)} {r:Ex (List Tr)} {m i j k:Nat} {ts:List Tr}
theorem DocRel.start (hH:HeldOk o a b 0 0 0 H) (hs:Tr.szL o+Tr.szL a+Tr.szL b≤3000):DocRel f o a b H (segM f o a b H 0 0 0) 0 0 0 0 [] :=
  ⟨Nat.zero_le _,hH,docT_zero o a b H,Nat.zero_le _,Nat.zero_le _,Nat.zero_le _,by simp [Tr.szL];omega,by rw [exMap_nil'];rfl⟩
theorem DocRel.step (h:DocRel f o a b H r m i j k ts) (hf:∀ o a b t,f o a b=.ok t→t.sz≤o.sz+a.sz+b.sz):∃ n p q:Nat,(docT o a b H)[m+1]? = some ((n:Int),(p:Int),(q:Int)) ∧
    (i≤n∧n≤o.length∧j≤p∧p≤a.length∧k≤q∧q≤b.length) ∧
    (∀ e,partM f ((o.drop i).take (n - i)) ((a.drop j).take (p - j)) ((b.drop k).take (q - k)) i=.error e→r=.error e) ∧
    ∀ s,partM f ((o.drop i).take (n - i)) ((a.drop j).take (p - j)) ((b.drop k).take (q - k)) i=.ok s→Tr.szL (ts ++ s)≤3000 ∧
      (m < H.length→n < o.length∧Tr.szL (ts ++ s ++ [kidN o n])≤3000∧DocRel f o a b H r (m+1) (n+1) (p+1) (q+1) (ts ++ s ++ [kidN o n]))∧(m=H.length→r=.ok (ts ++ s)):=by
  obtain ⟨h1,h2,h3,h4,h5,h6,h7,h8⟩:=h
  by_cases hm:m < H.length
  · have hd:=List.drop_eq_getElem_cons hm
    obtain ⟨g,hg⟩:∃ g,H[m]=g:=⟨_,rfl⟩
    obtain ⟨n,p,q⟩:=g
    rw [hg] at hd
    rw [hd] at h2 h8
    have hmem:=h2.2 (n,p,q) (by simp)
    simp only [] at hmem
    refine ⟨n,p,q,?_,⟨hmem.1.1,by omega,hmem.2.1.1,by omega,hmem.2.2.1,by omega⟩,fun e he=>?_,fun s hs=>?_⟩
    · rw [docT_in o a b H m hm,hg]
    · rw [h8,segM];simp only [he];rfl
    · have z:=partM_sz hf _ _ _ _ _ hs
      have z1:=szL_seg o hmem.1.1 hmem.1.2
      have z2:=szL_seg a hmem.2.1.1 hmem.2.1.2
      have z3:=szL_seg b hmem.2.2.1 hmem.2.2.2
      have hsz:Tr.szL (ts ++ s ++ [kidN o n])≤3000:=by
        rw [Tr.szL_append,Tr.szL_append];simp only [Tr.szL];omega
      refine ⟨by rw [Tr.szL_append];omega,fun _=>⟨hmem.1.2,hsz,⟨hm,h2.tail,?_,hmem.1.2,hmem.2.1.2,hmem.2.2.2,?_,?_⟩⟩,fun e=>by omega⟩
      · rw [docT_in o a b H m hm,hg];simp
      · rw [Tr.szL_append,Tr.szL_append]
        simp only [Tr.szL];omega
      · rw [h8,segM]
        simp only [hs]
        cases segM f o a b (H.drop (m+1)) (n+1) (p+1) (q+1) with
        | error e=>rfl
        | ok rs=>simp [exMap]
  · have hme:m=H.length:=by omega
    have e:H.drop m=[]:=by rw [hme,List.drop_length]
    rw [e,segM] at h8
    have t1:(o.drop i).take (o.length - i)=o.drop i:=by rw [List.take_of_length_le];rw [List.length_drop];omega
    have t2:(a.drop j).take (a.length - j)=a.drop j:=by rw [List.take_of_length_le];rw [List.length_drop];omega
    have t3:(b.drop k).take (b.length - k)=b.drop k:=by rw [List.take_of_length_le];rw [List.length_drop];omega
    refine ⟨o.length,a.length,b.length,by rw [hme];exact docT_last o a b H,⟨h4,Nat.le_refl _,h5,Nat.le_refl _,h6,Nat.le_refl _⟩,fun e he=>?_,fun s hs=>?_⟩
    · rw [t1,t2,t3] at he;rw [h8,he];rfl
    · rw [t1,t2,t3] at hs
      have z:=partM_sz hf _ _ _ _ _ hs
      exact ⟨by rw [Tr.szL_append];omega,fun h=>by omega,fun _=>by rw [h8,hs];rfl⟩
end
theorem two_new (w:World) (x y:Obj):((w.alloc x).alloc y).drew.heap[w.heap.size]? = some x∧((w.alloc x).alloc y).drew.heap[w.heap.size+1]? = some y∧Pr w ((w.alloc x).alloc y).drew:=by
  have h1:=heap_alloc_new w x
  have h2:=heap_alloc_new (w.alloc x) y
  have hs:(w.alloc x).heap.size=w.heap.size+1:=by simp
  rw [hs] at h2
  exact ⟨(Pr.drew _).blk ((Pr.alloc _ _).blk h1),(Pr.drew _).blk h2,((Pr.alloc _ _).alloc' _).drew'⟩
structure MixInv (wl:World) (Bo:Nat) (l:ByteArray) (M base:Nat) (wr:World) (v:Value) (ts:List Tr):Prop where
  chg:Chg (fun k=>k=Bo) wl wr
  blk:wr.heap[Bo]? = some (.cells #[.string l,v] 34 (0,0))
  row:OwnsX (fun k=>(k < M∨base≤k)∧k≠Bo∧v.ownBlock≠some k) wr wl.heap.size wr v ts
section
variable {wl wr w':World} {Bo:Nat} {l:ByteArray} {M base:Nat} {v:Value} {ts:List Tr}
theorem MixInv.pr (h:MixInv wl Bo l M base wr v ts) (hp:Pr wr w'):MixInv wl Bo l M base w' v ts:=by
  obtain ⟨xs,h1,h2⟩:=h.row
  exact ⟨h.chg.pr hp,hp.blk h.blk,xs,ownsRow_kept h1 (fun k hk=>Below.block hp k (h1.lt k hk).2),h2.carry fun k hS hl=>⟨Below.block hp k hl,hS⟩⟩
theorem MixInv.start (hb:wl.heap[Bo]? = some (.cells #[.string l,.slice none 0 0] 34 (0,0))):MixInv wl Bo l M base wl (.slice none 0 0) [] :=
  ⟨Chg.refl _ _,hb,OwnsX.nil _ _ _ _⟩
theorem MixInv.app (h:MixInv wl Bo l M base wr v ts) (hB:Bo < wl.heap.size) {v':Value} {ts':List Tr} (ho:OwnsX (fun k=>(k < M∨base≤k)∧k≠Bo∧v.ownBlock≠some k) wr wl.heap.size w' v' ts') (hg:wr.grownBy w' v.ownBlock)
    (hd:∀ k,v'.ownBlock=some k→v.ownBlock=some k∨k=wr.heap.size):MixInv wl Bo l M base (w'.setCell ⟨Bo,1,none⟩ v') v' ts':=by
  obtain ⟨xs,g1,g2⟩:=ho
  have hvb:∀ k,v.ownBlock=some k→wl.heap.size≤k∧k < wr.heap.size:=fun k hk=>h.row.block k hk
  have hw:=h.chg.size
  have hne:∀ k,v'.ownBlock=some k→k≠Bo:=fun k hk=>by
    rcases hd k hk with e | e
    · have:=hvb k e;omega
    · omega
  have hnb:v.ownBlock≠some Bo:=fun e=>by have:=hvb Bo e;omega
  refine ⟨?_,?_,xs,ownsRow_kept g1 (fun k hk=>Below.heap_setCell _ _ _ _ (fun e=>hne k hk e)),g2.carry fun k hS hl=>⟨?_,hS.1,hS.2.1,fun e=>?_⟩⟩
  · refine (h.chg.trans (chg_grown hg) (fun k hk=>.inr (hvb k hk).1)).setCell _ _ (.inl rfl)
  · exact blk_set (o:=1) (grown_blk hg h.blk hnb) v'
  · rw [Below.heap_setCell _ _ _ _ (fun e=>hS.2.1 e)]
    exact hg.block k hl (fun e=>hS.2.2 e.symm)
  · rcases hd k e with e' | e'
    · exact hS.2.2 e'
    · omega
theorem MixInv.kids (h:MixInv wl Bo l M base wr v ts) (hb:base≤wl.heap.size) (hB:Bo < wl.heap.size):∃ oa cap,v=.slice oa ts.length cap∧Kids (fun k=>(k < M∨base≤k)∧k≠Bo) wr ts oa cap:=by
  obtain ⟨xs,h1,h2⟩:=h.row
  refine Tvals.kids (h2.carry fun k hS hl=>⟨rfl,hS.1,hS.2.1⟩) h1 fun k hk=>⟨.inr (by have:=(h1.lt k hk).1;omega),fun e=>by have:=(h1.lt k hk).1;omega⟩
end
section
variable {ops:Array Oper} {o:Oper} {a:Act} {w:World} {rest:List Oper} {Q:Exit→Act→World→Prop} {K:Act→World→Prop} {E:Prop}
theorem app_treeM (hgd:o.guard=none) (s x:Operand) (ho:o.op=.call { callee:=.builtin .append,args:=#[s,x],argTypes:=#[22,22] })
    (S:Nat→Prop) (w0:World) (b:Nat) (v:Value) (ts:List Tr) (hs:a.eval s=v) (hown:OwnsX S w0 b w v ts) (B:Nat) (hx:a.eval x=.slice (some ⟨B,0,none⟩) 1 1) (t:Tr) (vl vk:Value)
    (hB:w.heap[B]? = some (.cells #[vl,vk] 34 (0,0))) (ht:TreeV S w0 t vl vk) (hlen:ts.length≤1000000000) (hbase:b≤w.heap.size)
    (h:∀ g cap w',OwnsX S w0 b w' (.slice (some ⟨g,0,none⟩) (ts.length+1) cap) (ts ++ [t])→w.grownBy w' v.ownBlock→(v.ownBlock=some g∨g=w.heap.size)→wpList Tryz.prog ops Q rest (a.put o.dst (.slice (some ⟨g,0,none⟩) (ts.length+1) cap)) w') :
    wpList Tryz.prog ops Q (o :: rest) a w:=by
  obtain ⟨i0,hi,hz0,hz1,hz2⟩:=info_parts info_tree
  obtain ⟨xs,h1,h2⟩:=hown
  refine wpList_append_lies w hgd s x _ ho b _ i0 _ 2 40 under_trees hi hz0 hz1 hz2 rfl (by omega) v ts.length xs hs h1 ⟨B,0,none⟩ 1 1 [vl,vk] hx rfl (World.news_of_block (cs:=#[vl,vk]) hB)
    (by intro u hu;simp at hu;rcases hu with rfl | rfl;exact ht.one.1;exact ht.one.2) (by omega) (by unfold maxLen;omega) (by omega) hbase w.heap.size rfl ?_
  intro g cap w' g1 g2 g3 _
  refine h g cap w' ⟨xs ++ [vl,vk],?_,h2.snoc ht⟩ g2 g3
  rw [List.length_append,List.length_singleton];exact g1
theorem step_treeM (hgd:o.guard=none) (s x:Operand) (ho:o.op=.call { callee:=.builtin .append,args:=#[s,x],argTypes:=#[22,22] })
    (S:Nat→Prop) (w0:World) (b:Nat) (v:Value) (ts:List Tr) (hs:a.eval s=v) (hown:OwnsX S w0 b w v ts) (B:Nat) (hx:a.eval x=.slice (some ⟨B,0,none⟩) 1 1) (t:Tr) (vl vk:Value)
    (hB:w.heap[B]? = some (.cells #[vl,vk] 34 (0,0))) (ht:TreeV S w0 t vl vk) (hlen:ts.length≤1000000000) (hbase:b≤w.heap.size)
    (h:∀ g cap w',OwnsX S w0 b w' (.slice (some ⟨g,0,none⟩) (ts.length+1) cap) (ts ++ [t])→w.grownBy w' v.ownBlock→(v.ownBlock=some g∨g=w.heap.size)→K (a.put o.dst (.slice (some ⟨g,0,none⟩) (ts.length+1) cap)) w') :
    if Region.wanted o (yielded ops a.tmps)=true then Oper.wp Tryz.prog o a w K Q else E:=by
  obtain ⟨i0,hi,hz0,hz1,hz2⟩:=info_parts info_tree
  obtain ⟨xs,h1,h2⟩:=hown
  refine step_append_lies w hgd s x _ ho b _ i0 _ 2 40 under_trees hi hz0 hz1 hz2 rfl (by omega) v ts.length xs hs h1 ⟨B,0,none⟩ 1 1 [vl,vk] hx rfl (World.news_of_block (cs:=#[vl,vk]) hB)
    (by intro u hu;simp at hu;rcases hu with rfl | rfl;exact ht.one.1;exact ht.one.2) (by omega) (by unfold maxLen;omega) (by omega) hbase w.heap.size rfl ?_
  intro g cap w' g1 g2 g3 _
  refine h g cap w' ⟨xs ++ [vl,vk],?_,h2.snoc ht⟩ g2 g3
  rw [List.length_append,List.length_singleton];exact g1
end
theorem Chg.to_prM {X:Nat→Prop} {w w1 w2:World} (h:Chg X w1 w2) (hp:Pr w w1) (hX:∀ k,X k→w.heap.size≤k):Pr w w2:=((hp.chg X).trans h (fun _ h=>.inl h)).to_pr hX
theorem Chg.cell9 {X:Nat→Prop} {w w1:World} (h:Chg X w w1) {b o:Nat} {v:Value} (hc:w.cell? ⟨b,o,none⟩=some v) (hX:¬ X b):w1.cell? ⟨b,o,none⟩=some v:=by
  rw [World.cell?_of_block (h.block b (lt_of_cell hc) hX)];exact hc
theorem OwnsX.isSlice {S:Nat→Prop} {w0 w:World} {b:Nat} {v:Value} {ts:List Tr} (h:OwnsX S w0 b w v ts):∃ o n c,v=.slice o n c:=by
  obtain ⟨xs,h1,_⟩:=h
  obtain ⟨o,c,e,_⟩:=ownsRow_slice h1
  exact ⟨o,_,c,e⟩
theorem MixInv.grownB {wl wr w':World} {Bo:Nat} {l:ByteArray} {M base:Nat} {v:Value} {ts:List Tr} (h:MixInv wl Bo l M base wr v ts) (hB:Bo < wl.heap.size) (hg:wr.grownBy w' v.ownBlock) :
    w'.cell? ⟨Bo,1,none⟩=some v∧w'.frozen? ⟨Bo,1,none⟩=false:=by
  have hnb:v.ownBlock≠some Bo:=fun e=>by have:=h.row.block Bo e;omega
  have hb:=grown_blk hg h.blk hnb
  exact ⟨blk_cell (o:=1) hb,blk_frozen hb⟩
theorem MixInv.other {wl wr w':World} {Bo:Nat} {l:ByteArray} {M base:Nat} {v:Value} {ts:List Tr} (h:MixInv wl Bo l M base wr v ts) (hg:wr.grownBy w' v.ownBlock) (u:Value) {b:Nat} {x:Obj} (hx:wr.heap[b]? = some x) (h1:b≠Bo) (h2:v.ownBlock≠some b):(w'.setCell ⟨Bo,1,none⟩ u).heap[b]? = some x:=by
  have:=h.blk
  rw [Below.heap_setCell _ _ _ _ (fun e=>h1 e)]
  exact grown_blk hg hx h2
section
variable {f:Tr→Tr→Tr→Ex Tr} {g1 g2 g3 ds:List Tr} {i kk:Nat} {rt:Ex (List Tr)}
theorem zip_at (h1:kk < g1.length) (h2:kk < g2.length) (h3:kk < g3.length) (n:Nat):zipM f (g1.drop kk) (g2.drop kk) (g3.drop kk) n=match f g1[kk] g2[kk] g3[kk] with
    | .error p=>.error ((n:Int) :: p)
    | .ok t=>match zipM f (g1.drop (kk+1)) (g2.drop (kk+1)) (g3.drop (kk+1)) (n+1) with
      | .error p=>.error p
      | .ok ts=>.ok (t :: ts):=by
  rw [List.drop_eq_getElem_cons h1,List.drop_eq_getElem_cons h2,List.drop_eq_getElem_cons h3,zipM]
  cases f g1[kk] g2[kk] g3[kk] with
  | error p=>rfl
  | ok t =>
    simp only []
    cases zipM f (g1.drop (kk+1)) (g2.drop (kk+1)) (g3.drop (kk+1)) (n+1) <;> rfl
theorem zip_err (hr:rt=exMap (fun rs=>ds ++ rs) (zipM f (g1.drop kk) (g2.drop kk) (g3.drop kk) (i+kk))) (h1:kk < g1.length) (h2:kk < g2.length) (h3:kk < g3.length) {p:List Int} (hf:f g1[kk] g2[kk] g3[kk]=.error p):rt=.error (((i+kk:Nat):Int) :: p):=by
  rw [hr,zip_at h1 h2 h3,hf];rfl
theorem zip_ok (hr:rt=exMap (fun rs=>ds ++ rs) (zipM f (g1.drop kk) (g2.drop kk) (g3.drop kk) (i+kk))) (h1:kk < g1.length) (h2:kk < g2.length) (h3:kk < g3.length) {t:Tr} (hf:f g1[kk] g2[kk] g3[kk]=.ok t) :
    rt=exMap (fun rs=>(ds ++ [t]) ++ rs) (zipM f (g1.drop (kk+1)) (g2.drop (kk+1)) (g3.drop (kk+1)) (i+(kk+1))):=by
  rw [hr,zip_at h1 h2 h3,hf,← Nat.add_assoc]
  simp only []
  cases zipM f (g1.drop (kk+1)) (g2.drop (kk+1)) (g3.drop (kk+1)) (i+kk+1) with
  | error p=>rfl
  | ok ts=>simp [exMap]
theorem zip_end (hr:rt=exMap (fun rs=>ds ++ rs) (zipM f (g1.drop kk) (g2.drop kk) (g3.drop kk) (i+kk))) (h1:kk=g1.length):rt=.ok ds:=by
  rw [hr,h1,List.drop_length]
  have:∀ (a b:List Tr) (n:Nat),zipM f [] a b n=.ok []:=fun a b n=>by simp [zipM]
  rw [this];simp [exMap]
end
section
variable {ops:Array Oper} {o:Oper} {a:Act} {w:World} {Q:Exit→Act→World→Prop} {K:Act→World→Prop} {E:Prop}
theorem OwnsIs.made (w:World) (x:Int):OwnsIs w.heap.size (w.alloc (.cells #[.int .i64 x] 3)) (.slice (some ⟨w.heap.size,0,none⟩) 1 1) [x] :=
  ⟨by simp,.inr ⟨w.heap.size,1,#[.int .i64 x],rfl,Nat.le_refl _,heap_alloc_new w _,Nat.le_refl _,by unfold maxLen;omega,rfl,by simp⟩⟩
theorem step_intsM (hgd:o.guard=none) (s x:Operand) (ho:o.op=.call { callee:=.builtin .append,args:=#[s,x],argTypes:=#[23,23] })
    (b:Nat) (v:Value) (xs:List Int) (hs:a.eval s=v) (hown:OwnsIs b w v xs) (S:Nat→Prop) (ys:List Int) (ao:Option Addr) (c:Nat) (hx:a.eval x=.slice ao ys.length c) (hy:Ints S w ys ao c)
    (hlen:xs.length+ys.length≤1000000000) (hbase:b≤w.heap.size)
    (h:∀ v' w',OwnsIs b w' v' (xs ++ ys)→w.grownBy w' v.ownBlock→K (a.put o.dst v') w') :
    if Region.wanted o (yielded ops a.tmps)=true then Oper.wp Tryz.prog o a w K Q else E:=by
  obtain ⟨i0,hi,hz0,hz1,hz2⟩:=info_parts info_int
  by_cases hm:0 < ys.length
  · obtain ⟨_,b',o',h1,h2⟩:=hy
    have hne:ints ys≠[]:=by intro e;have:=congrArg List.length e;simp at this;subst this;simp at hm
    obtain ⟨rfl,-⟩:=h1 hne
    refine step_append_lies w hgd s x _ ho b _ i0 _ 1 8 under_intsT hi hz0 hz1 hz2 rfl (by omega) v xs.length (ints xs) hs hown ⟨b',o',none⟩ ys.length c (ints ys) hx (by simp) (fun j u hu=>by
      obtain ⟨hj,rfl⟩:=List.getElem?_eq_some_iff.1 hu
      rw [Addr.add_lit];exact h2 j hj) (by intro u hu;obtain ⟨y,_,rfl⟩:=List.mem_map.1 hu;rfl) hm (by unfold maxLen;omega) (by omega) hbase w.heap.size rfl ?_
    intro g cap w' k1 k2 k3 _
    refine h _ w' ?_ k2
    unfold OwnsIs
    rw [List.length_append]
    have:ints (xs ++ ys)=ints xs ++ ints ys:=by simp
    rw [this];exact k1
  · have hys:ys=[]:=List.eq_nil_of_length_eq_zero (by omega)
    subst hys
    have hw:Region.wanted o (yielded ops a.tmps)=true:=by simp [Region.wanted,hgd]
    rw [if_pos hw]
    have hrun:=run_append_zero (P:=Tryz.prog) (w:=w) b 23 o.type _ i0 1 under_intsT hi v xs.length (ints xs) hown ao c
    unfold Oper.wp execOp
    simp only [ho,resolve,invoke,builtin,Sem.run_bind,Sem.run_pure,Result.andThen_ok,List.map_toArray,List.map_cons,List.map_nil,hs,hx,List.length_nil,hrun]
    exact h v w (by rw [List.append_nil];exact hown) (World.grownBy.refl _ _)
end
end Go.Proofs.YtdbnfhpgmcjngacGreat
