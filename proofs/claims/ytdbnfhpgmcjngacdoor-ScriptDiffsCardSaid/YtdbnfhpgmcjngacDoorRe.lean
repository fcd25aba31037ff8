/- Walks: the document's table: which nodes stay, the roots with them. -/
import Derived.Test.YtdbnfhpgmcjngacDoorRd
namespace Go.Proofs.YtdbnfhpgmcjngacDoor
open Go Go.RowKit
section
variable {w:World} {B:Nat} {xs ys:List Nd} {xb xo xc yb yo yc g K:Nat}
set_option maxHeartbeats 3200000 in
theorem rbestTop_any (hA:Apt w B xs ys xb xo xc yb yo yc g K) (hM:Memo w g K xs ys) (hx:Fit xs) (hy:Fit ys) (hix:xs.length≤16) (hjy:ys.length≤16) (hi:1≤xs.length) (hj:1≤ys.length) :
    Calls Tryd.prog 13 #[.pointer (some ⟨B,0,none⟩)] w (RPost xs ys g K w (zp (bestP xs ys 0 (xs.length - 1) 0 (ys.length - 1) ++ [(xs.length - 1,ys.length - 1)]))):=by
  obtain ⟨I,hI⟩:∃ I,I=xs.length - 1:=⟨_,rfl⟩
  obtain ⟨J,hJ⟩:∃ J,J=ys.length - 1:=⟨_,rfl⟩
  rw [← hI,← hJ]
  have b0:w.cell? ⟨B,0,none⟩=some (.slice (some ⟨xb,xo,none⟩) xs.length xc):=blk_cell hA.blk
  have b1:w.cell? ⟨B,1,none⟩=some (.slice (some ⟨yb,yo,none⟩) ys.length yc):=blk_cell hA.blk
  have CB:Hid (∀ n,Calls Tryd.prog 50 #[.pointer (some ⟨B,0,none⟩),.int .i64 0,.int .i64 I,.int .i64 0,.int .i64 J] (w.drewN n) (RPost xs ys g K (w.drewN n) (zp (bestP xs ys 0 I 0 J)))):=Lib.hid fun n =>
    rbest_any xs ys hx hy hix hjy B xb xo xc yb yo yc g K _ 0 I 0 J _ _ _ (Nat.lt_succ_self _) (Nat.zero_le _) (Nat.zero_le _) (by omega) (by omega) (Cl.zero _ _) (Cl.zero _ _) rfl rfl (hA.pr (Pr.drewN w n)) (hM.pr (Pr.drewN w n))
  have n1:=bestP_len xs ys hx hy (i0:=0) (i:=I) (j0:=0) (j:=J) (by omega) (by omega) (Cl.zero _ _) (Cl.zero _ _) (by omega) (by omega)
  rw [← zp_length] at n1
  have e1:(xs.length:Int) - 1=I:=by omega
  have e2:(ys.length:Int) - 1=J:=by omega
  have uI:IntKind.i64.wrap (I:Int)=I:=IntWalk.i64_in _ (by omega)
  have uJ:IntKind.i64.wrap (J:Int)=J:=IntWalk.i64_in _ (by omega)
  have hIb:I≤1000:=by omega
  have hJb:J≤1000:=by omega
  have hgl:=hM.lt
  clear hI hJ hi hj hix hjy hx hy hA hM
  rw [zp_append]
  go_enter Tryd.func13,Tryd.ntmps13
  go_wp2_with fail
  go_quiet (fail)
  have hc:=(Pr.drewN w nq).chg (fun k=>k=g)
  go_wp2_with (first
    | (go_at_call 50;(with_reducible refine Calls.mono (CB.out _) ?_);rintro e w4 ⟨v4,rfl,ho4,hc4,hM⟩;have ho4:=ho4.mono hc.size;have hc:=hc.trans hc4 (fun _ h=>.inl h))
    | (at_builtin;go_must (refine app_pair rfl _ _ rfl w.heap.size _ _ rfl (ho4.pr (Pr.alloc _ _)) w4.heap.size rfl ((I:Int),(J:Int)) (heap_alloc_new w4 _) (by omega) (by have:=hc.size;simp;omega) ?_);intro v5 w5 ho5 hg5 hd5))
  go_ret
  exact ⟨v5,rfl,ho5,(hc.pr (Pr.alloc _ _)).trans (chg_grown hg5) (fun k hk=>.inr (ho4.block k hk).1),(hM.pr (Pr.alloc _ _)).chg (chg_grown hg5) (fun hk=>by have:=(ho4.block g hk).1;omega)⟩
end
end Go.Proofs.YtdbnfhpgmcjngacDoor
