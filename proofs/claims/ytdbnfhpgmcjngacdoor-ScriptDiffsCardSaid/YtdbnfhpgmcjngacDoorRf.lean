/- Walks: the document's table is made. -/
import Derived.Test.YtdbnfhpgmcjngacDoorRa
import Derived.Test.YtdbnfhpgmcjngacDoorOb
namespace Go.Proofs.YtdbnfhpgmcjngacDoor
open Go Go.RowKit
set_option maxRecDepth 100000 in
set_option maxHeartbeats 6400000 in
theorem newApart_any (l1:ByteArray) (k1:List Tr) (o1 c1) (l2:ByteArray) (k2:List Tr) (o2 c2) (w:World) (hk1:Kids Any w k1 o1 c1) (hk2:Kids Any w k2 o2 c2)
    (hs1:(nds (.node l1 k1)).length≤16) (hs2:(nds (.node l2 k2)).length≤16) :
    Calls Tryd.prog 12 #[.agg #[.string l1,.slice o1 k1.length c1],.agg #[.string l2,.slice o2 k2.length c2]] w fun e w'=>∃ B xb xo xc yb yo yc g K,e=.returned (.pointer (some ⟨B,0,none⟩)) ∧
      Apt w' B (nds (.node l1 k1)) (nds (.node l2 k2)) xb xo xc yb yo yc g K∧Memo w' g K (nds (.node l1 k1)) (nds (.node l2 k2))∧Pr w w'∧w.heap.size≤g:=by
  obtain ⟨W,hW⟩:∃ W,W=(w.alloc (.cells #[.string l1,.slice o1 k1.length c1] 24)).alloc (.cells #[.string l2,.slice o2 k2.length c2] 24):=⟨_,rfl⟩
  have hwW:Pr w W:=by rw [hW];exact (Pr.alloc _ _).alloc' _
  have s0:=stays (show W.cell? ⟨w.heap.size,0,none⟩=some (.string l1) by rw [hW];simp [go_sem])
  have s1:=stays (show W.cell? ⟨w.heap.size,1,none⟩=some (.slice o1 k1.length c1) by rw [hW];simp [go_sem])
  have s2:=stays (show W.cell? ⟨w.heap.size+1,0,none⟩=some (.string l2) by rw [hW];simp [go_sem])
  have s3:=stays (show W.cell? ⟨w.heap.size+1,1,none⟩=some (.slice o2 k2.length c2) by rw [hW];simp [go_sem])
  have hk1:=hk1.pr hwW;have hk2:=hk2.pr hwW
  have hl1:=nds_length (.node l1 k1)
  have hl2:=nds_length (.node l2 k2)
  rw [Tr.sz_node] at hl1 hl2
  have C1:Hid (∀ W',Pr W W'→Calls Tryd.prog 48 #[.agg #[.string l1,.slice o1 k1.length c1],.slice none 0 0] W' fun e w'=>∃ g c,e=.returned (.slice (some ⟨g,0,none⟩) (nds (.node l1 k1)).length c)∧Nds Any w' (nds (.node l1 k1)) (some ⟨g,0,none⟩) c∧Pr W' w'):=Lib.hid fun W' h=>by
    have:=nodesOf_yes l1 k1 o1 c1 W' (by omega) (hk1.pr h)
    rw [hl1];exact this
  have C2:Hid (∀ W',Pr W W'→Calls Tryd.prog 48 #[.agg #[.string l2,.slice o2 k2.length c2],.slice none 0 0] W' fun e w'=>∃ g c,e=.returned (.slice (some ⟨g,0,none⟩) (nds (.node l2 k2)).length c)∧Nds Any w' (nds (.node l2 k2)) (some ⟨g,0,none⟩) c∧Pr W' w'):=Lib.hid fun W' h=>by
    have:=nodesOf_yes l2 k2 o2 c2 W' (by omega) (hk2.pr h)
    rw [hl2];exact this
  have hp1:1≤(nds (.node l1 k1)).length:=by omega
  have hp2:1≤(nds (.node l2 k2)).length:=by omega
  clear hl1 hl2 hk1 hk2
  generalize nds (.node l1 k1)=xs at *
  generalize nds (.node l2 k2)=ys at *
  go_enter Tryd.func12,Tryd.ntmps12
  go_wp2_with fail
  rw [← hW];clear hW
  have hp:=Pr.drew W
  go_region_held3 (fun W'=>Pr W W') (first | exact hp | exact hp.alloc' _)
    (first
      | (go_at_call 48;(with_reducible refine Calls.mono (C1.out _ hp) ?_);rintro e w1 ⟨g1,cc1,rfl,hn1,hb'⟩;have hp:=hp.trans hb')
      | (go_at_call 48;(with_reducible refine Calls.mono (C2.out _ hp) ?_);rintro e w2 ⟨g2,cc2,rfl,hn2,hb'⟩;have hp:=hp.trans hb'))
  have hn1:=hn1.pr hb'
  go_upto_region 2 with fail
  obtain ⟨B,hBe⟩:∃ B,B=w2.heap.size:=⟨_,rfl⟩
  obtain ⟨w3,hw3⟩:∃ w3,w3=w2.alloc (.cells #[.slice (some ⟨g1,0,none⟩) xs.length cc1,.slice (some ⟨g2,0,none⟩) ys.length cc2,.int .i64 0,.int .i64 0,.slice none 0 0] 85):=⟨_,rfl⟩
  have hblk:w3.heap[B]? = some (.cells #[.slice (some ⟨g1,0,none⟩) xs.length cc1,.slice (some ⟨g2,0,none⟩) ys.length cc2,.int .i64 0,.int .i64 0,.slice none 0 0] 85 (0,0)):=by rw [hw3,hBe];exact heap_alloc_new w2 _
  have hp3:Pr w2 w3:=by rw [hw3];exact Pr.alloc _ _
  rw [← hw3,← hBe]
  have b0:w3.cell? ⟨B,0,none⟩=some (.slice (some ⟨g1,0,none⟩) xs.length cc1):=blk_cell hblk
  have b1:w3.cell? ⟨B,1,none⟩=some (.slice (some ⟨g2,0,none⟩) ys.length cc2):=blk_cell hblk
  have b2:w3.cell? ⟨B,2,none⟩=some (.int .i64 0):=blk_cell hblk
  have b3:w3.cell? ⟨B,3,none⟩=some (.int .i64 0):=blk_cell hblk
  have f2:w3.frozen? ⟨B,2,none⟩=false:=blk_frozen hblk
  have f3:w3.frozen? ⟨B,3,none⟩=false:=blk_frozen hblk
  have u1:IntKind.i64.wrap ((xs.length:Int)+1)=(xs.length:Int)+1:=IntWalk.i64_in _ (by omega)
  have u2:IntKind.i64.wrap ((ys.length:Int)+1)=(ys.length:Int)+1:=IntWalk.i64_in _ (by omega)
  have Hp:=Lib.hid (hwW.trans hp)
  have Hp3:=Lib.hid hp3
  have Hn1:=Lib.hid hn1
  have Hn2:=Lib.hid hn2
  have Hblk:=Lib.hid hblk
  have HBe:=Lib.hid hBe
  clear hw3 hBe hp hp3 hn1 hn2 hblk s0 s1 s2 s3 C1 C2
  go_region_law (fail)
  all_goals
    go_upto_region 3 with fail
    obtain ⟨w4,hw4⟩:∃ w4,w4=((w3.setCell ⟨B,2,none⟩ (.int .i64 ((xs.length:Int)+1))).setCell ⟨B,3,none⟩ (.int .i64 ((ys.length:Int)+1))).drew:=⟨_,rfl⟩
    have hblk4:w4.heap[B]? = some (.cells #[.slice (some ⟨g1,0,none⟩) xs.length cc1,.slice (some ⟨g2,0,none⟩) ys.length cc2,.int .i64 ((xs.length:Int)+1),.int .i64 ((ys.length:Int)+1),.slice none 0 0] 85 (0,0)):=by
      rw [hw4]
      exact (Pr.drew _).blk (blk_set (o:=3) (blk_set (o:=2) Hblk.out (.int .i64 ((xs.length:Int)+1))) (.int .i64 ((ys.length:Int)+1)))
    have hp4:Pr w2 w4:=by rw [hw4];exact ((Hp3.out.setCell (p:=⟨B,2,none⟩) (by rw [HBe.out];exact Nat.le_refl _) _).setCell (p:=⟨B,3,none⟩) (by rw [HBe.out];exact Nat.le_refl _) _).drew'
    rw [← hw4]
    have HP4:=Lib.hid hp4
    have HB4:=Lib.hid hblk4
    have c2:w4.cell? ⟨B,2,none⟩=some (.int .i64 ((xs.length:Int)+1)):=blk_cell hblk4
    have c3:w4.cell? ⟨B,3,none⟩=some (.int .i64 ((ys.length:Int)+1)):=blk_cell hblk4
    have c4:w4.cell? ⟨B,4,none⟩=some (.slice none 0 0):=blk_cell hblk4
    have f4:w4.frozen? ⟨B,4,none⟩=false:=blk_frozen hblk4
    have c4':∀ o,(w4.alloc o).cell? ⟨B,4,none⟩=some (.slice none 0 0):=fun o=>(Pr.alloc _ o).cell c4
    have f4':∀ o,(w4.alloc o).frozen? ⟨B,4,none⟩=false:=fun o=>by rw [(Pr.alloc _ o).frozen (blk_lt hblk4)];exact f4
    obtain ⟨K,hK⟩:∃ K,K=(xs.length+1) * (xs.length+1) * (ys.length+1) * (ys.length+1):=⟨_,rfl⟩
    obtain ⟨K1,hK1⟩:∃ K1,K1=(xs.length+1) * (xs.length+1):=⟨_,rfl⟩
    obtain ⟨K2,hK2⟩:∃ K2,K2=K1 * (ys.length+1):=⟨_,rfl⟩
    have hK3:K=K2 * (ys.length+1):=by rw [hK,hK2,hK1]
    have l1:K1≤17 * 17:=by rw [hK1];exact Nat.mul_le_mul (by omega) (by omega)
    have l2:K2≤289 * 17:=by rw [hK2];exact Nat.mul_le_mul (by omega) (by omega)
    have l3:K≤4913 * 17:=by rw [hK3];exact Nat.mul_le_mul (by omega) (by omega)
    have z1:((xs.length:Int)+1) * ((xs.length:Int)+1)=(K1:Int):=by rw [hK1];push_cast;rfl
    have z2:(K1:Int) * ((ys.length:Int)+1)=(K2:Int):=by rw [hK2];push_cast;rfl
    have z3:(K2:Int) * ((ys.length:Int)+1)=(K:Int):=by rw [hK3];push_cast;rfl
    have r1:IntKind.i64.wrap (((xs.length:Int)+1) * ((xs.length:Int)+1))=(K1:Int):=by rw [z1];exact IntWalk.i64_in _ (by omega)
    have r2:IntKind.i64.wrap ((K1:Int) * ((ys.length:Int)+1))=(K2:Int):=by rw [z2];exact IntWalk.i64_in _ (by omega)
    have r3:IntKind.i64.wrap ((K2:Int) * ((ys.length:Int)+1))=(K:Int):=by rw [z3];exact IntWalk.i64_in _ (by omega)
    have hmk:=fun W=>make_ints K (by omega) W
    have HK:=Lib.hid hK
    clear hK hK1 hK2 hK3 l1 l2 l3 z1 z2 z3 hw4 hblk4 hp4 b0 b1 b2 b3 f2 f3
    have hBl:=blk_lt HB4.out
    have d2:∀ o,((w4.alloc o).drew).cell? ⟨B,2,none⟩=some (.int .i64 ((xs.length:Int)+1)):=fun o=>(Pr.alloc _ o).drew'.cell c2
    have d3:∀ o,((w4.alloc o).drew).cell? ⟨B,3,none⟩=some (.int .i64 ((ys.length:Int)+1)):=fun o=>(Pr.alloc _ o).drew'.cell c3
    have e2:w4.drew.cell? ⟨B,2,none⟩=some (.int .i64 ((xs.length:Int)+1)):=c2
    have e3:w4.drew.cell? ⟨B,3,none⟩=some (.int .i64 ((ys.length:Int)+1)):=c3
    go_region_held3 (fun W'=>W'.cell? ⟨B,2,none⟩=some (.int .i64 ((xs.length:Int)+1))∧W'.cell? ⟨B,3,none⟩=some (.int .i64 ((ys.length:Int)+1))) (first | exact ⟨e2,e3⟩ | exact ⟨d2 _,d3 _⟩ | (constructor <;> simp [go_sem,c2,c3,hBl]))
      (fail)
    go_wp2_with fail
    go_ret
    have hz4:(w4.setCell ⟨B,4,none⟩ (.slice (some ⟨w4.heap.size,0,none⟩) K K)).heap.size=w4.heap.size:=by simp
    have hs5:Pr w2 (w4.setCell ⟨B,4,none⟩ (.slice (some ⟨w4.heap.size,0,none⟩) K K)):=HP4.out.setCell (by rw [HBe.out];exact Nat.le_refl _) _
    have hp5:=(hs5.alloc' (.cells (rowV K (fun _=>0)) 3)).drew'
    have hblk5:=((Pr.alloc _ (.cells (rowV K (fun _=>0)) 3)).drew').blk (blk_set (o:=4) HB4.out (.slice (some ⟨w4.heap.size,0,none⟩) K K))
    have hg:=(Pr.drew _).blk (heap_alloc_new (w4.setCell ⟨B,4,none⟩ (.slice (some ⟨w4.heap.size,0,none⟩) K K)) (.cells (rowV K (fun _=>0)) 3))
    rw [hz4] at hg
    obtain ⟨xb,xo,hxe,hcx⟩:=Hn1.out.at'' (by omega)
    obtain ⟨yb,yo,hye,hcy⟩:=Hn2.out.at'' (by omega)
    cases hxe;cases hye
    have hxl:g1 < w2.heap.size:=lt_of_cell (hcx 0 (by omega)).1
    have hyl:g2 < w2.heap.size:=lt_of_cell (hcy 0 (by omega)).1
    have h24:=HP4.out.size
    exact ⟨B,g1,0,cc1,g2,0,cc2,w4.heap.size,K,rfl,⟨hblk5,fun i hi=>⟨hp5.cell (hcx i hi).1,hp5.cell (hcx i hi).2.1,hp5.cell (hcx i hi).2.2⟩,fun i hi=>⟨hp5.cell (hcy i hi).1,hp5.cell (hcy i hi).2.1,hp5.cell (hcy i hi).2.2⟩,HK.out,by omega,by omega,by omega⟩,
      ⟨fun _=>0,hg,fun _ _ _ _ _ _ _ _=>.inl rfl⟩,Hp.out.trans hp5,by have:=Hp.out.size;omega⟩
end Go.Proofs.YtdbnfhpgmcjngacDoor
