/- Walks: a deed done in place, where the path leads nowhere; a node put in. -/
import Derived.Test.YtdbnfhpgmcjngabGreatDoorBef
import Derived.Test.YtdbnfhpgmcjngabGreatDoorBqt
namespace Go.Proofs.YtdbnfhpgmcjngabGreatDoor
open Go Go.RowKit
theorem set5_chg {X:Nat→Prop} {w w1:World} {b:Nat} (v0 v1 v2 v3 v4:Value) (h:Chg X w w1) (hb:X b∨w.heap.size≤b):Chg X w (set5 w1 b v0 v1 v2 v3 v4) :=
  ((((h.setCell ⟨b,0,none⟩ v0 hb).setCell ⟨b,1,none⟩ v1 hb).setCell ⟨b,2,none⟩ v2 hb).setCell ⟨b,3,none⟩ v3 hb).setCell ⟨b,4,none⟩ v4 hb
theorem do_end {w W w2 w5:World} {B lo hi base:Nat} {t:Tr} {q:List Int} {b' o' lo' hi':Nat} {xl:ByteArray} {xks R:List Tr} {o2:Option Addr} {c2:Nat} (HW:Pr w W) (hWs:W.heap.size=w.heap.size+2) (hsp:Spot W B 0 lo hi t q b' o' lo' hi' (.node xl xks)) (hB:B < w.heap.size)
    (hhi:hi≤w.heap.size) (hbase:base≤lo) (hw2:Pr W w2) (hk2:Kids (fun k=>(lo'≤k∧k < hi')∨W.heap.size≤k) w2 R o2 c2) (hp5:Pr (w2.setCell ⟨b',o'+1,none⟩ (.slice o2 R.length c2)) w5) (d:Dee) (hd:doneT d d.path t=(t.setAt q (.node xl R),0))
    (k':Int) (pth:List Int) (a' m':Int) (s':ByteArray) (hb:backD t d=⟨k',pth,a',m',s'⟩) (bp:Option Addr) (bc:Nat) (hi5:Ints (From (w.heap.size+2)) w5 pth bp bc) (v0 v1 v2 v3 v4:Value) :
    DoPost B lo hi base w t d (.returned (.tuple #[.agg #[.int .i64 k',.slice bp pth.length bc,.int .i64 a',.int .i64 m',.string s'],.int .i64 0])) (set5 w5 (w.heap.size+1) v0 v1 v2 v3 v4):=by
  have hbw:b' < w.heap.size:=by rcases hsp.blk with h | h <;> omega
  have hlow:=hsp.low
  have hhigh:=hsp.high
  have hout:=hsp.out
  obtain ⟨oa,cap,d0,d1,_,hxl⟩:=hsp.cells
  have hle:lo'≤hi':=by obtain ⟨_,_,_,_,h⟩:=hsp.tree;exact h.le
  have h0:=((HW.trans hw2).chg (fun k=>k=b')).setCell ⟨b',o'+1,none⟩ (.slice o2 R.length c2) (.inl rfl)
  have hch:Chg (fun k=>k=b') w (set5 w5 (w.heap.size+1) v0 v1 v2 v3 v4):=set5_chg v0 v1 v2 v3 v4 (h0.pr hp5) (.inr (by omega))
  have hws:b' < w2.heap.size:=by have:=HW.size;have:=hw2.size;omega
  have hcell:∀ j,(set5 w5 (w.heap.size+1) v0 v1 v2 v3 v4).cell? ⟨b',j,none⟩=(w2.setCell ⟨b',o'+1,none⟩ (.slice o2 R.length c2)).cell? ⟨b',j,none⟩:=fun j=>by
    rw [World.cell?_of_block (set5_heap v0 v1 v2 v3 v4 (show b'≠w.heap.size+1 by omega))]
    exact Below.cell hp5 (p:=⟨b',j,none⟩) (by simpa using hws)
  have hw2c:∀ j,w2.cell? ⟨b',j,none⟩=w.cell? ⟨b',j,none⟩:=fun j=>Below.cell (HW.trans hw2) (p:=⟨b',j,none⟩) hbw
  have hI:Ints (From w.heap.size) (set5 w5 (w.heap.size+1) v0 v1 v2 v3 v4) pth bp bc:=Flat.mono (fun k h _=>by have h2:w.heap.size+2≤k:=h;show w.heap.size≤k;omega) (Flat.kept (set5_kept v0 v1 v2 v3 v4 (by show ¬ w.heap.size+2≤w.heap.size+1;omega)) hi5)
  have hkf:Kids (From base) (set5 w5 (w.heap.size+1) v0 v1 v2 v3 v4) R o2 c2:=by
    have g1:=(hk2.setCell ⟨b',o'+1,none⟩ (.slice o2 R.length c2) (by have:=HW.size;simp only [];omega)).pr hp5
    exact (g1.kept (set5_kept v0 v1 v2 v3 v4 (by omega))).mono (fun k h _=>by show base≤k;omega)
  refine ⟨hch.only hsp.blk,.inr ⟨by rw [hd],bp,bc,by rw [hb],by rw [hb];exact hI,?_⟩⟩
  rw [hd]
  refine do_final HW hsp hB hhi hbase hch (fun j h1 h2=>?_) ?_ ?_ (treeV_mk c2 hxl hkf)
  · rw [hcell,cell_off h2,hw2c]
  · rw [hcell,cell_off (by omega),Below.cell hw2 (p:=⟨b',o',none⟩) hsp.blk_lt];exact d0
  · rw [hcell]
    have:w2.cell? ⟨b',o'+1,none⟩=some (.slice oa xks.length cap):=hw2.cell d1
    simp [go_sem,this]
section
variable {ops:Array Oper} {o:Oper} {a:Act} {w:World} {Q:Exit→Act→World→Prop} {K:Act→World→Prop} {E:Prop}
theorem step_int (hgd:o.guard=none) (s x:Operand) (ho:o.op=.call { callee:=.builtin .append,args:=#[s,x],argTypes:=#[53,53] })
    (b:Nat) (v:Value) (xs:List Int) (hs:a.eval s=v) (hown:OwnsIs b w v xs) (B:Nat) (hx:a.eval x=.slice (some ⟨B,0,none⟩) 1 1) (y:Int)
    (hB:w.heap[B]? = some (.cells #[.int .i64 y] 3 (0,0))) (hlen:xs.length≤1000000000) (hbase:b≤w.heap.size)
    (h:∀ g cap w',OwnsIs b w' (.slice (some ⟨g,0,none⟩) (xs.length+1) cap) (xs ++ [y])→w.grownBy w' v.ownBlock→(v.ownBlock=some g∨g=w.heap.size)→K (a.put o.dst (.slice (some ⟨g,0,none⟩) (xs.length+1) cap)) w') :
    if Region.wanted o (yielded ops a.tmps)=true then Oper.wp Tryz.prog o a w K Q else E:=by
  obtain ⟨i0,hi,hz0,hz1,hz2⟩:=info_parts info_int
  refine step_append_lies w hgd s x _ ho b _ i0 _ 1 8 under_intsT hi hz0 hz1 hz2 rfl (by omega) v xs.length (ints xs) hs hown ⟨B,0,none⟩ 1 1 [.int .i64 y] hx rfl (World.news_of_block (cs:=#[.int .i64 y]) hB)
    (by intro u hu;simp at hu;subst hu;rfl) (by omega) (by unfold maxLen;omega) (by omega) hbase w.heap.size rfl ?_
  intro g cap w' g1 g2 g3 _
  refine h g cap w' ?_ g2 g3
  unfold OwnsIs
  rw [List.length_append,List.length_singleton]
  have:ints (xs ++ [y])=ints xs ++ [.int .i64 y]:=by simp
  rw [this];exact g1
end
set_option maxRecDepth 100000 in
set_option maxHeartbeats 3200000 in
theorem doNone_any (w:World) (B lo hi base:Nat) (t:Tr) (k:Int) (p:List Int) (a m:Int) (s:ByteArray) (pa pc) (vl vk:Value) (c0:w.cell? ⟨B,0,none⟩=some vl) (c1:w.cell? ⟨B,1,none⟩=some vk) (ut:UT w t lo hi vl vk) (hB:¬ (lo≤B∧B < hi)) (hf:∀ j,w.frozen? ⟨B,j,none⟩=false)
    (hp:Ints Any w p pa pc) (hat:t.at? p=none) (hd:(doneT ⟨k,p,a,m,s⟩ p t).2=7) :
    Calls Tryz.prog 92 #[.pointer (some ⟨B,0,none⟩),.agg #[.int .i64 k,.slice pa p.length pc,.int .i64 a,.int .i64 m,.string s]] w (DoPost B lo hi base w t ⟨k,p,a,m,s⟩):=by
  obtain ⟨W,hW⟩:∃ W,W=(w.alloc (.cells #[.int .i64 k,.slice pa p.length pc,.int .i64 a,.int .i64 m,.string s] 72)).alloc (.cells #[.int .i64 0,.slice none 0 0,.int .i64 0,.int .i64 0,.string ⟨#[]⟩] 72):=⟨_,rfl⟩
  have hwW:Pr w W:=by rw [hW];exact (Pr.alloc _ _).alloc' _
  have hBl:=lt_of_cell c0
  have hF:FindPost W B 0 lo hi t p (.returned (.pointer none)) W→True:=fun _=>trivial
  have CF:=Lib.hid (find_any W B 0 lo hi t p pa pc (Spot.top (hwW.cell c0) (hwW.cell c1) (ut.pr hwW) hB (fun j=>by rw [hwW.frozen hBl];exact hf j)) (hp.pr hwW))
  have s1:W.cell? ⟨w.heap.size,1,none⟩=some (.slice pa p.length pc):=by rw [hW];simp [go_sem]
  have s0:W.cell? ⟨w.heap.size,0,none⟩=some (.int .i64 k):=by rw [hW];simp [go_sem]
  have s4:W.cell? ⟨w.heap.size,4,none⟩=some (.string s):=by rw [hW];simp [go_sem]
  have hblk:W.heap[w.heap.size+1]? = some (.cells #[.int .i64 0,.slice none 0 0,.int .i64 0,.int .i64 0,.string ⟨#[]⟩] 72 (0,0)):=by
    rw [hW];simpa using heap_alloc_new (w.alloc (.cells #[.int .i64 k,.slice pa p.length pc,.int .i64 a,.int .i64 m,.string s] 72)) (.cells #[.int .i64 0,.slice none 0 0,.int .i64 0,.int .i64 0,.string ⟨#[]⟩] 72)
  clear hF
  have CF0:Hid (Calls Tryz.prog 128 #[.pointer (some ⟨B,0,none⟩),.slice pa p.length pc] W fun e w'=>W=w'∧e=.returned (.pointer none)):=Lib.hid (CF.out.mono fun e w' ⟨h1,h2⟩=>⟨h1,by
    rcases h2 with h | ⟨b',o',lo',hi',x,_,h,_⟩
    · exact h.2
    · rw [h.at'] at hat;cases hat⟩)
  have Hd:=Lib.hid hd
  have r0:W.cell? ⟨w.heap.size+1,0,none⟩=some (.int .i64 0):=blk_cell hblk
  have r1:W.cell? ⟨w.heap.size+1,1,none⟩=some (.slice none 0 0):=blk_cell hblk
  have r2:W.cell? ⟨w.heap.size+1,2,none⟩=some (.int .i64 0):=blk_cell hblk
  have r3:W.cell? ⟨w.heap.size+1,3,none⟩=some (.int .i64 0):=blk_cell hblk
  have r4:W.cell? ⟨w.heap.size+1,4,none⟩=some (.string ⟨#[]⟩):=blk_cell hblk
  have f0:∀ j,W.frozen? ⟨w.heap.size+1,j,none⟩=false:=fun j=>blk_frozen hblk
  have f1:=f0 0;have f2:=f0 1;have f3:=f0 2;have f4:=f0 3;have f5:=f0 4
  have HW:=Lib.hid hwW
  clear hd hat CF hwW hblk f0
  go_enter Tryz.func92,Tryz.ntmps92
  go_upto_region 1 with fail
  rw [← hW]
  have HWe:=Lib.hid hW
  clear hW
  go_wp2_with (first
    | (go_at_call 128;(with_reducible refine Calls.mono CF0.out ?_);rintro e w1 ⟨rfl,rfl⟩))
  refine bodyPost_ret (v:=.tuple #[.agg #[.int .i64 0,.slice none 0 0,.int .i64 0,.int .i64 0,.string ⟨#[]⟩],.int .i64 ((7:Nat):Int)]) (by simp [results,Tryz.results92,go_sem,r0,r1,r2,r3,r4]) rfl (DoPost.no ?_ 7 Hd.out (by decide))
  exact ((((HW.out.setCell (by simp) _).setCell (by simp) _).setCell (by simp) _).setCell (by simp) _).setCell (by simp) _
set_option maxRecDepth 100000 in
set_option maxHeartbeats 3200000 in
theorem doInsert_any (w:World) (B lo hi base:Nat) (t:Tr) (p:List Int) (n m:Nat) (s:ByteArray) (pa pc) (vl vk:Value) (c0:w.cell? ⟨B,0,none⟩=some vl) (c1:w.cell? ⟨B,1,none⟩=some vk) (ut:UT w t lo hi vl vk) (hB:¬ (lo≤B∧B < hi)) (hf:∀ j,w.frozen? ⟨B,j,none⟩=false)
    (hhi:hi≤w.heap.size) (hbase:base≤lo) (hp:Ints (fun k=>k≠B∧¬ (lo≤k∧k < hi)) w p pa pc) (hs:s.size≤maxLen) (hpl:p.length≤100000) (xl:ByteArray) (xks:List Tr) (hat:t.at? p=some (.node xl xks)) (hxs:xks.length≤10000) :
    Calls Tryz.prog 92 #[.pointer (some ⟨B,0,none⟩),.agg #[.int .i64 3,.slice pa p.length pc,.int .i64 n,.int .i64 m,.string s]] w (DoPost B lo hi base w t ⟨3,p,n,m,s⟩):=by
  obtain ⟨W,hW⟩:∃ W,W=(w.alloc (.cells #[.int .i64 3,.slice pa p.length pc,.int .i64 n,.int .i64 m,.string s] 72)).alloc (.cells #[.int .i64 0,.slice none 0 0,.int .i64 0,.int .i64 0,.string ⟨#[]⟩] 72):=⟨_,rfl⟩
  have hwW:Pr w W:=by rw [hW];exact (Pr.alloc _ _).alloc' _
  have hWs:W.heap.size=w.heap.size+2:=by rw [hW];simp
  have hBl:=lt_of_cell c0
  have hF:FindPost W B 0 lo hi t p (.returned (.pointer none)) W→True:=fun _=>trivial
  have CF:=Lib.hid (find_any W B 0 lo hi t p pa pc (Spot.top (hwW.cell c0) (hwW.cell c1) (ut.pr hwW) hB (fun j=>by rw [hwW.frozen hBl];exact hf j)) (Flat.any (Flat.pr hwW hp)))
  have HP:=Lib.hid hp
  have s1:W.cell? ⟨w.heap.size,1,none⟩=some (.slice pa p.length pc):=by rw [hW];simp [go_sem]
  have s0:W.cell? ⟨w.heap.size,0,none⟩=some (.int .i64 3):=by rw [hW];simp [go_sem]
  have s2:W.cell? ⟨w.heap.size,2,none⟩=some (.int .i64 n):=by rw [hW];simp [go_sem]
  have s3:W.cell? ⟨w.heap.size,3,none⟩=some (.int .i64 m):=by rw [hW];simp [go_sem]
  have s4:W.cell? ⟨w.heap.size,4,none⟩=some (.string s):=by rw [hW];simp [go_sem]
  have hblk:W.heap[w.heap.size+1]? = some (.cells #[.int .i64 0,.slice none 0 0,.int .i64 0,.int .i64 0,.string ⟨#[]⟩] 72 (0,0)):=by
    rw [hW];simpa using heap_alloc_new (w.alloc (.cells #[.int .i64 3,.slice pa p.length pc,.int .i64 n,.int .i64 m,.string s] 72)) (.cells #[.int .i64 0,.slice none 0 0,.int .i64 0,.int .i64 0,.string ⟨#[]⟩] 72)
  clear hF
  have CF1:Hid (Calls Tryz.prog 128 #[.pointer (some ⟨B,0,none⟩),.slice pa p.length pc] W fun e w'=>W=w'∧∃ b' o' lo' hi',e=.returned (.pointer (some ⟨b',o',none⟩))∧Spot W B 0 lo hi t p b' o' lo' hi' (.node xl xks)):=Lib.hid (CF.out.mono fun e w' ⟨h1,h2⟩=>⟨h1,by
    rcases h2 with h | ⟨b',o',lo',hi',x,he,h,_⟩
    · rw [h.1] at hat;cases hat
    · have:=h.at';rw [hat] at this;cases this;exact ⟨b',o',lo',hi',he,h⟩⟩)
  have hd:=doneT_some ⟨3,p,n,m,s⟩ (by simp) p t _ hat
  have hb:backD t ⟨3,p,n,m,s⟩=⟨2,p ++ [(n:Int)],0,0,⟨#[]⟩⟩:=by unfold backD;rw [if_neg (by simp),if_pos rfl]
  rw [leafT_node,if_neg (by simp),if_neg (by simp)] at hd
  simp only [Int.toNat_natCast] at hd
  have Hb:=Lib.hid hb
  have HW:=Lib.hid hwW
  have Hblk:=Lib.hid hblk
  have HWs:=Lib.hid hWs
  have r0:W.cell? ⟨w.heap.size+1,0,none⟩=some (.int .i64 0):=blk_cell hblk
  have r1:W.cell? ⟨w.heap.size+1,1,none⟩=some (.slice none 0 0):=blk_cell hblk
  have r2:W.cell? ⟨w.heap.size+1,2,none⟩=some (.int .i64 0):=blk_cell hblk
  have r3:W.cell? ⟨w.heap.size+1,3,none⟩=some (.int .i64 0):=blk_cell hblk
  have r4:W.cell? ⟨w.heap.size+1,4,none⟩=some (.string ⟨#[]⟩):=blk_cell hblk
  have f0:∀ j,W.frozen? ⟨w.heap.size+1,j,none⟩=false:=fun j=>blk_frozen hblk
  have f1:=f0 0;have f2:=f0 1;have f3:=f0 2;have f4:=f0 3;have f5:=f0 4
  clear hb hat CF hwW hblk hWs f0
  have ul:IntKind.i64.wrap ((xks.length:Int) - (n:Int))=(xks.length:Int) - (n:Int)∨xks.length < n:=by
    by_cases h:xks.length < n
    · exact .inr h
    · exact .inl (IntWalk.i64_in _ (by omega))
  by_cases hr:(xks.length:Int) < (n:Int)∨(xks.length:Int) - (n:Int) < (m:Int)
  · rw [if_pos hr] at hd
    have hd2:(doneT ⟨3,p,n,m,s⟩ p t).2=9:=by rw [hd]
    have Hd:=Lib.hid hd2
    clear hd hd2
    by_cases h1:(xks.length:Int) < (n:Int)
    · have g1:decide ((xks.length:Int) < (n:Int))=true:=decide_eq_true h1
      have g1':decide (xks.length < n)=true:=by simp;omega
      clear ul hr
      go_enter Tryz.func92,Tryz.ntmps92
      go_upto_region 1 with fail
      rw [← hW]
      clear hW
      go_upto_region 10 with (first
        | (go_at_call 128;(with_reducible refine Calls.mono CF1.out ?_);rintro e w1 ⟨rfl,b',o',lo',hi',rfl,hsp⟩))
      obtain ⟨oa,cap,d0,d1,hxk,hxl⟩:=hsp.cells
      clear hsp
      go_quiet (fail)
      go_wp2_with fail
      refine bodyPost_ret (v:=.tuple #[.agg #[.int .i64 0,.slice none 0 0,.int .i64 0,.int .i64 0,.string ⟨#[]⟩],.int .i64 ((9:Nat):Int)]) (by simp [results,Tryz.results92,go_sem,r0,r1,r2,r3,r4]) rfl (DoPost.no ?_ 9 Hd.out (by decide))
      exact set5_pr _ _ _ _ _ (HW.out.trans (Pr.drewN _ _)) (by simp)
    · have g1:decide ((xks.length:Int) < (n:Int))=false:=decide_eq_false h1
      have g1':decide (xks.length < n)=false:=by simp;omega
      have h2:(xks.length:Int) - (n:Int) < (m:Int):=by omega
      have g2:decide ((xks.length:Int) - (n:Int) < (m:Int))=true:=decide_eq_true h2
      have u1:IntKind.i64.wrap ((xks.length:Int) - (n:Int))=(xks.length:Int) - (n:Int):=IntWalk.i64_in _ (by omega)
      clear ul hr
      go_enter Tryz.func92,Tryz.ntmps92
      go_upto_region 1 with fail
      rw [← hW]
      clear hW
      go_upto_region 10 with (first
        | (go_at_call 128;(with_reducible refine Calls.mono CF1.out ?_);rintro e w1 ⟨rfl,b',o',lo',hi',rfl,hsp⟩))
      obtain ⟨oa,cap,d0,d1,hxk,hxl⟩:=hsp.cells
      clear hsp
      go_quiet (fail)
      go_wp2_with fail
      refine bodyPost_ret (v:=.tuple #[.agg #[.int .i64 0,.slice none 0 0,.int .i64 0,.int .i64 0,.string ⟨#[]⟩],.int .i64 ((9:Nat):Int)]) (by simp [results,Tryz.results92,go_sem,r0,r1,r2,r3,r4]) rfl (DoPost.no ?_ 9 Hd.out (by decide))
      exact set5_pr _ _ _ _ _ (HW.out.trans (Pr.drewN _ _)) (by simp)
  · rw [if_neg hr] at hd
    have Hd:=Lib.hid hd
    have g1:decide ((xks.length:Int) < (n:Int))=false:=by simp;omega
    have g1':decide (xks.length < n)=false:=by simp;omega
    have g2:decide ((xks.length:Int) - (n:Int) < (m:Int))=false:=by simp;omega
    have u1:IntKind.i64.wrap ((xks.length:Int) - (n:Int))=(xks.length:Int) - (n:Int):=IntWalk.i64_in _ (by omega)
    have hnm:n+m≤xks.length:=by omega
    clear ul hr hd
    go_enter Tryz.func92,Tryz.ntmps92
    go_upto_region 1 with fail
    rw [← hW]
    clear hW
    go_upto_region 10 with (first
      | (go_at_call 128;(with_reducible refine Calls.mono CF1.out ?_);rintro e w1 ⟨rfl,b',o',lo',hi',rfl,hsp⟩))
    obtain ⟨oa,cap,d0,d1,hxk,hxl⟩:=hsp.cells
    have Hsp:=Lib.hid hsp
    have Hxk:=Lib.hid hxk
    have hbl:=hsp.blk_lt
    have hfr:=hsp.free (o'+1)
    have hcap:=hxk.1.1
    have hcm:cap≤9223372036854775807:=by have:=hxk.1.2;unfold maxLen at this;omega
    clear hsp hxk
    go_quiet (fail)
    go_upto_region 12 with fail
    obtain ⟨V,hV⟩:∃ V,V=W.drewN nq:=⟨_,rfl⟩
    have hWV:Pr W V:=by rw [hV];exact Pr.drewN _ _
    have hVs:V.heap.size=W.heap.size:=by rw [hV];simp
    rw [← hV]
    have v1:=hWV.cell s1;have v2:=hWV.cell s2;have v3:=hWV.cell s3;have v4:=hWV.cell s4;have v5:=hWV.cell d1
    obtain ⟨mid,hmid⟩:∃ mid,mid=(xks.drop n).take m:=⟨_,rfl⟩
    have hml:mid.length=m:=by rw [hmid];simp;omega
    have Hmid:=Lib.hid hmid;have Hml:=Lib.hid hml;have HWV:=Lib.hid hWV;have HVs:=Lib.hid hVs
    have hwl:w.heap.size < V.heap.size:=by rw [hVs,HWs.out];omega
    have hbv:b' < V.heap.size:=by rw [hVs];exact hbl
    clear hV hmid hml hWV hVs s0 s1 s2 s3 s4 d0 d1 r0 r1 r2 r3 r4 f1 f2 f3 f4 f5 g1 g1' g2 u1
    have a1:(0:Int)≤n:=by omega
    have a2:(n:Int)≤cap:=by omega
    have a3:(n:Int)≤xks.length:=by omega
    have a4:(0:Int)≤(n:Int)+m:=by omega
    have a5:(n:Int)+m≤xks.length:=by omega
    have a6:(n:Int)+m≤cap:=by omega
    have a7:(xks.length:Int)≤cap:=by omega
    have a8:(n:Int)≤(n:Int)+m:=by omega
    have u1:IntKind.i64.wrap ((n:Int)+m)=(n:Int)+m:=IntWalk.i64_in _ (by omega)
    have u2:((n:Int)+m).toNat=n+m:=by omega
    go_cut [8] from 61 to 76 (fun v8 wx=>∃ Bk oc cc,v8=.pointer (some ⟨Bk,0,none⟩)∧wx.heap[Bk]? = some (.cells #[.string s,.slice oc m cc] 46 (0,0))∧V.heap.size≤Bk∧Kids (fun k=>(lo'≤k∧k < hi')∨(V.heap.size≤k∧k≠Bk)) wx mid oc cc∧Pr V wx)
    case first =>
      have v2:=stays v2;have v3:=stays v3;have v4:=stays v4;have v5:=stays v5
      have hhl:hi'≤V.heap.size:=by have:=Hsp.out.high;have:=HVs.out;have:=HWs.out;omega
      by_cases hcn:cap=n
      · have a9:m=0:=by omega
        have a10:xks.length=n:=by omega
        have Ha10:=Lib.hid a10
        clear a10
        subst a9
        subst hcn
        clear a4 a5 a6 a8 u1 u2
        have v3:∀ W',Pr V W'→W'.cell? ⟨w.heap.size,3,none⟩=some (.int .i64 0):=v3
        have b1:(0:Int)≤cap:=by omega
        have b2:IntKind.i64.wrap (cap:Int)=cap:=IntWalk.i64_in _ (by omega)
        have CT:Hid (∀ W',Pr V W'→Calls Tryz.prog 130 #[.slice oa 0 0] W' fun e w'=>(∃ ob cp,e=.returned (.slice ob 0 cp)∧Kids (fun k=>(lo'≤k∧k < hi')∨W'.heap.size≤k) w' mid ob cp)∧Pr W' w'):=Lib.hid fun W' h=>by
          have hk:Kids (fun k=>lo'≤k∧k < hi') W' mid oa 0:=by
            have h0:mid=[]:=List.eq_nil_of_length_eq_zero Hml.out
            rw [h0];exact Kids.nil _ _ _ _ (Nat.zero_le _)
          have:=cloneTrees_any _ mid _ _ W' hk (by rw [Hml.out];omega)
          rw [Hml.out] at this;exact this
        go_region_held3 (fun W'=>Pr V W')
          (first | with_reducible exact Pr.drew V | with_reducible exact (Pr.alloc _ _).drew' | with_reducible exact hp | with_reducible exact hp.alloc' _ | exact Pr.setCell (Pr.setCell hp (Nat.le_refl _) _) (Nat.le_refl _) _)
          (first
            | (go_at_call 130;(with_reducible refine Calls.mono (CT.out _ (Pr.drew V)) ?_);rintro e w2 ⟨⟨oc,cc,rfl,hoc⟩,hb⟩;have hp:=(Pr.drew V).trans hb)
            | (go_at_call 130;(with_reducible refine Calls.mono (CT.out _ (Pr.drew' (Pr.alloc _ _))) ?_);rintro e w2 ⟨⟨oc,cc,rfl,hoc⟩,hb⟩;have hp:=((Pr.alloc _ _).drew').trans hb;have z:=hb.blk ((Pr.drew _).blk (heap_alloc_new V _));have z0:w2.cell? ⟨V.heap.size,0,none⟩=some (.string ⟨#[]⟩):=blk_cell z;have z1:w2.cell? ⟨V.heap.size,1,none⟩=some (.slice none 0 0):=blk_cell z;have y0:w2.frozen? ⟨V.heap.size,0,none⟩=false:=blk_frozen z;have y1:w2.frozen? ⟨V.heap.size,1,none⟩=false:=blk_frozen z;have Hz:=Lib.hid z;clear z))
        all_goals
          go_wp2_with fail
          go_meet
        case rel=>exact ⟨w2.heap.size,oc,cc,rfl,heap_alloc_new w2 _,hp.size,(hoc.mono (fun k h hl=>by rcases h with h | h;exact .inl h;exact .inr ⟨by simpa using h,by omega⟩)).pr (Pr.alloc _ _),hp.alloc' _⟩
        case rel=>exact ⟨V.heap.size,oc,cc,rfl,blk_set (o:=1) (blk_set (o:=0) Hz.out _) _,Nat.le_refl _,((hoc.mono (S':=fun k=>(lo'≤k∧k < hi')∨(V.heap.size≤k∧k≠V.heap.size)) (fun k h hl=>by rcases h with h | h;exact .inl h;exact .inr (by have:V.heap.size+1≤k:=(by simpa using h);omega))).setCell _ _ (by simp;omega)).setCell _ _ (by simp;omega),Pr.setCell (Pr.setCell hp (Nat.le_refl _) _) (Nat.le_refl _) _⟩
      · have a9:¬ cap=n:=hcn
        have CT:Hid (∀ W',Pr V W'→Calls Tryz.prog 130 #[.slice (Option.map (fun x=>x.add (n * 2)) oa) m (cap - n)] W' fun e w'=>(∃ ob cp,e=.returned (.slice ob m cp)∧Kids (fun k=>(lo'≤k∧k < hi')∨W'.heap.size≤k) w' mid ob cp)∧Pr W' w'):=Lib.hid fun W' h=>by
          have hk:=((Hxk.out.pr (HWV.out.trans h)).cutL n (by omega)).cutP m (by simp;omega)
          rw [← Hmid.out] at hk
          have:=cloneTrees_any _ mid _ _ W' hk (by rw [Hml.out];omega)
          rw [Hml.out] at this;exact this
        go_region_held3 (fun W'=>Pr V W')
          (first | with_reducible exact Pr.drew V | with_reducible exact (Pr.alloc _ _).drew' | with_reducible exact hp | with_reducible exact hp.alloc' _ | exact Pr.setCell (Pr.setCell hp (Nat.le_refl _) _) (Nat.le_refl _) _)
          (first
            | (go_at_call 130;(with_reducible refine Calls.mono (CT.out _ (Pr.drew V)) ?_);rintro e w2 ⟨⟨oc,cc,rfl,hoc⟩,hb⟩;have hp:=(Pr.drew V).trans hb)
            | (go_at_call 130;(with_reducible refine Calls.mono (CT.out _ (Pr.drew' (Pr.alloc _ _))) ?_);rintro e w2 ⟨⟨oc,cc,rfl,hoc⟩,hb⟩;have hp:=((Pr.alloc _ _).drew').trans hb;have z:=hb.blk ((Pr.drew _).blk (heap_alloc_new V _));have z0:w2.cell? ⟨V.heap.size,0,none⟩=some (.string ⟨#[]⟩):=blk_cell z;have z1:w2.cell? ⟨V.heap.size,1,none⟩=some (.slice none 0 0):=blk_cell z;have y0:w2.frozen? ⟨V.heap.size,0,none⟩=false:=blk_frozen z;have y1:w2.frozen? ⟨V.heap.size,1,none⟩=false:=blk_frozen z;have Hz:=Lib.hid z;clear z))
        all_goals
          go_wp2_with fail
          go_meet
        case rel=>exact ⟨w2.heap.size,oc,cc,rfl,heap_alloc_new w2 _,hp.size,(hoc.mono (fun k h hl=>by rcases h with h | h;exact .inl h;exact .inr ⟨by simpa using h,by omega⟩)).pr (Pr.alloc _ _),hp.alloc' _⟩
        case rel=>exact ⟨V.heap.size,oc,cc,rfl,blk_set (o:=1) (blk_set (o:=0) Hz.out _) _,Nat.le_refl _,((hoc.mono (S':=fun k=>(lo'≤k∧k < hi')∨(V.heap.size≤k∧k≠V.heap.size)) (fun k h hl=>by rcases h with h | h;exact .inl h;exact .inr (by have:V.heap.size+1≤k:=(by simpa using h);omega))).setCell _ _ (by simp;omega)).setCell _ _ (by simp;omega),Pr.setCell (Pr.setCell hp (Nat.le_refl _) _) (Nat.le_refl _) _⟩
    case rest =>
      obtain ⟨Bk,oc,cc,rfl,hbk,hbv,hmk,hpx⟩:=hcut
      obtain ⟨wx,hwx⟩:∃ wx,wx=wc:=⟨_,rfl⟩
      subst hwx
      have z0:wx.cell? ⟨Bk,0,none⟩=some (.string s):=blk_cell hbk
      have z1:wx.cell? ⟨Bk,1,none⟩=some (.slice oc m cc):=blk_cell hbk
      have x1:=hpx.cell v1;have x2:=hpx.cell v2;have x3:=hpx.cell v3
      have RP:Hid (∀ W' ub,Pr wx W'→Kids (fun k=>(lo'≤k∧k < hi')∨V.heap.size≤k) W' [.node s mid] ub 1→Calls Tryz.prog 131 #[.pointer (some ⟨b',o',none⟩),.int .i64 n,.int .i64 m,.slice ub 1 1] W' (ReplPost (fun k=>(lo'≤k∧k < hi')∨V.heap.size≤k) W' b' o' (repl xks n m [.node s mid]))):=Lib.hid fun W' ub h hu =>
        replace_any _ b' o' n m xks [.node s mid] oa cap ub 1 W' ((hpx.trans h).cell v5) (by rw [(HWV.out.trans (hpx.trans h)).frozen hbl];exact hfr) (((Hxk.out.pr (HWV.out.trans (hpx.trans h)))).mono (fun k hk _=>.inl hk)) hu hnm (by omega) (by simp)
      have hk1:∀ o,Kids (fun k=>(lo'≤k∧k < hi')∨V.heap.size≤k) ((wx.alloc o)) mid oc cc:=fun o=>(hmk.mono (fun k h _=>by rcases h with h | h;exact .inl h;exact .inr h.1)).pr (Pr.alloc _ _)
      have hu1:Kids (fun k=>(lo'≤k∧k < hi')∨V.heap.size≤k) (wx.alloc (.cells #[.string s,.slice oc m cc] 46)) [.node s mid] (some ⟨wx.heap.size,0,none⟩) 1:=by
        refine ⟨⟨by simp,by unfold maxLen;omega⟩,wx.heap.size,0,fun _=>⟨rfl,.inr hpx.size⟩,.string s,.slice oc m cc,by simp [go_sem],by simp [go_sem],?_,trivial⟩
        have:=treeV_mk cc hs (hk1 (.cells #[.string s,.slice oc m cc] 46))
        rw [Hml.out] at this;exact this
      have Hk1:=Lib.hid hk1
      have Hu1:=Lib.hid hu1
      have Hpx:=Lib.hid hpx
      clear hk1 hbk hmk hpx hu1
      go_upto_region 14 with (first
        | (go_at_call 131;refine (RP.out _ _ (Pr.alloc _ _) Hu1.out).mono ?_;rintro e w' ⟨w2,o2,c2,rfl,rfl,hp2,hk2⟩))
      have hwx:Pr V w2:=Hpx.out.trans ((Pr.alloc _ _).trans hp2)
      obtain ⟨R,hR⟩:∃ R,R=repl xks n m [.node s mid]:=⟨_,rfl⟩
      rw [← hR] at hk2 ⊢
      obtain ⟨wz,hwz⟩:∃ wz,wz=w2.setCell ⟨b',o'+1,none⟩ (.slice o2 R.length c2):=⟨_,rfl⟩
      rw [← hwz]
      have hbw:b' < w.heap.size:=by rcases Hsp.out.blk with h | h <;> omega
      have hck:∀ b j (v:Value),b≠b'→V.cell? ⟨b,j,none⟩=some v→∀ W',Chg (fun k=>k=w.heap.size+1) wz W'→b≠w.heap.size+1→W'.cell? ⟨b,j,none⟩=some v:=fun b j v h1 h2 W' h3 h4=>by
        have g1:=hwx.cell h2
        have g2:wz.cell? ⟨b,j,none⟩=some v:=by rw [hwz];exact cell_far g1 (fun e=>h1 e.symm)
        have g3:=lt_of_cell g2
        rw [World.cell?_of_block (h3.block b g3 h4)];exact g2
      have y1:∀ W',Chg (fun k=>k=w.heap.size+1) wz W'→W'.cell? ⟨w.heap.size,1,none⟩=some (.slice pa p.length pc):=fun W' h=>hck _ _ _ (by omega) v1 W' h (by omega)
      have y2:∀ W',Chg (fun k=>k=w.heap.size+1) wz W'→W'.cell? ⟨w.heap.size,2,none⟩=some (.int .i64 n):=fun W' h=>hck _ _ _ (by omega) v2 W' h (by omega)
      have hblz:wz.heap[w.heap.size+1]? = some (.cells #[.int .i64 0,.slice none 0 0,.int .i64 0,.int .i64 0,.string ⟨#[]⟩] 72 (0,0)):=by
        rw [hwz,Below.heap_setCell _ _ _ _ (by simp;omega)]
        exact (HWV.out.trans hwx).blk Hblk.out
      have hpz:Ints Any wz p pa pc:=by
        have g1:Ints (fun k=>k≠b') w p pa pc:=Flat.mono (fun k h _=>by rcases Hsp.out.blk with e | e <;> omega) HP.out
        rw [hwz]
        exact Flat.any ((Flat.pr (HW.out.trans (HWV.out.trans hwx)) g1).kept (kept_setCell _ _ _ _ (by simp)))
      have CL:Hid (∀ W',Pr wz W'→Calls Tryz.prog 129 #[.slice pa p.length pc] W' fun e w'=>(∃ v,e=.returned v∧OwnsIs wz.heap.size w' v p)∧Pr W' w'):=Lib.hid fun W' h=>(cloneInts_any p pa pc W' (Flat.pr h hpz) hpl).mono fun e w' ⟨⟨v,h1,h2⟩,h3⟩=>⟨⟨v,h1,h2.mono h.size⟩,h3⟩
      have hrs:w.heap.size+1 < wz.heap.size:=blk_lt hblz
      have Hwz:=Lib.hid hwz;have HR:=Lib.hid hR;have Hk2:=Lib.hid hk2;have Hwx:=Lib.hid hwx;have Hp2:=Lib.hid hp2;have Hblz:=Lib.hid hblz
      clear hwz hR hk2 hwx hp2 hblz hck hpz
      have hp:=Pr.drew wz
      go_region_held3 (fun W'=>Chg (fun k=>k=w.heap.size+1) wz W')
        (first | with_reducible exact (Pr.drew wz).chg _ | with_reducible exact (Pr.drew' (Pr.alloc _ _)).chg _ | with_reducible exact hp5.chg _ | with_reducible exact hp6.chg _ | with_reducible exact (hp6.alloc' _).chg _ | exact set5_chg _ _ _ _ _ (hp5.chg _) (.inl rfl))
        (first
        | (go_simp;go_at_call 129;(with_reducible refine Calls.mono (CL.out _ (Pr.drew wz)) ?_);rintro e w6 ⟨⟨v,rfl,ho⟩,hb⟩;have hp6:=(Pr.drew wz).trans hb)
        | (go_simp;go_at_call 129;(with_reducible refine Calls.mono (CL.out _ (Pr.drew' (Pr.alloc _ _))) ?_);rintro e w6 ⟨⟨v,rfl,ho⟩,hb⟩;have hp6:=((Pr.alloc _ _).drew').trans hb)
        | ((refine step_int rfl _ _ rfl wz.heap.size v p rfl (ho.pr (Pr.alloc _ _)) w6.heap.size rfl (n:Int) (heap_alloc_new w6 _) (by omega) (by have:=hp6.size;simp;omega) ?_);intro g9 c9 w5 ho5 hg5 hat5;have hp5:Pr wz w5:=Below.grown (hp6.alloc' _) hg5 (by have:=hp6.size;simp;omega) (fun k hk=>(ho.block k hk).1);have q:=hp5.blk Hblz.out;have q0:w5.cell? ⟨w.heap.size+1,0,none⟩=some (.int .i64 0):=blk_cell q;have g0:w5.frozen? ⟨w.heap.size+1,0,none⟩=false:=blk_frozen q;have q1:w5.cell? ⟨w.heap.size+1,1,none⟩=some (.slice none 0 0):=blk_cell q;have g1:w5.frozen? ⟨w.heap.size+1,1,none⟩=false:=blk_frozen q;have q2:w5.cell? ⟨w.heap.size+1,2,none⟩=some (.int .i64 0):=blk_cell q;have g2:w5.frozen? ⟨w.heap.size+1,2,none⟩=false:=blk_frozen q;have q3:w5.cell? ⟨w.heap.size+1,3,none⟩=some (.int .i64 0):=blk_cell q;have g3:w5.frozen? ⟨w.heap.size+1,3,none⟩=false:=blk_frozen q;have q4:w5.cell? ⟨w.heap.size+1,4,none⟩=some (.string ⟨#[]⟩):=blk_cell q;have g4:w5.frozen? ⟨w.heap.size+1,4,none⟩=false:=blk_frozen q;clear q)
        | ((refine step_int rfl _ _ rfl wz.heap.size v p rfl ho wz.heap.size rfl (n:Int) (hb.blk ((Pr.drew _).blk (heap_alloc_new wz _))) (by omega) hp6.size ?_);intro g9 c9 w5 ho5 hg5 hat5;have hp5:Pr wz w5:=Below.grown hp6 hg5 hp6.size (fun k hk=>(ho.block k hk).1);have q:=hp5.blk Hblz.out;have q0:w5.cell? ⟨w.heap.size+1,0,none⟩=some (.int .i64 0):=blk_cell q;have g0:w5.frozen? ⟨w.heap.size+1,0,none⟩=false:=blk_frozen q;have q1:w5.cell? ⟨w.heap.size+1,1,none⟩=some (.slice none 0 0):=blk_cell q;have g1:w5.frozen? ⟨w.heap.size+1,1,none⟩=false:=blk_frozen q;have q2:w5.cell? ⟨w.heap.size+1,2,none⟩=some (.int .i64 0):=blk_cell q;have g2:w5.frozen? ⟨w.heap.size+1,2,none⟩=false:=blk_frozen q;have q3:w5.cell? ⟨w.heap.size+1,3,none⟩=some (.int .i64 0):=blk_cell q;have g3:w5.frozen? ⟨w.heap.size+1,3,none⟩=false:=blk_frozen q;have q4:w5.cell? ⟨w.heap.size+1,4,none⟩=some (.string ⟨#[]⟩):=blk_cell q;have g4:w5.frozen? ⟨w.heap.size+1,4,none⟩=false:=blk_frozen q;clear q))
      all_goals
        go_wp2_with fail
        have hio:Ints (From (w.heap.size+2)) w5 (p ++ [(n:Int)]) (some ⟨g9,0,none⟩) c9:=by
          obtain ⟨oa9,cp9,he9,hi9⟩:=ho5.ints
          simp only [Value.slice.injEq] at he9
          obtain ⟨rfl,_,rfl⟩:=he9
          exact Flat.mono (fun k h _=>by have h2:wz.heap.size≤k:=h;show w.heap.size+2≤k;omega) hi9
        have hk3:Kids (fun k=>(lo'≤k∧k < hi')∨W.heap.size≤k) w2 R o2 c2:=by
          refine Hk2.out.mono fun k h _=>?_
          rcases h with h | h
          · rw [HVs.out] at h;exact h
          · refine .inr ?_
            have h1:=Hpx.out.size
            have h2:=HVs.out
            simp at h;omega
        have hpl2:(p ++ [(n:Int)]).length=p.length+1:=by simp
        have hfin:=do_end HW.out HWs.out Hsp.out hBl hhi hbase (HWV.out.trans Hwx.out) hk3 (by rw [← Hwz.out];exact hp5) ⟨3,p,n,m,s⟩ (by rw [Hd.out,HR.out,repl,Hmid.out]) 2 (p ++ [(n:Int)]) 0 0 ⟨#[]⟩ Hb.out (some ⟨g9,0,none⟩) c9 hio (.int .i64 2) (.slice (some ⟨g9,0,none⟩) (p.length+1) c9) (.int .i64 0) (.int .i64 0) (.string ⟨#[]⟩)
        rw [hpl2] at hfin
        exact bodyPost_ret (v:=.tuple #[.agg #[.int .i64 2,.slice (some ⟨g9,0,none⟩) (p.length+1) c9,.int .i64 0,.int .i64 0,.string ⟨#[]⟩],.int .i64 0]) (by simp [results,Tryz.results92,go_sem,q0,q1,q2,q3,q4]) rfl hfin
end Go.Proofs.YtdbnfhpgmcjngabGreatDoor
/- Walks: a deed done in place: a node goes. -/
namespace Go.Proofs.YtdbnfhpgmcjngabGreatDoor
open Go Go.RowKit
theorem chg_cell {X:Nat→Prop} {w w1:World} (h:Chg X w w1) {b o:Nat} {v:Value} (hc:w.cell? ⟨b,o,none⟩=some v) (hX:¬ X b):w1.cell? ⟨b,o,none⟩=some v:=by
  rw [World.cell?_of_block (h.block b (lt_of_cell hc) hX)];exact hc
theorem addrAt_pr {w w':World} (hp:Pr w w'):∀ (p:List Int) (b o:Nat) (r:Nat × Nat),addrAt w b o p=some r→addrAt w' b o p=some r
  | [],b,o,r,h=>h
  | k :: p,b,o,r,h=>by
    simp only [addrAt] at h ⊢
    cases hc:w.cell? ⟨b,o+1,none⟩ with
    | none=>rw [hc] at h;simp at h
    | some v =>
      rw [hp.cell hc]
      rw [hc] at h
      split at h
      · rename_i b2 o2 _ _ he
        cases he
        exact addrAt_pr hp p _ _ _ h
      · cases h
theorem spot_exists {w:World} {B o lo hi:Nat} {t:Tr} (h:Spot w B o lo hi t [] B o lo hi t) (p:List Int):∀ (k:Nat) (x:Tr),k≤p.length→t.at? (p.take k)=some x→∃ b' o' lo' hi',Spot w B o lo hi t (p.take k) b' o' lo' hi' x∧addrAt w B o (p.take k)=some (b',o')
  | 0,x,_,hx=>by cases hx;exact ⟨B,o,lo,hi,by simpa using h,rfl⟩
  | k+1,x,hk,hx=>by
    cases hu:t.at? (p.take k) with
    | none => 
      have:=t.at?_stop (p.take (k+1)) k (by rw [List.take_take];simpa using hu)
      rw [this] at hx;cases hx
    | some u =>
      obtain ⟨b',o',lo',hi',hs,ha⟩:=spot_exists h p k u (by omega) hu
      have h1:=t.at?_take p k (by omega) hu
      rw [h1] at hx
      cases u with
      | node l ks =>
      obtain ⟨h0,hi2,hv,_⟩:=kid?_some hx
      obtain ⟨oa,cap,b2,o2,lo2,hi3,c0,c1,rfl,hs2,_,_⟩:=hs.step (p[k]).toNat hi2
      have e:((p[k]).toNat:Int)=p[k]:=by omega
      have hx2:ks[(p[k]).toNat]=x:=by rw [← hv];simp [kidN,hi2]
      rw [e,hx2,← List.take_succ_eq_append_getElem (by omega)] at hs2
      refine ⟨b2,o2+(p[k]).toNat * 2,lo2,hi3,hs2,?_⟩
      rw [List.take_succ_eq_append_getElem (by omega),addrAt_append _ _ _ _ _ _ _ ha]
      simp only [addrAt,c1]
theorem Ints.cutP {S:Nat→Prop} {w:World} {xs:List Int} {oa:Option Addr} {cap:Nat} (h:Ints S w xs oa cap) (n:Nat) (hn:n≤xs.length):Ints S w (xs.take n) oa cap:=by
  obtain ⟨⟨h1,h2⟩,b,o,h3,h4⟩:=h
  simp only [ints,List.length_map] at h1 h4
  refine ⟨⟨by simp only [ints,List.length_map,List.length_take];omega,h2⟩,b,o,fun hne=>?_,fun i hi=>?_⟩
  · exact h3 (by intro e;simp [ints] at e hne;exact hne.2 e)
  · simp only [ints,List.length_map,List.length_take] at hi
    have:=h4 i (by omega)
    simpa [ints] using this
set_option maxRecDepth 100000 in
set_option maxHeartbeats 6400000 in
theorem doDelete_any (w:World) (B lo hi base:Nat) (t:Tr) (up:List Int) (n:Nat) (pa pc) (vl vk:Value) (c0:w.cell? ⟨B,0,none⟩=some vl) (c1:w.cell? ⟨B,1,none⟩=some vk) (ut:UT w t lo hi vl vk) (hB:¬ (lo≤B∧B < hi)) (hf:∀ j,w.frozen? ⟨B,j,none⟩=false)
    (hhi:hi≤w.heap.size) (hbase:base≤lo) (hp:Ints (fun k=>k≠B∧¬ (lo≤k∧k < hi)) w (up ++ [(n:Int)]) pa pc) (hpl:up.length≤100000) (ul:ByteArray) (uks:List Tr) (hat:t.at? up=some (.node ul uks)) (hn:n < uks.length) (xl:ByteArray) (xks:List Tr) (hxn:uks[n]=.node xl xks) (hxs:xks.length≤10000) (hus:uks.length≤10000) :
    Calls Tryz.prog 92 #[.pointer (some ⟨B,0,none⟩),.agg #[.int .i64 2,.slice pa (up.length+1) pc,.int .i64 0,.int .i64 0,.string ⟨#[]⟩]] w (DoPost B lo hi base w t ⟨2,up ++ [(n:Int)],0,0,⟨#[]⟩⟩):=by
  obtain ⟨W,hW⟩:∃ W,W=(w.alloc (.cells #[.int .i64 2,.slice pa (up.length+1) pc,.int .i64 0,.int .i64 0,.string ⟨#[]⟩] 72)).alloc (.cells #[.int .i64 0,.slice none 0 0,.int .i64 0,.int .i64 0,.string ⟨#[]⟩] 72):=⟨_,rfl⟩
  have hwW:Pr w W:=by rw [hW];exact (Pr.alloc _ _).alloc' _
  have hWs:W.heap.size=w.heap.size+2:=by rw [hW];simp
  have hBl:=lt_of_cell c0
  have top:∀ W',Pr W W'→Spot W' B 0 lo hi t [] B 0 lo hi t:=fun W' h=>Spot.top ((hwW.trans h).cell c0) ((hwW.trans h).cell c1) (ut.pr (hwW.trans h)) hB (fun j=>by rw [(hwW.trans h).frozen hBl];exact hf j)
  have hpl1:(up ++ [(n:Int)]).length=up.length+1:=by simp
  obtain ⟨bu,ou,lu,hu,hsu,hau⟩:=spot_exists (top W (Pr.refl _)) up up.length _ (Nat.le_refl _) (by rw [List.take_length];exact hat)
  rw [List.take_length] at hsu hau
  obtain ⟨oau,capu,b2,o2,lx,hx,u0,u1,rfl,hsx,hlx,hhx,hbx⟩:=hsu.step n hn
  have hax:addrAt W B 0 (up ++ [(n:Int)])=some (b2,o2+n * 2):=by
    rw [addrAt_append _ _ _ _ _ _ _ hau];simp only [addrAt,u1,Int.toNat_natCast]
  rw [hxn] at hsx
  have CF1:Hid (Calls Tryz.prog 128 #[.pointer (some ⟨B,0,none⟩),.slice pa (up.length+1) pc] W fun e w'=>W=w'∧e=.returned (.pointer (some ⟨b2,o2+n * 2,none⟩))):=Lib.hid (by
    have:=find_any W B 0 lo hi t (up ++ [(n:Int)]) pa pc (top W (Pr.refl _)) (Flat.any (Flat.pr hwW hp))
    rw [hpl1] at this
    refine this.mono fun e w' ⟨h1,h2⟩=>⟨h1,?_⟩
    rcases h2 with h | ⟨b',o',lo',hi',x,he,_,ha⟩
    · rw [hsx.at'] at h;cases h.1
    · rw [hax] at ha;cases ha;exact he)
  have hup:Ints (fun k=>k≠B∧¬ (lo≤k∧k < hi)) w up pa pc:=by
    have:=hp.cutP up.length (by simp);rwa [List.take_left' rfl] at this
  have CF2:Hid (∀ W',Pr W W'→Calls Tryz.prog 128 #[.pointer (some ⟨B,0,none⟩),.slice pa up.length pc] W' fun e w'=>W'=w'∧e=.returned (.pointer (some ⟨bu,ou,none⟩))):=Lib.hid fun W' h=>by
    have:=find_any W' B 0 lo hi t up pa pc (top W' h) (Flat.any (Flat.pr (hwW.trans h) hup))
    refine this.mono fun e w' ⟨h1,h2⟩=>⟨h1,?_⟩
    rcases h2 with h2 | ⟨b',o',lo',hi',x,he,_,ha⟩
    · rw [hsu.at'] at h2;cases h2.1
    · rw [addrAt_pr h _ _ _ _ hau] at ha;cases ha;exact he
  have CL:Hid (∀ W',Pr W W'→Calls Tryz.prog 129 #[.slice pa up.length pc] W' fun e w'=>(∃ ob cp,e=.returned (.slice ob up.length cp)∧Ints (From W'.heap.size) w' up ob cp)∧Pr W' w'):=Lib.hid fun W' h=>cloneRead_any up pa pc W' (Flat.any (Flat.pr (hwW.trans h) hup)) hpl
  obtain ⟨pb,po,rfl,pcell⟩:=Ints.get hp up.length (by simp)
  have hpcap:up.length+1≤pc:=by have:=hp.1.1;simpa using this
  have hpcm:pc≤9223372036854775807:=by have:=hp.1.2;unfold maxLen at this;omega
  have s6:W.cell? ⟨pb,po+up.length,none⟩=some (.int .i64 n):=by rw [hwW.cell pcell];simp
  obtain ⟨_,capu',_,u2,hku,hul⟩:=hsu.cells
  rw [u1] at u2;cases u2
  obtain ⟨oax,capx,x0,x1,hkx,hxl⟩:=hsx.cells
  have hd:=doneD_some ⟨2,up ++ [(n:Int)],0,0,⟨#[]⟩⟩ rfl (n:Int) up t _ (.node xl xks) hat (by rw [Tr.kid?_in ul uks hn,hxn])
  have hb:backD t ⟨2,up ++ [(n:Int)],0,0,⟨#[]⟩⟩=⟨3,up,n,xks.length,xl⟩:=by
    unfold backD;rw [if_pos rfl];simp [hsx.at',Tr.kids_node,Tr.label_node]
  simp only [Int.toNat_natCast,Tr.kids_node,Tr.label_node] at hd
  have hblk:W.heap[w.heap.size+1]? = some (.cells #[.int .i64 0,.slice none 0 0,.int .i64 0,.int .i64 0,.string ⟨#[]⟩] 72 (0,0)):=by
    rw [hW];simpa using heap_alloc_new (w.alloc (.cells #[.int .i64 2,.slice (some ⟨pb,po,none⟩) (up.length+1) pc,.int .i64 0,.int .i64 0,.string ⟨#[]⟩] 72)) (.cells #[.int .i64 0,.slice none 0 0,.int .i64 0,.int .i64 0,.string ⟨#[]⟩] 72)
  have s0:W.cell? ⟨w.heap.size,0,none⟩=some (.int .i64 2):=by rw [hW];simp [go_sem]
  have s1:W.cell? ⟨w.heap.size,1,none⟩=some (.slice (some ⟨pb,po,none⟩) (up.length+1) pc):=by rw [hW];simp [go_sem]
  have hfu:=hsu.free (ou+1)
  have hbul:=hsu.blk_lt
  have Hsu:=Lib.hid hsu;have Hku:=Lib.hid hku;have Hkx:=Lib.hid hkx;have Hd:=Lib.hid hd;have Hb:=Lib.hid hb;have HW:=Lib.hid hwW;have HWs:=Lib.hid hWs;have Hblk:=Lib.hid hblk;have HU:=Lib.hid hup
  have hwl:w.heap.size < W.heap.size:=by omega
  have hw9:w.heap.size+1 < W.heap.size:=by omega
  have hxl2:=hsx.blk_lt
  clear hsu hsx hku hkx hd hb hwW hWs hblk top hau hax hup hp hat hxn u0 pcell hpl1
  generalize hN:up.length=N at *
  have HN:=Lib.hid hN
  clear hN
  have a1:(0:Int)≤N:=by omega
  have a2:(N:Int)≤pc:=by omega
  have a3:(N:Int) < (N:Int)+1:=by omega
  have a4:(N:Int)≤(N:Int)+1:=by omega
  have a5:(N:Int)+1≤pc:=by omega
  have u9:IntKind.i64.wrap (N:Int)=N:=IntWalk.i64_in _ (by omega)
  go_enter Tryz.func92,Tryz.ntmps92
  go_upto_region 1 with fail
  rw [← hW]
  clear hW
  go_upto_region 15 with (first
    | (go_at_call 128;(with_reducible refine Calls.mono CF1.out ?_);rintro e w1 ⟨rfl,rfl⟩))
  go_quiet (fail)
  go_upto_region 16 with fail
  obtain ⟨V,hV⟩:∃ V,V=W.drewN nq:=⟨_,rfl⟩
  have hWV:Pr W V:=by rw [hV];exact Pr.drewN _ _
  have hVs:V.heap.size=W.heap.size:=by rw [hV];simp
  rw [← hV]
  have v1:=stays (hWV.cell x0);have v2:=stays (hWV.cell x1)
  have HWV:=Lib.hid hWV;have HVs:=Lib.hid hVs
  clear hV hVs
  go_cut [11] from 108 to 120 (fun v11 wx=>∃ Bk oc cc,v11=.pointer (some ⟨Bk,0,none⟩)∧wx.heap[Bk]? = some (.cells #[.int .i64 3,.slice oc N cc,.int .i64 n,.int .i64 xks.length,.string xl] 72 (0,0))∧V.heap.size≤Bk∧Ints (From V.heap.size) wx up oc cc∧Pr V wx)
  case first =>
    go_region_held3 (fun W'=>Pr V W')
      (first | with_reducible exact Pr.drew V | with_reducible exact (Pr.alloc _ _).drew' | with_reducible exact hp | with_reducible exact hp.alloc' _ | exact set5_pr _ _ _ _ _ hp (Nat.le_refl _))
      (first
        | (go_at_call 129;(with_reducible refine Calls.mono (CL.out _ (HWV.out.trans (Pr.drew V))) ?_);rintro e w2 ⟨⟨oc,cc,rfl,hoc⟩,hb⟩;have hp:=(Pr.drew V).trans hb)
        | (go_at_call 129;(with_reducible refine Calls.mono (CL.out _ (HWV.out.trans (Pr.drew' (Pr.alloc _ _)))) ?_);rintro e w2 ⟨⟨oc,cc,rfl,hoc⟩,hb⟩;have hp:=((Pr.alloc _ _).drew').trans hb;have z:=hb.blk ((Pr.drew _).blk (heap_alloc_new V _));have z0:w2.cell? ⟨V.heap.size,0,none⟩=some (.int .i64 0):=blk_cell z;have z1:w2.cell? ⟨V.heap.size,1,none⟩=some (.slice none 0 0):=blk_cell z;have z2:w2.cell? ⟨V.heap.size,2,none⟩=some (.int .i64 0):=blk_cell z;have z3:w2.cell? ⟨V.heap.size,3,none⟩=some (.int .i64 0):=blk_cell z;have z4:w2.cell? ⟨V.heap.size,4,none⟩=some (.string ⟨#[]⟩):=blk_cell z;have y0:w2.frozen? ⟨V.heap.size,0,none⟩=false:=blk_frozen z;have y1:w2.frozen? ⟨V.heap.size,1,none⟩=false:=blk_frozen z;have y2:w2.frozen? ⟨V.heap.size,2,none⟩=false:=blk_frozen z;have y3:w2.frozen? ⟨V.heap.size,3,none⟩=false:=blk_frozen z;have y4:w2.frozen? ⟨V.heap.size,4,none⟩=false:=blk_frozen z;have Hz:=Lib.hid z;clear z))
    all_goals
      go_wp2_with fail
      go_meet
    case rel=>exact ⟨w2.heap.size,oc,cc,rfl,heap_alloc_new w2 _,hp.size,(Flat.pr (Pr.alloc _ _) hoc),hp.alloc' _⟩
    case rel=>exact ⟨V.heap.size,oc,cc,rfl,set5_blk _ _ _ _ _ Hz.out,Nat.le_refl _,Flat.mono (fun k h _=>by have:V.heap.size+1≤k:=(by simpa using h);show V.heap.size≤k;omega) (Flat.kept (set5_kept _ _ _ _ _ (by simp)) hoc),set5_pr _ _ _ _ _ hp (Nat.le_refl _)⟩
  case rest =>
    obtain ⟨Bk,oc,cc,rfl,hbk,hbv,hoc,hpx⟩:=hcut
    obtain ⟨wx,hwx⟩:∃ wx,wx=wc:=⟨_,rfl⟩
    subst hwx
    have hlow:=Hsu.out.low
    have hhigh:=Hsu.out.high
    have hout:=Hsu.out.out
    have hbuw:bu < w.heap.size:=by rcases Hsu.out.blk with h | h <;> omega
    have hne:b2≠bu:=by rintro rfl;exact hout hbx
    have RP:Hid (∀ W',Pr wx W'→Calls Tryz.prog 131 #[.pointer (some ⟨bu,ou,none⟩),.int .i64 n,.int .i64 1,.slice oax xks.length capx] W' (ReplPost (fun k=>lu≤k∧k < hu) W' bu ou (repl uks n 1 xks))):=Lib.hid fun W' h=>by
      have h1:=HWV.out.trans (hpx.trans h)
      have:=replace_any (fun k=>lu≤k∧k < hu) bu ou n 1 uks xks _ capu oax capx W' (h1.cell u1) (by rw [h1.frozen hbul];exact hfu) (Hku.out.pr h1) ((Hkx.out.pr h1).mono (fun k hk _=>by omega)) (by omega) (by omega) (by omega)
      exact this
    have y2:∀ W',Chg (fun k=>k=bu) wx W'→W'.cell? ⟨b2,o2+n * 2+1,none⟩=some (.slice oax xks.length capx):=fun W' h=>chg_cell h (hpx.cell (HWV.out.cell x1)) hne
    obtain ⟨R,hR⟩:∃ R,R=repl uks n 1 xks:=⟨_,rfl⟩
    rw [← hR] at RP
    have HR:=Lib.hid hR;have Hbk:=Lib.hid hbk;have Hoc:=Lib.hid hoc;have Hpx:=Lib.hid hpx
    clear hR hbk hoc hpx v1 v2
    go_upto_region 17 with fail
    go_region_held3 (fun W'=>Chg (fun k=>k=bu) wx W')
      (first | with_reducible exact (Pr.drew wx).chg _ | with_reducible exact hch)
      (first
        | (go_at_call 128;(with_reducible refine Calls.mono (CF2.out _ (HWV.out.trans (Hpx.out.trans (Pr.drew wx)))) ?_);rintro e w1 ⟨rfl,rfl⟩)
        | (go_at_call 131;(with_reducible refine Calls.mono (RP.out _ (Pr.drew wx)) ?_);rintro e w' ⟨w2,oc2,cc2,rfl,rfl,hp2,hk2⟩;have hch:=(((Pr.drew wx).trans hp2).chg (fun k=>k=bu)).setCell ⟨bu,ou+1,none⟩ (.slice oc2 R.length cc2) (.inl rfl)))
    have hwx:Pr wx w2:=(Pr.drew wx).trans hp2
    have nBk:Bk≠bu:=by have:=HVs.out;omega
    have hr:(w2.setCell ⟨bu,ou+1,none⟩ (.slice oc2 R.length cc2)).heap[w.heap.size+1]? = some (.cells #[.int .i64 0,.slice none 0 0,.int .i64 0,.int .i64 0,.string ⟨#[]⟩] 72 (0,0)):=by
      rw [Below.heap_setCell _ _ _ _ (by simp;omega)]
      exact (HWV.out.trans (Hpx.out.trans hwx)).blk Hblk.out
    have hk:(w2.setCell ⟨bu,ou+1,none⟩ (.slice oc2 R.length cc2)).heap[Bk]? = some (.cells #[.int .i64 3,.slice oc N cc,.int .i64 n,.int .i64 xks.length,.string xl] 72 (0,0)):=by
      rw [Below.heap_setCell _ _ _ _ (by simpa using nBk)]
      exact hwx.blk Hbk.out
    obtain ⟨wz,hwz⟩:∃ wz,wz=w2.setCell ⟨bu,ou+1,none⟩ (.slice oc2 R.length cc2):=⟨_,rfl⟩
    rw [← hwz] at hr hk ⊢
    have r0:wz.cell? ⟨w.heap.size+1,0,none⟩=some (.int .i64 0):=blk_cell hr
    have r1:wz.cell? ⟨w.heap.size+1,1,none⟩=some (.slice none 0 0):=blk_cell hr
    have r2:wz.cell? ⟨w.heap.size+1,2,none⟩=some (.int .i64 0):=blk_cell hr
    have r3:wz.cell? ⟨w.heap.size+1,3,none⟩=some (.int .i64 0):=blk_cell hr
    have r4:wz.cell? ⟨w.heap.size+1,4,none⟩=some (.string ⟨#[]⟩):=blk_cell hr
    have f0:∀ j,wz.frozen? ⟨w.heap.size+1,j,none⟩=false:=fun j=>blk_frozen hr
    have f1:=f0 0;have f2:=f0 1;have f3:=f0 2;have f4:=f0 3;have f5:=f0 4
    have k0:wz.cell? ⟨Bk,0,none⟩=some (.int .i64 3):=blk_cell hk
    have k1:wz.cell? ⟨Bk,1,none⟩=some (.slice oc N cc):=blk_cell hk
    have k2:wz.cell? ⟨Bk,2,none⟩=some (.int .i64 n):=blk_cell hk
    have k3:wz.cell? ⟨Bk,3,none⟩=some (.int .i64 xks.length):=blk_cell hk
    have k4:wz.cell? ⟨Bk,4,none⟩=some (.string xl):=blk_cell hk
    have Hk:=Lib.hid hk;have Hr:=Lib.hid hr;have Hwz:=Lib.hid hwz;have Hch:=Lib.hid hch;have Hk2:=Lib.hid hk2;have Hwx:=Lib.hid hwx
    clear hk hr hwz hch hk2 hwx f0
    go_wp2_with fail
    have hio:Ints (From (w.heap.size+2)) wz up oc cc:=by
      rw [Hwz.out]
      refine Flat.mono (fun k h _=>?_) (Flat.kept (kept_setCell (From V.heap.size) _ _ _ (by show ¬ V.heap.size≤bu;have:=HVs.out;omega)) (Flat.pr Hwx.out Hoc.out))
      have h2:V.heap.size≤k:=h
      have:=HVs.out
      show w.heap.size+2≤k;omega
    have hk3:Kids (fun k=>(lu≤k∧k < hu)∨W.heap.size≤k) w2 R oc2 cc2:=by
      refine Hk2.out.mono fun k h _=>?_
      rcases h with h | h
      · exact .inl h
      · refine .inr ?_
        have h1:=Hpx.out.size
        have h2:=HVs.out
        simp at h;omega
    have hfin:=do_end HW.out HWs.out Hsu.out hBl hhi hbase (HWV.out.trans (Hpx.out.trans Hwx.out)) hk3 (by rw [← Hwz.out];exact Pr.refl wz) ⟨2,up ++ [(n:Int)],0,0,⟨#[]⟩⟩ (by rw [Hd.out,HR.out,repl]) 3 up n xks.length xl Hb.out oc cc hio (.int .i64 3) (.slice oc N cc) (.int .i64 n) (.int .i64 xks.length) (.string xl)
    rw [HN.out] at hfin
    exact bodyPost_ret (v:=.tuple #[.agg #[.int .i64 3,.slice oc N cc,.int .i64 n,.int .i64 xks.length,.string xl],.int .i64 0]) (by simp [results,Tryz.results92,go_sem,r0,r1,r2,r3,r4]) rfl hfin
end Go.Proofs.YtdbnfhpgmcjngabGreatDoor
/- Walks: deed.Do. -/
namespace Go.Proofs.YtdbnfhpgmcjngabGreatDoor
open Go Go.RowKit
theorem kids_sz {t x:Tr} {p:List Int} (h:t.at? p=some x):x.kids.length < t.sz:=by
  have h1:=Tr.at?_sz h
  cases x with
  | node l ks=>have:=Tr.length_le ks;simp only [Tr.sz_node] at h1;simp only [Tr.kids_node];omega
theorem do_any (w:World) (B lo hi base:Nat) (t:Tr) (k:Int) (p:List Int) (a m:Int) (s:ByteArray) (pa pc) (vl vk:Value) (c0:w.cell? ⟨B,0,none⟩=some vl) (c1:w.cell? ⟨B,1,none⟩=some vk) (ut:UT w t lo hi vl vk) (hB:¬ (lo≤B∧B < hi)) (hf:∀ j,w.frozen? ⟨B,j,none⟩=false)
    (hhi:hi≤w.heap.size) (hbase:base≤lo) (hp:Ints (fun k=>k≠B∧¬ (lo≤k∧k < hi)) w p pa pc) (hs:s.size≤maxLen) (hpl:p.length≤100000) (hd:dfault ⟨k,p,a,m,s⟩=0) (hsz:t.sz≤10000) :
    Calls Tryz.prog 92 #[.pointer (some ⟨B,0,none⟩),.agg #[.int .i64 k,.slice pa p.length pc,.int .i64 a,.int .i64 m,.string s]] w (DoPost B lo hi base w t ⟨k,p,a,m,s⟩):=by
  obtain ⟨⟨k1,k3⟩,e1,e2,p0,m0,hp0,_⟩:=dfault_zero.1 hd
  simp only at k1 k3 e1 e2 p0 m0 hp0
  by_cases hk2:k=2
  · subst hk2
    obtain ⟨rfl,hne⟩:=e2 rfl
    obtain ⟨rfl,rfl⟩:=e1 (by decide)
    cases hat:t.at? p with
    | none=>exact doNone_any w B lo hi base t 2 p 0 0 _ pa pc vl vk c0 c1 ut hB hf (Flat.any hp) hat (doneD_none _ rfl p t hne hp0 hat)
    | some x =>
      obtain ⟨up,k',hpe⟩:∃ up k',p=up ++ [k']:=⟨p.dropLast,p.getLast hne,(List.dropLast_concat_getLast hne).symm⟩
      subst hpe
      rw [Tr.at?_append] at hat
      cases hu:t.at? up with
      | none=>rw [hu] at hat;cases hat
      | some u =>
        rw [hu] at hat
        cases u with
        | node ul uks =>
        have hk:(Tr.node ul uks).kid? k'=some x:=by
          simp only [Option.bind_some,Tr.at?] at hat
          cases hk:(Tr.node ul uks).kid? k' with
          | none=>rw [hk] at hat;cases hat
          | some v=>rw [hk] at hat;cases hat;rfl
        obtain ⟨h0,hi2,hv,_⟩:=kid?_some hk
        obtain ⟨n,rfl⟩:=Int.eq_ofNat_of_zero_le h0
        simp only [Int.toNat_natCast] at hi2
        rw [kidN_in uks n hi2] at hv
        cases x with
        | node xl xks =>
        have z1:=kids_sz hu
        have z2:(Tr.node xl xks).kids.length < t.sz:=kids_sz (t:=t) (p:=up ++ [(n:Int)]) (by rw [Tr.at?_append,hu];simp [Tr.at?,hk])
        simp only [Tr.kids_node] at z1 z2
        have:=doDelete_any w B lo hi base t up n pa pc vl vk c0 c1 ut hB hf hhi hbase hp (by simp at hpl;omega) ul uks hu hi2 xl xks hv (by omega) (by omega)
        rw [show up.length+1=(up ++ [(n:Int)]).length by simp] at this
        exact this
  · cases hat:t.at? p with
    | none=>exact doNone_any w B lo hi base t k p a m s pa pc vl vk c0 c1 ut hB hf (Flat.any hp) hat (doneT_none _ hk2 p t hp0 hat)
    | some x =>
      cases x with
      | node xl xks =>
      have z1:=kids_sz hat
      simp only [Tr.kids_node] at z1
      by_cases hk1:k=1
      · subst hk1
        obtain ⟨rfl,rfl⟩:=e1 (by decide)
        exact doName_any w B lo hi base t p s pa pc vl vk c0 c1 ut hB hf hhi hbase (Flat.any hp) hs hp0 hpl
      · obtain rfl:k=3:=by omega
        obtain ⟨n,rfl⟩:=Int.eq_ofNat_of_zero_le p0
        obtain ⟨m',rfl⟩:=Int.eq_ofNat_of_zero_le m0
        exact doInsert_any w B lo hi base t p n m' s pa pc vl vk c0 c1 ut hB hf hhi hbase hp hs hpl xl xks hat (by omega)
def DeedPostF (w:World) (t:Tr) (d:Dee) (e:Ending) (w':World):Prop :=
  ∃ l ks oa cap k p a m s bp bc c,doD t d=(.node l ks,⟨k,p,a,m,s⟩,c)∧l.size≤maxLen∧e=.returned (.tuple #[.agg #[.string l,.slice oa ks.length cap],.agg #[.int .i64 k,.slice bp p.length bc,.int .i64 a,.int .i64 m,.string s],.int .i64 (c:Nat)])∧Kids (From w.heap.size) w' ks oa cap∧Ints (From w.heap.size) w' p bp bc∧Pr w w'
theorem DeedPostF.no {w w':World} {t:Tr} {d:Dee} {c:Nat} (h:doD t d=(Tr.zero,Dee.zero,c)) (hp:Pr w w') :
    DeedPostF w t d (.returned (.tuple #[.agg #[.string ⟨#[]⟩,.slice none 0 0],.agg #[.int .i64 0,.slice none 0 0,.int .i64 0,.int .i64 0,.string ⟨#[]⟩],.int .i64 (c:Nat)])) w' :=
  ⟨⟨#[]⟩,[],none,0,0,[],0,0,⟨#[]⟩,none,0,c,h,by simp [ByteArray.size],rfl,Kids.nil _ _ _ _ (Nat.zero_le _),Flat.nil _ _ _ _ (Nat.zero_le _),hp⟩
set_option maxRecDepth 100000 in
set_option maxHeartbeats 6400000 in
theorem deedDoF_any (l:ByteArray) (ks:List Tr) (oa cap) (k:Int) (p:List Int) (a m:Int) (s:ByteArray) (pa pc) (w:World) (hl:l.size≤maxLen) (hk:Kids Any w ks oa cap) (hs:s.size≤maxLen) (hp:Ints Any w p pa pc) (hpl:p.length≤100000) :
    Calls Tryz.prog 60 #[.agg #[.string l,.slice oa ks.length cap],.agg #[.int .i64 k,.slice pa p.length pc,.int .i64 a,.int .i64 m,.string s]] w (DeedPostF w (.node l ks) ⟨k,p,a,m,s⟩):=by
  obtain ⟨W,hW⟩:∃ W,W=(((w.alloc (.cells #[.string l,.slice oa ks.length cap] 46)).alloc (.cells #[.int .i64 k,.slice pa p.length pc,.int .i64 a,.int .i64 m,.string s] 72)).alloc (.cells #[.string ⟨#[]⟩,.slice none 0 0] 46)).alloc (.cells #[.int .i64 0,.slice none 0 0,.int .i64 0,.int .i64 0,.string ⟨#[]⟩] 72):=⟨_,rfl⟩
  have hwW:Pr w W:=by rw [hW];exact (((Pr.alloc _ _).alloc' _).alloc' _).alloc' _
  have hWs:W.heap.size=w.heap.size+4:=by rw [hW];simp
  have s0:=stays (show W.cell? ⟨w.heap.size,0,none⟩=some (.string l) by rw [hW];simp [go_sem])
  have s1:=stays (show W.cell? ⟨w.heap.size,1,none⟩=some (.slice oa ks.length cap) by rw [hW];simp [go_sem])
  have d0:=stays (show W.cell? ⟨w.heap.size+1,0,none⟩=some (.int .i64 k) by rw [hW];simp [go_sem])
  have d1:=stays (show W.cell? ⟨w.heap.size+1,1,none⟩=some (.slice pa p.length pc) by rw [hW];simp [go_sem])
  have d2:=stays (show W.cell? ⟨w.heap.size+1,2,none⟩=some (.int .i64 a) by rw [hW];simp [go_sem])
  have d3:=stays (show W.cell? ⟨w.heap.size+1,3,none⟩=some (.int .i64 m) by rw [hW];simp [go_sem])
  have d4:=stays (show W.cell? ⟨w.heap.size+1,4,none⟩=some (.string s) by rw [hW];simp [go_sem])
  have hR4:W.heap[w.heap.size+2]? = some (.cells #[.string ⟨#[]⟩,.slice none 0 0] 46 (0,0)):=by
    rw [hW];exact (Pr.alloc _ _).blk (by simpa using heap_alloc_new ((w.alloc (.cells #[.string l,.slice oa ks.length cap] 46)).alloc (.cells #[.int .i64 k,.slice pa p.length pc,.int .i64 a,.int .i64 m,.string s] 72)) (.cells #[.string ⟨#[]⟩,.slice none 0 0] 46))
  have hR5:W.heap[w.heap.size+3]? = some (.cells #[.int .i64 0,.slice none 0 0,.int .i64 0,.int .i64 0,.string ⟨#[]⟩] 72 (0,0)):=by
    rw [hW];simpa using heap_alloc_new (((w.alloc (.cells #[.string l,.slice oa ks.length cap] 46)).alloc (.cells #[.int .i64 k,.slice pa p.length pc,.int .i64 a,.int .i64 m,.string s] 72)).alloc (.cells #[.string ⟨#[]⟩,.slice none 0 0] 46)) (.cells #[.int .i64 0,.slice none 0 0,.int .i64 0,.int .i64 0,.string ⟨#[]⟩] 72)
  have R:∀ W',Chg (fun k=>k≠w.heap.size+2∧k≠w.heap.size+3) W W'→(W'.cell? ⟨w.heap.size+2,0,none⟩=some (.string ⟨#[]⟩)∧W'.cell? ⟨w.heap.size+2,1,none⟩=some (.slice none 0 0)∧W'.frozen? ⟨w.heap.size+2,0,none⟩=false∧W'.frozen? ⟨w.heap.size+2,1,none⟩=false) ∧
      (W'.cell? ⟨w.heap.size+3,0,none⟩=some (.int .i64 0)∧W'.cell? ⟨w.heap.size+3,1,none⟩=some (.slice none 0 0)∧W'.cell? ⟨w.heap.size+3,2,none⟩=some (.int .i64 0)∧W'.cell? ⟨w.heap.size+3,3,none⟩=some (.int .i64 0)∧W'.cell? ⟨w.heap.size+3,4,none⟩=some (.string ⟨#[]⟩)) ∧
      (W'.frozen? ⟨w.heap.size+3,0,none⟩=false∧W'.frozen? ⟨w.heap.size+3,1,none⟩=false∧W'.frozen? ⟨w.heap.size+3,2,none⟩=false∧W'.frozen? ⟨w.heap.size+3,3,none⟩=false∧W'.frozen? ⟨w.heap.size+3,4,none⟩=false):=fun W' h=>by
    have h4:=h.blk hR4 (by simp)
    have h5:=h.blk hR5 (by simp)
    exact ⟨⟨blk_cell h4,blk_cell h4,blk_frozen h4,blk_frozen h4⟩,⟨blk_cell h5,blk_cell h5,blk_cell h5,blk_cell h5,blk_cell h5⟩,blk_frozen h5,blk_frozen h5,blk_frozen h5,blk_frozen h5,blk_frozen h5⟩
  have HR:=Lib.hid R
  have F1:=Lib.hid (fun W' (h:Pr W W')=>check_any l ks oa cap W' hl (hk.pr (hwW.trans h)))
  have F2:=Lib.hid (fun W' (h:Pr W W')=>dcheck_any k p a m s pa pc W' hs (Flat.pr (hwW.trans h) hp))
  have HW:=Lib.hid hwW;have HWs:=Lib.hid hWs;have HK:=Lib.hid hk;have HP:=Lib.hid hp
  clear R hwW hWs hR4 hR5 hk hp
  by_cases ft:fault (.node l ks)=0
  case neg =>
    have hno:doD (.node l ks) ⟨k,p,a,m,s⟩=(Tr.zero,Dee.zero,fault (.node l ks)):=by unfold doD;rw [if_pos ft]
    have Hno:=Lib.hid hno
    have e1:((fault (.node l ks):Int) != 0)=true:=by simp [bne_iff_ne];omega
    clear hno
    generalize fault (.node l ks)=c at *
    go_enter Tryz.func60,Tryz.ntmps60
    go_upto_region 1 with fail
    rw [← hW];clear hW
    have x0:=s0 _ (Pr.refl _);have x1:=s1 _ (Pr.refl _)
    go_wp2_with (first
      | (go_at_call 51;(with_reducible refine Calls.mono (F1.out _ (Pr.refl _)) ?_);rintro e w1 ⟨rfl,hb⟩;obtain ⟨⟨q0,q1,q2,q3⟩,⟨q4,q5,q6,q7,q8⟩,q9,q10,q11,q12,q13⟩:=HR.out _ (hb.chg _);have hp:=HW.out.trans hb;clear hb))
    exact bodyPost_ret (v:=.tuple #[.agg #[.string ⟨#[]⟩,.slice none 0 0],.agg #[.int .i64 0,.slice none 0 0,.int .i64 0,.int .i64 0,.string ⟨#[]⟩],.int .i64 c]) (by simp [results,Tryz.results60,go_sem,q0,q1,q4,q5,q6,q7,q8]) rfl (DeedPostF.no Hno.out (set5_pr _ _ _ _ _ ((hp.setCell (by simp;omega) _).setCell (by simp;omega) _) (by omega)))
  by_cases fd:dfault ⟨k,p,a,m,s⟩=0
  case neg =>
    have hno:doD (.node l ks) ⟨k,p,a,m,s⟩=(Tr.zero,Dee.zero,dfault ⟨k,p,a,m,s⟩):=by unfold doD;rw [if_neg (by simpa using ft),if_pos fd]
    have Hno:=Lib.hid hno
    rw [ft] at F1
    have e1:((dfault ⟨k,p,a,m,s⟩:Int) != 0)=true:=by simp [bne_iff_ne];omega
    clear hno ft
    generalize dfault ⟨k,p,a,m,s⟩=c at *
    go_enter Tryz.func60,Tryz.ntmps60
    go_upto_region 1 with fail
    rw [← hW];clear hW
    have x0:=s0 _ (Pr.refl _);have x1:=s1 _ (Pr.refl _)
    go_wp2_with (first
      | (go_at_call 51;(with_reducible refine Calls.mono (F1.out _ (Pr.refl _)) ?_);rintro e w1 ⟨rfl,hb⟩;have z0:=d0 _ hb;have z1:=d1 _ hb;have z2:=d2 _ hb;have z3:=d3 _ hb;have z4:=d4 _ hb)
      | (go_at_call 58;(with_reducible refine Calls.mono (F2.out _ hb) ?_);rintro e w2 ⟨rfl,hb2⟩;obtain ⟨⟨q0,q1,q2,q3⟩,⟨q4,q5,q6,q7,q8⟩,q9,q10,q11,q12,q13⟩:=HR.out _ ((hb.trans hb2).chg _);have hp:=HW.out.trans (hb.trans hb2);clear hb hb2))
    exact bodyPost_ret (v:=.tuple #[.agg #[.string ⟨#[]⟩,.slice none 0 0],.agg #[.int .i64 0,.slice none 0 0,.int .i64 0,.int .i64 0,.string ⟨#[]⟩],.int .i64 c]) (by simp [results,Tryz.results60,go_sem,q0,q1,q4,q5,q6,q7,q8]) rfl (DeedPostF.no Hno.out (set5_pr _ _ _ _ _ ((hp.setCell (by simp;omega) _).setCell (by simp;omega) _) (by omega)))
  have hsz:=(fault_zero.1 ft).1
  rw [ft] at F1
  rw [fd] at F2
  have OW:=Lib.hid (fun W' (h:Pr W W')=>ownU_any l ks oa cap W' (by rw [Tr.sz_node] at hsz;omega) hl (HK.out.pr (HW.out.trans h)))
  have FD:=Lib.hid fd
  have FT:=Lib.hid ft
  clear ft fd
  go_enter Tryz.func60,Tryz.ntmps60
  go_upto_region 1 with fail
  rw [← hW];clear hW
  have x0:=s0 _ (Pr.refl _);have x1:=s1 _ (Pr.refl _)
  go_upto_region 8 with (first
    | (go_at_call 51;(with_reducible refine Calls.mono (F1.out _ (Pr.refl _)) ?_);rintro e w1 ⟨rfl,hb⟩;have z0:=d0 _ hb;have z1:=d1 _ hb;have z2:=d2 _ hb;have z3:=d3 _ hb;have z4:=d4 _ hb)
    | (go_at_call 58;(with_reducible refine Calls.mono (F2.out _ hb) ?_);rintro e w2 ⟨rfl,hb2⟩;have hp:=hb.trans hb2;have z0:=s0 _ hp;have z1:=s1 _ hp)
    | (go_at_call 83;(with_reducible refine Calls.mono (OW.out _ hp) ?_);rintro e w3 ⟨oc,cc,rfl,hut,hb3⟩))
  have hp3:=hp.trans hb3
  obtain ⟨V,hV⟩:∃ V,V=w3.alloc (.cells #[.string l,.slice oc ks.length cc] 46):=⟨_,rfl⟩
  have hv0:V.cell? ⟨w3.heap.size,0,none⟩=some (.string l):=by rw [hV];simp [go_sem]
  have hv1:V.cell? ⟨w3.heap.size,1,none⟩=some (.slice oc ks.length cc):=by rw [hV];simp [go_sem]
  have hvf:∀ j,V.frozen? ⟨w3.heap.size,j,none⟩=false:=fun j=>by rw [hV];exact blk_frozen (heap_alloc_new _ _)
  have hvs:V.heap.size=w3.heap.size+1:=by rw [hV];simp
  have hpV:Pr w3 V:=by rw [hV];exact Pr.alloc _ _
  rw [← hV]
  have y0:=d0 _ (hp3.trans hpV);have y1:=d1 _ (hp3.trans hpV);have y2:=d2 _ (hp3.trans hpV);have y3:=d3 _ (hp3.trans hpV);have y4:=d4 _ (hp3.trans hpV)
  have hw2:=hp.size
  have hutl:=hut.le
  have DO:=Lib.hid (do_any V w3.heap.size w2.heap.size w3.heap.size w2.heap.size (.node l ks) k p a m s pa pc _ _ hv0 hv1 (hut.pr hpV) (by omega) hvf (by omega) (Nat.le_refl _)
    (Flat.pr (HW.out.trans (hp3.trans hpV)) (Flat.mono (S':=fun k=>k≠w3.heap.size∧¬ (w2.heap.size≤k∧k < w3.heap.size)) (fun k _ hl=>by have:=HWs.out;omega) HP.out)) hs hpl FD.out (by omega))
  have HpV:=Lib.hid (HW.out.trans (hp3.trans hpV))
  have Hp3:=Lib.hid (hp3.trans hpV)
  have Hvs:=Lib.hid hvs
  clear hV hvf hpV hut hp hb3 hp3 z0 z1 z2 z3 z4 x0 x1 hv0 hv1 hvs
  obtain ⟨X,hX⟩:∃ X:Nat→Prop,X=fun k=>k=w3.heap.size∨(w2.heap.size≤k∧k < w3.heap.size):=⟨_,rfl⟩
  have hXw:∀ k,X k→W.heap.size≤k:=fun k h=>by
    have h2:k=w3.heap.size∨(w2.heap.size≤k∧k < w3.heap.size):=by rw [hX] at h;exact h
    omega
  have HXw:=Lib.hid hXw
  have hR9:∀ W',Chg X V W'→Chg (fun k=>k≠w.heap.size+2∧k≠w.heap.size+3) W W'∧Pr w W':=fun W' h=>by
    have h1:=(Hp3.out.chg X).trans h (fun _ h=>.inl h)
    refine ⟨⟨h1.os,h1.tape,h1.output,h1.size,fun k hk hn=>h1.block k hk (fun hx=>by have:=hXw k hx;omega)⟩,?_⟩
    exact ((HpV.out.chg X).trans h (fun _ h=>.inl h)).to_pr (fun k hx=>by have:=hXw k hx;have:=HWs.out;omega)
  have HR9:=Lib.hid hR9
  clear hXw hR9
  by_cases hc:(doneT ⟨k,p,a,m,s⟩ p (.node l ks)).2=0
  case neg =>
    have hno:doD (.node l ks) ⟨k,p,a,m,s⟩=(Tr.zero,Dee.zero,(doneT ⟨k,p,a,m,s⟩ p (.node l ks)).2):=by unfold doD;rw [if_neg (by simpa using FT.out),if_neg (by simpa using FD.out),if_pos hc]
    have Hno:=Lib.hid hno
    have DO2:Hid (Calls Tryz.prog 92 #[.pointer (some ⟨w3.heap.size,0,none⟩),.agg #[.int .i64 k,.slice pa p.length pc,.int .i64 a,.int .i64 m,.string s]] V fun e w'=>e=.returned (.tuple #[.agg #[.int .i64 0,.slice none 0 0,.int .i64 0,.int .i64 0,.string ⟨#[]⟩],.int .i64 ((doneT ⟨k,p,a,m,s⟩ p (.node l ks)).2:Nat)])∧Chg X V w'):=Lib.hid (DO.out.mono fun e w' ⟨h1,h2⟩=>⟨by
      rcases h2 with h | h
      · exact h.2
      · exact absurd h.1 hc,by rw [hX];exact h1⟩)
    have e1:(((doneT ⟨k,p,a,m,s⟩ p (.node l ks)).2:Int) != 0)=true:=by simp [bne_iff_ne];omega
    have e2:(((doneT ⟨k,p,a,m,s⟩ p (.node l ks)).2:Int)==0)=false:=by simp;omega
    clear hno hc hX DO
    generalize (doneT ⟨k,p,a,m,s⟩ p (.node l ks)).2=c at *
    go_wp2_with (first
      | (go_at_call 92;(with_reducible refine Calls.mono DO2.out ?_);rintro e w4 ⟨rfl,hch⟩;obtain ⟨hr,hpf⟩:=HR9.out _ hch;obtain ⟨⟨q0,q1,q2,q3⟩,⟨q4,q5,q6,q7,q8⟩,q9,q10,q11,q12,q13⟩:=HR.out _ (hr.pr (Pr.alloc w4 (.cells #[.int .i64 0,.slice none 0 0,.int .i64 0,.int .i64 0,.string ⟨#[]⟩] 72)));clear hr hch))
    exact bodyPost_ret (v:=.tuple #[.agg #[.string ⟨#[]⟩,.slice none 0 0],.agg #[.int .i64 0,.slice none 0 0,.int .i64 0,.int .i64 0,.string ⟨#[]⟩],.int .i64 c]) (by simp [results,Tryz.results60,go_sem,q0,q1,q4,q5,q6,q7,q8]) rfl (DeedPostF.no Hno.out (set5_pr _ _ _ _ _ (((hpf.alloc' _).setCell (by simp;omega) _).setCell (by simp;omega) _) (by omega)))
  have DO2:Hid (Calls Tryz.prog 92 #[.pointer (some ⟨w3.heap.size,0,none⟩),.agg #[.int .i64 k,.slice pa p.length pc,.int .i64 a,.int .i64 m,.string s]] V fun e w'=>(∃ bp bc,e=.returned (.tuple #[.agg #[.int .i64 (backD (.node l ks) ⟨k,p,a,m,s⟩).kind,.slice bp (backD (.node l ks) ⟨k,p,a,m,s⟩).path.length bc,.int .i64 (backD (.node l ks) ⟨k,p,a,m,s⟩).pos,.int .i64 (backD (.node l ks) ⟨k,p,a,m,s⟩).many,.string (backD (.node l ks) ⟨k,p,a,m,s⟩).lab],.int .i64 0])∧Ints (From V.heap.size) w' (backD (.node l ks) ⟨k,p,a,m,s⟩).path bp bc ∧
      ∃ l2 ks2 o2 c2,(doneT ⟨k,p,a,m,s⟩ p (.node l ks)).1=.node l2 ks2∧w'.cell? ⟨w3.heap.size,0,none⟩=some (.string l2)∧w'.cell? ⟨w3.heap.size,1,none⟩=some (.slice o2 ks2.length c2)∧l2.size≤maxLen∧Kids (From w2.heap.size) w' ks2 o2 c2)∧Chg X V w'):=Lib.hid (DO.out.mono fun e w' ⟨h1,h2⟩=>⟨by
    rcases h2 with h | h
    · exact absurd hc h.1
    · exact h.2,by rw [hX];exact h1⟩)
  obtain ⟨r,hr⟩:∃ r,r=(doneT ⟨k,p,a,m,s⟩ p (.node l ks)).1:=⟨_,rfl⟩
  rw [← hr] at DO2
  have hdd:doD (.node l ks) ⟨k,p,a,m,s⟩=if fault r≠0 then (Tr.zero,Dee.zero,fault r) else (r,backD (.node l ks) ⟨k,p,a,m,s⟩,0):=by
    unfold doD;rw [if_neg (by simpa using FT.out),if_neg (by simpa using FD.out),if_neg (by simpa using hc),← hr]
  have Hdd:=Lib.hid hdd
  obtain ⟨bd,hbd⟩:∃ bd,bd=backD (.node l ks) ⟨k,p,a,m,s⟩:=⟨_,rfl⟩
  rw [← hbd] at DO2 Hdd
  clear hc hX DO hr hdd hbd
  obtain ⟨k',p',a',m',s'⟩:=bd
  simp only at DO2
  go_upto_region 9 with (first
    | (go_at_call 92;(with_reducible refine Calls.mono DO2.out ?_);rintro e w4 ⟨⟨bp,bc,rfl,hbi,l2,ks2,o2,c2,hre,t0,t1,hl2,hk2⟩,hch⟩))
  obtain ⟨hr,hpf⟩:=HR9.out _ hch
  have hrA:=hr.pr (Pr.alloc w4 (.cells #[.int .i64 k',.slice bp p'.length bc,.int .i64 a',.int .i64 m',.string s'] 72))
  obtain ⟨V2,hV2⟩:∃ V2,V2=w4.alloc (.cells #[.int .i64 k',.slice bp p'.length bc,.int .i64 a',.int .i64 m',.string s'] 72):=⟨_,rfl⟩
  have hp2:Pr w4 V2:=by rw [hV2];exact Pr.alloc _ _
  have j0:=stays (show V2.cell? ⟨w4.heap.size,0,none⟩=some (.int .i64 k') by rw [hV2];simp [go_sem])
  have j1:=stays (show V2.cell? ⟨w4.heap.size,1,none⟩=some (.slice bp p'.length bc) by rw [hV2];simp [go_sem])
  have j2:=stays (show V2.cell? ⟨w4.heap.size,2,none⟩=some (.int .i64 a') by rw [hV2];simp [go_sem])
  have j3:=stays (show V2.cell? ⟨w4.heap.size,3,none⟩=some (.int .i64 m') by rw [hV2];simp [go_sem])
  have j4:=stays (show V2.cell? ⟨w4.heap.size,4,none⟩=some (.string s') by rw [hV2];simp [go_sem])
  rw [← hV2] at hrA ⊢
  have t0:=stays (hp2.cell t0);have t1:=stays (hp2.cell t1)
  have hk2:=hk2.pr hp2
  have hbi:=Flat.pr hp2 hbi
  have C2:=Lib.hid (fun W' (h:Pr V2 W')=>check_any l2 ks2 o2 c2 W' hl2 (hk2.any.pr h))
  have hpf:=hpf.trans hp2
  rw [← hre] at C2
  have Hre:=Lib.hid hre;have Hrr:=Lib.hid hrA;have Hpf:=Lib.hid hpf;have Hk2:=Lib.hid hk2;have Hbi:=Lib.hid hbi
  have hsz4:w4.heap.size < V2.heap.size:=by rw [hV2];simp
  have hw34:=hch.size
  have hwz:=Hvs.out
  have y0:=t0 _ (Pr.refl _);have y1:=t1 _ (Pr.refl _)
  clear hre hrA hpf hk2 hbi hr hch hp2 hV2 hwz
  by_cases hfr:fault r=0
  case neg =>
    have Hno:=Lib.hid (show doD (.node l ks) ⟨k,p,a,m,s⟩=(Tr.zero,Dee.zero,fault r) by rw [Hdd.out,if_pos hfr])
    have e1:((fault r:Int) != 0)=true:=by simp [bne_iff_ne];omega
    clear hfr
    generalize fault r=c at *
    go_wp2_with (first
      | (go_at_call 51;(with_reducible refine Calls.mono (C2.out _ (Pr.refl _)) ?_);rintro e w5 ⟨rfl,hb⟩;obtain ⟨⟨q0,q1,q2,q3⟩,⟨q4,q5,q6,q7,q8⟩,q9,q10,q11,q12,q13⟩:=HR.out _ (Hrr.out.pr hb);have hpf:=Hpf.out.trans hb;clear hb))
    exact bodyPost_ret (v:=.tuple #[.agg #[.string ⟨#[]⟩,.slice none 0 0],.agg #[.int .i64 0,.slice none 0 0,.int .i64 0,.int .i64 0,.string ⟨#[]⟩],.int .i64 c]) (by simp [results,Tryz.results60,go_sem,q0,q1,q4,q5,q6,q7,q8]) rfl (DeedPostF.no Hno.out (set5_pr _ _ _ _ _ ((hpf.setCell (by simp;omega) _).setCell (by simp;omega) _) (by omega)))
  have Hyes:=Lib.hid (show doD (.node l ks) ⟨k,p,a,m,s⟩=(r,⟨k',p',a',m',s'⟩,0) by rw [Hdd.out,if_neg (by simpa using hfr)])
  rw [hfr] at C2
  clear hfr
  go_upto_region 13 with (first
    | (go_at_call 51;(with_reducible refine Calls.mono (C2.out _ (Pr.refl _)) ?_);rintro e w5 ⟨rfl,hb⟩;obtain ⟨⟨q0,q1,q2,q3⟩,⟨q4,q5,q6,q7,q8⟩,q9,q10,q11,q12,q13⟩:=HR.out _ (Hrr.out.pr hb);have hpf:=Hpf.out.trans hb;have Hk2:=Lib.hid (Hk2.out.pr hb);have Hbi:=Lib.hid (Flat.pr hb Hbi.out);have j0:=j0 _ hb;have j1:=j1 _ hb;have j2:=j2 _ hb;have j3:=j3 _ hb;have j4:=j4 _ hb;have t0:=t0 _ hb;have t1:=t1 _ hb;have hz5:=hb.size;clear hb))
  have hs3:W.heap.size≤w3.heap.size:=Nat.le_trans hw2 hutl
  have hs4:=HWs.out
  have hs5:=Hvs.out
  have n0:w.heap.size+1+1≠w3.heap.size:=by omega
  have m0:w3.heap.size≠w.heap.size+1+1:=by omega
  have n1:w.heap.size+1+1+1≠w3.heap.size:=by omega
  have m1:w3.heap.size≠w.heap.size+1+1+1:=by omega
  have n2:w.heap.size+1+1≠w4.heap.size:=by omega
  have m2:w4.heap.size≠w.heap.size+1+1:=by omega
  have n3:w.heap.size+1+1+1≠w4.heap.size:=by omega
  have m3:w4.heap.size≠w.heap.size+1+1+1:=by omega
  have hVw:=hs5
  clear hs4 hs5
  have HVw:=Lib.hid hVw
  clear hVw
  go_region
  all_goals
    go_wp2_with fail
    have hw4:w.heap.size+4≤w2.heap.size:=by have:=HWs.out;omega
    have hw5:w.heap.size+4≤V.heap.size:=by have:=HVw.out;omega
    have hkf:Kids (From w.heap.size) (set5 ((w5.setCell ⟨w.heap.size+1+1,0,none⟩ (.string l2)).setCell ⟨w.heap.size+1+1,1,none⟩ (.slice o2 ks2.length c2)) (w.heap.size+1+1+1) (.int .i64 k') (.slice bp p'.length bc) (.int .i64 a') (.int .i64 m') (.string s')).drew ks2 o2 c2 :=
      ((((Hk2.out.setCell _ _ (by show ¬ w2.heap.size≤w.heap.size+1+1;omega)).setCell _ _ (by show ¬ w2.heap.size≤w.heap.size+1+1;omega)).kept (set5_kept _ _ _ _ _ (by show ¬ w2.heap.size≤w.heap.size+1+1+1;omega))).from (by omega)).pr (Pr.drew _)
    have hif:Ints (From w.heap.size) (set5 ((w5.setCell ⟨w.heap.size+1+1,0,none⟩ (.string l2)).setCell ⟨w.heap.size+1+1,1,none⟩ (.slice o2 ks2.length c2)) (w.heap.size+1+1+1) (.int .i64 k') (.slice bp p'.length bc) (.int .i64 a') (.int .i64 m') (.string s')).drew p' bp bc :=
      Flat.mono (fun k (hk:V.heap.size≤k) _=>show w.heap.size≤k by omega) (Flat.pr (Pr.drew _) (Flat.kept (set5_kept _ _ _ _ _ (by show ¬ V.heap.size≤w.heap.size+1+1+1;omega)) (Flat.kept (kept_setCell _ _ _ _ (by show ¬ V.heap.size≤w.heap.size+1+1;omega)) (Flat.kept (kept_setCell _ _ _ _ (by show ¬ V.heap.size≤w.heap.size+1+1;omega)) Hbi.out))))
    exact bodyPost_ret (v:=.tuple #[.agg #[.string l2,.slice o2 ks2.length c2],.agg #[.int .i64 k',.slice bp p'.length bc,.int .i64 a',.int .i64 m',.string s'],.int .i64 ((0:Nat):Int)]) (by simp [results,Tryz.results60,go_sem,q0,q1,q4,q5,q6,q7,q8]) rfl
      ⟨l2,ks2,o2,c2,k',p',a',m',s',bp,bc,0,by rw [Hyes.out,Hre.out],hl2,rfl,hkf,hif,(set5_pr _ _ _ _ _ ((hpf.setCell (by simp;omega) _).setCell (by simp;omega) _) (by omega)).drew'⟩
def DeedPost (w:World) (t:Tr) (d:Dee) (e:Ending) (w':World):Prop :=
  ∃ l ks oa cap k p a m s bp bc c,doD t d=(.node l ks,⟨k,p,a,m,s⟩,c)∧l.size≤maxLen∧e=.returned (.tuple #[.agg #[.string l,.slice oa ks.length cap],.agg #[.int .i64 k,.slice bp p.length bc,.int .i64 a,.int .i64 m,.string s],.int .i64 (c:Nat)])∧Kids (From w.heap.size) w' ks oa cap∧Ints Any w' p bp bc∧Pr w w'
theorem DeedPost.no {w w':World} {t:Tr} {d:Dee} {c:Nat} (h:doD t d=(Tr.zero,Dee.zero,c)) (hp:Pr w w') :
    DeedPost w t d (.returned (.tuple #[.agg #[.string ⟨#[]⟩,.slice none 0 0],.agg #[.int .i64 0,.slice none 0 0,.int .i64 0,.int .i64 0,.string ⟨#[]⟩],.int .i64 (c:Nat)])) w' :=
  ⟨⟨#[]⟩,[],none,0,0,[],0,0,⟨#[]⟩,none,0,c,h,by simp [ByteArray.size],rfl,Kids.nil _ _ _ _ (Nat.zero_le _),Flat.nil _ _ _ _ (Nat.zero_le _),hp⟩
theorem deedDo_any (l:ByteArray) (ks:List Tr) (oa cap) (k:Int) (p:List Int) (a m:Int) (s:ByteArray) (pa pc) (w:World) (hl:l.size≤maxLen) (hk:Kids Any w ks oa cap) (hs:s.size≤maxLen) (hp:Ints Any w p pa pc) (hpl:p.length≤100000) :
    Calls Tryz.prog 60 #[.agg #[.string l,.slice oa ks.length cap],.agg #[.int .i64 k,.slice pa p.length pc,.int .i64 a,.int .i64 m,.string s]] w (DeedPost w (.node l ks) ⟨k,p,a,m,s⟩) :=
  (deedDoF_any l ks oa cap k p a m s pa pc w hl hk hs hp hpl).mono fun _ _ ⟨l2,ks2,oa2,cap2,k2,p2,a2,m2,s2,bp,bc,c,h1,h2,h3,h4,h5,h6⟩=>⟨l2,ks2,oa2,cap2,k2,p2,a2,m2,s2,bp,bc,c,h1,h2,h3,h4,Flat.any h5,h6⟩
end Go.Proofs.YtdbnfhpgmcjngabGreatDoor
