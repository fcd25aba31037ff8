/- Walks: the best of two trees; what they cost; how the laws on distance begin. -/
import Derived.Test.YtdbnfhpgmcjngabGreatDoorBdd
namespace Go.Proofs.YtdbnfhpgmcjngabGreatDoor
open Go Go.RowKit
set_option maxHeartbeats 1600000 in
theorem bestTop_any (xs ys:List Nd) (B:Nat) (w:World) (h:TblOk w B xs ys) (hx:Fit xs) (hy:Fit ys) (hix:xs.length≤1000) (hjy:ys.length≤1000) (hi:1≤xs.length) (hj:1≤ys.length) :
    Calls Tryz.prog 98 #[.pointer (some ⟨B,0,none⟩)] w (PsPost w (zp (bestP xs ys 0 (xs.length - 1) 0 (ys.length - 1) ++ [(xs.length - 1,ys.length - 1)]))):=by
  have hT0:=Lib.hid h
  obtain ⟨xb,xo,xc,yb,yo,yc,g,bs,D,hT,hD⟩:=h
  obtain ⟨I,hI⟩:∃ I,I=xs.length - 1:=⟨_,rfl⟩
  obtain ⟨J,hJ⟩:∃ J,J=ys.length - 1:=⟨_,rfl⟩
  rw [← hI,← hJ]
  have b0:w.cell? ⟨B,0,none⟩=some (.slice (some ⟨xb,xo,none⟩) xs.length xc):=blk_cell hT.blk
  have b1:w.cell? ⟨B,1,none⟩=some (.slice (some ⟨yb,yo,none⟩) ys.length yc):=blk_cell hT.blk
  have CB:Hid (∀ W',Pr w W'→Calls Tryz.prog 134 #[.pointer (some ⟨B,0,none⟩),.int .i64 0,.int .i64 ((I:Int) - 1),.int .i64 0,.int .i64 ((J:Int) - 1)] W' (PsPost W' (zp (bestP xs ys 0 I 0 J)))):=Lib.hid fun W' hp =>
    best_any xs ys B hx hy hix hjy _ 0 I 0 J _ _ W' (Nat.lt_succ_self _) (Nat.zero_le _) (Nat.zero_le _) (by omega) (by omega) (Cl.zero _ _) (Cl.zero _ _) rfl rfl (hT0.out.pr hp)
  have n1:=bestP_len xs ys hx hy (i0:=0) (i:=I) (j0:=0) (j:=J) (by omega) (by omega) (Cl.zero _ _) (Cl.zero _ _) (by omega) (by omega)
  rw [← zp_length] at n1
  have e1:(xs.length:Int) - 1=I:=by omega
  have e2:(ys.length:Int) - 1=J:=by omega
  have uI:IntKind.i64.wrap (I:Int)=I:=IntWalk.i64_in _ (by omega)
  have uJ:IntKind.i64.wrap (J:Int)=J:=IntWalk.i64_in _ (by omega)
  have uI1:IntKind.i64.wrap ((I:Int) - 1)=(I:Int) - 1:=IntWalk.i64_in _ (by omega)
  have uJ1:IntKind.i64.wrap ((J:Int) - 1)=(J:Int) - 1:=IntWalk.i64_in _ (by omega)
  have hIb:I≤1000:=by omega
  have hJb:J≤1000:=by omega
  clear hD hT hI hJ hi hj hix hjy hx hy
  rw [zp_append]
  go_enter Tryz.func98,Tryz.ntmps98
  go_wp2_with fail
  go_quiet (fail)
  obtain ⟨w2,hw2⟩:∃ w2,w2=w.drewN nq:=⟨_,rfl⟩
  have hb2:Pr w w2:=by rw [hw2];exact Pr.drewN _ _
  rw [← hw2]
  have hsz:w2.heap.size=w.heap.size:=by rw [hw2];rfl
  have Hsz:=Lib.hid hsz
  clear hw2 b0 b1 hsz
  go_wp2_with (first
    | (go_at_call 134;(with_reducible refine Calls.mono (CB.out _ hb2) ?_);rintro e w4 ⟨v4,rfl,ho4,hb4⟩)
    | (at_builtin;go_must (refine app_pair rfl _ _ rfl w2.heap.size _ _ rfl (ho4.pr (Pr.alloc _ _)) w4.heap.size rfl ((I:Int),(J:Int)) (heap_alloc_new w4 _) (by omega) (by have:=hb4.size;simp;omega) ?_);intro v5 w5 ho5 hg5 hd5))
  go_ret
  refine ⟨v5,rfl,ho5.mono (by rw [Hsz.out];exact Nat.le_refl _),?_⟩
  refine Below.grown (((hb2.trans hb4)).alloc' _) hg5 ?_ ?_
  · have:=hb4.size;have:=Hsz.out;simp;omega
  · intro k' hk';have:=(ho4.block k' hk').1;have:=Hsz.out;omega
theorem cost_nds (a b:Tr) (B:Nat) (w:World) (h:TblOk w B (nds a) (nds b)) (ha:fault a=0) (hb:fault b=0) :
    Calls Tryz.prog 66 #[.pointer (some ⟨B,0,none⟩)] w fun e w'=>e=.returned (.int .i64 (costT a b:Nat))∧Pr w w':=by
  have h1:=(fault_zero.1 ha).1
  have h2:=(fault_zero.1 hb).1
  have h3:=a.sz_pos
  have h4:=b.sz_pos
  have:=cost_any (nds a) (nds b) B w h (fit_nds a) (fit_nds b) (by rw [nds_length];omega) (by rw [nds_length];omega) (by rw [nds_length];omega) (by rw [nds_length];omega)
  rw [nds_length,nds_length,lab_root,lab_root,← costT_eq] at this
  exact this
theorem best_nds (a b:Tr) (B:Nat) (w:World) (h:TblOk w B (nds a) (nds b)) (ha:fault a=0) (hb:fault b=0) :
    Calls Tryz.prog 98 #[.pointer (some ⟨B,0,none⟩)] w (PsPost w (zp (bestT a b))):=by
  have h1:=(fault_zero.1 ha).1
  have h2:=(fault_zero.1 hb).1
  have h3:=a.sz_pos
  have h4:=b.sz_pos
  have:=bestTop_any (nds a) (nds b) B w h (fit_nds a) (fit_nds b) (by rw [nds_length];omega) (by rw [nds_length];omega) (by rw [nds_length];omega) (by rw [nds_length];omega)
  rw [nds_length,nds_length] at this
  exact this
theorem distOf_yes (l:ByteArray) (ks:List Tr) (oa cap) (m:ByteArray) (js:List Tr) (ob cbp) (w:World) (hl:l.size≤maxLen) (hk:Kids Any w ks oa cap) (hm:m.size≤maxLen) (hj:Kids Any w js ob cbp) (ha:fault (.node l ks)=0) (hb:fault (.node m js)=0) :
    Calls Tryz.prog 65 #[.agg #[.string l,.slice oa ks.length cap],.agg #[.string m,.slice ob js.length cbp]] w fun e w'=>∃ B,e=.returned (.tuple #[.pointer (some ⟨B,0,none⟩),.int .i64 0])∧TblOk w' B (nds (.node l ks)) (nds (.node m js))∧Pr w w':=by
  refine (distOf_any l ks oa cap m js ob cbp w hl hk hm hj).mono ?_
  rintro e w' ⟨h | h | h,hp⟩
  · exact absurd ha h.1
  · exact absurd hb h.2.1
  · obtain ⟨_,_,B,rfl,hT⟩:=h
    exact ⟨B,rfl,hT,hp⟩
end Go.Proofs.YtdbnfhpgmcjngabGreatDoor
/- The laws on distance: how they begin; that it is a distance; what is put above or beside. -/
namespace Go.Proofs.YtdbnfhpgmcjngabGreatDoor
open Go Go.RowKit
def kA:List Tr:=[.node ⟨#[98]⟩ [.node ⟨#[99]⟩ []]]
def kB:List Tr:=[.node ⟨#[99]⟩ [],.node ⟨#[100]⟩ []]
end Go.Proofs.YtdbnfhpgmcjngabGreatDoor
