/- Walks: a builder of text, alone or at the head of a struct. -/
import Derived.Test.YtdbnfhpgmcjngadGreatDoorMem
import Derived.Test.YtdbnfhpgmcjngadGreatDoorBmt
import Derived.WalkKit
import Derived.RegionTactic
import Derived.BigRegion
import Derived.ChangeAlike
import Derived.Lib.Builder
import Derived.Lib.AppendStr
import Derived.Lib.UnsafeStr
import Derived.Lib.OthersKept
import Derived.Laws.Externs
namespace Go.Proofs.YtdbnfhpgmcjngadGreatDoor
open Go Go.RowKit
section
variable (T:TypeId) (rest:Array Value)
def HasB:Prop:=liesAt Tryz.prog Tryz.prog.depth T ((2+rest.size) / Tryz.prog.cellsOf T) 0 106 1=true∧T≠5
def Bdr (B M:Nat) (w:World) (l:List UInt8):Prop:=B≤M∧∃ p v,(p=.pointer none∨p=.pointer (some ⟨M,0,none⟩))∧w.heap[M]? = some (.cells (#[p,v] ++ rest) T (0,0))∧w.ownsRow B 5 1 v l.length (Lib.byteCells l)∧v.ownBlock≠some M
abbrev Wrt (B M:Nat) (w w':World):Prop:=Below B w w'∧Lib.OthersKept 5 (some M) w w'
theorem bu_ptrBuilder:Tryz.prog.underlying 103=some (.pointer 106):=by kernel_rfl
theorem bu_unsafe:Tryz.prog.underlying 165=some .unsafePointer:=by kernel_rfl
theorem bu_bytes:Tryz.prog.underlying 104=some (.slice 5):=by kernel_rfl
theorem bu_stringT:Tryz.prog.underlying 9=some .string:=by kernel_rfl
theorem bu_ptrByte:Tryz.prog.underlying 140=some (.pointer 5):=by kernel_rfl
theorem bi_byte:(Tryz.prog.info? 5).map (fun i=>(i.zero,i.size,i.bytes))=some (some (.int .u8 0),1,1):=by kernel_rfl
theorem bi_builder:(Tryz.prog.info? 106).map (·.size)=some 2:=by kernel_rfl
theorem bc_byte:Tryz.prog.cellsOf 5=1:=by kernel_rfl
theorem bshape_cells {w:World} {M:Nat} {x y:Value} {T:TypeId} {rest:Array Value} {fz:Nat × Nat} (h:w.heap[M]? = some (.cells (#[x,y] ++ rest) T fz)):w.shape? M=some (T,2+rest.size):=by simp [World.shape?,h]
theorem bcell0 {w:World} {M:Nat} {x y:Value} {T:TypeId} {rest:Array Value} {fz:Nat × Nat} (h:w.heap[M]? = some (.cells (#[x,y] ++ rest) T fz)):w.cell? ⟨M,0,none⟩=some x:=by rw [blk_cell h,Array.getElem?_append_left (by simp)];rfl
theorem bcell1 {w:World} {M:Nat} {x y:Value} {T:TypeId} {rest:Array Value} {fz:Nat × Nat} (h:w.heap[M]? = some (.cells (#[x,y] ++ rest) T fz)):w.cell? ⟨M,1,none⟩=some y:=by rw [blk_cell h,Array.getElem?_append_left (by simp)];rfl
theorem bset0 {w:World} {M:Nat} {x y:Value} {T:TypeId} {rest:Array Value} {fz:Nat × Nat} (h:w.heap[M]? = some (.cells (#[x,y] ++ rest) T fz)) (u:Value):(w.setCell ⟨M,0,none⟩ u).heap[M]? = some (.cells (#[u,y] ++ rest) T fz):=by
  rw [blk_set h];congr 2;rw [Array.setIfInBounds_append_left (by simp)];rfl
theorem bset1 {w:World} {M:Nat} {x y:Value} {T:TypeId} {rest:Array Value} {fz:Nat × Nat} (h:w.heap[M]? = some (.cells (#[x,y] ++ rest) T fz)) (u:Value):(w.setCell ⟨M,1,none⟩ u).heap[M]? = some (.cells (#[x,u] ++ rest) T fz):=by
  rw [blk_set h];congr 2;rw [Array.setIfInBounds_append_left (by simp)];rfl
set_option maxRecDepth 100000 in
set_option maxHeartbeats 1000000 in
theorem bcopy_fresh (hT:HasB T rest) (M:Nat) (w:World) (v:Value) (h:w.heap[M]? = some (.cells (#[.pointer none,v] ++ rest) T (0,0))) :
    Calls Tryz.prog 78 #[.pointer (some ⟨M,0,none⟩)] w fun e w'=>e=.returned (.tuple #[])∧w'=w.setCell ⟨M,0,none⟩ (.pointer (some ⟨M,0,none⟩)):=by
  obtain ⟨j,hj,hjs⟩:=Option.map_eq_some_iff.1 bi_builder
  have h0:w.cell? ⟨M,0,none⟩=some (.pointer none):=bcell0 h
  have hfz:w.frozen? ⟨M,0,none⟩=false:=blk_frozen h
  have hsh:=bshape_cells h
  have k1:=Lib.run_to_unsafe w ⟨M,0,none⟩ bu_ptrBuilder bu_unsafe hj (by rw [hjs];decide) hsh (by show 0 < 2+rest.size;omega)
  have k2:(callFunc 101 #[.pointer (some ⟨M,0,none⟩)]).run Tryz.prog w=.ok (.value (.pointer (some ⟨M,0,none⟩))) w:=by
    rw [run_callFunc_extern (fn:=Tryz.f101) rfl (by kernel_rfl) (by kernel_rfl) (by kernel_rfl) (e:=Extern.AbiNoEscape.same) (by kernel_rfl),Lib.run_noEscape];rfl
  have k3:=Lib.run_from_unsafe w ⟨M,0,none⟩ bu_unsafe bu_ptrBuilder hj hsh hT.1
  go_enter Tryz.func78,Tryz.ntmps78
  go_wp2
  go_end0
  exact ⟨rfl,rfl⟩
set_option maxRecDepth 100000 in
set_option maxHeartbeats 1000000 in
theorem bcopy_used (M:Nat) (w:World) (v:Value) (h:w.heap[M]? = some (.cells (#[.pointer (some ⟨M,0,none⟩),v] ++ rest) T (0,0))) :
    Calls Tryz.prog 78 #[.pointer (some ⟨M,0,none⟩)] w fun e w'=>e=.returned (.tuple #[])∧w'=w:=by
  obtain ⟨j,hj,_⟩:=Option.map_eq_some_iff.1 bi_builder
  have h0:w.cell? ⟨M,0,none⟩=some (.pointer (some ⟨M,0,none⟩)):=bcell0 h
  have k1:=Lib.run_neq_ptr_same (P:=Tryz.prog) (w:=w) ⟨M,0,none⟩ bu_ptrBuilder hj
  go_enter Tryz.func78,Tryz.ntmps78
  go_wp2
  go_end0
  exact ⟨rfl,rfl⟩
theorem brow_kind {w:World} {B e size:Nat} {v:Value} {n:Nat} {xs:List Value} (h:w.ownsRow B e size v n xs):∀ g,v.ownBlock=some g→∃ c fz,w.heap[g]? = some (.cells c e fz):=by
  intro g hg
  rcases h.2 with ⟨rfl,_⟩ | ⟨g',cap,cur,rfl,_,h3,_⟩
  · cases hg
  · cases hg;exact ⟨_,_,h3⟩
theorem bcopy_any (hT:HasB T rest) (B M:Nat) (w:World) (l:List UInt8) (h:Bdr T rest B M w l) :
    Calls Tryz.prog 78 #[.pointer (some ⟨M,0,none⟩)] w fun e w'=>e=.returned (.tuple #[])∧Bdr T rest B M w' l∧Wrt B M w w':=by
  obtain ⟨hB,p,v,rfl | rfl,hb,ho,hn⟩:=h
  · refine (bcopy_fresh T rest hT M w v hb).mono ?_
    rintro e w' ⟨rfl,rfl⟩
    refine ⟨rfl,⟨hB,_,v,.inr rfl,bset0 hb _,ownsRow_kept ho (fun k hk=>Below.heap_setCell _ _ _ _ (fun e=>hn (by have e':k=M:=e;rw [← e'];exact hk))),hn⟩,(Below.refl B w).setCell (p:=⟨M,0,none⟩) hB _,(Lib.OthersKept.refl _ _ w).setCell ⟨M,0,none⟩ rfl _⟩
  · refine (bcopy_used T rest M w v hb).mono ?_
    rintro e w' ⟨rfl,rfl⟩
    exact ⟨rfl,⟨hB,_,v,.inr rfl,hb,ho,hn⟩,Below.refl B _,Lib.OthersKept.refl _ _ _⟩
set_option maxRecDepth 100000 in
set_option maxHeartbeats 2000000 in
theorem bstring_any (hT:HasB T rest) (B M:Nat) (w:World) (l:List UInt8) (s:ByteArray) (h:Bdr T rest B M w l) (hlen:l.length+s.size≤100000000000) (hBw:B≤w.heap.size) :
    Calls Tryz.prog 51 #[.pointer (some ⟨M,0,none⟩),.string s] w fun e w'=>e=.returned (.tuple #[.int .i64 s.size,.nilIface])∧Bdr T rest B M w' (l ++ s.data.toList)∧Wrt B M w w':=by
  obtain ⟨i0,hi,hz0,hz1,hz2⟩:=info_parts bi_byte
  go_enter Tryz.func51,Tryz.ntmps51
  go_wp2_with (go_at_call 78;(with_reducible refine Calls.mono (bcopy_any T rest hT B M _ l h) ?_))
  rintro e w1 ⟨rfl,⟨hB,p,v,hpp,hb,ho,hn⟩,hb1,hk1⟩
  have c1:w1.cell? ⟨M,1,none⟩=some v:=bcell1 hb
  go_wp2_with (at_builtin;refine Lib.wpList_append_own_string _ rfl _ _ 104 9 rfl B 5 i0 bu_bytes bu_stringT hi hz0 hz1 hz2 _ _ _ rfl ho s rfl ?c3 ?c4 ?c5 ?_)
  case c3=>unfold maxLen;omega
  case c4=>omega
  case c5=>have:=hb1.size;omega
  intro v' w2 ho2 hg2 _
  have hb2:w2.heap[M]? = some (.cells (#[p,v] ++ rest) T (0,0)):=grown_blk hg2 hb hn
  have d1:w2.cell? ⟨M,1,none⟩=some v:=bcell1 hb2
  have f1:w2.frozen? ⟨M,1,none⟩=false:=blk_frozen hb2
  obtain ⟨ao,n',cap,rfl⟩:∃ ao n' cap,v'=.slice ao n' cap:=by
    rcases ho2.2 with ⟨hv,_⟩ | ⟨g,cap,cur,hv,_⟩
    · exact ⟨_,_,_,hv⟩
    · exact ⟨_,_,_,hv⟩
  go_wp2
  go_ret2
  have hne2:(Value.slice ao n' cap).ownBlock≠some M:=by
    intro e
    obtain ⟨c,fz,h3⟩:=brow_kind ho2 M e
    rw [hb2] at h3;simp only [Option.some.injEq,Obj.cells.injEq] at h3;exact hT.2 h3.2.1
  refine ⟨rfl,⟨hB,p,_,hpp,bset1 hb2 _,?_,hne2⟩,?_,(hk1.grown hg2 (brow_kind ho)).setCell ⟨M,1,none⟩ rfl _⟩
  · have:=ownsRow_kept ho2 (w':=w2.setCell ⟨M,1,none⟩ (.slice ao n' cap)) (fun k hk=>Below.heap_setCell _ _ _ _ (fun e=>hne2 (by have e':k=M:=e;rw [← e'];exact hk)))
    rw [Lib.strCells_eq,← Lib.byteCells_append] at this
    rw [List.length_append];exact this
  · exact (hb1.grown hg2 (Nat.le_trans hBw hb1.size) (fun k hk=>(ho.lt k hk).1)).setCell (p:=⟨M,1,none⟩) hB _
set_option maxRecDepth 100000 in
set_option maxHeartbeats 2000000 in
theorem bread_any (B M:Nat) (w:World) (l:List UInt8) (h:Bdr T rest B M w l) (h0:l≠[]) :
    Calls Tryz.prog 52 #[.pointer (some ⟨M,0,none⟩)] w fun e w'=>e=.returned (.string ⟨⟨l⟩⟩)∧Below B w w':=by
  obtain ⟨hB,p,v,hpp,hb,ho,hn⟩:=h
  have hl0:l.length≠0:=by simpa using h0
  obtain ⟨g,cap,cur,rfl,hbg,hg,hnc,hcm,hcs,htake⟩:∃ g cap cur,v=.slice (some ⟨g,0,none⟩) l.length cap∧B≤g∧w.heap[g]? = some (.cells cur 5 (0,0))∧l.length≤cap∧cap≤maxLen∧cur.size=cap * 1∧cur.toList.take (l.length * 1)=Lib.byteCells l:=by
    rcases ho.2 with ⟨_,hz⟩ | ⟨g,cap,cur,hv,r⟩
    · exact absurd hz hl0
    · exact ⟨g,cap,cur,hv,r⟩
  have c1:w.drew.cell? ⟨M,1,none⟩=some (.slice (some ⟨g,0,none⟩) l.length cap):=bcell1 hb
  have hSD:(Builtin.unsafeSliceData_ #[104] 140 #[.slice (some ⟨g,0,none⟩) l.length cap]).run Tryz.prog w.drew=.ok (.pointer (some ⟨g,0,none⟩)) w.drew :=
    Lib.run_unsafeSliceData_row _ _ _ _ _ _ (by omega)
  have hUS:(Builtin.unsafeString_ #[140,3] 9 #[.pointer (some ⟨g,0,none⟩),.int .i64 l.length]).run Tryz.prog w.drew=.ok (.string ⟨⟨l⟩⟩) (w.drew.freeze ⟨g,0,none⟩ l.length):=by
    refine Lib.run_unsafeString_row w.drew 140 3 9 5 bu_ptrByte bc_byte g cur.size (by have hg':w.drew.heap[g]? = some (.cells cur 5 (0,0)):=hg;simp [World.shape?,hg']) l h0 (by omega) (by unfold maxLen at hcm;omega) ?_
    intro j x hx
    obtain ⟨hj,rfl⟩:=List.getElem?_eq_some_iff.1 hx
    rw [Addr.add_lit,Nat.zero_add]
    have h1:cur[j]? = some (.int .u8 l[j].toNat):=by
      have h2:(cur.toList.take (l.length * 1))[j]? = some (.int .u8 l[j].toNat):=by rw [htake];simp [Lib.byteCells,hj]
      rw [List.getElem?_take] at h2
      split at h2
      · simpa using h2
      · cases h2
    show w.cell? ⟨g,j,none⟩=_
    rw [blk_cell hg];exact h1
  have hfin:=Lib.below_freeze (Below.drew (Below.refl B w)) (p:=⟨g,0,none⟩) hbg l.length
  have Hfin:=Lib.hid hfin
  clear hfin hb ho hg htake hnc hcm hcs
  go_enter Tryz.func52,Tryz.ntmps52
  go_wp2
  go_region
  all_goals (go_wp2;go_ret;exact ⟨rfl,Hfin.out⟩)
set_option maxRecDepth 100000 in
set_option maxHeartbeats 2000000 in
theorem bread_none (M:Nat) (w:World) (p:Value) (h:w.heap[M]? = some (.cells (#[p,.slice none 0 0] ++ rest) T (0,0))) :
    Calls Tryz.prog 52 #[.pointer (some ⟨M,0,none⟩)] w fun e w'=>e=.returned (.string ⟨#[]⟩)∧Pr w w':=by
  have c1:w.drew.cell? ⟨M,1,none⟩=some (.slice none 0 0):=bcell1 h
  have hSD:(Builtin.unsafeSliceData_ #[104] 140 #[.slice none 0 0]).run Tryz.prog w.drew=.ok (.pointer none) w.drew:=rfl
  have hUS:(Builtin.unsafeString_ #[140,3] 9 #[.pointer none,.int .i64 0]).run Tryz.prog w.drew=.ok (.string ⟨#[]⟩) w.drew:=rfl
  go_enter Tryz.func52,Tryz.ntmps52
  go_wp2
  go_region
  all_goals (go_wp2;go_ret;exact ⟨rfl,Pr.drew _⟩)
theorem bfresh (B M:Nat) (w:World) (hB:B≤M) (h:w.heap[M]? = some (.cells (#[.pointer none,.slice none 0 0] ++ rest) T (0,0))):Bdr T rest B M w [] :=
  ⟨hB,_,_,.inl rfl,h,World.ownsRow_nil _ _ _ _,by simp [Value.ownBlock]⟩
end
end Go.Proofs.YtdbnfhpgmcjngadGreatDoor
