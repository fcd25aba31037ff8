/- Walks: a builder of text, alone or at the head of a struct. -/
import Derived.Test.YtdbnfhpgmcjngabGreatDoorMem
import Derived.Test.YtdbnfhpgmcjngabGreatDoorBmt
import Derived.WalkKit
import Derived.RegionTactic
import Derived.BigRegion
import Derived.ChangeAlike
import Derived.Lib.Builder
import Derived.Lib.AppendStr
import Derived.Lib.UnsafeStr
import Derived.Lib.OthersKept
import Derived.Laws.Externs
import Derived.Test.YtdbnfhpgmcjngabGreatDoorBpe
import Derived.Test.YtdbnfhpgmcjngabGreatDoorBds
namespace Go.Proofs.YtdbnfhpgmcjngabGreatDoor
open Go Go.RowKit
section
variable (T:TypeId) (rest:Array Value)
def HasB:Prop:=liesAt Tryz.prog Tryz.prog.depth T ((2+rest.size) / Tryz.prog.cellsOf T) 0 38 1=true∧T≠5
def Bdr (B M:Nat) (w:World) (l:List UInt8):Prop:=B≤M∧∃ p v,(p=.pointer none∨p=.pointer (some ⟨M,0,none⟩))∧w.heap[M]? = some (.cells (#[p,v] ++ rest) T (0,0))∧w.ownsRow B 5 1 v l.length (Lib.byteCells l)∧v.ownBlock≠some M
abbrev Wrt (B M:Nat) (w w':World):Prop:=Below B w w'∧Lib.OthersKept 5 (some M) w w'
theorem bu_ptrBuilder:Tryz.prog.underlying 35=some (.pointer 38):=by kernel_rfl
theorem bu_unsafe:Tryz.prog.underlying 178=some .unsafePointer:=by kernel_rfl
theorem bu_bytes:Tryz.prog.underlying 36=some (.slice 5):=by kernel_rfl
theorem bu_stringT:Tryz.prog.underlying 9=some .string:=by kernel_rfl
theorem bu_ptrByte:Tryz.prog.underlying 62=some (.pointer 5):=by kernel_rfl
theorem bi_byte:(Tryz.prog.info? 5).map (fun i=>(i.zero,i.size,i.bytes))=some (some (.int .u8 0),1,1):=by kernel_rfl
theorem bi_builder:(Tryz.prog.info? 38).map (·.size)=some 2:=by kernel_rfl
theorem bc_byte:Tryz.prog.cellsOf 5=1:=by kernel_rfl
theorem bshape_cells {w:World} {M:Nat} {x y:Value} {T:TypeId} {rest:Array Value} {fz:Nat × Nat} (h:w.heap[M]? = some (.cells (#[x,y] ++ rest) T fz)):w.shape? M=some (T,2+rest.size):=by simp [World.shape?,h]
theorem bcell0 {w:World} {M:Nat} {x y:Value} {T:TypeId} {rest:Array Value} {fz:Nat × Nat} (h:w.heap[M]? = some (.cells (#[x,y] ++ rest) T fz)):w.cell? ⟨M,0,none⟩=some x:=by rw [blk_cell h,Array.getElem?_append_left (by simp)];rfl
theorem bcell1 {w:World} {M:Nat} {x y:Value} {T:TypeId} {rest:Array Value} {fz:Nat × Nat} (h:w.heap[M]? = some (.cells (#[x,y] ++ rest) T fz)):w.cell? ⟨M,1,none⟩=some y:=by rw [blk_cell h,Array.getElem?_append_left (by simp)];rfl
theorem bset0 {w:World} {M:Nat} {x y:Value} {T:TypeId} {rest:Array Value} {fz:Nat × Nat} (h:w.heap[M]? = some (.cells (#[x,y] ++ rest) T fz)) (u:Value):(w.setCell ⟨M,0,none⟩ u).heap[M]? = some (.cells (#[u,y] ++ rest) T fz):=by
  rw [blk_set h];congr 2;rw [Array.setIfInBounds_append_left (by simp)];rfl
theorem bset1 {w:World} {M:Nat} {x y:Value} {T:TypeId} {rest:Array Value} {fz:Nat × Nat} (h:w.heap[M]? = some (.cells (#[x,y] ++ rest) T fz)) (u:Value):(w.setCell ⟨M,1,none⟩ u).heap[M]? = some (.cells (#[x,u] ++ rest) T fz):=by
  rw [blk_set h];congr 2;rw [Array.setIfInBounds_append_left (by simp)];rfl
set_option maxRecDepth 100000 in
set_option maxHeartbeats 1000000 in
theorem bcopy_fresh (hT:HasB T rest) (M:Nat) (w:World) (v:Value) (h:w.heap[M]? = some (.cells (#[.pointer none,v] ++ rest) T (0,0))) :
    Calls Tryz.prog 72 #[.pointer (some ⟨M,0,none⟩)] w fun e w'=>e=.returned (.tuple #[])∧w'=w.setCell ⟨M,0,none⟩ (.pointer (some ⟨M,0,none⟩)):=by
  obtain ⟨j,hj,hjs⟩:=Option.map_eq_some_iff.1 bi_builder
  have h0:w.cell? ⟨M,0,none⟩=some (.pointer none):=bcell0 h
  have hfz:w.frozen? ⟨M,0,none⟩=false:=blk_frozen h
  have hsh:=bshape_cells h
  have k1:=Lib.run_to_unsafe w ⟨M,0,none⟩ bu_ptrBuilder bu_unsafe hj (by rw [hjs];decide) hsh (by show 0 < 2+rest.size;omega)
  have k2:(callFunc 117 #[.pointer (some ⟨M,0,none⟩)]).run Tryz.prog w=.ok (.value (.pointer (some ⟨M,0,none⟩))) w:=by
    rw [run_callFunc_extern (fn:=Tryz.f117) rfl (by kernel_rfl) (by kernel_rfl) (by kernel_rfl) (e:=Extern.AbiNoEscape.same) (by kernel_rfl),Lib.run_noEscape];rfl
  have k3:=Lib.run_from_unsafe w ⟨M,0,none⟩ bu_unsafe bu_ptrBuilder hj hsh hT.1
  go_enter Tryz.func72,Tryz.ntmps72
  go_wp2
  go_end0
  exact ⟨rfl,rfl⟩
set_option maxRecDepth 100000 in
set_option maxHeartbeats 1000000 in
theorem bcopy_used (M:Nat) (w:World) (v:Value) (h:w.heap[M]? = some (.cells (#[.pointer (some ⟨M,0,none⟩),v] ++ rest) T (0,0))) :
    Calls Tryz.prog 72 #[.pointer (some ⟨M,0,none⟩)] w fun e w'=>e=.returned (.tuple #[])∧w'=w:=by
  obtain ⟨j,hj,_⟩:=Option.map_eq_some_iff.1 bi_builder
  have h0:w.cell? ⟨M,0,none⟩=some (.pointer (some ⟨M,0,none⟩)):=bcell0 h
  have k1:=Lib.run_neq_ptr_same (P:=Tryz.prog) (w:=w) ⟨M,0,none⟩ bu_ptrBuilder hj
  go_enter Tryz.func72,Tryz.ntmps72
  go_wp2
  go_end0
  exact ⟨rfl,rfl⟩
theorem brow_kind {w:World} {B e size:Nat} {v:Value} {n:Nat} {xs:List Value} (h:w.ownsRow B e size v n xs):∀ g,v.ownBlock=some g→∃ c fz,w.heap[g]? = some (.cells c e fz):=by
  intro g hg
  rcases h.2 with ⟨rfl,_⟩ | ⟨g',cap,cur,rfl,_,h3,_⟩
  · cases hg
  · cases hg;exact ⟨_,_,h3⟩
theorem bcopy_any (hT:HasB T rest) (B M:Nat) (w:World) (l:List UInt8) (h:Bdr T rest B M w l) :
    Calls Tryz.prog 72 #[.pointer (some ⟨M,0,none⟩)] w fun e w'=>e=.returned (.tuple #[])∧Bdr T rest B M w' l∧Wrt B M w w':=by
  obtain ⟨hB,p,v,rfl | rfl,hb,ho,hn⟩:=h
  · refine (bcopy_fresh T rest hT M w v hb).mono ?_
    rintro e w' ⟨rfl,rfl⟩
    refine ⟨rfl,⟨hB,_,v,.inr rfl,bset0 hb _,ownsRow_kept ho (fun k hk=>Below.heap_setCell _ _ _ _ (fun e=>hn (by have e':k=M:=e;rw [← e'];exact hk))),hn⟩,(Below.refl B w).setCell (p:=⟨M,0,none⟩) hB _,(Lib.OthersKept.refl _ _ w).setCell ⟨M,0,none⟩ rfl _⟩
  · refine (bcopy_used T rest M w v hb).mono ?_
    rintro e w' ⟨rfl,rfl⟩
    exact ⟨rfl,⟨hB,_,v,.inr rfl,hb,ho,hn⟩,Below.refl B _,Lib.OthersKept.refl _ _ _⟩
set_option maxRecDepth 100000 in
set_option maxHeartbeats 2000000 in
theorem bstring_any (hT:HasB T rest) (B M:Nat) (w:World) (l:List UInt8) (s:ByteArray) (h:Bdr T rest B M w l) (hlen:l.length+s.size≤100000000000) (hBw:B≤w.heap.size) :
    Calls Tryz.prog 41 #[.pointer (some ⟨M,0,none⟩),.string s] w fun e w'=>e=.returned (.tuple #[.int .i64 s.size,.nilIface])∧Bdr T rest B M w' (l ++ s.data.toList)∧Wrt B M w w':=by
  obtain ⟨i0,hi,hz0,hz1,hz2⟩:=info_parts bi_byte
  go_enter Tryz.func41,Tryz.ntmps41
  go_wp2_with (go_at_call 72;(with_reducible refine Calls.mono (bcopy_any T rest hT B M _ l h) ?_))
  rintro e w1 ⟨rfl,⟨hB,p,v,hpp,hb,ho,hn⟩,hb1,hk1⟩
  have c1:w1.cell? ⟨M,1,none⟩=some v:=bcell1 hb
  go_wp2_with (at_builtin;refine Lib.wpList_append_own_string _ rfl _ _ 36 9 rfl B 5 i0 bu_bytes bu_stringT hi hz0 hz1 hz2 _ _ _ rfl ho s rfl ?c3 ?c4 ?c5 ?_)
  case c3=>unfold maxLen;omega
  case c4=>omega
  case c5=>have:=hb1.size;omega
  intro v' w2 ho2 hg2 _
  have hb2:w2.heap[M]? = some (.cells (#[p,v] ++ rest) T (0,0)):=grown_blk hg2 hb hn
  have d1:w2.cell? ⟨M,1,none⟩=some v:=bcell1 hb2
  have f1:w2.frozen? ⟨M,1,none⟩=false:=blk_frozen hb2
  obtain ⟨ao,n',cap,rfl⟩:∃ ao n' cap,v'=.slice ao n' cap:=by
    rcases ho2.2 with ⟨hv,_⟩ | ⟨g,cap,cur,hv,_⟩
    · exact ⟨_,_,_,hv⟩
    · exact ⟨_,_,_,hv⟩
  go_wp2
  go_ret2
  have hne2:(Value.slice ao n' cap).ownBlock≠some M:=by
    intro e
    obtain ⟨c,fz,h3⟩:=brow_kind ho2 M e
    rw [hb2] at h3;simp only [Option.some.injEq,Obj.cells.injEq] at h3;exact hT.2 h3.2.1
  refine ⟨rfl,⟨hB,p,_,hpp,bset1 hb2 _,?_,hne2⟩,?_,(hk1.grown hg2 (brow_kind ho)).setCell ⟨M,1,none⟩ rfl _⟩
  · have:=ownsRow_kept ho2 (w':=w2.setCell ⟨M,1,none⟩ (.slice ao n' cap)) (fun k hk=>Below.heap_setCell _ _ _ _ (fun e=>hne2 (by have e':k=M:=e;rw [← e'];exact hk)))
    rw [Lib.strCells_eq,← Lib.byteCells_append] at this
    rw [List.length_append];exact this
  · exact (hb1.grown hg2 (Nat.le_trans hBw hb1.size) (fun k hk=>(ho.lt k hk).1)).setCell (p:=⟨M,1,none⟩) hB _
set_option maxRecDepth 100000 in
set_option maxHeartbeats 2000000 in
theorem bread_any (B M:Nat) (w:World) (l:List UInt8) (h:Bdr T rest B M w l) (h0:l≠[]) :
    Calls Tryz.prog 12 #[.pointer (some ⟨M,0,none⟩)] w fun e w'=>e=.returned (.string ⟨⟨l⟩⟩)∧Below B w w':=by
  obtain ⟨hB,p,v,hpp,hb,ho,hn⟩:=h
  have hl0:l.length≠0:=by simpa using h0
  obtain ⟨g,cap,cur,rfl,hbg,hg,hnc,hcm,hcs,htake⟩:∃ g cap cur,v=.slice (some ⟨g,0,none⟩) l.length cap∧B≤g∧w.heap[g]? = some (.cells cur 5 (0,0))∧l.length≤cap∧cap≤maxLen∧cur.size=cap * 1∧cur.toList.take (l.length * 1)=Lib.byteCells l:=by
    rcases ho.2 with ⟨_,hz⟩ | ⟨g,cap,cur,hv,r⟩
    · exact absurd hz hl0
    · exact ⟨g,cap,cur,hv,r⟩
  have c1:w.drew.cell? ⟨M,1,none⟩=some (.slice (some ⟨g,0,none⟩) l.length cap):=bcell1 hb
  have hSD:(Builtin.unsafeSliceData_ #[36] 62 #[.slice (some ⟨g,0,none⟩) l.length cap]).run Tryz.prog w.drew=.ok (.pointer (some ⟨g,0,none⟩)) w.drew :=
    Lib.run_unsafeSliceData_row _ _ _ _ _ _ (by omega)
  have hUS:(Builtin.unsafeString_ #[62,3] 9 #[.pointer (some ⟨g,0,none⟩),.int .i64 l.length]).run Tryz.prog w.drew=.ok (.string ⟨⟨l⟩⟩) (w.drew.freeze ⟨g,0,none⟩ l.length):=by
    refine Lib.run_unsafeString_row w.drew 62 3 9 5 bu_ptrByte bc_byte g cur.size (by have hg':w.drew.heap[g]? = some (.cells cur 5 (0,0)):=hg;simp [World.shape?,hg']) l h0 (by omega) (by unfold maxLen at hcm;omega) ?_
    intro j x hx
    obtain ⟨hj,rfl⟩:=List.getElem?_eq_some_iff.1 hx
    rw [Addr.add_lit,Nat.zero_add]
    have h1:cur[j]? = some (.int .u8 l[j].toNat):=by
      have h2:(cur.toList.take (l.length * 1))[j]? = some (.int .u8 l[j].toNat):=by rw [htake];simp [Lib.byteCells,hj]
      rw [List.getElem?_take] at h2
      split at h2
      · simpa using h2
      · cases h2
    show w.cell? ⟨g,j,none⟩=_
    rw [blk_cell hg];exact h1
  have hfin:=Lib.below_freeze (Below.drew (Below.refl B w)) (p:=⟨g,0,none⟩) hbg l.length
  have Hfin:=Lib.hid hfin
  clear hfin hb ho hg htake hnc hcm hcs
  go_enter Tryz.func12,Tryz.ntmps12
  go_wp2
  go_region
  all_goals (go_wp2;go_ret;exact ⟨rfl,Hfin.out⟩)
set_option maxRecDepth 100000 in
set_option maxHeartbeats 2000000 in
theorem bread_none (M:Nat) (w:World) (p:Value) (h:w.heap[M]? = some (.cells (#[p,.slice none 0 0] ++ rest) T (0,0))) :
    Calls Tryz.prog 12 #[.pointer (some ⟨M,0,none⟩)] w fun e w'=>e=.returned (.string ⟨#[]⟩)∧Pr w w':=by
  have c1:w.drew.cell? ⟨M,1,none⟩=some (.slice none 0 0):=bcell1 h
  have hSD:(Builtin.unsafeSliceData_ #[36] 62 #[.slice none 0 0]).run Tryz.prog w.drew=.ok (.pointer none) w.drew:=rfl
  have hUS:(Builtin.unsafeString_ #[62,3] 9 #[.pointer none,.int .i64 0]).run Tryz.prog w.drew=.ok (.string ⟨#[]⟩) w.drew:=rfl
  go_enter Tryz.func12,Tryz.ntmps12
  go_wp2
  go_region
  all_goals (go_wp2;go_ret;exact ⟨rfl,Pr.drew _⟩)
theorem bfresh (B M:Nat) (w:World) (hB:B≤M) (h:w.heap[M]? = some (.cells (#[.pointer none,.slice none 0 0] ++ rest) T (0,0))):Bdr T rest B M w [] :=
  ⟨hB,_,_,.inl rfl,h,World.ownsRow_nil _ _ _ _,by simp [Value.ownBlock]⟩
end
end Go.Proofs.YtdbnfhpgmcjngabGreatDoor
/- Walks: deeds as lines; the program's. -/
namespace Go.Proofs.YtdbnfhpgmcjngabGreatDoor
open Go Go.RowKit
theorem Bdr.pr {T:TypeId} {rest:Array Value} {B M:Nat} {w w':World} {l:List UInt8} (h:Bdr T rest B M w l) (hp:Pr w w'):Bdr T rest B M w' l:=by
  obtain ⟨hB,p,v,h1,h2,h3,h4⟩:=h
  exact ⟨hB,p,v,h1,hp.blk h2,ownsRow_kept h3 (fun k hk=>Below.block hp k (h3.lt k hk).2),h4⟩
theorem builder_has:HasB 38 #[]:=⟨by kernel_rfl,by decide⟩
def PrintPost (ds:List Dee) (w:World) (e:Ending) (w':World):Prop:=e=.returned (.tuple #[.string ⟨⟨(printP ds).1⟩⟩,.agg #[.int .i64 (printP ds).2.1,.int .i64 (printP ds).2.2]])∧Pr w w'
theorem set2 {w:World} {b:Nat} {x0 x1:Value} {T:TypeId} (v0 v1:Value) (h:w.heap[b]? = some (.cells #[x0,x1] T (0,0))) :
    ((w.setCell ⟨b,0,none⟩ v0).setCell ⟨b,1,none⟩ v1).heap[b]? = some (.cells #[v0,v1] T (0,0)):=by
  have:=blk_set (o:=1) (blk_set (o:=0) h v0) v1
  simpa using this
def FewD (ds:List Dee):Prop:=∀ d∈ds,d.path.length≤100000∧d.lab.size≤100000
theorem line_le {d:Dee} (h:lineC d=0) (hf:d.path.length≤100000∧d.lab.size≤100000):(lineT d).length≤2500000:=by
  obtain ⟨h0,hp,ha,hm0,hm1⟩:=lineC_zero h
  have hk:=(dfault_zero.1 h0).1
  have h1:=pathT_le d.path (fun x hx=>by have:=hp x hx;omega)
  have h2:=Lib.itoa_length_le d.pos (by omega) (by omega)
  have h3:=Lib.itoa_length_le d.many (by omega) (by omega)
  have h4:d.lab.data.toList.length=d.lab.size:=sizeL _
  rcases (show d.kind=1∨d.kind=2∨d.kind=3 by omega) with h | h | h
  · rw [line1 h];simp only [List.length_append,List.length_cons,List.length_nil];omega
  · rw [line2 h];simp only [List.length_append,List.length_cons,List.length_nil];omega
  · rw [line3 h];simp only [List.length_append,List.length_cons,List.length_nil];omega
theorem ended_snoc (x:List UInt8):∀ l:List (List UInt8),ended (l ++ [x])=ended l ++ (x ++ [10])
  | []=>by simp [ended]
  | y :: l=>by rw [List.cons_append,ended,ended_snoc x l,ended];simp
theorem ended_len {ds:List Dee} (hc:∀ d∈ds,lineC d=0) (hf:FewD ds):(ended (ds.map lineT)).length≤2500001 * ds.length:=by
  induction ds with
  | nil=>simp [ended]
  | cons d r ih =>
    have h1:=line_le (hc d (by simp)) (hf d (by simp))
    have h2:=ih (fun x hx=>hc x (by simp [hx])) (fun x hx=>hf x (by simp [hx]))
    simp only [List.map_cons,ended,List.length_append,List.length_cons];omega
theorem lines_first:∀ (ds:List Dee) (j i:Nat) (h:i < ds.length),(∀ d∈ds.take i,lineC d=0)→lineC ds[i]≠0→lines j ds=.error (lineC ds[i],j+i)
  | [],_,_,h,_,_=>absurd h (Nat.not_lt_zero _)
  | d :: r,j,0,_,_,hb=>by rw [lines,if_pos (by simpa using hb)];rfl
  | d :: r,j,i+1,h,hc,hb=>by
    have h0:=hc d (by simp)
    rw [lines,if_neg (by simpa using h0),lines_first r (j+1) i (by simpa using h) (fun x hx=>hc x (by simp [hx])) (by simpa using hb)]
    simp;omega
theorem print_first {ds:List Dee} (hn:ds.length≤80) {i:Nat} (h:i < ds.length) (hc:∀ d∈ds.take i,lineC d=0) (hb:lineC ds[i]≠0):printP ds=([],(lineC ds[i]:Int),(i:Int)):=by
  unfold printP
  rw [if_neg (by omega),lines_first ds 0 i h hc hb];simp
theorem print_many {ds:List Dee} (hn:80 < ds.length):printP ds=([],2,-1):=by unfold printP;rw [if_pos hn]
theorem lineP_first {d:Dee} (h:lineC d≠0):lineP d=([],lineC d):=by unfold lineP;rw [if_pos h]
set_option maxRecDepth 100000 in
set_option maxHeartbeats 6400000 in
theorem print_any (ds:List Dee) (oa cap) (w:World) (hds:Dees Any w ds oa cap) (hF:FewD ds) (hw:Lv w) :
    Calls Tryz.prog 111 #[.slice oa ds.length cap] w (PrintPost ds w):=by
  have hlen:=hds.len
  have HDS:=Lib.hid hds;have HF:=Lib.hid hF;have HW:=Lib.hid hw
  clear hds hF hw
  by_cases hn:80 < ds.length
  · have Hp:=Lib.hid (print_many hn)
    have n0:(80:Int) < ds.length:=by omega
    clear hn
    go_enter Tryz.func111,Tryz.ntmps111
    go_wp2_with fail
    refine bodyPost_ret (v:=.tuple #[.string ⟨#[]⟩,.agg #[.int .i64 2,.int .i64 (-1)]]) (by simp [results,Tryz.results111,go_sem]) rfl ?_
    exact ⟨by rw [Hp.out],Pr.alloc _ _⟩
  · have hn80:ds.length≤80:=by omega
    have n0:decide ((80:Int) < ds.length)=false:=by simp;omega
    have n1:decide (80 < ds.length)=false:=by simp;omega
    have HN:=Lib.hid hn80
    obtain ⟨W,hW⟩:∃ W,W=(w.alloc (.cells #[.int .i64 0,.int .i64 0] 29)).alloc (.cells (#[.pointer none,.slice none 0 0] ++ #[]) 38):=⟨_,rfl⟩
    have hwW:Pr w W:=by rw [hW];exact (Pr.alloc _ _).alloc' _
    have hbW:W.heap[w.heap.size]? = some (.cells #[.int .i64 0,.int .i64 0] 29 (0,0)):=by rw [hW];exact (Pr.alloc _ _).blk (heap_alloc_new w _)
    have hbB:W.heap[w.heap.size+1]? = some (.cells (#[.pointer none,.slice none 0 0] ++ #[]) 38 (0,0)):=by rw [hW];have:=heap_alloc_new (w.alloc (.cells #[.int .i64 0,.int .i64 0] 29)) (.cells (#[.pointer none,.slice none 0 0] ++ #[]) 38);simpa using this
    have hsW:W.heap.size=w.heap.size+1+1:=by rw [hW];simp
    have HwW:=Lib.hid hwW;have HbW:=Lib.hid hbW;have HbB:=Lib.hid hbB;have HsW:=Lib.hid hsW
    clear hn hwW hbW hbB hsW hn80
    go_enter Tryz.func111,Tryz.ntmps111
    go_upto_region 4 with fail
    simp only [Array.append_empty] at hW
    rw [← hW];clear hW
    go_wp2_with fail
    go_loopw [15] (fun x wr=>∃ i:Nat,i≤ds.length∧x=.int .i64 i∧(∀ d∈ds.take i,lineC d=0)∧Bdr 38 #[] (w.heap.size+1) (w.heap.size+1) wr (ended ((ds.take i).map lineT))∧(i=0→wr=W)∧Below (w.heap.size+1) W wr) (fun x _=>ds.length - (intOf x).toNat)
    case atStart=>exact ⟨0,by omega,rfl,by simp,bfresh _ _ _ _ _ (Nat.le_refl _) HbB.out,fun _=>rfl,Below.refl _ _⟩
    case round =>
      obtain ⟨i,hi,rfl,hall,hbd,hzero,hbel⟩:=hrel
      have hwr:Pr w wr:=Below.trans HwW.out (hbel.mono (by omega))
      have hWr:W.heap.size≤wr.heap.size:=hbel.size
      have hb3:wr.heap[w.heap.size]? = some (.cells #[.int .i64 0,.int .i64 0] 29 (0,0)):=by rw [hbel.block _ (by omega)];exact HbW.out
      have Hall:=Lib.hid hall;have Hbd:=Lib.hid hbd;have Hzero:=Lib.hid hzero;have Hbel:=Lib.hid hbel;have Hb3:=Lib.hid hb3
      clear hall hbd hzero hbel hb3
      by_cases hlt:i < ds.length
      · obtain ⟨bk,o,pa,pc,rfl,c0,c1,c2,c3,c4,hints,hlab⟩:=(HDS.out.pr hwr).get i hlt
        have hfd:=HF.out ds[i] (List.getElem_mem _)
        have L:∀ W',Pr wr W'→Calls Tryz.prog 141 #[.agg #[.int .i64 ds[i].kind,.slice pa ds[i].path.length pc,.int .i64 ds[i].pos,.int .i64 ds[i].many,.string ds[i].lab]] W' (LinePost ds[i] W'):=fun W' h =>
          line_any ds[i].kind ds[i].path ds[i].pos ds[i].many ds[i].lab pa pc W' hfd.2 (Flat.pr h hints) hfd.1 (HW.out.pr (hwr.trans h))
        unfold LinePost at L
        by_cases hc:lineC ds[i]=0
        · obtain ⟨b,hb⟩:∃ b:ByteArray,b=⟨⟨lineT ds[i]⟩⟩:=⟨_,rfl⟩
          have hbl:b.data.toList=lineT ds[i]:=by rw [hb]
          have hbs:b.size≤2500000:=by rw [← sizeL,hbl];exact line_le hc hfd
          rw [lineP_ok hc] at L
          simp only [← hb] at L
          have hel:=ended_len Hall.out (fun d hd=>HF.out d (List.mem_of_mem_take hd))
          rw [List.length_take] at hel
          have L:=Lib.hid L;have Hbl:=Lib.hid hbl;have Hc:=Lib.hid hc
          have hel2:(ended ((ds.take i).map lineT)).length≤2500001 * 80:=Nat.le_trans hel (Nat.mul_le_mul_left _ (by have:=HN.out;omega))
          have Hel:=Lib.hid hel2
          clear hb hbl hc hel hel2 hints
          go_wp2_with (go_at_call 141;(with_reducible refine Calls.mono (L.out _ (Pr.alloc _ _)) ?_);rintro e w5 ⟨rfl,hp5⟩;refine Hid.out ?_)
          refine Lib.hid ?_
          have hp5':=(Pr.alloc wr _).trans hp5
          have hsz5:=hp5'.size
          have hbw:b.size+1≤3000000:=by omega
          have K:=bstring_any 38 #[] builder_has (w.heap.size+1) (w.heap.size+1) w5 (ended ((ds.take i).map lineT)) (b ++ ⟨#[10]⟩) (Hbd.out.pr hp5') (by rw [ByteArray.size_append];have:=Hel.out;show _+(b.size+1)≤_;omega) (by have:=HsW.out;omega)
          have K:=Lib.hid K
          go_wp2_with (go_at_call 41;(with_reducible refine Calls.mono K.out ?_);rintro e w6 ⟨rfl,hbd6,hb6,hk6⟩)
          refine ⟨⟨i+1,by omega,by go_num,?_,?_,fun h=>absurd h (by omega),?_⟩,by simp [intOf];omega⟩
          · intro d hd
            rw [List.take_succ_eq_append_getElem hlt] at hd
            rcases List.mem_append.1 hd with hd | hd
            · exact Hall.out d hd
            · rw [List.mem_singleton] at hd;subst hd;exact Hc.out
          · rw [List.take_succ_eq_append_getElem hlt,List.map_append,List.map_singleton,ended_snoc]
            rw [baL,Hbl.out] at hbd6;exact hbd6
          · exact Below.trans Hbel.out (Below.trans (hp5'.mono (by have:=HsW.out;omega)) hb6)
        · have hb:=lineP_first (d:=ds[i]) hc
          have hpf:=print_first HN.out hlt Hall.out hc
          obtain ⟨c,hcc⟩:∃ c,c=lineC ds[i]:=⟨_,rfl⟩
          rw [← hcc] at hb hpf hc
          rw [hb] at L
          have L:=Lib.hid L;have Hpf:=Lib.hid hpf
          have m0:((c:Int) != 0)=true:=by simp [bne_iff_ne];omega
          have m1:(c != 0)=true:=by simp [bne_iff_ne];omega
          clear hcc hb hpf hc hints
          go_wp2_with (go_at_call 141;(with_reducible refine Calls.mono (L.out _ (Pr.alloc _ _)) ?_);rintro e w5 ⟨rfl,hp5⟩;have hp5':=(Pr.alloc wr _).trans hp5;have hb3:=hp5'.blk Hb3.out;have z0:=blk_cell (o:=0) hb3;have z1:=blk_cell (o:=1) hb3;have y0:w5.frozen? ⟨w.heap.size,0,none⟩=false:=blk_frozen hb3;have y1:w5.frozen? ⟨w.heap.size,1,none⟩=false:=blk_frozen hb3;simp only [List.getElem?_toArray,List.getElem?_cons_zero,List.getElem?_cons_succ] at z0 z1)
          have hq5:=set2 (.int .i64 (c:Int)) (.int .i64 (i:Int)) hb3
          have q0:=blk_cell (o:=0) hq5;have q1:=blk_cell (o:=1) hq5
          simp only [List.getElem?_toArray,List.getElem?_cons_zero,List.getElem?_cons_succ] at q0 q1
          refine bodyPost_ret (v:=.tuple #[.string ⟨⟨[]⟩⟩,.agg #[.int .i64 (c:Int),.int .i64 (i:Int)]]) (by simp [results,Tryz.results111,go_sem,q0,q1]) rfl ?_
          exact ⟨by rw [Hpf.out],((hwr.trans hp5').setCell (Nat.le_refl _) _).setCell (Nat.le_refl _) _⟩
      · obtain rfl:i=ds.length:=by omega
        have hta:=Hall.out
        rw [List.take_length] at hta
        have hpp:=ok_print HN.out hta
        have hbd:=Hbd.out
        rw [List.take_length] at hbd
        have Hpp:=Lib.hid hpp
        have d1:decide ((ds.length:Int) < ds.length)=false:=by simp
        have S:∃ b:ByteArray,b=⟨⟨ended (ds.map lineT)⟩⟩∧Calls Tryz.prog 12 #[.pointer (some ⟨w.heap.size+1,0,none⟩)] wr fun e w'=>e=.returned (.string b)∧Below (w.heap.size+1) wr w':=by
          refine ⟨_,rfl,?_⟩
          by_cases hz:ds.length=0
          · have e:=Hzero.out hz
            have hnil:ds=[]:=List.eq_nil_of_length_eq_zero hz
            subst hnil
            rw [e]
            refine (bread_none 38 #[] (w.heap.size+1) W _ HbB.out).mono ?_
            rintro e w' ⟨rfl,hp⟩
            exact ⟨rfl,hp.mono (by have:=HsW.out;omega)⟩
          · refine bread_any 38 #[] (w.heap.size+1) (w.heap.size+1) wr _ hbd (ended_ne ?_)
            intro e
            have:=congrArg List.length e
            simp at this;rw [this] at hz;exact hz rfl
        obtain ⟨b,hb,S⟩:=S
        have S:=Lib.hid S;have Hb:=Lib.hid hb
        clear hta hpp hbd hb
        go_wp2_with (go_at_call 12;(with_reducible refine Calls.mono S.out ?_);rintro e w7 ⟨rfl,hb7⟩;have hb3:w7.heap[w.heap.size]? = some (.cells #[.int .i64 0,.int .i64 0] 29 (0,0)):=(by rw [hb7.block _ (by omega)];exact Hb3.out);have z0:=blk_cell (o:=0) hb3;have z1:=blk_cell (o:=1) hb3;have y0:w7.frozen? ⟨w.heap.size,0,none⟩=false:=blk_frozen hb3;have y1:w7.frozen? ⟨w.heap.size,1,none⟩=false:=blk_frozen hb3;simp only [List.getElem?_toArray,List.getElem?_cons_zero,List.getElem?_cons_succ] at z0 z1)
        have hq5:=set2 (.int .i64 0) (.int .i64 0) hb3
        have q0:=blk_cell (o:=0) hq5;have q1:=blk_cell (o:=1) hq5
        simp only [List.getElem?_toArray,List.getElem?_cons_zero,List.getElem?_cons_succ] at q0 q1
        refine bodyPost_ret (v:=.tuple #[.string b,.agg #[.int .i64 0,.int .i64 0]]) (by simp [results,Tryz.results111,go_sem,q0,q1]) rfl ?_
        exact ⟨by rw [Hpp.out,Hb.out],((Below.trans hwr (hb7.mono (by omega))).setCell (Nat.le_refl _) _).setCell (Nat.le_refl _) _⟩
end Go.Proofs.YtdbnfhpgmcjngabGreatDoor
