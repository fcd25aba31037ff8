/- The law ScriptMakes: its walk; and Diff of what is no tree. -/
import Derived.Test.YtdbnfhpgmcjngadGreatDoorByf
import Derived.Deep.DeepCutAuto
namespace Go.Proofs.YtdbnfhpgmcjngadGreatDoor
open Go Go.RowKit
theorem nameC_few (xs ys:List Nd) (L:List (Nat × Nat)):nameC xs ys L≤L.length:=by
  induction L with
  | nil=>simp [nameC]
  | cons p L ih =>
    have h:=lc_le (labN xs p.1) (labN ys p.2)
    simp only [nameC,List.map_cons,List.foldr_cons,List.length_cons] at ih ⊢
    omega
theorem cost_few {a b:Tr} (ha:fault a=0) (hb:fault b=0):costT a b≤80:=by
  have h1:=(bestT_good a b).2.2
  have h2:=nameC_few (nds a) (nds b) (bestT a b)
  have h3:=(fault_zero.1 ha).1
  have h4:=(fault_zero.1 hb).1
  omega
set_option maxRecDepth 100000 in
set_option maxHeartbeats 1600000 in
theorem diff_no (l:ByteArray) (ks:List Tr) (oa cap) (m:ByteArray) (js:List Tr) (ob cbp) (w:World) (hl:l.size≤maxLen) (hk:Kids Any w ks oa cap) (hm:m.size≤maxLen) (hj:Kids Any w js ob cbp)
    (c:Nat) (hc:c=if fault (.node l ks)=0 then fault (.node m js) else fault (.node l ks)) (h0:c≠0) :
    Calls Tryz.prog 16 #[.agg #[.string l,.slice oa ks.length cap],.agg #[.string m,.slice ob js.length cbp]] w fun e w'=>e=.returned (.tuple #[.slice none 0 0,.int .i64 (c:Nat)])∧Pr w w':=by
  obtain ⟨W,hW⟩:∃ W,W=(w.alloc (.cells #[.string l,.slice oa ks.length cap] 33)).alloc (.cells #[.string m,.slice ob js.length cbp] 33):=⟨_,rfl⟩
  have hwW:Pr w W:=by rw [hW];exact (Pr.alloc _ _).alloc' _
  have x0:W.cell? ⟨w.heap.size,0,none⟩=some (.string l):=by rw [hW];simp [go_sem]
  have x1:W.cell? ⟨w.heap.size,1,none⟩=some (.slice oa ks.length cap):=by rw [hW];simp [go_sem]
  have x2:W.cell? ⟨w.heap.size+1,0,none⟩=some (.string m):=by rw [hW];simp [go_sem]
  have x3:W.cell? ⟨w.heap.size+1,1,none⟩=some (.slice ob js.length cbp):=by rw [hW];simp [go_sem]
  have T1:Hid (Calls Tryz.prog 38 #[.agg #[.string l,.slice oa ks.length cap],.agg #[.string m,.slice ob js.length cbp]] W fun e w'=>e=.returned (.tuple #[.pointer none,.int .i64 (c:Nat)])∧Pr W w'):=Lib.hid (by
    refine (distOf_any l ks oa cap m js ob cbp W hl (hk.pr hwW) hm (hj.pr hwW)).mono ?_
    rintro e w' ⟨h | h | h,hp⟩
    · rw [if_neg h.1] at hc;subst hc;exact ⟨h.2,hp⟩
    · rw [if_pos h.1] at hc;subst hc;exact ⟨h.2.2,hp⟩
    · rw [if_pos h.1,h.2.1] at hc;exact absurd hc h0)
  have e1:((c:Int) != 0)=true:=by simp [bne_iff_ne];omega
  have HW:=Lib.hid hwW
  clear hwW hk hj hc h0
  go_enter Tryz.func16,Tryz.ntmps16
  go_upto_region 1 with fail
  rw [← hW];clear hW
  go_wp2_with (go_at_call 38;(with_reducible refine Calls.mono T1.out ?_);rintro e w1 ⟨rfl,hb1⟩)
  go_ret2
  exact ⟨rfl,HW.out.trans hb1⟩
end Go.Proofs.YtdbnfhpgmcjngadGreatDoor
