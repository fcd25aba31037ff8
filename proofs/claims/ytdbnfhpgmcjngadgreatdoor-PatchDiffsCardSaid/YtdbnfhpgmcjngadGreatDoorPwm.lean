/- Walks: what each law on deeds' lines begins with. -/
import Derived.Test.YtdbnfhpgmcjngadGreatDoorPwk
import Derived.Test.YtdbnfhpgmcjngadGreatDoorByf
namespace Go.Proofs.YtdbnfhpgmcjngadGreatDoor
open Go Go.RowKit
def pd0:Dee:=⟨1,[],0,0,⟨#[97]⟩⟩
def pd1:Dee:=⟨3,[0,2],1,3,⟨#[98]⟩⟩
def ptx:ByteArray:=⟨#[110,97,109,101,32,45,32,97,10,105,110,115,101,114,116,32,48,46,50,32,49,32,51,32,98,10]⟩
theorem pd_print:printP [pd0,pd1]=(ptx.data.toList,0,0):=by decide +kernel
theorem pd_read:readP ptx.data.toList=([pd0,pd1],0,0):=by
  have:=print_back (ds:=[pd0,pd1]) (by rw [pd_print])
  rwa [pd_print] at this
theorem pd_dees (w:World):Dees Any ((w.alloc (.cells #[.int .i64 0,.int .i64 2] 3)).alloc (.cells #[.int .i64 1,.slice none 0 0,.int .i64 0,.int .i64 0,.string ⟨#[97]⟩,.int .i64 3,.slice (some ⟨w.heap.size,0,none⟩) 2 2,.int .i64 1,.int .i64 3,.string ⟨#[98]⟩] 69)) [pd0,pd1] (some ⟨w.heap.size+1,0,none⟩) 2:=by
  refine ⟨⟨Nat.le_refl _,by unfold maxLen;omega⟩,w.heap.size+1,0,fun _=>⟨rfl,trivial⟩,fun i hi=>?_⟩
  have hi':i=0∨i=1:=by simp at hi;omega
  rcases hi' with rfl | rfl
  · refine ⟨_,⟨none,0,rfl,Flat.nil _ _ _ _ (Nat.zero_le _),by show (1:Nat)≤maxLen;unfold maxLen;omega⟩,fun j u hu=>?_⟩
    match j,hu with
    | 0,hu=>simp at hu;subst hu;simp [go_sem,pd0]
    | 1,hu=>simp at hu;subst hu;simp [go_sem,pd0]
    | 2,hu=>simp at hu;subst hu;simp [go_sem,pd0]
    | 3,hu=>simp at hu;subst hu;simp [go_sem,pd0]
    | 4,hu=>simp at hu;subst hu;simp [go_sem,pd0]
    | n+5,hu=>simp at hu
  · refine ⟨_,⟨some ⟨w.heap.size,0,none⟩,2,rfl,⟨⟨Nat.le_refl _,by unfold maxLen;omega⟩,w.heap.size,0,fun _=>⟨rfl,trivial⟩,fun k hk=>?_⟩,by show (1:Nat)≤maxLen;unfold maxLen;omega⟩,fun j u hu=>?_⟩
    · have hk':k=0∨k=1:=by simp [pd1] at hk;omega
      rcases hk' with rfl | rfl <;> simp [go_sem,pd1]
    · match j,hu with
      | 0,hu=>simp at hu;subst hu;simp [go_sem,pd1]
      | 1,hu=>simp at hu;subst hu;simp [go_sem,pd1]
      | 2,hu=>simp at hu;subst hu;simp [go_sem,pd1]
      | 3,hu=>simp at hu;subst hu;simp [go_sem,pd1]
      | 4,hu=>simp at hu;subst hu;simp [go_sem,pd1]
      | n+5,hu=>simp at hu
set_option maxRecDepth 100000 in
set_option maxHeartbeats 6400000 in
theorem patchBegun_any (w:World) (hw:Lv w) :
    Calls Tryz.prog 14 #[] w fun e w'=>e=.returned (.bool true)∧Pr w w':=by
  obtain ⟨W,hW⟩:∃ W,W=(w.alloc (.cells #[.int .i64 0,.int .i64 2] 3)).alloc (.cells #[.int .i64 1,.slice none 0 0,.int .i64 0,.int .i64 0,.string ⟨#[97]⟩,.int .i64 3,.slice (some ⟨w.heap.size,0,none⟩) 2 2,.int .i64 1,.int .i64 3,.string ⟨#[98]⟩] 69):=⟨_,rfl⟩
  have hwW:Pr w W:=by rw [hW];exact (Pr.alloc _ _).alloc' _
  have hds:=pd_dees w
  rw [← hW] at hds
  have HwW:=Lib.hid hwW;have HW:=Lib.hid (hw.pr hwW)
  have PR:=print_any [pd0,pd1] _ 2 W hds (by intro d hd;simp at hd;rcases hd with rfl | rfl <;> exact ⟨by decide,by decide⟩) HW.out
  unfold PrintPost at PR
  rw [pd_print] at PR
  have PR:=Lib.hid PR
  have RD:∀ W',Pr W W'→Calls Tryz.prog 18 #[.string ptx] W' (ReadPost ptx.data.toList W'):=fun W' h=>parse_any2 ptx (by decide) W' (HW.out.pr h)
  unfold ReadPost at RD
  rw [pd_read] at RD
  have RD:=Lib.hid RD
  clear hwW hw hds
  have HWe:=Lib.hid hW
  clear hW
  go_enter Tryz.func14,Tryz.ntmps14
  go_upto_region 2 with (go_at_call 17;rw [← HWe.out];(with_reducible refine Calls.mono PR.out ?_);rintro e w1 ⟨rfl,hp1⟩)
  obtain ⟨w2,hw2⟩:∃ w2,w2=w1.alloc (.cells #[.int .i64 0,.int .i64 0] 44):=⟨_,rfl⟩
  rw [← hw2]
  have h12:Pr w1 w2:=by rw [hw2];exact Pr.alloc _ _
  have hc2:=stays (show w2.cell? ⟨w1.heap.size,0,none⟩=some (.int .i64 0) by rw [hw2];simp [go_sem])
  clear hw2
  have hp2:=hp1.trans h12
  go_upto_region 3 with (go_at_call 18;(with_reducible refine Calls.mono (RD.out _ hp2) ?_);rintro e w3 ⟨oa,cap,rfl,hdd,hp3⟩)
  obtain ⟨w4,hw4⟩:∃ w4,w4=w3.alloc (.cells #[.int .i64 0,.int .i64 0] 44):=⟨_,rfl⟩
  rw [← hw4]
  have h34:Pr w3 w4:=by rw [hw4];exact Pr.alloc _ _
  have c4:w4.cell? ⟨w3.heap.size,0,none⟩=some (.int .i64 0):=by rw [hw4];simp [go_sem]
  clear hw4
  have c2:=hc2 _ (hp3.trans h34)
  obtain ⟨bk,o,pa,pc,rfl,d0,d1,d2,d3,d4,_,_⟩:=(hdd.pr h34).get 1 (by decide)
  have d3:w4.cell? ⟨bk,o+5+3,none⟩=some (.int .i64 3):=d3
  have hpp:=HwW.out.trans (hp2.trans (hp3.trans h34))
  clear d0 d1 d2 d4 hdd
  have e1:ptx.toList=[110,97,109,101,32,45,32,97,10,105,110,115,101,114,116,32,48,46,50,32,49,32,51,32,98,10]:=by rw [ByteArray.toList_eq];rfl
  go_wp2_with fail
  go_ret
  exact ⟨rfl,hpp⟩
end Go.Proofs.YtdbnfhpgmcjngadGreatDoor
