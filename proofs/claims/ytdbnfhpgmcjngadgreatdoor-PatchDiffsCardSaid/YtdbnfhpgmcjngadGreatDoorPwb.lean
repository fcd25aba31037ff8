/- Walks: a small number out of a text; the program's and the document's. -/
import Derived.Test.YtdbnfhpgmcjngadGreatDoorPwa
import Derived.Lib.AtoiAllCases
import Derived.IntWalk
namespace Go.Proofs.YtdbnfhpgmcjngadGreatDoor
open Go Go.RowKit
def FewPost (l:List UInt8) (w:World) (e:Ending) (w':World):Prop:=∃ v:Int,e=.returned (.tuple #[.int .i64 v,.bool (fewN l).isSome])∧(∀ n,fewN l=some n→v=(n:Int))∧Pr w w'
set_option maxRecDepth 100000 in
set_option maxHeartbeats 3200000 in
theorem small_any (s:ByteArray) (hs:s.size≤1000000) (w:World) (hw:Lv w) :
    Calls Tryz.prog 82 #[.string s] w (FewPost s.data.toList w):=by
  have HW:=Lib.hid hw
  have hsf:=small_few s.data.toList
  unfold smallP at hsf
  have hno:(∀ v,Lib.atoiAll s.data.toList≠.ok v)→fewN s.data.toList=none→Calls Tryz.prog 82 #[.string s] w (FewPost s.data.toList w):=by
    intro h1 h2
    have A:=Lib.hid (atoi_no s (by omega) h1 w hw)
    have H2:=Lib.hid h2
    clear h1 h2 hsf hw
    go_enter Tryz.func82,Tryz.ntmps82
    go_wp2_with (go_at_call 35;(with_reducible refine Calls.mono A.out ?_);rintro e w5 ⟨⟨v5,T5,p5,rfl⟩,hp5⟩)
    go_ret2
    exact ⟨_,by rw [H2.out];rfl,(by rw [H2.out];intro n h;cases h),hp5⟩
  rcases ha:Lib.atoiAll s.data.toList with v | _ | _
  · clear hno
    have hbd:=Lib.atoiAll_bounds ha
    rw [ha] at hsf
    simp only [] at hsf
    have A:=Lib.hid (atoi_ok s (by omega) v ha w)
    have I:=Lib.hid fun W' (h:Pr w W')=>itoa_any v hbd.1 hbd.2 W' (HW.out.pr h)
    clear ha hw
    by_cases hi:Lib.itoa v=s.data.toList
    · have hb:(Lib.itoa v==s.toList)=true:=by rw [ByteArray.toList_eq,hi];simp
      have Hi:=Lib.hid hi
      by_cases h0:0≤v
      · by_cases h1:v < 1000
        · rw [if_pos ⟨hi,h0,h1⟩] at hsf
          have Hsf:=Lib.hid hsf.symm
          clear hsf hi
          go_enter Tryz.func82,Tryz.ntmps82
          go_wp2_with (first
            | (go_at_call 35;(with_reducible refine Calls.mono A.out ?_);rintro e w5 ⟨rfl,hp5⟩)
            | (go_at_call 32;(with_reducible refine Calls.mono (I.out _ hp5) ?_);rintro e w6 ⟨rfl,hp6⟩))
          go_ret2
          exact ⟨_,by rw [Hsf.out];rfl,(by rw [Hsf.out];intro n h;cases h;omega),hp5.trans hp6⟩
        · rw [if_neg (by rintro ⟨_,_,h⟩;exact h1 h)] at hsf
          have Hsf:=Lib.hid hsf.symm
          clear hsf hi
          have h1':decide (v < 1000)=false:=by simpa using h1
          go_enter Tryz.func82,Tryz.ntmps82
          go_wp2_with (first
            | (go_at_call 35;(with_reducible refine Calls.mono A.out ?_);rintro e w5 ⟨rfl,hp5⟩)
            | (go_at_call 32;(with_reducible refine Calls.mono (I.out _ hp5) ?_);rintro e w6 ⟨rfl,hp6⟩))
          go_ret2
          exact ⟨_,by rw [Hsf.out];rfl,(by rw [Hsf.out];intro n h;cases h),hp5.trans hp6⟩
      · rw [if_neg (by rintro ⟨_,h,_⟩;exact h0 h)] at hsf
        have Hsf:=Lib.hid hsf.symm
        clear hsf hi
        have h0':decide (0≤v)=false:=by simpa using h0
        go_enter Tryz.func82,Tryz.ntmps82
        go_wp2_with (first
          | (go_at_call 35;(with_reducible refine Calls.mono A.out ?_);rintro e w5 ⟨rfl,hp5⟩)
          | (go_at_call 32;(with_reducible refine Calls.mono (I.out _ hp5) ?_);rintro e w6 ⟨rfl,hp6⟩))
        go_ret2
        exact ⟨_,by rw [Hsf.out];rfl,(by rw [Hsf.out];intro n h;cases h),hp5.trans hp6⟩
    · rw [if_neg (by rintro ⟨h,_⟩;exact hi h)] at hsf
      have Hsf:=Lib.hid hsf.symm
      have hb:(Lib.itoa v==s.toList)=false:=by rw [ByteArray.toList_eq];simpa using hi
      clear hsf hi
      go_enter Tryz.func82,Tryz.ntmps82
      go_wp2_with (first
        | (go_at_call 35;(with_reducible refine Calls.mono A.out ?_);rintro e w5 ⟨rfl,hp5⟩)
        | (go_at_call 32;(with_reducible refine Calls.mono (I.out _ hp5) ?_);rintro e w6 ⟨rfl,hp6⟩))
      go_ret2
      exact ⟨_,by rw [Hsf.out];rfl,(by rw [Hsf.out];intro n h;cases h),hp5.trans hp6⟩
  · exact hno (fun v=>by rw [ha];simp) (by rw [ha] at hsf;exact hsf.symm)
  · exact hno (fun v=>by rw [ha];simp) (by rw [ha] at hsf;exact hsf.symm)
end Go.Proofs.YtdbnfhpgmcjngadGreatDoor
