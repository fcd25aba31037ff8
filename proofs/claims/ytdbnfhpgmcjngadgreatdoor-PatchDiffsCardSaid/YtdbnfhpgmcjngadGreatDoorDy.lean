/- Walks: deeds that are the same; deeds that are too great; deeds as values. -/
import Derived.Test.YtdbnfhpgmcjngadGreatDoorBdw
namespace Go.Proofs.YtdbnfhpgmcjngadGreatDoor
open Go Go.RowKit
theorem dee_eq (k:Int) (p:List Int) (a m:Int) (s:ByteArray) (k':Int) (p':List Int) (a' m':Int) (s':ByteArray):decide ((⟨k,p,a,m,s⟩:Dee)=⟨k',p',a',m',s'⟩)=(decide (k=k') && decide (p=p') && decide (a=a') && decide (m=m') && decide (s=s')):=by
  rw [Bool.eq_iff_iff];simp [and_assoc]
set_option maxHeartbeats 1600000 in
theorem sameDeed_both (f:Nat) (hf:False∨f=60) (k:Int) (p:List Int) (a m:Int) (s:ByteArray) (pa pc) (k':Int) (p':List Int) (a' m':Int) (s':ByteArray) (pa' pc') (w:World) (hp:Ints Any w p pa pc) (hp':Ints Any w p' pa' pc') :
    Calls Tryz.prog f #[.agg #[.int .i64 k,.slice pa p.length pc,.int .i64 a,.int .i64 m,.string s],.agg #[.int .i64 k',.slice pa' p'.length pc',.int .i64 a',.int .i64 m',.string s']] w fun e w' =>
      e=.returned (.bool (decide ((⟨k,p,a,m,s⟩:Dee)=⟨k',p',a',m',s'⟩)))∧Pr w w':=by
  have C1:=Lib.hid (fun W' (h:Pr w W')=>sints_any p p' pa pc pa' pc' W' (hp.pr h) (hp'.pr h))
  rw [dee_eq]
  have hl:=Ints.len hp
  have hl':=Ints.len hp'
  clear hp hp'
  obtain ⟨q,hq⟩:∃ q,q=decide (p=p'):=⟨_,rfl⟩
  obtain ⟨bk,hbk⟩:∃ q,q=decide (k=k'):=⟨_,rfl⟩
  obtain ⟨ba,hba⟩:∃ q,q=decide (a=a'):=⟨_,rfl⟩
  obtain ⟨bm,hbm⟩:∃ q,q=decide (m=m'):=⟨_,rfl⟩
  obtain ⟨bs,hbs⟩:∃ q,q=decide (s=s'):=⟨_,rfl⟩
  rw [← hq,← hbk,← hba,← hbm,← hbs]
  rw [← hq] at C1
  have ek:(k==k')=bk:=by rw [hbk];rfl
  have ea:(a==a')=ba:=by rw [hba];rfl
  have em:(m==m')=bm:=by rw [hbm];rfl
  have es:(s.toList==s'.toList)=bs:=by
    rw [hbs,Bool.eq_iff_iff];simp
    constructor
    · intro e
      rw [ByteArray.toList_eq,ByteArray.toList_eq] at e
      cases s;cases s';congr;exact Array.ext' e
    · rintro rfl;rfl
  have hpr:Pr w ((w.alloc (.cells #[.int .i64 k,.slice pa p.length pc,.int .i64 a,.int .i64 m,.string s] 69)).alloc (.cells #[.int .i64 k',.slice pa' p'.length pc',.int .i64 a',.int .i64 m',.string s'] 69)):=(Pr.alloc _ _).alloc' _
  clear hq hbk hba hbm hbs
  rcases hf with h | rfl
  · exact h.elim
  · cases bk
    · go_enter Tryz.func60,Tryz.ntmps60
      go_wp2_with fail
      go_ret
      exact ⟨by simp,hpr⟩
    cases q
    · go_enter Tryz.func60,Tryz.ntmps60
      go_wp2_with (go_at_call 12;refine (C1.out _ hpr).mono ?_;rintro e w1 ⟨rfl,hb⟩)
      go_ret
      exact ⟨by simp,hpr.trans hb⟩
    have hx:∀ w1,Pr ((w.alloc (.cells #[.int .i64 k,.slice pa p.length pc,.int .i64 a,.int .i64 m,.string s] 69)).alloc (.cells #[.int .i64 k',.slice pa' p'.length pc',.int .i64 a',.int .i64 m',.string s'] 69)) w1 →
        w1.cell? ⟨w.heap.size,2,none⟩=some (.int .i64 a)∧w1.cell? ⟨w.heap.size,3,none⟩=some (.int .i64 m)∧w1.cell? ⟨w.heap.size,4,none⟩=some (.string s)∧w1.cell? ⟨w.heap.size+1,2,none⟩=some (.int .i64 a')∧w1.cell? ⟨w.heap.size+1,3,none⟩=some (.int .i64 m')∧w1.cell? ⟨w.heap.size+1,4,none⟩=some (.string s'):=fun w1 h =>
      ⟨h.cell (by simp [go_sem]),h.cell (by simp [go_sem]),h.cell (by simp [go_sem]),h.cell (by simp [go_sem]),h.cell (by simp [go_sem]),h.cell (by simp [go_sem])⟩
    have Hx:=Lib.hid hx
    clear hx
    cases ba
    · go_enter Tryz.func60,Tryz.ntmps60
      go_wp2_with (go_at_call 12;refine (C1.out _ hpr).mono ?_;rintro e w1 ⟨rfl,hb⟩;obtain ⟨x1,x2,x3,x4,x5,x6⟩:=Hx.out _ hb)
      go_ret
      exact ⟨by simp,hpr.trans hb⟩
    cases bm
    · go_enter Tryz.func60,Tryz.ntmps60
      go_wp2_with (go_at_call 12;refine (C1.out _ hpr).mono ?_;rintro e w1 ⟨rfl,hb⟩;obtain ⟨x1,x2,x3,x4,x5,x6⟩:=Hx.out _ hb)
      go_ret
      exact ⟨by simp,hpr.trans hb⟩
    · go_enter Tryz.func60,Tryz.ntmps60
      go_wp2_with (go_at_call 12;refine (C1.out _ hpr).mono ?_;rintro e w1 ⟨rfl,hb⟩;obtain ⟨x1,x2,x3,x4,x5,x6⟩:=Hx.out _ hb)
      go_ret
      exact ⟨by simp,hpr.trans hb⟩
theorem rsameDeed_any (k:Int) (p:List Int) (a m:Int) (s:ByteArray) (pa pc) (k':Int) (p':List Int) (a' m':Int) (s':ByteArray) (pa' pc') (w:World) (hp:Ints Any w p pa pc) (hp':Ints Any w p' pa' pc') :
    Calls Tryz.prog 60 #[.agg #[.int .i64 k,.slice pa p.length pc,.int .i64 a,.int .i64 m,.string s],.agg #[.int .i64 k',.slice pa' p'.length pc',.int .i64 a',.int .i64 m',.string s']] w fun e w' =>
      e=.returned (.bool (decide ((⟨k,p,a,m,s⟩:Dee)=⟨k',p',a',m',s'⟩)))∧Pr w w':=sameDeed_both _ (.inr rfl) k p a m s pa pc k' p' a' m' s' pa' pc' w hp hp'
end Go.Proofs.YtdbnfhpgmcjngadGreatDoor
