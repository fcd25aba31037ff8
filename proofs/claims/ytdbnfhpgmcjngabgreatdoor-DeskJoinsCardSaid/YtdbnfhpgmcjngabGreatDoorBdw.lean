/- Walks: may a deed be done? are two the same? -/
import Derived.Test.YtdbnfhpgmcjngabGreatDoorBcl
import Derived.Test.YtdbnfhpgmcjngabGreatDoorBwa
import Derived.Test.YtdbnfhpgmcjngabGreatDoorBpl
namespace Go.Proofs.YtdbnfhpgmcjngabGreatDoor
open Go Go.RowKit
theorem neg1_run:∀ args w,(callFunc 90 args).run Tryz.prog w=.ok (.enter 90 args) w:=fun _ _=>by kernel_rfl
theorem neg1_any (x:Int) (w:World):Calls Tryz.prog 90 #[.int .i64 x] w fun e w'=>e=.returned (.bool (decide (x < 0)))∧w=w':=by
  go_enter Tryz.func90,Tryz.ntmps90
  go_wp2_with fail
  go_ret
  exact ⟨rfl,rfl⟩
set_option maxHeartbeats 400000 in
theorem indexNeg_any (p:List Int) (oa cap) (w:World) (hp:Ints Any w p oa cap) :
    Calls Tryz.prog 127 #[.slice oa p.length cap,.func (.func 90) #[] #[]] w fun e w'=>(∃ r:Int,e=.returned (.int .i64 r)∧(decide (0≤r)=negP p))∧w=w':=by
  have hm:=Ints.len hp
  have hg:=neg1_run
  go_enter Tryz.func127,Tryz.ntmps127
  go_wp2_with fail
  go_loopw [8] (fun i wr=>∃ (k:Nat),k≤p.length∧i=.int .i64 k∧negP (p.take k)=false∧wr=w) (fun i _=>p.length - (intOf i).toNat)
  case atStart=>exact ⟨0,by omega,rfl,by simp [negP],rfl⟩
  case round =>
    obtain ⟨k,hkl,rfl,hr,rfl⟩:=hrel
    have Hr:=Lib.hid hr;clear hr
    by_cases hlt:k < p.length
    · obtain ⟨b,o,rfl,c0⟩:=hp.get k hlt
      have hany:p[k] < 0→negP p=true:=fun h=>List.any_eq_true.2 ⟨_,List.getElem_mem hlt,by simpa using h⟩
      have hsn:¬ p[k] < 0→negP (p.take (k+1))=false:=fun h=>by
        rw [List.take_succ_eq_append_getElem hlt,negP_append,Hr.out];simp [negP];omega
      have Hany:=Lib.hid hany;have Hsn:=Lib.hid hsn;clear hany hsn
      generalize p[k]=x at *
      by_cases hx:x < 0
      · have Hx:=Lib.hid (decide_eq_true hx)
        go_wp2_with (first | (go_at_call 90;refine (neg1_any _ _).mono ?_;rintro e w' ⟨rfl,rfl⟩;simp only [Hx.out]))
        go_ret
        exact ⟨⟨k,rfl,by rw [Hany.out hx];simp⟩,rfl⟩
      · have Hx:=Lib.hid (decide_eq_false hx)
        go_wp2_with (first | (go_at_call 90;refine (neg1_any _ _).mono ?_;rintro e w' ⟨rfl,rfl⟩;simp only [Hx.out]))
        refine ⟨⟨k+1,by omega,by go_num,Hsn.out hx,trivial⟩,?_⟩
        simp [intOf];omega
    · have hkv:k=p.length:=by omega
      go_wp2_with fail
      go_ret
      exact ⟨⟨-1,rfl,by subst hkv;have:=Hr.out;rw [List.take_length] at this;rw [this];rfl⟩,rfl⟩
theorem containsNeg_any (p:List Int) (oa cap) (w:World) (hp:Ints Any w p oa cap) :
    Calls Tryz.prog 89 #[.slice oa p.length cap,.func (.func 90) #[] #[]] w fun e w'=>e=.returned (.bool (negP p))∧w=w':=by
  have h1:=Lib.hid (indexNeg_any p oa cap w hp)
  go_enter Tryz.func89,Tryz.ntmps89
  go_wp2_with (go_at_call 127;refine Calls.mono h1.out ?_;rintro e w' ⟨⟨r,rfl,hr⟩,rfl⟩;have Hr:=Lib.hid hr;clear hr)
  go_ret
  exact ⟨ret_bool Hr.out,rfl⟩
theorem str_ne {s:ByteArray} (h:s≠⟨#[]⟩):s.toList≠[]∧s.toList.isEmpty=false∧(s.toList==[])=false:=by
  have:s.toList≠[]:=by
    intro e;apply h
    rw [ByteArray.toList_eq] at e
    cases s with
    | mk d=>congr;exact Array.ext' (by simpa using e)
  exact ⟨this,by simpa using this,by simpa using this⟩
set_option maxRecDepth 100000 in
set_option maxHeartbeats 6400000 in
theorem dcheck_any (k:Int) (p:List Int) (a m:Int) (s:ByteArray) (pa pc) (w:World) (hs:s.size≤maxLen) (hp:Ints Any w p pa pc) :
    Calls Tryz.prog 58 #[.agg #[.int .i64 k,.slice pa p.length pc,.int .i64 a,.int .i64 m,.string s]] w fun e w'=>e=.returned (.int .i64 (dfault ⟨k,p,a,m,s⟩))∧Pr w w':=by
  have hm:=Ints.len hp
  have C1:=Lib.hid (fun W' (h:Pr w W')=>containsNeg_any p pa pc W' (hp.pr h))
  have L1:=Lib.hid (fun W'=>lab_any s W' hs)
  obtain ⟨n,hn⟩:∃ n,n=negP p:=⟨_,rfl⟩
  obtain ⟨b,hb⟩:∃ n,n=isLab s:=⟨_,rfl⟩
  have H1:=Lib.hid hn
  have H2:=Lib.hid hb
  rw [← hn] at C1
  rw [← hb] at L1
  clear hn hb
  obtain ⟨f,hf⟩:∃ f:Nat,f=dfault ⟨k,p,a,m,s⟩:=⟨_,rfl⟩
  rw [← hf]
  unfold dfault at hf
  simp only [← H1.out,← H2.out] at hf
  have Hp:=Lib.hid hp
  clear hp
  by_cases hk1:k < 1
  · rw [if_pos (by omega)] at hf
    subst hf
    go_enter Tryz.func58,Tryz.ntmps58
    go_wp2_with (first
        | (go_at_call 89;refine (C1.out _ (Pr.alloc _ _)).mono ?_;rintro e w' ⟨rfl,rfl⟩)
        | (go_at_call 91;refine (L1.out _).mono ?_;rintro e w' ⟨rfl,rfl⟩))
    go_ret
    exact ⟨rfl,Pr.alloc _ _⟩
  by_cases hk2:3 < k
  · rw [if_pos (by omega)] at hf
    subst hf
    go_enter Tryz.func58,Tryz.ntmps58
    go_wp2_with (first
        | (go_at_call 89;refine (C1.out _ (Pr.alloc _ _)).mono ?_;rintro e w' ⟨rfl,rfl⟩)
        | (go_at_call 91;refine (L1.out _).mono ?_;rintro e w' ⟨rfl,rfl⟩))
    go_ret
    exact ⟨rfl,Pr.alloc _ _⟩
  rw [if_neg (by omega)] at hf
  have hk:k=1∨k=2∨k=3:=by omega
  clear hk1 hk2
  rcases hk with rfl | rfl | rfl
  · by_cases ha:a=0
    case neg =>
      rw [if_pos (.inl ⟨by decide,.inl ha⟩)] at hf
      have e1:(a != 0)=true:=by simpa using ha
      subst hf
      go_enter Tryz.func58,Tryz.ntmps58
      go_wp2_with (first
        | (go_at_call 89;refine (C1.out _ (Pr.alloc _ _)).mono ?_;rintro e w' ⟨rfl,rfl⟩)
        | (go_at_call 91;refine (L1.out _).mono ?_;rintro e w' ⟨rfl,rfl⟩))
      go_ret
      exact ⟨rfl,Pr.alloc _ _⟩
    subst ha
    by_cases hz:m=0
    case neg =>
      rw [if_pos (.inl ⟨by decide,.inr hz⟩)] at hf
      have e1:(m != 0)=true:=by simpa using hz
      subst hf
      go_enter Tryz.func58,Tryz.ntmps58
      go_wp2_with (first
        | (go_at_call 89;refine (C1.out _ (Pr.alloc _ _)).mono ?_;rintro e w' ⟨rfl,rfl⟩)
        | (go_at_call 91;refine (L1.out _).mono ?_;rintro e w' ⟨rfl,rfl⟩))
      go_ret
      exact ⟨rfl,Pr.alloc _ _⟩
    subst hz
    rw [if_neg (by simp)] at hf
    cases n
    case true =>
      rw [if_pos (by simp)] at hf
      subst hf
      go_enter Tryz.func58,Tryz.ntmps58
      go_wp2_with (first
        | (go_at_call 89;refine (C1.out _ (Pr.alloc _ _)).mono ?_;rintro e w' ⟨rfl,rfl⟩)
        | (go_at_call 91;refine (L1.out _).mono ?_;rintro e w' ⟨rfl,rfl⟩))
      go_ret
      exact ⟨rfl,Pr.alloc _ _⟩
    rw [if_neg (by simp)] at hf
    cases b
    · rw [if_pos (by simp)] at hf
      subst hf
      go_enter Tryz.func58,Tryz.ntmps58
      go_wp2_with (first
        | (go_at_call 89;refine (C1.out _ (Pr.alloc _ _)).mono ?_;rintro e w' ⟨rfl,rfl⟩)
        | (go_at_call 91;refine (L1.out _).mono ?_;rintro e w' ⟨rfl,rfl⟩))
      go_ret
      exact ⟨rfl,Pr.alloc _ _⟩
    · rw [if_neg (by simp),if_neg (by simp)] at hf
      subst hf
      go_enter Tryz.func58,Tryz.ntmps58
      go_wp2_with (first
        | (go_at_call 89;refine (C1.out _ (Pr.alloc _ _)).mono ?_;rintro e w' ⟨rfl,rfl⟩)
        | (go_at_call 91;refine (L1.out _).mono ?_;rintro e w' ⟨rfl,rfl⟩))
      go_ret
      exact ⟨rfl,Pr.alloc _ _⟩
  · by_cases ha:a=0
    case neg =>
      rw [if_pos (.inl ⟨by decide,.inl ha⟩)] at hf
      have e1:(a != 0)=true:=by simpa using ha
      subst hf
      go_enter Tryz.func58,Tryz.ntmps58
      go_wp2_with (first
        | (go_at_call 89;refine (C1.out _ (Pr.alloc _ _)).mono ?_;rintro e w' ⟨rfl,rfl⟩)
        | (go_at_call 91;refine (L1.out _).mono ?_;rintro e w' ⟨rfl,rfl⟩))
      go_ret
      exact ⟨rfl,Pr.alloc _ _⟩
    subst ha
    by_cases hz:m=0
    case neg =>
      rw [if_pos (.inl ⟨by decide,.inr hz⟩)] at hf
      have e1:(m != 0)=true:=by simpa using hz
      subst hf
      go_enter Tryz.func58,Tryz.ntmps58
      go_wp2_with (first
        | (go_at_call 89;refine (C1.out _ (Pr.alloc _ _)).mono ?_;rintro e w' ⟨rfl,rfl⟩)
        | (go_at_call 91;refine (L1.out _).mono ?_;rintro e w' ⟨rfl,rfl⟩))
      go_ret
      exact ⟨rfl,Pr.alloc _ _⟩
    subst hz
    by_cases hse:s=⟨#[]⟩
    case neg =>
      rw [if_pos (.inr ⟨rfl,hse⟩)] at hf
      obtain ⟨e1,e2,e3⟩:=str_ne hse
      subst hf
      go_enter Tryz.func58,Tryz.ntmps58
      go_wp2_with (first
        | (go_at_call 89;refine (C1.out _ (Pr.alloc _ _)).mono ?_;rintro e w' ⟨rfl,rfl⟩)
        | (go_at_call 91;refine (L1.out _).mono ?_;rintro e w' ⟨rfl,rfl⟩))
      go_ret
      exact ⟨rfl,Pr.alloc _ _⟩
    subst hse
    rw [if_neg (by simp)] at hf
    cases n
    case true =>
      rw [if_pos (by simp)] at hf
      subst hf
      go_enter Tryz.func58,Tryz.ntmps58
      go_wp2_with (first
        | (go_at_call 89;refine (C1.out _ (Pr.alloc _ _)).mono ?_;rintro e w' ⟨rfl,rfl⟩)
        | (go_at_call 91;refine (L1.out _).mono ?_;rintro e w' ⟨rfl,rfl⟩))
      go_ret
      exact ⟨rfl,Pr.alloc _ _⟩
    rw [if_neg (by simp),if_neg (by simp)] at hf
    by_cases hpe:p.length=0
    · rw [if_pos ⟨rfl,List.eq_nil_of_length_eq_zero hpe⟩] at hf
      have e1:((p.length:Int)==0)=true:=by rw [hpe];rfl
      have e2:(p.length==0)=true:=by rw [hpe];rfl
      clear hpe
      subst hf
      go_enter Tryz.func58,Tryz.ntmps58
      go_wp2_with (first
        | (go_at_call 89;refine (C1.out _ (Pr.alloc _ _)).mono ?_;rintro e w' ⟨rfl,rfl⟩)
        | (go_at_call 91;refine (L1.out _).mono ?_;rintro e w' ⟨rfl,rfl⟩))
      go_ret
      exact ⟨rfl,Pr.alloc _ _⟩
    · rw [if_neg (fun e=>hpe (by rw [e.2];rfl))] at hf
      have e1:((p.length:Int)==0)=false:=by rw [beq_eq_false_iff_ne];omega
      have e2:(p.length==0)=false:=by rw [beq_eq_false_iff_ne];omega
      subst hf
      go_enter Tryz.func58,Tryz.ntmps58
      go_wp2_with (first
        | (go_at_call 89;refine (C1.out _ (Pr.alloc _ _)).mono ?_;rintro e w' ⟨rfl,rfl⟩)
        | (go_at_call 91;refine (L1.out _).mono ?_;rintro e w' ⟨rfl,rfl⟩))
      go_ret
      exact ⟨rfl,Pr.alloc _ _⟩
  · rw [if_neg (by simp)] at hf
    by_cases ha:a < 0
    · rw [if_pos (.inl (.inl ha))] at hf
      subst hf
      go_enter Tryz.func58,Tryz.ntmps58
      go_wp2_with (first
        | (go_at_call 89;refine (C1.out _ (Pr.alloc _ _)).mono ?_;rintro e w' ⟨rfl,rfl⟩)
        | (go_at_call 91;refine (L1.out _).mono ?_;rintro e w' ⟨rfl,rfl⟩))
      go_ret
      exact ⟨rfl,Pr.alloc _ _⟩
    by_cases hz:m < 0
    · rw [if_pos (.inl (.inr hz))] at hf
      subst hf
      go_enter Tryz.func58,Tryz.ntmps58
      go_wp2_with (first
        | (go_at_call 89;refine (C1.out _ (Pr.alloc _ _)).mono ?_;rintro e w' ⟨rfl,rfl⟩)
        | (go_at_call 91;refine (L1.out _).mono ?_;rintro e w' ⟨rfl,rfl⟩))
      go_ret
      exact ⟨rfl,Pr.alloc _ _⟩
    cases n
    case true =>
      rw [if_pos (by simp)] at hf
      subst hf
      go_enter Tryz.func58,Tryz.ntmps58
      go_wp2_with (first
        | (go_at_call 89;refine (C1.out _ (Pr.alloc _ _)).mono ?_;rintro e w' ⟨rfl,rfl⟩)
        | (go_at_call 91;refine (L1.out _).mono ?_;rintro e w' ⟨rfl,rfl⟩))
      go_ret
      exact ⟨rfl,Pr.alloc _ _⟩
    rw [if_neg (by simp;omega)] at hf
    cases b
    · rw [if_pos (by simp)] at hf
      subst hf
      go_enter Tryz.func58,Tryz.ntmps58
      go_wp2_with (first
        | (go_at_call 89;refine (C1.out _ (Pr.alloc _ _)).mono ?_;rintro e w' ⟨rfl,rfl⟩)
        | (go_at_call 91;refine (L1.out _).mono ?_;rintro e w' ⟨rfl,rfl⟩))
      go_ret
      exact ⟨rfl,Pr.alloc _ _⟩
    · rw [if_neg (by simp),if_neg (by simp)] at hf
      subst hf
      go_enter Tryz.func58,Tryz.ntmps58
      go_wp2_with (first
        | (go_at_call 89;refine (C1.out _ (Pr.alloc _ _)).mono ?_;rintro e w' ⟨rfl,rfl⟩)
        | (go_at_call 91;refine (L1.out _).mono ?_;rintro e w' ⟨rfl,rfl⟩))
      go_ret
      exact ⟨rfl,Pr.alloc _ _⟩
end Go.Proofs.YtdbnfhpgmcjngabGreatDoor
/- Walks: may a deed be done, by the document? -/
namespace Go.Proofs.YtdbnfhpgmcjngabGreatDoor
open Go Go.RowKit
end Go.Proofs.YtdbnfhpgmcjngabGreatDoor
