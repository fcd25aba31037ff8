/- Walks: may a deed be done? are two the same? -/
import Derived.Test.YtdbnfhpgmcjngacGreatBcl
import Derived.Test.YtdbnfhpgmcjngacGreatBwa
import Derived.Test.YtdbnfhpgmcjngacGreatBpl
namespace Go.Proofs.YtdbnfhpgmcjngacGreat
open Go Go.RowKit
theorem neg1_run:∀ args w,(callFunc 75 args).run Tryz.prog w=.ok (.enter 75 args) w:=fun _ _=>by kernel_rfl
theorem neg1_any (x:Int) (w:World):Calls Tryz.prog 75 #[.int .i64 x] w fun e w'=>e=.returned (.bool (decide (x < 0)))∧w=w':=by
  go_enter Tryz.func75,Tryz.ntmps75
  go_wp2_with fail
  go_ret
  exact ⟨rfl,rfl⟩
set_option maxHeartbeats 400000 in
theorem indexNeg_any (p:List Int) (oa cap) (w:World) (hp:Ints Any w p oa cap) :
    Calls Tryz.prog 97 #[.slice oa p.length cap,.func (.func 75) #[] #[]] w fun e w'=>(∃ r:Int,e=.returned (.int .i64 r)∧(decide (0≤r)=negP p))∧w=w':=by
  have hm:=Ints.len hp
  have hg:=neg1_run
  go_enter Tryz.func97,Tryz.ntmps97
  go_wp2_with fail
  go_loopw [8] (fun i wr=>∃ (k:Nat),k≤p.length∧i=.int .i64 k∧negP (p.take k)=false∧wr=w) (fun i _=>p.length - (intOf i).toNat)
  case atStart=>exact ⟨0,by omega,rfl,by simp [negP],rfl⟩
  case round =>
    obtain ⟨k,hkl,rfl,hr,rfl⟩:=hrel
    have Hr:=Lib.hid hr;clear hr
    by_cases hlt:k < p.length
    · obtain ⟨b,o,rfl,c0⟩:=hp.get k hlt
      have hany:p[k] < 0→negP p=true:=fun h=>List.any_eq_true.2 ⟨_,List.getElem_mem hlt,by simpa using h⟩
      have hsn:¬ p[k] < 0→negP (p.take (k+1))=false:=fun h=>by
        rw [List.take_succ_eq_append_getElem hlt,negP_append,Hr.out];simp [negP];omega
      have Hany:=Lib.hid hany;have Hsn:=Lib.hid hsn;clear hany hsn
      generalize p[k]=x at *
      by_cases hx:x < 0
      · have Hx:=Lib.hid (decide_eq_true hx)
        go_wp2_with (first | (go_at_call 75;refine (neg1_any _ _).mono ?_;rintro e w' ⟨rfl,rfl⟩;simp only [Hx.out]))
        go_ret
        exact ⟨⟨k,rfl,by rw [Hany.out hx];simp⟩,rfl⟩
      · have Hx:=Lib.hid (decide_eq_false hx)
        go_wp2_with (first | (go_at_call 75;refine (neg1_any _ _).mono ?_;rintro e w' ⟨rfl,rfl⟩;simp only [Hx.out]))
        refine ⟨⟨k+1,by omega,by go_num,Hsn.out hx,trivial⟩,?_⟩
        simp [intOf];omega
    · have hkv:k=p.length:=by omega
      go_wp2_with fail
      go_ret
      exact ⟨⟨-1,rfl,by subst hkv;have:=Hr.out;rw [List.take_length] at this;rw [this];rfl⟩,rfl⟩
theorem containsNeg_any (p:List Int) (oa cap) (w:World) (hp:Ints Any w p oa cap) :
    Calls Tryz.prog 74 #[.slice oa p.length cap,.func (.func 75) #[] #[]] w fun e w'=>e=.returned (.bool (negP p))∧w=w':=by
  have h1:=Lib.hid (indexNeg_any p oa cap w hp)
  go_enter Tryz.func74,Tryz.ntmps74
  go_wp2_with (go_at_call 97;refine Calls.mono h1.out ?_;rintro e w' ⟨⟨r,rfl,hr⟩,rfl⟩;have Hr:=Lib.hid hr;clear hr)
  go_ret
  exact ⟨ret_bool Hr.out,rfl⟩
theorem str_ne {s:ByteArray} (h:s≠⟨#[]⟩):s.toList≠[]∧s.toList.isEmpty=false∧(s.toList==[])=false:=by
  have:s.toList≠[]:=by
    intro e;apply h
    rw [ByteArray.toList_eq] at e
    cases s with
    | mk d=>congr;exact Array.ext' (by simpa using e)
  exact ⟨this,by simpa using this,by simpa using this⟩
theorem negP_take (p:List Int) (j:Nat) (h:j < p.length):negP (p.take (j+1))=(negP (p.take j) || decide (p[j] < 0)):=by
  rw [List.take_succ_eq_append_getElem h,negP_append];simp [negP]
set_option maxRecDepth 100000 in
set_option maxHeartbeats 6400000 in
theorem dcheck_any (k:Int) (p:List Int) (a m:Int) (s:ByteArray) (pa pc) (w:World) (hs:s.size≤maxLen) (hp:Ints Any w p pa pc) :
    Calls Tryz.prog 48 #[.agg #[.int .i64 k,.slice pa p.length pc,.int .i64 a,.int .i64 m,.string s]] w fun e w'=>e=.returned (.int .i64 (dfault ⟨k,p,a,m,s⟩))∧Pr w w':=by
  have hm:=Ints.len hp
  have C1:=Lib.hid (fun W' (h:Pr w W')=>containsNeg_any p pa pc W' (hp.pr h))
  have L1:=Lib.hid (fun W'=>lab_any s W' hs)
  obtain ⟨n,hn⟩:∃ n,n=negP p:=⟨_,rfl⟩
  obtain ⟨b,hb⟩:∃ n,n=isLab s:=⟨_,rfl⟩
  have H1:=Lib.hid hn
  have H2:=Lib.hid hb
  rw [← hn] at C1
  rw [← hb] at L1
  clear hn hb
  obtain ⟨f,hf⟩:∃ f:Nat,f=dfault ⟨k,p,a,m,s⟩:=⟨_,rfl⟩
  rw [← hf]
  unfold dfault at hf
  simp only [← H1.out,← H2.out] at hf
  have Hp:=Lib.hid hp
  clear hp
  by_cases hk1:k < 1
  · rw [if_pos (by omega)] at hf
    subst hf
    go_enter Tryz.func48,Tryz.ntmps48
    go_wp2_with (first
        | (go_at_call 74;refine (C1.out _ (Pr.alloc _ _)).mono ?_;rintro e w' ⟨rfl,rfl⟩)
        | (go_at_call 76;refine (L1.out _).mono ?_;rintro e w' ⟨rfl,rfl⟩))
    go_ret
    exact ⟨rfl,Pr.alloc _ _⟩
  by_cases hk2:3 < k
  · rw [if_pos (by omega)] at hf
    subst hf
    go_enter Tryz.func48,Tryz.ntmps48
    go_wp2_with (first
        | (go_at_call 74;refine (C1.out _ (Pr.alloc _ _)).mono ?_;rintro e w' ⟨rfl,rfl⟩)
        | (go_at_call 76;refine (L1.out _).mono ?_;rintro e w' ⟨rfl,rfl⟩))
    go_ret
    exact ⟨rfl,Pr.alloc _ _⟩
  rw [if_neg (by omega)] at hf
  have hk:k=1∨k=2∨k=3:=by omega
  clear hk1 hk2
  rcases hk with rfl | rfl | rfl
  · by_cases ha:a=0
    case neg =>
      rw [if_pos (.inl ⟨by decide,.inl ha⟩)] at hf
      have e1:(a != 0)=true:=by simpa using ha
      subst hf
      go_enter Tryz.func48,Tryz.ntmps48
      go_wp2_with (first
        | (go_at_call 74;refine (C1.out _ (Pr.alloc _ _)).mono ?_;rintro e w' ⟨rfl,rfl⟩)
        | (go_at_call 76;refine (L1.out _).mono ?_;rintro e w' ⟨rfl,rfl⟩))
      go_ret
      exact ⟨rfl,Pr.alloc _ _⟩
    subst ha
    by_cases hz:m=0
    case neg =>
      rw [if_pos (.inl ⟨by decide,.inr hz⟩)] at hf
      have e1:(m != 0)=true:=by simpa using hz
      subst hf
      go_enter Tryz.func48,Tryz.ntmps48
      go_wp2_with (first
        | (go_at_call 74;refine (C1.out _ (Pr.alloc _ _)).mono ?_;rintro e w' ⟨rfl,rfl⟩)
        | (go_at_call 76;refine (L1.out _).mono ?_;rintro e w' ⟨rfl,rfl⟩))
      go_ret
      exact ⟨rfl,Pr.alloc _ _⟩
    subst hz
    rw [if_neg (by simp)] at hf
    cases n
    case true =>
      rw [if_pos (by simp)] at hf
      subst hf
      go_enter Tryz.func48,Tryz.ntmps48
      go_wp2_with (first
        | (go_at_call 74;refine (C1.out _ (Pr.alloc _ _)).mono ?_;rintro e w' ⟨rfl,rfl⟩)
        | (go_at_call 76;refine (L1.out _).mono ?_;rintro e w' ⟨rfl,rfl⟩))
      go_ret
      exact ⟨rfl,Pr.alloc _ _⟩
    rw [if_neg (by simp)] at hf
    cases b
    · rw [if_pos (by simp)] at hf
      subst hf
      go_enter Tryz.func48,Tryz.ntmps48
      go_wp2_with (first
        | (go_at_call 74;refine (C1.out _ (Pr.alloc _ _)).mono ?_;rintro e w' ⟨rfl,rfl⟩)
        | (go_at_call 76;refine (L1.out _).mono ?_;rintro e w' ⟨rfl,rfl⟩))
      go_ret
      exact ⟨rfl,Pr.alloc _ _⟩
    · rw [if_neg (by simp),if_neg (by simp)] at hf
      subst hf
      go_enter Tryz.func48,Tryz.ntmps48
      go_wp2_with (first
        | (go_at_call 74;refine (C1.out _ (Pr.alloc _ _)).mono ?_;rintro e w' ⟨rfl,rfl⟩)
        | (go_at_call 76;refine (L1.out _).mono ?_;rintro e w' ⟨rfl,rfl⟩))
      go_ret
      exact ⟨rfl,Pr.alloc _ _⟩
  · by_cases ha:a=0
    case neg =>
      rw [if_pos (.inl ⟨by decide,.inl ha⟩)] at hf
      have e1:(a != 0)=true:=by simpa using ha
      subst hf
      go_enter Tryz.func48,Tryz.ntmps48
      go_wp2_with (first
        | (go_at_call 74;refine (C1.out _ (Pr.alloc _ _)).mono ?_;rintro e w' ⟨rfl,rfl⟩)
        | (go_at_call 76;refine (L1.out _).mono ?_;rintro e w' ⟨rfl,rfl⟩))
      go_ret
      exact ⟨rfl,Pr.alloc _ _⟩
    subst ha
    by_cases hz:m=0
    case neg =>
      rw [if_pos (.inl ⟨by decide,.inr hz⟩)] at hf
      have e1:(m != 0)=true:=by simpa using hz
      subst hf
      go_enter Tryz.func48,Tryz.ntmps48
      go_wp2_with (first
        | (go_at_call 74;refine (C1.out _ (Pr.alloc _ _)).mono ?_;rintro e w' ⟨rfl,rfl⟩)
        | (go_at_call 76;refine (L1.out _).mono ?_;rintro e w' ⟨rfl,rfl⟩))
      go_ret
      exact ⟨rfl,Pr.alloc _ _⟩
    subst hz
    by_cases hse:s=⟨#[]⟩
    case neg =>
      rw [if_pos (.inr ⟨rfl,hse⟩)] at hf
      obtain ⟨e1,e2,e3⟩:=str_ne hse
      subst hf
      go_enter Tryz.func48,Tryz.ntmps48
      go_wp2_with (first
        | (go_at_call 74;refine (C1.out _ (Pr.alloc _ _)).mono ?_;rintro e w' ⟨rfl,rfl⟩)
        | (go_at_call 76;refine (L1.out _).mono ?_;rintro e w' ⟨rfl,rfl⟩))
      go_ret
      exact ⟨rfl,Pr.alloc _ _⟩
    subst hse
    rw [if_neg (by simp)] at hf
    cases n
    case true =>
      rw [if_pos (by simp)] at hf
      subst hf
      go_enter Tryz.func48,Tryz.ntmps48
      go_wp2_with (first
        | (go_at_call 74;refine (C1.out _ (Pr.alloc _ _)).mono ?_;rintro e w' ⟨rfl,rfl⟩)
        | (go_at_call 76;refine (L1.out _).mono ?_;rintro e w' ⟨rfl,rfl⟩))
      go_ret
      exact ⟨rfl,Pr.alloc _ _⟩
    rw [if_neg (by simp),if_neg (by simp)] at hf
    by_cases hpe:p.length=0
    · rw [if_pos ⟨rfl,List.eq_nil_of_length_eq_zero hpe⟩] at hf
      have e1:((p.length:Int)==0)=true:=by rw [hpe];rfl
      have e2:(p.length==0)=true:=by rw [hpe];rfl
      clear hpe
      subst hf
      go_enter Tryz.func48,Tryz.ntmps48
      go_wp2_with (first
        | (go_at_call 74;refine (C1.out _ (Pr.alloc _ _)).mono ?_;rintro e w' ⟨rfl,rfl⟩)
        | (go_at_call 76;refine (L1.out _).mono ?_;rintro e w' ⟨rfl,rfl⟩))
      go_ret
      exact ⟨rfl,Pr.alloc _ _⟩
    · rw [if_neg (fun e=>hpe (by rw [e.2];rfl))] at hf
      have e1:((p.length:Int)==0)=false:=by rw [beq_eq_false_iff_ne];omega
      have e2:(p.length==0)=false:=by rw [beq_eq_false_iff_ne];omega
      subst hf
      go_enter Tryz.func48,Tryz.ntmps48
      go_wp2_with (first
        | (go_at_call 74;refine (C1.out _ (Pr.alloc _ _)).mono ?_;rintro e w' ⟨rfl,rfl⟩)
        | (go_at_call 76;refine (L1.out _).mono ?_;rintro e w' ⟨rfl,rfl⟩))
      go_ret
      exact ⟨rfl,Pr.alloc _ _⟩
  · rw [if_neg (by simp)] at hf
    by_cases ha:a < 0
    · rw [if_pos (.inl (.inl ha))] at hf
      subst hf
      go_enter Tryz.func48,Tryz.ntmps48
      go_wp2_with (first
        | (go_at_call 74;refine (C1.out _ (Pr.alloc _ _)).mono ?_;rintro e w' ⟨rfl,rfl⟩)
        | (go_at_call 76;refine (L1.out _).mono ?_;rintro e w' ⟨rfl,rfl⟩))
      go_ret
      exact ⟨rfl,Pr.alloc _ _⟩
    by_cases hz:m < 0
    · rw [if_pos (.inl (.inr hz))] at hf
      subst hf
      go_enter Tryz.func48,Tryz.ntmps48
      go_wp2_with (first
        | (go_at_call 74;refine (C1.out _ (Pr.alloc _ _)).mono ?_;rintro e w' ⟨rfl,rfl⟩)
        | (go_at_call 76;refine (L1.out _).mono ?_;rintro e w' ⟨rfl,rfl⟩))
      go_ret
      exact ⟨rfl,Pr.alloc _ _⟩
    cases n
    case true =>
      rw [if_pos (by simp)] at hf
      subst hf
      go_enter Tryz.func48,Tryz.ntmps48
      go_wp2_with (first
        | (go_at_call 74;refine (C1.out _ (Pr.alloc _ _)).mono ?_;rintro e w' ⟨rfl,rfl⟩)
        | (go_at_call 76;refine (L1.out _).mono ?_;rintro e w' ⟨rfl,rfl⟩))
      go_ret
      exact ⟨rfl,Pr.alloc _ _⟩
    rw [if_neg (by simp;omega)] at hf
    cases b
    · rw [if_pos (by simp)] at hf
      subst hf
      go_enter Tryz.func48,Tryz.ntmps48
      go_wp2_with (first
        | (go_at_call 74;refine (C1.out _ (Pr.alloc _ _)).mono ?_;rintro e w' ⟨rfl,rfl⟩)
        | (go_at_call 76;refine (L1.out _).mono ?_;rintro e w' ⟨rfl,rfl⟩))
      go_ret
      exact ⟨rfl,Pr.alloc _ _⟩
    · rw [if_neg (by simp),if_neg (by simp)] at hf
      subst hf
      go_enter Tryz.func48,Tryz.ntmps48
      go_wp2_with (first
        | (go_at_call 74;refine (C1.out _ (Pr.alloc _ _)).mono ?_;rintro e w' ⟨rfl,rfl⟩)
        | (go_at_call 76;refine (L1.out _).mono ?_;rintro e w' ⟨rfl,rfl⟩))
      go_ret
      exact ⟨rfl,Pr.alloc _ _⟩
end Go.Proofs.YtdbnfhpgmcjngacGreat
/- Walks: may a deed be done, by the document? -/
namespace Go.Proofs.YtdbnfhpgmcjngacGreat
open Go Go.RowKit
set_option maxRecDepth 100000 in
set_option maxHeartbeats 6400000 in
theorem dfault_any (k:Int) (p:List Int) (a m:Int) (s:ByteArray) (pa pc) (w:World) (hs:s.size≤maxLen) (hp:Ints Any w p pa pc) :
    Calls Tryz.prog 30 #[.agg #[.int .i64 k,.slice pa p.length pc,.int .i64 a,.int .i64 m,.string s]] w fun e w'=>e=.returned (.int .i64 (dfault ⟨k,p,a,m,s⟩))∧Pr w w':=by
  have hm:=Ints.len hp
  have L1:=Lib.hid (fun W'=>isLabel_any s W' hs)
  obtain ⟨n,hn⟩:∃ n,n=negP p:=⟨_,rfl⟩
  obtain ⟨b,hb⟩:∃ n,n=isLab s:=⟨_,rfl⟩
  have H1:=Lib.hid hn
  have H2:=Lib.hid hb
  rw [← hb] at L1
  clear hn hb
  obtain ⟨f,hf⟩:∃ f:Nat,f=dfault ⟨k,p,a,m,s⟩:=⟨_,rfl⟩
  rw [← hf]
  unfold dfault at hf
  simp only [← H1.out,← H2.out] at hf
  have Hp:=Lib.hid hp
  clear hp
  by_cases hk:k=1∨k=2∨k=3
  case neg =>
    rw [if_pos (by omega)] at hf
    have e1:(k != 1)=true:=by simp;omega
    have e2:(k != 2)=true:=by simp;omega
    have e3:(k != 3)=true:=by simp;omega
    subst hf
    go_enter Tryz.func30,Tryz.ntmps30
    go_wp2_with fail
    go_ret
    exact ⟨rfl,Pr.alloc _ _⟩
  rw [if_neg (by omega)] at hf
  rcases hk with rfl | rfl | rfl
  · by_cases ha:a=0
    case neg =>
      rw [if_pos (.inl ⟨by decide,.inl ha⟩)] at hf
      have e1:(a != 0)=true:=by simpa using ha
      subst hf
      go_enter Tryz.func30,Tryz.ntmps30
      go_wp2_with fail
      go_ret
      exact ⟨rfl,Pr.alloc _ _⟩
    subst ha
    by_cases hz:m=0
    case neg =>
      rw [if_pos (.inl ⟨by decide,.inr hz⟩)] at hf
      have e1:(m != 0)=true:=by simpa using hz
      subst hf
      go_enter Tryz.func30,Tryz.ntmps30
      go_wp2_with fail
      go_ret
      exact ⟨rfl,Pr.alloc _ _⟩
    subst hz
    rw [if_neg (by simp)] at hf
    cases n
    case true =>
      rw [if_pos (by simp)] at hf
      subst hf
      go_enter Tryz.func30,Tryz.ntmps30
      go_wp2_with fail
      go_loopw [3,4] (fun b i wr=>∃ j:Nat,j≤p.length∧i=.int .i64 j∧b=.bool (false || negP (p.take j))∧wr=w.alloc (.cells #[.int .i64 1,.slice pa p.length pc,.int .i64 0,.int .i64 0,.string s] 25)) (fun _ i _=>p.length - (intOf i).toNat)
      case atStart=>exact ⟨0,by omega,rfl,by simp [negP],rfl⟩
      case round =>
        obtain ⟨j,hj,rfl,rfl,rfl⟩:=hrel
        by_cases hlt:j < p.length
        · obtain ⟨bb,oo,rfl,c0⟩:=Ints.get (Flat.pr (Pr.alloc w (.cells #[.int .i64 1,.slice pa p.length pc,.int .i64 0,.int .i64 0,.string s] 25)) Hp.out) j hlt
          have hsn:=negP_take p j hlt
          have hlt':(j:Int) < p.length:=by omega
          have hj0:(0:Int)≤j:=by omega
          generalize p[j]=x at *
          have Hsn:=Lib.hid hsn
          clear hsn
          cases hv:(false || negP (p.take j))
          · have hv2:(false || negP (p.take (j+1)))=decide (x < 0):=by rw [Hsn.out,← Bool.or_assoc,hv];rfl
            have Hv:=Lib.hid hv2
            clear hv hv2
            go_wp2_with fail
            refine ⟨⟨j+1,by omega,by go_num,by rw [Hv.out],trivial⟩,?_⟩
            simp [intOf];omega
          · have hv2:(false || negP (p.take (j+1)))=true:=by rw [Hsn.out,← Bool.or_assoc,hv];rfl
            have Hv:=Lib.hid hv2
            clear hv hv2
            go_wp2_with fail
            refine ⟨⟨j+1,by omega,by go_num,by rw [Hv.out],trivial⟩,?_⟩
            simp [intOf];omega
        · have hje:j=p.length:=by omega
          subst hje
          have hv:(false || negP (p.take p.length))=true:=by rw [List.take_length];simp [← H1.out]
          have Hj:Hid (negP (p.take p.length)=negP (p.take p.length)):=Lib.hid rfl
          rw [hv]
          go_wp2_with (first
        | (go_at_call 50;refine (L1.out _).mono ?_;rintro e w' ⟨rfl,rfl⟩))
          go_ret
          exact ⟨rfl,Pr.alloc _ _⟩
    rw [if_neg (by simp)] at hf
    cases b
    · rw [if_pos (by simp)] at hf
      subst hf
      go_enter Tryz.func30,Tryz.ntmps30
      go_wp2_with fail
      go_loopw [3,4] (fun b i wr=>∃ j:Nat,j≤p.length∧i=.int .i64 j∧b=.bool (false || negP (p.take j))∧wr=w.alloc (.cells #[.int .i64 1,.slice pa p.length pc,.int .i64 0,.int .i64 0,.string s] 25)) (fun _ i _=>p.length - (intOf i).toNat)
      case atStart=>exact ⟨0,by omega,rfl,by simp [negP],rfl⟩
      case round =>
        obtain ⟨j,hj,rfl,rfl,rfl⟩:=hrel
        by_cases hlt:j < p.length
        · obtain ⟨bb,oo,rfl,c0⟩:=Ints.get (Flat.pr (Pr.alloc w (.cells #[.int .i64 1,.slice pa p.length pc,.int .i64 0,.int .i64 0,.string s] 25)) Hp.out) j hlt
          have hsn:=negP_take p j hlt
          have hlt':(j:Int) < p.length:=by omega
          have hj0:(0:Int)≤j:=by omega
          generalize p[j]=x at *
          have Hsn:=Lib.hid hsn
          clear hsn
          cases hv:(false || negP (p.take j))
          · have hv2:(false || negP (p.take (j+1)))=decide (x < 0):=by rw [Hsn.out,← Bool.or_assoc,hv];rfl
            have Hv:=Lib.hid hv2
            clear hv hv2
            go_wp2_with fail
            refine ⟨⟨j+1,by omega,by go_num,by rw [Hv.out],trivial⟩,?_⟩
            simp [intOf];omega
          · have hv2:(false || negP (p.take (j+1)))=true:=by rw [Hsn.out,← Bool.or_assoc,hv];rfl
            have Hv:=Lib.hid hv2
            clear hv hv2
            go_wp2_with fail
            refine ⟨⟨j+1,by omega,by go_num,by rw [Hv.out],trivial⟩,?_⟩
            simp [intOf];omega
        · have hje:j=p.length:=by omega
          subst hje
          have hv:(false || negP (p.take p.length))=false:=by rw [List.take_length];simp [← H1.out]
          have Hj:Hid (negP (p.take p.length)=negP (p.take p.length)):=Lib.hid rfl
          rw [hv]
          go_wp2_with (first
        | (go_at_call 50;refine (L1.out _).mono ?_;rintro e w' ⟨rfl,rfl⟩))
          go_ret
          exact ⟨rfl,Pr.alloc _ _⟩
    · rw [if_neg (by simp),if_neg (by simp)] at hf
      subst hf
      go_enter Tryz.func30,Tryz.ntmps30
      go_wp2_with fail
      go_loopw [3,4] (fun b i wr=>∃ j:Nat,j≤p.length∧i=.int .i64 j∧b=.bool (false || negP (p.take j))∧wr=w.alloc (.cells #[.int .i64 1,.slice pa p.length pc,.int .i64 0,.int .i64 0,.string s] 25)) (fun _ i _=>p.length - (intOf i).toNat)
      case atStart=>exact ⟨0,by omega,rfl,by simp [negP],rfl⟩
      case round =>
        obtain ⟨j,hj,rfl,rfl,rfl⟩:=hrel
        by_cases hlt:j < p.length
        · obtain ⟨bb,oo,rfl,c0⟩:=Ints.get (Flat.pr (Pr.alloc w (.cells #[.int .i64 1,.slice pa p.length pc,.int .i64 0,.int .i64 0,.string s] 25)) Hp.out) j hlt
          have hsn:=negP_take p j hlt
          have hlt':(j:Int) < p.length:=by omega
          have hj0:(0:Int)≤j:=by omega
          generalize p[j]=x at *
          have Hsn:=Lib.hid hsn
          clear hsn
          cases hv:(false || negP (p.take j))
          · have hv2:(false || negP (p.take (j+1)))=decide (x < 0):=by rw [Hsn.out,← Bool.or_assoc,hv];rfl
            have Hv:=Lib.hid hv2
            clear hv hv2
            go_wp2_with fail
            refine ⟨⟨j+1,by omega,by go_num,by rw [Hv.out],trivial⟩,?_⟩
            simp [intOf];omega
          · have hv2:(false || negP (p.take (j+1)))=true:=by rw [Hsn.out,← Bool.or_assoc,hv];rfl
            have Hv:=Lib.hid hv2
            clear hv hv2
            go_wp2_with fail
            refine ⟨⟨j+1,by omega,by go_num,by rw [Hv.out],trivial⟩,?_⟩
            simp [intOf];omega
        · have hje:j=p.length:=by omega
          subst hje
          have hv:(false || negP (p.take p.length))=false:=by rw [List.take_length];simp [← H1.out]
          have Hj:Hid (negP (p.take p.length)=negP (p.take p.length)):=Lib.hid rfl
          rw [hv]
          go_wp2_with (first
        | (go_at_call 50;refine (L1.out _).mono ?_;rintro e w' ⟨rfl,rfl⟩))
          go_ret
          exact ⟨rfl,Pr.alloc _ _⟩
  · by_cases ha:a=0
    case neg =>
      rw [if_pos (.inl ⟨by decide,.inl ha⟩)] at hf
      have e1:(a != 0)=true:=by simpa using ha
      subst hf
      go_enter Tryz.func30,Tryz.ntmps30
      go_wp2_with fail
      go_ret
      exact ⟨rfl,Pr.alloc _ _⟩
    subst ha
    by_cases hz:m=0
    case neg =>
      rw [if_pos (.inl ⟨by decide,.inr hz⟩)] at hf
      have e1:(m != 0)=true:=by simpa using hz
      subst hf
      go_enter Tryz.func30,Tryz.ntmps30
      go_wp2_with fail
      go_ret
      exact ⟨rfl,Pr.alloc _ _⟩
    subst hz
    by_cases hse:s=⟨#[]⟩
    case neg =>
      rw [if_pos (.inr ⟨rfl,hse⟩)] at hf
      obtain ⟨e1,e2,e3⟩:=str_ne hse
      subst hf
      go_enter Tryz.func30,Tryz.ntmps30
      go_wp2_with fail
      go_ret
      exact ⟨rfl,Pr.alloc _ _⟩
    subst hse
    rw [if_neg (by simp)] at hf
    cases n
    case true =>
      rw [if_pos (by simp)] at hf
      subst hf
      go_enter Tryz.func30,Tryz.ntmps30
      go_wp2_with fail
      go_loopw [3,4] (fun b i wr=>∃ j:Nat,j≤p.length∧i=.int .i64 j∧b=.bool (false || negP (p.take j))∧wr=w.alloc (.cells #[.int .i64 2,.slice pa p.length pc,.int .i64 0,.int .i64 0,.string ⟨#[]⟩] 25)) (fun _ i _=>p.length - (intOf i).toNat)
      case atStart=>exact ⟨0,by omega,rfl,by simp [negP],rfl⟩
      case round =>
        obtain ⟨j,hj,rfl,rfl,rfl⟩:=hrel
        by_cases hlt:j < p.length
        · obtain ⟨bb,oo,rfl,c0⟩:=Ints.get (Flat.pr (Pr.alloc w (.cells #[.int .i64 2,.slice pa p.length pc,.int .i64 0,.int .i64 0,.string ⟨#[]⟩] 25)) Hp.out) j hlt
          have hsn:=negP_take p j hlt
          have hlt':(j:Int) < p.length:=by omega
          have hj0:(0:Int)≤j:=by omega
          generalize p[j]=x at *
          have Hsn:=Lib.hid hsn
          clear hsn
          cases hv:(false || negP (p.take j))
          · have hv2:(false || negP (p.take (j+1)))=decide (x < 0):=by rw [Hsn.out,← Bool.or_assoc,hv];rfl
            have Hv:=Lib.hid hv2
            clear hv hv2
            go_wp2_with fail
            refine ⟨⟨j+1,by omega,by go_num,by rw [Hv.out],trivial⟩,?_⟩
            simp [intOf];omega
          · have hv2:(false || negP (p.take (j+1)))=true:=by rw [Hsn.out,← Bool.or_assoc,hv];rfl
            have Hv:=Lib.hid hv2
            clear hv hv2
            go_wp2_with fail
            refine ⟨⟨j+1,by omega,by go_num,by rw [Hv.out],trivial⟩,?_⟩
            simp [intOf];omega
        · have hje:j=p.length:=by omega
          subst hje
          have hv:(false || negP (p.take p.length))=true:=by rw [List.take_length];simp [← H1.out]
          have Hj:Hid (negP (p.take p.length)=negP (p.take p.length)):=Lib.hid rfl
          rw [hv]
          go_wp2_with (first
        | (go_at_call 50;refine (L1.out _).mono ?_;rintro e w' ⟨rfl,rfl⟩))
          go_ret
          exact ⟨rfl,Pr.alloc _ _⟩
    rw [if_neg (by simp),if_neg (by simp)] at hf
    by_cases hpe:p.length=0
    · rw [if_pos ⟨rfl,List.eq_nil_of_length_eq_zero hpe⟩] at hf
      have e1:((p.length:Int)==0)=true:=by rw [hpe];rfl
      have e2:(p.length==0)=true:=by rw [hpe];rfl
      clear hpe
      subst hf
      go_enter Tryz.func30,Tryz.ntmps30
      go_wp2_with fail
      go_loopw [3,4] (fun b i wr=>∃ j:Nat,j≤p.length∧i=.int .i64 j∧b=.bool (false || negP (p.take j))∧wr=w.alloc (.cells #[.int .i64 2,.slice pa p.length pc,.int .i64 0,.int .i64 0,.string ⟨#[]⟩] 25)) (fun _ i _=>p.length - (intOf i).toNat)
      case atStart=>exact ⟨0,by omega,rfl,by simp [negP],rfl⟩
      case round =>
        obtain ⟨j,hj,rfl,rfl,rfl⟩:=hrel
        by_cases hlt:j < p.length
        · obtain ⟨bb,oo,rfl,c0⟩:=Ints.get (Flat.pr (Pr.alloc w (.cells #[.int .i64 2,.slice pa p.length pc,.int .i64 0,.int .i64 0,.string ⟨#[]⟩] 25)) Hp.out) j hlt
          have hsn:=negP_take p j hlt
          have hlt':(j:Int) < p.length:=by omega
          have hj0:(0:Int)≤j:=by omega
          generalize p[j]=x at *
          have Hsn:=Lib.hid hsn
          clear hsn
          cases hv:(false || negP (p.take j))
          · have hv2:(false || negP (p.take (j+1)))=decide (x < 0):=by rw [Hsn.out,← Bool.or_assoc,hv];rfl
            have Hv:=Lib.hid hv2
            clear hv hv2
            go_wp2_with fail
            refine ⟨⟨j+1,by omega,by go_num,by rw [Hv.out],trivial⟩,?_⟩
            simp [intOf];omega
          · have hv2:(false || negP (p.take (j+1)))=true:=by rw [Hsn.out,← Bool.or_assoc,hv];rfl
            have Hv:=Lib.hid hv2
            clear hv hv2
            go_wp2_with fail
            refine ⟨⟨j+1,by omega,by go_num,by rw [Hv.out],trivial⟩,?_⟩
            simp [intOf];omega
        · have hje:j=p.length:=by omega
          subst hje
          have hv:(false || negP (p.take p.length))=false:=by rw [List.take_length];simp [← H1.out]
          have Hj:Hid (negP (p.take p.length)=negP (p.take p.length)):=Lib.hid rfl
          rw [hv]
          go_wp2_with (first
        | (go_at_call 50;refine (L1.out _).mono ?_;rintro e w' ⟨rfl,rfl⟩))
          go_ret
          exact ⟨rfl,Pr.alloc _ _⟩
    · rw [if_neg (fun e=>hpe (by rw [e.2];rfl))] at hf
      have e1:((p.length:Int)==0)=false:=by rw [beq_eq_false_iff_ne];omega
      have e2:(p.length==0)=false:=by rw [beq_eq_false_iff_ne];omega
      subst hf
      go_enter Tryz.func30,Tryz.ntmps30
      go_wp2_with fail
      go_loopw [3,4] (fun b i wr=>∃ j:Nat,j≤p.length∧i=.int .i64 j∧b=.bool (false || negP (p.take j))∧wr=w.alloc (.cells #[.int .i64 2,.slice pa p.length pc,.int .i64 0,.int .i64 0,.string ⟨#[]⟩] 25)) (fun _ i _=>p.length - (intOf i).toNat)
      case atStart=>exact ⟨0,by omega,rfl,by simp [negP],rfl⟩
      case round =>
        obtain ⟨j,hj,rfl,rfl,rfl⟩:=hrel
        by_cases hlt:j < p.length
        · obtain ⟨bb,oo,rfl,c0⟩:=Ints.get (Flat.pr (Pr.alloc w (.cells #[.int .i64 2,.slice pa p.length pc,.int .i64 0,.int .i64 0,.string ⟨#[]⟩] 25)) Hp.out) j hlt
          have hsn:=negP_take p j hlt
          have hlt':(j:Int) < p.length:=by omega
          have hj0:(0:Int)≤j:=by omega
          generalize p[j]=x at *
          have Hsn:=Lib.hid hsn
          clear hsn
          cases hv:(false || negP (p.take j))
          · have hv2:(false || negP (p.take (j+1)))=decide (x < 0):=by rw [Hsn.out,← Bool.or_assoc,hv];rfl
            have Hv:=Lib.hid hv2
            clear hv hv2
            go_wp2_with fail
            refine ⟨⟨j+1,by omega,by go_num,by rw [Hv.out],trivial⟩,?_⟩
            simp [intOf];omega
          · have hv2:(false || negP (p.take (j+1)))=true:=by rw [Hsn.out,← Bool.or_assoc,hv];rfl
            have Hv:=Lib.hid hv2
            clear hv hv2
            go_wp2_with fail
            refine ⟨⟨j+1,by omega,by go_num,by rw [Hv.out],trivial⟩,?_⟩
            simp [intOf];omega
        · have hje:j=p.length:=by omega
          subst hje
          have hv:(false || negP (p.take p.length))=false:=by rw [List.take_length];simp [← H1.out]
          have Hj:Hid (negP (p.take p.length)=negP (p.take p.length)):=Lib.hid rfl
          rw [hv]
          go_wp2_with (first
        | (go_at_call 50;refine (L1.out _).mono ?_;rintro e w' ⟨rfl,rfl⟩))
          go_ret
          exact ⟨rfl,Pr.alloc _ _⟩
  · rw [if_neg (by simp)] at hf
    by_cases ha:a < 0
    · rw [if_pos (.inl (.inl ha))] at hf
      subst hf
      go_enter Tryz.func30,Tryz.ntmps30
      go_wp2_with fail
      go_loopw [3,4] (fun b i wr=>∃ j:Nat,j≤p.length∧i=.int .i64 j∧b=.bool (true || negP (p.take j))∧wr=w.alloc (.cells #[.int .i64 3,.slice pa p.length pc,.int .i64 a,.int .i64 m,.string s] 25)) (fun _ i _=>p.length - (intOf i).toNat)
      case atStart=>exact ⟨0,by omega,rfl,by simp [negP],rfl⟩
      case round =>
        obtain ⟨j,hj,rfl,rfl,rfl⟩:=hrel
        by_cases hlt:j < p.length
        · obtain ⟨bb,oo,rfl,c0⟩:=Ints.get (Flat.pr (Pr.alloc w (.cells #[.int .i64 3,.slice pa p.length pc,.int .i64 a,.int .i64 m,.string s] 25)) Hp.out) j hlt
          have hsn:=negP_take p j hlt
          have hlt':(j:Int) < p.length:=by omega
          have hj0:(0:Int)≤j:=by omega
          generalize p[j]=x at *
          have Hsn:=Lib.hid hsn
          clear hsn
          cases hv:(true || negP (p.take j))
          · have hv2:(true || negP (p.take (j+1)))=decide (x < 0):=by rw [Hsn.out,← Bool.or_assoc,hv];rfl
            have Hv:=Lib.hid hv2
            clear hv hv2
            go_wp2_with fail
            refine ⟨⟨j+1,by omega,by go_num,by rw [Hv.out],trivial⟩,?_⟩
            simp [intOf];omega
          · have hv2:(true || negP (p.take (j+1)))=true:=by rw [Hsn.out,← Bool.or_assoc,hv];rfl
            have Hv:=Lib.hid hv2
            clear hv hv2
            go_wp2_with fail
            refine ⟨⟨j+1,by omega,by go_num,by rw [Hv.out],trivial⟩,?_⟩
            simp [intOf];omega
        · have hje:j=p.length:=by omega
          subst hje
          have hv:(true || negP (p.take p.length))=true:=by rw [List.take_length];simp [← H1.out]
          have Hj:Hid (negP (p.take p.length)=negP (p.take p.length)):=Lib.hid rfl
          rw [hv]
          go_wp2_with (first
        | (go_at_call 50;refine (L1.out _).mono ?_;rintro e w' ⟨rfl,rfl⟩))
          go_ret
          exact ⟨rfl,Pr.alloc _ _⟩
    by_cases hz:m < 0
    · rw [if_pos (.inl (.inr hz))] at hf
      subst hf
      go_enter Tryz.func30,Tryz.ntmps30
      go_wp2_with fail
      go_loopw [3,4] (fun b i wr=>∃ j:Nat,j≤p.length∧i=.int .i64 j∧b=.bool (true || negP (p.take j))∧wr=w.alloc (.cells #[.int .i64 3,.slice pa p.length pc,.int .i64 a,.int .i64 m,.string s] 25)) (fun _ i _=>p.length - (intOf i).toNat)
      case atStart=>exact ⟨0,by omega,rfl,by simp [negP],rfl⟩
      case round =>
        obtain ⟨j,hj,rfl,rfl,rfl⟩:=hrel
        by_cases hlt:j < p.length
        · obtain ⟨bb,oo,rfl,c0⟩:=Ints.get (Flat.pr (Pr.alloc w (.cells #[.int .i64 3,.slice pa p.length pc,.int .i64 a,.int .i64 m,.string s] 25)) Hp.out) j hlt
          have hsn:=negP_take p j hlt
          have hlt':(j:Int) < p.length:=by omega
          have hj0:(0:Int)≤j:=by omega
          generalize p[j]=x at *
          have Hsn:=Lib.hid hsn
          clear hsn
          cases hv:(true || negP (p.take j))
          · have hv2:(true || negP (p.take (j+1)))=decide (x < 0):=by rw [Hsn.out,← Bool.or_assoc,hv];rfl
            have Hv:=Lib.hid hv2
            clear hv hv2
            go_wp2_with fail
            refine ⟨⟨j+1,by omega,by go_num,by rw [Hv.out],trivial⟩,?_⟩
            simp [intOf];omega
          · have hv2:(true || negP (p.take (j+1)))=true:=by rw [Hsn.out,← Bool.or_assoc,hv];rfl
            have Hv:=Lib.hid hv2
            clear hv hv2
            go_wp2_with fail
            refine ⟨⟨j+1,by omega,by go_num,by rw [Hv.out],trivial⟩,?_⟩
            simp [intOf];omega
        · have hje:j=p.length:=by omega
          subst hje
          have hv:(true || negP (p.take p.length))=true:=by rw [List.take_length];simp [← H1.out]
          have Hj:Hid (negP (p.take p.length)=negP (p.take p.length)):=Lib.hid rfl
          rw [hv]
          go_wp2_with (first
        | (go_at_call 50;refine (L1.out _).mono ?_;rintro e w' ⟨rfl,rfl⟩))
          go_ret
          exact ⟨rfl,Pr.alloc _ _⟩
    cases n
    case true =>
      rw [if_pos (by simp)] at hf
      subst hf
      go_enter Tryz.func30,Tryz.ntmps30
      go_wp2_with fail
      go_loopw [3,4] (fun b i wr=>∃ j:Nat,j≤p.length∧i=.int .i64 j∧b=.bool (false || negP (p.take j))∧wr=w.alloc (.cells #[.int .i64 3,.slice pa p.length pc,.int .i64 a,.int .i64 m,.string s] 25)) (fun _ i _=>p.length - (intOf i).toNat)
      case atStart=>exact ⟨0,by omega,rfl,by simp [negP],rfl⟩
      case round =>
        obtain ⟨j,hj,rfl,rfl,rfl⟩:=hrel
        by_cases hlt:j < p.length
        · obtain ⟨bb,oo,rfl,c0⟩:=Ints.get (Flat.pr (Pr.alloc w (.cells #[.int .i64 3,.slice pa p.length pc,.int .i64 a,.int .i64 m,.string s] 25)) Hp.out) j hlt
          have hsn:=negP_take p j hlt
          have hlt':(j:Int) < p.length:=by omega
          have hj0:(0:Int)≤j:=by omega
          generalize p[j]=x at *
          have Hsn:=Lib.hid hsn
          clear hsn
          cases hv:(false || negP (p.take j))
          · have hv2:(false || negP (p.take (j+1)))=decide (x < 0):=by rw [Hsn.out,← Bool.or_assoc,hv];rfl
            have Hv:=Lib.hid hv2
            clear hv hv2
            go_wp2_with fail
            refine ⟨⟨j+1,by omega,by go_num,by rw [Hv.out],trivial⟩,?_⟩
            simp [intOf];omega
          · have hv2:(false || negP (p.take (j+1)))=true:=by rw [Hsn.out,← Bool.or_assoc,hv];rfl
            have Hv:=Lib.hid hv2
            clear hv hv2
            go_wp2_with fail
            refine ⟨⟨j+1,by omega,by go_num,by rw [Hv.out],trivial⟩,?_⟩
            simp [intOf];omega
        · have hje:j=p.length:=by omega
          subst hje
          have hv:(false || negP (p.take p.length))=true:=by rw [List.take_length];simp [← H1.out]
          have Hj:Hid (negP (p.take p.length)=negP (p.take p.length)):=Lib.hid rfl
          rw [hv]
          go_wp2_with (first
        | (go_at_call 50;refine (L1.out _).mono ?_;rintro e w' ⟨rfl,rfl⟩))
          go_ret
          exact ⟨rfl,Pr.alloc _ _⟩
    rw [if_neg (by simp;omega)] at hf
    cases b
    · rw [if_pos (by simp)] at hf
      subst hf
      go_enter Tryz.func30,Tryz.ntmps30
      go_wp2_with fail
      go_loopw [3,4] (fun b i wr=>∃ j:Nat,j≤p.length∧i=.int .i64 j∧b=.bool (false || negP (p.take j))∧wr=w.alloc (.cells #[.int .i64 3,.slice pa p.length pc,.int .i64 a,.int .i64 m,.string s] 25)) (fun _ i _=>p.length - (intOf i).toNat)
      case atStart=>exact ⟨0,by omega,rfl,by simp [negP],rfl⟩
      case round =>
        obtain ⟨j,hj,rfl,rfl,rfl⟩:=hrel
        by_cases hlt:j < p.length
        · obtain ⟨bb,oo,rfl,c0⟩:=Ints.get (Flat.pr (Pr.alloc w (.cells #[.int .i64 3,.slice pa p.length pc,.int .i64 a,.int .i64 m,.string s] 25)) Hp.out) j hlt
          have hsn:=negP_take p j hlt
          have hlt':(j:Int) < p.length:=by omega
          have hj0:(0:Int)≤j:=by omega
          generalize p[j]=x at *
          have Hsn:=Lib.hid hsn
          clear hsn
          cases hv:(false || negP (p.take j))
          · have hv2:(false || negP (p.take (j+1)))=decide (x < 0):=by rw [Hsn.out,← Bool.or_assoc,hv];rfl
            have Hv:=Lib.hid hv2
            clear hv hv2
            go_wp2_with fail
            refine ⟨⟨j+1,by omega,by go_num,by rw [Hv.out],trivial⟩,?_⟩
            simp [intOf];omega
          · have hv2:(false || negP (p.take (j+1)))=true:=by rw [Hsn.out,← Bool.or_assoc,hv];rfl
            have Hv:=Lib.hid hv2
            clear hv hv2
            go_wp2_with fail
            refine ⟨⟨j+1,by omega,by go_num,by rw [Hv.out],trivial⟩,?_⟩
            simp [intOf];omega
        · have hje:j=p.length:=by omega
          subst hje
          have hv:(false || negP (p.take p.length))=false:=by rw [List.take_length];simp [← H1.out]
          have Hj:Hid (negP (p.take p.length)=negP (p.take p.length)):=Lib.hid rfl
          rw [hv]
          go_wp2_with (first
        | (go_at_call 50;refine (L1.out _).mono ?_;rintro e w' ⟨rfl,rfl⟩))
          go_ret
          exact ⟨rfl,Pr.alloc _ _⟩
    · rw [if_neg (by simp),if_neg (by simp)] at hf
      subst hf
      go_enter Tryz.func30,Tryz.ntmps30
      go_wp2_with fail
      go_loopw [3,4] (fun b i wr=>∃ j:Nat,j≤p.length∧i=.int .i64 j∧b=.bool (false || negP (p.take j))∧wr=w.alloc (.cells #[.int .i64 3,.slice pa p.length pc,.int .i64 a,.int .i64 m,.string s] 25)) (fun _ i _=>p.length - (intOf i).toNat)
      case atStart=>exact ⟨0,by omega,rfl,by simp [negP],rfl⟩
      case round =>
        obtain ⟨j,hj,rfl,rfl,rfl⟩:=hrel
        by_cases hlt:j < p.length
        · obtain ⟨bb,oo,rfl,c0⟩:=Ints.get (Flat.pr (Pr.alloc w (.cells #[.int .i64 3,.slice pa p.length pc,.int .i64 a,.int .i64 m,.string s] 25)) Hp.out) j hlt
          have hsn:=negP_take p j hlt
          have hlt':(j:Int) < p.length:=by omega
          have hj0:(0:Int)≤j:=by omega
          generalize p[j]=x at *
          have Hsn:=Lib.hid hsn
          clear hsn
          cases hv:(false || negP (p.take j))
          · have hv2:(false || negP (p.take (j+1)))=decide (x < 0):=by rw [Hsn.out,← Bool.or_assoc,hv];rfl
            have Hv:=Lib.hid hv2
            clear hv hv2
            go_wp2_with fail
            refine ⟨⟨j+1,by omega,by go_num,by rw [Hv.out],trivial⟩,?_⟩
            simp [intOf];omega
          · have hv2:(false || negP (p.take (j+1)))=true:=by rw [Hsn.out,← Bool.or_assoc,hv];rfl
            have Hv:=Lib.hid hv2
            clear hv hv2
            go_wp2_with fail
            refine ⟨⟨j+1,by omega,by go_num,by rw [Hv.out],trivial⟩,?_⟩
            simp [intOf];omega
        · have hje:j=p.length:=by omega
          subst hje
          have hv:(false || negP (p.take p.length))=false:=by rw [List.take_length];simp [← H1.out]
          have Hj:Hid (negP (p.take p.length)=negP (p.take p.length)):=Lib.hid rfl
          rw [hv]
          go_wp2_with (first
        | (go_at_call 50;refine (L1.out _).mono ?_;rintro e w' ⟨rfl,rfl⟩))
          go_ret
          exact ⟨rfl,Pr.alloc _ _⟩
end Go.Proofs.YtdbnfhpgmcjngacGreat
