/- Plain: deeds as lines. No program here. -/
import Derived.Test.YtdbnfhpgmcjngabGreatDoorBpl
import Derived.Lib.ItoaNum
import Derived.Lib.AtoiAll
import Derived.Lib.Atoi
namespace Go.Proofs.YtdbnfhpgmcjngabGreatDoor
open Go
def joinC (c:UInt8):List (List UInt8)→List UInt8
  | []=>[]
  | [x]=>x
  | x :: y :: r=>x ++ c :: joinC c (y :: r)
def cutC (c:UInt8):List UInt8→List (List UInt8)
  | []=>[[]]
  | b :: r=>if b=c then [] :: cutC c r else ((cutC c r).headD [] |>.cons b) :: (cutC c r).tail
theorem cutC_ne (c:UInt8):∀ s,cutC c s≠[]
  | []=>by simp [cutC]
  | b :: r=>by unfold cutC;split <;> simp
theorem cutC_same (c:UInt8) (r:List UInt8):cutC c (c :: r)=[] :: cutC c r:=by rw [cutC,if_pos rfl]
theorem cutC_other {b c:UInt8} (r:List UInt8) (h:b≠c):cutC c (b :: r)=(b :: (cutC c r).headD []) :: (cutC c r).tail:=by rw [cutC,if_neg h]
theorem cutC_split (c:UInt8) (s:List UInt8):cutC c s=(cutC c s).headD [] :: (cutC c s).tail:=by
  cases h:cutC c s with
  | nil=>exact absurd h (cutC_ne c s)
  | cons x r=>rfl
theorem cutC_part {c:UInt8}:∀ (x r:List UInt8),c ∉ x→cutC c (x ++ c :: r)=x :: cutC c r
  | [],r,_=>cutC_same c r
  | b :: x,r,h=>by
    simp only [List.mem_cons,not_or] at h
    rw [List.cons_append,cutC_other _ (fun e=>h.1 e.symm),cutC_part x r h.2];rfl
theorem cutC_whole {c:UInt8}:∀ x:List UInt8,c ∉ x→cutC c x=[x]
  | [],_=>rfl
  | b :: x,h=>by
    simp only [List.mem_cons,not_or] at h
    rw [cutC_other _ (fun e=>h.1 e.symm),cutC_whole x h.2];rfl
theorem join_cons (c:UInt8) (x:List UInt8) {r:List (List UInt8)} (h:r≠[]):joinC c (x :: r)=x ++ c :: joinC c r:=by
  cases r with
  | nil=>exact absurd rfl h
  | cons y r=>rfl
theorem join_head (c b:UInt8) (x:List UInt8) (r:List (List UInt8)):joinC c ((b :: x) :: r)=b :: joinC c (x :: r):=by
  cases r with
  | nil=>rfl
  | cons y r=>rfl
theorem join_cut (c:UInt8):∀ s,joinC c (cutC c s)=s
  | []=>rfl
  | b :: r=>by
    by_cases h:b=c
    · subst h;rw [cutC_same,join_cons _ _ (cutC_ne _ _),join_cut b r];rfl
    · rw [cutC_other _ h,join_head,← cutC_split,join_cut c r]
theorem cut_length (c:UInt8):∀ s:List UInt8,(cutC c s).length=s.count c+1
  | []=>rfl
  | b :: r=>by
    by_cases hb:b=c
    · subst hb;rw [cutC_same,List.length_cons,cut_length b r,List.count_cons_self]
    · rw [cutC_other _ hb,List.length_cons,List.length_tail,cut_length c r,List.count_cons_of_ne hb];omega
def pathTx (p:List Int):List UInt8:=if p=[] then [45] else joinC 46 (p.map Lib.itoa)
def fewN (s:List UInt8):Option Nat:=if s.length < 1∨3 < s.length∨(s.head? = some 48∧1 < s.length) then none else Lib.decNat s
theorem few_dec:∀ n:Fin 1000,fewN (Lib.decDigits n.val)=some n.val:=by decide +kernel
theorem few_itoa {n:Int} (h0:0≤n) (h1:n < 1000):fewN (Lib.itoa n)=some n.toNat:=by
  have:=few_dec ⟨n.toNat,by omega⟩
  unfold Lib.itoa
  rw [if_neg (by omega)];exact this
theorem dec_few1:∀ a:Fin 10,Lib.decDigits a.val=[UInt8.ofNat (48+a.val)]:=by decide +kernel
theorem dec_few2:∀ a b:Fin 10,a.val≠0→Lib.decDigits (a.val * 10+b.val)=[UInt8.ofNat (48+a.val),UInt8.ofNat (48+b.val)]:=by decide +kernel
theorem dec_few3:∀ a b c:Fin 10,a.val≠0→Lib.decDigits ((a.val * 10+b.val) * 10+c.val)=[UInt8.ofNat (48+a.val),UInt8.ofNat (48+b.val),UInt8.ofNat (48+c.val)]:=by decide +kernel
theorem digit_is {b:UInt8} {d:Nat} (h:Lib.digitVal b=some d):d < 10∧b=UInt8.ofNat (48+d):=by
  obtain ⟨h1,h2,h3⟩:=Lib.digitVal_eq h
  refine ⟨by omega,?_⟩
  rw [show 48+d=b.toNat by omega];simp
theorem dec_few {s:List UInt8} {n:Nat} (h:fewN s=some n):n < 1000∧Lib.decDigits n=s:=by
  unfold fewN at h
  split at h
  · cases h
  · next hn =>
    simp only [not_or,not_and] at hn
    obtain ⟨hl1,hl3,hz⟩:=hn
    match s,hl1,hl3,hz,h with
    | [],hl1,_,_,_=>simp at hl1
    | [a],_,_,_,h =>
      simp only [Lib.decNat,Lib.decFrom,List.isEmpty_cons] at h
      cases ha:Lib.digitVal a with
      | none=>simp [ha] at h
      | some d =>
        simp [ha] at h
        obtain ⟨h1,h2⟩:=digit_is ha
        subst h
        exact ⟨by omega,by rw [h2];exact dec_few1 ⟨d,h1⟩⟩
    | [a,b],_,_,hz,h =>
      simp only [Lib.decNat,Lib.decFrom,List.isEmpty_cons] at h
      cases ha:Lib.digitVal a with
      | none=>simp [ha] at h
      | some d =>
        cases hb:Lib.digitVal b with
        | none=>simp [ha,hb] at h
        | some e =>
          simp [ha,hb] at h
          obtain ⟨h1,h2⟩:=digit_is ha
          obtain ⟨h3,h4⟩:=digit_is hb
          have hd:d≠0:=by rintro rfl;exact hz (by rw [h2];rfl) (by simp)
          subst h
          exact ⟨by omega,by rw [h2,h4];exact dec_few2 ⟨d,h1⟩ ⟨e,h3⟩ hd⟩
    | [a,b,c],_,_,hz,h =>
      simp only [Lib.decNat,Lib.decFrom,List.isEmpty_cons] at h
      cases ha:Lib.digitVal a with
      | none=>simp [ha] at h
      | some d =>
        cases hb:Lib.digitVal b with
        | none=>simp [ha,hb] at h
        | some e =>
          cases hc:Lib.digitVal c with
          | none=>simp [ha,hb,hc] at h
          | some f =>
            simp [ha,hb,hc] at h
            obtain ⟨h1,h2⟩:=digit_is ha
            obtain ⟨h3,h4⟩:=digit_is hb
            obtain ⟨h5,h6⟩:=digit_is hc
            have hd:d≠0:=by rintro rfl;exact hz (by rw [h2];rfl) (by simp)
            subst h
            exact ⟨by omega,by rw [h2,h4,h6];exact dec_few3 ⟨d,h1⟩ ⟨e,h3⟩ ⟨f,h5⟩ hd⟩
    | a :: b :: c :: d :: r,_,hl3,_,_=>simp at hl3
theorem atoi_dec:∀ n:Fin 1000,Lib.atoiAll (Lib.decDigits n.val)=.ok (n.val:Int):=by decide +kernel
def smallP (s:List UInt8):Option Nat:=match Lib.atoiAll s with
  | .ok n=>if Lib.itoa n=s∧0≤n∧n < 1000 then some n.toNat else none
  | _=>none
theorem small_few (s:List UInt8):smallP s=fewN s:=by
  cases hf:fewN s with
  | some n =>
    obtain ⟨h1,h2⟩:=dec_few hf
    have:=atoi_dec ⟨n,h1⟩
    simp only [h2] at this
    unfold smallP
    rw [this]
    simp only []
    rw [if_pos ⟨by rw [← h2];unfold Lib.itoa;rw [if_neg (by omega)];rfl,by omega,by omega⟩];rfl
  | none =>
    unfold smallP
    rcases ha:Lib.atoiAll s with n | _ | _
    · simp only []
      by_cases h:Lib.itoa n=s∧0≤n∧n < 1000
      · have:=few_itoa h.2.1 h.2.2
        rw [h.1,hf] at this;cases this
      · rw [if_neg h]
    · rfl
    · rfl
def pathOf:List (List UInt8)→Option (List Int)
  | []=>some []
  | x :: r=>match fewN x with
    | none=>none
    | some n=>match pathOf r with
      | none=>none
      | some p=>some ((n:Int) :: p)
def pathIn (s:List UInt8):Option (List Int):=if s=[45] then some [] else pathOf (cutC 46 s)
theorem of_path:∀ {l:List (List UInt8)} {p:List Int},pathOf l=some p→p.map Lib.itoa=l∧∀ x∈p,0≤x∧x < 1000
  | [],p,h=>by simp [pathOf] at h;subst h;simp
  | x :: r,p,h=>by
    rw [pathOf] at h
    cases hf:fewN x with
    | none=>rw [hf] at h;cases h
    | some n =>
      rw [hf] at h
      simp only [] at h
      cases hp:pathOf r with
      | none=>rw [hp] at h;cases h
      | some q =>
        rw [hp] at h
        simp only [Option.some.injEq] at h
        subst h
        obtain ⟨h1,h2⟩:=of_path hp
        obtain ⟨h3,h4⟩:=dec_few hf
        constructor
        · rw [List.map_cons,h1,show Lib.itoa (n:Int)=x by unfold Lib.itoa;rw [if_neg (by omega)];exact h4]
        · intro y hy
          rcases List.mem_cons.1 hy with rfl | hy
          · omega
          · exact h2 y hy
theorem itoa_ne (n:Int):Lib.itoa n≠[]:=by
  unfold Lib.itoa
  split
  · simp
  · intro e
    have h1:=congrArg List.length e
    have h2:=Lib.nDigits_pos n.toNat
    rw [Lib.decDigits_length] at h1;simp at h1;omega
theorem back_path {s:List UInt8} {p:List Int} (h:pathIn s=some p):pathTx p=s∧∀ x∈p,0≤x∧x < 1000:=by
  unfold pathIn at h
  split at h
  · next e=>simp at h;subst h;exact ⟨by simp [pathTx,e],by simp⟩
  · obtain ⟨h1,h2⟩:=of_path h
    refine ⟨?_,h2⟩
    unfold pathTx
    rw [if_neg ?_,h1,join_cut]
    rintro rfl
    exact cutC_ne 46 s (by rw [← h1];rfl)
def wName:List UInt8:=[110,97,109,101]
def wDelete:List UInt8:=[100,101,108,101,116,101]
def wInsert:List UInt8:=[105,110,115,101,114,116]
def lineC (d:Dee):Nat:=if dfault d≠0 then dfault d else if (∃ x∈d.path,999 < x)∨999 < d.pos∨999 < d.many then 9 else 0
def words (d:Dee):List (List UInt8) :=
  if d.kind=1 then [wName,pathTx d.path,d.lab.data.toList]
  else if d.kind=2 then [wDelete,pathTx d.path]
  else [wInsert,pathTx d.path,Lib.itoa d.pos,Lib.itoa d.many,d.lab.data.toList]
def lineT (d:Dee):List UInt8:=joinC 32 (words d)
def lineP (d:Dee):List UInt8 × Nat:=if lineC d≠0 then ([],lineC d) else (lineT d,0)
def chk (d:Dee):Dee × Nat:=if dfault d≠0 then (Dee.zero,dfault d) else (d,0)
def deedW:List (List UInt8)→Dee × Nat
  | [k,p,l]=>if k=wName then (match pathIn p with | none=>(Dee.zero,6) | some q=>chk ⟨1,q,0,0,⟨⟨l⟩⟩⟩) else (Dee.zero,6)
  | [k,p]=>if k=wDelete then (match pathIn p with | none=>(Dee.zero,6) | some q=>chk ⟨2,q,0,0,⟨#[]⟩⟩) else (Dee.zero,6)
  | [k,p,a,m,l]=>if k=wInsert then (match pathIn p with
      | none=>(Dee.zero,6)
      | some q=>match fewN a,fewN m with
        | some x,some y=>chk ⟨3,q,(x:Int),(y:Int),⟨⟨l⟩⟩⟩
        | _,_=>(Dee.zero,6)) else (Dee.zero,6)
  | _=>(Dee.zero,6)
def deedIn (s:List UInt8):Dee × Nat:=deedW (cutC 32 s)
theorem lineC_zero {d:Dee} (h:lineC d=0):dfault d=0∧(∀ x∈d.path,0≤x∧x < 1000)∧(0≤d.pos∧d.pos < 1000)∧0≤d.many∧d.many < 1000:=by
  unfold lineC at h
  by_cases hf:dfault d=0
  · rw [if_neg (by simpa using hf)] at h
    split at h
    · cases h
    · next hn =>
      simp only [not_or,not_exists,not_and] at hn
      obtain ⟨_,_,_,h1,h2,h3,_⟩:=dfault_zero.1 hf
      exact ⟨hf,fun x hx=>⟨h3 x hx,by have:=hn.1 x hx;omega⟩,⟨h1,by omega⟩,h2,by omega⟩
  · rw [if_pos hf] at h;exact absurd h hf
theorem chk_ok {d:Dee} (h:dfault d=0):chk d=(d,0):=by unfold chk;rw [if_neg (by simpa using h)]
theorem chk_fst {d e:Dee} (h:chk d=(e,0)):d=e∧dfault e=0:=by
  unfold chk at h
  by_cases hn:dfault d≠0
  · rw [if_pos hn] at h;exact absurd (congrArg Prod.snd h) hn
  · rw [if_neg hn] at h
    have:=congrArg Prod.fst h
    simp only at this
    subst this
    exact ⟨rfl,by simpa using hn⟩
theorem few_num {s:List UInt8} {n:Nat} (h:fewN s=some n):n < 1000∧Lib.itoa (n:Int)=s:=by
  obtain ⟨h1,h2⟩:=dec_few h
  exact ⟨h1,by unfold Lib.itoa;rw [if_neg (by omega)];exact h2⟩
theorem lineC_is {d:Dee} (hf:dfault d=0) (hp:∀ x∈d.path,x < 1000) (ha:d.pos < 1000) (hm:d.many < 1000):lineC d=0:=by
  unfold lineC
  rw [if_neg (by simpa using hf),if_neg]
  rintro (⟨x,h1,h2⟩ | h | h)
  · have:=hp x h1;omega
  · omega
  · omega
theorem words_back {w:List (List UInt8)} {d:Dee} (h:deedW w=(d,0)):lineC d=0∧words d=w:=by
  unfold deedW at h
  split at h
  · next k p l =>
    split at h
    · next e =>
      split at h
      · cases h
      · next q hq =>
        obtain ⟨rfl,hf⟩:=chk_fst h
        obtain ⟨h1,h2⟩:=back_path hq
        exact ⟨lineC_is hf (fun x hx=>(h2 x hx).2) (show (0:Int) < 1000 by decide) (show (0:Int) < 1000 by decide),by simp [words,h1,e]⟩
    · cases h
  · next k p =>
    split at h
    · next e =>
      split at h
      · cases h
      · next q hq =>
        obtain ⟨rfl,hf⟩:=chk_fst h
        obtain ⟨h1,h2⟩:=back_path hq
        exact ⟨lineC_is hf (fun x hx=>(h2 x hx).2) (show (0:Int) < 1000 by decide) (show (0:Int) < 1000 by decide),by simp [words,h1,e]⟩
    · cases h
  · next k p a m l =>
    split at h
    · next e =>
      split at h
      · cases h
      · next q hq =>
        split at h
        · next x y hx hy =>
          obtain ⟨rfl,hf⟩:=chk_fst h
          obtain ⟨h1,h2⟩:=back_path hq
          obtain ⟨h3,h4⟩:=few_num hx
          obtain ⟨h5,h6⟩:=few_num hy
          exact ⟨lineC_is hf (fun x hx=>(h2 x hx).2) (by show (x:Int) < 1000;omega) (by show (y:Int) < 1000;omega),by simp [words,h1,e,h4,h6]⟩
        · cases h
    · cases h
  · cases h
theorem back_deed {s:List UInt8} {d:Dee} (h:deedIn s=(d,0)):lineC d=0∧lineT d=s:=by
  obtain ⟨h1,h2⟩:=words_back h
  exact ⟨h1,by unfold lineT;rw [h2,join_cut]⟩
def lines:Nat→List Dee→Except (Nat × Nat) (List UInt8)
  | _,[]=>.ok []
  | i,d :: r=>if lineC d≠0 then .error (lineC d,i) else match lines (i+1) r with
    | .error e=>.error e
    | .ok s=>.ok (lineT d ++ 10 :: s)
def printP (ds:List Dee):List UInt8 × Int × Int:=if 80 < ds.length then ([],2,-1) else match lines 0 ds with
  | .error (c,i)=>([],(c:Int),(i:Int))
  | .ok s=>(s,0,0)
def ended:List (List UInt8)→List UInt8
  | []=>[]
  | x :: r=>x ++ 10 :: ended r
theorem ok_lines:∀ (ds:List Dee) (i:Nat),(∀ d∈ds,lineC d=0)→lines i ds=.ok (ended (ds.map lineT))
  | [],i,_=>rfl
  | d :: r,i,h=>by
    rw [lines,if_neg (by simpa using h d (by simp)),ok_lines r (i+1) fun x hx=>h x (by simp [hx])];rfl
theorem ended_ne {l:List (List UInt8)} (h:l≠[]):ended l≠[]:=by
  cases l with
  | nil=>exact absurd rfl h
  | cons x r=>simp [ended]
theorem ok_print {ds:List Dee} (hn:ds.length≤80) (h:∀ d∈ds,lineC d=0):printP ds=(ended (ds.map lineT),0,0):=by
  unfold printP
  rw [if_neg (by omega),ok_lines ds 0 h]
end Go.Proofs.YtdbnfhpgmcjngabGreatDoor
