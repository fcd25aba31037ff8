/- Plain: deeds as lines. No program here. -/
import Derived.Test.YtdbnfhpgmcjngadGreatDoorBpl
import Derived.Lib.ItoaNum
import Derived.Lib.AtoiAll
import Derived.Lib.Atoi
namespace Go.Proofs.YtdbnfhpgmcjngadGreatDoor
open Go
def joinC (c:UInt8):List (List UInt8)→List UInt8
  | []=>[]
  | [x]=>x
  | x :: y :: r=>x ++ c :: joinC c (y :: r)
def cutC (c:UInt8):List UInt8→List (List UInt8)
  | []=>[[]]
  | b :: r=>if b=c then [] :: cutC c r else ((cutC c r).headD [] |>.cons b) :: (cutC c r).tail
theorem cutC_ne (c:UInt8):∀ s,cutC c s≠[]
  | []=>by simp [cutC]
  | b :: r=>by unfold cutC;split <;> simp
theorem cutC_same (c:UInt8) (r:List UInt8):cutC c (c :: r)=[] :: cutC c r:=by rw [cutC,if_pos rfl]
theorem cutC_other {b c:UInt8} (r:List UInt8) (h:b≠c):cutC c (b :: r)=(b :: (cutC c r).headD []) :: (cutC c r).tail:=by rw [cutC,if_neg h]
theorem cutC_split (c:UInt8) (s:List UInt8):cutC c s=(cutC c s).headD [] :: (cutC c s).tail:=by
  cases h:cutC c s with
  | nil=>exact absurd h (cutC_ne c s)
  | cons x r=>rfl
theorem cutC_part {c:UInt8}:∀ (x r:List UInt8),c ∉ x→cutC c (x ++ c :: r)=x :: cutC c r
  | [],r,_=>cutC_same c r
  | b :: x,r,h=>by
    simp only [List.mem_cons,not_or] at h
    rw [List.cons_append,cutC_other _ (fun e=>h.1 e.symm),cutC_part x r h.2];rfl
theorem cutC_whole {c:UInt8}:∀ x:List UInt8,c ∉ x→cutC c x=[x]
  | [],_=>rfl
  | b :: x,h=>by
    simp only [List.mem_cons,not_or] at h
    rw [cutC_other _ (fun e=>h.1 e.symm),cutC_whole x h.2];rfl
theorem cut_join {c:UInt8}:∀ xs:List (List UInt8),xs≠[]→(∀ x∈xs,c ∉ x)→cutC c (joinC c xs)=xs
  | [],h,_=>absurd rfl h
  | [x],_,h=>cutC_whole x (h x (by simp))
  | x :: y :: r,_,h=>by
    rw [joinC,cutC_part x _ (h x (by simp)),cut_join (y :: r) (by simp) fun z hz=>h z (by simp [hz])]
theorem cut_length (c:UInt8):∀ s:List UInt8,(cutC c s).length=s.count c+1
  | []=>rfl
  | b :: r=>by
    by_cases hb:b=c
    · subst hb;rw [cutC_same,List.length_cons,cut_length b r,List.count_cons_self]
    · rw [cutC_other _ hb,List.length_cons,List.length_tail,cut_length c r,List.count_cons_of_ne hb];omega
theorem cut_snoc (c b:UInt8):∀ s:List UInt8,cutC c (s ++ [b])=if b=c then cutC c s ++ [[]] else (cutC c s).dropLast ++ [(cutC c s).getLastD [] ++ [b]]
  | []=>by
    by_cases h:b=c
    · subst h;simp [cutC]
    · simp [cutC,h]
  | a :: r=>by
    have hr:=cut_snoc c b r
    have hs:=cutC_split c r
    generalize hx:(cutC c r).headD []=x at *
    generalize ht:(cutC c r).tail=t at *
    by_cases ha:a=c
    · subst ha
      rw [List.cons_append,cutC_same,cutC_same,hr,hs]
      by_cases h:b=a
      · rw [if_pos h,if_pos h];rfl
      · rw [if_neg h,if_neg h];rfl
    · rw [List.cons_append,cutC_other _ ha,cutC_other _ ha,hx,ht,hr,hs]
      by_cases h:b=c
      · rw [if_pos h,if_pos h];rfl
      · rw [if_neg h,if_neg h]
        cases t with
        | nil=>rfl
        | cons y t=>rfl
def pathTx (p:List Int):List UInt8:=if p=[] then [45] else joinC 46 (p.map Lib.itoa)
def fewN (s:List UInt8):Option Nat:=if s.length < 1∨3 < s.length∨(s.head? = some 48∧1 < s.length) then none else Lib.decNat s
theorem few_dec:∀ n:Fin 1000,fewN (Lib.decDigits n.val)=some n.val:=by decide +kernel
theorem few_itoa {n:Int} (h0:0≤n) (h1:n < 1000):fewN (Lib.itoa n)=some n.toNat:=by
  have:=few_dec ⟨n.toNat,by omega⟩
  unfold Lib.itoa
  rw [if_neg (by omega)];exact this
theorem dec_few1:∀ a:Fin 10,Lib.decDigits a.val=[UInt8.ofNat (48+a.val)]:=by decide +kernel
theorem dec_few2:∀ a b:Fin 10,a.val≠0→Lib.decDigits (a.val * 10+b.val)=[UInt8.ofNat (48+a.val),UInt8.ofNat (48+b.val)]:=by decide +kernel
theorem dec_few3:∀ a b c:Fin 10,a.val≠0→Lib.decDigits ((a.val * 10+b.val) * 10+c.val)=[UInt8.ofNat (48+a.val),UInt8.ofNat (48+b.val),UInt8.ofNat (48+c.val)]:=by decide +kernel
theorem digit_is {b:UInt8} {d:Nat} (h:Lib.digitVal b=some d):d < 10∧b=UInt8.ofNat (48+d):=by
  obtain ⟨h1,h2,h3⟩:=Lib.digitVal_eq h
  refine ⟨by omega,?_⟩
  rw [show 48+d=b.toNat by omega];simp
theorem dec_few {s:List UInt8} {n:Nat} (h:fewN s=some n):n < 1000∧Lib.decDigits n=s:=by
  unfold fewN at h
  split at h
  · cases h
  · next hn =>
    simp only [not_or,not_and] at hn
    obtain ⟨hl1,hl3,hz⟩:=hn
    match s,hl1,hl3,hz,h with
    | [],hl1,_,_,_=>simp at hl1
    | [a],_,_,_,h =>
      simp only [Lib.decNat,Lib.decFrom,List.isEmpty_cons] at h
      cases ha:Lib.digitVal a with
      | none=>simp [ha] at h
      | some d =>
        simp [ha] at h
        obtain ⟨h1,h2⟩:=digit_is ha
        subst h
        exact ⟨by omega,by rw [h2];exact dec_few1 ⟨d,h1⟩⟩
    | [a,b],_,_,hz,h =>
      simp only [Lib.decNat,Lib.decFrom,List.isEmpty_cons] at h
      cases ha:Lib.digitVal a with
      | none=>simp [ha] at h
      | some d =>
        cases hb:Lib.digitVal b with
        | none=>simp [ha,hb] at h
        | some e =>
          simp [ha,hb] at h
          obtain ⟨h1,h2⟩:=digit_is ha
          obtain ⟨h3,h4⟩:=digit_is hb
          have hd:d≠0:=by rintro rfl;exact hz (by rw [h2];rfl) (by simp)
          subst h
          exact ⟨by omega,by rw [h2,h4];exact dec_few2 ⟨d,h1⟩ ⟨e,h3⟩ hd⟩
    | [a,b,c],_,_,hz,h =>
      simp only [Lib.decNat,Lib.decFrom,List.isEmpty_cons] at h
      cases ha:Lib.digitVal a with
      | none=>simp [ha] at h
      | some d =>
        cases hb:Lib.digitVal b with
        | none=>simp [ha,hb] at h
        | some e =>
          cases hc:Lib.digitVal c with
          | none=>simp [ha,hb,hc] at h
          | some f =>
            simp [ha,hb,hc] at h
            obtain ⟨h1,h2⟩:=digit_is ha
            obtain ⟨h3,h4⟩:=digit_is hb
            obtain ⟨h5,h6⟩:=digit_is hc
            have hd:d≠0:=by rintro rfl;exact hz (by rw [h2];rfl) (by simp)
            subst h
            exact ⟨by omega,by rw [h2,h4,h6];exact dec_few3 ⟨d,h1⟩ ⟨e,h3⟩ ⟨f,h5⟩ hd⟩
    | a :: b :: c :: d :: r,_,hl3,_,_=>simp at hl3
theorem atoi_dec:∀ n:Fin 1000,Lib.atoiAll (Lib.decDigits n.val)=.ok (n.val:Int):=by decide +kernel
def smallP (s:List UInt8):Option Nat:=match Lib.atoiAll s with
  | .ok n=>if Lib.itoa n=s∧0≤n∧n < 1000 then some n.toNat else none
  | _=>none
theorem small_few (s:List UInt8):smallP s=fewN s:=by
  cases hf:fewN s with
  | some n =>
    obtain ⟨h1,h2⟩:=dec_few hf
    have:=atoi_dec ⟨n,h1⟩
    simp only [h2] at this
    unfold smallP
    rw [this]
    simp only []
    rw [if_pos ⟨by rw [← h2];unfold Lib.itoa;rw [if_neg (by omega)];rfl,by omega,by omega⟩];rfl
  | none =>
    unfold smallP
    rcases ha:Lib.atoiAll s with n | _ | _
    · simp only []
      by_cases h:Lib.itoa n=s∧0≤n∧n < 1000
      · have:=few_itoa h.2.1 h.2.2
        rw [h.1,hf] at this;cases this
      · rw [if_neg h]
    · rfl
    · rfl
def pathOf:List (List UInt8)→Option (List Int)
  | []=>some []
  | x :: r=>match fewN x with
    | none=>none
    | some n=>match pathOf r with
      | none=>none
      | some p=>some ((n:Int) :: p)
def pathIn (s:List UInt8):Option (List Int):=if s=[45] then some [] else pathOf (cutC 46 s)
theorem path_of:∀ p:List Int,(∀ x∈p,0≤x∧x < 1000)→pathOf (p.map Lib.itoa)=some p
  | [],_=>rfl
  | x :: p,h=>by
    have hx:=h x (by simp)
    rw [List.map_cons,pathOf,few_itoa hx.1 hx.2]
    simp only []
    rw [path_of p fun y hy=>h y (by simp [hy])]
    simp only []
    rw [show ((x.toNat:Nat):Int)=x by omega]
theorem dig_byte {d:Nat} (h:d < 10):48≤(UInt8.ofNat (48+d)).toNat∧(UInt8.ofNat (48+d)).toNat≤57:=by
  rw [UInt8.toNat_ofNat'];omega
theorem dec_bytes (u:Nat):∀ b∈Lib.decDigits u,48≤b.toNat∧b.toNat≤57:=by
  induction u using Nat.strongRecOn with
  | _ u ih =>
    intro b hb
    rw [Lib.decDigits] at hb
    split at hb
    · next h=>rw [List.mem_singleton] at hb;subst hb;exact dig_byte h
    · next h =>
      rcases List.mem_append.1 hb with hb | hb
      · exact ih (u / 10) (by omega) b hb
      · rw [List.mem_singleton] at hb;subst hb;exact dig_byte (by omega)
theorem itoa_bytes {n:Int} (h:0≤n):∀ b∈Lib.itoa n,48≤b.toNat∧b.toNat≤57:=by
  unfold Lib.itoa;rw [if_neg (by omega)];exact dec_bytes _
theorem mem_join {c:UInt8}:∀ {l:List (List UInt8)} {b:UInt8},b∈joinC c l→b=c∨∃ x∈l,b∈x
  | [],b,h=>by simp [joinC] at h
  | [x],b,h=>.inr ⟨x,by simp,h⟩
  | x :: y :: r,b,h=>by
    rw [joinC] at h
    rcases List.mem_append.1 h with h | h
    · exact .inr ⟨x,by simp,h⟩
    · rcases List.mem_cons.1 h with rfl | h
      · exact .inl rfl
      · rcases mem_join h with h | ⟨z,h1,h2⟩
        · exact .inl h
        · exact .inr ⟨z,by simp [h1],h2⟩
theorem path_bytes {p:List Int} (h:∀ x∈p,0≤x):∀ b∈pathTx p,b.toNat=45∨b.toNat=46∨(48≤b.toNat∧b.toNat≤57):=by
  intro b hb
  unfold pathTx at hb
  split at hb
  · simp at hb;subst hb;exact .inl rfl
  · rcases mem_join hb with rfl | ⟨x,h1,h2⟩
    · exact .inr (.inl rfl)
    · obtain ⟨n,hn,rfl⟩:=List.mem_map.1 h1
      exact .inr (.inr (itoa_bytes (h n hn) b h2))
theorem path_back {p:List Int} (h:∀ x∈p,0≤x∧x < 1000):pathIn (pathTx p)=some p:=by
  unfold pathIn pathTx
  by_cases hp:p=[]
  · subst hp;simp
  · rw [if_neg hp]
    have hc:=cut_join (c:=46) (p.map Lib.itoa) (by simpa using hp) (by
      intro x hx hm
      obtain ⟨n,hn,rfl⟩:=List.mem_map.1 hx
      have:=itoa_bytes (h n hn).1 46 hm
      simp at this)
    rw [if_neg ?_,hc,path_of p h]
    intro e
    rw [e] at hc
    have h2:cutC 46 [45]=[[45]]:=by decide
    rw [h2] at hc
    cases p with
    | nil=>exact hp rfl
    | cons n p =>
      simp only [List.map_cons,List.cons.injEq] at hc
      have:=itoa_bytes (h n (by simp)).1 45 (by rw [← hc.1];simp)
      simp at this
def wName:List UInt8:=[110,97,109,101]
def wDelete:List UInt8:=[100,101,108,101,116,101]
def wInsert:List UInt8:=[105,110,115,101,114,116]
def lineC (d:Dee):Nat:=if dfault d≠0 then dfault d else if (∃ x∈d.path,999 < x)∨999 < d.pos∨999 < d.many then 9 else 0
def words (d:Dee):List (List UInt8) :=
  if d.kind=1 then [wName,pathTx d.path,d.lab.data.toList]
  else if d.kind=2 then [wDelete,pathTx d.path]
  else [wInsert,pathTx d.path,Lib.itoa d.pos,Lib.itoa d.many,d.lab.data.toList]
def lineT (d:Dee):List UInt8:=joinC 32 (words d)
def lineP (d:Dee):List UInt8 × Nat:=if lineC d≠0 then ([],lineC d) else (lineT d,0)
def chk (d:Dee):Dee × Nat:=if dfault d≠0 then (Dee.zero,dfault d) else (d,0)
def deedW:List (List UInt8)→Dee × Nat
  | [k,p,l]=>if k=wName then (match pathIn p with | none=>(Dee.zero,6) | some q=>chk ⟨1,q,0,0,⟨⟨l⟩⟩⟩) else (Dee.zero,6)
  | [k,p]=>if k=wDelete then (match pathIn p with | none=>(Dee.zero,6) | some q=>chk ⟨2,q,0,0,⟨#[]⟩⟩) else (Dee.zero,6)
  | [k,p,a,m,l]=>if k=wInsert then (match pathIn p with
      | none=>(Dee.zero,6)
      | some q=>match fewN a,fewN m with
        | some x,some y=>chk ⟨3,q,(x:Int),(y:Int),⟨⟨l⟩⟩⟩
        | _,_=>(Dee.zero,6)) else (Dee.zero,6)
  | _=>(Dee.zero,6)
def deedIn (s:List UInt8):Dee × Nat:=deedW (cutC 32 s)
theorem lineC_zero {d:Dee} (h:lineC d=0):dfault d=0∧(∀ x∈d.path,0≤x∧x < 1000)∧(0≤d.pos∧d.pos < 1000)∧0≤d.many∧d.many < 1000:=by
  unfold lineC at h
  by_cases hf:dfault d=0
  · rw [if_neg (by simpa using hf)] at h
    split at h
    · cases h
    · next hn =>
      simp only [not_or,not_exists,not_and] at hn
      obtain ⟨_,_,_,h1,h2,h3,_⟩:=dfault_zero.1 hf
      exact ⟨hf,fun x hx=>⟨h3 x hx,by have:=hn.1 x hx;omega⟩,⟨h1,by omega⟩,h2,by omega⟩
  · rw [if_pos hf] at h;exact absurd h hf
theorem lab_back (l:ByteArray):(⟨⟨l.data.toList⟩⟩:ByteArray)=l:=by apply ByteArray.ext;rfl
theorem lab_no {l:ByteArray} (h:isLab l=true) {c:UInt8} (hc:okC c=false):c ∉ l.data.toList:=by
  intro hm
  rw [isLab_eq] at h
  simp only [Bool.and_eq_true,List.all_eq_true] at h
  rw [h.1 c hm] at hc;cases hc
theorem words_no {d:Dee} (h:lineC d=0) {c:UInt8} (hc:c=32∨c=10):∀ x∈words d,c ∉ x:=by
  obtain ⟨hf,hp,ha,hm0,hm1⟩:=lineC_zero h
  obtain ⟨hk,_,h2,_,_,_,hl⟩:=dfault_zero.1 hf
  have hc2:okC c=false:=by rcases hc with rfl | rfl <;> decide
  have hcn:c.toNat=32∨c.toNat=10:=by rcases hc with rfl | rfl <;> simp
  have hpath:c ∉ pathTx d.path:=fun hm=>by
    have:=path_bytes (fun x hx=>(hp x hx).1) c hm;omega
  have hnum:∀ n:Int,0≤n→c ∉ Lib.itoa n:=fun n hn hm=>by
    have:=itoa_bytes hn c hm;omega
  intro x hx
  unfold words at hx
  split at hx
  · next hk1 =>
    simp at hx
    rcases hx with rfl | rfl | rfl
    · rcases hc with rfl | rfl <;> decide
    · exact hpath
    · exact lab_no (hl (by omega)) hc2
  · split at hx
    · simp at hx
      rcases hx with rfl | rfl
      · rcases hc with rfl | rfl <;> decide
      · exact hpath
    · simp at hx
      rcases hx with rfl | rfl | rfl | rfl | rfl
      · rcases hc with rfl | rfl <;> decide
      · exact hpath
      · exact hnum _ ha.1
      · exact hnum _ hm0
      · exact lab_no (hl (by omega)) hc2
theorem words_ne (d:Dee):words d≠[]:=by
  unfold words
  split
  · simp
  · split <;> simp
theorem chk_ok {d:Dee} (h:dfault d=0):chk d=(d,0):=by unfold chk;rw [if_neg (by simpa using h)]
theorem deed_words {d:Dee} (h:lineC d=0):deedW (words d)=(d,0):=by
  obtain ⟨hf,hp,ha,hm0,hm1⟩:=lineC_zero h
  obtain ⟨hk,h3,h2,_,_,_,_⟩:=dfault_zero.1 hf
  have hpb:=path_back hp
  have hck:=chk_ok hf
  obtain ⟨k,p,a,m,l⟩:=d
  simp only at *
  unfold words
  simp only
  rcases (show k=1∨k=2∨k=3 by omega) with rfl | rfl | rfl
  · obtain ⟨rfl,rfl⟩:=h3 (by decide)
    rw [if_pos rfl];simp only [deedW];rw [if_pos trivial,hpb]
    simp only [lab_back];exact hck
  · obtain ⟨rfl,rfl⟩:=h3 (by decide)
    obtain ⟨rfl,_⟩:=h2 rfl
    rw [if_neg (by decide),if_pos rfl];simp only [deedW];rw [if_pos trivial,hpb]
    exact hck
  · rw [if_neg (by decide),if_neg (by decide)];simp only [deedW];rw [if_pos trivial,hpb]
    simp only [few_itoa ha.1 ha.2,few_itoa hm0 hm1,lab_back]
    rw [show ((a.toNat:Nat):Int)=a by omega,show ((m.toNat:Nat):Int)=m by omega];exact hck
theorem deed_back {d:Dee} (h:lineC d=0):deedIn (lineT d)=(d,0):=by
  unfold deedIn lineT
  rw [cut_join _ (words_ne d) (words_no h (.inl rfl)),deed_words h]
theorem line_no {d:Dee} (h:lineC d=0):(10:UInt8) ∉ lineT d:=by
  intro hm
  rcases mem_join hm with h1 | ⟨x,h1,h2⟩
  · cases h1
  · exact words_no h (.inr rfl) x h1 h2
theorem lineC_is {d:Dee} (hf:dfault d=0) (hp:∀ x∈d.path,x < 1000) (ha:d.pos < 1000) (hm:d.many < 1000):lineC d=0:=by
  unfold lineC
  rw [if_neg (by simpa using hf),if_neg]
  rintro (⟨x,h1,h2⟩ | h | h)
  · have:=hp x h1;omega
  · omega
  · omega
def lines:Nat→List Dee→Except (Nat × Nat) (List UInt8)
  | _,[]=>.ok []
  | i,d :: r=>if lineC d≠0 then .error (lineC d,i) else match lines (i+1) r with
    | .error e=>.error e
    | .ok s=>.ok (lineT d ++ 10 :: s)
def printP (ds:List Dee):List UInt8 × Int × Int:=if 80 < ds.length then ([],2,-1) else match lines 0 ds with
  | .error (c,i)=>([],(c:Int),(i:Int))
  | .ok s=>(s,0,0)
def deedsW:Nat→List (List UInt8)→Except (Nat × Nat) (List Dee)
  | _,[]=>.ok []
  | i,x :: r=>if (deedIn x).2≠0 then .error ((deedIn x).2,i) else match deedsW (i+1) r with
    | .error e=>.error e
    | .ok ds=>.ok ((deedIn x).1 :: ds)
def readP (s:List UInt8):List Dee × Int × Int :=
  if s=[] then ([],0,0)
  else if (cutC 10 s).getLastD []≠[] then ([],5,((cutC 10 s).length:Int) - 1)
  else if 80 < (cutC 10 s).dropLast.length then ([],2,-1)
  else match deedsW 0 (cutC 10 s).dropLast with
    | .error (c,i)=>([],(c:Int),(i:Int))
    | .ok ds=>(ds,0,0)
def ended:List (List UInt8)→List UInt8
  | []=>[]
  | x :: r=>x ++ 10 :: ended r
theorem cut_ended:∀ l:List (List UInt8),(∀ x∈l,(10:UInt8) ∉ x)→cutC 10 (ended l)=l ++ [[]]
  | [],_=>rfl
  | x :: r,h=>by rw [ended,cutC_part x _ (h x (by simp)),cut_ended r fun y hy=>h y (by simp [hy])];rfl
theorem lines_ok:∀ (ds:List Dee) (i:Nat) {s:List UInt8},lines i ds=.ok s→s=ended (ds.map lineT)∧∀ d∈ds,lineC d=0
  | [],i,s,h=>by simp [lines] at h;subst h;exact ⟨rfl,by simp⟩
  | d :: r,i,s,h=>by
    rw [lines] at h
    split at h
    · cases h
    · next hc =>
      cases hl:lines (i+1) r with
      | error e=>rw [hl] at h;cases h
      | ok t =>
        rw [hl] at h
        cases h
        obtain ⟨h1,h2⟩:=lines_ok r (i+1) hl
        refine ⟨by rw [h1];rfl,fun x hx=>?_⟩
        rcases List.mem_cons.1 hx with rfl | hx
        · simpa using hc
        · exact h2 x hx
theorem ok_lines:∀ (ds:List Dee) (i:Nat),(∀ d∈ds,lineC d=0)→lines i ds=.ok (ended (ds.map lineT))
  | [],i,_=>rfl
  | d :: r,i,h=>by
    rw [lines,if_neg (by simpa using h d (by simp)),ok_lines r (i+1) fun x hx=>h x (by simp [hx])];rfl
theorem ok_deeds:∀ (ds:List Dee) (i:Nat),(∀ d∈ds,lineC d=0)→deedsW i (ds.map lineT)=.ok ds
  | [],i,_=>rfl
  | d :: r,i,h=>by
    have hd:=deed_back (h d (by simp))
    rw [List.map_cons,deedsW,hd,if_neg (by simp),ok_deeds r (i+1) fun x hx=>h x (by simp [hx])]
theorem ended_ne {l:List (List UInt8)} (h:l≠[]):ended l≠[]:=by
  cases l with
  | nil=>exact absurd rfl h
  | cons x r=>simp [ended]
theorem lines_err:∀ (ds:List Dee) (i:Nat) {e},lines i ds=.error e→e.1≠0
  | [],i,e,h=>by simp [lines] at h
  | d :: r,i,e,h=>by
    rw [lines] at h
    split at h
    · next hc=>cases h;exact hc
    · cases hl:lines (i+1) r with
      | error e=>rw [hl] at h;cases h;exact lines_err r (i+1) hl
      | ok t=>rw [hl] at h;cases h
theorem print_ok {ds:List Dee} (h:(printP ds).2.1=0):ds.length≤80∧(∀ d∈ds,lineC d=0)∧printP ds=(ended (ds.map lineT),0,0):=by
  unfold printP at h ⊢
  split at h
  · cases h
  · next hn =>
    rw [if_neg hn]
    cases hl:lines 0 ds with
    | error e =>
      rw [hl] at h
      have:=lines_err ds 0 hl
      simp only at h;omega
    | ok t =>
      obtain ⟨h1,h2⟩:=lines_ok ds 0 hl
      subst h1
      exact ⟨by omega,h2,rfl⟩
theorem ok_print {ds:List Dee} (hn:ds.length≤80) (h:∀ d∈ds,lineC d=0):printP ds=(ended (ds.map lineT),0,0):=by
  unfold printP
  rw [if_neg (by omega),ok_lines ds 0 h]
theorem print_back {ds:List Dee} (h:(printP ds).2.1=0):readP (printP ds).1=(ds,0,0):=by
  obtain ⟨hn,h2,h3⟩:=print_ok h
  rw [h3]
  unfold readP
  by_cases hd:ds=[]
  · subst hd;rfl
  · rw [if_neg (ended_ne (by simpa using hd)),cut_ended _ (by
      intro x hx
      obtain ⟨d,h3,rfl⟩:=List.mem_map.1 hx
      exact line_no (h2 d h3))]
    rw [if_neg (by simp),if_neg (by simpa using hn),List.dropLast_concat,ok_deeds ds 0 h2]
end Go.Proofs.YtdbnfhpgmcjngadGreatDoor
