/- Walks: a path as a text; the program's and the document's. -/
import Derived.Test.YtdbnfhpgmcjngabGreatDoorShb
import Derived.Test.YtdbnfhpgmcjngabGreatDoorBqt
import Derived.Lib.ItoaLen
import Derived.Lib.AtoiAllCases
import Derived.IntWalk
import Derived.Test.YtdbnfhpgmcjngabGreatDoorBmt
namespace Go.Proofs.YtdbnfhpgmcjngabGreatDoor
open Go Go.RowKit
theorem sizeL (s:ByteArray):s.data.toList.length=s.size:=Array.length_toList
theorem baL (a b:ByteArray):(a ++ b).data.toList=a.data.toList ++ b.data.toList:=by simp [ByteArray.data_append]
theorem ba_ext {a:ByteArray} {l:List UInt8} (h:a.data.toList=l):a=⟨⟨l⟩⟩:=by apply ByteArray.ext;apply Array.ext';exact h
def I64 (p:List Int):Prop:=∀ x∈p,-9223372036854775808≤x∧x≤9223372036854775807
def pathPre (p:List Int) (i:Nat):List UInt8:=joinC 46 ((p.take i).map Lib.itoa)
theorem join_snoc (c:UInt8) (y:List UInt8):∀ l:List (List UInt8),l≠[]→joinC c (l ++ [y])=joinC c l ++ c :: y
  | [],h=>absurd rfl h
  | [x],_=>rfl
  | x :: z :: r,_=>by
    have:=join_snoc c y (z :: r) (by simp)
    simp only [List.cons_append,joinC,List.append_assoc] at this ⊢
    rw [this]
theorem pathPre_one (p:List Int) (h:0 < p.length):pathPre p 1=Lib.itoa p[0]:=by
  cases p with
  | nil=>simp at h
  | cons x p=>simp [pathPre,joinC]
theorem pathPre_succ (p:List Int) (i:Nat) (h:i < p.length) (h0:0 < i):pathPre p (i+1)=pathPre p i ++ ([46] ++ Lib.itoa p[i]):=by
  unfold pathPre
  rw [List.take_succ_eq_append_getElem h,List.map_append,List.map_singleton,join_snoc]
  · rfl
  · intro e
    have:=congrArg List.length e
    rw [List.length_map,List.length_take,List.length_nil] at this;omega
theorem pathPre_all (p:List Int) (h:p≠[]):pathPre p p.length=pathTx p:=by
  unfold pathPre pathTx
  rw [List.take_length,if_neg h]
theorem pathPre_le (p:List Int) (hp:I64 p):∀ i,i≤p.length→(pathPre p i).length≤22 * i
  | 0,_=>by simp [pathPre,joinC]
  | i+1,h=>by
    have ih:=pathPre_le p hp i (by omega)
    have hb:=hp p[i] (List.getElem_mem (by omega))
    have hl:=Lib.itoa_length_le p[i] hb.1 hb.2
    by_cases h0:i=0
    · subst h0
      rw [pathPre_one p (by omega)];omega
    · rw [pathPre_succ p i (by omega) (by omega)]
      simp only [List.length_append,List.length_cons,List.length_nil];omega
theorem pathT_le (p:List Int) (hp:I64 p):(pathTx p).length≤22 * p.length+1:=by
  by_cases h:p=[]
  · subst h;simp [pathTx]
  · rw [← pathPre_all p h];have:=pathPre_le p hp p.length (Nat.le_refl _);omega
def TextPost (l:List UInt8) (w:World) (e:Ending) (w':World):Prop:=e=.returned (.string ⟨⟨l⟩⟩)∧Pr w w'
set_option maxRecDepth 100000 in
set_option maxHeartbeats 3200000 in
theorem pathTx_any (p:List Int) (oa cap) (w:World) (hk:Ints Any w p oa cap) (hp:I64 p) (hn:p.length≤100000) (hw:Lv w) :
    Calls Tryz.prog 71 #[.slice oa p.length cap] w (TextPost (pathTx p) w):=by
  have HK:=Lib.hid hk;have HP:=Lib.hid hp;have HW:=Lib.hid hw
  clear hk hp hw
  by_cases hnil:p=[]
  · subst hnil
    go_enter Tryz.func71,Tryz.ntmps71
    go_wp2_with fail
    go_ret
    exact ⟨rfl,Pr.refl _⟩
  · have hpos:0 < p.length:=List.length_pos_iff.2 hnil
    have e0:((p.length:Int)==0)=false:=by simp;omega
    have e1:(p.length==0)=false:=by simp;omega
    have Hnil:=Lib.hid hnil
    clear hnil
    go_enter Tryz.func71,Tryz.ntmps71
    go_wp2_with fail
    go_loopw [3,11] (fun v x wr=>∃ (i:Nat) (b:ByteArray),i≤p.length∧x=.int .i64 i∧v=.string b∧b.data.toList=pathPre p i∧Pr w wr) (fun _ x _=>p.length - (intOf x).toNat)
    case atStart=>exact ⟨0,⟨#[]⟩,by omega,rfl,rfl,rfl,Pr.refl _⟩
    case round =>
      obtain ⟨i,b,hi,rfl,rfl,hb,hpr⟩:=hrel
      have hbs:b.size≤2200000:=by have:=pathPre_le p HP.out i hi;rw [← hb,sizeL] at this;omega
      by_cases hlt:i < p.length
      · obtain ⟨bk,o,rfl,c0⟩:=Ints.get (Flat.pr hpr HK.out) i hlt
        have hbd:=HP.out p[i] (List.getElem_mem hlt)
        have hil:=Lib.itoa_length_le p[i] hbd.1 hbd.2
        have I:=Lib.hid (itoa_any p[i] hbd.1 hbd.2 wr (HW.out.pr hpr))
        by_cases h0:i=0
        · have g0:decide ((0:Int) < (i:Int))=false:=by simp;omega
          have g1:decide (0 < i)=false:=by simp;omega
          have hf:pathPre p (i+1)=Lib.itoa p[i]:=by subst h0;exact pathPre_one p hlt
          have hb0:b=⟨#[]⟩:=ba_ext (by rw [hb,h0];rfl)
          have Hf:=Lib.hid hf;have Hb0:=Lib.hid hb0
          clear hf hb h0 hb0
          go_wp2_with (go_at_call 52;(with_reducible refine Calls.mono I.out ?_);rintro e w5 ⟨rfl,hp5⟩)
          refine ⟨⟨i+1,_,by omega,by go_num,rfl,?_,hpr.trans hp5⟩,by simp [intOf];omega⟩
          rw [Hf.out,Hb0.out,baL];rfl
        · have g0:decide ((0:Int) < (i:Int))=true:=by simp;omega
          have g1:decide (0 < i)=true:=by simp;omega
          have hf:=pathPre_succ p i hlt (by omega)
          have Hf:=Lib.hid hf;have Hb:=Lib.hid hb
          clear hf hb
          go_wp2_with (go_at_call 52;(with_reducible refine Calls.mono I.out ?_);rintro e w5 ⟨rfl,hp5⟩)
          refine ⟨⟨i+1,_,by omega,by go_num,rfl,?_,hpr.trans hp5⟩,by simp [intOf];omega⟩
          rw [Hf.out,baL,baL,Hb.out];simp
      · obtain rfl:i=p.length:=by omega
        have hb':b=⟨⟨pathTx p⟩⟩:=ba_ext (by rw [hb,pathPre_all p Hnil.out])
        subst hb'
        clear hb
        go_wp2_with fail
        go_ret
        exact ⟨rfl,hpr⟩
end Go.Proofs.YtdbnfhpgmcjngabGreatDoor
/- Walks: a small number out of a text; the program's and the document's. -/
namespace Go.Proofs.YtdbnfhpgmcjngabGreatDoor
open Go Go.RowKit
def FewPost (l:List UInt8) (w:World) (e:Ending) (w':World):Prop:=∃ v:Int,e=.returned (.tuple #[.int .i64 v,.bool (fewN l).isSome])∧(∀ n,fewN l=some n→v=(n:Int))∧Pr w w'
set_option maxRecDepth 100000 in
set_option maxHeartbeats 3200000 in
theorem small_any (s:ByteArray) (hs:s.size≤1000000) (w:World) (hw:Lv w) :
    Calls Tryz.prog 57 #[.string s] w (FewPost s.data.toList w):=by
  have HW:=Lib.hid hw
  have hsf:=small_few s.data.toList
  unfold smallP at hsf
  have hno:(∀ v,Lib.atoiAll s.data.toList≠.ok v)→fewN s.data.toList=none→Calls Tryz.prog 57 #[.string s] w (FewPost s.data.toList w):=by
    intro h1 h2
    have A:=Lib.hid (atoi_no s (by omega) h1 w hw)
    have H2:=Lib.hid h2
    clear h1 h2 hsf hw
    go_enter Tryz.func57,Tryz.ntmps57
    go_wp2_with (go_at_call 28;(with_reducible refine Calls.mono A.out ?_);rintro e w5 ⟨⟨v5,T5,p5,rfl⟩,hp5⟩)
    go_ret2
    exact ⟨_,by rw [H2.out];rfl,(by rw [H2.out];intro n h;cases h),hp5⟩
  rcases ha:Lib.atoiAll s.data.toList with v | _ | _
  · clear hno
    have hbd:=Lib.atoiAll_bounds ha
    rw [ha] at hsf
    simp only [] at hsf
    have A:=Lib.hid (atoi_ok s (by omega) v ha w)
    have I:=Lib.hid fun W' (h:Pr w W')=>itoa_any v hbd.1 hbd.2 W' (HW.out.pr h)
    clear ha hw
    by_cases hi:Lib.itoa v=s.data.toList
    · have hb:(Lib.itoa v==s.toList)=true:=by rw [ByteArray.toList_eq,hi];simp
      have Hi:=Lib.hid hi
      by_cases h0:0≤v
      · by_cases h1:v < 1000
        · rw [if_pos ⟨hi,h0,h1⟩] at hsf
          have Hsf:=Lib.hid hsf.symm
          clear hsf hi
          go_enter Tryz.func57,Tryz.ntmps57
          go_wp2_with (first
            | (go_at_call 28;(with_reducible refine Calls.mono A.out ?_);rintro e w5 ⟨rfl,hp5⟩)
            | (go_at_call 52;(with_reducible refine Calls.mono (I.out _ hp5) ?_);rintro e w6 ⟨rfl,hp6⟩))
          go_ret2
          exact ⟨_,by rw [Hsf.out];rfl,(by rw [Hsf.out];intro n h;cases h;omega),hp5.trans hp6⟩
        · rw [if_neg (by rintro ⟨_,_,h⟩;exact h1 h)] at hsf
          have Hsf:=Lib.hid hsf.symm
          clear hsf hi
          have h1':decide (v < 1000)=false:=by simpa using h1
          go_enter Tryz.func57,Tryz.ntmps57
          go_wp2_with (first
            | (go_at_call 28;(with_reducible refine Calls.mono A.out ?_);rintro e w5 ⟨rfl,hp5⟩)
            | (go_at_call 52;(with_reducible refine Calls.mono (I.out _ hp5) ?_);rintro e w6 ⟨rfl,hp6⟩))
          go_ret2
          exact ⟨_,by rw [Hsf.out];rfl,(by rw [Hsf.out];intro n h;cases h),hp5.trans hp6⟩
      · rw [if_neg (by rintro ⟨_,h,_⟩;exact h0 h)] at hsf
        have Hsf:=Lib.hid hsf.symm
        clear hsf hi
        have h0':decide (0≤v)=false:=by simpa using h0
        go_enter Tryz.func57,Tryz.ntmps57
        go_wp2_with (first
          | (go_at_call 28;(with_reducible refine Calls.mono A.out ?_);rintro e w5 ⟨rfl,hp5⟩)
          | (go_at_call 52;(with_reducible refine Calls.mono (I.out _ hp5) ?_);rintro e w6 ⟨rfl,hp6⟩))
        go_ret2
        exact ⟨_,by rw [Hsf.out];rfl,(by rw [Hsf.out];intro n h;cases h),hp5.trans hp6⟩
    · rw [if_neg (by rintro ⟨h,_⟩;exact hi h)] at hsf
      have Hsf:=Lib.hid hsf.symm
      have hb:(Lib.itoa v==s.toList)=false:=by rw [ByteArray.toList_eq];simpa using hi
      clear hsf hi
      go_enter Tryz.func57,Tryz.ntmps57
      go_wp2_with (first
        | (go_at_call 28;(with_reducible refine Calls.mono A.out ?_);rintro e w5 ⟨rfl,hp5⟩)
        | (go_at_call 52;(with_reducible refine Calls.mono (I.out _ hp5) ?_);rintro e w6 ⟨rfl,hp6⟩))
      go_ret2
      exact ⟨_,by rw [Hsf.out];rfl,(by rw [Hsf.out];intro n h;cases h),hp5.trans hp6⟩
  · exact hno (fun v=>by rw [ha];simp) (by rw [ha] at hsf;exact hsf.symm)
  · exact hno (fun v=>by rw [ha];simp) (by rw [ha] at hsf;exact hsf.symm)
end Go.Proofs.YtdbnfhpgmcjngabGreatDoor
/- Walks: texts of one's own; a text, cut (the document's). -/
namespace Go.Proofs.YtdbnfhpgmcjngabGreatDoor
open Go Go.RowKit
theorem under_strs:Tryz.prog.underlying 22=some (.slice 9):=by kernel_rfl
section
variable {ops:Array Oper} {o:Oper} {a:Act} {w:World} {rest:List Oper} {Q:Exit→Act→World→Prop}
end
theorem cut_le (c:UInt8):∀ (l:List UInt8),∀ x∈cutC c l,x.length≤l.length
  | [],x,h=>by simp [cutC] at h;subst h;simp
  | b :: r,x,h=>by
    have ih:=cut_le c r
    by_cases hb:b=c
    · subst hb;rw [cutC_same] at h
      rcases List.mem_cons.1 h with rfl | h
      · simp
      · have:=ih x h;simp;omega
    · rw [cutC_other _ hb] at h
      rcases List.mem_cons.1 h with rfl | h
      · have:=ih ((cutC c r).headD []) (by rw [cutC_split];simp)
        simp only [List.length_cons];omega
      · have:=ih x (by rw [cutC_split];simp [h]);simp;omega
end Go.Proofs.YtdbnfhpgmcjngabGreatDoor
/- Walks: a path out of a text; the program's and the document's. -/
namespace Go.Proofs.YtdbnfhpgmcjngabGreatDoor
open Go Go.RowKit
def PathPost (l:List UInt8) (w:World) (e:Ending) (w':World):Prop:=∃ oa cap,e=.returned (.tuple #[.slice oa ((pathIn l).getD []).length cap,.bool (pathIn l).isSome])∧Ints (From w.heap.size) w' ((pathIn l).getD []) oa cap∧Pr w w'
def PartsPost (ps:List (List UInt8)) (w:World) (e:Ending) (w':World):Prop:=∃ oa cap,e=.returned (.slice oa ps.length cap)∧Strs (From w.heap.size) w' ps oa cap∧Pr w w'
theorem split_parts (s:ByteArray) (c:UInt8) (hs:s.size≤1000000) (w:World) (hw:Lv w):Calls Tryz.prog 19 #[.string s,.string ⟨#[c]⟩] w (PartsPost (cutC c s.data.toList) w) :=
  (split_any s c (by omega) w hw).mono fun _ _ ⟨_,h1,h2,h3⟩=>⟨_,_,h1,h2,h3⟩
def withP (q:List Int):Option (List Int)→Option (List Int) | none=>none | some r=>some (q ++ r)
theorem pathOf_one {l:List (List UInt8)} {i:Nat} (hi:i < l.length) (q:List Int) (n:Nat) (h:fewN l[i]=some n):withP q (pathOf (l.drop i))=withP (q ++ [(n:Int)]) (pathOf (l.drop (i+1))):=by
  rw [List.drop_eq_getElem_cons hi,pathOf,h]
  simp only []
  cases pathOf (l.drop (i+1)) <;> simp [withP]
theorem pathOf_no {l:List (List UInt8)} {i:Nat} (hi:i < l.length) (q:List Int) (h:fewN l[i]=none):withP q (pathOf (l.drop i))=none:=by
  rw [List.drop_eq_getElem_cons hi,pathOf,h];rfl
theorem dash_eq {s:ByteArray}:(s.toList==[45])=true↔s.data.toList=[45]:=by rw [ByteArray.toList_eq];simp
set_option maxRecDepth 100000 in
set_option maxHeartbeats 3200000 in
theorem parsePath_any (s:ByteArray) (hs:s.size≤1000000) (w:World) (hw:Lv w) :
    Calls Tryz.prog 56 #[.string s] w (PathPost s.data.toList w):=by
  have HW:=Lib.hid hw
  clear hw
  by_cases hd:s.data.toList=[45]
  · have hb:(s.toList==[45])=true:=dash_eq.2 hd
    have hp:pathIn s.data.toList=some []:=by unfold pathIn;rw [if_pos hd]
    have Hp:=Lib.hid hp
    have hl:s.toList=[45]:=by rw [ByteArray.toList_eq];exact hd
    clear hd hp
    go_enter Tryz.func56,Tryz.ntmps56
    go_wp2_with fail
    go_ret2
    exact ⟨none,0,by rw [Hp.out];rfl,by rw [Hp.out];exact Flat.nil _ _ _ _ (Nat.zero_le _),Pr.refl _⟩
  · have hb:(s.toList==[45])=false:=by rw [Bool.eq_false_iff];exact fun e=>hd (dash_eq.1 e)
    have Hp0:pathIn s.data.toList=pathOf (cutC 46 s.data.toList):=by unfold pathIn;rw [if_neg hd]
    clear hd
    have hcl:=cut_le 46 s.data.toList
    have hcc:(cutC 46 s.data.toList).length≤1000001:=by
      rw [cut_length];have:=List.count_le_length (a:=(46:UInt8)) (l:=s.data.toList);rw [sizeL] at this;omega
    obtain ⟨ps,hps⟩:∃ ps,ps=cutC 46 s.data.toList:=⟨_,rfl⟩
    have C:=split_parts s 46 hs w HW.out
    rw [← hps] at hcl hcc C Hp0
    have Hp:=Lib.hid Hp0
    have Hcl:=Lib.hid hcl;have C:=Lib.hid C
    clear hcl hps Hp0
    go_enter Tryz.func56,Tryz.ntmps56
    go_wp2_with (go_at_call 19;(with_reducible refine Calls.mono C.out ?_);rintro e w1 ⟨oa,cap,rfl,hst,hp1⟩;refine Hid.out ?_)
    refine Lib.hid ?_
    have HST:=Lib.hid hst;have HP1:=Lib.hid hp1
    have hV:=hp1.size
    clear hst hp1
    go_wp2_with fail
    go_loopw [4,14] (fun v x wr=>∃ (i:Nat) (q:List Int),i≤ps.length∧x=.int .i64 i∧OwnsIs w1.heap.size wr v q∧q.length≤i∧pathOf ps=withP q (pathOf (ps.drop i))∧Pr w1 wr) (fun _ x _=>ps.length - (intOf x).toNat)
    case atStart=>exact ⟨0,[],by omega,rfl,OwnsIs.nil _ _,by simp,by rw [List.drop_zero];cases pathOf ps <;> rfl,Pr.refl _⟩
    case round =>
      obtain ⟨i,q,hi,rfl,ho,hq,hf,hp⟩:=hrel
      have hqn:q.length≤1000000000:=by omega
      by_cases hlt:i < ps.length
      · obtain ⟨bk,o,rfl,c0⟩:=Strs.get (Flat.pr hp HST.out) i hlt
        have hsz:(⟨⟨ps[i]⟩⟩:ByteArray).size≤1000000:=by
          have h1:=Hcl.out ps[i] (List.getElem_mem _)
          rw [sizeL] at h1
          have h2:(⟨⟨ps[i]⟩⟩:ByteArray).size=ps[i].length:=rfl
          omega
        have F:=Lib.hid (small_any ⟨⟨ps[i]⟩⟩ hsz wr (HW.out.pr (HP1.out.trans hp)))
        cases hfw:fewN ps[i] with
        | none =>
          have hno:=pathOf_no hlt q hfw
          rw [← hf] at hno
          have Hno:=Lib.hid hno;have Hfw:=Lib.hid hfw
          clear hno hfw hf
          go_wp2_with (go_at_call 57;(with_reducible refine Calls.mono F.out ?_);rintro e w5 ⟨v5,rfl,hv5,hp5⟩;rw [Hfw.out])
          go_ret2
          exact ⟨none,0,by rw [Hp.out,Hno.out];rfl,by rw [Hp.out,Hno.out];exact Flat.nil _ _ _ _ (Nat.zero_le _),(HP1.out.trans hp).trans hp5⟩
        | some n =>
          have hst:=pathOf_one hlt q n hfw
          rw [← hf] at hst
          have Hst:=Lib.hid hst;have Hfw:=Lib.hid hfw
          clear hst hfw hf
          go_wp2_with (first
            | (go_at_call 57;(with_reducible refine Calls.mono F.out ?_);rintro e w5 ⟨v5,rfl,hv5,hp5⟩;obtain rfl:=hv5 n Hfw.out;rw [Hfw.out])
            | (at_builtin;go_must (refine app_int rfl _ _ rfl w1.heap.size _ q rfl ((ho.pr hp5).pr (Pr.alloc _ _)) w5.heap.size rfl (n:Int) (heap_alloc_new w5 _) hqn (by have:=hp.size;have:=hp5.size;simp;omega) ?_);intro g4 c4 w6 ho4 hg4 hd4))
          refine ⟨⟨i+1,q ++ [(n:Int)],by omega,by go_num,ho4,by simp;omega,Hst.out,?_⟩,by simp [intOf];omega⟩
          exact Below.grown ((hp.trans hp5).alloc' _) hg4 (by have:=hp.size;have:=hp5.size;simp;omega) (fun k hk=>(ho.block k hk).1)
      · have hks:i=ps.length:=by omega
        have hdr:ps.drop i=[]:=by rw [List.drop_eq_nil_iff];omega
        have hend:pathOf ps=some q:=by rw [hf,hdr];simp [pathOf,withP]
        have Hend:=Lib.hid hend
        have d1:decide ((i:Int) < ps.length)=false:=by simp;omega
        have d3:decide (i < ps.length)=false:=by simp;omega
        obtain ⟨oa5,cap5,rfl,h5⟩:=ho.ints
        have H5:=Lib.hid h5
        clear hks hdr hend hf h5
        go_wp2_with fail
        go_ret2
        exact ⟨oa5,cap5,by rw [Hp.out,Hend.out];rfl,by rw [Hp.out,Hend.out];exact H5.out.mono (fun k hk _=>Nat.le_trans hV hk),HP1.out.trans hp⟩
end Go.Proofs.YtdbnfhpgmcjngabGreatDoor
