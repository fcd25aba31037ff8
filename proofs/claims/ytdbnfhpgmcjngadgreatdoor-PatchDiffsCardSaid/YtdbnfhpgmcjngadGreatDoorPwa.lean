/- Walks: a path as a text; the program's and the document's. -/
import Derived.Test.YtdbnfhpgmcjngadGreatDoorShb
import Derived.Test.YtdbnfhpgmcjngadGreatDoorBqt
import Derived.Lib.ItoaLen
namespace Go.Proofs.YtdbnfhpgmcjngadGreatDoor
open Go Go.RowKit
theorem sizeL (s:ByteArray):s.data.toList.length=s.size:=Array.length_toList
theorem baL (a b:ByteArray):(a ++ b).data.toList=a.data.toList ++ b.data.toList:=by simp [ByteArray.data_append]
theorem str_no {s:ByteArray} (h:s.data.toList≠[]):s.toList≠[]∧s.toList.isEmpty=false∧(s.toList==[])=false:=by
  have h1:s.toList≠[]:=by
    intro e
    exact h (by rw [ByteArray.toList_eq] at e;exact e)
  exact ⟨h1,by simpa using h1,by simpa using h1⟩
theorem ba_ext {a:ByteArray} {l:List UInt8} (h:a.data.toList=l):a=⟨⟨l⟩⟩:=by apply ByteArray.ext;apply Array.ext';exact h
def I64 (p:List Int):Prop:=∀ x∈p,-9223372036854775808≤x∧x≤9223372036854775807
def pathPre (p:List Int) (i:Nat):List UInt8:=joinC 46 ((p.take i).map Lib.itoa)
theorem join_snoc (c:UInt8) (y:List UInt8):∀ l:List (List UInt8),l≠[]→joinC c (l ++ [y])=joinC c l ++ c :: y
  | [],h=>absurd rfl h
  | [x],_=>rfl
  | x :: z :: r,_=>by
    have:=join_snoc c y (z :: r) (by simp)
    simp only [List.cons_append,joinC,List.append_assoc] at this ⊢
    rw [this]
theorem pathPre_one (p:List Int) (h:0 < p.length):pathPre p 1=Lib.itoa p[0]:=by
  cases p with
  | nil=>simp at h
  | cons x p=>simp [pathPre,joinC]
theorem pathPre_succ (p:List Int) (i:Nat) (h:i < p.length) (h0:0 < i):pathPre p (i+1)=pathPre p i ++ ([46] ++ Lib.itoa p[i]):=by
  unfold pathPre
  rw [List.take_succ_eq_append_getElem h,List.map_append,List.map_singleton,join_snoc]
  · rfl
  · intro e
    have:=congrArg List.length e
    rw [List.length_map,List.length_take,List.length_nil] at this;omega
theorem pathPre_all (p:List Int) (h:p≠[]):pathPre p p.length=pathTx p:=by
  unfold pathPre pathTx
  rw [List.take_length,if_neg h]
theorem pathPre_le (p:List Int) (hp:I64 p):∀ i,i≤p.length→(pathPre p i).length≤22 * i
  | 0,_=>by simp [pathPre,joinC]
  | i+1,h=>by
    have ih:=pathPre_le p hp i (by omega)
    have hb:=hp p[i] (List.getElem_mem (by omega))
    have hl:=Lib.itoa_length_le p[i] hb.1 hb.2
    by_cases h0:i=0
    · subst h0
      rw [pathPre_one p (by omega)];omega
    · rw [pathPre_succ p i (by omega) (by omega)]
      simp only [List.length_append,List.length_cons,List.length_nil];omega
theorem pathT_le (p:List Int) (hp:I64 p):(pathTx p).length≤22 * p.length+1:=by
  by_cases h:p=[]
  · subst h;simp [pathTx]
  · rw [← pathPre_all p h];have:=pathPre_le p hp p.length (Nat.le_refl _);omega
def TextPost (l:List UInt8) (w:World) (e:Ending) (w':World):Prop:=e=.returned (.string ⟨⟨l⟩⟩)∧Pr w w'
set_option maxRecDepth 100000 in
set_option maxHeartbeats 3200000 in
theorem pathTx_any (p:List Int) (oa cap) (w:World) (hk:Ints Any w p oa cap) (hp:I64 p) (hn:p.length≤100000) (hw:Lv w) :
    Calls Tryz.prog 77 #[.slice oa p.length cap] w (TextPost (pathTx p) w):=by
  have HK:=Lib.hid hk;have HP:=Lib.hid hp;have HW:=Lib.hid hw
  clear hk hp hw
  by_cases hnil:p=[]
  · subst hnil
    go_enter Tryz.func77,Tryz.ntmps77
    go_wp2_with fail
    go_ret
    exact ⟨rfl,Pr.refl _⟩
  · have hpos:0 < p.length:=List.length_pos_iff.2 hnil
    have e0:((p.length:Int)==0)=false:=by simp;omega
    have e1:(p.length==0)=false:=by simp;omega
    have Hnil:=Lib.hid hnil
    clear hnil
    go_enter Tryz.func77,Tryz.ntmps77
    go_wp2_with fail
    go_loopw [3,11] (fun v x wr=>∃ (i:Nat) (b:ByteArray),i≤p.length∧x=.int .i64 i∧v=.string b∧b.data.toList=pathPre p i∧Pr w wr) (fun _ x _=>p.length - (intOf x).toNat)
    case atStart=>exact ⟨0,⟨#[]⟩,by omega,rfl,rfl,rfl,Pr.refl _⟩
    case round =>
      obtain ⟨i,b,hi,rfl,rfl,hb,hpr⟩:=hrel
      have hbs:b.size≤2200000:=by have:=pathPre_le p HP.out i hi;rw [← hb,sizeL] at this;omega
      by_cases hlt:i < p.length
      · obtain ⟨bk,o,rfl,c0⟩:=Ints.get (Flat.pr hpr HK.out) i hlt
        have hbd:=HP.out p[i] (List.getElem_mem hlt)
        have hil:=Lib.itoa_length_le p[i] hbd.1 hbd.2
        have I:=Lib.hid (itoa_any p[i] hbd.1 hbd.2 wr (HW.out.pr hpr))
        by_cases h0:i=0
        · have g0:decide ((0:Int) < (i:Int))=false:=by simp;omega
          have g1:decide (0 < i)=false:=by simp;omega
          have hf:pathPre p (i+1)=Lib.itoa p[i]:=by subst h0;exact pathPre_one p hlt
          have hb0:b=⟨#[]⟩:=ba_ext (by rw [hb,h0];rfl)
          have Hf:=Lib.hid hf;have Hb0:=Lib.hid hb0
          clear hf hb h0 hb0
          go_wp2_with (go_at_call 32;(with_reducible refine Calls.mono I.out ?_);rintro e w5 ⟨rfl,hp5⟩)
          refine ⟨⟨i+1,_,by omega,by go_num,rfl,?_,hpr.trans hp5⟩,by simp [intOf];omega⟩
          rw [Hf.out,Hb0.out,baL];rfl
        · have g0:decide ((0:Int) < (i:Int))=true:=by simp;omega
          have g1:decide (0 < i)=true:=by simp;omega
          have hf:=pathPre_succ p i hlt (by omega)
          have Hf:=Lib.hid hf;have Hb:=Lib.hid hb
          clear hf hb
          go_wp2_with (go_at_call 32;(with_reducible refine Calls.mono I.out ?_);rintro e w5 ⟨rfl,hp5⟩)
          refine ⟨⟨i+1,_,by omega,by go_num,rfl,?_,hpr.trans hp5⟩,by simp [intOf];omega⟩
          rw [Hf.out,baL,baL,Hb.out];simp
      · obtain rfl:i=p.length:=by omega
        have hb':b=⟨⟨pathTx p⟩⟩:=ba_ext (by rw [hb,pathPre_all p Hnil.out])
        subst hb'
        clear hb
        go_wp2_with fail
        go_ret
        exact ⟨rfl,hpr⟩
end Go.Proofs.YtdbnfhpgmcjngadGreatDoor
