/- Walks: a path out of a text; the program's and the document's. -/
import Derived.Test.YtdbnfhpgmcjngadGreatDoorPwc
namespace Go.Proofs.YtdbnfhpgmcjngadGreatDoor
open Go Go.RowKit
def PathPost (l:List UInt8) (w:World) (e:Ending) (w':World):Prop:=∃ oa cap,e=.returned (.tuple #[.slice oa ((pathIn l).getD []).length cap,.bool (pathIn l).isSome])∧Ints (From w.heap.size) w' ((pathIn l).getD []) oa cap∧Pr w w'
def PartsPost (ps:List (List UInt8)) (w:World) (e:Ending) (w':World):Prop:=∃ oa cap,e=.returned (.slice oa ps.length cap)∧Strs (From w.heap.size) w' ps oa cap∧Pr w w'
theorem split_parts (s:ByteArray) (c:UInt8) (hs:s.size≤1000000) (w:World) (hw:Lv w):Calls Tryz.prog 54 #[.string s,.string ⟨#[c]⟩] w (PartsPost (cutC c s.data.toList) w) :=
  (split_any s c (by omega) w hw).mono fun _ _ ⟨_,h1,h2,h3⟩=>⟨_,_,h1,h2,h3⟩
def withP (q:List Int):Option (List Int)→Option (List Int) | none=>none | some r=>some (q ++ r)
theorem pathOf_one {l:List (List UInt8)} {i:Nat} (hi:i < l.length) (q:List Int) (n:Nat) (h:fewN l[i]=some n):withP q (pathOf (l.drop i))=withP (q ++ [(n:Int)]) (pathOf (l.drop (i+1))):=by
  rw [List.drop_eq_getElem_cons hi,pathOf,h]
  simp only []
  cases pathOf (l.drop (i+1)) <;> simp [withP]
theorem pathOf_no {l:List (List UInt8)} {i:Nat} (hi:i < l.length) (q:List Int) (h:fewN l[i]=none):withP q (pathOf (l.drop i))=none:=by
  rw [List.drop_eq_getElem_cons hi,pathOf,h];rfl
theorem dash_eq {s:ByteArray}:(s.toList==[45])=true↔s.data.toList=[45]:=by rw [ByteArray.toList_eq];simp
set_option maxRecDepth 100000 in
set_option maxHeartbeats 3200000 in
theorem parsePath_any (s:ByteArray) (hs:s.size≤1000000) (w:World) (hw:Lv w) :
    Calls Tryz.prog 81 #[.string s] w (PathPost s.data.toList w):=by
  have HW:=Lib.hid hw
  clear hw
  by_cases hd:s.data.toList=[45]
  · have hb:(s.toList==[45])=true:=dash_eq.2 hd
    have hp:pathIn s.data.toList=some []:=by unfold pathIn;rw [if_pos hd]
    have Hp:=Lib.hid hp
    have hl:s.toList=[45]:=by rw [ByteArray.toList_eq];exact hd
    clear hd hp
    go_enter Tryz.func81,Tryz.ntmps81
    go_wp2_with fail
    go_ret2
    exact ⟨none,0,by rw [Hp.out];rfl,by rw [Hp.out];exact Flat.nil _ _ _ _ (Nat.zero_le _),Pr.refl _⟩
  · have hb:(s.toList==[45])=false:=by rw [Bool.eq_false_iff];exact fun e=>hd (dash_eq.1 e)
    have Hp0:pathIn s.data.toList=pathOf (cutC 46 s.data.toList):=by unfold pathIn;rw [if_neg hd]
    clear hd
    have hcl:=cut_le 46 s.data.toList
    have hcc:(cutC 46 s.data.toList).length≤1000001:=by
      rw [cut_length];have:=List.count_le_length (a:=(46:UInt8)) (l:=s.data.toList);rw [sizeL] at this;omega
    obtain ⟨ps,hps⟩:∃ ps,ps=cutC 46 s.data.toList:=⟨_,rfl⟩
    have C:=split_parts s 46 hs w HW.out
    rw [← hps] at hcl hcc C Hp0
    have Hp:=Lib.hid Hp0
    have Hcl:=Lib.hid hcl;have C:=Lib.hid C
    clear hcl hps Hp0
    go_enter Tryz.func81,Tryz.ntmps81
    go_wp2_with (go_at_call 54;(with_reducible refine Calls.mono C.out ?_);rintro e w1 ⟨oa,cap,rfl,hst,hp1⟩;refine Hid.out ?_)
    refine Lib.hid ?_
    have HST:=Lib.hid hst;have HP1:=Lib.hid hp1
    have hV:=hp1.size
    clear hst hp1
    go_wp2_with fail
    go_loopw [4,14] (fun v x wr=>∃ (i:Nat) (q:List Int),i≤ps.length∧x=.int .i64 i∧OwnsIs w1.heap.size wr v q∧q.length≤i∧pathOf ps=withP q (pathOf (ps.drop i))∧Pr w1 wr) (fun _ x _=>ps.length - (intOf x).toNat)
    case atStart=>exact ⟨0,[],by omega,rfl,OwnsIs.nil _ _,by simp,by rw [List.drop_zero];cases pathOf ps <;> rfl,Pr.refl _⟩
    case round =>
      obtain ⟨i,q,hi,rfl,ho,hq,hf,hp⟩:=hrel
      have hqn:q.length≤1000000000:=by omega
      by_cases hlt:i < ps.length
      · obtain ⟨bk,o,rfl,c0⟩:=Strs.get (Flat.pr hp HST.out) i hlt
        have hsz:(⟨⟨ps[i]⟩⟩:ByteArray).size≤1000000:=by
          have h1:=Hcl.out ps[i] (List.getElem_mem _)
          rw [sizeL] at h1
          have h2:(⟨⟨ps[i]⟩⟩:ByteArray).size=ps[i].length:=rfl
          omega
        have F:=Lib.hid (small_any ⟨⟨ps[i]⟩⟩ hsz wr (HW.out.pr (HP1.out.trans hp)))
        cases hfw:fewN ps[i] with
        | none =>
          have hno:=pathOf_no hlt q hfw
          rw [← hf] at hno
          have Hno:=Lib.hid hno;have Hfw:=Lib.hid hfw
          clear hno hfw hf
          go_wp2_with (go_at_call 82;(with_reducible refine Calls.mono F.out ?_);rintro e w5 ⟨v5,rfl,hv5,hp5⟩;rw [Hfw.out])
          go_ret2
          exact ⟨none,0,by rw [Hp.out,Hno.out];rfl,by rw [Hp.out,Hno.out];exact Flat.nil _ _ _ _ (Nat.zero_le _),(HP1.out.trans hp).trans hp5⟩
        | some n =>
          have hst:=pathOf_one hlt q n hfw
          rw [← hf] at hst
          have Hst:=Lib.hid hst;have Hfw:=Lib.hid hfw
          clear hst hfw hf
          go_wp2_with (first
            | (go_at_call 82;(with_reducible refine Calls.mono F.out ?_);rintro e w5 ⟨v5,rfl,hv5,hp5⟩;obtain rfl:=hv5 n Hfw.out;rw [Hfw.out])
            | (at_builtin;go_must (refine app_int rfl _ _ rfl w1.heap.size _ q rfl ((ho.pr hp5).pr (Pr.alloc _ _)) w5.heap.size rfl (n:Int) (heap_alloc_new w5 _) hqn (by have:=hp.size;have:=hp5.size;simp;omega) ?_);intro g4 c4 w6 ho4 hg4 hd4))
          refine ⟨⟨i+1,q ++ [(n:Int)],by omega,by go_num,ho4,by simp;omega,Hst.out,?_⟩,by simp [intOf];omega⟩
          exact Below.grown ((hp.trans hp5).alloc' _) hg4 (by have:=hp.size;have:=hp5.size;simp;omega) (fun k hk=>(ho.block k hk).1)
      · have hks:i=ps.length:=by omega
        have hdr:ps.drop i=[]:=by rw [List.drop_eq_nil_iff];omega
        have hend:pathOf ps=some q:=by rw [hf,hdr];simp [pathOf,withP]
        have Hend:=Lib.hid hend
        have d1:decide ((i:Int) < ps.length)=false:=by simp;omega
        have d3:decide (i < ps.length)=false:=by simp;omega
        obtain ⟨oa5,cap5,rfl,h5⟩:=ho.ints
        have H5:=Lib.hid h5
        clear hks hdr hend hf h5
        go_wp2_with fail
        go_ret2
        exact ⟨oa5,cap5,by rw [Hp.out,Hend.out];rfl,by rw [Hp.out,Hend.out];exact H5.out.mono (fun k hk _=>Nat.le_trans hV hk),HP1.out.trans hp⟩
end Go.Proofs.YtdbnfhpgmcjngadGreatDoor
