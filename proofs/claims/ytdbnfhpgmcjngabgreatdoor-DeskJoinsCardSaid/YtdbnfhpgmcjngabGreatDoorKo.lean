/- Walks: a desk's line that asks. -/
import Derived.Test.YtdbnfhpgmcjngabGreatDoorBkk
import Derived.Deep.DeepCutAuto
namespace Go.Proofs.YtdbnfhpgmcjngabGreatDoor
open Go Go.RowKit
section
variable {X:Nat→Prop} {base:Nat} {w:World} {M B:Nat} {vb vr:Value} {l:List UInt8} {ts:List Tr}
set_option maxRecDepth 100000 in
set_option maxHeartbeats 6400000 in
theorem line_ask (h:DeskOk X base w M B vb vr l ts) (s:ByteArray) (hs:s.size≤100000) (hl:l.length≤700000000) (hw1:headW s.data.toList≠wTree) (hw2:¬ (headW s.data.toList=wDo∧hasW (restW s.data.toList)=true∧∃ n,numP (headW (restW s.data.toList))=some n)) :
    Calls Tryz.prog 11 #[.pointer (some ⟨M,0,none⟩),.string s] w fun e w'=>e=.returned (.tuple #[])∧DeskPost X base w M B vb vr (l ++ (askLine ts s.data.toList).2) (askLine ts s.data.toList).1 w':=by
  have h1:=headW_len s.data.toList
  have h2:=restW_len s.data.toList
  rw [sizeL] at h1 h2
  obtain ⟨hd,hhd⟩:∃ x:ByteArray,x=⟨⟨headW s.data.toList⟩⟩:=⟨_,rfl⟩
  obtain ⟨rs,hrs⟩:∃ x:ByteArray,x=⟨⟨restW s.data.toList⟩⟩:=⟨_,rfl⟩
  have hhd2:hd.data.toList=headW s.data.toList:=by rw [hhd]
  have hrs2:rs.data.toList=restW s.data.toList:=by rw [hrs]
  have hrz:rs.size≤100000:=by rw [← sizeL,hrs2];omega
  have C1:=Lib.hid (cut_any s w (by omega) h.tab)
  rw [← hhd,← hrs] at C1
  generalize hasW s.data.toList=hb at C1
  have e1:(hd.toList==[116,114,101,101])=false:=by rw [eqB,hhd2];exact decide_eq_false hw1
  have h3:=headW_len (restW s.data.toList)
  obtain ⟨f,hf⟩:∃ x:ByteArray,x=⟨⟨headW (restW s.data.toList)⟩⟩:=⟨_,rfl⟩
  obtain ⟨ln,hln⟩:∃ x:ByteArray,x=⟨⟨restW (restW s.data.toList)⟩⟩:=⟨_,rfl⟩
  have hf2:f.data.toList=headW (restW s.data.toList):=by rw [hf]
  have hfz:f.size≤100000:=by rw [← sizeL,hf2];omega
  obtain ⟨b2,hb2⟩:∃ b,b=decide (headW s.data.toList=wDo):=⟨_,rfl⟩
  obtain ⟨ok,hok⟩:∃ b,b=hasW (restW s.data.toList):=⟨_,rfl⟩
  obtain ⟨is,his⟩:∃ b,b=(numbersP [f.data.toList]).isSome:=⟨_,rfl⟩
  have e2:(hd.toList==[100,111])=b2:=by rw [eqB,hhd2,hb2];rfl
  have C2:Hid (∀ u,Pr w u→Calls Tryz.prog 14 #[.string rs,.string ⟨#[32]⟩] u fun e w'=>e=.returned (.tuple #[.string f,.string ln,.bool ok])∧Pr u w'):=Lib.hid fun u hp=>by
    have:=cut_any rs u (by omega) (h.tab.pr hp)
    rw [hrs2,← hok,← hf,← hln] at this
    exact this
  have NU:Hid (∀ u,Pr w u→Calls Tryz.prog 16 #[.slice (some ⟨u.heap.size,0,none⟩) 1 1] (u.alloc (.cells #[.string f] 9)) fun e w'=>(∃ oa n cap,e=.returned (.tuple #[.slice oa n cap,.bool is]))∧Pr u w'):=Lib.hid fun u hp=>by
    have:=numbers_any [f.data.toList] (some ⟨u.heap.size,0,none⟩) 1 _ (strs1 u f) (fun x hx=>by rw [List.mem_singleton] at hx;rw [hx,sizeL];omega) (by simp) (h.tab.pr (hp.alloc' (.cells #[.string f] 9)))
    refine this.mono ?_
    rintro e w' ⟨oa,cap,rfl,_,hp2⟩
    rw [← his]
    exact ⟨⟨_,_,_,rfl⟩,(Pr.alloc _ _).trans hp2⟩
  have hpre:b2=false∨(b2=true∧ok=false∧is=false)∨(b2=true∧ok=false∧is=true)∨(b2=true∧ok=true∧is=false):=by
    have:¬ (b2=true∧ok=true∧is=true):=by
      rintro ⟨g1,g2,g3⟩
      refine hw2 ⟨by rw [hb2] at g1;exact of_decide_eq_true g1,by rw [hok] at g2;exact g2,?_⟩
      rw [his,numbersP_one,hf2] at g3
      cases hn:numP (headW (restW s.data.toList)) with
      | none=>rw [hn] at g3;cases g3
      | some n=>exact ⟨n,rfl⟩
    cases b2 <;> cases ok <;> cases is <;> simp at this ⊢
  have hwm:∀ x∈wordsW s.data.toList,x.length≤100000:=fun x hx=>by have:=wordsW_mem hx;rw [sizeL] at this;omega
  obtain ⟨hwl,hcl⟩:=wordsW_len s.data.toList
  rw [sizeL] at hwl hcl
  obtain ⟨OB,hOB⟩:∃ OB,OB=Obj.cells (strs (cutC 32 s.data.toList)).toArray 9:=⟨_,rfl⟩
  obtain ⟨cl,hcl2⟩:∃ n,n=(cutC 32 s.data.toList).length:=⟨_,rfl⟩
  obtain ⟨ws,hws⟩:∃ ws,ws=wordsW s.data.toList:=⟨_,rfl⟩
  have SP:Hid (∀ u,Pr w u→Calls Tryz.prog 19 #[.string s,.string ⟨#[32]⟩] u fun e w'=>e=.returned (.slice (some ⟨u.heap.size,0,none⟩) cl cl)∧w'=u.alloc OB):=Lib.hid fun u hp=>by
    have:=splitRow_any s 32 (by omega) u (h.tab.pr hp)
    rw [← hOB,← hcl2] at this;exact this
  have FL:Hid (∀ u,Pr w u→Calls Tryz.prog 18 #[.slice (some ⟨u.heap.size,0,none⟩) cl cl,.func (.func 20) #[] #[]] (u.alloc OB) fun e w'=>e=.returned (.slice (some ⟨u.heap.size,0,none⟩) ws.length cl)∧Strs (From u.heap.size) w' ws (some ⟨u.heap.size,0,none⟩) cl∧Pr u w'):=Lib.hid fun u hp=>by
    have:=fields_any (cutC 32 s.data.toList) (by omega) u
    rw [← hOB,← hcl2] at this
    rw [hws];exact this
  obtain ⟨r,hr⟩:∃ r,r=askLine ts s.data.toList:=⟨_,rfl⟩
  rw [← hr]
  unfold askLine at hr
  rw [← hws] at hr hwm hwl
  rw [← hcl2] at hcl
  clear hhd hrs hhd2 hrs2 h1 h2 h3 hf hln hf2 hb2 hok his hw1 hw2 hOB hcl2 hws
  cases ws with
  | nil =>
    simp only [] at hr
    have R:=Lib.hid (DeskPost.refl h)
    rw [hr,List.append_nil]
    clear h hr
    rcases hpre with rfl | ⟨rfl,rfl,rfl⟩ | ⟨rfl,rfl,rfl⟩ | ⟨rfl,rfl,rfl⟩
    all_goals
      go_enter Tryz.func11,Tryz.ntmps11
      go_wp2_with (first
        | (go_at_call 14;(with_reducible refine Calls.mono C1.out ?_);rintro e w1 ⟨rfl,hp⟩)
        | (go_at_call 14;(with_reducible refine Calls.mono (C2.out _ hp) ?_);rintro e w2 ⟨rfl,hp2⟩;have hp:=hp.trans hp2)
        | (go_at_call 16;(with_reducible refine Calls.mono (NU.out _ hp) ?_);rintro e w3 ⟨⟨oa3,n3,c3,rfl⟩,hp3⟩;have hp:=hp.trans hp3)
        | (go_at_call 19;(with_reducible refine Calls.mono (SP.out _ hp) ?_);rintro e w5 ⟨rfl,rfl⟩)
        | (go_at_call 18;(with_reducible refine Calls.mono (FL.out _ hp) ?_);rintro e w6 ⟨rfl,hst,hp6⟩;have hp:=hp.trans hp6))
      refine bodyPost_ret (results_none rfl _ _ _) rfl ?_
      exact ⟨rfl,R.out.suf hp⟩
  | cons x rr =>
    have hxs:=hwm x (by simp)
    have NT:Hid (∀ u oa cap,Pr w u→Strs Any u rr oa cap→Calls Tryz.prog 16 #[.slice oa rr.length cap] u (NumsPost (numbersP rr) u)):=Lib.hid fun u oa cap hp hst=>by
      simp only [List.length_cons] at hwl
      exact numbers_any rr oa cap u hst (fun y hy=>by have:=hwm y (by simp [hy]);omega) (by omega) (h.tab.pr hp)
    unfold NumsPost at NT
    have SYW:Hid (∀ u,DeskPost X base w M B vb vr l ts u→Calls Tryz.prog 22 #[.pointer (some ⟨M,0,none⟩),.slice (some ⟨u.heap.size,0,none⟩) 1 1] (u.alloc (.cells #[.string ⟨#[119,104,97,116]⟩] 9)) fun e w'=>e=.returned (.tuple #[])∧DeskPost X base w M B vb vr (l ++ sayP [wWhat]) ts w'):=Lib.hid fun u hd =>
      hd.call fun vb' vr' hd'=>say_one hd' ⟨#[119,104,97,116]⟩ (by decide) (by omega)
    have R:=Lib.hid fun u (hp:Pr w u)=>(DeskPost.refl h).suf hp
    have hr2:r=match numbersP rr with | none=>(ts,sayP [wWhat]) | some ns=>match askP ts x ns with | some q=>q | none=>(ts,sayP [wWhat]):=hr
    clear hr
    obtain ⟨xb,hxb⟩:∃ b:ByteArray,b=⟨⟨x⟩⟩:=⟨_,rfl⟩
    have hxd:xb.data.toList=x:=by rw [hxb]
    have hL:rr.length≤1000000:=by simp only [List.length_cons] at hwl;omega
    simp only [List.length_cons] at FL
    cases hq:numbersP rr with
    | none =>
      rw [hq] at hr2 NT
      rw [hr2]
      simp only [Option.getD_none,Option.isSome_none,List.length_nil] at NT
      clear h hr2 hwm hwl hq
      rcases hpre with rfl | ⟨rfl,rfl,rfl⟩ | ⟨rfl,rfl,rfl⟩ | ⟨rfl,rfl,rfl⟩
      all_goals
        go_enter Tryz.func11,Tryz.ntmps11
        go_wp2_with (first
          | (go_at_call 14;(with_reducible refine Calls.mono C1.out ?_);rintro e w1 ⟨rfl,hp⟩)
          | (go_at_call 14;(with_reducible refine Calls.mono (C2.out _ hp) ?_);rintro e w2 ⟨rfl,hp2⟩;have hp:=hp.trans hp2)
          | (go_at_call 16;(with_reducible refine Calls.mono (NU.out _ hp) ?_);rintro e w3 ⟨⟨oa3,n3,c3,rfl⟩,hp3⟩;have hp:=hp.trans hp3)
          | (go_at_call 19;(with_reducible refine Calls.mono (SP.out _ hp) ?_);rintro e w5 ⟨rfl,rfl⟩)
          | (go_at_call 18;(with_reducible refine Calls.mono (FL.out _ hp) ?_);rintro e w6 ⟨rfl,hst,hp6⟩;have hp:=hp.trans hp6;have htl:=Flat.any (Flat.tail hst);have hcap:=hst.1.1;simp only [List.length_map,List.length_cons] at hcap;obtain ⟨bk,ob,e9,c0⟩:=Strs.get hst 0 (by simp);cases e9)
          | (go_at_call 16;(with_reducible refine Calls.mono (NT.out _ _ _ hp htl) ?_);rintro e w7 ⟨oa7,c7,rfl,hi7,hp7⟩;have hp:=hp.trans hp7)
          | (go_at_call 22;(with_reducible refine Calls.mono (SYW.out _ (R.out _ hp)) ?_);rintro e w8 ⟨rfl,hd8⟩))
        all_goals
          go_end0
          exact ⟨rfl,hd8⟩
    | some ns =>
      rw [hq] at hr2 NT
      simp only [] at hr2
      simp only [Option.getD_some,Option.isSome_some] at NT
      have AK:∀ u oa cap,Pr w u→Ints Any u ns oa cap→Calls Tryz.prog 21 #[.pointer (some ⟨M,0,none⟩),.string xb,.slice oa ns.length cap] u (fun e w'=>e=.returned (.bool (askP ts x ns).isSome)∧DeskPost X base w M B vb vr (l ++ ((askP ts x ns).getD (ts,[])).2) ((askP ts x ns).getD (ts,[])).1 w'):=fun u oa cap hp hi=>by
        have:=dask_any (h.pr hp) xb ns oa cap hi (by omega)
        unfold AskPost at this
        rw [hxd] at this
        exact this.mono fun e w' ⟨h1,h2⟩=>⟨h1,h2.pre hp⟩
      have HXB:=Lib.hid hxb
      cases hk:askP ts x ns with
      | none =>
        rw [hk] at hr2 AK
        simp only [] at hr2
        rw [hr2]
        simp only [Option.getD_none,Option.isSome_none,List.append_nil] at AK
        have AK:=Lib.hid AK
        clear h hr2 hwm hwl hq hk hxb hxd
        rcases hpre with rfl | ⟨rfl,rfl,rfl⟩ | ⟨rfl,rfl,rfl⟩ | ⟨rfl,rfl,rfl⟩
        all_goals
          go_enter Tryz.func11,Tryz.ntmps11
          go_wp2_with (first
            | (go_at_call 14;(with_reducible refine Calls.mono C1.out ?_);rintro e w1 ⟨rfl,hp⟩)
            | (go_at_call 14;(with_reducible refine Calls.mono (C2.out _ hp) ?_);rintro e w2 ⟨rfl,hp2⟩;have hp:=hp.trans hp2)
            | (go_at_call 16;(with_reducible refine Calls.mono (NU.out _ hp) ?_);rintro e w3 ⟨⟨oa3,n3,c3,rfl⟩,hp3⟩;have hp:=hp.trans hp3)
            | (go_at_call 19;(with_reducible refine Calls.mono (SP.out _ hp) ?_);rintro e w5 ⟨rfl,rfl⟩)
            | (go_at_call 18;(with_reducible refine Calls.mono (FL.out _ hp) ?_);rintro e w6 ⟨rfl,hst,hp6⟩;have hp:=hp.trans hp6;have htl:=Flat.any (Flat.tail hst);have hcap:=hst.1.1;simp only [List.length_map,List.length_cons] at hcap;obtain ⟨bk,ob,e9,c0⟩:=Strs.get hst 0 (by simp);cases e9;rw [Nat.add_zero,List.getElem_cons_zero,← HXB.out] at c0)
            | (go_at_call 16;(with_reducible refine Calls.mono (NT.out _ _ _ hp htl) ?_);rintro e w7 ⟨oa7,c7,rfl,hi7,hp7⟩;have hp:=hp.trans hp7;have c07:=hp7.cell c0)
            | (go_at_call 21;(with_reducible refine Calls.mono (AK.out _ _ _ hp (Flat.any hi7)) ?_);rintro e w8 ⟨rfl,hd8⟩)
            | (go_at_call 22;(with_reducible refine Calls.mono (SYW.out _ hd8) ?_);rintro e w9 ⟨rfl,hd9⟩))
          all_goals
            go_end0
            exact ⟨rfl,hd9⟩
      | some q =>
        rw [hk] at hr2 AK
        simp only [] at hr2
        rw [hr2]
        simp only [Option.getD_some,Option.isSome_some] at AK
        have AK:=Lib.hid AK
        clear h hr2 hwm hwl hq hk hxb hxd
        rcases hpre with rfl | ⟨rfl,rfl,rfl⟩ | ⟨rfl,rfl,rfl⟩ | ⟨rfl,rfl,rfl⟩
        all_goals
          go_enter Tryz.func11,Tryz.ntmps11
          go_wp2_with (first
            | (go_at_call 14;(with_reducible refine Calls.mono C1.out ?_);rintro e w1 ⟨rfl,hp⟩)
            | (go_at_call 14;(with_reducible refine Calls.mono (C2.out _ hp) ?_);rintro e w2 ⟨rfl,hp2⟩;have hp:=hp.trans hp2)
            | (go_at_call 16;(with_reducible refine Calls.mono (NU.out _ hp) ?_);rintro e w3 ⟨⟨oa3,n3,c3,rfl⟩,hp3⟩;have hp:=hp.trans hp3)
            | (go_at_call 19;(with_reducible refine Calls.mono (SP.out _ hp) ?_);rintro e w5 ⟨rfl,rfl⟩)
            | (go_at_call 18;(with_reducible refine Calls.mono (FL.out _ hp) ?_);rintro e w6 ⟨rfl,hst,hp6⟩;have hp:=hp.trans hp6;have htl:=Flat.any (Flat.tail hst);have hcap:=hst.1.1;simp only [List.length_map,List.length_cons] at hcap;obtain ⟨bk,ob,e9,c0⟩:=Strs.get hst 0 (by simp);cases e9;rw [Nat.add_zero,List.getElem_cons_zero,← HXB.out] at c0)
            | (go_at_call 16;(with_reducible refine Calls.mono (NT.out _ _ _ hp htl) ?_);rintro e w7 ⟨oa7,c7,rfl,hi7,hp7⟩;have hp:=hp.trans hp7;have c07:=hp7.cell c0)
            | (go_at_call 21;(with_reducible refine Calls.mono (AK.out _ _ _ hp (Flat.any hi7)) ?_);rintro e w8 ⟨rfl,hd8⟩))
          all_goals
            go_end0
            exact ⟨rfl,hd8⟩
theorem dline_any (h:DeskOk X base w M B vb vr l ts) (s:ByteArray) (hs:s.size≤100000) (hl:l.length≤700000000) :
    Calls Tryz.prog 11 #[.pointer (some ⟨M,0,none⟩),.string s] w fun e w'=>e=.returned (.tuple #[])∧DeskPost X base w M B vb vr (l ++ (lineD ts s.data.toList).2) (lineD ts s.data.toList).1 w':=by
  by_cases h1:headW s.data.toList=wTree
  · exact line_first h s hs hl (.inl h1)
  · by_cases h2:headW s.data.toList=wDo∧hasW (restW s.data.toList)=true∧∃ n,numP (headW (restW s.data.toList))=some n
    · exact line_first h s hs hl (.inr h2)
    · have hr:lineD ts s.data.toList=askLine ts s.data.toList:=by
        unfold lineD
        rw [if_neg h1]
        split
        · rename_i h3
          cases hn:numP (headW (restW s.data.toList)) with
          | none=>rfl
          | some n=>exact absurd ⟨h3.1,h3.2,n,hn⟩ h2
        · rfl
      rw [hr]
      exact line_ask h s hs hl h1 h2
end
end Go.Proofs.YtdbnfhpgmcjngabGreatDoor
