/- Walks: a desk's blame. -/
import Derived.Test.YtdbnfhpgmcjngabGreatDoorBka
import Derived.Deep.DeepCutAuto
import Derived.Test.YtdbnfhpgmcjngabGreatDoorBza
import Derived.Test.YtdbnfhpgmcjngabGreatDoorBlc
namespace Go.Proofs.YtdbnfhpgmcjngabGreatDoor
open Go Go.RowKit
section
variable {X:Nat→Prop} {base:Nat} {w:World} {M B:Nat} {vb vr:Value} {l:List UInt8} {ts:List Tr}
set_option maxRecDepth 100000 in
set_option maxHeartbeats 6400000 in
theorem dblame_any (h:DeskOk X base w M B vb vr l ts) (n:Int) (hl:l.length≤700000000) :
    Calls Tryz.prog 37 #[.pointer (some ⟨M,0,none⟩),.int .i64 n] w fun e w'=>e=.returned (.tuple #[])∧DeskPost X base w M B vb vr (l ++ blameDP ts n) ts w':=by
  have m0:=h.bcell
  have BL:=blame_any B vb ts n w h.book
  unfold BlamePost at BL
  have hin:∀ x∈blameP ts n,0≤x∧x≤30:=fun x hx=>blameP_in h.book.few hx
  have hlen:=blameP_len (z:=n) h.book.flt
  obtain ⟨r,hr⟩:∃ r,r=blameDP ts n:=⟨_,rfl⟩
  rw [← hr]
  unfold blameDP at hr
  have hcc:blameC ts n=0∨blameC ts n=7:=by unfold blameC;split;exact .inl rfl;exact .inr rfl
  generalize blameC ts n=c at *
  generalize blameP ts n=xs at *
  rcases hcc with rfl | rfl
  · rw [if_pos rfl] at hr
    have CZ:=Lib.hid fun u=>code_zero u M
    have NM:Hid (∀ u,Pr w u→∀ x∈xs,Calls Tryz.prog 26 #[.int .i64 x] u fun e w'=>e=.returned (.string ⟨⟨Lib.itoa x⟩⟩)∧Pr u w'):=Lib.hid fun u hp x hx=>by
      have:=hin x hx
      exact dnum_any x (by omega) (by omega) u (h.tab.pr hp)
    have SY:Hid (∀ u (s:ByteArray),Pr w u→s.data.toList=wSince ++ numsP xs→Calls Tryz.prog 22 #[.pointer (some ⟨M,0,none⟩),.slice (some ⟨u.heap.size,0,none⟩) 1 1] (u.alloc (.cells #[.string s] 9)) fun e w'=>e=.returned (.tuple #[])∧DeskPost X base w M B vb vr (l ++ r) ts w'):=Lib.hid fun u s hp hs=>by
      have hs2:s.size≤100000:=by
        have:=numsP_len hin
        rw [← sizeL,hs,List.length_append]
        simp only [wSince,List.length_cons,List.length_nil];omega
      have:=say_one (h.pr hp) s (by omega) (by omega)
      rw [hs,← hr] at this
      exact this.mono fun e w' ⟨h1,h2⟩=>⟨h1,h2.pre hp⟩
    have BL:=Lib.hid BL
    have Hin:=Lib.hid hin
    clear h hr hin
    go_enter Tryz.func37,Tryz.ntmps37
    go_wp2_with (first
      | (go_at_call 69;(with_reducible refine Calls.mono BL.out ?_);rintro e w1 ⟨oa,cap,rfl,hi,hp1⟩)
      | (go_at_call 30;(with_reducible refine Calls.mono (CZ.out _) ?_);rintro e w2 ⟨rfl,hp2⟩))
    have HQ:=Lib.hid (hp1.trans hp2)
    have hx2:=Flat.pr hp2 (Flat.any hi)
    have HX:=Lib.hid hx2
    have hxl:xs.length≤9223372036854775807:=by omega
    clear hi hp1 hp2 hx2
    go_loopw [6,23] (fun v6 v23 wr=>∃ (i:Nat) (s:ByteArray),i≤xs.length∧v6=.string s∧v23=.int .i64 i∧s.data.toList=wSince ++ numsP (xs.take i)∧Pr w2 wr) (fun _ v23 _=>xs.length - (intOf v23).toNat)
    case atStart=>exact ⟨0,⟨#[115,105,110,99,101]⟩,by omega,rfl,rfl,rfl,Pr.refl _⟩
    case round =>
      obtain ⟨i,s,hi,rfl,rfl,hs,hb⟩:=hrel
      have Hb:=Lib.hid hb;have Hs:=Lib.hid hs
      by_cases hlt:i < xs.length
      case neg =>
        have hie:i=xs.length:=by omega
        have hz:s.data.toList=wSince ++ numsP xs:=by rw [hs,hie,List.take_length]
        have Hz:=Lib.hid hz
        clear hz hb hs Hs
        go_wp2_with (go_at_call 22;(with_reducible refine Calls.mono (SY.out _ _ (HQ.out.trans Hb.out) Hz.out) ?_);rintro e w3 ⟨rfl,hd⟩)
        go_end0
        exact ⟨rfl,hd⟩
      case pos =>
        obtain ⟨bk,o,e1,c0⟩:=Flat.get (Flat.pr hb HX.out) i (by simpa using hlt)
        subst e1
        have c1:wr.cell? ⟨bk,o+i,none⟩=some (.int .i64 xs[i]):=by simpa using c0
        have hx:=Hin.out xs[i] (List.getElem_mem hlt)
        have hsz:s.size≤2000:=by
          have h1:=numsP_len (xs:=xs.take i) fun x hx=>Hin.out x (List.mem_of_mem_take hx)
          rw [← sizeL,hs,List.length_append]
          rw [List.length_take] at h1
          simp only [wSince,List.length_cons,List.length_nil];omega
        have hns:=itoa_few xs[i] (by omega) (by omega)
        have NX:=Lib.hid (NM.out wr (HQ.out.trans hb) xs[i] (List.getElem_mem hlt))
        have hnx:numsP (xs.take (i+1))=numsP (xs.take i) ++ 32 :: Lib.itoa xs[i]:=by rw [List.take_succ_eq_append_getElem hlt,numsP_snoc]
        obtain ⟨nb,hnb⟩:∃ b:ByteArray,b=⟨⟨Lib.itoa xs[i]⟩⟩:=⟨_,rfl⟩
        have hnd:nb.data.toList=Lib.itoa xs[i]:=by rw [hnb]
        rw [← hnb] at NX hns
        have Hnx:=Lib.hid hnx;have Hnd:=Lib.hid hnd
        generalize xs[i]=x at *
        clear hb hs c0 hx hnx hnb hnd
        go_wp2_with (go_at_call 26;(with_reducible refine Calls.mono NX.out ?_);rintro e w3 ⟨rfl,hp3⟩)
        refine ⟨⟨i+1,s ++ (⟨#[32]⟩ ++ nb),by omega,rfl,by go_num,?_,Hb.out.trans hp3⟩,?_⟩
        · rw [baL,baL,Hnd.out,Hs.out,Hnx.out,List.append_assoc];rfl
        · simp [intOf];omega
  · rw [if_neg (by decide)] at hr
    have CD:Hid (∀ u,Pr w u→Calls Tryz.prog 30 #[.pointer (some ⟨M,0,none⟩),.int .i64 7] u fun e w'=>e=.returned (.bool true)∧DeskPost X base w M B vb vr (l ++ r) ts w'):=Lib.hid fun u hp=>by
      rw [hr]
      exact (code_any (h.pr hp) 7 (by decide) (by decide) (by omega)).mono fun e w' ⟨h1,h2⟩=>⟨h1,h2.pre hp⟩
    have BL:=Lib.hid BL
    clear h hr hin
    go_enter Tryz.func37,Tryz.ntmps37
    go_wp2_with (first
      | (go_at_call 69;(with_reducible refine Calls.mono BL.out ?_);rintro e w1 ⟨oa,cap,rfl,hi,hp1⟩)
      | (go_at_call 30;(with_reducible refine Calls.mono (CD.out _ hp1) ?_);rintro e w2 ⟨rfl,hd⟩))
    refine bodyPost_ret (results_none rfl _ _ _) rfl ?_
    exact ⟨rfl,hd⟩
end
end Go.Proofs.YtdbnfhpgmcjngabGreatDoor
/- Walks: a desk's ask. -/
namespace Go.Proofs.YtdbnfhpgmcjngabGreatDoor
open Go Go.RowKit
section
variable {X:Nat→Prop} {base:Nat} {w:World} {M B:Nat} {vb vr:Value} {l:List UInt8} {ts:List Tr}
theorem eqB (s:ByteArray) (c:List UInt8):(s.toList==c)=decide (s.data.toList=c):=by
  rw [ByteArray.toList_eq]
  by_cases h:s.data.toList=c
  · rw [decide_eq_true h];simpa using h
  · rw [decide_eq_false h];simpa using h
set_option maxRecDepth 100000 in
set_option maxHeartbeats 6400000 in
theorem ask_no (s:ByteArray) (M L:Nat) (oa cap) (w:World) (hno:¬ (s.data.toList=wShow∧L=1)∧¬ (s.data.toList=wDiff∧L=2)∧¬ (s.data.toList=wStep∧L=1)∧¬ (s.data.toList=wBlame∧L=1)∧¬ (s.data.toList=wMerge∧L=3)∧¬ (s.data.toList=wMany∧L=0)) :
    Calls Tryz.prog 21 #[.pointer (some ⟨M,0,none⟩),.string s,.slice oa L cap] w fun e w'=>e=.returned (.bool false)∧Pr w w':=by
  obtain ⟨h1,h2,h3,h4,h5,h6⟩:=hno
  have q1:=eqB s [115,104,111,119]
  have q2:=eqB s [100,105,102,102]
  have q3:=eqB s [115,116,101,112]
  have q4:=eqB s [98,108,97,109,101]
  have q5:=eqB s [109,101,114,103,101]
  have q6:=eqB s [109,97,110,121]
  by_cases g1:s.data.toList=wShow
  · have kf:((L:Int)==1)=false:=by have:L≠1:=fun e=>h1 ⟨g1,e⟩;rw [beq_eq_false_iff_ne];omega
    have e1:(s.toList==[115,104,111,119])=true:=by rw [q1,g1];decide
    have e2:(s.toList==[100,105,102,102])=false:=by rw [q2,g1];decide
    have e3:(s.toList==[115,116,101,112])=false:=by rw [q3,g1];decide
    have e4:(s.toList==[98,108,97,109,101])=false:=by rw [q4,g1];decide
    have e5:(s.toList==[109,101,114,103,101])=false:=by rw [q5,g1];decide
    have e6:(s.toList==[109,97,110,121])=false:=by rw [q6,g1];decide
    clear h1 h2 h3 h4 h5 h6 q1 q2 q3 q4 q5 q6 g1
    go_enter Tryz.func21,Tryz.ntmps21
    go_wp2_with fail
    go_ret
    exact ⟨rfl,Pr.refl _⟩
  by_cases g2:s.data.toList=wDiff
  · have kf:((L:Int)==2)=false:=by have:L≠2:=fun e=>h2 ⟨g2,e⟩;rw [beq_eq_false_iff_ne];omega
    have e1:(s.toList==[115,104,111,119])=false:=by rw [q1,g2];decide
    have e2:(s.toList==[100,105,102,102])=true:=by rw [q2,g2];decide
    have e3:(s.toList==[115,116,101,112])=false:=by rw [q3,g2];decide
    have e4:(s.toList==[98,108,97,109,101])=false:=by rw [q4,g2];decide
    have e5:(s.toList==[109,101,114,103,101])=false:=by rw [q5,g2];decide
    have e6:(s.toList==[109,97,110,121])=false:=by rw [q6,g2];decide
    clear h1 h2 h3 h4 h5 h6 q1 q2 q3 q4 q5 q6 g1 g2
    go_enter Tryz.func21,Tryz.ntmps21
    go_wp2_with fail
    go_ret
    exact ⟨rfl,Pr.refl _⟩
  by_cases g3:s.data.toList=wStep
  · have kf:((L:Int)==1)=false:=by have:L≠1:=fun e=>h3 ⟨g3,e⟩;rw [beq_eq_false_iff_ne];omega
    have e1:(s.toList==[115,104,111,119])=false:=by rw [q1,g3];decide
    have e2:(s.toList==[100,105,102,102])=false:=by rw [q2,g3];decide
    have e3:(s.toList==[115,116,101,112])=true:=by rw [q3,g3];decide
    have e4:(s.toList==[98,108,97,109,101])=false:=by rw [q4,g3];decide
    have e5:(s.toList==[109,101,114,103,101])=false:=by rw [q5,g3];decide
    have e6:(s.toList==[109,97,110,121])=false:=by rw [q6,g3];decide
    clear h1 h2 h3 h4 h5 h6 q1 q2 q3 q4 q5 q6 g1 g2 g3
    go_enter Tryz.func21,Tryz.ntmps21
    go_wp2_with fail
    go_ret
    exact ⟨rfl,Pr.refl _⟩
  by_cases g4:s.data.toList=wBlame
  · have kf:((L:Int)==1)=false:=by have:L≠1:=fun e=>h4 ⟨g4,e⟩;rw [beq_eq_false_iff_ne];omega
    have e1:(s.toList==[115,104,111,119])=false:=by rw [q1,g4];decide
    have e2:(s.toList==[100,105,102,102])=false:=by rw [q2,g4];decide
    have e3:(s.toList==[115,116,101,112])=false:=by rw [q3,g4];decide
    have e4:(s.toList==[98,108,97,109,101])=true:=by rw [q4,g4];decide
    have e5:(s.toList==[109,101,114,103,101])=false:=by rw [q5,g4];decide
    have e6:(s.toList==[109,97,110,121])=false:=by rw [q6,g4];decide
    clear h1 h2 h3 h4 h5 h6 q1 q2 q3 q4 q5 q6 g1 g2 g3 g4
    go_enter Tryz.func21,Tryz.ntmps21
    go_wp2_with fail
    go_ret
    exact ⟨rfl,Pr.refl _⟩
  by_cases g5:s.data.toList=wMerge
  · have kf:((L:Int)==3)=false:=by have:L≠3:=fun e=>h5 ⟨g5,e⟩;rw [beq_eq_false_iff_ne];omega
    have e1:(s.toList==[115,104,111,119])=false:=by rw [q1,g5];decide
    have e2:(s.toList==[100,105,102,102])=false:=by rw [q2,g5];decide
    have e3:(s.toList==[115,116,101,112])=false:=by rw [q3,g5];decide
    have e4:(s.toList==[98,108,97,109,101])=false:=by rw [q4,g5];decide
    have e5:(s.toList==[109,101,114,103,101])=true:=by rw [q5,g5];decide
    have e6:(s.toList==[109,97,110,121])=false:=by rw [q6,g5];decide
    clear h1 h2 h3 h4 h5 h6 q1 q2 q3 q4 q5 q6 g1 g2 g3 g4 g5
    go_enter Tryz.func21,Tryz.ntmps21
    go_wp2_with fail
    go_ret
    exact ⟨rfl,Pr.refl _⟩
  by_cases g6:s.data.toList=wMany
  · have kf:((L:Int)==0)=false:=by have:L≠0:=fun e=>h6 ⟨g6,e⟩;rw [beq_eq_false_iff_ne];omega
    have e1:(s.toList==[115,104,111,119])=false:=by rw [q1,g6];decide
    have e2:(s.toList==[100,105,102,102])=false:=by rw [q2,g6];decide
    have e3:(s.toList==[115,116,101,112])=false:=by rw [q3,g6];decide
    have e4:(s.toList==[98,108,97,109,101])=false:=by rw [q4,g6];decide
    have e5:(s.toList==[109,101,114,103,101])=false:=by rw [q5,g6];decide
    have e6:(s.toList==[109,97,110,121])=true:=by rw [q6,g6];decide
    clear h1 h2 h3 h4 h5 h6 q1 q2 q3 q4 q5 q6 g1 g2 g3 g4 g5 g6
    go_enter Tryz.func21,Tryz.ntmps21
    go_wp2_with fail
    go_ret
    exact ⟨rfl,Pr.refl _⟩
  have e1:(s.toList==[115,104,111,119])=false:=by rw [q1];exact decide_eq_false g1
  have e2:(s.toList==[100,105,102,102])=false:=by rw [q2];exact decide_eq_false g2
  have e3:(s.toList==[115,116,101,112])=false:=by rw [q3];exact decide_eq_false g3
  have e4:(s.toList==[98,108,97,109,101])=false:=by rw [q4];exact decide_eq_false g4
  have e5:(s.toList==[109,101,114,103,101])=false:=by rw [q5];exact decide_eq_false g5
  have e6:(s.toList==[109,97,110,121])=false:=by rw [q6];exact decide_eq_false g6
  clear h1 h2 h3 h4 h5 h6 q1 q2 q3 q4 q5 q6 g1 g2 g3 g4 g5 g6
  go_enter Tryz.func21,Tryz.ntmps21
  go_wp2_with fail
  go_ret
  exact ⟨rfl,Pr.refl _⟩
set_option maxRecDepth 100000 in
set_option maxHeartbeats 6400000 in
theorem ask_show (s:ByteArray) (M:Nat) (a:Int) (oa cap) (w:World) (hs:s.data.toList=wShow) (hi:Ints Any w [a] oa cap) (Q:World→Prop)
    (hc:∀ u,Pr w u→Calls Tryz.prog 34 #[.pointer (some ⟨M,0,none⟩),.int .i64 a] u fun e w'=>e=.returned (.tuple #[])∧Q w') :
    Calls Tryz.prog 21 #[.pointer (some ⟨M,0,none⟩),.string s,.slice oa 1 cap] w fun e w'=>e=.returned (.bool true)∧Q w':=by
  have e1:(s.toList==[115,104,111,119])=true:=by rw [eqB,hs];decide
  obtain ⟨bk,o,rfl,c0⟩:=Flat.get hi 0 (by simp)
  have x0:w.cell? ⟨bk,o+0,none⟩=some (.int .i64 a):=by
    obtain ⟨bk2,o2,e9,c9⟩:=Flat.get hi 0 (by simp)
    cases e9;simpa using c9
  have x0:=x0
  rw [Nat.add_zero] at x0
  have HC:=Lib.hid hc
  clear hc hs hi c0
  go_enter Tryz.func21,Tryz.ntmps21
  go_wp2_with (go_at_call 34;(with_reducible refine Calls.mono (HC.out _ (Pr.refl _)) ?_);rintro e w1 ⟨rfl,hd⟩)
  go_ret
  exact ⟨rfl,hd⟩
set_option maxRecDepth 100000 in
set_option maxHeartbeats 6400000 in
theorem ask_diff (s:ByteArray) (M:Nat) (a b:Int) (oa cap) (w:World) (hs:s.data.toList=wDiff) (hi:Ints Any w [a,b] oa cap) (Q:World→Prop)
    (hc:∀ u,Pr w u→Calls Tryz.prog 35 #[.pointer (some ⟨M,0,none⟩),.int .i64 a,.int .i64 b] u fun e w'=>e=.returned (.tuple #[])∧Q w') :
    Calls Tryz.prog 21 #[.pointer (some ⟨M,0,none⟩),.string s,.slice oa 2 cap] w fun e w'=>e=.returned (.bool true)∧Q w':=by
  have e1:(s.toList==[115,104,111,119])=false:=by rw [eqB,hs];decide
  have e2:(s.toList==[100,105,102,102])=true:=by rw [eqB,hs];decide
  obtain ⟨bk,o,rfl,c0⟩:=Flat.get hi 0 (by simp)
  have x0:w.cell? ⟨bk,o+0,none⟩=some (.int .i64 a):=by
    obtain ⟨bk2,o2,e9,c9⟩:=Flat.get hi 0 (by simp)
    cases e9;simpa using c9
  have x0:=x0
  have x1:w.cell? ⟨bk,o+1,none⟩=some (.int .i64 b):=by
    obtain ⟨bk2,o2,e9,c9⟩:=Flat.get hi 1 (by simp)
    cases e9;simpa using c9
  have x1:=x1
  rw [Nat.add_zero] at x0
  have y0:=After.cell x0
  have y1:=After.cell x1
  have HC:=Lib.hid hc
  clear hc hs hi c0
  go_enter Tryz.func21,Tryz.ntmps21
  go_upto_region 5 with fail
  refine wp_region_after_tail 7 (by kernel_rfl) (by kernel_rfl) ?_
  simp only [List.take_succ_cons,List.take_zero,List.drop_succ_cons,List.drop_zero]
  repeat (go_big_quiet_step (fail))
  refine wpQuiet_nil ?_
  rintro wq ⟨⟨_,hq⟩,rfl⟩
  go_wp2_with (go_at_call 35;(with_reducible refine Calls.mono (HC.out _ hq) ?_);rintro e w1 ⟨rfl,hd⟩)
  go_ret
  exact ⟨rfl,hd⟩
set_option maxRecDepth 100000 in
set_option maxHeartbeats 6400000 in
theorem ask_step (s:ByteArray) (M:Nat) (a:Int) (oa cap) (w:World) (hs:s.data.toList=wStep) (hi:Ints Any w [a] oa cap) (Q:World→Prop)
    (hc:∀ u,Pr w u→Calls Tryz.prog 36 #[.pointer (some ⟨M,0,none⟩),.int .i64 a] u fun e w'=>e=.returned (.tuple #[])∧Q w') :
    Calls Tryz.prog 21 #[.pointer (some ⟨M,0,none⟩),.string s,.slice oa 1 cap] w fun e w'=>e=.returned (.bool true)∧Q w':=by
  have e1:(s.toList==[115,104,111,119])=false:=by rw [eqB,hs];decide
  have e2:(s.toList==[100,105,102,102])=false:=by rw [eqB,hs];decide
  have e3:(s.toList==[115,116,101,112])=true:=by rw [eqB,hs];decide
  obtain ⟨bk,o,rfl,c0⟩:=Flat.get hi 0 (by simp)
  have x0:w.cell? ⟨bk,o+0,none⟩=some (.int .i64 a):=by
    obtain ⟨bk2,o2,e9,c9⟩:=Flat.get hi 0 (by simp)
    cases e9;simpa using c9
  have x0:=x0
  rw [Nat.add_zero] at x0
  have HC:=Lib.hid hc
  clear hc hs hi c0
  go_enter Tryz.func21,Tryz.ntmps21
  go_wp2_with (go_at_call 36;(with_reducible refine Calls.mono (HC.out _ (Pr.refl _)) ?_);rintro e w1 ⟨rfl,hd⟩)
  go_ret
  exact ⟨rfl,hd⟩
set_option maxRecDepth 100000 in
set_option maxHeartbeats 6400000 in
theorem ask_blame (s:ByteArray) (M:Nat) (a:Int) (oa cap) (w:World) (hs:s.data.toList=wBlame) (hi:Ints Any w [a] oa cap) (Q:World→Prop)
    (hc:∀ u,Pr w u→Calls Tryz.prog 37 #[.pointer (some ⟨M,0,none⟩),.int .i64 a] u fun e w'=>e=.returned (.tuple #[])∧Q w') :
    Calls Tryz.prog 21 #[.pointer (some ⟨M,0,none⟩),.string s,.slice oa 1 cap] w fun e w'=>e=.returned (.bool true)∧Q w':=by
  have e1:(s.toList==[115,104,111,119])=false:=by rw [eqB,hs];decide
  have e2:(s.toList==[100,105,102,102])=false:=by rw [eqB,hs];decide
  have e3:(s.toList==[115,116,101,112])=false:=by rw [eqB,hs];decide
  have e4:(s.toList==[98,108,97,109,101])=true:=by rw [eqB,hs];decide
  obtain ⟨bk,o,rfl,c0⟩:=Flat.get hi 0 (by simp)
  have x0:w.cell? ⟨bk,o+0,none⟩=some (.int .i64 a):=by
    obtain ⟨bk2,o2,e9,c9⟩:=Flat.get hi 0 (by simp)
    cases e9;simpa using c9
  have x0:=x0
  rw [Nat.add_zero] at x0
  have HC:=Lib.hid hc
  clear hc hs hi c0
  go_enter Tryz.func21,Tryz.ntmps21
  go_wp2_with (go_at_call 37;(with_reducible refine Calls.mono (HC.out _ (Pr.refl _)) ?_);rintro e w1 ⟨rfl,hd⟩)
  go_ret
  exact ⟨rfl,hd⟩
set_option maxRecDepth 100000 in
set_option maxHeartbeats 6400000 in
theorem ask_merge (s:ByteArray) (M:Nat) (a b c:Int) (oa cap) (w:World) (hs:s.data.toList=wMerge) (hi:Ints Any w [a,b,c] oa cap) (Q:World→Prop)
    (hc:∀ u,Pr w u→Calls Tryz.prog 38 #[.pointer (some ⟨M,0,none⟩),.int .i64 a,.int .i64 b,.int .i64 c] u fun e w'=>e=.returned (.tuple #[])∧Q w') :
    Calls Tryz.prog 21 #[.pointer (some ⟨M,0,none⟩),.string s,.slice oa 3 cap] w fun e w'=>e=.returned (.bool true)∧Q w':=by
  have e1:(s.toList==[115,104,111,119])=false:=by rw [eqB,hs];decide
  have e2:(s.toList==[100,105,102,102])=false:=by rw [eqB,hs];decide
  have e3:(s.toList==[115,116,101,112])=false:=by rw [eqB,hs];decide
  have e4:(s.toList==[98,108,97,109,101])=false:=by rw [eqB,hs];decide
  have e5:(s.toList==[109,101,114,103,101])=true:=by rw [eqB,hs];decide
  obtain ⟨bk,o,rfl,c0⟩:=Flat.get hi 0 (by simp)
  have x0:w.cell? ⟨bk,o+0,none⟩=some (.int .i64 a):=by
    obtain ⟨bk2,o2,e9,c9⟩:=Flat.get hi 0 (by simp)
    cases e9;simpa using c9
  have x0:=x0
  have x1:w.cell? ⟨bk,o+1,none⟩=some (.int .i64 b):=by
    obtain ⟨bk2,o2,e9,c9⟩:=Flat.get hi 1 (by simp)
    cases e9;simpa using c9
  have x1:=x1
  have x2:w.cell? ⟨bk,o+2,none⟩=some (.int .i64 c):=by
    obtain ⟨bk2,o2,e9,c9⟩:=Flat.get hi 2 (by simp)
    cases e9;simpa using c9
  have x2:=x2
  rw [Nat.add_zero] at x0
  have y0:=After.cell x0
  have y1:=After.cell x1
  have y2:=After.cell x2
  have HC:=Lib.hid hc
  clear hc hs hi c0
  go_enter Tryz.func21,Tryz.ntmps21
  go_upto_region 11 with fail
  refine wp_region_after_tail 10 (by kernel_rfl) (by kernel_rfl) ?_
  simp only [List.take_succ_cons,List.take_zero,List.drop_succ_cons,List.drop_zero]
  repeat (go_big_quiet_step (fail))
  refine wpQuiet_nil ?_
  rintro wq ⟨⟨_,hq⟩,rfl⟩
  go_wp2_with (go_at_call 38;(with_reducible refine Calls.mono (HC.out _ hq) ?_);rintro e w1 ⟨rfl,hd⟩)
  go_ret
  exact ⟨rfl,hd⟩
end
end Go.Proofs.YtdbnfhpgmcjngabGreatDoor
/- Walks: a desk's ask, all of it. -/
namespace Go.Proofs.YtdbnfhpgmcjngabGreatDoor
open Go Go.RowKit
section
variable {X:Nat→Prop} {base:Nat} {w:World} {M B:Nat} {vb vr:Value} {l:List UInt8} {ts:List Tr}
set_option maxRecDepth 100000 in
set_option maxHeartbeats 6400000 in
theorem ask_many (h:DeskOk X base w M B vb vr l ts) (s:ByteArray) (oa cap) (hs:s.data.toList=wMany) (hl:l.length≤700000000) :
    Calls Tryz.prog 21 #[.pointer (some ⟨M,0,none⟩),.string s,.slice oa 0 cap] w fun e w'=>e=.returned (.bool true)∧DeskPost X base w M B vb vr (l ++ manyP ts) ts w':=by
  have e1:(s.toList==[115,104,111,119])=false:=by rw [eqB,hs];decide
  have e2:(s.toList==[100,105,102,102])=false:=by rw [eqB,hs];decide
  have e3:(s.toList==[115,116,101,112])=false:=by rw [eqB,hs];decide
  have e4:(s.toList==[98,108,97,109,101])=false:=by rw [eqB,hs];decide
  have e5:(s.toList==[109,101,114,103,101])=false:=by rw [eqB,hs];decide
  have e6:(s.toList==[109,97,110,121])=true:=by rw [eqB,hs];decide
  have BC:=Lib.hid (stays h.bcell)
  have hn:=h.book.few
  have hcn:=cntD_le h.book.flt hn ts.length
  rw [List.take_length] at hcn
  obtain ⟨a,ha⟩:∃ a:Int,a=(ts.length:Int):=⟨_,rfl⟩
  obtain ⟨b,hb⟩:∃ b:Int,b=(cntD ts:Int):=⟨_,rfl⟩
  have hna:=itoa_few a (by omega) (by omega)
  have hnb:=itoa_few b (by omega) (by omega)
  have LE:Hid (∀ u,Pr w u→Calls Tryz.prog 39 #[.pointer (some ⟨B,0,none⟩)] u fun e w'=>e=.returned (.int .i64 a)∧Pr w w'):=Lib.hid fun u hp=>by
    rw [ha]
    refine (len_any B vb ts u (h.pr hp).book).mono ?_
    rintro e w' ⟨rfl,rfl⟩
    exact ⟨rfl,hp⟩
  have DE:Hid (∀ u,Pr w u→Calls Tryz.prog 40 #[.pointer (some ⟨B,0,none⟩)] u fun e w'=>e=.returned (.int .i64 b)∧Pr w w'):=Lib.hid fun u hp=>by
    rw [hb]
    exact (deeds_any B vb ts u (h.pr hp).book).mono fun e w' ⟨h1,h2⟩=>⟨h1,hp.trans h2⟩
  obtain ⟨na,hna2⟩:∃ x:ByteArray,x=⟨⟨Lib.itoa a⟩⟩:=⟨_,rfl⟩
  obtain ⟨nb,hnb2⟩:∃ x:ByteArray,x=⟨⟨Lib.itoa b⟩⟩:=⟨_,rfl⟩
  rw [← hna2] at hna;rw [← hnb2] at hnb
  have N1:Hid (∀ u,Pr w u→Calls Tryz.prog 26 #[.int .i64 a] u fun e w'=>e=.returned (.string na)∧Pr w w'):=Lib.hid fun u hp=>by
    rw [hna2];exact (dnum_any a (by omega) (by omega) u (h.tab.pr hp)).mono fun e w' ⟨h1,h2⟩=>⟨h1,hp.trans h2⟩
  have N2:Hid (∀ u,Pr w u→Calls Tryz.prog 26 #[.int .i64 b] u fun e w'=>e=.returned (.string nb)∧Pr w w'):=Lib.hid fun u hp=>by
    rw [hnb2];exact (dnum_any b (by omega) (by omega) u (h.tab.pr hp)).mono fun e w' ⟨h1,h2⟩=>⟨h1,hp.trans h2⟩
  have SY:Hid (∀ u,Pr w u→Calls Tryz.prog 22 #[.pointer (some ⟨M,0,none⟩),.slice (some ⟨u.heap.size,0,none⟩) 3 3] (u.alloc (.cells #[.string ⟨#[109,97,110,121]⟩,.string na,.string nb] 9)) fun e w'=>e=.returned (.tuple #[])∧DeskPost X base w M B vb vr (l ++ manyP ts) ts w'):=Lib.hid fun u hp=>by
    have:=say_three (h.pr hp) ⟨#[109,97,110,121]⟩ na nb (by show 4+na.size+nb.size≤_;omega) (by omega)
    refine this.mono fun e w' ⟨h1,h2⟩=>⟨h1,?_⟩
    have h3:=h2.pre hp
    rw [hna2,hnb2,ha,hb] at h3;exact h3
  clear h hs hn hcn ha hb hna hnb hna2 hnb2
  go_enter Tryz.func21,Tryz.ntmps21
  go_upto_region 13 with fail
  go_region_held3 (fun W'=>W'.cell? ⟨M,2,none⟩=some (.pointer (some ⟨B,0,none⟩)))
    (first | with_reducible exact BC.out _ (Pr.drew _) | with_reducible exact BC.out _ hpL | with_reducible exact BC.out _ hpA | with_reducible exact BC.out _ hpD | with_reducible exact BC.out _ hpB | with_reducible exact BC.out _ (hpA.alloc' _) | with_reducible exact BC.out _ (hpB.alloc' _) | with_reducible exact hd.bcell)
    (first
      | (go_at_call 39;(with_reducible refine Calls.mono (LE.out _ (by first | with_reducible exact Pr.drew _ | with_reducible exact hpD | with_reducible exact hpB)) ?_);rintro e w3 ⟨rfl,hpL⟩)
      | (go_at_call 40;(with_reducible refine Calls.mono (DE.out _ (by first | with_reducible exact Pr.drew _ | with_reducible exact hpL | with_reducible exact hpA)) ?_);rintro e w4 ⟨rfl,hpD⟩)
      | (go_at_call 26;(with_reducible refine Calls.mono (N1.out _ (by first | with_reducible exact hpL | with_reducible exact hpD | with_reducible exact hpB)) ?_);rintro e w5 ⟨rfl,hpA⟩)
      | (go_at_call 26;(with_reducible refine Calls.mono (N2.out _ (by first | with_reducible exact hpD | with_reducible exact hpL | with_reducible exact hpA)) ?_);rintro e w6 ⟨rfl,hpB⟩)
      | (go_at_call 22;(with_reducible refine Calls.mono (SY.out _ (by first | with_reducible exact hpA | with_reducible exact hpB)) ?_);rintro e w7 ⟨rfl,hd⟩))
  all_goals
    go_wp2_with fail
    go_ret
    exact ⟨rfl,hd⟩
def AskPost (X:Nat→Prop) (base:Nat) (w:World) (M B:Nat) (vb vr:Value) (l:List UInt8) (ts:List Tr) (r:Option Told) (e:Ending) (w':World):Prop :=
  e=.returned (.bool r.isSome)∧DeskPost X base w M B vb vr (l ++ (r.getD (ts,[])).2) (r.getD (ts,[])).1 w'
theorem askPost_none (h:DeskOk X base w M B vb vr l ts) {s:ByteArray} {L:Nat} {oa cap}
    (hno:¬ (s.data.toList=wShow∧L=1)∧¬ (s.data.toList=wDiff∧L=2)∧¬ (s.data.toList=wStep∧L=1)∧¬ (s.data.toList=wBlame∧L=1)∧¬ (s.data.toList=wMerge∧L=3)∧¬ (s.data.toList=wMany∧L=0)) :
    Calls Tryz.prog 21 #[.pointer (some ⟨M,0,none⟩),.string s,.slice oa L cap] w (AskPost X base w M B vb vr l ts none) :=
  (ask_no s M L oa cap w hno).mono fun e w' ⟨h1,h2⟩=>⟨h1,by rw [show (Option.getD (none:Option Told) (ts,[]))=(ts,[]) from rfl,List.append_nil];exact (DeskPost.refl h).suf h2⟩
theorem dask_any (h:DeskOk X base w M B vb vr l ts) (s:ByteArray) (ns:List Int) (oa cap) (hi:Ints Any w ns oa cap) (hl:l.length≤700000000) :
    Calls Tryz.prog 21 #[.pointer (some ⟨M,0,none⟩),.string s,.slice oa ns.length cap] w (AskPost X base w M B vb vr l ts (askP ts s.data.toList ns)):=by
  match ns,hi with
  | [],hi =>
    by_cases g:s.data.toList=wMany
    · rw [show askP ts s.data.toList []=some (ts,manyP ts) by simp only [askP];rw [if_pos g]]
      exact ask_many h s oa cap g hl
    · rw [show askP ts s.data.toList []=none by simp only [askP];rw [if_neg g]]
      exact askPost_none h ⟨(fun e=>by cases e.2),(fun e=>by cases e.2),(fun e=>by cases e.2),(fun e=>by cases e.2),(fun e=>by cases e.2),fun e=>g e.1⟩
  | [a],hi =>
    by_cases g1:s.data.toList=wShow
    · rw [show askP ts s.data.toList [a]=some (ts,showP ts a) by simp only [askP];rw [if_pos g1]]
      exact ask_show s M a oa cap w g1 hi _ fun u hp=>(dshow_any (h.pr hp) a (by omega)).mono fun e w' ⟨h1,h2⟩=>⟨h1,h2.pre hp⟩
    · by_cases g2:s.data.toList=wStep
      · rw [show askP ts s.data.toList [a]=some (ts,stepDP ts a) by simp only [askP];rw [if_neg g1,if_pos g2]]
        exact ask_step s M a oa cap w g2 hi _ fun u hp=>(dstep_any (h.pr hp) a (by omega)).mono fun e w' ⟨h1,h2⟩=>⟨h1,h2.pre hp⟩
      · by_cases g3:s.data.toList=wBlame
        · rw [show askP ts s.data.toList [a]=some (ts,blameDP ts a) by simp only [askP];rw [if_neg g1,if_neg g2,if_pos g3]]
          exact ask_blame s M a oa cap w g3 hi _ fun u hp=>(dblame_any (h.pr hp) a (by omega)).mono fun e w' ⟨h1,h2⟩=>⟨h1,h2.pre hp⟩
        · rw [show askP ts s.data.toList [a]=none by simp only [askP];rw [if_neg g1,if_neg g2,if_neg g3]]
          exact askPost_none h ⟨fun e=>g1 e.1,(fun e=>by cases e.2),fun e=>g2 e.1,fun e=>g3 e.1,(fun e=>by cases e.2),(fun e=>by cases e.2)⟩
  | [a,b],hi =>
    by_cases g:s.data.toList=wDiff
    · rw [show askP ts s.data.toList [a,b]=some (ts,diffDP ts a b) by simp only [askP];rw [if_pos g]]
      exact ask_diff s M a b oa cap w g hi _ fun u hp=>(ddiff_any (h.pr hp) a b (by omega)).mono fun e w' ⟨h1,h2⟩=>⟨h1,h2.pre hp⟩
    · rw [show askP ts s.data.toList [a,b]=none by simp only [askP];rw [if_neg g]]
      exact askPost_none h ⟨(fun e=>by cases e.2),fun e=>g e.1,(fun e=>by cases e.2),(fun e=>by cases e.2),(fun e=>by cases e.2),(fun e=>by cases e.2)⟩
  | [a,b,c],hi =>
    by_cases g:s.data.toList=wMerge
    · rw [show askP ts s.data.toList [a,b,c]=some (mergeDP ts a b c) by simp only [askP];rw [if_pos g]]
      exact ask_merge s M a b c oa cap w g hi _ fun u hp=>(dmerge_any (h.pr hp) a b c (by omega)).mono fun e w' ⟨h1,h2⟩=>⟨h1,h2.pre hp⟩
    · rw [show askP ts s.data.toList [a,b,c]=none by simp only [askP];rw [if_neg g]]
      exact askPost_none h ⟨(fun e=>by cases e.2),(fun e=>by cases e.2),(fun e=>by cases e.2),(fun e=>by cases e.2),fun e=>g e.1,(fun e=>by cases e.2)⟩
  | a :: b :: c :: d :: r,hi =>
    rw [show askP ts s.data.toList (a :: b :: c :: d :: r)=none by simp only [askP]]
    have hL:(a :: b :: c :: d :: r).length=r.length+4:=rfl
    exact askPost_none h ⟨fun e=>by omega,fun e=>by omega,fun e=>by omega,fun e=>by omega,fun e=>by omega,fun e=>by omega⟩
end
end Go.Proofs.YtdbnfhpgmcjngabGreatDoor
/- Walks: a desk's line. -/
namespace Go.Proofs.YtdbnfhpgmcjngabGreatDoor
open Go Go.RowKit
theorem headW_len (s:List UInt8):(headW s).length≤s.length:=by
  unfold headW
  cases h:cutC 32 s with
  | nil=>simp
  | cons x r=>exact cut_le 32 s x (by rw [h];simp)
theorem restW_len (s:List UInt8):(restW s).length≤s.length:=by
  unfold restW
  have hj:=join_cut 32 s
  cases h:cutC 32 s with
  | nil=>simp [joinC]
  | cons x r =>
    rw [h] at hj
    cases r with
    | nil=>simp [joinC]
    | cons y r=>rw [← hj,joinC];simp;omega
theorem wordsW_mem {s x:List UInt8} (h:x∈wordsW s):x.length≤s.length:=by
  unfold wordsW at h
  exact cut_le 32 s x (List.mem_filter.1 h).1
theorem wordsW_len (s:List UInt8):(wordsW s).length≤s.length+1∧(cutC 32 s).length≤s.length+1:=by
  unfold wordsW
  have h1:=List.length_filter_le (fun w:List UInt8=>decide (w≠[])) (cutC 32 s)
  have h2:=cut_length 32 s
  have h3:=List.count_le_length (a:=(32:UInt8)) (l:=s)
  omega
theorem numbersP_one (x:List UInt8):numbersP [x]=match numP x with | none=>none | some n=>some [n]:=by
  rw [numbersP]
  cases numP x <;> simp [numbersP]
section
variable {X:Nat→Prop} {base:Nat} {w:World} {M B:Nat} {vb vr:Value} {l:List UInt8} {ts:List Tr}
set_option maxRecDepth 100000 in
set_option maxHeartbeats 6400000 in
theorem line_first (h:DeskOk X base w M B vb vr l ts) (s:ByteArray) (hs:s.size≤100000) (hl:l.length≤700000000) (hw:headW s.data.toList=wTree∨(headW s.data.toList=wDo∧hasW (restW s.data.toList)=true∧∃ n,numP (headW (restW s.data.toList))=some n)) :
    Calls Tryz.prog 11 #[.pointer (some ⟨M,0,none⟩),.string s] w fun e w'=>e=.returned (.tuple #[])∧DeskPost X base w M B vb vr (l ++ (lineD ts s.data.toList).2) (lineD ts s.data.toList).1 w':=by
  have h1:=headW_len s.data.toList
  have h2:=restW_len s.data.toList
  rw [sizeL] at h1 h2
  obtain ⟨hd,hhd⟩:∃ x:ByteArray,x=⟨⟨headW s.data.toList⟩⟩:=⟨_,rfl⟩
  obtain ⟨rs,hrs⟩:∃ x:ByteArray,x=⟨⟨restW s.data.toList⟩⟩:=⟨_,rfl⟩
  have hhd2:hd.data.toList=headW s.data.toList:=by rw [hhd]
  have hrs2:rs.data.toList=restW s.data.toList:=by rw [hrs]
  have hrz:rs.size≤100000:=by rw [← sizeL,hrs2];omega
  have C1:=Lib.hid (cut_any s w (by omega) h.tab)
  rw [← hhd,← hrs] at C1
  generalize hasW s.data.toList=hb at C1
  rcases hw with hw | ⟨hw,hok,n,hn⟩
  · have e1:(hd.toList==[116,114,101,101])=true:=by rw [eqB,hhd2,hw];decide
    have hr:lineD ts s.data.toList=addP ts rs.data.toList:=by unfold lineD;rw [if_pos hw,hrs2]
    rw [hr]
    have AD:Hid (∀ u,Pr w u→Calls Tryz.prog 15 #[.pointer (some ⟨M,0,none⟩),.string rs] u fun e w'=>e=.returned (.tuple #[])∧DeskPost X base w M B vb vr (l ++ (addP ts rs.data.toList).2) (addP ts rs.data.toList).1 w'):=Lib.hid fun u hp =>
      (dadd_any (h.pr hp) rs (by omega) (by omega)).mono fun e w' ⟨h1,h2⟩=>⟨h1,h2.pre hp⟩
    clear h h1 h2 hhd hrs hhd2 hrs2 hw hr
    go_enter Tryz.func11,Tryz.ntmps11
    go_wp2_with (first
      | (go_at_call 14;(with_reducible refine Calls.mono C1.out ?_);rintro e w1 ⟨rfl,hp1⟩)
      | (go_at_call 15;(with_reducible refine Calls.mono (AD.out _ hp1) ?_);rintro e w2 ⟨rfl,hd2⟩))
    refine bodyPost_ret (results_none rfl _ _ _) rfl ?_
    exact ⟨rfl,hd2⟩
  · have e1:(hd.toList==[116,114,101,101])=false:=by rw [eqB,hhd2,hw];decide
    have e2:(hd.toList==[100,111])=true:=by rw [eqB,hhd2,hw];decide
    have h3:=headW_len (restW s.data.toList)
    have h4:=restW_len (restW s.data.toList)
    obtain ⟨f,hf⟩:∃ x:ByteArray,x=⟨⟨headW (restW s.data.toList)⟩⟩:=⟨_,rfl⟩
    obtain ⟨ln,hln⟩:∃ x:ByteArray,x=⟨⟨restW (restW s.data.toList)⟩⟩:=⟨_,rfl⟩
    have hf2:f.data.toList=headW (restW s.data.toList):=by rw [hf]
    have hln2:ln.data.toList=restW (restW s.data.toList):=by rw [hln]
    have hlz:ln.size≤100000:=by rw [← sizeL,hln2];omega
    have hfz:f.size≤100000:=by rw [← sizeL,hf2];omega
    have C2:Hid (∀ u,Pr w u→Calls Tryz.prog 14 #[.string rs,.string ⟨#[32]⟩] u fun e w'=>e=.returned (.tuple #[.string f,.string ln,.bool true])∧Pr u w'):=Lib.hid fun u hp=>by
      have:=cut_any rs u (by omega) (h.tab.pr hp)
      rw [hrs2,hok,← hf,← hln] at this
      exact this
    have hno:numbersP [f.data.toList]=some [n]:=by rw [numbersP_one,hf2,hn]
    have NU:Hid (∀ u,Pr w u→Calls Tryz.prog 16 #[.slice (some ⟨u.heap.size,0,none⟩) 1 1] (u.alloc (.cells #[.string f] 9)) (NumsPost (some [n]) (u.alloc (.cells #[.string f] 9)))):=Lib.hid fun u hp=>by
      have:=numbers_any [f.data.toList] (some ⟨u.heap.size,0,none⟩) 1 _ (strs1 u f) (fun x hx=>by rw [List.mem_singleton] at hx;rw [hx,sizeL];omega) (by simp) (h.tab.pr (hp.alloc' (.cells #[.string f] 9)))
      rw [hno] at this
      exact this
    unfold NumsPost at NU
    have hr:lineD ts s.data.toList=doP ts n ln.data.toList:=by
      unfold lineD
      rw [if_neg (by rw [hw];decide),if_pos ⟨hw,hok⟩,hn,hln2]
    rw [hr]
    have DO:Hid (∀ u,Pr w u→Calls Tryz.prog 17 #[.pointer (some ⟨M,0,none⟩),.int .i64 n,.string ln] u fun e w'=>e=.returned (.tuple #[])∧DeskPost X base w M B vb vr (l ++ (doP ts n ln.data.toList).2) (doP ts n ln.data.toList).1 w'):=Lib.hid fun u hp =>
      (ddo_any (h.pr hp) n ln (by omega) (by omega)).mono fun e w' ⟨h1,h2⟩=>⟨h1,h2.pre hp⟩
    clear h h1 h2 h3 h4 hhd hrs hhd2 hrs2 hw hr hf hln hf2 hln2 hok hn hno
    go_enter Tryz.func11,Tryz.ntmps11
    go_wp2_with (first
      | (go_at_call 14;(with_reducible refine Calls.mono C1.out ?_);rintro e w1 ⟨rfl,hp1⟩)
      | (go_at_call 14;(with_reducible refine Calls.mono (C2.out _ hp1) ?_);rintro e w2 ⟨rfl,hp2⟩)
      | (go_at_call 16;(with_reducible refine Calls.mono (NU.out _ (hp1.trans hp2)) ?_);rintro e w3 ⟨oa,cap,rfl,hi,hp3⟩;obtain ⟨bk,o,rfl,c0⟩:=Ints.get hi 0 (by simp);have c0:w3.cell? ⟨bk,o,none⟩=some (.int .i64 n):=(by simpa using c0))
      | (go_at_call 17;(with_reducible refine Calls.mono (DO.out _ ((hp1.trans hp2).trans ((Pr.alloc _ _).trans hp3))) ?_);rintro e w4 ⟨rfl,hd2⟩))
    refine bodyPost_ret (results_none rfl _ _ _) rfl ?_
    exact ⟨rfl,hd2⟩
end
end Go.Proofs.YtdbnfhpgmcjngabGreatDoor
