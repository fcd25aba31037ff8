/- Walks: the functions that look at a tree: its size, its depth, its labels. -/
import Derived.Test.YtdbnfhpgmcjngabGreatDoorMem
import Derived.Test.YtdbnfhpgmcjngabGreatDoorProg
namespace Go.Proofs.YtdbnfhpgmcjngabGreatDoor
open Go Go.RowKit
theorem ret_int {k:IntKind} {a b:Int} (h:a=b):Ending.returned (.int k a)=.returned (.int k b):=by rw [h]
theorem ret_bool {a b:Bool} (h:a=b):Ending.returned (.bool a)=.returned (.bool b):=by rw [h]
def leftR (s:Nat) (n:Int):Int:=max (n - s) (-1)
set_option maxHeartbeats 400000 in
theorem left_any (N:Nat):∀ (l:ByteArray) (ks:List Tr) (oa cap) (n:Int) (w:World),Tr.szL ks < N→0≤n→n≤1000→Kids Any w ks oa cap →
    Calls Tryz.prog 78 #[.agg #[.string l,.slice oa ks.length cap],.int .i64 n] w fun e w'=>e=.returned (.int .i64 (leftR (Tr.szL ks+1) n))∧Pr w w':=by
  induction N with
  | zero=>intro l ks oa cap n w hN;omega
  | succ N ih =>
    intro l ks oa cap n w hN h0 h1 hk
    have Ih:=Lib.hid ih;clear ih
    have hm:=hk.len
    go_enter Tryz.func78,Tryz.ntmps78
    go_wp2_with fail
    go_loopw [1,5] (fun v i wr=>∃ (k:Nat) (r:Int),k≤ks.length∧i=.int .i64 k∧v=.int .i64 r∧r=max (n - 1 - Tr.szL (ks.take k)) (-1)∧Pr (w.alloc (.cells #[.string l,.slice oa ks.length cap] 46)) wr) (fun _ i _=>ks.length - (intOf i).toNat)
    case atStart=>exact ⟨0,_,by omega,rfl,rfl,by simp;omega,Pr.refl _⟩
    case round =>
      obtain ⟨k,r,hkl,rfl,rfl,hr,hb⟩:=hrel
      have hc0:wr.cell? ⟨w.heap.size,1,none⟩=some (.slice oa ks.length cap):=hb.cell (by simp [go_sem])
      have Hr:=Lib.hid hr
      have r0:-1≤r:=by omega
      have r1:r≤n:=by omega
      clear hr
      by_cases hlt:k < ks.length
      · obtain ⟨b,o,l',ks',oa',cap',e1,_,rfl,c0,c1,hk'⟩:=((hk.pr (Pr.alloc _ _)).pr hb).get k hlt
        have hs:=Tr.szL_take_succ ks k hlt
        have hsz:=Tr.szL_get ks k hlt
        have htl:=Tr.szL_take_le ks k
        rw [e1] at hs hsz
        have Hs:=Lib.hid hs
        have He:=Lib.hid e1
        clear hs e1
        simp only [Tr.sz] at hsz
        go_wp2_with (go_at_call 78;refine (Ih.out _ _ _ _ _ _ (by omega) (by omega) (by omega) hk').mono ?_;rintro e w' ⟨rfl,hb'⟩)
        · refine ⟨⟨k+1,_,by omega,by go_num,rfl,?_,hb.trans hb'⟩,?_⟩
          · have h1:=Hr.out;have h2:=Hs.out;simp only [leftR,Tr.sz] at *;omega
          · simp [intOf];omega
        · go_ret
          exact ⟨ret_int (by have h1:=Hr.out;simp only [leftR];omega),(Pr.alloc _ _).trans hb⟩
      · have hkv:k=ks.length:=by omega
        go_wp2_with fail
        go_ret
        exact ⟨ret_int (by have h1:=Hr.out;subst hkv;simp only [leftR,List.take_length] at *;omega),(Pr.alloc _ _).trans hb⟩
end Go.Proofs.YtdbnfhpgmcjngabGreatDoor
/- Walks: the functions that look at a tree's labels and depth. -/
namespace Go.Proofs.YtdbnfhpgmcjngabGreatDoor
open Go Go.RowKit
set_option maxHeartbeats 400000 in
theorem indexFunc_any (p:Tr→Bool) (g:Nat) (cv:List Value) (ks:List Tr) (oa cap) (w:World) (hk:Kids Any w ks oa cap)
    (hg:∀ args w,(callFunc g args).run Tryz.prog w=.ok (.enter g args) w)
    (H:∀ (k:Nat) (h:k < ks.length) l' ks' oa' cap' wr,ks[k]=.node l' ks'→l'.size≤maxLen→Pr w wr→Kids Any wr ks' oa' cap' →
      Calls Tryz.prog g (.agg #[.string l',.slice oa' ks'.length cap'] :: cv).toArray wr fun e w'=>e=.returned (.bool (p ks[k]))∧Pr wr w') :
    Calls Tryz.prog 147 #[.slice oa ks.length cap,.func (.func g) #[] cv.toArray] w fun e w' =>
      (∃ r:Int,e=.returned (.int .i64 r)∧(decide (0≤r)=ks.any p))∧Pr w w':=by
  have hm:=hk.len
  have HH:=Lib.hid H;clear H
  go_enter Tryz.func147,Tryz.ntmps147
  go_wp2_with fail
  go_loopw [8] (fun i wr=>∃ (k:Nat),k≤ks.length∧i=.int .i64 k∧(ks.take k).any p=false∧Pr w wr) (fun i _=>ks.length - (intOf i).toNat)
  case atStart=>exact ⟨0,by omega,rfl,by simp,Pr.refl _⟩
  case round =>
    obtain ⟨k,hkl,rfl,hr,hb⟩:=hrel
    have Hr:=Lib.hid hr;clear hr
    by_cases hlt:k < ks.length
    · obtain ⟨b,o,l',ks',oa',cap',e1,hl',rfl,c0,c1,hk'⟩:=(hk.pr hb).get k hlt
      have hc:=HH.out k hlt l' ks' oa' cap' wr e1 hl' hb hk'
      have He:=Lib.hid e1;clear e1
      have Hc:=Lib.hid hc;clear hc
      have hat:ks.any p=true∨p ks[k]=false:=by
        by_cases h:p ks[k]=true
        · exact .inl (List.any_eq_true.2 ⟨_,List.getElem_mem hlt,h⟩)
        · exact .inr (by simpa using h)
      by_cases hp:p ks[k]=true
      · have hany:ks.any p=true:=List.any_eq_true.2 ⟨_,List.getElem_mem hlt,hp⟩
        have Hany:=Lib.hid hany;clear hany hat
        have Hp:=Lib.hid hp;clear hp
        go_wp2_with (refine Calls.mono Hc.out ?_;rintro e w' ⟨rfl,hb'⟩;simp only [Hp.out])
        go_ret
        exact ⟨⟨k,rfl,by rw [Hany.out];simp⟩,hb.trans hb'⟩
      · have hp':p ks[k]=false:=by simpa using hp
        have Hp:=Lib.hid hp';clear hp hp' hat
        go_wp2_with (refine Calls.mono Hc.out ?_;rintro e w' ⟨rfl,hb'⟩;simp only [Hp.out])
        refine ⟨⟨k+1,by omega,by go_num,?_,hb.trans hb'⟩,?_⟩
        · rw [List.take_succ_eq_append_getElem hlt,List.any_append,Hr.out];simp [Hp.out]
        · simp [intOf];omega
    · have hkv:k=ks.length:=by omega
      go_wp2_with fail
      go_ret
      exact ⟨⟨-1,rfl,by subst hkv;have:=Hr.out;rw [List.take_length] at this;rw [this];rfl⟩,hb⟩
theorem containsFunc_any (p:Tr→Bool) (g:Nat) (cv:List Value) (ks:List Tr) (oa cap) (w:World) (hk:Kids Any w ks oa cap)
    (hg:∀ args w,(callFunc g args).run Tryz.prog w=.ok (.enter g args) w)
    (H:∀ (k:Nat) (h:k < ks.length) l' ks' oa' cap' wr,ks[k]=.node l' ks'→l'.size≤maxLen→Pr w wr→Kids Any wr ks' oa' cap' →
      Calls Tryz.prog g (.agg #[.string l',.slice oa' ks'.length cap'] :: cv).toArray wr fun e w'=>e=.returned (.bool (p ks[k]))∧Pr wr w') :
    Calls Tryz.prog 119 #[.slice oa ks.length cap,.func (.func g) #[] cv.toArray] w fun e w'=>e=.returned (.bool (ks.any p))∧Pr w w':=by
  have h1:=Lib.hid (indexFunc_any p g cv ks oa cap w hk hg H)
  clear H hg
  go_enter Tryz.func119,Tryz.ntmps119
  go_wp2_with (go_at_call 147;refine Calls.mono h1.out ?_;rintro e w' ⟨⟨r,rfl,hr⟩,hb'⟩;have Hr:=Lib.hid hr;clear hr)
  go_ret
  exact ⟨ret_bool Hr.out,hb'⟩
theorem deep1_run:∀ args w,(callFunc 120 args).run Tryz.prog w=.ok (.enter 120 args) w:=fun _ _=>by kernel_rfl
theorem named1_run:∀ args w,(callFunc 121 args).run Tryz.prog w=.ok (.enter 121 args) w:=fun _ _=>by kernel_rfl
set_option maxHeartbeats 400000 in
theorem deep_any (N:Nat):∀ (l:ByteArray) (ks:List Tr) (oa cap) (n:Int) (w:World),Tr.szL ks < N→-1≤n→n≤1000→l.size≤maxLen→Kids Any w ks oa cap →
    Calls Tryz.prog 79 #[.agg #[.string l,.slice oa ks.length cap],.int .i64 n] w fun e w'=>e=.returned (.bool ((Tr.node l ks).deepZ n))∧Pr w w':=by
  induction N with
  | zero=>intro l ks oa cap n w hN;omega
  | succ N ih =>
    intro l ks oa cap n w hN h0 h1 hl hk
    have Ih:=Lib.hid ih;clear ih
    by_cases hn:0≤n
    · have hc : ∀ wr, Pr ((w.alloc (.cells #[.string l, .slice oa ks.length cap] 46)).alloc (.cells #[.int .i64 n] 3)) wr →
          Calls Tryz.prog 119 #[.slice oa ks.length cap,.func (.func 120) #[] #[.pointer (some ⟨w.heap.size+1,0,none⟩)]] wr fun e w'=>e=.returned (.bool (ks.any fun k=>!k.deepZ (n - 1)))∧Pr wr w':=by
        intro wr hb
        refine containsFunc_any (fun k=>!k.deepZ (n - 1)) 120 [.pointer (some ⟨w.heap.size+1,0,none⟩)] ks oa cap wr (((hk.pr (Pr.alloc _ _)).pr (Pr.alloc _ _)).pr hb) deep1_run ?_
        intro k hlt l' ks' oa' cap' wr' e1 hl' hb' hk'
        have hcell:∀ o,(wr'.alloc o).cell? ⟨w.heap.size+1,0,none⟩=some (.int .i64 n):=fun o=>(Pr.alloc _ o).cell (hb'.cell (hb.cell (by simp [go_sem])))
        have hsz:=Tr.szL_get ks k hlt
        rw [e1] at hsz ⊢
        simp only [Tr.sz] at hsz
        clear e1
        go_enter Tryz.func120,Tryz.ntmps120
        go_wp2_with (go_at_call 79;refine (Ih.out _ _ _ _ _ _ (by omega) (by omega) (by omega) hl' (hk'.pr (Pr.alloc _ _))).mono ?_;rintro e w' ⟨rfl,hb''⟩)
        go_ret
        exact ⟨rfl,(Pr.alloc _ _).trans hb''⟩
      have Hc:=Lib.hid hc;clear hc
      go_enter Tryz.func79,Tryz.ntmps79
      go_wp2_with (go_at_call 119;refine (Hc.out _ (Pr.refl _)).mono ?_;rintro e w' ⟨rfl,hb⟩)
      go_ret
      refine ⟨ret_bool ?_,((Pr.alloc _ _).alloc' _).trans hb⟩
      simp only [Tr.deepZ,hn,decide_true,Bool.true_and]
      rw [Bool.eq_iff_iff,Tr.deepZL_iff];simp
    · go_enter Tryz.func79,Tryz.ntmps79
      go_wp2_with fail
      go_ret
      exact ⟨ret_bool (by simp [Tr.deepZ];intro h;omega),(Pr.alloc _ _).alloc' _⟩
theorem lab_any (s:ByteArray) (w:World) (hs:s.size≤maxLen) :
    Calls Tryz.prog 91 #[.string s] w fun e w'=>e=.returned (.bool (isLab s))∧w=w':=by
  unfold maxLen at hs
  go_enter Tryz.func91,Tryz.ntmps91
  go_wp2_with fail
  go_loopw [6] (fun i wr=>∃ k:Nat,k≤s.size∧i=.int .i64 k∧(s.data.toList.take k).all okC=true∧wr=w) (fun i _=>s.size - (intOf i).toNat)
  case atStart=>exact ⟨0,by omega,rfl,by simp,rfl⟩
  case round =>
    obtain ⟨k,hk,rfl,hr,rfl⟩:=hrel
    have Hr:=Lib.hid hr;clear hr
    by_cases hlt:k < s.size
    · have Hiff:=Lib.hid (okC_iff s[k])
      go_wp2_with fail
      · go_ret
        exact ⟨ret_bool (isLab_bad s k hlt (by rw [Bool.eq_false_iff,Ne,Hiff.out];omega)).symm,rfl⟩
      · refine ⟨⟨k+1,by omega,by go_num,okC_snoc s k hlt Hr.out (by rw [Hiff.out];omega),trivial⟩,?_⟩
        simp [intOf];omega
      · go_ret
        exact ⟨ret_bool (isLab_bad s k hlt (by rw [Bool.eq_false_iff,Ne,Hiff.out];omega)).symm,rfl⟩
    · have hkv:k=s.size:=by omega
      have He:Hid (isLab s=(decide (0 < s.size) && decide (s.size≤6))):=okC_end s (hkv ▸ Hr.out)
      go_wp2_with fail
      all_goals
        go_ret
        refine ⟨ret_bool ?_,rfl⟩
        rw [He.out]
        have hsz:s.size=s.toList.length:=by rw [ByteArray.toList_eq];simp
      · rename_i h
        rw [hsz,h];rfl
      · rename_i h
        have h0:0 < s.toList.length:=List.length_pos_iff.2 h
        have h1:s.toList.isEmpty=false:=by simpa using h
        rw [← hsz] at h0
        rw [h1,Bool.eq_iff_iff];simp;omega
set_option maxHeartbeats 400000 in
theorem named_any (N:Nat):∀ (l:ByteArray) (ks:List Tr) (oa cap) (w:World),Tr.szL ks < N→l.size≤maxLen→Kids Any w ks oa cap →
    Calls Tryz.prog 80 #[.agg #[.string l,.slice oa ks.length cap]] w fun e w'=>e=.returned (.bool ((Tr.node l ks).named))∧Pr w w':=by
  induction N with
  | zero=>intro l ks oa cap w hN;omega
  | succ N ih =>
    intro l ks oa cap w hN hl hk
    have Ih:=Lib.hid ih;clear ih
    have hc:∀ wr,Pr (w.alloc (.cells #[.string l,.slice oa ks.length cap] 46)) wr →
        Calls Tryz.prog 119 #[.slice oa ks.length cap,.func (.func 121) #[] #[]] wr fun e w'=>e=.returned (.bool (ks.any fun k=>!k.named))∧Pr wr w':=by
      intro wr hb
      refine containsFunc_any (fun k=>!k.named) 121 [] ks oa cap wr ((hk.pr (Pr.alloc _ _)).pr hb) named1_run ?_
      intro k hlt l' ks' oa' cap' wr' e1 hl' hb' hk'
      have hsz:=Tr.szL_get ks k hlt
      rw [e1] at hsz ⊢
      simp only [Tr.sz] at hsz
      clear e1
      go_enter Tryz.func121,Tryz.ntmps121
      go_wp2_with (go_at_call 80;refine (Ih.out _ _ _ _ _ (by omega) hl' (hk'.pr (Pr.alloc _ _))).mono ?_;rintro e w' ⟨rfl,hb''⟩)
      go_ret
      exact ⟨rfl,(Pr.alloc _ _).trans hb''⟩
    have Hc:=Lib.hid hc;clear hc
    by_cases hL:isLab l=true
    · have HL:=Lib.hid hL;clear hL
      go_enter Tryz.func80,Tryz.ntmps80
      go_wp2_with (first | (go_at_call 91;refine (lab_any _ _ hl).mono ?_;rintro e w' ⟨rfl,rfl⟩;simp only [HL.out]) | (go_at_call 119;refine (Hc.out _ (Pr.refl _)).mono ?_;rintro e w' ⟨rfl,hb⟩))
      go_ret
      refine ⟨ret_bool ?_,(Pr.alloc _ _).trans hb⟩
      simp only [Tr.named,HL.out,Bool.true_and]
      rw [Bool.eq_iff_iff,Tr.namedL_iff];simp
    · have hL':isLab l=false:=by simpa using hL
      have HL:=Lib.hid hL';clear hL hL'
      go_enter Tryz.func80,Tryz.ntmps80
      go_wp2_with (go_at_call 91;refine (lab_any _ _ hl).mono ?_;rintro e w' ⟨rfl,rfl⟩;simp only [HL.out])
      go_ret
      exact ⟨ret_bool (by simp [Tr.named,HL.out]),Pr.alloc _ _⟩
set_option maxHeartbeats 400000 in
theorem check_any (l:ByteArray) (ks:List Tr) (oa cap) (w:World) (hl:l.size≤maxLen) (hk:Kids Any w ks oa cap) :
    Calls Tryz.prog 51 #[.agg #[.string l,.slice oa ks.length cap]] w fun e w'=>e=.returned (.int .i64 (fault (.node l ks)))∧Pr w w':=by
  by_cases h1:40 < (Tr.node l ks).sz
  · have hr:leftR (Tr.szL ks+1) 40 < 0:=by simp only [Tr.sz] at h1;unfold leftR;omega
    have Hf:Hid ((fault (.node l ks):Int)=2):=by unfold fault;rw [if_pos h1];rfl
    clear h1
    go_enter Tryz.func51,Tryz.ntmps51
    go_wp2_with (go_at_call 78;refine (left_any _ _ _ _ _ _ _ (Nat.lt_succ_self _) (by omega) (by omega) (hk.pr (Pr.alloc _ _))).mono ?_;rintro e w' ⟨rfl,hb⟩)
    go_ret
    exact ⟨ret_int Hf.out.symm,(Pr.alloc _ _).trans hb⟩
  · have hr:0≤leftR (Tr.szL ks+1) 40:=by simp only [Tr.sz] at h1;unfold leftR;omega
    by_cases h2:(Tr.node l ks).deepZ 10=true
    · have H2:=Lib.hid h2
      have hn:∀ b:Bool,(Tr.node l ks).named=b→fault (.node l ks)=if b then 0 else 1:=by
        intro b hb;unfold fault;rw [if_neg h1,h2,hb];cases b <;> rfl
      have Hn:=Lib.hid hn
      clear h1 h2 hn
      have three:∀ b:Bool,Hid ((Tr.node l ks).named=b)→Calls Tryz.prog 51 #[.agg #[.string l,.slice oa ks.length cap]] w fun e w'=>e=.returned (.int .i64 (fault (.node l ks)))∧Pr w w':=by
        intro b Hb
        cases b
        all_goals
          have Hf:=Lib.hid (Hn.out _ Hb.out)
          go_enter Tryz.func51,Tryz.ntmps51
          go_wp2_with (first
            | (go_at_call 78;refine (left_any _ _ _ _ _ _ _ (Nat.lt_succ_self _) (by omega) (by omega) (hk.pr (Pr.alloc _ _))).mono ?_;rintro e w1 ⟨rfl,hb⟩;have c0:=hb.cell (b:=w.heap.size) (o:=0) (v:=.string l) (by simp [go_sem]);have c1:=hb.cell (b:=w.heap.size) (o:=1) (v:=.slice oa ks.length cap) (by simp [go_sem]))
            | (go_at_call 79;refine (deep_any _ _ _ _ _ _ _ (Nat.lt_succ_self _) (by omega) (by omega) hl ((hk.pr (Pr.alloc _ _)).pr (by assumption))).mono ?_;rintro e w2 ⟨rfl,hb2⟩;simp only [H2.out];have d0:=hb2.cell c0;have d1:=hb2.cell c1;clear c0 c1)
            | (go_at_call 80;refine (named_any _ _ _ _ _ _ (Nat.lt_succ_self _) hl (((hk.pr (Pr.alloc _ _)).pr (by assumption)).pr (by assumption))).mono ?_;rintro e w3 ⟨rfl,hb3⟩;simp only [Hb.out]))
          go_ret
          exact ⟨ret_int (by rw [Hf.out];rfl),(((Pr.alloc _ _).trans hb).trans hb2).trans hb3⟩
      exact three _ rfl
    · have h2':(Tr.node l ks).deepZ 10=false:=by simpa using h2
      have H2:=Lib.hid h2'
      have Hf:Hid ((fault (.node l ks):Int)=3):=by unfold fault;rw [if_neg h1,if_pos h2'];rfl
      clear h1 h2 h2'
      go_enter Tryz.func51,Tryz.ntmps51
      go_wp2_with (first
        | (go_at_call 78;refine (left_any _ _ _ _ _ _ _ (Nat.lt_succ_self _) (by omega) (by omega) (hk.pr (Pr.alloc _ _))).mono ?_;rintro e w1 ⟨rfl,hb⟩;have c0:=hb.cell (b:=w.heap.size) (o:=0) (v:=.string l) (by simp [go_sem]);have c1:=hb.cell (b:=w.heap.size) (o:=1) (v:=.slice oa ks.length cap) (by simp [go_sem]))
        | (go_at_call 79;refine (deep_any _ _ _ _ _ _ _ (Nat.lt_succ_self _) (by omega) (by omega) hl ((hk.pr (Pr.alloc _ _)).pr (by assumption))).mono ?_;rintro e w2 ⟨rfl,hb2⟩;simp only [H2.out]))
      go_ret
      exact ⟨ret_int Hf.out.symm,((Pr.alloc _ _).trans hb).trans hb2⟩
end Go.Proofs.YtdbnfhpgmcjngabGreatDoor
/- Walks: what the document's answer looks at in a tree. -/
namespace Go.Proofs.YtdbnfhpgmcjngabGreatDoor
open Go Go.RowKit
end Go.Proofs.YtdbnfhpgmcjngabGreatDoor
/- Walks: are two trees the same? Of the document's answer, and of the program. -/
namespace Go.Proofs.YtdbnfhpgmcjngabGreatDoor
open Go Go.RowKit
theorem Tr.beqL_len {a b:List Tr} (h:a.length≠b.length):Tr.beqL a b=false:=by
  rw [Bool.eq_false_iff,Ne,Tr.beqL_iff];intro e;exact h (by rw [e])
theorem Tr.beqL_stop {a b:List Tr} (i:Nat) (h:i < a.length) (h':i < b.length) (hf:a[i].beq b[i]=false):Tr.beqL a b=false:=by
  rw [Bool.eq_false_iff,Ne,Tr.beqL_iff];intro e;subst e
  rw [Bool.eq_false_iff,Ne,Tr.beq_iff] at hf;exact hf rfl
theorem Tr.beq_node (l m:ByteArray) (ks js:List Tr):(Tr.node l ks).beq (.node m js)=(decide (l=m) && Tr.beqL ks js):=rfl
theorem take_snoc_eq {a b:List Tr} (i:Nat) (h:i < a.length) (h':i < b.length) (he:a.take i=b.take i) (hf:a[i].beq b[i]=true):a.take (i+1)=b.take (i+1):=by
  rw [Tr.beq_iff] at hf
  rw [List.take_succ_eq_append_getElem h,List.take_succ_eq_append_getElem h',he,hf]
theorem toList_ne {l m:ByteArray} (h:¬ l=m):¬ l.toList=m.toList:=by
  rw [ByteArray.toList_eq,ByteArray.toList_eq];intro e;apply h
  cases l;cases m;simp at e;rw [e]
theorem same_run:∀ args w,(callFunc 158 args).run Tryz.prog w=.ok (.enter 158 args) w:=fun _ _=>by kernel_rfl
set_option maxHeartbeats 800000 in
theorem psame_both (N:Nat) :
    (∀ (l m:ByteArray) (ks js:List Tr) (oa cap ob cbp) (w:World),Tr.szL ks < N→Kids Any w ks oa cap→Kids Any w js ob cbp →
      Calls Tryz.prog 158 #[.agg #[.string l,.slice oa ks.length cap],.agg #[.string m,.slice ob js.length cbp]] w fun e w'=>e=.returned (.bool ((Tr.node l ks).beq (.node m js)))∧Pr w w') ∧
    (∀ (ks js:List Tr) (oa cap ob cbp) (w:World),Tr.szL ks < N→Kids Any w ks oa cap→Kids Any w js ob cbp →
      Calls Tryz.prog 168 #[.slice oa ks.length cap,.slice ob js.length cbp,.func (.func 158) #[] #[]] w fun e w'=>e=.returned (.bool (Tr.beqL ks js))∧Pr w w'):=by
  induction N with
  | zero=>exact ⟨fun l m ks js oa cap ob cbp w hN=>by omega,fun ks js oa cap ob cbp w hN=>by omega⟩
  | succ N ih =>
    have Ih:=Lib.hid ih.1;clear ih
    have lists:∀ (ks js:List Tr) (oa cap ob cbp) (w:World),Tr.szL ks < N+1→Kids Any w ks oa cap→Kids Any w js ob cbp →
        Calls Tryz.prog 168 #[.slice oa ks.length cap,.slice ob js.length cbp,.func (.func 158) #[] #[]] w fun e w'=>e=.returned (.bool (Tr.beqL ks js))∧Pr w w':=by
      intro ks js oa cap ob cbp w hN hk hj
      have hm:=hk.len
      have hm2:=hj.len
      have hrun:=same_run
      by_cases hlen:ks.length=js.length
      case neg =>
        have Hf:=Lib.hid (Tr.beqL_len hlen)
        have hne:((ks.length:Int) != js.length)=true:=by simp [bne_iff_ne];omega
        clear hlen
        go_enter Tryz.func168,Tryz.ntmps168
        go_wp2_with fail
        go_ret
        exact ⟨ret_bool Hf.out.symm,Pr.refl _⟩
      have hne:((ks.length:Int) != js.length)=false:=by simp [hlen]
      have Hlen:=Lib.hid hlen
      clear hlen
      go_enter Tryz.func168,Tryz.ntmps168
      go_wp2_with fail
      go_loopw [17] (fun i wr=>∃ (k:Nat),k≤ks.length∧i=.int .i64 k∧ks.take k=js.take k∧Pr w wr) (fun i _=>ks.length - (intOf i).toNat)
      case atStart=>exact ⟨0,by omega,rfl,by simp,Pr.refl _⟩
      case round =>
        obtain ⟨k,hkl,rfl,hr,hb⟩:=hrel
        have Hr:=Lib.hid hr
        clear hr
        by_cases hlt:k < ks.length
        · have hlt':k < js.length:=by have:=Hlen.out;omega
          obtain ⟨b,o,l1,ks1,oa1,cap1,e1,_,rfl,c0,c1,hk1⟩:=(hk.pr hb).get k hlt
          obtain ⟨b',o',l2,ks2,oa2,cap2,e2,_,rfl,d0,d1,hj1⟩:=(hj.pr hb).get k hlt'
          have d0':∀ o1,(wr.alloc o1).cell? ⟨b',o'+k * 2,none⟩=some (.string l2):=fun o1=>(Pr.alloc _ _).cell d0
          have d1':∀ o1,(wr.alloc o1).cell? ⟨b',o'+k * 2+1,none⟩=some (.slice oa2 ks2.length cap2):=fun o1=>(Pr.alloc _ _).cell d1
          have hsz:=Tr.szL_get ks k hlt
          have hst:=Tr.beqL_stop k hlt hlt'
          have hsn:=take_snoc_eq k hlt hlt' Hr.out
          rw [e1] at hsz
          rw [e1,e2] at hst hsn
          have Hst:=Lib.hid hst
          have Hsn:=Lib.hid hsn
          clear hst e1 e2 hsn
          simp only [Tr.sz] at hsz
          cases hp:(Tr.node l1 ks1).beq (.node l2 ks2)
          all_goals
            have Hp:=Lib.hid hp;clear hp
            go_wp2_with (go_at_call 158;refine (Ih.out _ _ _ _ _ _ _ _ _ (by omega) (hk1.pr (Pr.alloc' (Pr.alloc _ _) _)) (hj1.pr (Pr.alloc' (Pr.alloc _ _) _))).mono ?_;rintro e w' ⟨rfl,hb'⟩;simp only [Hp.out])
          · go_ret
            exact ⟨ret_bool (Hst.out Hp.out).symm,(hb.trans (Pr.alloc' (Pr.alloc _ _) _)).trans hb'⟩
          · refine ⟨⟨k+1,by omega,by go_num,Hsn.out Hp.out,(hb.trans (Pr.alloc' (Pr.alloc _ _) _)).trans hb'⟩,?_⟩
            simp [intOf];omega
        · have hkv:k=ks.length:=by omega
          go_wp2_with fail
          go_ret
          exact ⟨ret_bool (by have h1:=Hr.out;have h2:=Hlen.out;subst hkv;rw [List.take_length,h2,List.take_length] at h1;exact ((Tr.beqL_iff _ _).2 h1).symm),hb⟩
    refine ⟨?_,lists⟩
    intro l m ks js oa cap ob cbp w hN hk hj
    have Hl:=Lib.hid lists;clear lists
    by_cases hlm:l=m
    · subst hlm
      have Hf:Hid ((Tr.node l ks).beq (.node l js)=Tr.beqL ks js):=by show (Tr.node l ks).beq _=_;simp [Tr.beq_node]
      go_enter Tryz.func158,Tryz.ntmps158
      go_wp2_with (go_at_call 168;refine (Hl.out _ _ _ _ _ _ _ hN ((hk.pr (Pr.alloc _ _)).pr (Pr.alloc _ _)) ((hj.pr (Pr.alloc _ _)).pr (Pr.alloc _ _))).mono ?_;rintro e w' ⟨rfl,hb⟩)
      go_ret
      exact ⟨ret_bool Hf.out.symm,((Pr.alloc _ _).alloc' _).trans hb⟩
    · have Hf:Hid ((Tr.node l ks).beq (.node m js)=false):=by show (Tr.node l ks).beq _=_;simp [Tr.beq_node,hlm]
      have hl1:=toList_ne hlm
      have hl2:(l.toList==m.toList)=false:=by simpa using hl1
      clear hlm
      go_enter Tryz.func158,Tryz.ntmps158
      go_wp2_with fail
      go_ret
      exact ⟨ret_bool Hf.out.symm,(Pr.alloc _ _).alloc' _⟩
theorem psame_any (l m:ByteArray) (ks js:List Tr) (oa cap ob cbp) (w:World) (hk:Kids Any w ks oa cap) (hj:Kids Any w js ob cbp) :
    Calls Tryz.prog 158 #[.agg #[.string l,.slice oa ks.length cap],.agg #[.string m,.slice ob js.length cbp]] w fun e w'=>e=.returned (.bool ((Tr.node l ks).beq (.node m js)))∧Pr w w' :=
  (psame_both _).1 l m ks js oa cap ob cbp w (Nat.lt_succ_self _) hk hj
end Go.Proofs.YtdbnfhpgmcjngabGreatDoor
