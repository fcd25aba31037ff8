/- Walks: the functions that look at a tree: its size, its depth, its labels. -/
import Derived.Test.YtdbnfhpgmcjngacGreatMem
import Derived.Test.YtdbnfhpgmcjngacGreatProg
namespace Go.Proofs.YtdbnfhpgmcjngacGreat
open Go Go.RowKit
theorem ret_int {k:IntKind} {a b:Int} (h:a=b):Ending.returned (.int k a)=.returned (.int k b):=by rw [h]
theorem ret_bool {a b:Bool} (h:a=b):Ending.returned (.bool a)=.returned (.bool b):=by rw [h]
def leftR (s:Nat) (n:Int):Int:=max (n - s) (-1)
set_option maxHeartbeats 400000 in
theorem left_any (N:Nat):∀ (l:ByteArray) (ks:List Tr) (oa cap) (n:Int) (w:World),Tr.szL ks < N→0≤n→n≤1000→Kids Any w ks oa cap →
    Calls Tryz.prog 52 #[.agg #[.string l,.slice oa ks.length cap],.int .i64 n] w fun e w'=>e=.returned (.int .i64 (leftR (Tr.szL ks+1) n))∧Pr w w':=by
  induction N with
  | zero=>intro l ks oa cap n w hN;omega
  | succ N ih =>
    intro l ks oa cap n w hN h0 h1 hk
    have Ih:=Lib.hid ih;clear ih
    have hm:=hk.len
    go_enter Tryz.func52,Tryz.ntmps52
    go_wp2_with fail
    go_loopw [1,5] (fun v i wr=>∃ (k:Nat) (r:Int),k≤ks.length∧i=.int .i64 k∧v=.int .i64 r∧r=max (n - 1 - Tr.szL (ks.take k)) (-1)∧Pr (w.alloc (.cells #[.string l,.slice oa ks.length cap] 34)) wr) (fun _ i _=>ks.length - (intOf i).toNat)
    case atStart=>exact ⟨0,_,by omega,rfl,rfl,by simp;omega,Pr.refl _⟩
    case round =>
      obtain ⟨k,r,hkl,rfl,rfl,hr,hb⟩:=hrel
      have hc0:wr.cell? ⟨w.heap.size,1,none⟩=some (.slice oa ks.length cap):=hb.cell (by simp [go_sem])
      have Hr:=Lib.hid hr
      have r0:-1≤r:=by omega
      have r1:r≤n:=by omega
      clear hr
      by_cases hlt:k < ks.length
      · obtain ⟨b,o,l',ks',oa',cap',e1,_,rfl,c0,c1,hk'⟩:=((hk.pr (Pr.alloc _ _)).pr hb).get k hlt
        have hs:=Tr.szL_take_succ ks k hlt
        have hsz:=Tr.szL_get ks k hlt
        have htl:=Tr.szL_take_le ks k
        rw [e1] at hs hsz
        have Hs:=Lib.hid hs
        have He:=Lib.hid e1
        clear hs e1
        simp only [Tr.sz] at hsz
        go_wp2_with (go_at_call 52;refine (Ih.out _ _ _ _ _ _ (by omega) (by omega) (by omega) hk').mono ?_;rintro e w' ⟨rfl,hb'⟩)
        · refine ⟨⟨k+1,_,by omega,by go_num,rfl,?_,hb.trans hb'⟩,?_⟩
          · have h1:=Hr.out;have h2:=Hs.out;simp only [leftR,Tr.sz] at *;omega
          · simp [intOf];omega
        · go_ret
          exact ⟨ret_int (by have h1:=Hr.out;simp only [leftR];omega),(Pr.alloc _ _).trans hb⟩
      · have hkv:k=ks.length:=by omega
        go_wp2_with fail
        go_ret
        exact ⟨ret_int (by have h1:=Hr.out;subst hkv;simp only [leftR,List.take_length] at *;omega),(Pr.alloc _ _).trans hb⟩
def sizeR (s:Nat) (m:Int):Int:=min (s:Int) (m+1)
set_option maxHeartbeats 400000 in
theorem sizeOf_any (N:Nat):∀ (l:ByteArray) (ks:List Tr) (oa cap) (n:Int) (w:World),Tr.szL ks < N→0≤n→n≤100000→Kids Any w ks oa cap →
    Calls Tryz.prog 23 #[.agg #[.string l,.slice oa ks.length cap],.int .i64 n] w fun e w'=>e=.returned (.int .i64 (sizeR (Tr.szL ks+1) n))∧Pr w w':=by
  induction N with
  | zero=>intro l ks oa cap n w hN;omega
  | succ N ih =>
    intro l ks oa cap n w hN h0 h1 hk
    have Ih:=Lib.hid ih;clear ih
    have hm:=hk.len
    go_enter Tryz.func23,Tryz.ntmps23
    go_wp2_with fail
    go_loopw [5,6] (fun v i wr=>∃ (k:Nat) (r:Int),k≤ks.length∧i=.int .i64 k∧v=.int .i64 r∧r=min (Tr.szL (ks.take k)+1:Int) (n+1)∧Pr (w.alloc (.cells #[.string l,.slice oa ks.length cap] 34)) wr) (fun _ i _=>ks.length - (intOf i).toNat)
    case atStart=>exact ⟨0,_,by omega,rfl,rfl,by simp;omega,Pr.refl _⟩
    case round =>
      obtain ⟨k,r,hkl,rfl,rfl,hr,hb⟩:=hrel
      have hc0:wr.cell? ⟨w.heap.size,1,none⟩=some (.slice oa ks.length cap):=hb.cell (by simp [go_sem])
      have Hr:=Lib.hid hr
      have r0:1≤r:=by omega
      have r1:r≤n+1:=by omega
      clear hr
      by_cases hlt:k < ks.length
      · obtain ⟨b,o,l',ks',oa',cap',e1,_,rfl,c0,c1,hk'⟩:=((hk.pr (Pr.alloc _ _)).pr hb).get k hlt
        have hs:=Tr.szL_take_succ ks k hlt
        have hsz:=Tr.szL_get ks k hlt
        have htl:=Tr.szL_take_le ks k
        rw [e1] at hs hsz
        have Hs:=Lib.hid hs
        have He:=Lib.hid e1
        clear hs e1
        simp only [Tr.sz] at hsz
        have hss:0≤sizeR (Tr.szL ks'+1) (n - r)∨n < r:=by unfold sizeR;omega
        have hst:sizeR (Tr.szL ks'+1) (n - r)≤n - r+1:=by unfold sizeR;omega
        by_cases hrn:r≤n
        · have hs2:0≤sizeR (Tr.szL ks'+1) (n - r):=by omega
          clear hss
          go_wp2_with (go_at_call 23;refine (Ih.out _ _ _ _ _ _ (by omega) (by omega) (by omega) hk').mono ?_;rintro e w' ⟨rfl,hb'⟩)
          refine ⟨⟨k+1,_,by omega,by go_num,rfl,?_,hb.trans hb'⟩,?_⟩
          · have h1:=Hr.out;have h2:=Hs.out;simp only [sizeR,Tr.sz] at *;omega
          · simp [intOf];omega
        · go_wp2_with fail
          go_ret
          exact ⟨ret_int (by have h1:=Hr.out;have h2:=Hs.out;simp only [sizeR,Tr.sz] at *;omega),(Pr.alloc _ _).trans hb⟩
      · have hkv:k=ks.length:=by omega
        go_wp2_with fail
        go_ret
        exact ⟨ret_int (by have h1:=Hr.out;subst hkv;simp only [sizeR,List.take_length] at *;omega),(Pr.alloc _ _).trans hb⟩
end Go.Proofs.YtdbnfhpgmcjngacGreat
/- Walks: the functions that look at a tree's labels and depth. -/
namespace Go.Proofs.YtdbnfhpgmcjngacGreat
open Go Go.RowKit
set_option maxHeartbeats 400000 in
theorem indexFunc_any (p:Tr→Bool) (g:Nat) (cv:List Value) (ks:List Tr) (oa cap) (w:World) (hk:Kids Any w ks oa cap)
    (hg:∀ args w,(callFunc g args).run Tryz.prog w=.ok (.enter g args) w)
    (H:∀ (k:Nat) (h:k < ks.length) l' ks' oa' cap' wr,ks[k]=.node l' ks'→l'.size≤maxLen→Pr w wr→Kids Any wr ks' oa' cap' →
      Calls Tryz.prog g (.agg #[.string l',.slice oa' ks'.length cap'] :: cv).toArray wr fun e w'=>e=.returned (.bool (p ks[k]))∧Pr wr w') :
    Calls Tryz.prog 99 #[.slice oa ks.length cap,.func (.func g) #[] cv.toArray] w fun e w' =>
      (∃ r:Int,e=.returned (.int .i64 r)∧(decide (0≤r)=ks.any p))∧Pr w w':=by
  have hm:=hk.len
  have HH:=Lib.hid H;clear H
  go_enter Tryz.func99,Tryz.ntmps99
  go_wp2_with fail
  go_loopw [8] (fun i wr=>∃ (k:Nat),k≤ks.length∧i=.int .i64 k∧(ks.take k).any p=false∧Pr w wr) (fun i _=>ks.length - (intOf i).toNat)
  case atStart=>exact ⟨0,by omega,rfl,by simp,Pr.refl _⟩
  case round =>
    obtain ⟨k,hkl,rfl,hr,hb⟩:=hrel
    have Hr:=Lib.hid hr;clear hr
    by_cases hlt:k < ks.length
    · obtain ⟨b,o,l',ks',oa',cap',e1,hl',rfl,c0,c1,hk'⟩:=(hk.pr hb).get k hlt
      have hc:=HH.out k hlt l' ks' oa' cap' wr e1 hl' hb hk'
      have He:=Lib.hid e1;clear e1
      have Hc:=Lib.hid hc;clear hc
      have hat:ks.any p=true∨p ks[k]=false:=by
        by_cases h:p ks[k]=true
        · exact .inl (List.any_eq_true.2 ⟨_,List.getElem_mem hlt,h⟩)
        · exact .inr (by simpa using h)
      by_cases hp:p ks[k]=true
      · have hany:ks.any p=true:=List.any_eq_true.2 ⟨_,List.getElem_mem hlt,hp⟩
        have Hany:=Lib.hid hany;clear hany hat
        have Hp:=Lib.hid hp;clear hp
        go_wp2_with (refine Calls.mono Hc.out ?_;rintro e w' ⟨rfl,hb'⟩;simp only [Hp.out])
        go_ret
        exact ⟨⟨k,rfl,by rw [Hany.out];simp⟩,hb.trans hb'⟩
      · have hp':p ks[k]=false:=by simpa using hp
        have Hp:=Lib.hid hp';clear hp hp' hat
        go_wp2_with (refine Calls.mono Hc.out ?_;rintro e w' ⟨rfl,hb'⟩;simp only [Hp.out])
        refine ⟨⟨k+1,by omega,by go_num,?_,hb.trans hb'⟩,?_⟩
        · rw [List.take_succ_eq_append_getElem hlt,List.any_append,Hr.out];simp [Hp.out]
        · simp [intOf];omega
    · have hkv:k=ks.length:=by omega
      go_wp2_with fail
      go_ret
      exact ⟨⟨-1,rfl,by subst hkv;have:=Hr.out;rw [List.take_length] at this;rw [this];rfl⟩,hb⟩
theorem containsFunc_any (p:Tr→Bool) (g:Nat) (cv:List Value) (ks:List Tr) (oa cap) (w:World) (hk:Kids Any w ks oa cap)
    (hg:∀ args w,(callFunc g args).run Tryz.prog w=.ok (.enter g args) w)
    (H:∀ (k:Nat) (h:k < ks.length) l' ks' oa' cap' wr,ks[k]=.node l' ks'→l'.size≤maxLen→Pr w wr→Kids Any wr ks' oa' cap' →
      Calls Tryz.prog g (.agg #[.string l',.slice oa' ks'.length cap'] :: cv).toArray wr fun e w'=>e=.returned (.bool (p ks[k]))∧Pr wr w') :
    Calls Tryz.prog 80 #[.slice oa ks.length cap,.func (.func g) #[] cv.toArray] w fun e w'=>e=.returned (.bool (ks.any p))∧Pr w w':=by
  have h1:=Lib.hid (indexFunc_any p g cv ks oa cap w hk hg H)
  clear H hg
  go_enter Tryz.func80,Tryz.ntmps80
  go_wp2_with (go_at_call 99;refine Calls.mono h1.out ?_;rintro e w' ⟨⟨r,rfl,hr⟩,hb'⟩;have Hr:=Lib.hid hr;clear hr)
  go_ret
  exact ⟨ret_bool Hr.out,hb'⟩
theorem deep1_run:∀ args w,(callFunc 81 args).run Tryz.prog w=.ok (.enter 81 args) w:=fun _ _=>by kernel_rfl
theorem named1_run:∀ args w,(callFunc 82 args).run Tryz.prog w=.ok (.enter 82 args) w:=fun _ _=>by kernel_rfl
set_option maxHeartbeats 400000 in
theorem deep_any (N:Nat):∀ (l:ByteArray) (ks:List Tr) (oa cap) (n:Int) (w:World),Tr.szL ks < N→-1≤n→n≤1000→l.size≤maxLen→Kids Any w ks oa cap →
    Calls Tryz.prog 53 #[.agg #[.string l,.slice oa ks.length cap],.int .i64 n] w fun e w'=>e=.returned (.bool ((Tr.node l ks).deepZ n))∧Pr w w':=by
  induction N with
  | zero=>intro l ks oa cap n w hN;omega
  | succ N ih =>
    intro l ks oa cap n w hN h0 h1 hl hk
    have Ih:=Lib.hid ih;clear ih
    by_cases hn:0≤n
    · have hc : ∀ wr, Pr ((w.alloc (.cells #[.string l, .slice oa ks.length cap] 34)).alloc (.cells #[.int .i64 n] 3)) wr →
          Calls Tryz.prog 80 #[.slice oa ks.length cap,.func (.func 81) #[] #[.pointer (some ⟨w.heap.size+1,0,none⟩)]] wr fun e w'=>e=.returned (.bool (ks.any fun k=>!k.deepZ (n - 1)))∧Pr wr w':=by
        intro wr hb
        refine containsFunc_any (fun k=>!k.deepZ (n - 1)) 81 [.pointer (some ⟨w.heap.size+1,0,none⟩)] ks oa cap wr (((hk.pr (Pr.alloc _ _)).pr (Pr.alloc _ _)).pr hb) deep1_run ?_
        intro k hlt l' ks' oa' cap' wr' e1 hl' hb' hk'
        have hcell:∀ o,(wr'.alloc o).cell? ⟨w.heap.size+1,0,none⟩=some (.int .i64 n):=fun o=>(Pr.alloc _ o).cell (hb'.cell (hb.cell (by simp [go_sem])))
        have hsz:=Tr.szL_get ks k hlt
        rw [e1] at hsz ⊢
        simp only [Tr.sz] at hsz
        clear e1
        go_enter Tryz.func81,Tryz.ntmps81
        go_wp2_with (go_at_call 53;refine (Ih.out _ _ _ _ _ _ (by omega) (by omega) (by omega) hl' (hk'.pr (Pr.alloc _ _))).mono ?_;rintro e w' ⟨rfl,hb''⟩)
        go_ret
        exact ⟨rfl,(Pr.alloc _ _).trans hb''⟩
      have Hc:=Lib.hid hc;clear hc
      go_enter Tryz.func53,Tryz.ntmps53
      go_wp2_with (go_at_call 80;refine (Hc.out _ (Pr.refl _)).mono ?_;rintro e w' ⟨rfl,hb⟩)
      go_ret
      refine ⟨ret_bool ?_,((Pr.alloc _ _).alloc' _).trans hb⟩
      simp only [Tr.deepZ,hn,decide_true,Bool.true_and]
      rw [Bool.eq_iff_iff,Tr.deepZL_iff];simp
    · go_enter Tryz.func53,Tryz.ntmps53
      go_wp2_with fail
      go_ret
      exact ⟨ret_bool (by simp [Tr.deepZ];intro h;omega),(Pr.alloc _ _).alloc' _⟩
theorem lab_any (s:ByteArray) (w:World) (hs:s.size≤maxLen) :
    Calls Tryz.prog 76 #[.string s] w fun e w'=>e=.returned (.bool (isLab s))∧w=w':=by
  unfold maxLen at hs
  go_enter Tryz.func76,Tryz.ntmps76
  go_wp2_with fail
  go_loopw [6] (fun i wr=>∃ k:Nat,k≤s.size∧i=.int .i64 k∧(s.data.toList.take k).all okC=true∧wr=w) (fun i _=>s.size - (intOf i).toNat)
  case atStart=>exact ⟨0,by omega,rfl,by simp,rfl⟩
  case round =>
    obtain ⟨k,hk,rfl,hr,rfl⟩:=hrel
    have Hr:=Lib.hid hr;clear hr
    by_cases hlt:k < s.size
    · have Hiff:=Lib.hid (okC_iff s[k])
      go_wp2_with fail
      · go_ret
        exact ⟨ret_bool (isLab_bad s k hlt (by rw [Bool.eq_false_iff,Ne,Hiff.out];omega)).symm,rfl⟩
      · refine ⟨⟨k+1,by omega,by go_num,okC_snoc s k hlt Hr.out (by rw [Hiff.out];omega),trivial⟩,?_⟩
        simp [intOf];omega
      · go_ret
        exact ⟨ret_bool (isLab_bad s k hlt (by rw [Bool.eq_false_iff,Ne,Hiff.out];omega)).symm,rfl⟩
    · have hkv:k=s.size:=by omega
      have He:Hid (isLab s=(decide (0 < s.size) && decide (s.size≤6))):=okC_end s (hkv ▸ Hr.out)
      go_wp2_with fail
      all_goals
        go_ret
        refine ⟨ret_bool ?_,rfl⟩
        rw [He.out]
        have hsz:s.size=s.toList.length:=by rw [ByteArray.toList_eq];simp
      · rename_i h
        rw [hsz,h];rfl
      · rename_i h
        have h0:0 < s.toList.length:=List.length_pos_iff.2 h
        have h1:s.toList.isEmpty=false:=by simpa using h
        rw [← hsz] at h0
        rw [h1,Bool.eq_iff_iff];simp;omega
set_option maxHeartbeats 400000 in
theorem named_any (N:Nat):∀ (l:ByteArray) (ks:List Tr) (oa cap) (w:World),Tr.szL ks < N→l.size≤maxLen→Kids Any w ks oa cap →
    Calls Tryz.prog 54 #[.agg #[.string l,.slice oa ks.length cap]] w fun e w'=>e=.returned (.bool ((Tr.node l ks).named))∧Pr w w':=by
  induction N with
  | zero=>intro l ks oa cap w hN;omega
  | succ N ih =>
    intro l ks oa cap w hN hl hk
    have Ih:=Lib.hid ih;clear ih
    have hc:∀ wr,Pr (w.alloc (.cells #[.string l,.slice oa ks.length cap] 34)) wr →
        Calls Tryz.prog 80 #[.slice oa ks.length cap,.func (.func 82) #[] #[]] wr fun e w'=>e=.returned (.bool (ks.any fun k=>!k.named))∧Pr wr w':=by
      intro wr hb
      refine containsFunc_any (fun k=>!k.named) 82 [] ks oa cap wr ((hk.pr (Pr.alloc _ _)).pr hb) named1_run ?_
      intro k hlt l' ks' oa' cap' wr' e1 hl' hb' hk'
      have hsz:=Tr.szL_get ks k hlt
      rw [e1] at hsz ⊢
      simp only [Tr.sz] at hsz
      clear e1
      go_enter Tryz.func82,Tryz.ntmps82
      go_wp2_with (go_at_call 54;refine (Ih.out _ _ _ _ _ (by omega) hl' (hk'.pr (Pr.alloc _ _))).mono ?_;rintro e w' ⟨rfl,hb''⟩)
      go_ret
      exact ⟨rfl,(Pr.alloc _ _).trans hb''⟩
    have Hc:=Lib.hid hc;clear hc
    by_cases hL:isLab l=true
    · have HL:=Lib.hid hL;clear hL
      go_enter Tryz.func54,Tryz.ntmps54
      go_wp2_with (first | (go_at_call 76;refine (lab_any _ _ hl).mono ?_;rintro e w' ⟨rfl,rfl⟩;simp only [HL.out]) | (go_at_call 80;refine (Hc.out _ (Pr.refl _)).mono ?_;rintro e w' ⟨rfl,hb⟩))
      go_ret
      refine ⟨ret_bool ?_,(Pr.alloc _ _).trans hb⟩
      simp only [Tr.named,HL.out,Bool.true_and]
      rw [Bool.eq_iff_iff,Tr.namedL_iff];simp
    · have hL':isLab l=false:=by simpa using hL
      have HL:=Lib.hid hL';clear hL hL'
      go_enter Tryz.func54,Tryz.ntmps54
      go_wp2_with (go_at_call 76;refine (lab_any _ _ hl).mono ?_;rintro e w' ⟨rfl,rfl⟩;simp only [HL.out])
      go_ret
      exact ⟨ret_bool (by simp [Tr.named,HL.out]),Pr.alloc _ _⟩
set_option maxHeartbeats 400000 in
theorem check_any (l:ByteArray) (ks:List Tr) (oa cap) (w:World) (hl:l.size≤maxLen) (hk:Kids Any w ks oa cap) :
    Calls Tryz.prog 35 #[.agg #[.string l,.slice oa ks.length cap]] w fun e w'=>e=.returned (.int .i64 (fault (.node l ks)))∧Pr w w':=by
  by_cases h1:40 < (Tr.node l ks).sz
  · have hr:leftR (Tr.szL ks+1) 40 < 0:=by simp only [Tr.sz] at h1;unfold leftR;omega
    have Hf:Hid ((fault (.node l ks):Int)=2):=by unfold fault;rw [if_pos h1];rfl
    clear h1
    go_enter Tryz.func35,Tryz.ntmps35
    go_wp2_with (go_at_call 52;refine (left_any _ _ _ _ _ _ _ (Nat.lt_succ_self _) (by omega) (by omega) (hk.pr (Pr.alloc _ _))).mono ?_;rintro e w' ⟨rfl,hb⟩)
    go_ret
    exact ⟨ret_int Hf.out.symm,(Pr.alloc _ _).trans hb⟩
  · have hr:0≤leftR (Tr.szL ks+1) 40:=by simp only [Tr.sz] at h1;unfold leftR;omega
    by_cases h2:(Tr.node l ks).deepZ 10=true
    · have H2:=Lib.hid h2
      have hn:∀ b:Bool,(Tr.node l ks).named=b→fault (.node l ks)=if b then 0 else 1:=by
        intro b hb;unfold fault;rw [if_neg h1,h2,hb];cases b <;> rfl
      have Hn:=Lib.hid hn
      clear h1 h2 hn
      have three:∀ b:Bool,Hid ((Tr.node l ks).named=b)→Calls Tryz.prog 35 #[.agg #[.string l,.slice oa ks.length cap]] w fun e w'=>e=.returned (.int .i64 (fault (.node l ks)))∧Pr w w':=by
        intro b Hb
        cases b
        all_goals
          have Hf:=Lib.hid (Hn.out _ Hb.out)
          go_enter Tryz.func35,Tryz.ntmps35
          go_wp2_with (first
            | (go_at_call 52;refine (left_any _ _ _ _ _ _ _ (Nat.lt_succ_self _) (by omega) (by omega) (hk.pr (Pr.alloc _ _))).mono ?_;rintro e w1 ⟨rfl,hb⟩;have c0:=hb.cell (b:=w.heap.size) (o:=0) (v:=.string l) (by simp [go_sem]);have c1:=hb.cell (b:=w.heap.size) (o:=1) (v:=.slice oa ks.length cap) (by simp [go_sem]))
            | (go_at_call 53;refine (deep_any _ _ _ _ _ _ _ (Nat.lt_succ_self _) (by omega) (by omega) hl ((hk.pr (Pr.alloc _ _)).pr (by assumption))).mono ?_;rintro e w2 ⟨rfl,hb2⟩;simp only [H2.out];have d0:=hb2.cell c0;have d1:=hb2.cell c1;clear c0 c1)
            | (go_at_call 54;refine (named_any _ _ _ _ _ _ (Nat.lt_succ_self _) hl (((hk.pr (Pr.alloc _ _)).pr (by assumption)).pr (by assumption))).mono ?_;rintro e w3 ⟨rfl,hb3⟩;simp only [Hb.out]))
          go_ret
          exact ⟨ret_int (by rw [Hf.out];rfl),(((Pr.alloc _ _).trans hb).trans hb2).trans hb3⟩
      exact three _ rfl
    · have h2':(Tr.node l ks).deepZ 10=false:=by simpa using h2
      have H2:=Lib.hid h2'
      have Hf:Hid ((fault (.node l ks):Int)=3):=by unfold fault;rw [if_neg h1,if_pos h2'];rfl
      clear h1 h2 h2'
      go_enter Tryz.func35,Tryz.ntmps35
      go_wp2_with (first
        | (go_at_call 52;refine (left_any _ _ _ _ _ _ _ (Nat.lt_succ_self _) (by omega) (by omega) (hk.pr (Pr.alloc _ _))).mono ?_;rintro e w1 ⟨rfl,hb⟩;have c0:=hb.cell (b:=w.heap.size) (o:=0) (v:=.string l) (by simp [go_sem]);have c1:=hb.cell (b:=w.heap.size) (o:=1) (v:=.slice oa ks.length cap) (by simp [go_sem]))
        | (go_at_call 53;refine (deep_any _ _ _ _ _ _ _ (Nat.lt_succ_self _) (by omega) (by omega) hl ((hk.pr (Pr.alloc _ _)).pr (by assumption))).mono ?_;rintro e w2 ⟨rfl,hb2⟩;simp only [H2.out]))
      go_ret
      exact ⟨ret_int Hf.out.symm,((Pr.alloc _ _).trans hb).trans hb2⟩
end Go.Proofs.YtdbnfhpgmcjngacGreat
/- Walks: what the document's answer looks at in a tree. -/
namespace Go.Proofs.YtdbnfhpgmcjngacGreat
open Go Go.RowKit
set_option maxHeartbeats 400000 in
theorem isLabel_any (s:ByteArray) (w:World) (hs:s.size≤maxLen) :
    Calls Tryz.prog 50 #[.string s] w fun e w'=>e=.returned (.bool (isLab s))∧w=w':=by
  unfold maxLen at hs
  by_cases h6:1≤s.size∧s.size≤6
  · obtain ⟨h1,h2⟩:=h6
    go_enter Tryz.func50,Tryz.ntmps50
    go_wp2_with fail
    go_loopw [3] (fun i wr=>∃ k:Nat,k≤s.size∧i=.int .i64 k∧(s.data.toList.take k).all okC=true∧wr=w) (fun i _=>s.size - (intOf i).toNat)
    case atStart=>exact ⟨0,by omega,rfl,by simp,rfl⟩
    case round =>
      obtain ⟨k,hk,rfl,hr,rfl⟩:=hrel
      have Hr:=Lib.hid hr;clear hr
      by_cases hlt:k < s.size
      · have Hiff:=Lib.hid (okC_iff s[k])
        go_wp2_with fail
        · go_ret
          exact ⟨ret_bool (isLab_bad s k hlt (by rw [Bool.eq_false_iff,Ne,Hiff.out];omega)).symm,rfl⟩
        · refine ⟨⟨k+1,by omega,by go_num,okC_snoc s k hlt Hr.out (by rw [Hiff.out];omega),trivial⟩,?_⟩
          simp [intOf];omega
        · go_ret
          exact ⟨ret_bool (isLab_bad s k hlt (by rw [Bool.eq_false_iff,Ne,Hiff.out];omega)).symm,rfl⟩
      · have hkv:k=s.size:=by omega
        have He:Hid (isLab s=(decide (0 < s.size) && decide (s.size≤6))):=okC_end s (hkv ▸ Hr.out)
        go_wp2_with fail
        go_ret
        refine ⟨ret_bool ?_,rfl⟩
        rw [He.out,Bool.eq_iff_iff];simp;omega
  · have hf:Hid (isLab s=false):=by
      show isLab s=false
      rw [isLab_eq,Bool.eq_false_iff];simp;intro _ _;omega
    by_cases h1:s.size < 1
    all_goals
      go_enter Tryz.func50,Tryz.ntmps50
      go_wp2_with fail
      go_ret
      exact ⟨ret_bool hf.out.symm,rfl⟩
set_option maxHeartbeats 400000 in
theorem longLabel_any (N:Nat):∀ (l:ByteArray) (ks:List Tr) (oa cap) (w:World),Tr.szL ks < N→Kids Any w ks oa cap →
    Calls Tryz.prog 41 #[.agg #[.string l,.slice oa ks.length cap]] w fun e w'=>e=.returned (.bool ((Tr.node l ks).longB))∧Pr w w':=by
  induction N with
  | zero=>intro l ks oa cap w hN;omega
  | succ N ih =>
    intro l ks oa cap w hN hk
    have Ih:=Lib.hid ih;clear ih
    have hm:=hk.len
    by_cases h50:50 < l.size
    · have Hf:Hid ((Tr.node l ks).longB=true):=by show (Tr.node l ks).longB=true;simp [Tr.longB,h50]
      go_enter Tryz.func41,Tryz.ntmps41
      go_wp2_with fail
      go_ret
      exact ⟨ret_bool Hf.out.symm,Pr.alloc _ _⟩
    have Hf:Hid ((Tr.node l ks).longB=Tr.longBL ks):=by show (Tr.node l ks).longB=_;simp [Tr.longB,h50]
    go_enter Tryz.func41,Tryz.ntmps41
    go_wp2_with fail
    go_loopw [3] (fun i wr=>∃ (k:Nat),k≤ks.length∧i=.int .i64 k∧Tr.longBL (ks.take k)=false∧Pr (w.alloc (.cells #[.string l,.slice oa ks.length cap] 34)) wr) (fun i _=>ks.length - (intOf i).toNat)
    case atStart=>exact ⟨0,by omega,rfl,by simp [Tr.longBL],Pr.refl _⟩
    case round =>
      obtain ⟨k,hkl,rfl,hr,hb⟩:=hrel
      have hc0:wr.cell? ⟨w.heap.size,1,none⟩=some (.slice oa ks.length cap):=hb.cell (by simp [go_sem])
      have Hr:=Lib.hid hr
      clear hr
      by_cases hlt:k < ks.length
      · obtain ⟨b,o,l',ks',oa',cap',e1,_,rfl,c0,c1,hk'⟩:=((hk.pr (Pr.alloc _ _)).pr hb).get k hlt
        have hs:=Tr.longBL_take ks k hlt
        have hst:=Tr.longBL_stop ks k hlt
        have hsz:=Tr.szL_get ks k hlt
        rw [e1] at hs hsz hst
        have Hs:=Lib.hid hs
        have Hst:=Lib.hid hst
        have He:=Lib.hid e1
        clear hs e1 hst
        simp only [Tr.sz] at hsz
        by_cases hp:(Tr.node l' ks').longB=true
        · have Hp:=Lib.hid hp;clear hp
          go_wp2_with (go_at_call 41;refine (Ih.out _ _ _ _ _ (by omega) hk').mono ?_;rintro e w' ⟨rfl,hb'⟩;simp only [Hp.out])
          go_ret
          exact ⟨ret_bool (by rw [Hf.out,Hst.out Hp.out]),((Pr.alloc _ _).trans hb).trans hb'⟩
        · have hp':(Tr.node l' ks').longB=false:=by simpa using hp
          have Hp:=Lib.hid hp';clear hp hp'
          go_wp2_with (go_at_call 41;refine (Ih.out _ _ _ _ _ (by omega) hk').mono ?_;rintro e w' ⟨rfl,hb'⟩;simp only [Hp.out])
          refine ⟨⟨k+1,by omega,by go_num,by rw [Hs.out,Hr.out,Hp.out];rfl,hb.trans hb'⟩,?_⟩
          simp [intOf];omega
      · have hkv:k=ks.length:=by omega
        go_wp2_with fail
        go_ret
        exact ⟨ret_bool (by have h1:=Hr.out;subst hkv;rw [List.take_length] at h1;rw [Hf.out,h1]),(Pr.alloc _ _).trans hb⟩
set_option maxHeartbeats 400000 in
theorem great_any (l:ByteArray) (ks:List Tr) (oa cap) (w:World) (hk:Kids Any w ks oa cap) :
    Calls Tryz.prog 22 #[.agg #[.string l,.slice oa ks.length cap]] w fun e w'=>e=.returned (.bool (great (.node l ks)))∧Pr w w':=by
  by_cases h2:200 < Tr.szL ks+1
  · have Hf:Hid (great (.node l ks)=true):=by show great (.node l ks)=true;unfold great;rw [decide_eq_true (show 200 < (Tr.node l ks).sz from h2)];rfl
    have hs:200 < sizeR (Tr.szL ks+1) 200:=by unfold sizeR;omega
    clear h2
    go_enter Tryz.func22,Tryz.ntmps22
    go_wp2_with (go_at_call 23;refine (sizeOf_any _ _ _ _ _ _ _ (Nat.lt_succ_self _) (by omega) (by omega) (hk.pr (Pr.alloc _ _))).mono ?_;rintro e w1 ⟨rfl,hb⟩)
    go_ret
    exact ⟨ret_bool Hf.out.symm,(Pr.alloc _ _).trans hb⟩
  · have Hf:Hid (great (.node l ks)=(Tr.node l ks).longB):=by show great (.node l ks)=_;unfold great;rw [decide_eq_false (show ¬ 200 < (Tr.node l ks).sz from h2)];rfl
    have hs:sizeR (Tr.szL ks+1) 200≤200:=by unfold sizeR;omega
    clear h2
    go_enter Tryz.func22,Tryz.ntmps22
    go_wp2_with (first
      | (go_at_call 23;refine (sizeOf_any _ _ _ _ _ _ _ (Nat.lt_succ_self _) (by omega) (by omega) (hk.pr (Pr.alloc _ _))).mono ?_;rintro e w1 ⟨rfl,hb⟩;have c0:=hb.cell (b:=w.heap.size) (o:=0) (v:=.string l) (by simp [go_sem]);have c1:=hb.cell (b:=w.heap.size) (o:=1) (v:=.slice oa ks.length cap) (by simp [go_sem]))
      | (go_at_call 41;refine (longLabel_any _ _ _ _ _ _ (Nat.lt_succ_self _) ((hk.pr (Pr.alloc _ _)).pr (by assumption))).mono ?_;rintro e w2 ⟨rfl,hb2⟩))
    go_ret
    refine ⟨ret_bool ?_,((Pr.alloc _ _).trans hb).trans hb2⟩
    rw [decide_eq_false (by omega),Bool.false_or];exact Hf.out.symm
set_option maxHeartbeats 400000 in
theorem tooDeep_any (N:Nat):∀ (l:ByteArray) (ks:List Tr) (oa cap) (n:Int) (w:World),Tr.szL ks < N→0≤n→n≤1000→Kids Any w ks oa cap →
    Calls Tryz.prog 45 #[.agg #[.string l,.slice oa ks.length cap],.int .i64 n] w fun e w'=>e=.returned (.bool (!(Tr.node l ks).deepZ (10 - n)))∧Pr w w':=by
  induction N with
  | zero=>intro l ks oa cap n w hN;omega
  | succ N ih =>
    intro l ks oa cap n w hN h0 h1 hk
    have Ih:=Lib.hid ih;clear ih
    have hm:=hk.len
    by_cases h10:10 < n
    · have Hf:Hid ((Tr.node l ks).deepZ (10 - n)=false):=by show (Tr.node l ks).deepZ _=_;simp [Tr.deepZ];intro h;omega
      go_enter Tryz.func45,Tryz.ntmps45
      go_wp2_with fail
      go_ret
      exact ⟨ret_bool (by rw [Hf.out];rfl),Pr.alloc _ _⟩
    have Hf:Hid ((Tr.node l ks).deepZ (10 - n)=Tr.deepZL ks (10 - (n+1))):=by
      show (Tr.node l ks).deepZ _=_
      simp only [Tr.deepZ];rw [show (10 - n - 1:Int)=10 - (n+1) by omega,decide_eq_true (by omega),Bool.true_and]
    go_enter Tryz.func45,Tryz.ntmps45
    go_wp2_with fail
    go_loopw [5] (fun i wr=>∃ (k:Nat),k≤ks.length∧i=.int .i64 k∧Tr.deepZL (ks.take k) (10 - (n+1))=true∧Pr (w.alloc (.cells #[.string l,.slice oa ks.length cap] 34)) wr) (fun i _=>ks.length - (intOf i).toNat)
    case atStart=>exact ⟨0,by omega,rfl,by simp [Tr.deepZL],Pr.refl _⟩
    case round =>
      obtain ⟨k,hkl,rfl,hr,hb⟩:=hrel
      have hc0:wr.cell? ⟨w.heap.size,1,none⟩=some (.slice oa ks.length cap):=hb.cell (by simp [go_sem])
      have Hr:=Lib.hid hr
      clear hr
      by_cases hlt:k < ks.length
      · obtain ⟨b,o,l',ks',oa',cap',e1,_,rfl,c0,c1,hk'⟩:=((hk.pr (Pr.alloc _ _)).pr hb).get k hlt
        have hs:=Tr.deepZL_take ks k hlt (10 - (n+1))
        have hst:=Tr.deepZL_stop ks k hlt (10 - (n+1))
        have hsz:=Tr.szL_get ks k hlt
        rw [e1] at hs hsz hst
        have Hs:=Lib.hid hs
        have Hst:=Lib.hid hst
        have He:=Lib.hid e1
        clear hs e1 hst
        simp only [Tr.sz] at hsz
        by_cases hp:(Tr.node l' ks').deepZ (10 - (n+1))=true
        · have Hp:=Lib.hid hp;clear hp
          go_wp2_with (go_at_call 45;refine (Ih.out _ _ _ _ _ _ (by omega) (by omega) (by omega) hk').mono ?_;rintro e w' ⟨rfl,hb'⟩;simp only [Hp.out])
          refine ⟨⟨k+1,by omega,by go_num,by rw [Hs.out,Hr.out,Hp.out];rfl,hb.trans hb'⟩,?_⟩
          simp [intOf];omega
        · have hp':(Tr.node l' ks').deepZ (10 - (n+1))=false:=by simpa using hp
          have Hp:=Lib.hid hp';clear hp hp'
          go_wp2_with (go_at_call 45;refine (Ih.out _ _ _ _ _ _ (by omega) (by omega) (by omega) hk').mono ?_;rintro e w' ⟨rfl,hb'⟩;simp only [Hp.out])
          go_ret
          exact ⟨ret_bool (by rw [Hf.out,Hst.out Hp.out];rfl),((Pr.alloc _ _).trans hb).trans hb'⟩
      · have hkv:k=ks.length:=by omega
        go_wp2_with fail
        go_ret
        exact ⟨ret_bool (by have h1:=Hr.out;subst hkv;rw [List.take_length] at h1;rw [Hf.out,h1];rfl),(Pr.alloc _ _).trans hb⟩
set_option maxHeartbeats 400000 in
theorem badLabel_any (N:Nat):∀ (l:ByteArray) (ks:List Tr) (oa cap) (w:World),Tr.szL ks < N→l.size≤maxLen→Kids Any w ks oa cap →
    Calls Tryz.prog 46 #[.agg #[.string l,.slice oa ks.length cap]] w fun e w'=>e=.returned (.bool (!(Tr.node l ks).named))∧Pr w w':=by
  induction N with
  | zero=>intro l ks oa cap w hN;omega
  | succ N ih =>
    intro l ks oa cap w hN hl hk
    have Ih:=Lib.hid ih;clear ih
    have hm:=hk.len
    by_cases hL:isLab l=true
    case neg =>
      have hL':isLab l=false:=by simpa using hL
      have HL:=Lib.hid hL';clear hL hL'
      go_enter Tryz.func46,Tryz.ntmps46
      go_wp2_with (go_at_call 50;refine (isLabel_any _ _ hl).mono ?_;rintro e w' ⟨rfl,rfl⟩;simp only [HL.out])
      go_ret
      exact ⟨ret_bool (by simp [Tr.named,HL.out]),Pr.alloc _ _⟩
    have HL:=Lib.hid hL;clear hL
    have Hf:Hid ((Tr.node l ks).named=Tr.namedL ks):=by show (Tr.node l ks).named=_;simp [Tr.named,HL.out]
    go_enter Tryz.func46,Tryz.ntmps46
    go_wp2_with (go_at_call 50;refine (isLabel_any _ _ hl).mono ?_;rintro e w' ⟨rfl,rfl⟩;simp only [HL.out])
    go_loopw [3] (fun i wr=>∃ (k:Nat),k≤ks.length∧i=.int .i64 k∧Tr.namedL (ks.take k)=true∧Pr (w.alloc (.cells #[.string l,.slice oa ks.length cap] 34)) wr) (fun i _=>ks.length - (intOf i).toNat)
    case atStart=>exact ⟨0,by omega,rfl,by simp [Tr.namedL],Pr.refl _⟩
    case round =>
      obtain ⟨k,hkl,rfl,hr,hb⟩:=hrel
      have hc0:wr.cell? ⟨w.heap.size,1,none⟩=some (.slice oa ks.length cap):=hb.cell (by simp [go_sem])
      have Hr:=Lib.hid hr
      clear hr
      by_cases hlt:k < ks.length
      · obtain ⟨b,o,l',ks',oa',cap',e1,hl',rfl,c0,c1,hk'⟩:=((hk.pr (Pr.alloc _ _)).pr hb).get k hlt
        have hs:=Tr.namedL_take ks k hlt
        have hst:=Tr.namedL_stop ks k hlt
        have hsz:=Tr.szL_get ks k hlt
        rw [e1] at hs hsz hst
        have Hs:=Lib.hid hs
        have Hst:=Lib.hid hst
        have He:=Lib.hid e1
        clear hs e1 hst
        simp only [Tr.sz] at hsz
        by_cases hp:(Tr.node l' ks').named=true
        · have Hp:=Lib.hid hp;clear hp
          go_wp2_with (go_at_call 46;refine (Ih.out _ _ _ _ _ (by omega) hl' hk').mono ?_;rintro e w' ⟨rfl,hb'⟩;simp only [Hp.out])
          refine ⟨⟨k+1,by omega,by go_num,by rw [Hs.out,Hr.out,Hp.out];rfl,hb.trans hb'⟩,?_⟩
          simp [intOf];omega
        · have hp':(Tr.node l' ks').named=false:=by simpa using hp
          have Hp:=Lib.hid hp';clear hp hp'
          go_wp2_with (go_at_call 46;refine (Ih.out _ _ _ _ _ (by omega) hl' hk').mono ?_;rintro e w' ⟨rfl,hb'⟩;simp only [Hp.out])
          go_ret
          exact ⟨ret_bool (by rw [Hf.out,Hst.out Hp.out];rfl),((Pr.alloc _ _).trans hb).trans hb'⟩
      · have hkv:k=ks.length:=by omega
        go_wp2_with fail
        go_ret
        exact ⟨ret_bool (by have h1:=Hr.out;subst hkv;rw [List.take_length] at h1;rw [Hf.out,h1];rfl),(Pr.alloc _ _).trans hb⟩
set_option maxHeartbeats 400000 in
theorem treeFault_any (l:ByteArray) (ks:List Tr) (oa cap) (w:World) (hl:l.size≤maxLen) (hk:Kids Any w ks oa cap) :
    Calls Tryz.prog 26 #[.agg #[.string l,.slice oa ks.length cap]] w fun e w'=>e=.returned (.int .i64 (fault (.node l ks)))∧Pr w w':=by
  by_cases h1:40 < (Tr.node l ks).sz
  · have hr:40 < sizeR (Tr.szL ks+1) 40:=by simp only [Tr.sz] at h1;unfold sizeR;omega
    have Hf:Hid ((fault (.node l ks):Int)=2):=by unfold fault;rw [if_pos h1];rfl
    clear h1
    go_enter Tryz.func26,Tryz.ntmps26
    go_wp2_with (go_at_call 23;refine (sizeOf_any _ _ _ _ _ _ _ (Nat.lt_succ_self _) (by omega) (by omega) (hk.pr (Pr.alloc _ _))).mono ?_;rintro e w' ⟨rfl,hb⟩)
    go_ret
    exact ⟨ret_int Hf.out.symm,(Pr.alloc _ _).trans hb⟩
  · have hr:sizeR (Tr.szL ks+1) 40≤40:=by simp only [Tr.sz] at h1;unfold sizeR;omega
    by_cases h2:(Tr.node l ks).deepZ 10=true
    · have H2:Hid ((Tr.node l ks).deepZ (10 - 0)=true):=h2
      have hn:∀ b:Bool,(Tr.node l ks).named=b→fault (.node l ks)=if b then 0 else 1:=by
        intro b hb;unfold fault;rw [if_neg h1,h2,hb];cases b <;> rfl
      have Hn:=Lib.hid hn
      clear h1 h2 hn
      have three:∀ b:Bool,Hid ((Tr.node l ks).named=b)→Calls Tryz.prog 26 #[.agg #[.string l,.slice oa ks.length cap]] w fun e w'=>e=.returned (.int .i64 (fault (.node l ks)))∧Pr w w':=by
        intro b Hb
        cases b
        all_goals
          have Hf:=Lib.hid (Hn.out _ Hb.out)
          go_enter Tryz.func26,Tryz.ntmps26
          go_wp2_with (first
            | (go_at_call 23;refine (sizeOf_any _ _ _ _ _ _ _ (Nat.lt_succ_self _) (by omega) (by omega) (hk.pr (Pr.alloc _ _))).mono ?_;rintro e w1 ⟨rfl,hb⟩;have c0:=hb.cell (b:=w.heap.size) (o:=0) (v:=.string l) (by simp [go_sem]);have c1:=hb.cell (b:=w.heap.size) (o:=1) (v:=.slice oa ks.length cap) (by simp [go_sem]))
            | (go_at_call 45;refine (tooDeep_any _ _ _ _ _ 0 _ (Nat.lt_succ_self _) (by omega) (by omega) ((hk.pr (Pr.alloc _ _)).pr (by assumption))).mono ?_;rintro e w2 ⟨rfl,hb2⟩;simp only [H2.out];have d0:=hb2.cell c0;have d1:=hb2.cell c1;clear c0 c1)
            | (go_at_call 46;refine (badLabel_any _ _ _ _ _ _ (Nat.lt_succ_self _) hl (((hk.pr (Pr.alloc _ _)).pr (by assumption)).pr (by assumption))).mono ?_;rintro e w3 ⟨rfl,hb3⟩;simp only [Hb.out]))
          go_ret
          exact ⟨ret_int (by rw [Hf.out];rfl),(((Pr.alloc _ _).trans hb).trans hb2).trans hb3⟩
      exact three _ rfl
    · have h2':(Tr.node l ks).deepZ 10=false:=by simpa using h2
      have H2:Hid ((Tr.node l ks).deepZ (10 - 0)=false):=h2'
      have Hf:Hid ((fault (.node l ks):Int)=3):=by unfold fault;rw [if_neg h1,if_pos h2'];rfl
      clear h1 h2 h2'
      go_enter Tryz.func26,Tryz.ntmps26
      go_wp2_with (first
        | (go_at_call 23;refine (sizeOf_any _ _ _ _ _ _ _ (Nat.lt_succ_self _) (by omega) (by omega) (hk.pr (Pr.alloc _ _))).mono ?_;rintro e w1 ⟨rfl,hb⟩;have c0:=hb.cell (b:=w.heap.size) (o:=0) (v:=.string l) (by simp [go_sem]);have c1:=hb.cell (b:=w.heap.size) (o:=1) (v:=.slice oa ks.length cap) (by simp [go_sem]))
        | (go_at_call 45;refine (tooDeep_any _ _ _ _ _ 0 _ (Nat.lt_succ_self _) (by omega) (by omega) ((hk.pr (Pr.alloc _ _)).pr (by assumption))).mono ?_;rintro e w2 ⟨rfl,hb2⟩;simp only [H2.out]))
      go_ret
      exact ⟨ret_int Hf.out.symm,((Pr.alloc _ _).trans hb).trans hb2⟩
end Go.Proofs.YtdbnfhpgmcjngacGreat
/- Walks: are two trees the same? Of the document's answer, and of the program. -/
namespace Go.Proofs.YtdbnfhpgmcjngacGreat
open Go Go.RowKit
theorem Tr.beqL_len {a b:List Tr} (h:a.length≠b.length):Tr.beqL a b=false:=by
  rw [Bool.eq_false_iff,Ne,Tr.beqL_iff];intro e;exact h (by rw [e])
theorem Tr.beqL_stop {a b:List Tr} (i:Nat) (h:i < a.length) (h':i < b.length) (hf:a[i].beq b[i]=false):Tr.beqL a b=false:=by
  rw [Bool.eq_false_iff,Ne,Tr.beqL_iff];intro e;subst e
  rw [Bool.eq_false_iff,Ne,Tr.beq_iff] at hf;exact hf rfl
theorem Tr.beq_node (l m:ByteArray) (ks js:List Tr):(Tr.node l ks).beq (.node m js)=(decide (l=m) && Tr.beqL ks js):=rfl
theorem take_snoc_eq {a b:List Tr} (i:Nat) (h:i < a.length) (h':i < b.length) (he:a.take i=b.take i) (hf:a[i].beq b[i]=true):a.take (i+1)=b.take (i+1):=by
  rw [Tr.beq_iff] at hf
  rw [List.take_succ_eq_append_getElem h,List.take_succ_eq_append_getElem h',he,hf]
theorem toList_ne {l m:ByteArray} (h:¬ l=m):¬ l.toList=m.toList:=by
  rw [ByteArray.toList_eq,ByteArray.toList_eq];intro e;apply h
  cases l;cases m;simp at e;rw [e]
set_option maxHeartbeats 800000 in
theorem same_both (N:Nat) :
    (∀ (l m:ByteArray) (ks js:List Tr) (oa cap ob cbp) (w:World),Tr.szL ks < N→Kids Any w ks oa cap→Kids Any w js ob cbp →
      Calls Tryz.prog 11 #[.agg #[.string l,.slice oa ks.length cap],.agg #[.string m,.slice ob js.length cbp]] w fun e w'=>e=.returned (.bool ((Tr.node l ks).beq (.node m js)))∧Pr w w') ∧
    (∀ (ks js:List Tr) (oa cap ob cbp) (w:World),Tr.szL ks < N→Kids Any w ks oa cap→Kids Any w js ob cbp →
      Calls Tryz.prog 28 #[.slice oa ks.length cap,.slice ob js.length cbp] w fun e w'=>e=.returned (.bool (Tr.beqL ks js))∧Pr w w'):=by
  induction N with
  | zero=>exact ⟨fun l m ks js oa cap ob cbp w hN=>by omega,fun ks js oa cap ob cbp w hN=>by omega⟩
  | succ N ih =>
    have Ih:=Lib.hid ih.1;clear ih
    have lists:∀ (ks js:List Tr) (oa cap ob cbp) (w:World),Tr.szL ks < N+1→Kids Any w ks oa cap→Kids Any w js ob cbp →
        Calls Tryz.prog 28 #[.slice oa ks.length cap,.slice ob js.length cbp] w fun e w'=>e=.returned (.bool (Tr.beqL ks js))∧Pr w w':=by
      intro ks js oa cap ob cbp w hN hk hj
      have hm:=hk.len
      have hm2:=hj.len
      by_cases hlen:ks.length=js.length
      case neg =>
        have Hf:=Lib.hid (Tr.beqL_len hlen)
        have hne:((ks.length:Int) != js.length)=true:=by simp [bne_iff_ne];omega
        clear hlen
        go_enter Tryz.func28,Tryz.ntmps28
        go_wp2_with fail
        go_ret
        exact ⟨ret_bool Hf.out.symm,Pr.refl _⟩
      have hne:((ks.length:Int) != js.length)=false:=by simp [hlen]
      have Hlen:=Lib.hid hlen
      clear hlen
      go_enter Tryz.func28,Tryz.ntmps28
      go_wp2_with fail
      go_loopw [5] (fun i wr=>∃ (k:Nat),k≤ks.length∧i=.int .i64 k∧ks.take k=js.take k∧Pr w wr) (fun i _=>ks.length - (intOf i).toNat)
      case atStart=>exact ⟨0,by omega,rfl,by simp,Pr.refl _⟩
      case round =>
        obtain ⟨k,hkl,rfl,hr,hb⟩:=hrel
        have Hr:=Lib.hid hr
        clear hr
        by_cases hlt:k < ks.length
        · have hlt':k < js.length:=by have:=Hlen.out;omega
          obtain ⟨b,o,l1,ks1,oa1,cap1,e1,_,rfl,c0,c1,hk1⟩:=(hk.pr hb).get k hlt
          obtain ⟨b',o',l2,ks2,oa2,cap2,e2,_,rfl,d0,d1,hj1⟩:=(hj.pr hb).get k hlt'
          have hsz:=Tr.szL_get ks k hlt
          have hst:=Tr.beqL_stop k hlt hlt'
          have hsn:=take_snoc_eq k hlt hlt' Hr.out
          rw [e1] at hsz
          rw [e1,e2] at hst hsn
          have Hst:=Lib.hid hst
          have Hsn:=Lib.hid hsn
          clear hst e1 e2 hsn
          simp only [Tr.sz] at hsz
          cases hp:(Tr.node l1 ks1).beq (.node l2 ks2)
          all_goals
            have Hp:=Lib.hid hp;clear hp
            go_wp2_with fail
            go_region_held3 (fun w'=>w'.cell? ⟨b,o+k * 2,none⟩=some (.string l1)∧w'.cell? ⟨b,o+k * 2+1,none⟩=some (.slice oa1 ks1.length cap1)∧w'.cell? ⟨b',o'+k * 2,none⟩=some (.string l2)∧w'.cell? ⟨b',o'+k * 2+1,none⟩=some (.slice oa2 ks2.length cap2))
              (first | go_keep | exact ⟨hb'.cell c0,hb'.cell c1,hb'.cell d0,hb'.cell d1⟩)
              (first | (go_at_call 11;refine (Ih.out _ _ _ _ _ _ _ _ _ (by omega) (hk1.pr (Pr.drew _)) (hj1.pr (Pr.drew _))).mono ?_;rintro e w' ⟨rfl,hb'⟩;simp only [Hp.out]))
            go_wp2_with fail
          · go_ret
            exact ⟨ret_bool (Hst.out Hp.out).symm,(hb.drew').trans hb'⟩
          · refine ⟨⟨k+1,by omega,by go_num,Hsn.out Hp.out,(hb.drew').trans hb'⟩,?_⟩
            simp [intOf];omega
        · have hkv:k=ks.length:=by omega
          go_wp2_with fail
          go_ret
          exact ⟨ret_bool (by have h1:=Hr.out;have h2:=Hlen.out;subst hkv;rw [List.take_length,h2,List.take_length] at h1;exact ((Tr.beqL_iff _ _).2 h1).symm),hb⟩
    refine ⟨?_,lists⟩
    intro l m ks js oa cap ob cbp w hN hk hj
    have Hl:=Lib.hid lists;clear lists
    by_cases hlm:l=m
    · subst hlm
      have Hf:Hid ((Tr.node l ks).beq (.node l js)=Tr.beqL ks js):=by show (Tr.node l ks).beq _=_;simp [Tr.beq_node]
      go_enter Tryz.func11,Tryz.ntmps11
      go_wp2_with (go_at_call 28;refine (Hl.out _ _ _ _ _ _ _ hN ((hk.pr (Pr.alloc _ _)).pr (Pr.alloc _ _)) ((hj.pr (Pr.alloc _ _)).pr (Pr.alloc _ _))).mono ?_;rintro e w' ⟨rfl,hb⟩)
      go_ret
      exact ⟨ret_bool Hf.out.symm,((Pr.alloc _ _).alloc' _).trans hb⟩
    · have Hf:Hid ((Tr.node l ks).beq (.node m js)=false):=by show (Tr.node l ks).beq _=_;simp [Tr.beq_node,hlm]
      have hl1:=toList_ne hlm
      have hl2:(l.toList==m.toList)=false:=by simpa using hl1
      clear hlm
      go_enter Tryz.func11,Tryz.ntmps11
      go_wp2_with fail
      go_ret
      exact ⟨ret_bool Hf.out.symm,(Pr.alloc _ _).alloc' _⟩
theorem same_run:∀ args w,(callFunc 70 args).run Tryz.prog w=.ok (.enter 70 args) w:=fun _ _=>by kernel_rfl
set_option maxHeartbeats 800000 in
theorem psame_both (N:Nat) :
    (∀ (l m:ByteArray) (ks js:List Tr) (oa cap ob cbp) (w:World),Tr.szL ks < N→Kids Any w ks oa cap→Kids Any w js ob cbp →
      Calls Tryz.prog 70 #[.agg #[.string l,.slice oa ks.length cap],.agg #[.string m,.slice ob js.length cbp]] w fun e w'=>e=.returned (.bool ((Tr.node l ks).beq (.node m js)))∧Pr w w') ∧
    (∀ (ks js:List Tr) (oa cap ob cbp) (w:World),Tr.szL ks < N→Kids Any w ks oa cap→Kids Any w js ob cbp →
      Calls Tryz.prog 92 #[.slice oa ks.length cap,.slice ob js.length cbp,.func (.func 70) #[] #[]] w fun e w'=>e=.returned (.bool (Tr.beqL ks js))∧Pr w w'):=by
  induction N with
  | zero=>exact ⟨fun l m ks js oa cap ob cbp w hN=>by omega,fun ks js oa cap ob cbp w hN=>by omega⟩
  | succ N ih =>
    have Ih:=Lib.hid ih.1;clear ih
    have lists:∀ (ks js:List Tr) (oa cap ob cbp) (w:World),Tr.szL ks < N+1→Kids Any w ks oa cap→Kids Any w js ob cbp →
        Calls Tryz.prog 92 #[.slice oa ks.length cap,.slice ob js.length cbp,.func (.func 70) #[] #[]] w fun e w'=>e=.returned (.bool (Tr.beqL ks js))∧Pr w w':=by
      intro ks js oa cap ob cbp w hN hk hj
      have hm:=hk.len
      have hm2:=hj.len
      have hrun:=same_run
      by_cases hlen:ks.length=js.length
      case neg =>
        have Hf:=Lib.hid (Tr.beqL_len hlen)
        have hne:((ks.length:Int) != js.length)=true:=by simp [bne_iff_ne];omega
        clear hlen
        go_enter Tryz.func92,Tryz.ntmps92
        go_wp2_with fail
        go_ret
        exact ⟨ret_bool Hf.out.symm,Pr.refl _⟩
      have hne:((ks.length:Int) != js.length)=false:=by simp [hlen]
      have Hlen:=Lib.hid hlen
      clear hlen
      go_enter Tryz.func92,Tryz.ntmps92
      go_wp2_with fail
      go_loopw [17] (fun i wr=>∃ (k:Nat),k≤ks.length∧i=.int .i64 k∧ks.take k=js.take k∧Pr w wr) (fun i _=>ks.length - (intOf i).toNat)
      case atStart=>exact ⟨0,by omega,rfl,by simp,Pr.refl _⟩
      case round =>
        obtain ⟨k,hkl,rfl,hr,hb⟩:=hrel
        have Hr:=Lib.hid hr
        clear hr
        by_cases hlt:k < ks.length
        · have hlt':k < js.length:=by have:=Hlen.out;omega
          obtain ⟨b,o,l1,ks1,oa1,cap1,e1,_,rfl,c0,c1,hk1⟩:=(hk.pr hb).get k hlt
          obtain ⟨b',o',l2,ks2,oa2,cap2,e2,_,rfl,d0,d1,hj1⟩:=(hj.pr hb).get k hlt'
          have d0':∀ o1,(wr.alloc o1).cell? ⟨b',o'+k * 2,none⟩=some (.string l2):=fun o1=>(Pr.alloc _ _).cell d0
          have d1':∀ o1,(wr.alloc o1).cell? ⟨b',o'+k * 2+1,none⟩=some (.slice oa2 ks2.length cap2):=fun o1=>(Pr.alloc _ _).cell d1
          have hsz:=Tr.szL_get ks k hlt
          have hst:=Tr.beqL_stop k hlt hlt'
          have hsn:=take_snoc_eq k hlt hlt' Hr.out
          rw [e1] at hsz
          rw [e1,e2] at hst hsn
          have Hst:=Lib.hid hst
          have Hsn:=Lib.hid hsn
          clear hst e1 e2 hsn
          simp only [Tr.sz] at hsz
          cases hp:(Tr.node l1 ks1).beq (.node l2 ks2)
          all_goals
            have Hp:=Lib.hid hp;clear hp
            go_wp2_with (go_at_call 70;refine (Ih.out _ _ _ _ _ _ _ _ _ (by omega) (hk1.pr (Pr.alloc' (Pr.alloc _ _) _)) (hj1.pr (Pr.alloc' (Pr.alloc _ _) _))).mono ?_;rintro e w' ⟨rfl,hb'⟩;simp only [Hp.out])
          · go_ret
            exact ⟨ret_bool (Hst.out Hp.out).symm,(hb.trans (Pr.alloc' (Pr.alloc _ _) _)).trans hb'⟩
          · refine ⟨⟨k+1,by omega,by go_num,Hsn.out Hp.out,(hb.trans (Pr.alloc' (Pr.alloc _ _) _)).trans hb'⟩,?_⟩
            simp [intOf];omega
        · have hkv:k=ks.length:=by omega
          go_wp2_with fail
          go_ret
          exact ⟨ret_bool (by have h1:=Hr.out;have h2:=Hlen.out;subst hkv;rw [List.take_length,h2,List.take_length] at h1;exact ((Tr.beqL_iff _ _).2 h1).symm),hb⟩
    refine ⟨?_,lists⟩
    intro l m ks js oa cap ob cbp w hN hk hj
    have Hl:=Lib.hid lists;clear lists
    by_cases hlm:l=m
    · subst hlm
      have Hf:Hid ((Tr.node l ks).beq (.node l js)=Tr.beqL ks js):=by show (Tr.node l ks).beq _=_;simp [Tr.beq_node]
      go_enter Tryz.func70,Tryz.ntmps70
      go_wp2_with (go_at_call 92;refine (Hl.out _ _ _ _ _ _ _ hN ((hk.pr (Pr.alloc _ _)).pr (Pr.alloc _ _)) ((hj.pr (Pr.alloc _ _)).pr (Pr.alloc _ _))).mono ?_;rintro e w' ⟨rfl,hb⟩)
      go_ret
      exact ⟨ret_bool Hf.out.symm,((Pr.alloc _ _).alloc' _).trans hb⟩
    · have Hf:Hid ((Tr.node l ks).beq (.node m js)=false):=by show (Tr.node l ks).beq _=_;simp [Tr.beq_node,hlm]
      have hl1:=toList_ne hlm
      have hl2:(l.toList==m.toList)=false:=by simpa using hl1
      clear hlm
      go_enter Tryz.func70,Tryz.ntmps70
      go_wp2_with fail
      go_ret
      exact ⟨ret_bool Hf.out.symm,(Pr.alloc _ _).alloc' _⟩
theorem sameTree_any (l m:ByteArray) (ks js:List Tr) (oa cap ob cbp) (w:World) (hk:Kids Any w ks oa cap) (hj:Kids Any w js ob cbp) :
    Calls Tryz.prog 11 #[.agg #[.string l,.slice oa ks.length cap],.agg #[.string m,.slice ob js.length cbp]] w fun e w'=>e=.returned (.bool ((Tr.node l ks).beq (.node m js)))∧Pr w w' :=
  (same_both _).1 l m ks js oa cap ob cbp w (Nat.lt_succ_self _) hk hj
theorem psame_any (l m:ByteArray) (ks js:List Tr) (oa cap ob cbp) (w:World) (hk:Kids Any w ks oa cap) (hj:Kids Any w js ob cbp) :
    Calls Tryz.prog 70 #[.agg #[.string l,.slice oa ks.length cap],.agg #[.string m,.slice ob js.length cbp]] w fun e w'=>e=.returned (.bool ((Tr.node l ks).beq (.node m js)))∧Pr w w' :=
  (psame_both _).1 l m ks js oa cap ob cbp w (Nat.lt_succ_self _) hk hj
end Go.Proofs.YtdbnfhpgmcjngacGreat
