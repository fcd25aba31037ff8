/- Walks: the path of a node, as the document's answer looks for it. -/
import Derived.Test.YtdbnfhpgmcjngacDoorBwn
import Derived.Test.YtdbnfhpgmcjngacDoorBma
namespace Go.Proofs.YtdbnfhpgmcjngacDoor
open Go Go.RowKit
set_option maxHeartbeats 1600000 in
theorem pathOf_step (N:Nat):∀ (l:ByteArray) (ks:List Tr) (oa cap) (n:Int) (w:World),Tr.szL ks < N→Tr.szL ks≤900→n≤9223372036854775807→Kids Any w ks oa cap →
    Calls Tryd.prog 49 #[.agg #[.string l,.slice oa ks.length cap],.int .i64 n] w (IntsPost w (pathTZ (.node l ks) n)):=by
  induction N with
  | zero=>intro l ks oa cap n w hN;omega
  | succ N ih =>
    intro l ks oa cap n w hN h0 hnm hk
    have Ih:=Lib.hid ih;clear ih
    have hm:=hk.len
    by_cases hn:n < 0
    · go_enter Tryd.func49,Tryd.ntmps49
      go_wp2_with fail
      go_ret
      exact ⟨_,rfl,by rw [pathTZ_neg hn];exact OwnsIs.nil _ _,Pr.alloc _ _⟩
    obtain ⟨m,rfl⟩:=Int.eq_ofNat_of_zero_le (by omega:0≤n)
    have hsz:sizeR (Tr.szL ks+1) 1000=(Tr.szL ks:Int)+1:=by unfold sizeR;omega
    by_cases hge:Tr.szL ks≤m
    · have Hp:=Lib.hid (pathF_out ks 0 m hge)
      have Hs:=Lib.hid hsz
      have hge':(Tr.szL ks:Int)≤m:=by omega
      clear hsz hge
      go_enter Tryd.func49,Tryd.ntmps49
      go_wp2_with (first | (go_at_call 9;(with_reducible refine Calls.mono (sizeOf_any _ l ks _ _ 1000 _ (Nat.lt_succ_self _) (by omega) (by omega) (hk.pr (Pr.alloc _ _))) ?_);rintro e w1 ⟨rfl,hb⟩;simp only [Hs.out]))
      go_ret
      exact ⟨_,rfl,by rw [pathTZ_nat,pathT,Hp.out];exact OwnsIs.nil _ _,(Pr.alloc _ _).trans hb⟩
    have hge':(m:Int) < Tr.szL ks:=by omega
    have Hs:=Lib.hid hsz
    clear hsz
    go_enter Tryd.func49,Tryd.ntmps49
    go_wp2_with (first | (go_at_call 9;(with_reducible refine Calls.mono (sizeOf_any _ l ks _ _ 1000 _ (Nat.lt_succ_self _) (by omega) (by omega) (hk.pr (Pr.alloc _ _))) ?_);rintro e w1 ⟨rfl,hb⟩;simp only [Hs.out]))
    go_loopw [5,6] (fun c i wr=>∃ (k r:Nat),k≤ks.length∧i=.int .i64 k∧c=.int .i64 r∧r=Tr.szL (ks.take k)∧r≤m∧Pr w1 wr) (fun _ i _=>ks.length - (intOf i).toNat)
    case atStart=>exact ⟨0,0,by omega,rfl,rfl,by simp,by omega,Pr.refl _⟩
    case round =>
      obtain ⟨k,r,hkl,rfl,rfl,hr,hrm,hb2⟩:=hrel
      have hbb:=hb.trans hb2
      have hc0:wr.cell? ⟨w.heap.size,1,none⟩=some (.slice oa ks.length cap):=hbb.cell (by simp [go_sem])
      have hc0':∀ o,(wr.alloc o).cell? ⟨w.heap.size,1,none⟩=some (.slice oa ks.length cap):=fun o=>(Pr.alloc _ _).cell hc0
      have Hr:=Lib.hid hr
      by_cases hlt:k < ks.length
      · obtain ⟨b,o,l',ks',oa',cap',e1,hl',rfl,c0,c1,hk'⟩:=((hk.pr (Pr.alloc _ _)).pr hbb).get k hlt
        have hs:=Tr.szL_take_succ ks k hlt
        have hz:=Tr.szL_get ks k hlt
        have hht:=pathF_hit ks k m hlt
        rw [← hr] at hht
        rw [e1] at hs hz hht
        have Hs2:=Lib.hid hs
        have Hht:=Lib.hid hht
        simp only [Tr.sz] at hz
        have hsz2:sizeR (Tr.szL ks'+1) 1000=(Tr.szL ks':Int)+1:=by unfold sizeR;omega
        have Hz2:=Lib.hid hsz2
        clear hs e1 hr hsz2 hht
        by_cases hin:m < r+(Tr.szL ks'+1)
        · have hin':((m:Int) < r+(Tr.szL ks'+1)):=by omega
          have hpz:pathTZ (.node l' ks') ((m:Int) - r)=pathT (.node l' ks') (m - r):=by rw [show (m:Int) - r=((m - r:Nat):Int) by omega,pathTZ_nat]
          have hpl:=pathT_length (.node l' ks') (m - r)
          simp only [Tr.sz_node] at hpl
          have Hpz:=Lib.hid hpz
          clear hpz
          go_wp2_with (first
            | (go_at_call 9;(with_reducible refine Calls.mono (sizeOf_any _ l' ks' _ _ 1000 _ (Nat.lt_succ_self _) (by omega) (by omega) hk') ?_);rintro e w3 ⟨rfl,hb3⟩;simp only [Hz2.out];have g0:=fun o=>(Pr.alloc w3 o).cell (hb3.cell c0);have g1:=fun o=>(Pr.alloc w3 o).cell (hb3.cell c1);have g2:=fun o=>(Pr.alloc w3 o).cell (hb3.cell hc0))
            | (go_at_call 49;(with_reducible refine Calls.mono (Ih.out l' ks' _ _ ((m:Int) - r) _ (by omega) (by omega) (by omega) ((hk'.pr hb3).pr (Pr.alloc _ _))) ?_);rintro e w4 ⟨v4,rfl,ho4,hb4⟩;rw [Hpz.out] at ho4;obtain ⟨ov,cv,rfl,hints⟩:=ho4.ints
               have hown4:OwnsIs w.heap.size w4 (.slice (some ⟨w3.heap.size,0,none⟩) 1 1) [(k:Int)]:=OwnsIs.pr (World.ownsRow_lit (base:=w.heap.size) (e:=3) (size:=1) w3 #[.int .i64 k] 1 (by have:=hbb.size;have:=hb3.size;simp at *;omega) (by unfold maxLen;omega) rfl) hb4)
            | (at_builtin;go_must (refine app_ints rfl _ _ rfl w.heap.size _ [(k:Int)] rfl hown4 _ (pathT (.node l' ks') (m - r)) _ _ rfl hints (by simp;omega) (by have:=hbb.size;have:=hb3.size;have:=hb4.size;simp at *;omega) ?_);intro v5 w5 ho5 hg5 hd5))
          go_ret
          refine ⟨_,rfl,?_,?_⟩
          · have e9:pathT (.node l ks) m=pathF ks 0 m:=by rw [pathT]
            rw [pathTZ_nat,e9,Hht.out (by omega) (by simp only [Tr.sz_node];omega)];exact ho5
          · refine Below.grown ((((((Pr.alloc _ _).trans hbb).trans hb3).alloc' _).trans hb4)) hg5 ?_ ?_
            · have:=hbb.size;have:=hb3.size;have:=hb4.size;simp at *;omega
            · intro j hj;cases hj;have:=hbb.size;have:=hb3.size;simp at *;omega
        · have hin':¬ ((m:Int) < r+(Tr.szL ks'+1)):=by omega
          go_wp2_with (first | (go_at_call 9;(with_reducible refine Calls.mono (sizeOf_any _ l' ks' _ _ 1000 _ (Nat.lt_succ_self _) (by omega) (by omega) hk') ?_);rintro e w3 ⟨rfl,hb3⟩;simp only [Hz2.out]))
          refine ⟨⟨k+1,r+(Tr.szL ks'+1),by omega,by go_num,by go_num,?_,by omega,hb2.trans hb3⟩,?_⟩
          · have h1:=Hr.out;have h2:=Hs2.out;simp only [Tr.sz] at *;omega
          · simp [intOf];omega
      · exfalso
        have hkv:k=ks.length:=by omega
        rw [hkv,List.take_length] at hr
        omega
theorem pathOf_any (l:ByteArray) (ks:List Tr) (oa cap) (n:Int) (w:World) (h:Tr.szL ks≤900) (hn:n≤9223372036854775807) (hk:Kids Any w ks oa cap) :
    Calls Tryd.prog 49 #[.agg #[.string l,.slice oa ks.length cap],.int .i64 n] w (IntsPost w (pathTZ (.node l ks) n)):=pathOf_step _ l ks oa cap n w (Nat.lt_succ_self _) h hn hk
end Go.Proofs.YtdbnfhpgmcjngacDoor
