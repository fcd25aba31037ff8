/- Walks: pleachingref.find: the path of the node with a label. -/
import Derived.Test.YtdbnfhpgmcjngacDoorBpl
import Derived.Test.YtdbnfhpgmcjngacDoorWr
import Derived.Test.YtdbnfhpgmcjngacDoorBwa
import Derived.Deep.DeepCutAuto
namespace Go.Proofs.YtdbnfhpgmcjngacDoor
open Go Go.RowKit
def RFindPost (w:World) (r:Option (List Int)) (e:Ending) (w':World):Prop:=∃ oa cap,e=.returned (.tuple #[.slice oa (r.getD []).length cap,.bool r.isSome])∧Ints (From w.heap.size) w' (r.getD []) oa cap∧Pr w w'
mutual
theorem findT_length (s:ByteArray):∀ (t:Tr) (p:List Int),findT s t=some p→p.length≤t.sz
  | .node l ks,p,h=>by
    rw [findT_node] at h
    split at h
    · cases h;simp
    · have:=findF_length s ks 0 p h;rw [Tr.sz_node];omega
theorem findF_length (s:ByteArray):∀ (ks:List Tr) (c:Nat) (p:List Int),findF s c ks=some p→p.length≤Tr.szL ks+1
  | [],c,p,h=>by rw [findF_nil] at h;cases h
  | k :: ks,c,p,h=>by
    rw [findF_cons] at h
    cases hk:findT s k with
    | some q=>rw [hk] at h;cases h;have:=findT_length s k q hk;simp;omega
    | none=>rw [hk] at h;have:=findF_length s ks (c+1) p h;simp;omega
end
set_option maxRecDepth 100000 in
set_option maxHeartbeats 3200000 in
theorem rfind_step (s:ByteArray) (N:Nat):∀ (l:ByteArray) (ks:List Tr) (oa cap) (w:World),Tr.szL ks < N→Tr.szL ks≤1000000→Kids Any w ks oa cap →
    Calls Tryd.prog 79 #[.agg #[.string l,.slice oa ks.length cap],.string s] w (RFindPost w (findT s (.node l ks))):=by
  induction N with
  | zero=>intro l ks oa cap w hN;omega
  | succ N ih =>
    have Ih:=Lib.hid ih;clear ih
    intro l ks oa cap w hN hsm hk
    have hm:=hk.len
    have hm2:=Tr.length_le ks
    rw [findT_node]
    obtain ⟨W,hW⟩:∃ W,W=w.alloc (.cells #[.string l,.slice oa ks.length cap] 24):=⟨_,rfl⟩
    have hwW:Pr w W:=by rw [hW];exact Pr.alloc _ _
    have t0:W.cell? ⟨w.heap.size,0,none⟩=some (.string l):=by rw [hW];simp [go_sem]
    have t1:W.cell? ⟨w.heap.size,1,none⟩=some (.slice oa ks.length cap):=by rw [hW];simp [go_sem]
    by_cases hls:l=s
    · rw [if_pos hls]
      subst hls
      go_enter Tryd.func79,Tryd.ntmps79
      go_upto_region 1 with fail
      rw [← hW];clear hW
      go_wp2_with fail
      go_ret2
      exact ⟨none,0,rfl,Flat.nil _ _ _ _ (Nat.zero_le _),hwW⟩
    · rw [if_neg hls]
      have HK:=Lib.hid (hk.pr hwW);have HW:=Lib.hid hwW
      have e1:(l.toList==s.toList)=false:=by simpa using toList_ne hls
      clear hk hwW
      go_enter Tryd.func79,Tryd.ntmps79
      go_upto_region 1 with fail
      rw [← hW];clear hW
      go_wp2_with fail
      go_loopw [6] (fun vi wr=>∃ k:Nat,k≤ks.length∧vi=.int .i64 k∧findF s 0 ks=findF s k (ks.drop k)∧Pr W wr) (fun vi _=>ks.length - (intOf vi).toNat)
      case atStart=>exact ⟨0,by omega,rfl,by rw [List.drop_zero],Pr.refl _⟩
      case round =>
        obtain ⟨k,hkl,rfl,hf,hb⟩:=hrel
        have t1r:=hb.cell t1
        have Hf:=Lib.hid hf
        clear hf
        by_cases hlt:k < ks.length
        · obtain ⟨b,o,l',ks',oa',cap',e3,hl',rfl,c0,c1,hk'⟩:=(HK.out.pr hb).get k hlt
          have hsz:=Tr.szL_get ks k hlt
          have hd:findF s k (ks.drop k)=match findT s ks[k] with | some p=>some ((k:Int) :: p) | none=>findF s (k+1) (ks.drop (k+1)):=by
            rw [List.drop_eq_getElem_cons hlt,findF_cons];cases findT s ks[k] <;> rfl
          rw [e3] at hsz hd
          simp only [Tr.sz] at hsz
          have F1:=Ih.out l' ks' oa' cap' wr (by omega) (by omega) hk'
          have hfl:∀ p,findT s (.node l' ks')=some p→p.length≤1000001:=fun p h=>by have:=findT_length s _ p h;rw [Tr.sz_node] at this;omega
          obtain ⟨r,hr⟩:∃ r,r=findT s (.node l' ks'):=⟨_,rfl⟩
          rw [← hr] at F1 hd hfl
          have Hd:=Lib.hid hd;have Hb:=Lib.hid hb
          have hbs:=Below.size hb
          have hWs:=Below.size HW.out
          clear hr hd hk' hb e3
          cases r with
          | none =>
            have F1:=Lib.hid F1
            clear hfl
            go_wp2_with (go_at_call 79;(with_reducible refine Calls.mono F1.out ?_);rintro e w1 ⟨oa1,cap1,rfl,_,hb1⟩)
            refine ⟨⟨k+1,by omega,by go_num,by rw [Hf.out,Hd.out],Hb.out.trans hb1⟩,?_⟩
            simp [intOf];omega
          | some p =>
            have F1:=Lib.hid F1
            have hpl:=hfl p rfl
            clear hfl
            go_upto_region 8 with (go_at_call 79;(with_reducible refine Calls.mono F1.out ?_);rintro e w1 ⟨oa1,cap1,rfl,hi1,hb1⟩)
            have hz1:=Below.size hb1
            have hown4:Hid (OwnsIs w.heap.size (w1.alloc (.cells #[.int .i64 k] 3)) (.slice (some ⟨w1.heap.size,0,none⟩) 1 1) [(k:Int)]):=Lib.hid (World.ownsRow_lit (base:=w.heap.size) (e:=3) (size:=1) w1 #[.int .i64 k] 1 (by omega) (by unfold maxLen;omega) rfl)
            have Hi1:=Lib.hid (Flat.any (Flat.pr (Pr.alloc w1 (.cells #[.int .i64 k] 3)) hi1))
            have Hpw:=Lib.hid ((HW.out.trans Hb.out).trans hb1)
            clear hi1
            go_wp2_with (at_builtin;go_must (refine app_ints rfl _ _ rfl w.heap.size _ [(k:Int)] rfl hown4.out _ p _ _ rfl Hi1.out (by simp;omega) (by simp;omega) ?_);intro v5 w5 ho5 hg5 hd5)
            obtain ⟨ov,cv,rfl,hv5⟩:=ho5.ints
            have hz:findF s 0 ks=some ((k:Int) :: p):=by rw [Hf.out,Hd.out]
            have Hz:=Lib.hid hz;have Hv5:=Lib.hid hv5;have Hg5:=Lib.hid hg5
            clear hz hv5 hg5 ho5 hd5
            go_ret2
            rw [Hz.out]
            refine ⟨ov,cv,by simp [Nat.add_comm],by simpa using Hv5.out,?_⟩
            exact Below.grown (Hpw.out.alloc' _) Hg5.out (by simp;omega) (fun j hj=>by cases hj;simp;omega)
        · have hkv:k=ks.length:=by omega
          subst hkv
          have hz:=Hf.out
          rw [List.drop_length,findF_nil] at hz
          have Hz:=Lib.hid hz
          clear hz Hf
          go_wp2_with fail
          go_ret2
          rw [Hz.out]
          exact ⟨none,0,rfl,Flat.nil _ _ _ _ (Nat.zero_le _),HW.out.trans hb⟩
end Go.Proofs.YtdbnfhpgmcjngacDoor
