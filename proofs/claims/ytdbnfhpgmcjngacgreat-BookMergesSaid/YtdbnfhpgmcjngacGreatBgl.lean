/- A region that draws its order, of reads and of calls that make memory of their own and tell what does not hang on it: one walk. -/
import Derived.Test.YtdbnfhpgmcjngacGreatBqt
import Derived.Test.YtdbnfhpgmcjngacGreatMem
import Derived.Test.YtdbnfhpgmcjngacGreatBwa
namespace Go.Proofs.YtdbnfhpgmcjngacGreat
open Go Go.RowKit
structure After (V:World) where
  w:World
  pr:Pr V w
instance (V:World):Nonempty (After V):=⟨⟨V,Pr.refl V⟩⟩
section
variable {P:Program}
theorem wp_region_after {id:Nat} {Q:Exit→Act→World→Prop} {a:Act} {V:World} {l:List Oper} (hm:P.follows .mixedOrders=true) (hB:Region.lexB .any l.toArray=true)
    (h:wpQuiet P l.toArray (fun w'=>∃ x:After V,w'=x.w) (fun a'=>∀ w',(∃ x:After V,w'=x.w)→Q .normal a' w') l a):(Code.region id l.toArray true).wp P Q a V :=
  wp_region_quiet (C:=fun w'=>∃ x:After V,w'=x.w) hm hB ⟨⟨V.drew,Pr.drew V⟩,rfl⟩ (by simpa using h)
theorem After.cell {V:World} {b o:Nat} {v:Value} (h:V.cell? ⟨b,o,none⟩=some v):∀ x:After V,x.w.cell? ⟨b,o,none⟩=some v:=fun x=>x.pr.cell h
theorem After.call {V:World} {f:FuncId} {args:Array Value} {v:Value} (h:∀ W',Pr V W'→Calls P f args W' fun e w'=>e=.returned v∧Pr W' w') :
    ∀ x:After V,Calls P f args x.w fun e w''=>e=.returned v∧∃ y:After V,w''=y.w:=fun x=>(h x.w x.pr).mono fun _ w'' ⟨he,hp⟩=>⟨he,⟨w'',x.pr.trans hp⟩,rfl⟩
end
end Go.Proofs.YtdbnfhpgmcjngacGreat
/- Walks: the laws' greatList. -/
namespace Go.Proofs.YtdbnfhpgmcjngacGreat
open Go Go.RowKit
def FewTs (ts:List Tr):Prop:=ts.length≤50∧Tr.szL ts≤400∧∀ t∈ts,great t=false
def GreatsPost (w:World) (ts:List Tr) (e:Ending) (w':World):Prop:=(∃ b,e=.returned (.bool b)∧(b=false→FewTs ts))∧Pr w w'
theorem sizeR_small {n:Nat} (h:n≤200):sizeR n 200=n:=by unfold sizeR;omega
set_option maxHeartbeats 1600000 in
theorem greats_any (ks:List Tr) (oa cap) (w:World) (hk:Kids Any w ks oa cap) :
    Calls Tryz.prog 5 #[.slice oa ks.length cap] w (GreatsPost w ks):=by
  have hm:=hk.len
  go_enter Tryz.func5,Tryz.ntmps5
  go_wp2_with fail
  go_loopw [3,4] (fun v i wr=>∃ (k:Nat) (n:Nat),k≤ks.length∧k≤60∧i=.int .i64 k∧v=.int .i64 n∧n=Tr.szL (ks.take k)∧n≤200 * k∧(∀ t∈ks.take k,great t=false)∧Pr w wr) (fun _ i _=>ks.length - (intOf i).toNat)
  case atStart=>exact ⟨0,0,by omega,by omega,rfl,rfl,by simp,by omega,by simp,Pr.refl _⟩
  case round =>
    obtain ⟨k,n,hkl,hk6,rfl,rfl,hn,hn2,hgr,hb⟩:=hrel
    have Hn:=Lib.hid hn;have Hg:=Lib.hid hgr
    clear hn hgr
    by_cases hlt:k < ks.length
    · by_cases h6:k < 60
      · obtain ⟨b,o,l',ks',oa',cap',e1,hl,rfl,c0,c1,hk'⟩:=(hk.pr hb).get k hlt
        have hgt:=fun (bl:Bool)=>great_any l' ks' oa' cap' wr hk'
        obtain ⟨bl,hbl⟩:∃ bl,bl=great (.node l' ks'):=⟨_,rfl⟩
        have G1:Hid (Calls Tryz.prog 22 #[.agg #[.string l',.slice oa' ks'.length cap']] wr fun e w'=>e=.returned (.bool bl)∧Pr wr w'):=Lib.hid (by rw [hbl];exact great_any l' ks' oa' cap' wr hk')
        have C0:=stays c0;have C1:=stays c1
        have hs:=Tr.szL_take_succ ks k hlt
        rw [e1,Tr.sz_node] at hs
        have ht:ks.take (k+1)=ks.take k ++ [.node l' ks']:=by rw [List.take_succ_eq_append_getElem hlt,e1]
        have Hbl:=Lib.hid hbl;have Hs:=Lib.hid hs;have Ht:=Lib.hid ht;have HK:=Lib.hid hk'
        clear e1 hgt hbl hs ht hk'
        cases bl
        case true =>
          go_wp2_with (go_at_call 22;(with_reducible refine Calls.mono G1.out ?_);rintro e w1 ⟨rfl,hb1⟩)
          go_ret
          exact ⟨⟨true,rfl,fun h=>by cases h⟩,hb.trans hb1⟩
        case false =>
          have hsz:Tr.szL ks'+1≤200:=by have:=great_false Hbl.out.symm;rw [Tr.sz_node] at this;omega
          obtain ⟨m,hm2⟩:∃ m,m=Tr.szL ks'+1:=⟨_,rfl⟩
          have S1:Hid (∀ W',Pr wr W'→Calls Tryz.prog 23 #[.agg #[.string l',.slice oa' ks'.length cap'],.int .i64 200] W' fun e w'=>e=.returned (.int .i64 (m:Nat))∧Pr W' w'):=Lib.hid fun W' h=>by
            have:=sizeOf_any _ l' ks' oa' cap' 200 W' (Nat.lt_succ_self _) (by omega) (by omega) (HK.out.pr h)
            rw [show ((Tr.szL ks'+1:Nat):Nat)=m from hm2.symm,sizeR_small (by omega)] at this;exact this
          have hm3:m≤200:=by omega
          have Hm2:=Lib.hid hm2
          clear hm2 hsz
          go_wp2_with (first
            | (go_at_call 22;(with_reducible refine Calls.mono G1.out ?_);rintro e w1 ⟨rfl,hb1⟩;have c0:=C0 _ hb1;have c1:=C1 _ hb1)
            | (go_at_call 23;(with_reducible refine Calls.mono (S1.out _ hb1) ?_);rintro e w2 ⟨rfl,hb2⟩))
          refine ⟨⟨k+1,n+m,by omega,by omega,by go_num,by go_num,by have:=Hs.out;have:=Hn.out;have:=Hm2.out;omega,by omega,?_,(hb.trans hb1).trans hb2⟩,?_⟩
          · rw [Ht.out]
            intro t h
            rcases List.mem_append.1 h with h | h
            · exact Hg.out t h
            · rw [List.mem_singleton] at h;subst h;exact Hbl.out.symm
          · simp [intOf];omega
      · have e5:(50:Int) < ks.length:=by omega
        go_wp2_with fail
        go_ret
        exact ⟨⟨true,rfl,fun h=>by cases h⟩,hb⟩
    · have hkv:k=ks.length:=by omega
      have hall:∀ t∈ks,great t=false:=by have:=Hg.out;rw [hkv,List.take_length] at this;exact this
      have hsz:n=Tr.szL ks:=by have:=Hn.out;rw [hkv,List.take_length] at this;exact this
      have Hall:=Lib.hid hall;have Hsz:=Lib.hid hsz
      clear hall hsz Hg Hn
      by_cases h5:50 < ks.length
      · have e5:(50:Int) < ks.length:=by omega
        go_wp2_with fail
        go_ret
        exact ⟨⟨true,rfl,fun h=>by cases h⟩,hb⟩
      · by_cases h4:400 < n
        · have e4:decide ((400:Int) < n)=true:=by simp;omega
          have e5:decide ((50:Int) < ks.length)=false:=by simp;omega
          go_wp2_with fail
          go_ret
          exact ⟨⟨true,by simp,fun h=>by cases h⟩,hb⟩
        · have e4:decide ((400:Int) < n)=false:=by simp;omega
          have e5:decide ((50:Int) < ks.length)=false:=by simp;omega
          go_wp2_with fail
          go_ret
          exact ⟨⟨false,by simp,fun _=>⟨by omega,by have:=Hsz.out;omega,Hall.out⟩⟩,hb⟩
end Go.Proofs.YtdbnfhpgmcjngacGreat
