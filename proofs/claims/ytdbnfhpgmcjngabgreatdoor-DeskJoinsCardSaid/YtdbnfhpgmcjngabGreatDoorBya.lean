/- Walks: slices.ContainsFunc of pairs; script.Diff's own predicates; script.rest. -/
import Derived.Test.YtdbnfhpgmcjngabGreatDoorBwn
import Derived.Test.YtdbnfhpgmcjngabGreatDoorBma
import Derived.Test.YtdbnfhpgmcjngabGreatDoorBpl
import Derived.WalkLawsBesides
import Derived.Test.YtdbnfhpgmcjngabGreatDoorBqt
namespace Go.Proofs.YtdbnfhpgmcjngabGreatDoor
open Go Go.RowKit
set_option maxHeartbeats 800000 in
theorem idxPairs_any (p:Int × Int→Bool) (g:Nat) (cv:List Value) (l:List (Int × Int)) (oa cap) (w:World) (hp:Prs Any w l oa cap)
    (hg:∀ args w,(callFunc g args).run Tryz.prog w=.ok (.enter g args) w)
    (H:∀ (a b:Int) wr,Pr w wr→Calls Tryz.prog g (.agg #[.int .i64 a,.int .i64 b] :: cv).toArray wr fun e w'=>e=.returned (.bool (p (a,b)))∧Pr wr w') :
    Calls Tryz.prog 135 #[.slice oa l.length cap,.func (.func g) #[] cv.toArray] w fun e w'=>(∃ r:Int,e=.returned (.int .i64 r)∧(decide (0≤r)=l.any p))∧Pr w w':=by
  have hm:=hp.len
  have HH:=Lib.hid H;clear H
  go_enter Tryz.func135,Tryz.ntmps135
  go_wp2_with fail
  go_loopw [8] (fun i wr=>∃ (n:Nat),n≤l.length∧i=.int .i64 n∧(l.take n).any p=false∧Pr w wr) (fun i _=>l.length - (intOf i).toNat)
  case atStart=>exact ⟨0,by omega,rfl,by simp,Pr.refl _⟩
  case round =>
    obtain ⟨n,hkl,rfl,hr,hb⟩:=hrel
    have Hr:=Lib.hid hr;clear hr
    by_cases hlt:n < l.length
    · obtain ⟨b,o,rfl,hcs⟩:=(hp.pr hb).get (by omega)
      obtain ⟨c0,c1⟩:=hcs n hlt
      have ht:l.take (n+1)=l.take n ++ [l[n]]:=List.take_succ_eq_append_getElem hlt
      have hyes:p l[n]=true→l.any p=true:=fun h=>List.any_eq_true.2 ⟨_,List.getElem_mem hlt,h⟩
      have hno:p l[n]=false→(l.take (n+1)).any p=false:=fun h=>by
        rw [ht,List.any_append,Hr.out];simp [h]
      have Hyes:=Lib.hid hyes;have Hno:=Lib.hid hno
      have A1:=Lib.hid (HH.out l[n].1 l[n].2 wr hb)
      clear hyes hno ht hcs
      generalize hq:p l[n]=q at *
      have hq2:p (l[n].1,l[n].2)=q:=hq
      have Hq:=Lib.hid hq2
      clear hq hq2
      generalize hx:l[n].1=x at *
      generalize hy:l[n].2=y at *
      have Hx:=Lib.hid hx;have Hy:=Lib.hid hy
      clear hx hy
      cases q
      all_goals
        go_wp2_with (first | (refine Calls.mono A1.out ?_;rintro e w' ⟨rfl,hb1⟩))
      · refine ⟨⟨n+1,by omega,by go_num,Hno.out (by trivial),hb.trans hb1⟩,?_⟩
        simp [intOf];omega
      · go_ret
        exact ⟨⟨n,rfl,by rw [Hyes.out (by trivial)];simp⟩,hb.trans hb1⟩
    · have hkv:n=l.length:=by omega
      go_wp2_with fail
      go_ret
      exact ⟨⟨-1,rfl,by subst hkv;have:=Hr.out;rw [List.take_length] at this;rw [this];rfl⟩,hb⟩
theorem hasPairs_any (p:Int × Int→Bool) (g:Nat) (cv:List Value) (l:List (Int × Int)) (oa cap) (w:World) (hp:Prs Any w l oa cap)
    (hg:∀ args w,(callFunc g args).run Tryz.prog w=.ok (.enter g args) w)
    (H:∀ (a b:Int) wr,Pr w wr→Calls Tryz.prog g (.agg #[.int .i64 a,.int .i64 b] :: cv).toArray wr fun e w'=>e=.returned (.bool (p (a,b)))∧Pr wr w') :
    Calls Tryz.prog 100 #[.slice oa l.length cap,.func (.func g) #[] cv.toArray] w fun e w'=>e=.returned (.bool (l.any p))∧Pr w w':=by
  have h1:=Lib.hid (idxPairs_any p g cv l oa cap w hp hg H)
  clear H hg hp
  go_enter Tryz.func100,Tryz.ntmps100
  go_wp2_with (go_at_call 135;(with_reducible refine Calls.mono h1.out ?_);rintro e w' ⟨⟨r,rfl,hr⟩,hb'⟩;have Hr:=Lib.hid hr;clear hr)
  go_ret
  exact ⟨ret_bool Hr.out,hb'⟩
theorem dA1_run:∀ args w,(callFunc 101 args).run Tryz.prog w=.ok (.enter 101 args) w:=fun _ _=>by kernel_rfl
theorem dB1_run:∀ args w,(callFunc 103 args).run Tryz.prog w=.ok (.enter 103 args) w:=fun _ _=>by kernel_rfl
theorem dA_run:∀ args w,(callFunc 99 args).run Tryz.prog w=.ok (.enter 99 args) w:=fun _ _=>by kernel_rfl
theorem dB_run:∀ args w,(callFunc 102 args).run Tryz.prog w=.ok (.enter 102 args) w:=fun _ _=>by kernel_rfl
theorem dA1_any (a b k:Int) (B:Nat) (w:World) (hc:w.cell? ⟨B,0,none⟩=some (.int .i64 k)) :
    Calls Tryz.prog 101 #[.agg #[.int .i64 a,.int .i64 b],.pointer (some ⟨B,0,none⟩)] w fun e w'=>e=.returned (.bool (a==k))∧Pr w w':=by
  have h2:=fun o=>(Pr.alloc w o).cell hc
  go_enter Tryz.func101,Tryz.ntmps101
  go_wp2_with fail
  go_ret
  exact ⟨rfl,Pr.alloc _ _⟩
theorem dB1_any (a b k:Int) (B:Nat) (w:World) (hc:w.cell? ⟨B,0,none⟩=some (.int .i64 k)) :
    Calls Tryz.prog 103 #[.agg #[.int .i64 a,.int .i64 b],.pointer (some ⟨B,0,none⟩)] w fun e w'=>e=.returned (.bool (b==k))∧Pr w w':=by
  have h2:=fun o=>(Pr.alloc w o).cell hc
  go_enter Tryz.func103,Tryz.ntmps103
  go_wp2_with fail
  go_ret
  exact ⟨rfl,Pr.alloc _ _⟩
theorem dA_any (l:List (Int × Int)) (oa cap) (k:Int) (C:Nat) (w:World) (hp:Prs Any w l oa cap) (hc:w.cell? ⟨C,0,none⟩=some (.slice oa l.length cap)) :
    Calls Tryz.prog 99 #[.int .i64 k,.pointer (some ⟨C,0,none⟩)] w fun e w'=>e=.returned (.bool (l.any fun p=>p.1==k))∧Pr w w':=by
  have hmf:∀ (fn:Fn) (first cap:Array Value) (w:World),(Instr.makeFunc fn first cap).run Tryz.prog w=.ok (.func fn first cap) w:=fun _ _ _ _=>rfl
  have hw:=Pr.alloc w (.cells #[.int .i64 k] 3)
  have h2:=hw.cell hc
  have hB:(w.alloc (.cells #[.int .i64 k] 3)).cell? ⟨w.heap.size,0,none⟩=some (.int .i64 k):=by simp [go_sem]
  have h1:=Lib.hid (hasPairs_any (fun p=>p.1==k) 101 [.pointer (some ⟨w.heap.size,0,none⟩)] l oa cap (w.alloc (.cells #[.int .i64 k] 3)) (hp.pr hw) dA1_run (fun a b wr h=>dA1_any a b k w.heap.size wr (h.cell hB)))
  have Hw:=Lib.hid hw
  clear hw hp hB
  go_enter Tryz.func99,Tryz.ntmps99
  go_wp2_with (go_at_call 100;(with_reducible refine Calls.mono h1.out ?_);rintro e w1 ⟨rfl,hb1⟩)
  go_ret
  exact ⟨rfl,Hw.out.trans hb1⟩
theorem dB_any (l:List (Int × Int)) (oa cap) (k:Int) (C:Nat) (w:World) (hp:Prs Any w l oa cap) (hc:w.cell? ⟨C,0,none⟩=some (.slice oa l.length cap)) :
    Calls Tryz.prog 102 #[.int .i64 k,.pointer (some ⟨C,0,none⟩)] w fun e w'=>e=.returned (.bool (l.any fun p=>p.2==k))∧Pr w w':=by
  have hmf:∀ (fn:Fn) (first cap:Array Value) (w:World),(Instr.makeFunc fn first cap).run Tryz.prog w=.ok (.func fn first cap) w:=fun _ _ _ _=>rfl
  have hw:=Pr.alloc w (.cells #[.int .i64 k] 3)
  have h2:=hw.cell hc
  have hB:(w.alloc (.cells #[.int .i64 k] 3)).cell? ⟨w.heap.size,0,none⟩=some (.int .i64 k):=by simp [go_sem]
  have h1:=Lib.hid (hasPairs_any (fun p=>p.2==k) 103 [.pointer (some ⟨w.heap.size,0,none⟩)] l oa cap (w.alloc (.cells #[.int .i64 k] 3)) (hp.pr hw) dB1_run (fun a b wr h=>dB1_any a b k w.heap.size wr (h.cell hB)))
  have Hw:=Lib.hid hw
  clear hw hp hB
  go_enter Tryz.func102,Tryz.ntmps102
  go_wp2_with (go_at_call 100;(with_reducible refine Calls.mono h1.out ?_);rintro e w1 ⟨rfl,hb1⟩)
  go_ret
  exact ⟨rfl,Hw.out.trans hb1⟩
def restZ (p:Nat→Bool) (n:Nat):List Int:=((List.range' 0 n).filter fun i=>!p i).map Int.ofNat
theorem restZ_succ (p:Nat→Bool) (n:Nat):restZ p (n+1)=if p n then restZ p n else restZ p n ++ [(n:Int)]:=by
  unfold restZ
  rw [List.range'_1_concat,List.filter_append,List.map_append]
  cases h:p n <;> simp [h]
theorem restZ_length (p:Nat→Bool) (n:Nat):(restZ p n).length≤n:=by
  unfold restZ
  rw [List.length_map]
  have:=List.length_filter_le (fun i=>!p i) (List.range' 0 n)
  rw [List.length_range'] at this;exact this
set_option maxHeartbeats 800000 in
theorem rest_any (p:Nat→Bool) (g:Nat) (cv:List Value) (n:Nat) (hn:n≤1000000) (w:World)
    (hg:∀ args w,(callFunc g args).run Tryz.prog w=.ok (.enter g args) w)
    (H:∀ (i:Nat) wr,i < n→Pr w wr→Calls Tryz.prog g (.int .i64 i :: cv).toArray wr fun e w'=>e=.returned (.bool (p i))∧Pr wr w') :
    Calls Tryz.prog 105 #[.int .i64 n,.func (.func g) #[] cv.toArray] w (IntsPost w (restZ p n)):=by
  have HH:=Lib.hid H;clear H
  go_enter Tryz.func105,Tryz.ntmps105
  go_wp2_with fail
  go_loopw [5,8] (fun v i wr=>∃ (k:Nat),k≤n∧i=.int .i64 k∧OwnsIs w.heap.size wr v (restZ p k)∧Pr w wr) (fun _ i _=>n - (intOf i).toNat)
  case atStart=>exact ⟨0,by omega,rfl,by simpa [restZ] using OwnsIs.nil _ _,Pr.refl _⟩
  case round =>
    obtain ⟨k,hkl,rfl,ho,hb⟩:=hrel
    have Ho:=Lib.hid ho;clear ho
    by_cases hlt:k < n
    · have A1:=Lib.hid (HH.out k wr hlt hb)
      have hs:=restZ_succ p k
      have hl:=restZ_length p k
      have hbs:=Below.size hb
      generalize hq:p k=q at *
      have Hq:=Lib.hid hq;have Hs:=Lib.hid hs
      clear hq hs
      cases q
      · go_wp2_with (first
          | (at_builtin;go_must (refine app_int rfl _ _ rfl w.heap.size _ _ rfl ((Ho.out.pr hb1).pr (Pr.alloc _ _)) w1.heap.size rfl _ (heap_alloc_new w1 _) (by omega) (by have:=Below.size hb1;simp;omega) ?_);intro g4 c4 w2 ho4 hg4 hd4)
          | (refine Calls.mono A1.out ?_;rintro e w1 ⟨rfl,hb1⟩))
        refine ⟨⟨k+1,by omega,by go_num,by rw [Hs.out];exact ho4,Below.grown ((hb.trans hb1).alloc' _) hg4 (by have:=Below.size hb1;simp;omega) (fun k hk=>(Ho.out.block k hk).1)⟩,?_⟩
        simp [intOf];omega
      · go_wp2_with (refine Calls.mono A1.out ?_;rintro e w1 ⟨rfl,hb1⟩)
        refine ⟨⟨k+1,by omega,by go_num,by rw [Hs.out];exact Ho.out.pr hb1,hb.trans hb1⟩,?_⟩
        simp [intOf];omega
    · have hkv:k=n:=by omega
      subst hkv
      go_wp2_with fail
      go_ret
      exact ⟨_,rfl,Ho.out,hb⟩
end Go.Proofs.YtdbnfhpgmcjngabGreatDoor
/- Walks: slices.Contains of numbers; script.above, script.where. -/
namespace Go.Proofs.YtdbnfhpgmcjngabGreatDoor
open Go Go.RowKit
set_option maxHeartbeats 800000 in
theorem indexInt_any (xs:List Int) (oa cap) (v:Int) (w:World) (hx:Ints Any w xs oa cap) :
    Calls Tryz.prog 167 #[.slice oa xs.length cap,.int .i64 v] w fun e w'=>(∃ r:Int,e=.returned (.int .i64 r)∧decide (0≤r)=decide (v∈xs))∧Pr w w':=by
  have hm:=Ints.len hx
  go_enter Tryz.func167,Tryz.ntmps167
  go_wp2_with fail
  go_loopw [8] (fun i wr=>∃ (k:Nat),k≤xs.length∧i=.int .i64 k∧v ∉ xs.take k∧Pr w wr) (fun i _=>xs.length - (intOf i).toNat)
  case atStart=>exact ⟨0,by omega,rfl,by simp,Pr.refl _⟩
  case round =>
    obtain ⟨k,hkl,rfl,hr,hb⟩:=hrel
    have Hr:=Lib.hid hr;clear hr
    by_cases hlt:k < xs.length
    · obtain ⟨b,o,rfl,c0⟩:=Ints.get (Flat.pr hb hx) k hlt
      have hk0:(0:Int)≤k:=by omega
      have hk1:(k:Int) < xs.length:=by omega
      have hsn:v≠xs[k]→v ∉ xs.take (k+1):=fun h=>by
        rw [List.take_succ_eq_append_getElem hlt];simp only [List.mem_append,List.mem_singleton,not_or];exact ⟨Hr.out,h⟩
      have hin:v=xs[k]→v∈xs:=fun h=>by rw [h];exact List.getElem_mem hlt
      generalize xs[k]=x at *
      have Hsn:=Lib.hid hsn
      have Hin:=Lib.hid hin
      clear hsn hin
      by_cases hp:v=x
      · have hb1:(v==x)=true:=by simp [hp]
        have Hp:=Lib.hid hp
        clear hp
        go_wp2_with fail
        go_ret
        exact ⟨⟨k,rfl,by rw [decide_eq_true hk0,decide_eq_true (Hin.out Hp.out)]⟩,hb⟩
      · have hb1:(v==x)=false:=by simp [hp]
        have Hp:=Lib.hid hp
        clear hp
        go_wp2_with fail
        refine ⟨⟨k+1,by omega,by go_num,Hsn.out Hp.out,hb⟩,?_⟩
        simp [intOf];omega
    · have hkv:k=xs.length:=by omega
      subst hkv
      go_wp2_with fail
      go_ret
      exact ⟨⟨-1,rfl,by have:=Hr.out;rw [List.take_length] at this;simp [this]⟩,hb⟩
theorem containsInt_any (xs:List Int) (oa cap) (v:Int) (w:World) (hx:Ints Any w xs oa cap) :
    Calls Tryz.prog 155 #[.slice oa xs.length cap,.int .i64 v] w fun e w'=>e=.returned (.bool (decide (v∈xs)))∧Pr w w':=by
  have h1:=Lib.hid (indexInt_any xs oa cap v w hx)
  clear hx
  go_enter Tryz.func155,Tryz.ntmps155
  go_wp2_with (go_at_call 167;(with_reducible refine Calls.mono h1.out ?_);rintro e w' ⟨⟨r,rfl,hr⟩,hb'⟩;have Hr:=Lib.hid hr;clear hr)
  go_ret
  exact ⟨ret_bool Hr.out,hb'⟩
def UpOk (l:List Nd):Prop:=∀ v (h:v < l.length),l[v].par=-1∨∃ m:Nat,m < l.length∧v < m∧l[v].par=(m:Int)
theorem upOk_nds (t:Tr):UpOk (nds t):=fun v h=>by
  rcases par_parts h with ⟨h1,_⟩ | ⟨m,h1,h2,h3,_⟩
  · rw [parN_get _ _ h] at h1;exact .inl h1
  · rw [parN_get _ _ h] at h3;exact .inr ⟨m,h1,h2,h3⟩
def GoneOk (l:List Nd) (xs:List Int) (g:Nat→Bool):Prop:=(∀ i:Nat,decide ((i:Int)∈xs)=g i)∧∀ v (h:v < l.length),g v=true→∃ m:Nat,m < l.length∧v < m∧l[v].par=(m:Int)
def AbvPost (l:List Nd) (g:Nat→Bool) (z:Int) (w:World) (e:Ending) (w':World):Prop:=e=.returned (.int .i64 (abv l g z))∧Pr w w'
def NumOk (l:List Nd) (z:Int):Prop:=z=-1∨∃ m:Nat,m < l.length∧z=(m:Int)
set_option maxHeartbeats 1600000 in
theorem above_any (l:List Nd) (hu:UpOk l) (oa cap) (xs:List Int) (ob cb) (g:Nat→Bool) (hg:GoneOk l xs g) (n:Nat) (hn:n < l.length) (w:World) (hl:Nds Any w l oa cap) (hx:Ints Any w xs ob cb) :
    Calls Tryz.prog 156 #[.slice oa l.length cap,.slice ob xs.length cb,.int .i64 n] w (AbvPost l g (parN l n) w):=by
  have Hu:=Lib.hid hu;have Hg:=Lib.hid hg;have Hx:=Lib.hid hx;have Hl:=Lib.hid hl
  have hm:=hl.len;have hm2:=Ints.len hx
  have hz0:NumOk l (parN l n):=by
    rw [parN_get _ _ hn]
    rcases hu n hn with h | ⟨m,h1,_,h2⟩
    · exact .inl h
    · exact .inr ⟨m,h1,h2⟩
  obtain ⟨b,o,hoa,d0,d1,d2⟩:=hl.get n hn
  rw [← parN_get _ _ hn] at d1
  generalize hz:parN l n=z0 at *
  have Hz0:=Lib.hid hz0
  clear hu hg hx hl hz0 hz d0 d2
  subst hoa
  go_enter Tryz.func156,Tryz.ntmps156
  go_wp2_with fail
  go_loopw [7] (fun u wr=>∃ z:Int,u=.int .i64 z∧NumOk l z∧abv l g z=abv l g z0∧Pr w wr) (fun u _=>if intOf u < 0 then 0 else l.length - (intOf u).toNat)
  case atStart=>exact ⟨z0,rfl,Hz0.out,rfl,Pr.refl _⟩
  case round =>
    obtain ⟨z,rfl,hnum,ha,hb⟩:=hrel
    have Ha:=Lib.hid ha;clear ha
    rcases hnum with rfl | ⟨m,hlt,rfl⟩
    · go_wp2_with fail
      go_ret
      exact ⟨by rw [← Ha.out,abv_neg (by omega)];rfl,hb⟩
    · obtain ⟨b',o',hbo,c0,c1,c2⟩:=(Hl.out.pr hb).get m hlt
      cases hbo
      have hk0:(0:Int)≤m:=by omega
      have hk1:(m:Int) < l.length:=by omega
      have C1:=Lib.hid fun W (h:Pr wr W)=>containsInt_any xs ob cb m W (Flat.pr (hb.trans h) Hx.out)
      have hC1:=stays c1
      clear c0 c1 c2
      cases hgm:g m
      · have e1:decide ((m:Int)∈xs)=false:=by rw [Hg.out.1 m,hgm]
        have Hgm:=Lib.hid hgm
        have He1:=Lib.hid e1
        clear hgm e1
        go_wp2_with (go_at_call 155;(with_reducible refine Calls.mono (C1.out _ (Pr.refl _)) ?_);rintro e w1 ⟨rfl,hb1⟩;rw [He1.out])
        go_ret
        exact ⟨by rw [← Ha.out,abv_stay Hgm.out];rfl,hb.trans hb1⟩
      · have e1:decide ((m:Int)∈xs)=true:=by rw [Hg.out.1 m,hgm]
        obtain ⟨m',hm1,hm2',hm3⟩:=Hg.out.2 m hlt hgm
        have hup:abv l g (m:Int)=abv l g (m':Int):=by rw [abv_up hlt hgm (by rw [parN_get _ _ hlt,hm3];omega),parN_get _ _ hlt,hm3]
        rw [hm3] at hC1
        have Hup:=Lib.hid hup
        have He1:=Lib.hid e1
        clear hgm e1 hm3 hup
        go_wp2_with (go_at_call 155;(with_reducible refine Calls.mono (C1.out _ (Pr.refl _)) ?_);rintro e w1 ⟨rfl,hb1⟩;rw [He1.out];have c1:=hC1 _ hb1)
        refine ⟨⟨m',rfl,.inr ⟨m',hm1,rfl⟩,by rw [← Ha.out,Hup.out],hb.trans hb1⟩,?_⟩
        have n1:¬ ((m:Int) < 0):=by omega
        have n2:¬ ((m':Int) < 0):=by omega
        simp [intOf,n1,n2];omega
theorem whN_length {l:List Nd} {g:Nat→Bool}:∀ (N n:Nat),l.length - n≤N→(whN l g n).length≤N
  | 0,n,h=>by rw [whN,dif_neg (by omega)];simp
  | N+1,n,h=>by
    by_cases hn:n < l.length
    · by_cases hp:(n:Int) < l[n].par
      · rw [whN_up hn hp,List.length_append]
        have:=whN_length (l:=l) (g:=g) N l[n].par.toNat (by omega)
        simp;omega
      · rw [whN_root hn hp];simp
    · rw [whN,dif_neg hn];simp
set_option maxHeartbeats 1600000 in
theorem where_step (l:List Nd) (hu:UpOk l) (hs:l.length≤1000000) (xs:List Int) (g:Nat→Bool) (hg:GoneOk l xs g) (N:Nat):∀ (n:Nat) (oa cap ob cb) (w:World),n < l.length→l.length - n < N→Nds Any w l oa cap→Ints Any w xs ob cb →
    Calls Tryz.prog 136 #[.slice oa l.length cap,.slice ob xs.length cb,.int .i64 n] w (IntsPost w (whN l g n)):=by
  induction N with
  | zero=>intro n oa cap ob cb w hn hN;omega
  | succ N ih =>
    intro n oa cap ob cb w hn hN hl hx
    have Ih:=Lib.hid ih;clear ih
    have hm:=hl.len;have hm2:=Ints.len hx
    obtain ⟨b,o,rfl,e0,e1,e2⟩:=hl.get n hn
    rcases hu n hn with hp | ⟨m,hm1,hnm,hp⟩
    · have Hp:=Lib.hid (whN_root (g:=g) hn (by rw [hp];omega))
      rw [hp] at e1
      clear e0 e2
      go_enter Tryz.func136,Tryz.ntmps136
      go_wp2_with fail
      go_ret
      exact ⟨_,rfl,by rw [Hp.out];exact OwnsIs.nil _ _,Pr.refl _⟩
    have Hp:=Lib.hid (whN_up (g:=g) hn (by rw [hp];omega))
    rw [hp] at e1
    have Hpar:=Lib.hid hp
    have Hx:=Lib.hid hx;have Hl:=Lib.hid hl;have Hu:=Lib.hid hu;have Hg:=Lib.hid hg
    clear e0 e2 hp hx hl hu hg
    go_enter Tryz.func136,Tryz.ntmps136
    go_wp2_with fail
    go_loopw [8,18] (fun c i wr=>∃ (k r:Nat),k≤n∧i=.int .i64 k∧c=.int .i64 r∧r=cntS l g (m:Int) 0 k∧r≤k∧Pr w wr) (fun _ i _=>n - (intOf i).toNat)
    case atStart=>exact ⟨0,0,by omega,rfl,rfl,by simp [cntS],by omega,Pr.refl _⟩
    case round =>
      obtain ⟨k,r,hkl,rfl,rfl,hr,hrk,hb⟩:=hrel
      have Hr:=Lib.hid hr
      clear hr
      by_cases hlt:k < n
      · have hkl2:k < l.length:=by omega
        have hc:=cntS_add l g (m:Int) 0 k 1
        rw [cntS_one,Nat.zero_add] at hc
        have C1:=Lib.hid (containsInt_any xs ob cb k wr (Flat.pr hb Hx.out))
        have A1:=Lib.hid fun W (h:Pr wr W)=>above_any l Hu.out _ cap xs ob cb g Hg.out k hkl2 W (Hl.out.pr (hb.trans h)) (Flat.pr (hb.trans h) Hx.out)
        cases hgk:g k
        · have e1:decide ((k:Int)∈xs)=false:=by rw [Hg.out.1 k,hgk]
          have He1:=Lib.hid e1
          rw [hgk] at hc
          have Hc:=Lib.hid hc
          obtain ⟨z,hz⟩:∃ z,z=abv l g (parN l k):=⟨_,rfl⟩
          have Hz:=Lib.hid hz
          clear hgk e1 hc hz
          by_cases hzm:z=(m:Int)
          · have hb1:(z==(m:Int))=true:=by simp [hzm]
            have Hzm:=Lib.hid hzm
            clear hzm
            go_wp2_with (first
              | (go_at_call 155;(with_reducible refine Calls.mono C1.out ?_);rintro e w1 ⟨rfl,hb1'⟩;rw [He1.out])
              | (go_at_call 156;(with_reducible refine Calls.mono (A1.out _ hb1') ?_);rintro e w2 ⟨rfl,hb2⟩;rw [← Hz.out]))
            refine ⟨⟨k+1,r+1,by omega,by go_num,by go_num,by rw [Hc.out,← Hr.out,← Hz.out,Hzm.out];simp,by omega,(hb.trans hb1').trans hb2⟩,?_⟩
            simp [intOf];omega
          · have hb1:(z==(m:Int))=false:=by simp [hzm]
            have Hzm:=Lib.hid hzm
            clear hzm
            go_wp2_with (first
              | (go_at_call 155;(with_reducible refine Calls.mono C1.out ?_);rintro e w1 ⟨rfl,hb1'⟩;rw [He1.out])
              | (go_at_call 156;(with_reducible refine Calls.mono (A1.out _ hb1') ?_);rintro e w2 ⟨rfl,hb2⟩;rw [← Hz.out]))
            refine ⟨⟨k+1,r,by omega,by go_num,by go_num,by rw [Hc.out,← Hr.out,← Hz.out];simp [Hzm.out],by omega,(hb.trans hb1').trans hb2⟩,?_⟩
            simp [intOf];omega
        · have e1:decide ((k:Int)∈xs)=true:=by rw [Hg.out.1 k,hgk]
          have He1:=Lib.hid e1
          rw [hgk] at hc
          have Hc:=Lib.hid hc
          clear hgk e1 hc
          go_wp2_with (first
            | (go_at_call 155;(with_reducible refine Calls.mono C1.out ?_);rintro e w1 ⟨rfl,hb1'⟩;rw [He1.out]))
          refine ⟨⟨k+1,r,by omega,by go_num,by go_num,by rw [Hc.out,← Hr.out];simp,by omega,hb.trans hb1'⟩,?_⟩
          simp [intOf];omega
      · have hkv:k=n:=by omega
        have Hcx:=Lib.hid (whN_length (l:=l) (g:=g) _ m (Nat.le_refl _))
        go_wp2_with (first
          | (go_at_call 136;(with_reducible refine Calls.mono (Ih.out m _ _ _ _ _ hm1 (by omega) (Hl.out.pr hb) (Flat.pr hb Hx.out)) ?_);rintro e w1 ⟨v,rfl,ho,hb1⟩)
          | (at_builtin;go_must (refine app_int rfl _ _ rfl wr.heap.size _ _ rfl (ho.pr (Pr.alloc _ _)) w1.heap.size rfl _ (heap_alloc_new w1 _) (by have:=Hcx.out;omega) (by have:=Below.size hb1;simp;omega) ?_);intro g4 c4 w2 ho4 hg4 hd4))
        go_ret
        refine ⟨_,rfl,?_,?_⟩
        · rw [Hp.out,Hpar.out]
          subst hkv
          rw [← Hr.out]
          exact ho4.mono (Below.size hb)
        · exact hb.trans (Below.grown (hb1.alloc' _) hg4 (by have:=Below.size hb1;simp;omega) (fun k hk=>(ho.block k hk).1))
theorem where_any (l:List Nd) (hu:UpOk l) (hs:l.length≤1000000) (xs:List Int) (g:Nat→Bool) (hg:GoneOk l xs g) (n:Nat) (oa cap ob cb) (w:World) (hn:n < l.length) (hl:Nds Any w l oa cap) (hx:Ints Any w xs ob cb) :
    Calls Tryz.prog 136 #[.slice oa l.length cap,.slice ob xs.length cb,.int .i64 n] w (IntsPost w (whN l g n)):=where_step l hu hs xs g hg _ n oa cap ob cb w hn (Nat.lt_succ_self _) hl hx
end Go.Proofs.YtdbnfhpgmcjngabGreatDoor
