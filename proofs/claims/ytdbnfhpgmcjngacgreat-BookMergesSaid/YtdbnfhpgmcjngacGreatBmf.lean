/- Walks: what merge's lists ask: the same lists, where a place stands, a label; and how it gives up. -/
import Derived.Test.YtdbnfhpgmcjngacGreatMe
import Derived.Test.YtdbnfhpgmcjngacGreatBpl
import Derived.Test.YtdbnfhpgmcjngacGreatBcl
import Derived.WalkLawsBesides
namespace Go.Proofs.YtdbnfhpgmcjngacGreat
open Go Go.RowKit
theorem sameList_any (ks js:List Tr) (oa cap ob cbp) (w:World) (hk:Kids Any w ks oa cap) (hj:Kids Any w js ob cbp) :
    Calls Tryz.prog 105 #[.slice oa ks.length cap,.slice ob js.length cbp] w fun e w'=>e=.returned (.bool (Tr.beqL ks js))∧Pr w w':=by
  have h:=Lib.hid ((psame_both _).2 ks js oa cap ob cbp w (Nat.lt_succ_self _) hk hj)
  go_enter Tryz.func105,Tryz.ntmps105
  go_wp2_with (go_at_call 92;(with_reducible refine Calls.mono h.out ?_);rintro e w' ⟨rfl,hb⟩)
  go_ret
  exact ⟨rfl,hb⟩
theorem at1_run:∀ args w,(callFunc 104 args).run Tryz.prog w=.ok (.enter 104 args) w:=fun _ _=>by kernel_rfl
theorem at1_any (a b k:Int) (B:Nat) (w:World) (hc:w.cell? ⟨B,0,none⟩=some (.int .i64 k)) :
    Calls Tryz.prog 104 #[.agg #[.int .i64 a,.int .i64 b],.pointer (some ⟨B,0,none⟩)] w fun e w'=>e=.returned (.bool (a==k))∧Pr w w':=by
  have h2:=fun o=>(Pr.alloc w o).cell hc
  go_enter Tryz.func104,Tryz.ntmps104
  go_wp2_with fail
  go_ret
  exact ⟨rfl,Pr.alloc _ _⟩
def atZ (l:List (Int × Int)) (k:Int):Int:=match l.find? (fun p=>p.1==k) with | some p=>p.2 | none=>-1
def IdxOk (l:List (Int × Int)) (k r:Int):Prop:=(r=-1∧l.find? (fun p=>p.1==k)=none)∨∃ i,∃ h:i < l.length,r=(i:Int)∧l.find? (fun p=>p.1==k)=some l[i]
def IdxPost (l:List (Int × Int)) (k:Int) (w:World) (e:Ending) (w':World):Prop:=(∃ r,e=.returned (.int .i64 r)∧IdxOk l k r)∧Pr w w'
set_option maxHeartbeats 800000 in
theorem indexPair_any (l:List (Int × Int)) (oa cap) (k:Int) (B:Nat) (w:World) (hp:Prs Any w l oa cap) (hc:w.cell? ⟨B,0,none⟩=some (.int .i64 k)) :
    Calls Tryz.prog 87 #[.slice oa l.length cap,.func (.func 104) #[] #[.pointer (some ⟨B,0,none⟩)]] w (IdxPost l k w):=by
  have hm:=hp.len
  have hg:=at1_run
  have Hc:=stays hc
  clear hc
  go_enter Tryz.func87,Tryz.ntmps87
  go_wp2_with fail
  go_loopw [8] (fun i wr=>∃ (n:Nat),n≤l.length∧i=.int .i64 n∧(l.take n).find? (fun p=>p.1==k)=none∧Pr w wr) (fun i _=>l.length - (intOf i).toNat)
  case atStart=>exact ⟨0,by omega,rfl,by simp,Pr.refl _⟩
  case round =>
    obtain ⟨n,hkl,rfl,hr,hb⟩:=hrel
    have Hr:=Lib.hid hr;clear hr
    by_cases hlt:n < l.length
    · obtain ⟨b,o,rfl,hcs⟩:=(hp.pr hb).get (by omega)
      obtain ⟨c0,c1⟩:=hcs n hlt
      have ht:l.take (n+1)=l.take n ++ [l[n]]:=List.take_succ_eq_append_getElem hlt
      have hd:l=l.take n ++ l[n] :: l.drop (n+1):=by rw [← List.drop_eq_getElem_cons hlt,List.take_append_drop]
      have hyes:(l[n].1==k)=true→l.find? (fun p=>p.1==k)=some l[n]:=fun h=>by
        have h2:(l.take n ++ l[n] :: l.drop (n+1)).find? (fun p=>p.1==k)=some l[n]:=by
          rw [List.find?_append,Hr.out]
          simp only [Option.none_or]
          rw [List.find?_cons_of_pos (by simpa using h)]
        rw [← hd] at h2
        exact h2
      have hno:(l[n].1==k)=false→(l.take (n+1)).find? (fun p=>p.1==k)=none:=fun h=>by
        rw [ht,List.find?_append,Hr.out];simp [h]
      have Hyes:=Lib.hid hyes;have Hno:=Lib.hid hno
      have A1:=Lib.hid (at1_any l[n].1 l[n].2 k B wr (Hc _ hb))
      clear hyes hno ht hd hcs
      generalize hx:l[n].1=x at *
      generalize hy:l[n].2=y at *
      have Hx:=Lib.hid hx;have Hy:=Lib.hid hy
      clear hx hy
      cases hxk:(x==k)
      all_goals
        have Hxk:=Lib.hid hxk
        clear hxk
        go_wp2_with (first | (go_at_call 104;(with_reducible refine Calls.mono A1.out ?_);rintro e w' ⟨rfl,hb1⟩;simp only [Hxk.out]))
      · refine ⟨⟨n+1,by omega,by go_num,Hno.out Hxk.out,hb.trans hb1⟩,?_⟩
        simp [intOf];omega
      · go_ret
        exact ⟨⟨n,rfl,.inr ⟨n,hlt,rfl,Hyes.out Hxk.out⟩⟩,hb.trans hb1⟩
    · have hkv:n=l.length:=by omega
      go_wp2_with fail
      go_ret
      exact ⟨⟨-1,rfl,.inl ⟨rfl,by subst hkv;have:=Hr.out;rw [List.take_length] at this;exact this⟩⟩,hb⟩
set_option maxHeartbeats 800000 in
theorem pairAt_any (l:List (Int × Int)) (oa cap) (k:Int) (w:World) (hp:Prs Any w l oa cap) :
    Calls Tryz.prog 95 #[.slice oa l.length cap,.int .i64 k] w fun e w'=>e=.returned (.int .i64 (atZ l k))∧Pr w w':=by
  have hmf:∀ (fn:Fn) (first cap:Array Value) (w:World),(Instr.makeFunc fn first cap).run Tryz.prog w=.ok (.func fn first cap) w:=fun _ _ _ _=>rfl
  have hm:=hp.len
  have hw:=Pr.alloc w (.cells #[.int .i64 k] 3)
  have h1:=Lib.hid (indexPair_any l oa cap k w.heap.size (w.alloc (.cells #[.int .i64 k] 3)) (hp.pr hw) (by simp [go_sem]))
  have hp2:=hp.pr hw
  obtain ⟨z,hz⟩:∃ z,z=atZ l k:=⟨_,rfl⟩
  rw [← hz]
  have Hz:=Lib.hid hz
  have Hw:=Lib.hid hw
  have HP:=Lib.hid hp2
  clear hz hw hp2 hp
  go_enter Tryz.func95,Tryz.ntmps95
  go_upto_region 2 with (go_at_call 87;(with_reducible refine Calls.mono h1.out ?_);rintro e w1 ⟨⟨r,rfl,hr⟩,hb1⟩)
  rcases hr with ⟨rfl,hf⟩ | ⟨i,hi,rfl,hf⟩
  · have hz1:z=-1:=by rw [Hz.out];unfold atZ;rw [hf]
    have Hz1:=Lib.hid hz1
    clear hf hz1
    go_wp2_with fail
    go_ret
    exact ⟨by rw [Hz1.out];rfl,Hw.out.trans hb1⟩
  · obtain ⟨b,o,rfl,hcs⟩:=(HP.out.pr hb1).get (by omega)
    have c1:=(hcs i hi).2
    have e1:z=l[i].2:=by rw [Hz.out];unfold atZ;rw [hf]
    rw [← e1] at c1
    have z1:decide ((i:Int) < 0)=false:=by simp
    have z2:(0:Int)≤i:=by omega
    have z3:(i:Int) < l.length:=by omega
    clear hcs hf e1
    go_wp2_with fail
    go_ret
    exact ⟨rfl,Hw.out.trans hb1⟩
def FailPost (w:World) (p:List Int) (e:Ending) (w':World):Prop:=∃ oa cap,e=.panicked [{ v:=.iface 85 (.slice oa p.length cap),recovered:=false }]∧Ints (From w.heap.size) w' p oa cap∧Pr w w'
structure MOk (w:World) (M:Nat) (pv:Value) (p:List Int):Prop where
  blk:w.heap[M]? = some (.cells #[pv] 89 (0,0))
  own:OwnsIs (M+1) w pv p
  len:p.length≤1000
theorem MOk.pr {w w':World} {M:Nat} {pv:Value} {p:List Int} (h:MOk w M pv p) (hp:Pr w w'):MOk w' M pv p:=⟨hp.blk h.blk,h.own.pr hp,h.len⟩
set_option maxHeartbeats 800000 in
theorem mfail_any (w:World) (M:Nat) (pv:Value) (p:List Int) (h:MOk w M pv p) :
    Calls Tryz.prog 93 #[.pointer (some ⟨M,0,none⟩)] w (FailPost w p):=by
  obtain ⟨oa,cap,rfl,hi⟩:=h.own.ints
  have c0:w.cell? ⟨M,0,none⟩=some (.slice oa p.length cap):=blk_cell h.blk
  have hl:=h.len
  have C1:=Lib.hid (cloneInts_any p oa cap w hi.any (by omega))
  clear h hi
  go_enter Tryz.func93,Tryz.ntmps93
  go_wp2_with (go_at_call 67;(with_reducible refine Calls.mono C1.out ?_);rintro e w1 ⟨⟨v,rfl,ho⟩,hb⟩;obtain ⟨o1,c1,rfl,hi1⟩:=ho.ints)
  exact ⟨rfl,o1,c1,rfl,hi1,hb⟩
theorem mlabel_yes (w:World) (M:Nat) (o a b l:ByteArray) (h:mixL o a b=some l) :
    Calls Tryz.prog 71 #[.pointer (some ⟨M,0,none⟩),.string o,.string a,.string b] w fun e w'=>e=.returned (.string l)∧w'=w:=by
  unfold mixL at h
  by_cases h1:a=b
  · subst h1
    rw [if_pos (Or.inl rfl)] at h
    cases h
    have e1:(a.toList==a.toList)=true:=by simp
    go_enter Tryz.func71,Tryz.ntmps71
    go_wp2_with fail
    go_ret
    exact ⟨rfl,rfl⟩
  · have e1:(a.toList==b.toList)=false:=by simpa using toList_ne h1
    by_cases h2:b=o
    · subst h2
      rw [if_pos (Or.inr rfl)] at h
      cases h
      have e2:(b.toList==b.toList)=true:=by simp
      clear h1
      go_enter Tryz.func71,Tryz.ntmps71
      go_wp2_with fail
      go_ret
      exact ⟨rfl,rfl⟩
    · have e2:(b.toList==o.toList)=false:=by simpa using toList_ne h2
      rw [if_neg (by rintro (e | e);exact h1 e;exact h2 e)] at h
      by_cases h3:a=o
      · subst h3
        rw [if_pos rfl] at h
        cases h
        have e3:(a.toList==a.toList)=true:=by simp
        clear h1 h2
        go_enter Tryz.func71,Tryz.ntmps71
        go_wp2_with fail
        go_ret
        exact ⟨rfl,rfl⟩
      · rw [if_neg h3] at h;cases h
theorem mlabel_no (w:World) (M:Nat) (pv:Value) (p:List Int) (o a b:ByteArray) (hm:MOk w M pv p) (h:mixL o a b=none) :
    Calls Tryz.prog 71 #[.pointer (some ⟨M,0,none⟩),.string o,.string a,.string b] w (FailPost w p):=by
  unfold mixL at h
  have h1:¬ (a=b∨b=o):=fun e=>by rw [if_pos e] at h;cases h
  rw [if_neg h1] at h
  have h3:¬ a=o:=fun e=>by rw [if_pos e] at h;cases h
  have e1:(a.toList==b.toList)=false:=by simpa using toList_ne (fun e=>h1 (.inl e))
  have e2:(b.toList==o.toList)=false:=by simpa using toList_ne (fun e=>h1 (.inr e))
  have e3:(a.toList==o.toList)=false:=by simpa using toList_ne h3
  have F1:=Lib.hid (mfail_any w M pv p hm)
  clear h h1 h3 hm
  go_enter Tryz.func71,Tryz.ntmps71
  go_wp2_with (go_at_call 93;(with_reducible refine Calls.mono F1.out ?_);rintro e w1 ⟨oa,cap,rfl,hi,hb⟩)
  exact ⟨rfl,oa,cap,rfl,hi,hb⟩
end Go.Proofs.YtdbnfhpgmcjngacGreat
/- Slices of trees of one's own that keep off a second block; what merge's functions leave. -/
namespace Go.Proofs.YtdbnfhpgmcjngacGreat
open Go Go.RowKit
abbrev Away (base:Nat) (v pv:Value):Nat→Prop:=fun k=>base≤k∧v.ownBlock≠some k∧pv.ownBlock≠some k
structure OwnsA (base:Nat) (w:World) (v pv:Value) (ts:List Tr):Prop where
  row:∃ xs,w.ownsRow base 34 2 v ts.length xs∧Tvals (Away base v pv) w ts xs
  ne:∀ k,v.ownBlock=some k→pv.ownBlock≠some k
theorem OwnsA.nil (base:Nat) (w:World) (pv:Value):OwnsA base w (.slice none 0 0) pv []:=⟨⟨[],World.ownsRow_nil _ _ _ _,rfl⟩,fun k h=>by cases h⟩
theorem OwnsA.block {base:Nat} {w:World} {v pv:Value} {ts:List Tr} (h:OwnsA base w v pv ts):∀ k,v.ownBlock=some k→base≤k∧k < w.heap.size:=by
  obtain ⟨xs,h1,_⟩:=h.row;exact h1.lt
theorem OwnsA.chg {base:Nat} {w w':World} {v pv pv':Value} {ts:List Tr} {X:Nat→Prop} (h:OwnsA base w v pv ts) (hg:Chg X w w') (hX:∀ k,X k→base≤k→pv.ownBlock=some k) (hp:∀ k,pv'.ownBlock=some k→pv.ownBlock=some k∨w.heap.size≤k) :
    OwnsA base w' v pv' ts:=by
  obtain ⟨xs,h1,h2⟩:=h.row
  have k1:∀ k,Away base v pv k→k < w.heap.size→Away base v pv' k:=fun k hS hl=>⟨hS.1,hS.2.1,fun e=>by
    rcases hp k e with e2 | e2
    · exact hS.2.2 e2
    · omega⟩
  have k2:∀ k,v.ownBlock=some k→pv'.ownBlock≠some k:=fun k hk e=>by
    rcases hp k e with e2 | e2
    · exact h.ne k hk e2
    · have:=(h1.lt k hk).2;omega
  exact ⟨⟨xs,ownsRow_kept h1 (fun k hk=>hg.block k (h1.lt k hk).2 (fun hx=>h.ne k hk (hX k hx (h1.lt k hk).1))),h2.carry fun k hS hl=>⟨hg.block k hl (fun hx=>hS.2.2 (hX k hx hS.1)),k1 k hS hl⟩⟩,k2⟩
theorem OwnsA.pr {base:Nat} {w w':World} {v pv:Value} {ts:List Tr} (h:OwnsA base w v pv ts) (hp:Pr w w'):OwnsA base w' v pv ts:=h.chg (hp.chg (fun _=>False)) (fun _ h=>h.elim) (fun _ h=>.inl h)
theorem OwnsA.mono {base b':Nat} {w:World} {v pv:Value} {ts:List Tr} (h:OwnsA base w v pv ts) (hb:b'≤base):OwnsA b' w v pv ts:=by
  obtain ⟨xs,h1,h2⟩:=h.row
  exact ⟨⟨xs,ownsRow_mono h1 hb,h2.carry fun k hk _=>⟨rfl,by omega,hk.2⟩⟩,h.ne⟩
theorem OwnsA.kids {base:Nat} {w:World} {v pv:Value} {ts:List Tr} (h:OwnsA base w v pv ts):∃ oa cap,v=.slice oa ts.length cap∧Kids (fun k=>base≤k∧pv.ownBlock≠some k) w ts oa cap:=by
  obtain ⟨xs,h1,h2⟩:=h.row
  exact Tvals.kids (h2.carry fun k hS _=>⟨rfl,hS.1,hS.2.2⟩) h1 fun k hk=>⟨(h1.lt k hk).1,h.ne k hk⟩
theorem OwnsTs.away {base:Nat} {w:World} {v pv:Value} {ts:List Tr} (h:OwnsTs base w v ts) (hp:∀ k,pv.ownBlock=some k→k < base):OwnsA base w v pv ts:=by
  obtain ⟨xs,h1,h2⟩:=h
  exact ⟨⟨xs,h1,h2.carry fun k hS _=>⟨rfl,hS.1,hS.2,fun e=>by have:=hp k e;have:=hS.1;omega⟩⟩,fun k hk e=>by have:=hp k e;have:=(h1.lt k hk).1;omega⟩
section
variable {ops:Array Oper} {o:Oper} {a:Act} {w:World} {rest:List Oper} {Q:Exit→Act→World→Prop}
theorem appA (hgd:o.guard=none) (s x:Operand) (ho:o.op=.call { callee:=.builtin .append,args:=#[s,x],argTypes:=#[22,22] })
    (b:Nat) (v pv:Value) (ts:List Tr) (hs:a.eval s=v) (hown:OwnsA b w v pv ts) (us:List Tr) (m:Nat) (hm:us.length=m) (ao:Option Addr) (c:Nat) (hx:a.eval x=.slice ao m c) (ys:List Value) (hy:Tvals (Away b v pv) w us ys)
    (hc:0 < us.length→∃ ad,ao=some ad∧∀ j u,ys[j]? = some u→w.cell? (ad.add j)=some u)
    (hlen:ts.length+us.length≤1000000000) (hbase:b≤w.heap.size) (hpv:∀ k,pv.ownBlock=some k→k < w.heap.size)
    (h:∀ v' w',OwnsA b w' v' pv (ts ++ us)→w.grownBy w' v.ownBlock→wpList Tryz.prog ops Q rest (a.put o.dst v') w') :
    wpList Tryz.prog ops Q (o :: rest) a w:=by
  subst hm
  obtain ⟨i0,hi,hz0,hz1,hz2⟩:=info_parts info_tree
  obtain ⟨xs,h1,h2⟩:=hown.row
  refine wp_app_rows hgd s x _ ho b _ i0 _ 2 40 under_trees hi hz0 hz1 hz2 rfl (by omega) v ts.length xs hs h1 ao us.length c ys hx hy.length hc
    hy.one (by unfold maxLen;omega) (by omega) hbase ?_
  intro v' w' k1 k2 k3
  refine h v' w' ⟨⟨xs ++ ys,by rw [List.length_append];exact k1,?_⟩,fun k hk e=>?_⟩ k2
  · refine (Tvals.append hy h2).carry fun k hS hl=>⟨k2.block k hl (fun e=>hS.2.1 e.symm),hS.1,fun e=>?_,hS.2.2⟩
    rcases k3 k e with e2 | e2
    · exact hS.2.1 e2
    · omega
  · rcases k3 k hk with e2 | e2
    · exact hown.ne k e2 e
    · have:=hpv k e;omega
theorem appA1 (hgd:o.guard=none) (s x:Operand) (ho:o.op=.call { callee:=.builtin .append,args:=#[s,x],argTypes:=#[22,22] })
    (b:Nat) (v pv:Value) (ts:List Tr) (hs:a.eval s=v) (hown:OwnsA b w v pv ts) (B:Nat) (hx:a.eval x=.slice (some ⟨B,0,none⟩) 1 1) (t:Tr) (vl vk:Value)
    (hB:w.heap[B]? = some (.cells #[vl,vk] 34 (0,0))) (ht:TreeV (Away b v pv) w t vl vk)
    (hlen:ts.length≤100000000) (hbase:b≤w.heap.size) (hpv:∀ k,pv.ownBlock=some k→k < w.heap.size)
    (h:∀ v' w',OwnsA b w' v' pv (ts ++ [t])→w.grownBy w' v.ownBlock→wpList Tryz.prog ops Q rest (a.put o.dst v') w') :
    wpList Tryz.prog ops Q (o :: rest) a w :=
  appA hgd s x ho b v pv ts hs hown [t] 1 rfl _ 1 hx [vl,vk] ⟨vl,vk,[],rfl,ht,rfl⟩ (fun _=>⟨_,rfl,World.news_of_block (cs:=#[vl,vk]) hB⟩) (by simp;omega) hbase hpv h
theorem appAs (hgd:o.guard=none) (s x:Operand) (ho:o.op=.call { callee:=.builtin .append,args:=#[s,x],argTypes:=#[22,22] })
    (b:Nat) (v pv:Value) (ts:List Tr) (hs:a.eval s=v) (hown:OwnsA b w v pv ts) (us:List Tr) (m:Nat) (hm:us.length=m) (ao:Option Addr) (c:Nat) (hx:a.eval x=.slice ao m c) (hk:Kids (Away b v pv) w us ao c)
    (hlen:ts.length+us.length≤1000000000) (hbase:b≤w.heap.size) (hpv:∀ k,pv.ownBlock=some k→k < w.heap.size)
    (h:∀ v' w',OwnsA b w' v' pv (ts ++ us)→w.grownBy w' v.ownBlock→wpList Tryz.prog ops Q rest (a.put o.dst v') w') :
    wpList Tryz.prog ops Q (o :: rest) a w:=by
  obtain ⟨ys,g1,g2⟩:=hk.vals
  exact appA hgd s x ho b v pv ts hs hown us m hm ao c hx ys g1 g2 hlen hbase hpv h
end
theorem popInts {b:Nat} {w:World} {oa:Option Addr} {n cap:Nat} {xs:List Int} {x:Int} (h:OwnsIs b w (.slice oa n cap) (xs ++ [x])) (hn:n=xs.length+1):OwnsIs b w (.slice oa xs.length cap) xs:=by
  subst hn
  unfold OwnsIs at h ⊢
  refine ⟨by simp,?_⟩
  rcases h.2 with ⟨h1,h2⟩ | ⟨g,cp,cur,h1,h2,h3,h4,h5,h6,h7⟩
  · simp at h2
  · simp only [Value.slice.injEq] at h1
    obtain ⟨rfl,_,rfl⟩:=h1
    refine .inr ⟨g,cap,cur,rfl,h2,h3,?_,h5,h6,?_⟩
    · simp only [List.length_append,List.length_singleton] at h4;omega
    · have e:ints (xs ++ [x])=ints xs ++ [.int .i64 x]:=by simp
      rw [e] at h7
      have:=congrArg (List.take (ints xs).length) h7
      rw [List.take_append_of_le_length (Nat.le_refl _),List.take_length,List.take_take] at this
      rw [← this];congr 1;simp
structure Step (M:Nat) (pv pv':Value) (w w':World):Prop where
  chg:Chg (fun k=>k=M∨pv.ownBlock=some k) w w'
  new:∀ k,pv'.ownBlock=some k→pv.ownBlock=some k∨w.heap.size≤k
theorem Step.refl (M:Nat) (pv:Value) (w:World):Step M pv pv w w:=⟨Chg.refl _ _,fun _ h=>.inl h⟩
theorem Step.trans {M:Nat} {pv p1 p2:Value} {w w1 w2:World} (h:Step M pv p1 w w1) (h1:Step M p1 p2 w1 w2):Step M pv p2 w w2:=by
  refine ⟨h.chg.trans h1.chg fun k hk=>?_,fun k hk=>?_⟩
  · rcases hk with rfl | hk
    · exact .inl (.inl rfl)
    · rcases h.new k hk with e | e
      · exact .inl (.inr e)
      · exact .inr e
  · rcases h1.new k hk with e | e
    · exact h.new k e
    · have:=h.chg.size;exact .inr (by omega)
theorem Step.pr {M:Nat} {pv p1:Value} {w w1 w2:World} (h:Step M pv p1 w w1) (h1:Pr w1 w2):Step M pv p1 w w2:=h.trans ⟨h1.chg _,fun _ e=>.inl e⟩
theorem Step.low {M:Nat} {pv p1:Value} {w w1:World} {p:List Int} (h:Step M pv p1 w w1) (hm:MOk w M pv p):Chg (fun k=>M≤k) w w1:=by
  refine ⟨h.chg.os,h.chg.tape,h.chg.output,h.chg.size,fun k hk hX=>h.chg.block k hk ?_⟩
  rintro (rfl | e)
  · exact hX (Nat.le_refl _)
  · have:=(hm.own.block k e).1;exact hX (by omega)
theorem Kids.low {M:Nat} {w w':World} {ks:List Tr} {oa cap} (h:Kids (fun k=>k < M) w ks oa cap) (hg:Chg (fun k=>M≤k) w w'):Kids (fun k=>k < M) w' ks oa cap :=
  h.carry fun k hk hl=>⟨hg.block k hl (by show ¬ M≤k;have hk':k < M:=hk;omega),hk⟩
theorem Kids.getLow {M:Nat} {w:World} {ks:List Tr} {oa cap} (h:Kids (fun k=>k < M) w ks oa cap) (i:Nat) (hi:i < ks.length):∃ b o l ks' oa' cap',ks[i]=.node l ks'∧l.size≤maxLen∧oa=some ⟨b,o,none⟩ ∧
    (∀ W,Chg (fun k=>M≤k) w W→W.cell? ⟨b,o+i * 2,none⟩=some (.string l))∧(∀ W,Chg (fun k=>M≤k) w W→W.cell? ⟨b,o+i * 2+1,none⟩=some (.slice oa' ks'.length cap'))∧Kids (fun k=>k < M) w ks' oa' cap':=by
  obtain ⟨b,o,l,ks',oa',cap',e1,e2,rfl,c0,c1,hk⟩:=h.get i hi
  have hb:b < M:=by
    obtain ⟨_,b',o',g1,_⟩:=h
    have:=g1 (by intro e;subst e;simp at hi)
    cases this.1;exact this.2
  refine ⟨b,o,l,ks',oa',cap',e1,e2,rfl,fun W hW=>?_,fun W hW=>?_,hk⟩
  · rw [World.cell?_of_block (hW.block b (lt_of_cell c0) (by show ¬ M≤b;omega))];exact c0
  · rw [World.cell?_of_block (hW.block b (lt_of_cell c1) (by show ¬ M≤b;omega))];exact c1
theorem OwnsA.step {M base:Nat} {pv p1 v:Value} {w w1:World} {ts:List Tr} (h:OwnsA base w v pv ts) (hs:Step M pv p1 w w1) (hb:M+1≤base):OwnsA base w1 v p1 ts:=by
  refine h.chg hs.chg (fun k hk hb=>?_) hs.new
  rcases hk with rfl | e
  · omega
  · exact e
theorem MOk.setPath {w:World} {M:Nat} {pv pv2:Value} {p p2:List Int} (h:MOk w M pv p) (ho:OwnsIs (M+1) w pv2 p2) (hl:p2.length≤1000):MOk (w.setCell ⟨M,0,none⟩ pv2) M pv2 p2:=by
  refine ⟨?_,ho.kept (fun k hk=>Below.heap_setCell _ _ _ _ (by have:=(ho.block k hk).1;show k≠M;omega)),hl⟩
  have:=blk_set (o:=0) h.blk pv2
  simpa using this
theorem MOk.mkPath {w:World} {M:Nat} {pv pv2:Value} {p2:List Int} (h:w.heap[M]? = some (.cells #[pv] 89 (0,0))) (ho:OwnsIs (M+1) w pv2 p2) (hl:p2.length≤1000):MOk (w.setCell ⟨M,0,none⟩ pv2) M pv2 p2:=by
  refine ⟨?_,ho.kept (fun k hk=>Below.heap_setCell _ _ _ _ (by have:=(ho.block k hk).1;show k≠M;omega)),hl⟩
  have:=blk_set (o:=0) h pv2
  simpa using this
theorem push_path {wr w5:World} {M:Nat} {pq p1:Value} {p p2:List Int} {o:Obj} (hm:MOk wr M pq p) (hg:(wr.alloc o).grownBy w5 pq.ownBlock) (ho:OwnsIs (M+1) w5 p1 p2) (hl:p2.length≤1000) (hat:∀ k,p1.ownBlock=some k→pq.ownBlock=some k∨k=(wr.alloc o).heap.size) :
    MOk (w5.setCell ⟨M,0,none⟩ p1) M p1 p2∧Step M pq p1 wr (w5.setCell ⟨M,0,none⟩ p1):=by
  have hb:=grown_blk hg ((Pr.alloc _ _).blk hm.blk) (fun e=>by have:=(hm.own.block M e).1;omega)
  refine ⟨MOk.mkPath hb ho hl,?_,fun k hk=>?_⟩
  · refine (((Pr.alloc wr o).chg _).trans (chg_grown hg) (fun k hk=>.inl (.inr hk))).setCell _ _ (.inl (.inl rfl))
  · rcases hat k hk with e | e
    · exact .inl e
    · right;rw [e];simp
theorem Step.setPath {w:World} {M:Nat} {pv pv2:Value} (hn:∀ k,pv2.ownBlock=some k→pv.ownBlock=some k∨w.heap.size≤k):Step M pv pv2 w (w.setCell ⟨M,0,none⟩ pv2) :=
  ⟨(Chg.refl _ _).setCell _ _ (.inl (.inl rfl)),hn⟩
theorem MOk.grown {w w1:World} {M:Nat} {pv:Value} {p:List Int} {r:Option Nat} (h:MOk w M pv p) (hg:w.grownBy w1 r) (h1:r≠some M) (h2:∀ k,r=some k→pv.ownBlock≠some k):MOk w1 M pv p :=
  ⟨grown_blk hg h.blk h1,h.own.grown hg (fun k hk e=>h2 k e hk),h.len⟩
theorem OwnsA.grown {base:Nat} {v pv:Value} {w w1 w2:World} {ts:List Tr} (h:OwnsA base w1 v pv ts) (hb:w.heap.size≤base) (hp:Pr w w1) (hg:w1.grownBy w2 v.ownBlock):Pr w w2 :=
  Below.grown hp hg hp.size fun k hk=>by have:=(h.block k hk).1;omega
theorem Step.grown {M:Nat} {pv p1 v:Value} {w w1 w2:World} (h:Step M pv p1 w w1) (hg:w1.grownBy w2 v.ownBlock) (hv:∀ k,v.ownBlock=some k→w.heap.size≤k):Step M pv p1 w w2 :=
  ⟨h.chg.trans (chg_grown hg) (fun k hk=>.inr (hv k hk)),h.new⟩
def ListPost (M:Nat) (pv:Value) (p:List Int) (w:World):Ex (List Tr)→Ending→World→Prop
  | .ok ts,e,w'=>∃ v pv',e=.returned v∧OwnsA w.heap.size w' v pv' ts∧MOk w' M pv' p∧Step M pv pv' w w'
  | .error q,e,w'=>∃ oa cap,e=.panicked [{ v:=.iface 85 (.slice oa (p ++ q).length cap),recovered:=false }]∧Ints (From M) w' (p ++ q) oa cap∧Chg (fun k=>M≤k) w w'
def MixPost (M:Nat) (pv:Value) (p:List Int) (w:World):Ex Tr→Ending→World→Prop
  | .ok t,e,w'=>∃ l ks oa cap pv',t=.node l ks∧l.size≤maxLen∧e=.returned (.agg #[.string l,.slice oa ks.length cap])∧Kids (fun k=>w.heap.size≤k∧pv'.ownBlock≠some k) w' ks oa cap∧MOk w' M pv' p∧Step M pv pv' w w'
  | .error q,e,w'=>∃ oa cap,e=.panicked [{ v:=.iface 85 (.slice oa (p ++ q).length cap),recovered:=false }]∧Ints (From M) w' (p ++ q) oa cap∧Chg (fun k=>M≤k) w w'
theorem elem_trees:Tryz.prog.elem 22=34:=by kernel_rfl
theorem slice_trees {S:Nat→Prop} {w:World} {ts:List Tr} {oa:Option Addr} {cap:Nat} (hk:Kids S w ts oa cap) (i n:Nat) (h1:i≤n) (h2:n≤ts.length) :
    ∃ oo,(∀ W,(Instr.slice 22 (.slice oa ts.length cap) (some (.int .i64 i)) (some (.int .i64 n)) none).run Tryz.prog W=.ok (.slice oo ((ts.drop i).take (n - i)).length (cap - i)) W)∧Kids S w ((ts.drop i).take (n - i)) oo (cap - i):=by
  have hc:=hk.1
  have hl:((ts.drop i).take (n - i)).length=n - i:=by simp;omega
  have hs:∀ W,(sizeOf 34).run Tryz.prog W=.ok 2 W:=fun W=>by
    obtain ⟨i0,hi,hz0,hz1,hz2⟩:=info_parts info_tree
    simp [sizeOf,typeInfo,hi,hz1,go_sem]
  refine ⟨if cap=i then oa else oa.map (·.add (i * 2)),fun W=>?_,?_⟩
  · rw [run_slice_lh (P:=Tryz.prog) W 22 oa ts.length cap (by rw [elem_trees];exact under_trees) .i64 .i64 (i:Int) (n:Int) (by omega) (by omega) (by omega)]
    rw [elem_trees,hs]
    simp [Result.andThen,sliced,hl]
  · by_cases he:cap=i
    · have:(ts.drop i).take (n - i)=[]:=List.eq_nil_of_length_eq_zero (by omega)
      rw [this];exact Kids.nil _ _ _ _ (by omega)
    · rw [if_neg he]
      have:=hk.cutL i (by omega)
      obtain ⟨⟨c1,c2⟩,b,o,g1,g2⟩:=this
      refine ⟨⟨by omega,by omega⟩,b,o,fun hne=>g1 (fun e=>hne (by rw [e];simp)),g2.take _⟩
end Go.Proofs.YtdbnfhpgmcjngacGreat
