/- Walks: slices.Clone, slices.Grow of nothing, slices.Concat. -/
import Derived.Test.YtdbnfhpgmcjngabGreatDoorBwa
import Derived.Test.YtdbnfhpgmcjngabGreatDoorBma
import Derived.Test.YtdbnfhpgmcjngabGreatDoorBqt
import Derived.Lib.AppendZeros
import Derived.WalkSpells
import Derived.Test.YtdbnfhpgmcjngabGreatDoorBmt
namespace Go.Proofs.YtdbnfhpgmcjngabGreatDoor
open Go Go.RowKit
def OwnsX (S:Nat→Prop) (w0:World) (base:Nat) (w:World) (v:Value) (ts:List Tr):Prop:=∃ xs,w.ownsRow base 46 2 v ts.length xs∧Tvals S w0 ts xs
theorem OwnsX.kids {S:Nat→Prop} {w0 w:World} {base:Nat} {v:Value} {ts:List Tr} (h:OwnsX S w0 base w v ts) (hp:Pr w0 w):∃ oa cap,v=.slice oa ts.length cap∧Kids (fun k=>S k∨base≤k) w ts oa cap:=by
  obtain ⟨xs,h1,h2⟩:=h
  exact Tvals.kids (h2.carry fun k hS hl=>⟨Below.block hp k hl,.inl hS⟩) h1 fun k hk=>.inr (h1.lt k hk).1
theorem OwnsX.pr {S:Nat→Prop} {w0 w w':World} {base:Nat} {v:Value} {ts:List Tr} (h:OwnsX S w0 base w v ts) (hp:Pr w w'):OwnsX S w0 base w' v ts:=by
  obtain ⟨xs,h1,h2⟩:=h
  exact ⟨xs,ownsRow_kept h1 (fun k hk=>Below.block hp k (h1.lt k hk).2),h2⟩
theorem OwnsX.block {S:Nat→Prop} {w0 w:World} {base:Nat} {v:Value} {ts:List Tr} (h:OwnsX S w0 base w v ts):∀ k,v.ownBlock=some k→base≤k∧k < w.heap.size:=by
  obtain ⟨xs,h1,_⟩:=h;exact h1.lt
theorem OwnsX.nil (S:Nat→Prop) (w0:World) (base:Nat) (w:World):OwnsX S w0 base w (.slice none 0 0) []:=⟨[],World.ownsRow_nil _ _ _ _,rfl⟩
theorem ownsRow_empty (w:World) (e size:Nat):(w.alloc (.cells #[] e)).ownsRow w.heap.size e size (.slice (some ⟨w.heap.size,0,none⟩) 0 0) 0 [] :=
  ⟨by simp,.inr ⟨w.heap.size,0,#[],rfl,Nat.le_refl _,heap_alloc_new w _,Nat.le_refl _,Nat.zero_le _,by simp,by simp⟩⟩
theorem ownsRow_made (w:World) (e size n:Nat) (z:Array Value) (hz:z.size=n * size) (hn:n≤maxLen):(w.alloc (.cells z e)).ownsRow w.heap.size e size (.slice (some ⟨w.heap.size,0,none⟩) 0 n) 0 [] :=
  ⟨by simp,.inr ⟨w.heap.size,n,z,rfl,Nat.le_refl _,heap_alloc_new w _,Nat.zero_le _,hn,hz,by simp⟩⟩
section
variable {ops:Array Oper} {o:Oper} {a:Act} {w:World} {rest:List Oper} {Q:Exit→Act→World→Prop}
theorem app_trees (hgd:o.guard=none) (s x:Operand) (ho:o.op=.call { callee:=.builtin .append,args:=#[s,x],argTypes:=#[44,44] })
    (S:Nat→Prop) (w0:World) (b:Nat) (v:Value) (ts:List Tr) (hs:a.eval s=v) (hown:OwnsX S w0 b w v ts) (us:List Tr) (ao:Option Addr) (c:Nat) (hx:a.eval x=.slice ao us.length c) (hu:Kids S w0 us ao c) (hp:Pr w0 w)
    (hlen:ts.length+us.length≤1000000000) (hbase:b≤w.heap.size)
    (h:∀ v' w',OwnsX S w0 b w' v' (ts ++ us)→w.grownBy w' v.ownBlock→(∀ k,v'.ownBlock=some k→v.ownBlock=some k∨k=w.heap.size)→wpList Tryz.prog ops Q rest (a.put o.dst v') w') :
    wpList Tryz.prog ops Q (o :: rest) a w:=by
  obtain ⟨i0,hi,hz0,hz1,hz2⟩:=info_parts info_tree
  obtain ⟨xs,h1,h2⟩:=hown
  obtain ⟨ys,g1,g2⟩:=hu.vals
  refine wp_app_rows hgd s x _ ho b _ i0 _ 2 40 under_trees hi hz0 hz1 hz2 rfl (by omega) v ts.length xs hs h1 ao us.length c ys hx g1.length ?_
    g1.one (by unfold maxLen;omega) (by omega) hbase ?_
  · intro hm
    obtain ⟨ad,e,hc⟩:=g2 hm
    refine ⟨ad,e,fun j u hj=>?_⟩
    have hcell:=hc j u hj
    have hlt:(ad.add j).block < w0.heap.size:=World.block_lt_of_cell? w0 _ hcell
    rw [Below.cell hp hlt];exact hcell
  · intro v' w' k1 k2 k3
    refine h v' w' ⟨xs ++ ys,?_,Tvals.append g1 h2⟩ k2 k3
    rw [List.length_append];exact k1
end
set_option maxHeartbeats 800000 in
theorem cloneInts_any (xs:List Int) (oa cap) (w:World) (hx:Ints Any w xs oa cap) (hs:xs.length≤100000) :
    Calls Tryz.prog 129 #[.slice oa xs.length cap] w fun e w'=>(∃ v,e=.returned v∧OwnsIs w.heap.size w' v xs)∧Pr w w':=by
  have hm:=Ints.len hx
  have e0:=fun (w:World) n c=>Lib.run_eql_slice_nil (P:=Tryz.prog) w 53 3 none n c 0 0 under_intsT
  have e1:=fun (w:World) a n c=>Lib.run_eql_slice_nil (P:=Tryz.prog) w 53 3 (some a) n c 0 0 under_intsT
  cases oa with
  | none =>
    have hx0:xs=[]:=by
      obtain ⟨_,b,o,h1,_⟩:=hx
      cases xs with
      | nil=>rfl
      | cons x xs=>have:=(h1 (by simp)).1;cases this
    subst hx0
    clear e1
    simp only [List.length_nil] at *
    go_enter Tryz.func129,Tryz.ntmps129
    go_wp2_with fail
    go_ret
    exact ⟨⟨_,rfl,OwnsIs.nil _ _⟩,Pr.refl _⟩
  | some ad =>
    clear e0
    have h0:OwnsIs w.heap.size (w.alloc (.cells #[] 3)) (.slice (some ⟨w.heap.size,0,none⟩) 0 0) []:=ownsRow_empty w _ _
    have hx2:=Flat.pr (Pr.alloc w (.cells #[] 3)) hx
    have Hx:=Lib.hid hx2
    have H0:=Lib.hid h0
    clear hx hx2 h0
    go_enter Tryz.func129,Tryz.ntmps129
    go_wp2_with (at_builtin;go_must (refine app_ints rfl _ _ rfl w.heap.size _ [] rfl H0.out Any xs (some ad) cap rfl Hx.out (by simp;omega) (by simp) ?_);intro v5 w5 ho5 hg5 hd5)
    go_ret
    refine ⟨⟨_,rfl,by simpa using ho5⟩,Below.grown (Pr.alloc w (.cells #[] 3)) hg5 (by simp) (fun k hk=>by cases hk;simp)⟩
set_option maxHeartbeats 800000 in
theorem cloneTrees_any (S:Nat→Prop) (ts:List Tr) (oa cap) (w:World) (hx:Kids S w ts oa cap) (hs:ts.length≤100000) :
    Calls Tryz.prog 130 #[.slice oa ts.length cap] w fun e w'=>(∃ ob cp,e=.returned (.slice ob ts.length cp)∧Kids (fun k=>S k∨w.heap.size≤k) w' ts ob cp)∧Pr w w':=by
  have hm:=hx.len
  have e0:=fun (w:World) n c=>Lib.run_eql_slice_nil (P:=Tryz.prog) w 44 46 none n c 0 0 under_trees
  have e1:=fun (w:World) a n c=>Lib.run_eql_slice_nil (P:=Tryz.prog) w 44 46 (some a) n c 0 0 under_trees
  cases oa with
  | none =>
    have hx0:ts=[]:=by
      obtain ⟨_,b,o,h1,_⟩:=hx
      cases ts with
      | nil=>rfl
      | cons x xs=>have:=(h1 (by simp)).1;cases this
    subst hx0
    clear e1
    simp only [List.length_nil] at *
    go_enter Tryz.func130,Tryz.ntmps130
    go_wp2_with fail
    go_ret
    exact ⟨⟨none,0,rfl,Kids.nil _ _ _ _ (Nat.zero_le _)⟩,Pr.refl _⟩
  | some ad =>
    clear e0
    have h0:OwnsX S w w.heap.size (w.alloc (.cells #[] 46)) (.slice (some ⟨w.heap.size,0,none⟩) 0 0) []:=⟨[],ownsRow_empty w _ _,rfl⟩
    have Hx:=Lib.hid hx
    have H0:=Lib.hid h0
    clear hx h0
    go_enter Tryz.func130,Tryz.ntmps130
    go_wp2_with (at_builtin;go_must (refine app_trees rfl _ _ rfl S w w.heap.size _ [] rfl H0.out ts (some ad) cap rfl Hx.out (Pr.alloc _ _) (by simp;omega) (by simp) ?_);intro v5 w5 ho5 hg5 hd5)
    have hp5:Pr w w5:=Below.grown (Pr.alloc w (.cells #[] 46)) hg5 (by simp) (fun k hk=>by cases hk;simp)
    rw [List.nil_append] at ho5
    obtain ⟨ob,cp,rfl,hk⟩:=ho5.kids hp5
    go_ret
    exact ⟨⟨ob,cp,rfl,hk⟩,hp5⟩
theorem under_intT:Tryz.prog.underlying 3=some (.int .i64):=by kernel_rfl
set_option maxHeartbeats 800000 in
theorem growTrees_any (n:Nat) (w:World) (hs:n≤1000000) :
    Calls Tryz.prog 166 #[.slice none 0 0,.int .i64 n] w fun e w'=>(∃ v,e=.returned v∧w'.ownsRow w.heap.size 46 2 v 0 [])∧Pr w w':=by
  by_cases h0:n=0
  · subst h0
    go_enter Tryz.func166,Tryz.ntmps166
    go_wp2_with fail
    go_ret
    exact ⟨⟨_,rfl,World.ownsRow_nil _ _ _ _⟩,Pr.refl _⟩
  · obtain ⟨i0,hi,hz0,hz1,hz2⟩:=info_parts info_tree
    have hrz:=fun ty=>Lib.run_append_nil_zeros (P:=Tryz.prog) w 44 3 ty 46 i0 _ .i64 .i64 under_trees under_intT hi hz0 n (by omega) (by rw [hz1];omega) (by omega) (by rw [hz2];omega)
    have hGn:n≤grownCap w n 0 46:=grownCap_ge w _ _ _
    have hG63:grownCap w n 0 46≤9223372036854775807:=by
      have:=grownCap_le_maxLen w n 0 46 (by unfold maxLen;omega)
      unfold maxLen at this;omega
    obtain ⟨G,hG⟩:∃ G,G=grownCap w n 0 46:=⟨_,rfl⟩
    rw [← hG] at hrz hGn hG63
    have hzc:∀ m,(Builtin.zeroCells #[.string ⟨#[]⟩,.slice none 0 0] m).size=m * 2:=fun m=>by
      simp [Builtin.zeroCells]
    clear hG hi hz0 hz1 hz2
    have Hzc:=Lib.hid hzc
    clear hzc
    have h1:(1:Int)≤n:=by omega
    go_enter Tryz.func166,Tryz.ntmps166
    go_wp2_with (at_builtin;refine Lib.wpList_append_run _ rfl _ _ _ _ rfl _ _ rfl rfl _ _ (hrz _) ?_)
    go_ret
    refine ⟨⟨_,rfl,?_⟩,(Pr.drew w).alloc' _⟩
    exact ownsRow_made w.drew _ _ G _ (by rw [Array.size_append,Hzc.out,Hzc.out];omega) (by unfold maxLen;omega)
def Rows2 (S:Nat→Prop) (w:World) (L:List (List Tr)) (B:Nat):Prop:=∀ i (_:i < L.length),∃ oa cap,w.cell? ⟨B,i,none⟩=some (.slice oa L[i].length cap)∧Kids S w L[i] oa cap
theorem flat_take (L:List (List Tr)) (i:Nat) (h:i < L.length):(L.take (i+1)).flatten=(L.take i).flatten ++ L[i]:=by
  rw [List.take_succ_eq_append_getElem h,List.flatten_append];simp
def flen (L:List (List Tr)) (i:Nat):Nat:=(L.take i).flatten.length
theorem flen_all (L:List (List Tr)):flen L L.length=L.flatten.length:=by unfold flen;rw [List.take_length]
theorem flen_succ (L:List (List Tr)) (i:Nat) (h:i < L.length):flen L (i+1)=flen L i+L[i].length:=by unfold flen;rw [flat_take L i h,List.length_append]
theorem flat_take_le (L:List (List Tr)) (i:Nat):(L.take i).flatten.length≤L.flatten.length:=by
  have h:L.flatten=(L.take i).flatten ++ (L.drop i).flatten:=by rw [← List.flatten_append,List.take_append_drop]
  rw [h,List.length_append];omega
set_option maxHeartbeats 1600000 in
theorem concatTrees_any (S:Nat→Prop) (L:List (List Tr)) (B c:Nat) (w:World) (hL:Rows2 S w L B) (hn:flen L L.length≤1000000) (hl:L.length≤1000) :
    Calls Tryz.prog 154 #[.slice (some ⟨B,0,none⟩) L.length c] w fun e w'=>(∃ ob cp,e=.returned (.slice ob (flen L L.length) cp)∧Kids (fun k=>S k∨w.heap.size≤k) w' L.flatten ob cp)∧Pr w w':=by
  have HL:=Lib.hid hL
  clear hL
  have hb:∀ i,flen L i≤flen L L.length:=fun i=>by rw [flen_all];exact flat_take_le L i
  have Hb:=Lib.hid hb
  clear hb
  go_enter Tryz.func154,Tryz.ntmps154
  go_wp2_with fail
  go_loopw [3,11] (fun v3 v11 wr=>∃ i:Nat,i≤L.length∧v3=.int .i64 (flen L i:Nat)∧v11=.int .i64 i∧wr=w) (fun _ v11 _=>L.length - (intOf v11).toNat)
  case atStart=>exact ⟨0,by omega,by simp [flen],rfl,rfl⟩
  case round =>
    obtain ⟨i,hi,rfl,rfl,rfl⟩:=hrel
    by_cases hlt:i < L.length
    · obtain ⟨oa,cap,c0,hk⟩:=HL.out i hlt
      have hbi:=Hb.out (i+1)
      have hf:=flen_succ L i hlt
      have Hf:=Lib.hid hf
      rw [hf] at hbi
      have hlt':(i:Int) < L.length:=by omega
      have hi0:(0:Int)≤i:=by omega
      have hlen:=hk.len
      clear hf hk
      generalize hq:L[i]=q at *
      generalize hp:flen L i=p at *
      have Hq:=Lib.hid hq;have Hp:=Lib.hid hp
      clear hq hp
      go_wp2_with fail
      refine ⟨⟨i+1,by omega,?_,by go_num,trivial⟩,?_⟩
      · rw [Hf.out];go_num
      · simp [intOf];omega
    · have hie:i=L.length:=by omega
      subst hie
      obtain ⟨N,hN⟩:∃ N,N=flen L L.length:=⟨_,rfl⟩
      rw [← hN] at hn ⊢
      have HN:=Lib.hid hN
      clear hN
      go_wp2_with (first
        | (go_at_call 166;(with_reducible refine Calls.mono (growTrees_any _ _ hn) ?_);rintro e w1 ⟨⟨v,rfl,hr⟩,hb1⟩))
      obtain ⟨wo,hwo⟩:∃ wo,wo=wr:=⟨_,rfl⟩
      subst hwo
      have h0:OwnsX S wo wo.heap.size w1 v (L.take 0).flatten:=⟨[],by simpa using hr,by simp [Tvals]⟩
      have Hb1:=Lib.hid hb1
      clear hr hb1
      go_loopw [6,27] (fun v6 v27 wr=>∃ i:Nat,i≤L.length∧v27=.int .i64 i∧OwnsX S wo wo.heap.size wr v6 (L.take i).flatten∧Pr wo wr) (fun _ v27 _=>L.length - (intOf v27).toNat)
      case atStart=>exact ⟨0,by omega,rfl,h0,Hb1.out⟩
      case round =>
        obtain ⟨i,hi,rfl,hown,hp⟩:=hrel
        by_cases hlt:i < L.length
        · obtain ⟨oa,cap,c0,hk⟩:=HL.out i hlt
          have c0:=hp.cell c0
          have hbi:=Hb.out (i+1)
          rw [flen_succ L i hlt,← HN.out] at hbi
          have hfi:flen L i=(L.take i).flatten.length:=rfl
          rw [hfi] at hbi
          have hf:=flat_take L i hlt
          have Hf:=Lib.hid hf
          have hlt':(i:Int) < L.length:=by omega
          have hi0:(0:Int)≤i:=by omega
          have Hk:=Lib.hid hk
          have Ho:=Lib.hid hown
          have hps:=hp.size
          clear hf hk hown h0 hfi
          generalize hq:L[i]=q at *
          generalize hpp:(L.take i).flatten=p at *
          have Hq:=Lib.hid hq;have Hpp:=Lib.hid hpp
          clear hq hpp
          go_wp2_with (at_builtin;go_must (refine app_trees rfl _ _ rfl S wo wo.heap.size _ p rfl Ho.out q oa cap rfl Hk.out hp (by omega) hps ?_);intro v5 w5 ho5 hg5 hd5)
          refine ⟨⟨i+1,by omega,by go_num,by rw [Hf.out];exact ho5,Below.grown hp hg5 hps (fun k hk=>(Ho.out.block k hk).1)⟩,?_⟩
          simp [intOf];omega
        · have hie:i=L.length:=by omega
          subst hie
          rw [List.take_length] at hown
          obtain ⟨ob,cp,rfl,hk⟩:=hown.kids hp
          go_wp2_with fail
          go_ret
          exact ⟨⟨ob,cp,by rw [HN.out,flen_all];rfl,hk⟩,hp⟩
end Go.Proofs.YtdbnfhpgmcjngabGreatDoor
/- Walks: are two lists of numbers the same? (R.SameInts, slices.Equal.) -/
namespace Go.Proofs.YtdbnfhpgmcjngabGreatDoor
open Go Go.RowKit
end Go.Proofs.YtdbnfhpgmcjngabGreatDoor
