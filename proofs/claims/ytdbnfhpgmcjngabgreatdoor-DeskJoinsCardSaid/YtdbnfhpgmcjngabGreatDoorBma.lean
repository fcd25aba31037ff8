/- Append of a whole slice, of whatever length. -/
import Derived.Test.YtdbnfhpgmcjngabGreatDoorBmt
namespace Go.Proofs.YtdbnfhpgmcjngabGreatDoor
open Go Go.RowKit
section
variable {P:Program} {w:World}
theorem run_append_zero (base:Nat) (t ty e:TypeId) (i:TypeInfo) (size:Nat) (ht:P.underlying t=some (.slice e)) (hi:P.info? e=some i)
    (v:Value) (n:Nat) (xs:List Value) (hown:w.ownsRow base e size v n xs) (ao:Option Addr) (c:Nat) :
    (Builtin.append_ #[t,t] ty #[v,.slice ao 0 c]).run P w=.ok v w:=by
  rcases hown.2 with ⟨rfl,rfl⟩ | ⟨g,cap,cur,rfl,hbg,hg,hnc,hcm,hcs,htake⟩
  · cases ao <;> simp [Builtin.append_,run_underlying ht,sizeOf,typeInfo,hi,Builtin.lenOf,Builtin.firstCells,loadCells,loadCellsFrom]
  · cases ao <;> simp [Builtin.append_,run_underlying ht,sizeOf,typeInfo,hi,Builtin.lenOf,Builtin.firstCells,loadCells,loadCellsFrom,hnc,storeCells]
theorem wp_app_rows {ops:Array Oper} {rest:List Oper} {o:Oper} {a:Act} {Q:Exit→Act→World→Prop} (hgd:o.guard=none) (s x:Operand) (t:TypeId)
    (ho:o.op=.call { callee:=.builtin .append,args:=#[s,x],argTypes:=#[t,t] })
    (base:Nat) (e:TypeId) (i:TypeInfo) (z:Value) (size bytes:Nat) (ht:P.underlying t=some (.slice e)) (hi:P.info? e=some i) (hz:i.zero=some z)
    (hsize:i.size=size) (hby:i.bytes=bytes) (hzs:z.cells.size=size) (hsz:0 < size)
    (v:Value) (n:Nat) (xs:List Value) (hs:a.eval s=v) (hown:w.ownsRow base e size v n xs)
    (ao:Option Addr) (m c:Nat) (news:List Value) (hx:a.eval x=.slice ao m c) (hl:news.length=m * size) (hnews:0 < m→∃ ad,ao=some ad∧∀ j u,news[j]? = some u→w.cell? (ad.add j)=some u) (h1:∀ u∈news,u.oneCell'=true)
    (h63:n+m≤maxLen) (hbytes:(n+m) * bytes≤140737488355328) (hbase:base≤w.heap.size)
    (h:∀ v' w',w'.ownsRow base e size v' (n+m) (xs ++ news)→w.grownBy w' v.ownBlock→(∀ k,v'.ownBlock=some k→v.ownBlock=some k∨k=w.heap.size)→wpList P ops Q rest (a.put o.dst v') w'):wpList P ops Q (o :: rest) a w:=by
  by_cases hm:0 < m
  · obtain ⟨ad,rfl,hc⟩:=hnews hm
    refine wpList_append_lies w hgd s x t ho base e i z size bytes ht hi hz hsize hby hzs hsz v n xs hs hown ad m c news hx hl hc h1 hm h63 hbytes hbase w.heap.size rfl ?_
    intro g cap w' g1 g2 g3 _
    exact h _ w' g1 g2 (fun k hk=>by cases hk;exact g3)
  · obtain rfl:m=0:=by omega
    have hn0:news=[]:=List.eq_nil_of_length_eq_zero (by simpa using hl)
    subst hn0
    refine wpList_plain hgd fun K hK'=>?_
    have hrun:=run_append_zero (P:=P) base t o.type e i size ht hi v n xs hown ao c
    unfold Oper.wp
    simp [execOp,ho,resolve,invoke,builtin,hs,hx,hrun,Result.andThen]
    exact hK' _ _ (h v w (by simpa using hown) (World.grownBy.refl _ _) (fun k hk=>.inl hk))
end
section
variable {ops:Array Oper} {o:Oper} {a:Act} {w:World} {rest:List Oper} {Q:Exit→Act→World→Prop}
theorem app_ints (hgd:o.guard=none) (s x:Operand) (ho:o.op=.call { callee:=.builtin .append,args:=#[s,x],argTypes:=#[53,53] })
    (b:Nat) (v:Value) (xs:List Int) (hs:a.eval s=v) (hown:OwnsIs b w v xs) (S:Nat→Prop) (ys:List Int) (ao:Option Addr) (c:Nat) (hx:a.eval x=.slice ao ys.length c) (hy:Ints S w ys ao c)
    (hlen:xs.length+ys.length≤1000000000) (hbase:b≤w.heap.size)
    (h:∀ v' w',OwnsIs b w' v' (xs ++ ys)→w.grownBy w' v.ownBlock→(∀ k,v'.ownBlock=some k→v.ownBlock=some k∨k=w.heap.size)→wpList Tryz.prog ops Q rest (a.put o.dst v') w') :
    wpList Tryz.prog ops Q (o :: rest) a w:=by
  obtain ⟨i0,hi,hz0,hz1,hz2⟩:=info_parts info_int
  refine wp_app_rows hgd s x _ ho b _ i0 _ 1 8 under_intsT hi hz0 hz1 hz2 rfl (by omega) v xs.length (ints xs) hs hown ao ys.length c (ints ys) hx (by simp) ?_
    (by intro u hu;obtain ⟨y,_,rfl⟩:=List.mem_map.1 hu;rfl) (by unfold maxLen;omega) (by omega) hbase ?_
  · intro hm
    obtain ⟨_,b',o',h1,h2⟩:=hy
    have hne:ints ys≠[]:=by intro e;have:=congrArg List.length e;simp at this;subst this;simp at hm
    refine ⟨_,(h1 hne).1,fun j u hu=>?_⟩
    obtain ⟨hj,rfl⟩:=List.getElem?_eq_some_iff.1 hu
    rw [Addr.add_lit];exact h2 j hj
  · intro v' w' g1 g2 g3
    refine h v' w' ?_ g2 g3
    unfold OwnsIs
    rw [List.length_append]
    have:ints (xs ++ ys)=ints xs ++ ints ys:=by simp
    rw [this];exact g1
end
end Go.Proofs.YtdbnfhpgmcjngabGreatDoor
/- Pairs of numbers in memory: slices that may be read, and slices of one's own. -/
namespace Go.Proofs.YtdbnfhpgmcjngabGreatDoor
open Go Go.RowKit
def prCells (ps:List (Int × Int)):List Value:=ps.flatMap fun p=>[.int .i64 p.1,.int .i64 p.2]
theorem prCells_append (a b:List (Int × Int)):prCells (a ++ b)=prCells a ++ prCells b:=by simp [prCells]
theorem prCells_length (l:List (Int × Int)):(prCells l).length=l.length * 2:=by
  induction l with
  | nil=>rfl
  | cons x l ih=>simp [prCells] at ih ⊢;omega
theorem prCells_get:∀ (l:List (Int × Int)) (i:Nat) (h:i < l.length),(prCells l)[i * 2]? = some (.int .i64 l[i].1)∧(prCells l)[i * 2+1]? = some (.int .i64 l[i].2)
  | x :: l,0,_=>by simp [prCells]
  | x :: l,i+1,h=>by
    have:=prCells_get l i (by simpa using h)
    rw [show (i+1) * 2=i * 2+2 by omega]
    simpa [prCells] using this
theorem prCells_one (l:List (Int × Int)):∀ u∈prCells l,u.oneCell'=true:=by
  intro u hu
  simp only [prCells,List.mem_flatMap] at hu
  obtain ⟨p,_,hu⟩:=hu
  simp at hu
  rcases hu with rfl | rfl <;> rfl
theorem under_pairs:Tryz.prog.underlying 149=some (.slice 153):=by kernel_rfl
theorem info_pair:(Tryz.prog.info? 153).map (fun i=>(i.zero,i.size,i.bytes))=some (some (.agg #[.int .i64 0,.int .i64 0]),2,16):=by kernel_rfl
def OwnsPs (base:Nat) (w:World) (v:Value) (ps:List (Int × Int)):Prop:=w.ownsRow base 153 2 v ps.length (prCells ps)
theorem OwnsPs.nil (base:Nat) (w:World):OwnsPs base w (.slice none 0 0) []:=World.ownsRow_nil _ _ _ _
theorem OwnsPs.block {b:Nat} {w:World} {v:Value} {xs:List (Int × Int)} (h:OwnsPs b w v xs):∀ k,v.ownBlock=some k→b≤k∧k < w.heap.size:=World.ownsRow.lt h
theorem OwnsPs.kept {b:Nat} {w w':World} {v:Value} {xs:List (Int × Int)} (h:OwnsPs b w v xs) (hk:∀ k,v.ownBlock=some k→w'.heap[k]? = w.heap[k]?):OwnsPs b w' v xs:=ownsRow_kept h hk
theorem OwnsPs.pr {b:Nat} {w w':World} {v:Value} {xs:List (Int × Int)} (h:OwnsPs b w v xs) (hp:Pr w w'):OwnsPs b w' v xs:=h.kept fun k hk=>Below.block hp k (h.block k hk).2
theorem OwnsPs.mono {b b':Nat} {w:World} {v:Value} {xs:List (Int × Int)} (h:OwnsPs b w v xs) (hb:b'≤b):OwnsPs b' w v xs:=ownsRow_mono h hb
def Prs (S:Nat→Prop) (w:World) (ps:List (Int × Int)) (oa:Option Addr) (cap:Nat):Prop:=(ps.length≤cap∧cap≤maxLen)∧∃ b o,(ps≠[]→oa=some ⟨b,o,none⟩∧S b) ∧
  ∀ (i:Nat) (_:i < ps.length),w.cell? ⟨b,o+i * 2,none⟩=some (.int .i64 ps[i].1)∧w.cell? ⟨b,o+i * 2+1,none⟩=some (.int .i64 ps[i].2)
theorem Prs.pr {S:Nat→Prop} {w w':World} {ps:List (Int × Int)} {oa cap} (h:Prs S w ps oa cap) (hp:Pr w w'):Prs S w' ps oa cap:=by
  obtain ⟨hc,b,o,h1,h2⟩:=h
  exact ⟨hc,b,o,h1,fun i hi=>⟨hp.cell (h2 i hi).1,hp.cell (h2 i hi).2⟩⟩
theorem Prs.any {S:Nat→Prop} {w:World} {ps:List (Int × Int)} {oa cap} (h:Prs S w ps oa cap):Prs Any w ps oa cap:=by
  obtain ⟨hc,b,o,h1,h2⟩:=h
  exact ⟨hc,b,o,fun hn=>⟨(h1 hn).1,trivial⟩,h2⟩
theorem Prs.len {S:Nat→Prop} {w:World} {ps:List (Int × Int)} {oa cap} (h:Prs S w ps oa cap):ps.length≤9223372036854775807:=by have:=h.1;unfold maxLen at this;omega
theorem Prs.get {S:Nat→Prop} {w:World} {ps:List (Int × Int)} {oa cap} (h:Prs S w ps oa cap) (hne:0 < ps.length):∃ b o,oa=some ⟨b,o,none⟩ ∧
    ∀ (i:Nat) (_:i < ps.length),w.cell? ⟨b,o+i * 2,none⟩=some (.int .i64 ps[i].1)∧w.cell? ⟨b,o+i * 2+1,none⟩=some (.int .i64 ps[i].2):=by
  obtain ⟨_,b,o,h1,h2⟩:=h
  exact ⟨b,o,(h1 (by intro e;subst e;simp at hne)).1,h2⟩
theorem OwnsPs.prs {b:Nat} {w:World} {v:Value} {xs:List (Int × Int)} (h:OwnsPs b w v xs):∃ oa cap,v=.slice oa xs.length cap∧Prs (From b) w xs oa cap:=by
  rcases h.2 with ⟨rfl,hn⟩ | ⟨g,cap,cur,rfl,hb,hg,hnc,hcm,_⟩
  · have:xs=[]:=List.eq_nil_of_length_eq_zero hn
    subst this
    exact ⟨none,0,rfl,⟨Nat.le_refl _,Nat.zero_le _⟩,0,0,fun h=>absurd rfl h,fun _ h=>absurd h (Nat.not_lt_zero _)⟩
  · have hc:∀ j u,(prCells xs)[j]? = some u→w.cell? ⟨g,0+j,none⟩=some u:=fun j u hu=>by
      have:=World.ownsRow.cells h (g:=g) rfl j u hu
      simpa [Addr.add_lit] using this
    refine ⟨_,cap,rfl,⟨hnc,hcm⟩,g,0,fun _=>⟨rfl,hb⟩,fun i hi=>?_⟩
    obtain ⟨g1,g2⟩:=prCells_get xs i hi
    exact ⟨hc _ _ g1,hc _ _ g2⟩
section
variable {ops:Array Oper} {o:Oper} {a:Act} {w:World} {rest:List Oper} {Q:Exit→Act→World→Prop}
theorem app_pair (hgd:o.guard=none) (s x:Operand) (ho:o.op=.call { callee:=.builtin .append,args:=#[s,x],argTypes:=#[149,149] })
    (b:Nat) (v:Value) (xs:List (Int × Int)) (hs:a.eval s=v) (hown:OwnsPs b w v xs) (B:Nat) (hx:a.eval x=.slice (some ⟨B,0,none⟩) 1 1) (y:Int × Int)
    (hB:w.heap[B]? = some (.cells #[.int .i64 y.1,.int .i64 y.2] 153 (0,0))) (hlen:xs.length≤1000000000) (hbase:b≤w.heap.size)
    (h:∀ v' w',OwnsPs b w' v' (xs ++ [y])→w.grownBy w' v.ownBlock→(∀ k,v'.ownBlock=some k→v.ownBlock=some k∨k=w.heap.size)→wpList Tryz.prog ops Q rest (a.put o.dst v') w') :
    wpList Tryz.prog ops Q (o :: rest) a w:=by
  obtain ⟨i0,hi,hz0,hz1,hz2⟩:=info_parts info_pair
  refine wp_app_rows hgd s x _ ho b _ i0 _ 2 16 under_pairs hi hz0 hz1 hz2 rfl (by omega) v xs.length (prCells xs) hs hown _ 1 1 (prCells [y]) hx (by simp [prCells_length]) (fun _=>⟨_,rfl,World.news_of_block (cs:=#[.int .i64 y.1,.int .i64 y.2]) hB⟩)
    (prCells_one _) (by unfold maxLen;omega) (by omega) hbase ?_
  intro v' w' g1 g2 g3
  refine h v' w' ?_ g2 g3
  unfold OwnsPs
  rw [List.length_append,prCells_append];exact g1
theorem app_pairs (hgd:o.guard=none) (s x:Operand) (ho:o.op=.call { callee:=.builtin .append,args:=#[s,x],argTypes:=#[149,149] })
    (b:Nat) (v:Value) (xs:List (Int × Int)) (hs:a.eval s=v) (hown:OwnsPs b w v xs) (S:Nat→Prop) (ys:List (Int × Int)) (ao:Option Addr) (c:Nat) (hx:a.eval x=.slice ao ys.length c) (hy:Prs S w ys ao c)
    (hlen:xs.length+ys.length≤1000000000) (hbase:b≤w.heap.size)
    (h:∀ v' w',OwnsPs b w' v' (xs ++ ys)→w.grownBy w' v.ownBlock→(∀ k,v'.ownBlock=some k→v.ownBlock=some k∨k=w.heap.size)→wpList Tryz.prog ops Q rest (a.put o.dst v') w') :
    wpList Tryz.prog ops Q (o :: rest) a w:=by
  obtain ⟨i0,hi,hz0,hz1,hz2⟩:=info_parts info_pair
  refine wp_app_rows hgd s x _ ho b _ i0 _ 2 16 under_pairs hi hz0 hz1 hz2 rfl (by omega) v xs.length (prCells xs) hs hown ao ys.length c (prCells ys) hx (prCells_length ys) ?_
    (prCells_one _) (by unfold maxLen;omega) (by omega) hbase ?_
  · intro hm
    obtain ⟨_,b',o',h1,h2⟩:=hy
    have hne:ys≠[]:=by intro e;subst e;simp at hm
    refine ⟨_,(h1 hne).1,fun j u hu=>?_⟩
    rw [Addr.add_lit]
    have hj:j < (prCells ys).length:=(List.getElem?_eq_some_iff.1 hu).1
    rw [prCells_length] at hj
    have hi':j / 2 < ys.length:=by omega
    obtain ⟨g1,g2⟩:=prCells_get ys (j / 2) hi'
    obtain ⟨c1,c2⟩:=h2 (j / 2) hi'
    by_cases hp:j % 2=0
    · have e:j / 2 * 2=j:=by omega
      rw [e] at g1 c1
      rw [g1] at hu;cases hu;exact c1
    · have e:j / 2 * 2+1=j:=by omega
      rw [e] at g2
      rw [show o'+j / 2 * 2+1=o'+j by omega] at c2
      rw [g2] at hu;cases hu;exact c2
  · intro v' w' g1 g2 g3
    refine h v' w' ?_ g2 g3
    unfold OwnsPs
    rw [List.length_append,prCells_append];exact g1
end
end Go.Proofs.YtdbnfhpgmcjngabGreatDoor
