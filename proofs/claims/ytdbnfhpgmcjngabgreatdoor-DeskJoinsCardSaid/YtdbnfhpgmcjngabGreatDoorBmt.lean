/- A slice of trees of one's own: it grows by append; what stands beneath its trees is elsewhere. -/
import Derived.Test.YtdbnfhpgmcjngabGreatDoorMem
import Derived.Test.YtdbnfhpgmcjngabGreatDoorProg
import Derived.Test.YtdbnfhpgmcjngabGreatDoorBpl
namespace Go.Proofs.YtdbnfhpgmcjngabGreatDoor
open Go Go.RowKit
theorem under_trees:Tryz.prog.underlying 44=some (.slice 46):=by kernel_rfl
theorem info_tree:(Tryz.prog.info? 46).map (fun i=>(i.zero,i.size,i.bytes))=some (some (.agg #[.string ⟨#[]⟩,.slice none 0 0]),2,40):=by kernel_rfl
abbrev Apart (base:Nat) (v:Value):Nat→Prop:=fun k=>base≤k∧v.ownBlock≠some k
def OwnsTs (base:Nat) (w:World) (v:Value) (ts:List Tr):Prop:=∃ xs,w.ownsRow base 46 2 v ts.length xs∧Tvals (Apart base v) w ts xs
theorem ownsRow_mono {w:World} {b b' e size:Nat} {v:Value} {n:Nat} {xs:List Value} (h:w.ownsRow b e size v n xs) (hb:b'≤b):w.ownsRow b' e size v n xs:=by
  refine ⟨h.1,?_⟩
  rcases h.2 with h | ⟨g,cap,cur,h1,h2,h3⟩
  · exact .inl h
  · exact .inr ⟨g,cap,cur,h1,by omega,h3⟩
theorem OwnsTs.nil (base:Nat) (w:World):OwnsTs base w (.slice none 0 0) []:=⟨[],World.ownsRow_nil _ _ _ _,rfl⟩
theorem OwnsTs.mono {b b':Nat} {w:World} {v:Value} {ts:List Tr} (h:OwnsTs b w v ts) (hb:b'≤b):OwnsTs b' w v ts:=by
  obtain ⟨xs,h1,h2⟩:=h
  exact ⟨xs,ownsRow_mono h1 hb,h2.carry fun k hk _=>⟨rfl,by omega,hk.2⟩⟩
theorem OwnsTs.kept {b:Nat} {w w':World} {v:Value} {ts:List Tr} (h:OwnsTs b w v ts) (hk:Kept (From b) w w'):OwnsTs b w' v ts:=by
  obtain ⟨xs,h1,h2⟩:=h
  refine ⟨xs,⟨h1.1,?_⟩,h2.carry fun k hS hl=>⟨hk k hS.1 hl,hS⟩⟩
  rcases h1.2 with h | ⟨g,cap,cur,e1,e2,e3,e4⟩
  · exact .inl h
  · refine .inr ⟨g,cap,cur,e1,e2,?_,e4⟩
    rw [hk g e2 (Array.getElem?_eq_some_iff.1 e3).1];exact e3
theorem OwnsTs.pr {b:Nat} {w w':World} {v:Value} {ts:List Tr} (h:OwnsTs b w v ts) (hk:Pr w w'):OwnsTs b w' v ts:=h.kept (hk.kept _)
theorem OwnsTs.block {b:Nat} {w:World} {v:Value} {ts:List Tr} (h:OwnsTs b w v ts):∀ k,v.ownBlock=some k→b≤k∧k < w.heap.size:=by
  obtain ⟨xs,h1,_⟩:=h;exact h1.lt
theorem OwnsTs.setCell {b:Nat} {w:World} {v:Value} {ts:List Tr} (h:OwnsTs b w v ts) (a:Addr) (u:Value) (ha:a.block < b):OwnsTs b (w.setCell a u) v ts :=
  h.kept (kept_setCell _ w a u (by show ¬ b≤a.block;omega))
theorem OwnsTs.kids {b:Nat} {w:World} {v:Value} {ts:List Tr} (h:OwnsTs b w v ts):∃ oa cap,v=.slice oa ts.length cap∧Kids (From b) w ts oa cap:=by
  obtain ⟨xs,h1,h2⟩:=h
  exact Tvals.kids (h2.carry fun k hS _=>⟨rfl,hS.1⟩) h1 fun k hk=>(h1.lt k hk).1
theorem TreeV.one {S:Nat→Prop} {w:World} {t:Tr} {vl vk:Value} (h:TreeV S w t vl vk):vl.oneCell'=true∧vk.oneCell'=true:=by
  cases t with
  | node l ks=>obtain ⟨⟨rfl,_⟩,oa,cap,rfl,_⟩:=treeV_iff.1 h;exact ⟨rfl,rfl⟩
theorem OwnsTs.grown {b:Nat} {w w':World} {v:Value} {ts us:List Tr} {xs ys:List Value} {g cap:Nat} (h1:Tvals (Apart b v) w ts xs) (h2:Tvals (Apart b v) w us ys)
    (ho:w'.ownsRow b 46 2 (.slice (some ⟨g,0,none⟩) (ts.length+us.length) cap) (ts.length+us.length) (xs ++ ys)) (hg:w.grownBy w' v.ownBlock) (hat:v.ownBlock=some g∨g=w.heap.size) :
    OwnsTs b w' (.slice (some ⟨g,0,none⟩) (ts.length+us.length) cap) (ts ++ us):=by
  refine ⟨xs ++ ys,by rw [List.length_append];exact ho,?_⟩
  refine (Tvals.append h2 h1).carry fun k hS hl=>⟨hg.block k hl (fun e=>hS.2 e.symm),hS.1,?_⟩
  show some g≠some k
  rcases hat with h | h
  · rw [← h];exact hS.2
  · intro e;cases e;omega
section
variable {ops:Array Oper} {o:Oper} {a:Act} {w:World} {rest:List Oper} {Q:Exit→Act→World→Prop}
theorem app_tree (hgd:o.guard=none) (s x:Operand) (ho:o.op=.call { callee:=.builtin .append,args:=#[s,x],argTypes:=#[44,44] })
    (b:Nat) (v:Value) (ts:List Tr) (hs:a.eval s=v) (hown:OwnsTs b w v ts) (B:Nat) (hx:a.eval x=.slice (some ⟨B,0,none⟩) 1 1) (t:Tr) (vl vk:Value)
    (hB:w.heap[B]? = some (.cells #[vl,vk] 46 (0,0))) (ht:TreeV (Apart b v) w t vl vk) (hlen:ts.length≤1000000000) (hbase:b≤w.heap.size)
    (h:∀ g cap w',OwnsTs b w' (.slice (some ⟨g,0,none⟩) (ts.length+1) cap) (ts ++ [t])→w.grownBy w' v.ownBlock→(v.ownBlock=some g∨g=w.heap.size)→wpList Tryz.prog ops Q rest (a.put o.dst (.slice (some ⟨g,0,none⟩) (ts.length+1) cap)) w') :
    wpList Tryz.prog ops Q (o :: rest) a w:=by
  obtain ⟨i0,hi,hz0,hz1,hz2⟩:=info_parts info_tree
  obtain ⟨xs,h1,h2⟩:=hown
  refine wpList_append_lies w hgd s x _ ho b _ i0 _ 2 40 under_trees hi hz0 hz1 hz2 rfl (by omega) v ts.length xs hs h1 ⟨B,0,none⟩ 1 1 [vl,vk] hx rfl (World.news_of_block (cs:=#[vl,vk]) hB)
    (by intro u hu;simp at hu;rcases hu with rfl | rfl;exact ht.one.1;exact ht.one.2) (by omega) (by unfold maxLen;omega) (by omega) hbase w.heap.size rfl ?_
  intro g cap w' g1 g2 g3 _
  exact h g cap w' (OwnsTs.grown h2 (us:=[t]) (ys:=[vl,vk]) ⟨vl,vk,[],rfl,ht,rfl⟩ g1 g2 g3) g2 g3
theorem step_tree {K:Act→World→Prop} {E:Prop} (hgd:o.guard=none) (s x:Operand) (ho:o.op=.call { callee:=.builtin .append,args:=#[s,x],argTypes:=#[44,44] })
    (b:Nat) (v:Value) (ts:List Tr) (hs:a.eval s=v) (hown:OwnsTs b w v ts) (B:Nat) (hx:a.eval x=.slice (some ⟨B,0,none⟩) 1 1) (t:Tr) (vl vk:Value)
    (hB:w.heap[B]? = some (.cells #[vl,vk] 46 (0,0))) (ht:TreeV (Apart b v) w t vl vk) (hlen:ts.length≤1000000000) (hbase:b≤w.heap.size)
    (h:∀ g cap w',OwnsTs b w' (.slice (some ⟨g,0,none⟩) (ts.length+1) cap) (ts ++ [t])→w.grownBy w' v.ownBlock→(v.ownBlock=some g∨g=w.heap.size)→K (a.put o.dst (.slice (some ⟨g,0,none⟩) (ts.length+1) cap)) w') :
    if Region.wanted o (yielded ops a.tmps)=true then Oper.wp Tryz.prog o a w K Q else E:=by
  obtain ⟨i0,hi,hz0,hz1,hz2⟩:=info_parts info_tree
  obtain ⟨xs,h1,h2⟩:=hown
  refine step_append_lies w hgd s x _ ho b _ i0 _ 2 40 under_trees hi hz0 hz1 hz2 rfl (by omega) v ts.length xs hs h1 ⟨B,0,none⟩ 1 1 [vl,vk] hx rfl (World.news_of_block (cs:=#[vl,vk]) hB)
    (by intro u hu;simp at hu;rcases hu with rfl | rfl;exact ht.one.1;exact ht.one.2) (by omega) (by unfold maxLen;omega) (by omega) hbase w.heap.size rfl ?_
  intro g cap w' g1 g2 g3 _
  exact h g cap w' (OwnsTs.grown h2 (us:=[t]) (ys:=[vl,vk]) ⟨vl,vk,[],rfl,ht,rfl⟩ g1 g2 g3) g2 g3
end
end Go.Proofs.YtdbnfhpgmcjngabGreatDoor
/- Nodes and ints in memory: slices that came in, and slices of one's own. -/
namespace Go.Proofs.YtdbnfhpgmcjngabGreatDoor
open Go Go.RowKit
def Nd.cells (x:Nd):List Value:=[.string x.lab,.int .i64 x.par,.int .i64 x.left]
def ndCells (l:List Nd):List Value:=l.flatMap Nd.cells
theorem ndCells_append (a b:List Nd):ndCells (a ++ b)=ndCells a ++ ndCells b:=by simp [ndCells]
theorem ndCells_length (l:List Nd):(ndCells l).length=l.length * 3:=by
  induction l with
  | nil=>rfl
  | cons x l ih=>simp [ndCells,Nd.cells] at ih ⊢;omega
theorem ndCells_get:∀ (l:List Nd) (i:Nat) (h:i < l.length),(ndCells l)[i * 3]? = some (.string l[i].lab)∧(ndCells l)[i * 3+1]? = some (.int .i64 l[i].par)∧(ndCells l)[i * 3+2]? = some (.int .i64 l[i].left)
  | x :: l,0,_=>by simp [ndCells,Nd.cells]
  | x :: l,i+1,h=>by
    have:=ndCells_get l i (by simpa using h)
    rw [show (i+1) * 3=i * 3+3 by omega]
    simpa [ndCells,Nd.cells] using this
theorem ndCells_setPar:∀ (l:List Nd) (i:Nat) (p:Int),i < l.length→ndCells (setPar l i p)=(ndCells l).set (i * 3+1) (.int .i64 p)
  | x :: l,0,p,_=>by simp [ndCells,Nd.cells,setPar]
  | x :: l,i+1,p,h=>by
    have:=ndCells_setPar l i p (by simpa using h)
    rw [show (i+1) * 3+1=(i * 3+1)+3 by omega]
    simpa [ndCells,Nd.cells,setPar] using this
theorem under_nodes:Tryz.prog.underlying 146=some (.slice 167):=by kernel_rfl
theorem info_node:(Tryz.prog.info? 167).map (fun i=>(i.zero,i.size,i.bytes))=some (some (.agg #[.string ⟨#[]⟩,.int .i64 0,.int .i64 0]),3,32):=by kernel_rfl
theorem under_intsT:Tryz.prog.underlying 53=some (.slice 3):=by kernel_rfl
theorem info_int:(Tryz.prog.info? 3).map (fun i=>(i.zero,i.size,i.bytes))=some (some (.int .i64 0),1,8):=by kernel_rfl
def OwnsNds (base:Nat) (w:World) (v:Value) (xs:List Nd):Prop:=w.ownsRow base 167 3 v xs.length (ndCells xs)
def OwnsIs (base:Nat) (w:World) (v:Value) (xs:List Int):Prop:=w.ownsRow base 3 1 v xs.length (ints xs)
theorem ownsRow_kept {w w':World} {b e size:Nat} {v:Value} {n:Nat} {xs:List Value} (h:w.ownsRow b e size v n xs) (hk:∀ k,v.ownBlock=some k→w'.heap[k]? = w.heap[k]?):w'.ownsRow b e size v n xs:=by
  refine ⟨h.1,?_⟩
  rcases h.2 with h | ⟨g,cap,cur,rfl,e2,e3,e4⟩
  · exact .inl h
  · exact .inr ⟨g,cap,cur,rfl,e2,by rw [hk g rfl];exact e3,e4⟩
theorem OwnsNds.nil (base:Nat) (w:World):OwnsNds base w (.slice none 0 0) []:=World.ownsRow_nil _ _ _ _
theorem OwnsIs.nil (base:Nat) (w:World):OwnsIs base w (.slice none 0 0) []:=World.ownsRow_nil _ _ _ _
theorem OwnsNds.block {b:Nat} {w:World} {v:Value} {xs:List Nd} (h:OwnsNds b w v xs):∀ k,v.ownBlock=some k→b≤k∧k < w.heap.size:=World.ownsRow.lt h
theorem OwnsIs.block {b:Nat} {w:World} {v:Value} {xs:List Int} (h:OwnsIs b w v xs):∀ k,v.ownBlock=some k→b≤k∧k < w.heap.size:=World.ownsRow.lt h
theorem OwnsNds.kept {b:Nat} {w w':World} {v:Value} {xs:List Nd} (h:OwnsNds b w v xs) (hk:∀ k,v.ownBlock=some k→w'.heap[k]? = w.heap[k]?):OwnsNds b w' v xs:=ownsRow_kept h hk
theorem OwnsIs.kept {b:Nat} {w w':World} {v:Value} {xs:List Int} (h:OwnsIs b w v xs) (hk:∀ k,v.ownBlock=some k→w'.heap[k]? = w.heap[k]?):OwnsIs b w' v xs:=ownsRow_kept h hk
theorem OwnsNds.pr {b:Nat} {w w':World} {v:Value} {xs:List Nd} (h:OwnsNds b w v xs) (hp:Pr w w'):OwnsNds b w' v xs:=h.kept fun k hk=>Below.block hp k (h.block k hk).2
theorem OwnsIs.pr {b:Nat} {w w':World} {v:Value} {xs:List Int} (h:OwnsIs b w v xs) (hp:Pr w w'):OwnsIs b w' v xs:=h.kept fun k hk=>Below.block hp k (h.block k hk).2
theorem OwnsNds.grown {b:Nat} {w w':World} {v:Value} {xs:List Nd} {row:Option Nat} (h:OwnsNds b w v xs) (hg:w.grownBy w' row) (hne:∀ k,v.ownBlock=some k→row≠some k):OwnsNds b w' v xs:=h.kept fun k hk=>hg.block k (h.block k hk).2 fun e=>hne k hk e.symm
theorem OwnsIs.grown {b:Nat} {w w':World} {v:Value} {xs:List Int} {row:Option Nat} (h:OwnsIs b w v xs) (hg:w.grownBy w' row) (hne:∀ k,v.ownBlock=some k→row≠some k):OwnsIs b w' v xs:=h.kept fun k hk=>hg.block k (h.block k hk).2 fun e=>hne k hk e.symm
theorem OwnsNds.mono {b b':Nat} {w:World} {v:Value} {xs:List Nd} (h:OwnsNds b w v xs) (hb:b'≤b):OwnsNds b' w v xs:=ownsRow_mono h hb
theorem OwnsIs.mono {b b':Nat} {w:World} {v:Value} {xs:List Int} (h:OwnsIs b w v xs) (hb:b'≤b):OwnsIs b' w v xs:=ownsRow_mono h hb
theorem ownsRow_slice {w:World} {b e size:Nat} {v:Value} {n:Nat} {xs:List Value} (h:w.ownsRow b e size v n xs):∃ oa cap,v=.slice oa n cap∧n≤cap∧cap≤maxLen∧(0 < n→∃ g,oa=some ⟨g,0,none⟩∧b≤g):=by
  rcases h.2 with ⟨rfl,rfl⟩ | ⟨g,cap,cur,rfl,e2,_,e3,e4,_⟩
  · exact ⟨none,0,rfl,Nat.le_refl _,Nat.zero_le _,fun h=>absurd h (Nat.lt_irrefl 0)⟩
  · exact ⟨_,cap,rfl,e3,e4,fun _=>⟨g,rfl,e2⟩⟩
theorem grown_trans {w w1 w2:World} {r r1:Option Nat} (h:w.grownBy w1 r) (h1:w1.grownBy w2 r1) (hr:∀ k,r1=some k→r=some k∨w.heap.size≤k):w.grownBy w2 r:=by
  refine ⟨h1.os.trans h.os,h1.tape.trans h.tape,h1.output.trans h.output,Nat.le_trans h.size h1.size,fun k hk hne=>?_⟩
  rw [h1.block k (Nat.lt_of_lt_of_le hk h.size) ?_,h.block k hk hne]
  intro e
  rcases hr k e.symm with h | h
  · exact hne h.symm
  · omega
theorem Pr.grownBy {w w1:World} (h:Pr w w1) (r:Option Nat):w.grownBy w1 r:=⟨h.os,h.tape,h.output,Below.size h,fun k hk _=>Below.block h k hk⟩
theorem grown_pr {w w1 w2:World} {r:Option Nat} (h:w.grownBy w1 r) (h1:Pr w1 w2):w.grownBy w2 r:=grown_trans h (h1.grownBy none) (fun _ e=>by cases e)
def Nds (S:Nat→Prop) (w:World) (xs:List Nd) (oa:Option Addr) (cap:Nat):Prop:=(xs.length≤cap∧cap≤maxLen)∧∃ b o,(xs≠[]→oa=some ⟨b,o,none⟩∧S b) ∧
  ∀ (i:Nat) (h:i < xs.length),w.cell? ⟨b,o+i * 3,none⟩=some (.string xs[i].lab)∧w.cell? ⟨b,o+i * 3+1,none⟩=some (.int .i64 xs[i].par)∧w.cell? ⟨b,o+i * 3+2,none⟩=some (.int .i64 xs[i].left)
theorem Nds.carry {S S':Nat→Prop} {w w':World} (hk:∀ k,S k→k < w.heap.size→w'.heap[k]? = w.heap[k]? ∧ S' k) {xs:List Nd} {oa cap} (h:Nds S w xs oa cap):Nds S' w' xs oa cap:=by
  obtain ⟨hc,b,o,h1,h2⟩:=h
  have hb:∀ i (h:i < xs.length),S b∧b < w.heap.size:=fun i h=>⟨(h1 (by intro e;subst e;simp at h)).2,lt_of_cell (h2 i h).1⟩
  refine ⟨hc,b,o,fun hn=>?_,fun i h=>?_⟩
  · have:=hb 0 (List.length_pos_iff.2 hn);exact ⟨(h1 hn).1,(hk b this.1 this.2).2⟩
  · have:=hb i h
    have e:=(hk b this.1 this.2).1
    obtain ⟨g1,g2,g3⟩:=h2 i h
    exact ⟨by rw [World.cell?_of_block e];exact g1,by rw [World.cell?_of_block e];exact g2,by rw [World.cell?_of_block e];exact g3⟩
theorem Nds.kept {S:Nat→Prop} {w w':World} (h:Kept S w w') {xs:List Nd} {oa cap} (hk:Nds S w xs oa cap):Nds S w' xs oa cap:=hk.carry fun k hS hl=>⟨h k hS hl,hS⟩
theorem Nds.pr {S:Nat→Prop} {w w':World} (h:Pr w w') {xs:List Nd} {oa cap} (hk:Nds S w xs oa cap):Nds S w' xs oa cap:=hk.kept (h.kept S)
theorem Nds.mono {S S':Nat→Prop} {w:World} (h:∀ k,S k→k < w.heap.size→S' k) {xs:List Nd} {oa cap} (hk:Nds S w xs oa cap):Nds S' w xs oa cap:=hk.carry fun k hS hl=>⟨rfl,h k hS hl⟩
theorem Nds.any {S:Nat→Prop} {w:World} {xs:List Nd} {oa cap} (hk:Nds S w xs oa cap):Nds Any w xs oa cap:=hk.mono fun _ _ _=>trivial
theorem Nds.len {S:Nat→Prop} {w:World} {xs:List Nd} {oa cap} (h:Nds S w xs oa cap):xs.length≤9223372036854775807:=by have:=h.1;unfold maxLen at this;omega
theorem Nds.get {S:Nat→Prop} {w:World} {xs:List Nd} {oa cap} (h:Nds S w xs oa cap) (i:Nat) (hi:i < xs.length):∃ b o,oa=some ⟨b,o,none⟩ ∧
    w.cell? ⟨b,o+i * 3,none⟩=some (.string xs[i].lab)∧w.cell? ⟨b,o+i * 3+1,none⟩=some (.int .i64 xs[i].par)∧w.cell? ⟨b,o+i * 3+2,none⟩=some (.int .i64 xs[i].left):=by
  obtain ⟨_,b,o,h1,h2⟩:=h
  exact ⟨b,o,(h1 (by intro e;subst e;simp at hi)).1,h2 i hi⟩
theorem OwnsNds.nds {b:Nat} {w:World} {v:Value} {xs:List Nd} (h:OwnsNds b w v xs):∃ oa cap,v=.slice oa xs.length cap∧Nds (From b) w xs oa cap:=by
  rcases h.2 with ⟨rfl,hn⟩ | ⟨g,cap,cur,rfl,hb,hg,hnc,hcm,_⟩
  · have:xs=[]:=List.eq_nil_of_length_eq_zero hn
    subst this
    exact ⟨none,0,rfl,⟨Nat.le_refl _,Nat.zero_le _⟩,0,0,fun h=>absurd rfl h,fun _ h=>absurd h (Nat.not_lt_zero _)⟩
  · have hc:∀ j u,(ndCells xs)[j]? = some u→w.cell? ⟨g,0+j,none⟩=some u:=fun j u hu=>by
      have:=World.ownsRow.cells h (g:=g) rfl j u hu
      simpa [Addr.add_lit] using this
    refine ⟨_,cap,rfl,⟨hnc,hcm⟩,g,0,fun _=>⟨rfl,hb⟩,fun i hi=>?_⟩
    obtain ⟨g1,g2,g3⟩:=ndCells_get xs i hi
    exact ⟨hc _ _ g1,hc _ _ g2,hc _ _ g3⟩
theorem OwnsIs.ints {b:Nat} {w:World} {v:Value} {xs:List Int} (h:OwnsIs b w v xs):∃ oa cap,v=.slice oa xs.length cap∧Ints (From b) w xs oa cap:=by
  rcases h.2 with ⟨rfl,hn⟩ | ⟨g,cap,cur,rfl,hb,hg,hnc,hcm,_⟩
  · have:xs=[]:=List.eq_nil_of_length_eq_zero hn
    subst this
    exact ⟨none,0,rfl,Flat.nil _ _ _ _ (Nat.zero_le _)⟩
  · refine ⟨_,cap,rfl,⟨by simpa using hnc,hcm⟩,g,0,fun _=>⟨rfl,hb⟩,fun i hi=>?_⟩
    have:=World.ownsRow.cells h (g:=g) rfl i _ (List.getElem?_eq_getElem hi)
    simpa [Addr.add_lit] using this
theorem OwnsNds.store {b:Nat} {w:World} {g n cap:Nat} {xs:List Nd} (h:OwnsNds b w (.slice (some ⟨g,0,none⟩) n cap) xs) (i:Nat) (hi:i < xs.length) (p:Int) :
    OwnsNds b (w.setCell ⟨g,i * 3+1,none⟩ (.int .i64 p)) (.slice (some ⟨g,0,none⟩) n cap) (setPar xs i p):=by
  unfold OwnsNds at h ⊢
  rw [setPar_length,ndCells_setPar xs i p hi]
  have hn:n=xs.length:=by
    rcases h.2 with ⟨h1,_⟩ | ⟨_,_,_,h1,_⟩
    · cases h1
    · cases h1;rfl
  subst hn
  exact (World.ownsRow.stored h (i * 3+1) _).1
theorem OwnsNds.frozen {b:Nat} {w:World} {g n cap:Nat} {xs:List Nd} (h:OwnsNds b w (.slice (some ⟨g,0,none⟩) n cap) xs) (j:Nat):w.frozen? ⟨g,j,none⟩=false:=by
  have hn:n=xs.length:=by
    rcases h.2 with ⟨h1,_⟩ | ⟨_,_,_,h1,_⟩
    · cases h1
    · cases h1;rfl
  subst hn
  exact World.ownsRow.frozenAt h j
structure Chg (X:Nat→Prop) (w w':World):Prop where
  os:w'.os=w.os
  tape:w'.tape=w.tape
  output:w'.output=w.output
  size:w.heap.size≤w'.heap.size
  block:∀ k,k < w.heap.size→¬ X k→w'.heap[k]? = w.heap[k]?
theorem Chg.refl (X:Nat→Prop) (w:World):Chg X w w:=⟨rfl,rfl,rfl,Nat.le_refl _,fun _ _ _=>rfl⟩
theorem Chg.trans {X Y:Nat→Prop} {w w1 w2:World} (h:Chg X w w1) (h1:Chg Y w1 w2) (hY:∀ k,Y k→X k∨w.heap.size≤k):Chg X w w2:=by
  refine ⟨h1.os.trans h.os,h1.tape.trans h.tape,h1.output.trans h.output,Nat.le_trans h.size h1.size,fun k hk hX=>?_⟩
  rw [h1.block k (Nat.lt_of_lt_of_le hk h.size) (fun hy=>by rcases hY k hy with h | h;exact hX h;omega),h.block k hk hX]
theorem Pr.chg {w w1:World} (h:Pr w w1) (X:Nat→Prop):Chg X w w1:=⟨h.os,h.tape,h.output,Below.size h,fun k hk _=>Below.block h k hk⟩
theorem Chg.pr {X:Nat→Prop} {w w1 w2:World} (h:Chg X w w1) (h1:Pr w1 w2):Chg X w w2:=h.trans (h1.chg X) (fun _ h=>.inl h)
theorem chg_grown {w w1:World} {r:Option Nat} (h:w.grownBy w1 r):Chg (fun k=>r=some k) w w1:=⟨h.os,h.tape,h.output,h.size,fun k hk hX=>h.block k hk (fun e=>hX e.symm)⟩
theorem Chg.setCell {X:Nat→Prop} {w w1:World} (h:Chg X w w1) (a:Addr) (u:Value) (ha:X a.block∨w.heap.size≤a.block):Chg X w (w1.setCell a u):=by
  refine ⟨h.os,h.tape,h.output,by simpa [World.setCell] using h.size,fun k hk hX=>?_⟩
  rw [Below.heap_setCell _ _ _ _ (fun e=>by rcases ha with h | h;exact hX (e ▸ h);omega)];exact h.block k hk hX
theorem Chg.blk {X:Nat→Prop} {w w1:World} (h:Chg X w w1) {b:Nat} {x:Obj} (hx:w.heap[b]? = some x) (hX:¬ X b):w1.heap[b]? = some x:=by rw [h.block b (blk_lt hx) hX];exact hx
theorem Chg.to_pr {X:Nat→Prop} {w w1:World} (h:Chg X w w1) (hX:∀ k,X k→w.heap.size≤k):Pr w w1:=⟨h.os,h.tape,h.output,h.size,fun k hk=>h.block k hk (fun hx=>by have:=hX k hx;omega)⟩
theorem Kids.chg {X:Nat→Prop} {B:Nat} {w w':World} {ks:List Tr} {oa cap} (h:Kids (fun k=>k < B) w ks oa cap) (hg:Chg X w w') (hr:∀ k,X k→B≤k):Kids (fun k=>k < B) w' ks oa cap :=
  h.carry fun k hk hl=>⟨hg.block k hl (fun hx=>by have:=hr k hx;have hk':k < B:=hk;omega),hk⟩
theorem OwnsNds.chg {X:Nat→Prop} {b:Nat} {w w':World} {v:Value} {xs:List Nd} (h:OwnsNds b w v xs) (hg:Chg X w w') (hne:∀ k,v.ownBlock=some k→¬ X k):OwnsNds b w' v xs:=h.kept fun k hk=>hg.block k (h.block k hk).2 (hne k hk)
theorem OwnsIs.chg {X:Nat→Prop} {b:Nat} {w w':World} {v:Value} {xs:List Int} (h:OwnsIs b w v xs) (hg:Chg X w w') (hne:∀ k,v.ownBlock=some k→¬ X k):OwnsIs b w' v xs:=h.kept fun k hk=>hg.block k (h.block k hk).2 (hne k hk)
section
variable {ops:Array Oper} {o:Oper} {a:Act} {w:World} {rest:List Oper} {Q:Exit→Act→World→Prop}
theorem step_node {K:Act→World→Prop} {E:Prop} (hgd:o.guard=none) (s x:Operand) (ho:o.op=.call { callee:=.builtin .append,args:=#[s,x],argTypes:=#[146,146] })
    (b:Nat) (v:Value) (xs:List Nd) (hs:a.eval s=v) (hown:OwnsNds b w v xs) (B:Nat) (hx:a.eval x=.slice (some ⟨B,0,none⟩) 1 1) (y:Nd)
    (hB:w.heap[B]? = some (.cells #[.string y.lab,.int .i64 y.par,.int .i64 y.left] 167 (0,0))) (hlen:xs.length≤1000000000) (hbase:b≤w.heap.size)
    (h:∀ g cap w',OwnsNds b w' (.slice (some ⟨g,0,none⟩) (xs.length+1) cap) (xs ++ [y])→w.grownBy w' v.ownBlock→(v.ownBlock=some g∨g=w.heap.size)→K (a.put o.dst (.slice (some ⟨g,0,none⟩) (xs.length+1) cap)) w') :
    if Region.wanted o (yielded ops a.tmps)=true then Oper.wp Tryz.prog o a w K Q else E:=by
  obtain ⟨i0,hi,hz0,hz1,hz2⟩:=info_parts info_node
  refine step_append_lies w hgd s x _ ho b _ i0 _ 3 32 under_nodes hi hz0 hz1 hz2 rfl (by omega) v xs.length (ndCells xs) hs hown ⟨B,0,none⟩ 1 1 (Nd.cells y) hx rfl (World.news_of_block (cs:=#[.string y.lab,.int .i64 y.par,.int .i64 y.left]) hB)
    (by intro u hu;simp [Nd.cells] at hu;rcases hu with rfl | rfl | rfl <;> rfl) (by omega) (by unfold maxLen;omega) (by omega) hbase w.heap.size rfl ?_
  intro g cap w' g1 g2 g3 _
  refine h g cap w' ?_ g2 g3
  unfold OwnsNds
  rw [List.length_append,List.length_singleton,ndCells_append]
  have:ndCells [y]=y.cells:=by simp [ndCells]
  rw [this];exact g1
theorem app_int (hgd:o.guard=none) (s x:Operand) (ho:o.op=.call { callee:=.builtin .append,args:=#[s,x],argTypes:=#[53,53] })
    (b:Nat) (v:Value) (xs:List Int) (hs:a.eval s=v) (hown:OwnsIs b w v xs) (B:Nat) (hx:a.eval x=.slice (some ⟨B,0,none⟩) 1 1) (y:Int)
    (hB:w.heap[B]? = some (.cells #[.int .i64 y] 3 (0,0))) (hlen:xs.length≤1000000000) (hbase:b≤w.heap.size)
    (h:∀ g cap w',OwnsIs b w' (.slice (some ⟨g,0,none⟩) (xs.length+1) cap) (xs ++ [y])→w.grownBy w' v.ownBlock→(v.ownBlock=some g∨g=w.heap.size)→wpList Tryz.prog ops Q rest (a.put o.dst (.slice (some ⟨g,0,none⟩) (xs.length+1) cap)) w') :
    wpList Tryz.prog ops Q (o :: rest) a w:=by
  obtain ⟨i0,hi,hz0,hz1,hz2⟩:=info_parts info_int
  refine wpList_append_lies w hgd s x _ ho b _ i0 _ 1 8 under_intsT hi hz0 hz1 hz2 rfl (by omega) v xs.length (ints xs) hs hown ⟨B,0,none⟩ 1 1 [.int .i64 y] hx rfl (World.news_of_block (cs:=#[.int .i64 y]) hB)
    (by intro u hu;simp at hu;subst hu;rfl) (by omega) (by unfold maxLen;omega) (by omega) hbase w.heap.size rfl ?_
  intro g cap w' g1 g2 g3 _
  refine h g cap w' ?_ g2 g3
  unfold OwnsIs
  rw [List.length_append,List.length_singleton]
  have:ints (xs ++ [y])=ints xs ++ [.int .i64 y]:=by simp
  rw [this];exact g1
end
end Go.Proofs.YtdbnfhpgmcjngabGreatDoor
