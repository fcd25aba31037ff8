/- Marks: what a mark is, and how marks lie in memory (by gen_mrk.py: as trees do). -/
import Derived.Test.YtdbnfhpgmcjngabGreatDoorBza
namespace Go.Proofs.YtdbnfhpgmcjngabGreatDoor
open Go Go.RowKit
inductive Mk where
  | node (since:Int) (kids:List Mk)
namespace Mrk
mutual
def TreeV (S:Nat→Prop) (w:World):Mk→Value→Value→Prop
  | .node l ks,vl,vk=>(vl=.int .i64 l∧True)∧∃ oa cap b o,vk=.slice oa ks.length cap∧(ks.length≤cap∧cap≤maxLen)∧(ks≠[]→oa=some ⟨b,o,none⟩∧S b)∧KidsAt S w ks b o
def KidsAt (S:Nat→Prop) (w:World):List Mk→Nat→Nat→Prop
  | [],_,_=>True
  | k :: ks,b,o=>∃ vl vk,w.cell? ⟨b,o,none⟩=some vl∧w.cell? ⟨b,o+1,none⟩=some vk∧TreeV S w k vl vk∧KidsAt S w ks b (o+2)
end
def Kids (S:Nat→Prop) (w:World) (ks:List Mk) (oa:Option Addr) (cap:Nat):Prop:=(ks.length≤cap∧cap≤maxLen)∧∃ b o,(ks≠[]→oa=some ⟨b,o,none⟩∧S b)∧KidsAt S w ks b o
theorem treeV_iff {S:Nat→Prop} {w:World} {l:Int} {ks:List Mk} {vl vk:Value}:TreeV S w (.node l ks) vl vk↔(vl=.int .i64 l∧True)∧∃ oa cap,vk=.slice oa ks.length cap∧Kids S w ks oa cap:=by
  constructor
  · rintro ⟨h1,oa,cap,b,o,h2,hc,h3,h4⟩;exact ⟨h1,oa,cap,h2,hc,b,o,h3,h4⟩
  · rintro ⟨h1,oa,cap,h2,hc,b,o,h3,h4⟩;exact ⟨h1,oa,cap,b,o,h2,hc,h3,h4⟩
theorem treeV_mk {S:Nat→Prop} {w:World} {l:Int} {ks:List Mk} {oa:Option Addr} (cap:Nat) (hl:True) (h:Kids S w ks oa cap):TreeV S w (.node l ks) (.int .i64 l) (.slice oa ks.length cap) :=
  treeV_iff.2 ⟨⟨rfl,hl⟩,oa,cap,rfl,h⟩
theorem Kids.nil (S:Nat→Prop) (w:World) (oa:Option Addr) (cap:Nat) (h:cap≤maxLen):Kids S w [] oa cap:=⟨⟨Nat.zero_le _,h⟩,0,0,fun h=>absurd rfl h,trivial⟩
mutual
theorem TreeV.carry {S S':Nat→Prop} {w w':World} (hk:∀ k,S k→k < w.heap.size→w'.heap[k]? = w.heap[k]? ∧ S' k):∀ {t:Mk} {vl vk},TreeV S w t vl vk→TreeV S' w' t vl vk
  | .node l ks,vl,vk,hx=>by
    obtain ⟨h1,oa,cap,b,o,h2,hc,h3,h4⟩:=hx
    refine ⟨h1,oa,cap,b,o,h2,hc,fun hn=>⟨(h3 hn).1,(hk b (h3 hn).2 ?_).2⟩,?_⟩
    · cases ks with
      | nil=>exact absurd rfl hn
      | cons k ks=>exact lt_of_cell h4.choose_spec.choose_spec.1
    · exact KidsAt.carry hk (fun hn=>(h3 hn).2) h4
theorem KidsAt.carry {S S':Nat→Prop} {w w':World} (hk:∀ k,S k→k < w.heap.size→w'.heap[k]? = w.heap[k]? ∧ S' k):∀ {ks:List Mk} {b o},(ks≠[]→S b)→KidsAt S w ks b o→KidsAt S' w' ks b o
  | [],_,_,_,_=>trivial
  | k :: ks,b,o,hb,⟨vl,vk,h1,h2,h3,h4⟩=>by
    have hS:=hb (by simp)
    have e:∀ o v,w.cell? ⟨b,o,none⟩=some v→w'.cell? ⟨b,o,none⟩=some v:=fun o v hc=>by
      rw [World.cell?_of_block (hk b hS (lt_of_cell hc)).1];exact hc
    exact ⟨vl,vk,e _ _ h1,e _ _ h2,TreeV.carry hk h3,KidsAt.carry hk (fun _=>hS) h4⟩
end
theorem Kids.carry {S S':Nat→Prop} {w w':World} (hk:∀ k,S k→k < w.heap.size→w'.heap[k]? = w.heap[k]? ∧ S' k) {ks:List Mk} {oa cap} (h:Kids S w ks oa cap):Kids S' w' ks oa cap:=by
  obtain ⟨hc,b,o,h1,h2⟩:=h
  have hb:ks≠[]→b < w.heap.size:=fun hn=>by
    cases ks with
    | nil=>exact absurd rfl hn
    | cons k ks=>exact lt_of_cell h2.choose_spec.choose_spec.1
  exact ⟨hc,b,o,fun hn=>⟨(h1 hn).1,(hk b (h1 hn).2 (hb hn)).2⟩,h2.carry hk (fun hn=>(h1 hn).2)⟩
theorem Kids.kept {S:Nat→Prop} {w w':World} (h:Kept S w w') {ks:List Mk} {oa cap} (hk:Kids S w ks oa cap):Kids S w' ks oa cap:=hk.carry fun k hS hl=>⟨h k hS hl,hS⟩
theorem Kids.pr {S:Nat→Prop} {w w':World} (h:Pr w w') {ks:List Mk} {oa cap} (hk:Kids S w ks oa cap):Kids S w' ks oa cap:=hk.kept (h.kept S)
theorem Kids.mono {S S':Nat→Prop} {w:World} (h:∀ k,S k→k < w.heap.size→S' k) {ks:List Mk} {oa cap} (hk:Kids S w ks oa cap):Kids S' w ks oa cap:=hk.carry fun k hS hl=>⟨rfl,h k hS hl⟩
theorem Kids.setCell {S:Nat→Prop} {w:World} {ks:List Mk} {oa cap} (hk:Kids S w ks oa cap) (a:Addr) (u:Value) (h:¬ S a.block):Kids S (w.setCell a u) ks oa cap:=hk.kept (kept_setCell S w a u h)
theorem Kids.from {w:World} {ks:List Mk} {oa cap} {n m:Nat} (hk:Kids (From n) w ks oa cap) (h:m≤n):Kids (From m) w ks oa cap:=hk.mono fun _ hk _=>Nat.le_trans h hk
theorem Kids.any {S:Nat→Prop} {w:World} {ks:List Mk} {oa cap} (hk:Kids S w ks oa cap):Kids Any w ks oa cap:=hk.mono fun _ _ _=>trivial
theorem TreeV.kept {S:Nat→Prop} {w w':World} (h:Kept S w w') {t:Mk} {vl vk} (hk:TreeV S w t vl vk):TreeV S w' t vl vk:=hk.carry fun k hS hl=>⟨h k hS hl,hS⟩
theorem TreeV.mono {S S':Nat→Prop} {w:World} (h:∀ k,S k→k < w.heap.size→S' k) {t:Mk} {vl vk} (hk:TreeV S w t vl vk):TreeV S' w t vl vk:=hk.carry fun k hS hl=>⟨rfl,h k hS hl⟩
theorem KidsAt.get {S:Nat→Prop} {w:World}:∀ {ks:List Mk} {b o},KidsAt S w ks b o→∀ (i:Nat) (h:i < ks.length),∃ vl vk,w.cell? ⟨b,o+i * 2,none⟩=some vl∧w.cell? ⟨b,o+i * 2+1,none⟩=some vk∧TreeV S w ks[i] vl vk
  | k :: ks,b,o,⟨vl,vk,h1,h2,h3,_⟩,0,_=>⟨vl,vk,by simpa using h1,by simpa using h2,h3⟩
  | k :: ks,b,o,⟨_,_,_,_,_,h4⟩,i+1,h=>by
    obtain ⟨vl,vk,h1,h2,h3⟩:=h4.get i (by simpa using h)
    exact ⟨vl,vk,by rw [← h1];congr 2;omega,by rw [← h2];congr 2;omega,h3⟩
theorem KidsAt.mk {S:Nat→Prop} {w:World}:∀ {ks:List Mk} {b o},(∀ (i:Nat) (h:i < ks.length),∃ vl vk,w.cell? ⟨b,o+i * 2,none⟩=some vl∧w.cell? ⟨b,o+i * 2+1,none⟩=some vk∧TreeV S w ks[i] vl vk)→KidsAt S w ks b o
  | [],_,_,_=>trivial
  | k :: ks,b,o,h=>by
    obtain ⟨vl,vk,h1,h2,h3⟩:=h 0 (by simp)
    refine ⟨vl,vk,by simpa using h1,by simpa using h2,h3,KidsAt.mk fun i hi=>?_⟩
    obtain ⟨vl,vk,h1,h2,h3⟩:=h (i+1) (by simpa using hi)
    exact ⟨vl,vk,by rw [← h1];congr 2;omega,by rw [← h2];congr 2;omega,by simpa using h3⟩
theorem Kids.get {S:Nat→Prop} {w:World} {ks:List Mk} {oa cap} (h:Kids S w ks oa cap) (i:Nat) (hi:i < ks.length):∃ b o l ks' oa' cap',ks[i]=.node l ks'∧True∧oa=some ⟨b,o,none⟩∧w.cell? ⟨b,o+i * 2,none⟩=some (.int .i64 l)∧w.cell? ⟨b,o+i * 2+1,none⟩=some (.slice oa' ks'.length cap')∧Kids S w ks' oa' cap':=by
  obtain ⟨_,b,o,h1,h2⟩:=h
  obtain ⟨vl,vk,c0,c1,h3⟩:=h2.get i hi
  have hne:ks≠[]:=by intro e;subst e;simp at hi
  revert h3
  cases hk:ks[i] with
  | node l ks' =>
    intro h3
    obtain ⟨⟨rfl,hll⟩,oa',cap',rfl,g⟩:=treeV_iff.1 h3
    exact ⟨b,o,l,ks',oa',cap',rfl,hll,(h1 hne).1,c0,c1,g⟩
theorem Kids.len {S:Nat→Prop} {w:World} {ks:List Mk} {oa cap} (h:Kids S w ks oa cap):ks.length≤9223372036854775807:=by have:=h.1;unfold maxLen at this;omega
theorem KidsAt.drop {S:Nat→Prop} {w:World} {ks:List Mk} {b o} (h:KidsAt S w ks b o) (i:Nat):KidsAt S w (ks.drop i) b (o+i * 2):=by
  refine KidsAt.mk fun j hj=>?_
  rw [List.length_drop] at hj
  obtain ⟨vl,vk,h1,h2,h3⟩:=h.get (i+j) (by omega)
  exact ⟨vl,vk,by rw [← h1];congr 2;omega,by rw [← h2];congr 2;omega,by simpa using h3⟩
theorem KidsAt.take {S:Nat→Prop} {w:World} {ks:List Mk} {b o} (h:KidsAt S w ks b o) (i:Nat):KidsAt S w (ks.take i) b o:=by
  refine KidsAt.mk fun j hj=>?_
  rw [List.length_take] at hj
  obtain ⟨vl,vk,h1,h2,h3⟩:=h.get j (by omega)
  exact ⟨vl,vk,h1,h2,by simpa using h3⟩
def Tvals (S:Nat→Prop) (w:World):List Mk→List Value→Prop
  | [],xs=>xs=[]
  | t :: ts,xs=>∃ vl vk ys,xs=vl :: vk :: ys∧TreeV S w t vl vk∧Tvals S w ts ys
theorem Tvals.carry {S S':Nat→Prop} {w w':World} (hk:∀ k,S k→k < w.heap.size→w'.heap[k]? = w.heap[k]? ∧ S' k):∀ {ts:List Mk} {xs},Tvals S w ts xs→Tvals S' w' ts xs
  | [],_,h=>h
  | _ :: _,_,⟨vl,vk,ys,h1,h2,h3⟩=>⟨vl,vk,ys,h1,h2.carry hk,h3.carry hk⟩
theorem Tvals.snoc {S:Nat→Prop} {w:World} {t:Mk} {vl vk:Value} (h:TreeV S w t vl vk):∀ {ts:List Mk} {xs},Tvals S w ts xs→Tvals S w (ts ++ [t]) (xs ++ [vl,vk])
  | [],_,e=>by subst e;exact ⟨vl,vk,[],rfl,h,rfl⟩
  | _ :: _,_,⟨a,b,ys,h1,h2,h3⟩=>by subst h1;exact ⟨a,b,ys ++ [vl,vk],rfl,h2,h3.snoc h⟩
theorem Tvals.append {S:Nat→Prop} {w:World} {us:List Mk} {zs:List Value} (h:Tvals S w us zs):∀ {ts:List Mk} {xs},Tvals S w ts xs→Tvals S w (ts ++ us) (xs ++ zs)
  | [],_,e=>by subst e;exact h
  | _ :: _,_,⟨a,b,ys,h1,h2,h3⟩=>by subst h1;exact ⟨a,b,ys ++ zs,rfl,h2,Tvals.append h h3⟩
theorem Tvals.length {S:Nat→Prop} {w:World}:∀ {ts:List Mk} {xs},Tvals S w ts xs→xs.length=ts.length * 2
  | [],_,e=>by subst e;rfl
  | _ :: _,_,⟨a,b,ys,h1,h2,h3⟩=>by subst h1;have:=h3.length;simp;omega
theorem Tvals.kidsAt {S:Nat→Prop} {w:World} {b:Nat}:∀ {ts:List Mk} {xs} {o:Nat},Tvals S w ts xs→(∀ j u,xs[j]? = some u→w.cell? ⟨b,o+j,none⟩=some u)→KidsAt S w ts b o
  | [],_,_,_,_=>trivial
  | _ :: _,_,o,⟨vl,vk,ys,h1,h2,h3⟩,hc=>by
    subst h1
    refine ⟨vl,vk,hc 0 vl rfl,hc 1 vk rfl,h2,h3.kidsAt fun j u hu=>?_⟩
    have:=hc (j+2) u (by simpa using hu)
    rw [← this];congr 2;omega
theorem Tvals.kids {S:Nat→Prop} {w:World} {base e:Nat} {v:Value} {ts:List Mk} {xs:List Value} (h:Tvals S w ts xs) (ho:w.ownsRow base e 2 v ts.length xs) (hS:∀ k,v.ownBlock=some k→S k) :
    ∃ oa cap,v=.slice oa ts.length cap∧Kids S w ts oa cap:=by
  rcases ho.2 with ⟨rfl,hn⟩ | ⟨g,cap,cur,rfl,hb,hg,hnc,hcm,_⟩
  · have:ts=[]:=List.eq_nil_of_length_eq_zero hn
    subst this
    exact ⟨none,0,rfl,Kids.nil _ _ _ _ (Nat.zero_le _)⟩
  · refine ⟨_,cap,rfl,⟨hnc,hcm⟩,g,0,fun _=>⟨rfl,hS g rfl⟩,h.kidsAt fun j u hu=>?_⟩
    have:=ho.cells (g:=g) rfl j u hu
    simpa [Addr.add_lit] using this
theorem under_trees:Tryz.prog.underlying 171=some (.slice 173):=by kernel_rfl
theorem info_tree:(Tryz.prog.info? 173).map (fun i=>(i.zero,i.size,i.bytes))=some (some (.agg #[.int .i64 0,.slice none 0 0]),2,32):=by kernel_rfl
def OwnsTs (base:Nat) (w:World) (v:Value) (ts:List Mk):Prop:=∃ xs,w.ownsRow base 173 2 v ts.length xs∧Tvals (Apart base v) w ts xs
theorem OwnsTs.nil (base:Nat) (w:World):OwnsTs base w (.slice none 0 0) []:=⟨[],World.ownsRow_nil _ _ _ _,rfl⟩
theorem OwnsTs.mono {b b':Nat} {w:World} {v:Value} {ts:List Mk} (h:OwnsTs b w v ts) (hb:b'≤b):OwnsTs b' w v ts:=by
  obtain ⟨xs,h1,h2⟩:=h
  exact ⟨xs,ownsRow_mono h1 hb,h2.carry fun k hk _=>⟨rfl,by omega,hk.2⟩⟩
theorem OwnsTs.kept {b:Nat} {w w':World} {v:Value} {ts:List Mk} (h:OwnsTs b w v ts) (hk:Kept (From b) w w'):OwnsTs b w' v ts:=by
  obtain ⟨xs,h1,h2⟩:=h
  refine ⟨xs,⟨h1.1,?_⟩,h2.carry fun k hS hl=>⟨hk k hS.1 hl,hS⟩⟩
  rcases h1.2 with h | ⟨g,cap,cur,e1,e2,e3,e4⟩
  · exact .inl h
  · refine .inr ⟨g,cap,cur,e1,e2,?_,e4⟩
    rw [hk g e2 (Array.getElem?_eq_some_iff.1 e3).1];exact e3
theorem OwnsTs.pr {b:Nat} {w w':World} {v:Value} {ts:List Mk} (h:OwnsTs b w v ts) (hk:Pr w w'):OwnsTs b w' v ts:=h.kept (hk.kept _)
theorem OwnsTs.block {b:Nat} {w:World} {v:Value} {ts:List Mk} (h:OwnsTs b w v ts):∀ k,v.ownBlock=some k→b≤k∧k < w.heap.size:=by
  obtain ⟨xs,h1,_⟩:=h;exact h1.lt
theorem OwnsTs.setCell {b:Nat} {w:World} {v:Value} {ts:List Mk} (h:OwnsTs b w v ts) (a:Addr) (u:Value) (ha:a.block < b):OwnsTs b (w.setCell a u) v ts :=
  h.kept (kept_setCell _ w a u (by show ¬ b≤a.block;omega))
theorem OwnsTs.kids {b:Nat} {w:World} {v:Value} {ts:List Mk} (h:OwnsTs b w v ts):∃ oa cap,v=.slice oa ts.length cap∧Kids (From b) w ts oa cap:=by
  obtain ⟨xs,h1,h2⟩:=h
  exact Tvals.kids (h2.carry fun k hS _=>⟨rfl,hS.1⟩) h1 fun k hk=>(h1.lt k hk).1
theorem TreeV.one {S:Nat→Prop} {w:World} {t:Mk} {vl vk:Value} (h:TreeV S w t vl vk):vl.oneCell'=true∧vk.oneCell'=true:=by
  cases t with
  | node l ks=>obtain ⟨⟨rfl,_⟩,oa,cap,rfl,_⟩:=treeV_iff.1 h;exact ⟨rfl,rfl⟩
theorem OwnsTs.grown {b:Nat} {w w':World} {v:Value} {ts us:List Mk} {xs ys:List Value} {g cap:Nat} (h1:Tvals (Apart b v) w ts xs) (h2:Tvals (Apart b v) w us ys)
    (ho:w'.ownsRow b 173 2 (.slice (some ⟨g,0,none⟩) (ts.length+us.length) cap) (ts.length+us.length) (xs ++ ys)) (hg:w.grownBy w' v.ownBlock) (hat:v.ownBlock=some g∨g=w.heap.size) :
    OwnsTs b w' (.slice (some ⟨g,0,none⟩) (ts.length+us.length) cap) (ts ++ us):=by
  refine ⟨xs ++ ys,by rw [List.length_append];exact ho,?_⟩
  refine (Tvals.append h2 h1).carry fun k hS hl=>⟨hg.block k hl (fun e=>hS.2 e.symm),hS.1,?_⟩
  show some g≠some k
  rcases hat with h | h
  · rw [← h];exact hS.2
  · intro e;cases e;omega
section
variable {ops:Array Oper} {o:Oper} {a:Act} {w:World} {rest:List Oper} {Q:Exit→Act→World→Prop}
theorem app_tree (hgd:o.guard=none) (s x:Operand) (ho:o.op=.call { callee:=.builtin .append,args:=#[s,x],argTypes:=#[171,171] })
    (b:Nat) (v:Value) (ts:List Mk) (hs:a.eval s=v) (hown:OwnsTs b w v ts) (B:Nat) (hx:a.eval x=.slice (some ⟨B,0,none⟩) 1 1) (t:Mk) (vl vk:Value)
    (hB:w.heap[B]? = some (.cells #[vl,vk] 173 (0,0))) (ht:TreeV (Apart b v) w t vl vk) (hlen:ts.length≤1000000000) (hbase:b≤w.heap.size)
    (h:∀ g cap w',OwnsTs b w' (.slice (some ⟨g,0,none⟩) (ts.length+1) cap) (ts ++ [t])→w.grownBy w' v.ownBlock→(v.ownBlock=some g∨g=w.heap.size)→wpList Tryz.prog ops Q rest (a.put o.dst (.slice (some ⟨g,0,none⟩) (ts.length+1) cap)) w') :
    wpList Tryz.prog ops Q (o :: rest) a w:=by
  obtain ⟨i0,hi,hz0,hz1,hz2⟩:=info_parts info_tree
  obtain ⟨xs,h1,h2⟩:=hown
  refine wpList_append_lies w hgd s x _ ho b _ i0 _ 2 32 under_trees hi hz0 hz1 hz2 rfl (by omega) v ts.length xs hs h1 ⟨B,0,none⟩ 1 1 [vl,vk] hx rfl (World.news_of_block (cs:=#[vl,vk]) hB)
    (by intro u hu;simp at hu;rcases hu with rfl | rfl;exact ht.one.1;exact ht.one.2) (by omega) (by unfold maxLen;omega) (by omega) hbase w.heap.size rfl ?_
  intro g cap w' g1 g2 g3 _
  exact h g cap w' (OwnsTs.grown h2 (us:=[t]) (ys:=[vl,vk]) ⟨vl,vk,[],rfl,ht,rfl⟩ g1 g2 g3) g2 g3
theorem step_tree {K:Act→World→Prop} {E:Prop} (hgd:o.guard=none) (s x:Operand) (ho:o.op=.call { callee:=.builtin .append,args:=#[s,x],argTypes:=#[171,171] })
    (b:Nat) (v:Value) (ts:List Mk) (hs:a.eval s=v) (hown:OwnsTs b w v ts) (B:Nat) (hx:a.eval x=.slice (some ⟨B,0,none⟩) 1 1) (t:Mk) (vl vk:Value)
    (hB:w.heap[B]? = some (.cells #[vl,vk] 173 (0,0))) (ht:TreeV (Apart b v) w t vl vk) (hlen:ts.length≤1000000000) (hbase:b≤w.heap.size)
    (h:∀ g cap w',OwnsTs b w' (.slice (some ⟨g,0,none⟩) (ts.length+1) cap) (ts ++ [t])→w.grownBy w' v.ownBlock→(v.ownBlock=some g∨g=w.heap.size)→K (a.put o.dst (.slice (some ⟨g,0,none⟩) (ts.length+1) cap)) w') :
    if Region.wanted o (yielded ops a.tmps)=true then Oper.wp Tryz.prog o a w K Q else E:=by
  obtain ⟨i0,hi,hz0,hz1,hz2⟩:=info_parts info_tree
  obtain ⟨xs,h1,h2⟩:=hown
  refine step_append_lies w hgd s x _ ho b _ i0 _ 2 32 under_trees hi hz0 hz1 hz2 rfl (by omega) v ts.length xs hs h1 ⟨B,0,none⟩ 1 1 [vl,vk] hx rfl (World.news_of_block (cs:=#[vl,vk]) hB)
    (by intro u hu;simp at hu;rcases hu with rfl | rfl;exact ht.one.1;exact ht.one.2) (by omega) (by unfold maxLen;omega) (by omega) hbase w.heap.size rfl ?_
  intro g cap w' g1 g2 g3 _
  exact h g cap w' (OwnsTs.grown h2 (us:=[t]) (ys:=[vl,vk]) ⟨vl,vk,[],rfl,ht,rfl⟩ g1 g2 g3) g2 g3
end
theorem KidsAt.vals {S:Nat→Prop} {w:World}:∀ {ts:List Mk} {b o:Nat},KidsAt S w ts b o→∃ xs,Tvals S w ts xs∧∀ j u,xs[j]? = some u→w.cell? ⟨b,o+j,none⟩=some u
  | [],_,_,_=>⟨[],rfl,by simp⟩
  | k :: ks,b,o,⟨vl,vk,h1,h2,h3,h4⟩=>by
    obtain ⟨xs,hx,hc⟩:=h4.vals
    refine ⟨vl :: vk :: xs,⟨vl,vk,xs,rfl,h3,hx⟩,fun j u hu=>?_⟩
    match j with
    | 0=>simp at hu;subst hu;exact h1
    | 1=>simp at hu;subst hu;exact h2
    | j+2=>simp at hu;rw [show o+(j+2)=o+2+j by omega];exact hc j u hu
theorem Tvals.one {S:Nat→Prop} {w:World}:∀ {ts:List Mk} {xs},Tvals S w ts xs→∀ u∈xs,u.oneCell'=true
  | [],xs,h,u,hu=>by cases (show xs=[] from h);cases hu
  | t :: ts,xs,⟨vl,vk,ys,e,h1,h2⟩,u,hu=>by
    subst e
    simp only [List.mem_cons] at hu
    rcases hu with rfl | rfl | hu
    · exact h1.one.1
    · exact h1.one.2
    · exact Tvals.one h2 u hu
theorem Kids.vals {S:Nat→Prop} {w:World} {ts:List Mk} {oa:Option Addr} {cap:Nat} (h:Kids S w ts oa cap):∃ xs,Tvals S w ts xs∧(0 < ts.length→∃ ad,oa=some ad∧∀ j u,xs[j]? = some u→w.cell? (ad.add j)=some u):=by
  obtain ⟨_,b,o,h1,h2⟩:=h
  obtain ⟨xs,hx,hc⟩:=h2.vals
  refine ⟨xs,hx,fun hp=>⟨_,(h1 (by intro e;subst e;simp at hp)).1,fun j u hu=>?_⟩⟩
  rw [Addr.add_lit];exact hc j u hu
theorem Kids.cutL {S:Nat→Prop} {w:World} {ts:List Mk} {oa:Option Addr} {cap:Nat} (h:Kids S w ts oa cap) (n:Nat) (hn:n≤ts.length):Kids S w (ts.drop n) (Option.map (fun x=>x.add (n * 2)) oa) (cap - n):=by
  obtain ⟨⟨h1,h2⟩,b,o,h3,h4⟩:=h
  refine ⟨⟨by rw [List.length_drop];omega,by omega⟩,b,o+n * 2,fun hne=>?_,h4.drop n⟩
  have hne':ts≠[]:=by intro e;subst e;simp at hne
  rw [(h3 hne').1]
  exact ⟨by simp [Addr.add_lit],(h3 hne').2⟩
theorem Kids.cutP {S:Nat→Prop} {w:World} {ts:List Mk} {oa:Option Addr} {cap:Nat} (h:Kids S w ts oa cap) (n:Nat) (hn:n≤ts.length):Kids S w (ts.take n) oa cap:=by
  obtain ⟨⟨h1,h2⟩,b,o,h3,h4⟩:=h
  refine ⟨⟨by rw [List.length_take];omega,h2⟩,b,o,fun hne=>?_,h4.take n⟩
  exact h3 (by intro e;subst e;simp at hne)
def OwnsX (S:Nat→Prop) (w0:World) (base:Nat) (w:World) (v:Value) (ts:List Mk):Prop:=∃ xs,w.ownsRow base 173 2 v ts.length xs∧Tvals S w0 ts xs
theorem OwnsX.kids {S:Nat→Prop} {w0 w:World} {base:Nat} {v:Value} {ts:List Mk} (h:OwnsX S w0 base w v ts) (hp:Pr w0 w):∃ oa cap,v=.slice oa ts.length cap∧Kids (fun k=>S k∨base≤k) w ts oa cap:=by
  obtain ⟨xs,h1,h2⟩:=h
  exact Tvals.kids (h2.carry fun k hS hl=>⟨Below.block hp k hl,.inl hS⟩) h1 fun k hk=>.inr (h1.lt k hk).1
theorem OwnsX.pr {S:Nat→Prop} {w0 w w':World} {base:Nat} {v:Value} {ts:List Mk} (h:OwnsX S w0 base w v ts) (hp:Pr w w'):OwnsX S w0 base w' v ts:=by
  obtain ⟨xs,h1,h2⟩:=h
  exact ⟨xs,ownsRow_kept h1 (fun k hk=>Below.block hp k (h1.lt k hk).2),h2⟩
theorem OwnsX.block {S:Nat→Prop} {w0 w:World} {base:Nat} {v:Value} {ts:List Mk} (h:OwnsX S w0 base w v ts):∀ k,v.ownBlock=some k→base≤k∧k < w.heap.size:=by
  obtain ⟨xs,h1,_⟩:=h;exact h1.lt
theorem OwnsX.nil (S:Nat→Prop) (w0:World) (base:Nat) (w:World):OwnsX S w0 base w (.slice none 0 0) []:=⟨[],World.ownsRow_nil _ _ _ _,rfl⟩
section
variable {ops:Array Oper} {o:Oper} {a:Act} {w:World} {rest:List Oper} {Q:Exit→Act→World→Prop}
theorem app_trees (hgd:o.guard=none) (s x:Operand) (ho:o.op=.call { callee:=.builtin .append,args:=#[s,x],argTypes:=#[171,171] })
    (S:Nat→Prop) (w0:World) (b:Nat) (v:Value) (ts:List Mk) (hs:a.eval s=v) (hown:OwnsX S w0 b w v ts) (us:List Mk) (ao:Option Addr) (c:Nat) (hx:a.eval x=.slice ao us.length c) (hu:Kids S w0 us ao c) (hp:Pr w0 w)
    (hlen:ts.length+us.length≤1000000000) (hbase:b≤w.heap.size)
    (h:∀ v' w',OwnsX S w0 b w' v' (ts ++ us)→w.grownBy w' v.ownBlock→(∀ k,v'.ownBlock=some k→v.ownBlock=some k∨k=w.heap.size)→wpList Tryz.prog ops Q rest (a.put o.dst v') w') :
    wpList Tryz.prog ops Q (o :: rest) a w:=by
  obtain ⟨i0,hi,hz0,hz1,hz2⟩:=info_parts info_tree
  obtain ⟨xs,h1,h2⟩:=hown
  obtain ⟨ys,g1,g2⟩:=hu.vals
  refine wp_app_rows hgd s x _ ho b _ i0 _ 2 32 under_trees hi hz0 hz1 hz2 rfl (by omega) v ts.length xs hs h1 ao us.length c ys hx g1.length ?_
    g1.one (by unfold maxLen;omega) (by omega) hbase ?_
  · intro hm
    obtain ⟨ad,e,hc⟩:=g2 hm
    refine ⟨ad,e,fun j u hj=>?_⟩
    have hcell:=hc j u hj
    have hlt:(ad.add j).block < w0.heap.size:=World.block_lt_of_cell? w0 _ hcell
    rw [Below.cell hp hlt];exact hcell
  · intro v' w' k1 k2 k3
    refine h v' w' ⟨xs ++ ys,?_,Tvals.append g1 h2⟩ k2 k3
    rw [List.length_append];exact k1
end
set_option maxHeartbeats 800000 in
theorem cloneTrees_any (S:Nat→Prop) (ts:List Mk) (oa cap) (w:World) (hx:Kids S w ts oa cap) (hs:ts.length≤100000) :
    Calls Tryz.prog 142 #[.slice oa ts.length cap] w fun e w'=>(∃ ob cp,e=.returned (.slice ob ts.length cp)∧Kids (fun k=>S k∨w.heap.size≤k) w' ts ob cp)∧Pr w w':=by
  have hm:=hx.len
  have e0:=fun (w:World) n c=>Lib.run_eql_slice_nil (P:=Tryz.prog) w 171 173 none n c 0 0 under_trees
  have e1:=fun (w:World) a n c=>Lib.run_eql_slice_nil (P:=Tryz.prog) w 171 173 (some a) n c 0 0 under_trees
  cases oa with
  | none =>
    have hx0:ts=[]:=by
      obtain ⟨_,b,o,h1,_⟩:=hx
      cases ts with
      | nil=>rfl
      | cons x xs=>have:=(h1 (by simp)).1;cases this
    subst hx0
    clear e1
    simp only [List.length_nil] at *
    go_enter Tryz.func142,Tryz.ntmps142
    go_wp2_with fail
    go_ret
    exact ⟨⟨none,0,rfl,Kids.nil _ _ _ _ (Nat.zero_le _)⟩,Pr.refl _⟩
  | some ad =>
    clear e0
    have h0:OwnsX S w w.heap.size (w.alloc (.cells #[] 173)) (.slice (some ⟨w.heap.size,0,none⟩) 0 0) []:=⟨[],ownsRow_empty w _ _,rfl⟩
    have Hx:=Lib.hid hx
    have H0:=Lib.hid h0
    clear hx h0
    go_enter Tryz.func142,Tryz.ntmps142
    go_wp2_with (at_builtin;go_must (refine app_trees rfl _ _ rfl S w w.heap.size _ [] rfl H0.out ts (some ad) cap rfl Hx.out (Pr.alloc _ _) (by simp;omega) (by simp) ?_);intro v5 w5 ho5 hg5 hd5)
    have hp5:Pr w w5:=Below.grown (Pr.alloc w (.cells #[] 173)) hg5 (by simp) (fun k hk=>by cases hk;simp)
    rw [List.nil_append] at ho5
    obtain ⟨ob,cp,rfl,hk⟩:=ho5.kids hp5
    go_ret
    exact ⟨⟨ob,cp,rfl,hk⟩,hp5⟩
theorem under_intT:Tryz.prog.underlying 3=some (.int .i64):=by kernel_rfl
set_option maxHeartbeats 800000 in
theorem growTrees_any (n:Nat) (w:World) (hs:n≤1000000) :
    Calls Tryz.prog 157 #[.slice none 0 0,.int .i64 n] w fun e w'=>(∃ v,e=.returned v∧w'.ownsRow w.heap.size 173 2 v 0 [])∧Pr w w':=by
  by_cases h0:n=0
  · subst h0
    go_enter Tryz.func157,Tryz.ntmps157
    go_wp2_with fail
    go_ret
    exact ⟨⟨_,rfl,World.ownsRow_nil _ _ _ _⟩,Pr.refl _⟩
  · obtain ⟨i0,hi,hz0,hz1,hz2⟩:=info_parts info_tree
    have hrz:=fun ty=>Lib.run_append_nil_zeros (P:=Tryz.prog) w 171 3 ty 173 i0 _ .i64 .i64 under_trees under_intT hi hz0 n (by omega) (by rw [hz1];omega) (by omega) (by rw [hz2];omega)
    have hGn:n≤grownCap w n 0 173:=grownCap_ge w _ _ _
    have hG63:grownCap w n 0 173≤9223372036854775807:=by
      have:=grownCap_le_maxLen w n 0 173 (by unfold maxLen;omega)
      unfold maxLen at this;omega
    obtain ⟨G,hG⟩:∃ G,G=grownCap w n 0 173:=⟨_,rfl⟩
    rw [← hG] at hrz hGn hG63
    have hzc:∀ m,(Builtin.zeroCells #[.int .i64 0,.slice none 0 0] m).size=m * 2:=fun m=>by
      simp [Builtin.zeroCells]
    clear hG hi hz0 hz1 hz2
    have Hzc:=Lib.hid hzc
    clear hzc
    have h1:(1:Int)≤n:=by omega
    go_enter Tryz.func157,Tryz.ntmps157
    go_wp2_with (at_builtin;refine Lib.wpList_append_run _ rfl _ _ _ _ rfl _ _ rfl rfl _ _ (hrz _) ?_)
    go_ret
    refine ⟨⟨_,rfl,?_⟩,(Pr.drew w).alloc' _⟩
    exact ownsRow_made w.drew _ _ G _ (by rw [Array.size_append,Hzc.out,Hzc.out];omega) (by unfold maxLen;omega)
def Rows2 (S:Nat→Prop) (w:World) (L:List (List Mk)) (B:Nat):Prop:=∀ i (_:i < L.length),∃ oa cap,w.cell? ⟨B,i,none⟩=some (.slice oa L[i].length cap)∧Kids S w L[i] oa cap
theorem flat_take (L:List (List Mk)) (i:Nat) (h:i < L.length):(L.take (i+1)).flatten=(L.take i).flatten ++ L[i]:=by
  rw [List.take_succ_eq_append_getElem h,List.flatten_append];simp
def flen (L:List (List Mk)) (i:Nat):Nat:=(L.take i).flatten.length
theorem flen_all (L:List (List Mk)):flen L L.length=L.flatten.length:=by unfold flen;rw [List.take_length]
theorem flen_succ (L:List (List Mk)) (i:Nat) (h:i < L.length):flen L (i+1)=flen L i+L[i].length:=by unfold flen;rw [flat_take L i h,List.length_append]
theorem flat_take_le (L:List (List Mk)) (i:Nat):(L.take i).flatten.length≤L.flatten.length:=by
  have h:L.flatten=(L.take i).flatten ++ (L.drop i).flatten:=by rw [← List.flatten_append,List.take_append_drop]
  rw [h,List.length_append];omega
set_option maxHeartbeats 1600000 in
theorem concatTrees_any (S:Nat→Prop) (L:List (List Mk)) (B c:Nat) (w:World) (hL:Rows2 S w L B) (hn:flen L L.length≤1000000) (hl:L.length≤1000) :
    Calls Tryz.prog 143 #[.slice (some ⟨B,0,none⟩) L.length c] w fun e w'=>(∃ ob cp,e=.returned (.slice ob (flen L L.length) cp)∧Kids (fun k=>S k∨w.heap.size≤k) w' L.flatten ob cp)∧Pr w w':=by
  have HL:=Lib.hid hL
  clear hL
  have hb:∀ i,flen L i≤flen L L.length:=fun i=>by rw [flen_all];exact flat_take_le L i
  have Hb:=Lib.hid hb
  clear hb
  go_enter Tryz.func143,Tryz.ntmps143
  go_wp2_with fail
  go_loopw [3,11] (fun v3 v11 wr=>∃ i:Nat,i≤L.length∧v3=.int .i64 (flen L i:Nat)∧v11=.int .i64 i∧wr=w) (fun _ v11 _=>L.length - (intOf v11).toNat)
  case atStart=>exact ⟨0,by omega,by simp [flen],rfl,rfl⟩
  case round =>
    obtain ⟨i,hi,rfl,rfl,rfl⟩:=hrel
    by_cases hlt:i < L.length
    · obtain ⟨oa,cap,c0,hk⟩:=HL.out i hlt
      have hbi:=Hb.out (i+1)
      have hf:=flen_succ L i hlt
      have Hf:=Lib.hid hf
      rw [hf] at hbi
      have hlt':(i:Int) < L.length:=by omega
      have hi0:(0:Int)≤i:=by omega
      have hlen:=hk.len
      clear hf hk
      generalize hq:L[i]=q at *
      generalize hp:flen L i=p at *
      have Hq:=Lib.hid hq;have Hp:=Lib.hid hp
      clear hq hp
      go_wp2_with fail
      refine ⟨⟨i+1,by omega,?_,by go_num,trivial⟩,?_⟩
      · rw [Hf.out];go_num
      · simp [intOf];omega
    · have hie:i=L.length:=by omega
      subst hie
      obtain ⟨N,hN⟩:∃ N,N=flen L L.length:=⟨_,rfl⟩
      rw [← hN] at hn ⊢
      have HN:=Lib.hid hN
      clear hN
      go_wp2_with (first
        | (go_at_call 157;(with_reducible refine Calls.mono (growTrees_any _ _ hn) ?_);rintro e w1 ⟨⟨v,rfl,hr⟩,hb1⟩))
      obtain ⟨wo,hwo⟩:∃ wo,wo=wr:=⟨_,rfl⟩
      subst hwo
      have h0:OwnsX S wo wo.heap.size w1 v (L.take 0).flatten:=⟨[],by simpa using hr,by simp [Tvals]⟩
      have Hb1:=Lib.hid hb1
      clear hr hb1
      go_loopw [6,27] (fun v6 v27 wr=>∃ i:Nat,i≤L.length∧v27=.int .i64 i∧OwnsX S wo wo.heap.size wr v6 (L.take i).flatten∧Pr wo wr) (fun _ v27 _=>L.length - (intOf v27).toNat)
      case atStart=>exact ⟨0,by omega,rfl,h0,Hb1.out⟩
      case round =>
        obtain ⟨i,hi,rfl,hown,hp⟩:=hrel
        by_cases hlt:i < L.length
        · obtain ⟨oa,cap,c0,hk⟩:=HL.out i hlt
          have c0:=hp.cell c0
          have hbi:=Hb.out (i+1)
          rw [flen_succ L i hlt,← HN.out] at hbi
          have hfi:flen L i=(L.take i).flatten.length:=rfl
          rw [hfi] at hbi
          have hf:=flat_take L i hlt
          have Hf:=Lib.hid hf
          have hlt':(i:Int) < L.length:=by omega
          have hi0:(0:Int)≤i:=by omega
          have Hk:=Lib.hid hk
          have Ho:=Lib.hid hown
          have hps:=hp.size
          clear hf hk hown h0 hfi
          generalize hq:L[i]=q at *
          generalize hpp:(L.take i).flatten=p at *
          have Hq:=Lib.hid hq;have Hpp:=Lib.hid hpp
          clear hq hpp
          go_wp2_with (at_builtin;go_must (refine app_trees rfl _ _ rfl S wo wo.heap.size _ p rfl Ho.out q oa cap rfl Hk.out hp (by omega) hps ?_);intro v5 w5 ho5 hg5 hd5)
          refine ⟨⟨i+1,by omega,by go_num,by rw [Hf.out];exact ho5,Below.grown hp hg5 hps (fun k hk=>(Ho.out.block k hk).1)⟩,?_⟩
          simp [intOf];omega
        · have hie:i=L.length:=by omega
          subst hie
          rw [List.take_length] at hown
          obtain ⟨ob,cp,rfl,hk⟩:=hown.kids hp
          go_wp2_with fail
          go_ret
          exact ⟨⟨ob,cp,by rw [HN.out,flen_all];rfl,hk⟩,hp⟩
end Mrk
end Go.Proofs.YtdbnfhpgmcjngabGreatDoor
/- Marks, plain: what is marked, listed and done. No program here. -/
namespace Go.Proofs.YtdbnfhpgmcjngabGreatDoor
mutual
def Form:Tr→Mk→Prop
  | .node _ ks,.node _ ms=>FormL ks ms
def FormL:List Tr→List Mk→Prop
  | [],[]=>True
  | k :: ks,m :: ms=>Form k m∧FormL ks ms
  | [],_ :: _=>False
  | _ :: _,[]=>False
end
theorem Form.node {l:ByteArray} {ks:List Tr} {s:Int} {ms:List Mk}:Form (.node l ks) (.node s ms)↔FormL ks ms:=Iff.rfl
theorem FormL.length:∀ {ks:List Tr} {ms:List Mk},FormL ks ms→ks.length=ms.length
  | [],[],_=>rfl
  | _ :: _,_ :: _,h=>by have:=FormL.length h.2;simp [this]
theorem FormL.get:∀ {ks:List Tr} {ms:List Mk},FormL ks ms→∀ (i:Nat) (h:i < ks.length) (h2:i < ms.length),Form ks[i] ms[i]
  | _ :: _,_ :: _,h,0,_,_=>h.1
  | _ :: _,_ :: _,h,i+1,h1,h2=>FormL.get h.2 i (by simpa using h1) (by simpa using h2)
theorem FormL.append:∀ {ks:List Tr} {ms:List Mk} {ks':List Tr} {ms':List Mk},FormL ks ms→FormL ks' ms'→FormL (ks ++ ks') (ms ++ ms')
  | [],[],_,_,_,h=>h
  | _ :: _,_ :: _,_,_,h,h'=>⟨h.1,FormL.append h.2 h'⟩
theorem FormL.one {t:Tr} {m:Mk} (h:Form t m):FormL [t] [m]:=⟨h,trivial⟩
theorem FormL.take:∀ {ks:List Tr} {ms:List Mk},FormL ks ms→∀ n,FormL (ks.take n) (ms.take n)
  | [],[],_,_=>by simp [FormL]
  | _ :: _,_ :: _,_,0=>trivial
  | _ :: _,_ :: _,h,n+1=>⟨h.1,h.2.take n⟩
theorem FormL.drop:∀ {ks:List Tr} {ms:List Mk},FormL ks ms→∀ n,FormL (ks.drop n) (ms.drop n)
  | [],[],_,_=>by simp [FormL]
  | _ :: _,_ :: _,h,0=>h
  | _ :: _,_ :: _,h,n+1=>h.2.drop n
theorem FormL.set:∀ {ks:List Tr} {ms:List Mk},FormL ks ms→∀ (n:Nat) {t:Tr} {m:Mk},Form t m→FormL (ks.set n t) (ms.set n m)
  | [],[],_,_,_,_,_=>trivial
  | _ :: _,_ :: _,h,0,_,_,hf=>⟨hf,h.2⟩
  | _ :: _,_ :: _,h,n+1,_,_,hf=>⟨h.1,h.2.set n hf⟩
mutual
def markP (s:Int):Tr→Mk
  | .node _ ks=>.node s (markL s ks)
def markL (s:Int):List Tr→List Mk
  | []=>[]
  | k :: ks=>markP s k :: markL s ks
end
theorem markL_length (s:Int):∀ ks,(markL s ks).length=ks.length
  | []=>rfl
  | k :: ks=>by simp [markL,markL_length s ks]
theorem markL_append (s:Int):∀ ks js,markL s (ks ++ js)=markL s ks ++ markL s js
  | [],_=>rfl
  | k :: ks,js=>by simp [markL,markL_append s ks js]
mutual
theorem markP_form (s:Int):∀ t,Form t (markP s t)
  | .node _ ks=>by simp only [markP];exact markL_form s ks
theorem markL_form (s:Int):∀ ks,FormL ks (markL s ks)
  | []=>trivial
  | k :: ks=>⟨markP_form s k,markL_form s ks⟩
end
mutual
def listM:Mk→List Int
  | .node s ms=>listL ms ++ [s]
def listL:List Mk→List Int
  | []=>[]
  | m :: ms=>listM m ++ listL ms
end
theorem listM_node (s:Int) (ms:List Mk):listM (.node s ms)=listL ms ++ [s]:=by rw [listM]
theorem listL_append:∀ (ms us:List Mk),listL (ms ++ us)=listL ms ++ listL us
  | [],_=>by simp [listL]
  | m :: ms,us=>by simp [listL,listL_append ms us]
theorem listL_succ (ms:List Mk) (k:Nat) (h:k < ms.length):listL (ms.take (k+1))=listL (ms.take k) ++ listM ms[k]:=by
  rw [List.take_succ_eq_append_getElem h,listL_append];simp [listL]
theorem listL_take_le (ms:List Mk) (k:Nat):(listL (ms.take k)).length≤(listL ms).length:=by
  have h:listL ms=listL (ms.take k) ++ listL (ms.drop k):=by rw [← listL_append,List.take_append_drop]
  rw [h,List.length_append];omega
theorem listM_pos (m:Mk):0 < (listM m).length:=by cases m with | node s ms=>rw [listM];simp
theorem listL_many:∀ ms:List Mk,ms.length≤(listL ms).length
  | []=>by simp
  | m :: ms=>by have:=listL_many ms;have:=listM_pos m;simp only [listL,List.length_cons,List.length_append];omega
mutual
theorem Form.list:∀ {t:Tr} {m:Mk},Form t m→(listM m).length=t.sz
  | .node _ ks,.node _ ms,h=>by rw [listM,List.length_append,FormL.list h,Tr.sz_node];simp
theorem FormL.list:∀ {ks:List Tr} {ms:List Mk},FormL ks ms→(listL ms).length=Tr.szL ks
  | [],[],_=>by simp [listL,Tr.szL]
  | _ :: _,_ :: _,h=>by rw [listL,List.length_append,Form.list h.1,FormL.list h.2,Tr.szL]
end
def Mk.kids:Mk→List Mk | .node _ ms=>ms
def kidM (ms:List Mk) (k:Int):Mk:=ms.getD k.toNat (.node 0 [])
def doM (d:Dee) (now:Int):List Int→Mk→Mk
  | [],.node s ms=>if d.kind=3 then .node s (ms.take d.pos.toNat ++ [.node now ((ms.drop d.pos.toNat).take d.many.toNat)] ++ ms.drop (d.pos.toNat+d.many.toNat)) else .node s ms
  | k :: p,.node s ms=>if d.kind=2∧p=[] then .node s (ms.take k.toNat ++ (kidM ms k).kids ++ ms.drop (k.toNat+1))
    else .node s (ms.set k.toNat (doM d now p (kidM ms k)))
def okM (d:Dee):List Int→Mk→Prop
  | [],.node _ ms=>ms.length≤1000∧d.kind≠2∧(d.kind=3→0≤d.pos∧0≤d.many∧d.pos+d.many≤ms.length)
  | k :: p,.node _ ms=>ms.length≤1000∧(kidM ms k).kids.length≤1000∧(0≤k∧k < ms.length)∧(¬ (d.kind=2∧p=[])→okM d p (kidM ms k))
theorem FormL.kid {ks:List Tr} {ms:List Mk} (h:FormL ks ms) {k:Int} (h0:0≤k) (hk:k < ks.length):Form (kidN ks k) (kidM ms k):=by
  obtain ⟨n,rfl⟩:=Int.eq_ofNat_of_zero_le h0
  have hn:n < ks.length:=by omega
  have hm:n < ms.length:=by rw [← h.length];exact hn
  rw [kidN_in ks n hn]
  simpa [kidM,hm] using h.get n hn hm
theorem Form.kids {t:Tr} {m:Mk} (h:Form t m):FormL t.kids m.kids:=by
  cases t with | node l ks=>cases m with | node s ms=>exact h
theorem kid_sz {ks:List Tr} {k:Int} (h0:0≤k) (hk:k < ks.length):(kidN ks k).sz≤Tr.szL ks:=by
  obtain ⟨n,rfl⟩:=Int.eq_ofNat_of_zero_le h0
  rw [kidN_in ks n (by omega)]
  exact Tr.szL_get ks n (by omega)
theorem kids_szM (t:Tr):t.kids.length≤t.sz:=by
  cases t with | node l ks=>have:=Tr.length_le ks;rw [Tr.sz_node];show ks.length≤_;omega
theorem form_do (d:Dee) (now:Int) (hp0:0≤d.pos) (hm0:0≤d.many) (hk1:1≤d.kind∧d.kind≤3):∀ (p:List Int) (t:Tr) (m:Mk),(∀ x∈p,0≤x)→(d.kind=2→p≠[])→t.sz≤1000→Form t m→(doneT d p t).2=0 →
    okM d p m∧Form (doneT d p t).1 (doM d now p m)
  | [],.node l ks,.node s ms,_,h2,hs,hf,hd=>by
    have hk2:d.kind≠2:=fun e=>h2 e rfl
    have hl:=FormL.length hf
    have hsz:=Tr.length_le ks
    rw [Tr.sz_node] at hs
    simp only [doneT,okM,doM] at hd ⊢
    rw [leafT_node] at hd ⊢
    by_cases h1:d.kind=1
    · rw [if_pos h1,if_neg (by omega)]
      exact ⟨⟨by omega,hk2,fun h=>by omega⟩,hf⟩
    · rw [if_neg h1,if_neg hk2] at hd ⊢
      rw [if_pos (by omega:d.kind=3)]
      by_cases hr:(ks.length:Int) < d.pos∨(ks.length:Int) - d.pos < d.many
      · rw [if_pos hr] at hd;cases hd
      · rw [if_neg hr]
        refine ⟨⟨by omega,hk2,fun _=>⟨hp0,hm0,by omega⟩⟩,?_⟩
        exact ((FormL.take hf _).append (FormL.one (Form.node.2 ((FormL.drop hf _).take _)))).append (FormL.drop hf _)
  | k :: p,.node l ks,.node s ms,hp,h2,hs,hf,hd=>by
    have h0:0≤k:=hp k (by simp)
    have hl:=FormL.length hf
    have hsz:=Tr.length_le ks
    rw [Tr.sz_node] at hs
    rw [doneT_node] at hd ⊢
    simp only [okM,doM]
    by_cases hc:d.kind=2∧p=[]
    · rw [if_pos hc] at hd ⊢
      rw [if_pos hc]
      rw [leafT_node,if_neg (by omega),if_pos hc.1] at hd ⊢
      by_cases hk:(ks.length:Int)≤k
      · rw [if_pos hk] at hd;cases hd
      · rw [if_neg hk]
        have hkd:=FormL.kid hf h0 (by omega)
        have h3:=kid_sz h0 (by omega:k < ks.length)
        have h4:=kids_szM (kidN ks k)
        have h5:=hkd.kids.length
        exact ⟨⟨by omega,by omega,⟨h0,by omega⟩,fun h=>absurd hc h⟩,((FormL.take hf _).append hkd.kids).append (FormL.drop hf _)⟩
    · rw [if_neg hc] at hd ⊢
      rw [if_neg hc]
      by_cases hk:(ks.length:Int)≤k
      · rw [if_pos hk] at hd;cases hd
      · rw [if_neg hk] at hd ⊢
        have hkd:=FormL.kid hf h0 (by omega)
        have h3:=kid_sz h0 (by omega:k < ks.length)
        have h4:=kids_szM (kidN ks k)
        have h5:=hkd.kids.length
        obtain ⟨g1,g2⟩:=form_do d now hp0 hm0 hk1 p _ _ (fun x hx=>hp x (by simp [hx])) (fun e hpn=>hc ⟨e,hpn⟩) (by omega) hkd hd
        exact ⟨⟨by omega,by omega,⟨h0,by omega⟩,fun _=>g1⟩,FormL.set hf _ g2⟩
def doMs (now:Int):List Dee→Mk→Mk
  | [],m=>m
  | d :: ds,m=>doMs now ds (doM d now d.path m)
theorem doMs_snoc (now:Int) (d:Dee):∀ (ds:List Dee) (m:Mk),doMs now (ds ++ [d]) m=doM d now d.path (doMs now ds m)
  | [],_=>rfl
  | _ :: ds,_=>doMs_snoc now d ds _
end Go.Proofs.YtdbnfhpgmcjngabGreatDoor
/- Walks: marks: marked, list. -/
namespace Go.Proofs.YtdbnfhpgmcjngabGreatDoor
open Go Go.RowKit
def MarkPost (w:World) (s:Int) (ks:List Tr) (e:Ending) (w':World):Prop :=
  ∃ oa cap,e=.returned (.agg #[.int .i64 s,.slice oa (markL s ks).length cap])∧Mrk.Kids (From w.heap.size) w' (markL s ks) oa cap∧Pr w w'
theorem mapart_new {w:World} {b:Nat} {v:Value} {ms:List Mk} (hown:Mrk.OwnsTs b w v ms) (hb:b≤w.heap.size) {n:Nat}:∀ k,From w.heap.size k→k < n→Apart b v k:=by
  intro k hk _
  have hk':w.heap.size≤k:=hk
  refine ⟨by omega,fun e=>?_⟩
  have:=(hown.block k e).2
  omega
set_option maxHeartbeats 1600000 in
theorem marked_step (s : Int) (N : Nat) : ∀ (l : ByteArray) (ks : List Tr) (oa cap) (w : World), Tr.szL ks < N → Tr.szL ks ≤ 1000000 → Kids Any w ks oa cap →
      Calls Tryz.prog 113 #[.agg #[.string l,.slice oa ks.length cap],.int .i64 s] w (MarkPost w s ks):=by
  induction N with
  | zero=>intro l ks oa cap w hN;omega
  | succ N ih =>
    have Ih:=Lib.hid ih;clear ih
    intro l ks oa cap w hN hsm hk
    have hm:=hk.len
    have hm2:=Tr.length_le ks
    go_enter Tryz.func113,Tryz.ntmps113
    go_wp2_with fail
    go_loopw [13] (fun i wr=>∃ (k:Nat) (v:Value),k≤ks.length∧i=.int .i64 k∧Mrk.OwnsTs (w.heap.size+1+1+1) wr v (markL s (ks.take k))∧wr.heap[w.heap.size+1+1]? = some (.cells #[.int .i64 s,v] 173 (0,0)) ∧
      Pr ((w.alloc (.cells #[.string l,.slice oa ks.length cap] 46)).alloc (.cells #[.int .i64 0,.slice none 0 0] 173)) wr) (fun i _=>ks.length - (intOf i).toNat)
    case atStart=>exact ⟨0,.slice none 0 0,by omega,rfl,by simpa [markL] using Mrk.OwnsTs.nil _ _,by simpa using heap_alloc_new ((w.alloc (.cells #[.string l,.slice oa ks.length cap] 46)).alloc (.cells #[.int .i64 0,.slice none 0 0] 173)) (.cells #[.int .i64 s,.slice none 0 0] 173),Pr.alloc _ _⟩
    case round =>
      obtain ⟨k,v,hkl,rfl,hown,hblk,hb⟩:=hrel
      have hbs:=hb.size
      simp at hbs
      have g1:wr.cell? ⟨w.heap.size+1+1,1,none⟩=some v:=blk_cell hblk
      have g1':∀ o,(wr.alloc o).cell? ⟨w.heap.size+1+1,1,none⟩=some v:=fun o=>(Pr.alloc _ o).cell g1
      have g2:wr.frozen? ⟨w.heap.size+1+1,1,none⟩=false:=blk_frozen hblk
      have g3:=blk_lt hblk
      by_cases hlt:k < ks.length
      · obtain ⟨b,o,l',ks',oa',cap',e1,hl',rfl,c0,c1,hk'⟩:=((hk.pr (Pr.alloc' (Pr.alloc _ _) _)).pr hb).get k hlt
        have hsz:=Tr.szL_get ks k hlt
        have hsn:=List.take_succ_eq_append_getElem hlt
        rw [e1] at hsz hsn
        have hmn:markL s (ks.take (k+1))=markL s (ks.take k) ++ [.node s (markL s ks')]:=by rw [hsn,markL_append];simp [markL,markP]
        have Hsn:=Lib.hid hmn
        clear e1 hsn hmn
        simp only [Tr.sz] at hsz
        have htl:(markL s (ks.take k)).length≤1000000:=by rw [markL_length,List.length_take];omega
        have htk:(markL s (ks.take k)).length=k:=by rw [markL_length,List.length_take];omega
        have Htk:=Lib.hid htk;clear htk
        have Hbk:=Lib.hid hblk
        clear hblk
        generalize markL s (ks.take k)=M at *
        go_wp2_with fail
        go_region_law (first
            | (go_simp;go_at_call 113;refine (Ih.out _ _ _ _ _ (by omega) (by omega) (hk'.pr (Pr.drew' (Pr.alloc _ _)))).mono ?_;rintro e w1 ⟨oa2,cap2,rfl,hk2,hb1⟩
               have s1:=hb1.cell ((Pr.drew' (Pr.alloc _ _)).cell g1);have s1':=fun o=>(Pr.alloc w1 o).cell s1;have s2:=hb1.cell (b:=wr.heap.size) (o:=0) (v:=.string l') (by simp [go_sem]);have s3:=hb1.cell (b:=wr.heap.size) (o:=1) (v:=.slice oa' ks'.length cap') (by simp [go_sem]))
            | (refine Mrk.step_tree rfl _ _ rfl (w.heap.size+1+1+1) v M rfl (((hown.pr (Pr.drew' (Pr.alloc _ _))).pr hb1).pr (Pr.alloc _ _)) w1.heap.size rfl (.node s (markL s ks')) _ _ (heap_alloc_new w1 _) (Mrk.treeV_mk cap2 trivial ((hk2.pr (Pr.alloc _ _)).mono (mapart_new (hown.pr (Pr.drew' (Pr.alloc _ _))) (by simp;omega)))) (by omega) (by have:=hb1.size;simp at this ⊢;omega) ?_;intro g cap3 w2 ho2 hg2 hat2
               have n1:v.ownBlock≠some (w.heap.size+1+1):=fun e=>by have:=(hown.block _ e).1;omega
               have n2:v.ownBlock≠some wr.heap.size:=fun e=>by have:=(hown.block _ e).2;omega
               have B2:=Lib.hid (grown_blk hg2 ((Pr.alloc w1 _).blk (hb1.blk ((Pr.drew' (Pr.alloc _ _)).blk Hbk.out))) n1)
               have t1:w2.cell? ⟨w.heap.size+1+1,1,none⟩=some v:=blk_cell (o:=1) B2.out;have t2:=hg2.cell ((Pr.alloc w1 _).cell s2) (fun e=>n2 e.symm);have t3:=hg2.cell ((Pr.alloc w1 _).cell s3) (fun e=>n2 e.symm);have t4:=blk_frozen (o:=1) B2.out))
        all_goals
          go_wp2_with fail
          rw [Htk.out] at ho2
          refine ⟨⟨k+1,.slice (some ⟨g,0,none⟩) (k+1) cap3,by omega,by go_num,?_,by rw [Htk.out];exact blk_set B2.out _,?_⟩,?_⟩
          · rw [Hsn.out,Htk.out];exact ho2.setCell _ _ (by simp)
          · refine Pr.setCell (Below.grown (((hb.trans ((Pr.alloc _ _).drew')).trans hb1).alloc' _) hg2 ?_ ?_) (by simp) _
            · have:=hb1.size;simp at this ⊢;omega
            · intro k' hk';have:=(hown.block k' hk').1;simp;omega
          · simp [intOf];omega
      · have hkv:k=ks.length:=by omega
        have r0:=hb.cell (b:=w.heap.size+1) (o:=0) (v:=.int .i64 0) (by simp [go_sem])
        have r1:=hb.cell (b:=w.heap.size+1) (o:=1) (v:=.slice none 0 0) (by simp [go_sem])
        have f0:wr.frozen? ⟨w.heap.size+1,0,none⟩=false:=by rw [hb.frozen (by simp)];simp [go_sem]
        have f1:wr.frozen? ⟨w.heap.size+1,1,none⟩=false:=by rw [hb.frozen (by simp)];simp [go_sem]
        have g0:wr.cell? ⟨w.heap.size+1+1,0,none⟩=some (.int .i64 s):=blk_cell hblk
        have hkt:ks.take k=ks:=by rw [hkv,List.take_length]
        rw [hkt] at hown
        generalize hM:markL s ks=M at *
        have HM:=Lib.hid hM
        clear hM
        obtain ⟨oa2,cap2,rfl,hk2⟩:=hown.kids
        have Hbk:=Lib.hid hblk
        clear hblk hkt
        go_wp2_with fail
        have hM:=HM.out
        subst hM
        refine bodyPost_ret (v:=.agg #[.int .i64 s,.slice oa2 (markL s ks).length cap2]) (by simp [results,Tryz.results113,go_sem,r0,r1]) rfl ⟨oa2,cap2,rfl,?_,?_⟩
        · exact ((hk2.setCell _ _ (by simp;omega)).setCell _ _ (by simp;omega)).from (by omega)
        · exact ((((Pr.alloc _ _).trans ((Pr.alloc _ _).trans hb))).setCell (by simp) _).setCell (by simp) _
theorem marked_any (s:Int) (l:ByteArray) (ks:List Tr) (oa cap) (w:World) (h:Tr.szL ks≤1000000) (hk:Kids Any w ks oa cap) :
    Calls Tryz.prog 113 #[.agg #[.string l,.slice oa ks.length cap],.int .i64 s] w (MarkPost w s ks):=marked_step s _ l ks oa cap w (Nat.lt_succ_self _) h hk
def MListPost (base:Nat) (w:World) (v:Value) (xs:List Int) (m:Mk) (e:Ending) (w':World):Prop :=
  ∃ g cap,e=.returned (.slice (some ⟨g,0,none⟩) (xs.length+(listM m).length) cap)∧OwnsIs base w' (.slice (some ⟨g,0,none⟩) (xs.length+(listM m).length) cap) (xs ++ listM m)∧w.grownBy w' v.ownBlock∧(v.ownBlock=some g∨w.heap.size≤g)
theorem MKids.grown {B:Nat} {w w':World} {row:Option Nat} {ks:List Mk} {oa cap} (h:Mrk.Kids (fun k=>k < B) w ks oa cap) (hg:w.grownBy w' row) (hr:∀ k,row=some k→B≤k):Mrk.Kids (fun k=>k < B) w' ks oa cap :=
  h.carry fun k hk hl=>⟨hg.block k hl (fun e=>by have:=hr k e.symm;have hk':k < B:=hk;omega),hk⟩
set_option maxHeartbeats 1600000 in
theorem list_step (N:Nat):∀ (s:Int) (ms:List Mk) (oa cap) (v:Value) (xs:List Int) (base:Nat) (w:World),(listL ms).length < N→(listL ms).length+xs.length≤1000000→base≤w.heap.size→Mrk.Kids (fun k=>k < base) w ms oa cap→OwnsIs base w v xs →
    Calls Tryz.prog 115 #[.agg #[.int .i64 s,.slice oa ms.length cap],v] w (MListPost base w v xs (.node s ms)):=by
  induction N with
  | zero=>intro s ms oa cap v xs base w hN;omega
  | succ N ih =>
    have Ih:=Lib.hid ih;clear ih
    intro s ms oa cap v xs base w hN hsm hbase hk hv
    have hm:=hk.len
    have hm2:=listL_many ms
    obtain ⟨ov,cv,rfl,hv1,hv2,hv3⟩:=ownsRow_slice hv
    have hvb:=hv.block
    obtain ⟨W,hW⟩:∃ W,W=w.alloc (.cells #[.int .i64 s,.slice oa ms.length cap] 173):=⟨_,rfl⟩
    have hwW:Pr w W:=by rw [hW];exact Pr.alloc _ _
    have hWs:W.heap.size=w.heap.size+1:=by rw [hW];simp
    have hbox:W.heap[w.heap.size]? = some (.cells #[.int .i64 s,.slice oa ms.length cap] 173 (0,0)):=by rw [hW];exact heap_alloc_new w _
    have hkW:=hk.pr hwW
    have hvW:=hv.pr hwW
    generalize hvv:Value.slice ov xs.length cv=v0 at *
    have Hvv:=Lib.hid hvv
    clear hv hk hvv
    rw [← Hvv.out]
    go_enter Tryz.func115,Tryz.ntmps115
    go_upto_region 1 with fail
    rw [← hW,Hvv.out]
    clear hW
    have x0:W.cell? ⟨w.heap.size,0,none⟩=some (.int .i64 s):=blk_cell hbox
    have x1:W.cell? ⟨w.heap.size,1,none⟩=some (.slice oa ms.length cap):=blk_cell hbox
    go_wp2_with fail
    have hnb:v0.ownBlock≠some w.heap.size:=fun e=>by have:=(hvb _ e).2;omega
    clear x0 x1
    go_loopw [1,10] (fun v1 i wr=>∃ (k:Nat),k≤ms.length∧i=.int .i64 k∧OwnsIs base wr v1 (xs ++ listL (ms.take k)) ∧
      W.grownBy wr v0.ownBlock∧(∀ j,v1.ownBlock=some j→v0.ownBlock=some j∨w.heap.size+1≤j)) (fun _ i _=>ms.length - (intOf i).toNat)
    case atStart=>exact ⟨0,by omega,rfl,by simpa [listL] using hvW,(Pr.refl W).grownBy _,fun j hj=>.inl hj⟩
    case round =>
      obtain ⟨k,hkl,rfl,ho1,hg,hd1⟩:=hrel
      have hb0:=grown_blk hg hbox hnb
      have c0:wr.cell? ⟨w.heap.size,0,none⟩=some (.int .i64 s):=blk_cell hb0
      have c1:wr.cell? ⟨w.heap.size,1,none⟩=some (.slice oa ms.length cap):=blk_cell hb0
      have Hb0:=Lib.hid hb0
      clear hb0
      have htl:=listL_take_le ms k
      have hl1:(xs ++ listL (ms.take k)).length=xs.length+(listL (ms.take k)).length:=List.length_append
      have hkr:=MKids.grown hkW hg (fun j hj=>(hvb j hj).1)
      have hgs:=hg.size
      by_cases hlt:k < ms.length
      · obtain ⟨b,o,s',ks',oa',cap',e1,_,rfl,d0,d1,hk'⟩:=hkr.get k hlt
        have hs:=listL_succ ms k hlt
        have htl2:=listL_take_le ms (k+1)
        rw [e1] at hs
        have hlen:=congrArg List.length hs
        rw [List.length_append,listM_node,List.length_append,List.length_singleton] at hlen
        have Hs:=Lib.hid hs;have Hl1:=Lib.hid hl1
        clear e1 hs hl1
        go_wp2_with (go_at_call 115;(with_reducible refine Calls.mono (Ih.out s' ks' _ _ _ _ base _ (by omega) (by rw [Hl1.out];omega) (by simp;omega) (hk'.pr (Pr.alloc _ _)) (ho1.pr (Pr.alloc _ _))) ?_);rintro e w1 ⟨g3,c3,rfl,ho3,hg3,hd3⟩)
        refine ⟨⟨k+1,by omega,by go_num,?_,?_,?_⟩,?_⟩
        · rw [Hs.out,← List.append_assoc];rw [Hl1.out] at ho3;exact ho3
        · refine grown_trans (grown_pr hg (Pr.alloc _ _)) hg3 (fun j hj=>?_)
          rcases hd1 j hj with h | h
          · exact .inl h
          · exact .inr (by omega)
        · intro j hj
          cases hj
          rcases hd3 with h | h
          · exact hd1 g3 h
          · refine .inr ?_
            show w.heap.size+1≤g3
            simp at h;omega
        · simp [intOf];omega
      · have hkv:k=ms.length:=by omega
        rw [hkv,List.take_length] at ho1 hl1
        have Hl1:=Lib.hid hl1
        have hvb1:=ho1.block
        clear hl1
        go_wp2_with (at_builtin;go_must (refine app_int rfl _ _ rfl base _ _ rfl (ho1.pr (Pr.alloc _ _)) wr.heap.size rfl _ (heap_alloc_new wr _) (by rw [Hl1.out];omega) (by simp;omega) ?_);intro g4 c4 w2 ho4 hg4 hd4)
        go_ret
        have hA:w.grownBy wr v0.ownBlock:=grown_trans (hwW.grownBy v0.ownBlock) hg (fun j hj=>.inl hj)
        refine ⟨g4,c4,by rw [listM_node,List.length_append,List.length_singleton,← Nat.add_assoc];rfl,?_,?_,?_⟩
        · rw [listM_node,← List.append_assoc]
          have h:=Hl1.out
          rw [h] at ho4
          simpa [Nat.add_assoc] using ho4
        · rw [Hvv.out]
          refine grown_trans (grown_pr hA (Pr.alloc _ _)) hg4 (fun j hj=>?_)
          rcases hd1 j hj with h | h
          · exact .inl h
          · exact .inr (by omega)
        · rw [Hvv.out]
          rcases hd4 with h | h
          · rcases hd1 g4 h with h | h
            · exact .inl h
            · exact .inr (by omega)
          · simp at h;exact .inr (by omega)
theorem list_any (s:Int) (ms:List Mk) (oa cap) (w:World) (h:(listL ms).length≤100000) (hk:Mrk.Kids Any w ms oa cap) :
    Calls Tryz.prog 115 #[.agg #[.int .i64 s,.slice oa ms.length cap],.slice none 0 0] w fun e w'=>∃ o c,e=.returned (.slice o (listM (.node s ms)).length c)∧Ints (From w.heap.size) w' (listM (.node s ms)) o c∧Pr w w':=by
  refine (list_step _ s ms oa cap (.slice none 0 0) [] w.heap.size w (Nat.lt_succ_self _) (by simp;omega) (Nat.le_refl _) (hk.carry fun k _ hl=>⟨rfl,hl⟩) (OwnsIs.nil _ _)).mono ?_
  rintro e w' ⟨g,c,rfl,ho,hg,_⟩
  simp only [List.length_nil,Nat.zero_add,List.nil_append] at ho ⊢
  obtain ⟨oa',cap',e,hi⟩:=ho.ints
  rw [Value.slice.injEq] at e
  obtain ⟨e1,_,e3⟩:=e
  rw [e1,e3]
  exact ⟨_,_,rfl,hi,grown_none hg⟩
end Go.Proofs.YtdbnfhpgmcjngabGreatDoor
