/- Deeds in memory: slices that may be read, and slices of one's own. -/
import Derived.Test.YtdbnfhpgmcjngabGreatDoorBma
import Derived.Test.YtdbnfhpgmcjngabGreatDoorBqt
import Derived.Test.YtdbnfhpgmcjngabGreatDoorBpl
import Derived.Shelf.SlicesQ.Reverse
import Derived.Ground.SlgnProg
namespace Go.Proofs.YtdbnfhpgmcjngabGreatDoor
open Go Go.RowKit
def DeeV (S:Nat→Prop) (w:World) (d:Dee) (vs:List Value):Prop:=∃ pa pc,vs=[.int .i64 d.kind,.slice pa d.path.length pc,.int .i64 d.pos,.int .i64 d.many,.string d.lab]∧Ints S w d.path pa pc∧d.lab.size≤maxLen
theorem DeeV.carry {S S':Nat→Prop} {w w':World} (hk:∀ k,S k→k < w.heap.size→w'.heap[k]? = w.heap[k]? ∧ S' k) {d:Dee} {vs} (h:DeeV S w d vs):DeeV S' w' d vs:=by
  obtain ⟨pa,pc,h1,h2,h3⟩:=h
  exact ⟨pa,pc,h1,Flat.carry hk h2,h3⟩
theorem DeeV.pr {S:Nat→Prop} {w w':World} (hp:Pr w w') {d:Dee} {vs} (h:DeeV S w d vs):DeeV S w' d vs:=h.carry fun k hS hl=>⟨hp.kept S k hS hl,hS⟩
theorem DeeV.any {S:Nat→Prop} {w:World} {d:Dee} {vs} (h:DeeV S w d vs):DeeV Any w d vs:=h.carry fun _ _ _=>⟨rfl,trivial⟩
theorem DeeV.len {S:Nat→Prop} {w:World} {d:Dee} {vs} (h:DeeV S w d vs):vs.length=5:=by obtain ⟨_,_,rfl,_⟩:=h;rfl
theorem DeeV.one {S:Nat→Prop} {w:World} {d:Dee} {vs} (h:DeeV S w d vs):∀ u∈vs,u.oneCell'=true:=by
  obtain ⟨_,_,rfl,_⟩:=h
  intro u hu
  simp at hu
  rcases hu with rfl | rfl | rfl | rfl | rfl <;> rfl
def Dvals (S:Nat→Prop) (w:World):List Dee→List Value→Prop
  | [],xs=>xs=[]
  | d :: ds,xs=>∃ vs ys,xs=vs ++ ys∧DeeV S w d vs∧Dvals S w ds ys
theorem Dvals.carry {S S':Nat→Prop} {w w':World} (hk:∀ k,S k→k < w.heap.size→w'.heap[k]? = w.heap[k]? ∧ S' k):∀ {ds:List Dee} {xs},Dvals S w ds xs→Dvals S' w' ds xs
  | [],_,h=>h
  | _ :: _,_,⟨vs,ys,h1,h2,h3⟩=>⟨vs,ys,h1,h2.carry hk,h3.carry hk⟩
theorem Dvals.append {S:Nat→Prop} {w:World} {us:List Dee} {zs:List Value} (h:Dvals S w us zs):∀ {ds:List Dee} {xs},Dvals S w ds xs→Dvals S w (ds ++ us) (xs ++ zs)
  | [],_,e=>by subst e;exact h
  | _ :: _,_,⟨vs,ys,h1,h2,h3⟩=>by subst h1;exact ⟨vs,ys ++ zs,by rw [List.append_assoc],h2,Dvals.append h h3⟩
theorem Dvals.length {S:Nat→Prop} {w:World}:∀ {ds:List Dee} {xs},Dvals S w ds xs→xs.length=ds.length * 5
  | [],_,e=>by subst e;rfl
  | _ :: _,_,⟨vs,ys,h1,h2,h3⟩=>by subst h1;have:=h3.length;have:=h2.len;simp;omega
theorem Dvals.one {S:Nat→Prop} {w:World}:∀ {ds:List Dee} {xs},Dvals S w ds xs→∀ u∈xs,u.oneCell'=true
  | [],_,e=>by subst e;intro u hu;cases hu
  | _ :: _,_,⟨vs,ys,h1,h2,h3⟩=>by
    subst h1;intro u hu
    rcases List.mem_append.1 hu with hu | hu
    · exact h2.one u hu
    · exact h3.one u hu
def Dees (S:Nat→Prop) (w:World) (ds:List Dee) (oa:Option Addr) (cap:Nat):Prop:=(ds.length≤cap∧cap≤maxLen)∧∃ b o,(ds≠[]→oa=some ⟨b,o,none⟩∧S b) ∧
  ∀ (i:Nat) (_:i < ds.length),∃ vs,DeeV S w ds[i] vs∧∀ j u,vs[j]? = some u→w.cell? ⟨b,o+i * 5+j,none⟩=some u
theorem Dees.carry {S S':Nat→Prop} {w w':World} (hk:∀ k,S k→k < w.heap.size→w'.heap[k]? = w.heap[k]? ∧ S' k) {ds:List Dee} {oa cap} (h:Dees S w ds oa cap):Dees S' w' ds oa cap:=by
  obtain ⟨hc,b,o,h1,h2⟩:=h
  have hb:∀ i (h:i < ds.length),S b∧b < w.heap.size:=fun i h=>by
    refine ⟨(h1 (by intro e;subst e;simp at h)).2,?_⟩
    obtain ⟨vs,hv,hx⟩:=h2 i h
    obtain ⟨pa,pc,rfl,_⟩:=hv
    exact lt_of_cell (hx 0 _ rfl)
  refine ⟨hc,b,o,fun hn=>?_,fun i h=>?_⟩
  · have:=hb 0 (List.length_pos_iff.2 hn);exact ⟨(h1 hn).1,(hk b this.1 this.2).2⟩
  · have hb':=hb i h
    obtain ⟨vs,hv,hx⟩:=h2 i h
    exact ⟨vs,hv.carry hk,fun j u hu=>by rw [World.cell?_of_block (hk b hb'.1 hb'.2).1];exact hx j u hu⟩
theorem Dees.pr {S:Nat→Prop} {w w':World} (hp:Pr w w') {ds:List Dee} {oa cap} (h:Dees S w ds oa cap):Dees S w' ds oa cap:=h.carry fun k hS hl=>⟨hp.kept S k hS hl,hS⟩
theorem Dees.any {S:Nat→Prop} {w:World} {ds:List Dee} {oa cap} (h:Dees S w ds oa cap):Dees Any w ds oa cap:=h.carry fun _ _ _=>⟨rfl,trivial⟩
theorem Dees.mono {S S':Nat→Prop} {w:World} (h:∀ k,S k→k < w.heap.size→S' k) {ds:List Dee} {oa cap} (hk:Dees S w ds oa cap):Dees S' w ds oa cap:=hk.carry fun k hS hl=>⟨rfl,h k hS hl⟩
theorem Dees.nil (S:Nat→Prop) (w:World) (oa:Option Addr) (cap:Nat) (h:cap≤maxLen):Dees S w [] oa cap:=⟨⟨Nat.zero_le _,h⟩,0,0,fun h=>absurd rfl h,fun _ h=>absurd h (Nat.not_lt_zero _)⟩
theorem Dees.len {S:Nat→Prop} {w:World} {ds:List Dee} {oa cap} (h:Dees S w ds oa cap):ds.length≤9223372036854775807:=by have:=h.1;unfold maxLen at this;omega
theorem Dees.get {S:Nat→Prop} {w:World} {ds:List Dee} {oa cap} (h:Dees S w ds oa cap) (i:Nat) (hi:i < ds.length):∃ b o pa pc,oa=some ⟨b,o,none⟩ ∧
    w.cell? ⟨b,o+i * 5,none⟩=some (.int .i64 ds[i].kind)∧w.cell? ⟨b,o+i * 5+1,none⟩=some (.slice pa ds[i].path.length pc)∧w.cell? ⟨b,o+i * 5+2,none⟩=some (.int .i64 ds[i].pos) ∧
    w.cell? ⟨b,o+i * 5+3,none⟩=some (.int .i64 ds[i].many)∧w.cell? ⟨b,o+i * 5+4,none⟩=some (.string ds[i].lab)∧Ints S w ds[i].path pa pc∧ds[i].lab.size≤maxLen:=by
  obtain ⟨_,b,o,h1,h2⟩:=h
  obtain ⟨vs,⟨pa,pc,rfl,hp,hl⟩,hx⟩:=h2 i hi
  exact ⟨b,o,pa,pc,(h1 (by intro e;subst e;simp at hi)).1,hx 0 _ rfl,hx 1 _ rfl,hx 2 _ rfl,hx 3 _ rfl,hx 4 _ rfl,hp,hl⟩
theorem Dvals.get {S:Nat→Prop} {w:World}:∀ {ds:List Dee} {xs},Dvals S w ds xs→∀ (i:Nat) (h:i < ds.length),∃ vs,DeeV S w ds[i] vs∧∀ j u,vs[j]? = some u→xs[i * 5+j]? = some u
  | d :: ds,xs,⟨vs,ys,h1,h2,h3⟩,0,h=>by
    subst h1
    refine ⟨vs,h2,fun j u hu=>?_⟩
    rw [Nat.zero_mul,Nat.zero_add,List.getElem?_append_left (List.getElem?_eq_some_iff.1 hu).1];exact hu
  | d :: ds,xs,⟨vs,ys,h1,h2,h3⟩,i+1,h=>by
    subst h1
    obtain ⟨us,g1,g2⟩:=h3.get i (by simpa using h)
    refine ⟨us,g1,fun j u hu=>?_⟩
    have:=h2.len
    rw [List.getElem?_append_right (by omega),show (i+1) * 5+j - vs.length=i * 5+j by omega];exact g2 j u hu
theorem under_deeds:Tryz.prog.underlying 106=some (.slice 72):=by kernel_rfl
theorem info_deed:(Tryz.prog.info? 72).map (fun i=>(i.zero,i.size,i.bytes))=some (some (.agg #[.int .i64 0,.slice none 0 0,.int .i64 0,.int .i64 0,.string ⟨#[]⟩]),5,64):=by kernel_rfl
def OwnsDs (base:Nat) (w:World) (v:Value) (ds:List Dee):Prop:=∃ xs,w.ownsRow base 72 5 v ds.length xs∧Dvals (Apart base v) w ds xs
theorem OwnsDs.nil (base:Nat) (w:World):OwnsDs base w (.slice none 0 0) []:=⟨[],World.ownsRow_nil _ _ _ _,rfl⟩
theorem OwnsDs.mono {b b':Nat} {w:World} {v:Value} {ds:List Dee} (h:OwnsDs b w v ds) (hb:b'≤b):OwnsDs b' w v ds:=by
  obtain ⟨xs,h1,h2⟩:=h
  exact ⟨xs,ownsRow_mono h1 hb,h2.carry fun k hk _=>⟨rfl,by have:=hk.1;omega,hk.2⟩⟩
theorem OwnsDs.kept {b:Nat} {w w':World} {v:Value} {ds:List Dee} (h:OwnsDs b w v ds) (hk:Kept (From b) w w'):OwnsDs b w' v ds:=by
  obtain ⟨xs,h1,h2⟩:=h
  refine ⟨xs,⟨h1.1,?_⟩,h2.carry fun k hS hl=>⟨hk k hS.1 hl,hS⟩⟩
  rcases h1.2 with h | ⟨g,cap,cur,e1,e2,e3,e4⟩
  · exact .inl h
  · refine .inr ⟨g,cap,cur,e1,e2,?_,e4⟩
    rw [hk g e2 (Array.getElem?_eq_some_iff.1 e3).1];exact e3
theorem OwnsDs.pr {b:Nat} {w w':World} {v:Value} {ds:List Dee} (h:OwnsDs b w v ds) (hk:Pr w w'):OwnsDs b w' v ds:=h.kept (hk.kept _)
theorem OwnsDs.block {b:Nat} {w:World} {v:Value} {ds:List Dee} (h:OwnsDs b w v ds):∀ k,v.ownBlock=some k→b≤k∧k < w.heap.size:=by
  obtain ⟨xs,h1,_⟩:=h;exact h1.lt
theorem OwnsDs.setCell {b:Nat} {w:World} {v:Value} {ds:List Dee} (h:OwnsDs b w v ds) (a:Addr) (u:Value) (ha:a.block < b):OwnsDs b (w.setCell a u) v ds :=
  h.kept (kept_setCell _ w a u (by show ¬ b≤a.block;omega))
theorem OwnsDs.dees {b:Nat} {w:World} {v:Value} {ds:List Dee} (h:OwnsDs b w v ds):∃ oa cap,v=.slice oa ds.length cap∧Dees (From b) w ds oa cap:=by
  obtain ⟨xs,ho,h2⟩:=h
  rcases ho.2 with ⟨rfl,hn⟩ | ⟨g,cap,cur,rfl,hb,hg,hnc,hcm,_⟩
  · have:ds=[]:=List.eq_nil_of_length_eq_zero hn
    subst this
    exact ⟨none,0,rfl,Dees.nil _ _ _ _ (Nat.zero_le _)⟩
  · refine ⟨_,cap,rfl,⟨hnc,hcm⟩,g,0,fun _=>⟨rfl,hb⟩,fun i hi=>?_⟩
    obtain ⟨vs,g1,g2⟩:=h2.get i hi
    refine ⟨vs,g1.carry fun k hS _=>⟨rfl,hS.1⟩,fun j u hu=>?_⟩
    have:=ho.cells (g:=g) rfl (i * 5+j) u (g2 j u hu)
    rw [Addr.add_lit] at this
    rw [show 0+i * 5+j=0+(i * 5+j) by omega];exact this
theorem OwnsDs.grown {b:Nat} {w w':World} {v v':Value} {ds us:List Dee} {xs ys:List Value} (h1:Dvals (Apart b v) w ds xs) (h2:Dvals (Apart b v) w us ys)
    (ho:w'.ownsRow b 72 5 v' (ds.length+us.length) (xs ++ ys)) (hg:w.grownBy w' v.ownBlock) (hat:∀ k,v'.ownBlock=some k→v.ownBlock=some k∨k=w.heap.size):OwnsDs b w' v' (ds ++ us):=by
  refine ⟨xs ++ ys,by rw [List.length_append];exact ho,?_⟩
  refine (Dvals.append h2 h1).carry fun k hS hl=>⟨hg.block k hl (fun e=>hS.2 e.symm),hS.1,fun e=>?_⟩
  rcases hat k e with h | h
  · exact hS.2 h
  · omega
section
variable {ops:Array Oper} {o:Oper} {a:Act} {w:World} {rest:List Oper} {Q:Exit→Act→World→Prop}
theorem app_deed (hgd:o.guard=none) (s x:Operand) (ho:o.op=.call { callee:=.builtin .append,args:=#[s,x],argTypes:=#[106,106] })
    (b:Nat) (v:Value) (ds:List Dee) (hs:a.eval s=v) (hown:OwnsDs b w v ds) (B:Nat) (hx:a.eval x=.slice (some ⟨B,0,none⟩) 1 1) (d:Dee) (pa pc)
    (hB:w.heap[B]? = some (.cells #[.int .i64 d.kind,.slice pa d.path.length pc,.int .i64 d.pos,.int .i64 d.many,.string d.lab] 72 (0,0))) (hd:Ints (Apart b v) w d.path pa pc) (hl:d.lab.size≤maxLen) (hlen:ds.length≤1000000000) (hbase:b≤w.heap.size)
    (h:∀ g cap w',OwnsDs b w' (.slice (some ⟨g,0,none⟩) (ds.length+1) cap) (ds ++ [d])→w.grownBy w' v.ownBlock→(v.ownBlock=some g∨g=w.heap.size)→wpList Tryz.prog ops Q rest (a.put o.dst (.slice (some ⟨g,0,none⟩) (ds.length+1) cap)) w') :
    wpList Tryz.prog ops Q (o :: rest) a w:=by
  obtain ⟨i0,hi,hz0,hz1,hz2⟩:=info_parts info_deed
  obtain ⟨xs,h1,h2⟩:=hown
  have hdv:DeeV (Apart b v) w d [.int .i64 d.kind,.slice pa d.path.length pc,.int .i64 d.pos,.int .i64 d.many,.string d.lab]:=⟨pa,pc,rfl,hd,hl⟩
  refine wpList_append_lies w hgd s x _ ho b _ i0 _ 5 64 under_deeds hi hz0 hz1 hz2 rfl (by omega) v ds.length xs hs h1 ⟨B,0,none⟩ 1 1 [.int .i64 d.kind,.slice pa d.path.length pc,.int .i64 d.pos,.int .i64 d.many,.string d.lab] hx rfl (World.news_of_block (cs:=#[.int .i64 d.kind,.slice pa d.path.length pc,.int .i64 d.pos,.int .i64 d.many,.string d.lab]) hB)
    hdv.one (by omega) (by unfold maxLen;omega) (by omega) hbase w.heap.size rfl ?_
  intro g cap w' g1 g2 g3 _
  exact h g cap w' (OwnsDs.grown (v':=.slice (some ⟨g,0,none⟩) (ds.length+1) cap) h2 (us:=[d]) ⟨_,[],by simp,hdv,rfl⟩ g1 g2 (fun k hk=>by cases hk;exact g3)) g2 g3
end
theorem Dees.vals {S:Nat→Prop} {w:World}:∀ {ds:List Dee} {b o:Nat},(∀ (i:Nat) (_:i < ds.length),∃ vs,DeeV S w ds[i] vs∧∀ j u,vs[j]? = some u→w.cell? ⟨b,o+i * 5+j,none⟩=some u) →
    ∃ xs,Dvals S w ds xs∧∀ j u,xs[j]? = some u→w.cell? ⟨b,o+j,none⟩=some u
  | [],b,o,_=>⟨[],rfl,fun j u h=>by simp at h⟩
  | d :: ds,b,o,h=>by
    obtain ⟨vs,h1,h2⟩:=h 0 (by simp)
    obtain ⟨xs,g1,g2⟩:=Dees.vals (ds:=ds) (b:=b) (o:=o+5) fun i hi=>by
      obtain ⟨us,e1,e2⟩:=h (i+1) (by simpa using hi)
      exact ⟨us,by simpa using e1,fun j u hu=>by have:=e2 j u hu;rw [← this];congr 2;omega⟩
    refine ⟨vs ++ xs,⟨vs,xs,rfl,by simpa using h1,g1⟩,fun j u hu=>?_⟩
    have hl:=h1.len
    by_cases hj:j < vs.length
    · rw [List.getElem?_append_left hj] at hu
      have:=h2 j u hu
      rw [← this];congr 2 <;> omega
    · rw [List.getElem?_append_right (by omega)] at hu
      have:=g2 _ u hu
      rw [← this];congr 2;omega
theorem OwnsDs.of_cells {b:Nat} {w:World} {g cap:Nat} {ds:List Dee} {cur:Array Value} (hb:b≤g) (hg:w.heap[g]? = some (.cells cur 72 (0,0))) (hn:ds.length≤cap) (hm:cap≤maxLen) (hsz:cur.size=cap * 5)
    (h:∀ (i:Nat) (_:i < ds.length),∃ vs,DeeV (Apart b (.slice (some ⟨g,0,none⟩) ds.length cap)) w ds[i] vs∧∀ j u,vs[j]? = some u→w.cell? ⟨g,0+i * 5+j,none⟩=some u):OwnsDs b w (.slice (some ⟨g,0,none⟩) ds.length cap) ds:=by
  obtain ⟨xs,h1,h2⟩:=Dees.vals h
  have hl:=h1.length
  refine ⟨xs,⟨hl,.inr ⟨g,cap,cur,rfl,hb,hg,hn,hm,hsz,?_⟩⟩,h1⟩
  apply List.ext_getElem?
  intro j
  by_cases hj:j < xs.length
  · have e:=h2 j xs[j] (List.getElem?_eq_getElem hj)
    have hc:j < cur.size:=by rw [hsz];rw [hl] at hj;have:=Nat.mul_le_mul_right 5 hn;omega
    rw [blk_cell hg,Nat.zero_add] at e
    rw [List.getElem?_take_of_lt (by rw [← hl];exact hj),Array.getElem?_toList,e,List.getElem?_eq_getElem hj]
  · rw [List.getElem?_eq_none (by rw [List.length_take];omega),List.getElem?_eq_none (by omega)]
end Go.Proofs.YtdbnfhpgmcjngabGreatDoor
/- Walks: slices.Reverse of deeds. -/
namespace Go.Proofs.YtdbnfhpgmcjngabGreatDoor
open Go Go.RowKit Go.Shelf Go.Lib Go.Sort
def revDeeds_ren:Go.Shelf.Ren:=⟨fun | 35=>123 | n=>n,fun | 0=>0 | 3=>3 | 4=>4 | 22=>106 | 23=>72 | n=>n,fun | n=>n⟩
theorem revDeeds:SlLaysE0.n35 Tryz.prog revDeeds_ren where
  mixed:=by kernel_rfl
  f35:=⟨Tryz.f123.name,by kernel_rfl,Tryz.func123.trans (congrArg some (by kernel_rfl))⟩
  t0:=Tryz.underlying0
  a0:=Tryz.isAgg0
  z0:=Tryz.sizeOf0
  v0:=Tryz.zeroValue0
  t3:=Tryz.underlying3
  a3:=Tryz.isAgg3
  z3:=Tryz.sizeOf3
  v3:=Tryz.zeroValue3
  t4:=Tryz.underlying4
  a4:=Tryz.isAgg4
  z4:=Tryz.sizeOf4
  v4:=Tryz.zeroValue4
  t22:=Tryz.underlying106
  a22:=Tryz.isAgg106
  z22:=Tryz.sizeOf106
  v22:=Tryz.zeroValue106
abbrev DC:=Int × Option Addr × Nat × Nat × Int × Int × ByteArray
def encD (x:DC):List Value:=[.int .i64 x.1,.slice x.2.1 x.2.2.1 x.2.2.2.1,.int .i64 x.2.2.2.2.1,.int .i64 x.2.2.2.2.2.1,.string x.2.2.2.2.2.2]
theorem encD_one (x:DC):∀ v∈encD x,v.oneCell'=true:=by
  intro v hv
  simp [encD] at hv
  rcases hv with rfl | rfl | rfl | rfl | rfl <;> rfl
theorem revDeeds_any (b:Nat) (w:World) (v:Value) (ds:List Dee) (h:OwnsDs b w v ds) :
    Calls Tryz.prog 123 #[v] w fun e w'=>e=.returned (.tuple #[])∧OwnsDs b w' v ds.reverse∧Chg (fun k=>v.ownBlock=some k) w w':=by
  obtain ⟨xs,ho,hv⟩:=h
  rcases ho.2 with ⟨rfl,hn⟩ | ⟨g,cap,cur,rfl,hb,hg,hnc,hcm,hcur,htake⟩
  · have:ds=[]:=List.eq_nil_of_length_eq_zero hn
    subst this
    refine Calls.mono (AnyQ.slices_Reverse_empty revDeeds none 0 w) ?_
    rintro e w' ⟨rfl,rfl⟩
    exact ⟨rfl,OwnsDs.nil _ _,Chg.refl _ _⟩
  · have H:∀ i:Fin ds.length,∃ x:DC,DeeV (Apart b (.slice (some ⟨g,0,none⟩) ds.length cap)) w ds[i] (encD x)∧∀ (c:Nat) (u:Value),(encD x)[c]? = some u→xs[i.val * 5+c]? = some u:=fun i=>by
      obtain ⟨vs,g1,g2⟩:=hv.get i.val i.isLt
      obtain ⟨pa,pc,rfl,g3,g4⟩:=g1
      exact ⟨(ds[i].kind,pa,ds[i].path.length,pc,ds[i].pos,ds[i].many,ds[i].lab),⟨pa,pc,rfl,g3,g4⟩,g2⟩
    obtain ⟨d,hd⟩:∃ d:Array DC,d=Array.ofFn fun i=>Classical.choose (H i):=⟨_,rfl⟩
    have hds:d.size=ds.length:=by rw [hd];simp
    have hdi:∀ (i:Nat) (hi:i < ds.length),DeeV (Apart b (.slice (some ⟨g,0,none⟩) ds.length cap)) w ds[i] (encD d[i]!)∧∀ (c:Nat) (u:Value),(encD d[i]!)[c]? = some u→xs[i * 5+c]? = some u:=fun i hi=>by
      have h1:d[i]! = Classical.choose (H ⟨i,hi⟩):=by
        rw [getElem!_pos d i (by omega)];simp [hd]
      rw [h1];exact Classical.choose_spec (H ⟨i,hi⟩)
    have hH:HoldsK encD 5 w g 0 d:=by
      intro t ht
      rw [size_flatK] at ht
      have hi:t / 5 < ds.length:=by omega
      have hc:(encD d[t / 5]!)[t % 5]? = some (encD d[t / 5]!)[t % 5]! := by
        rw [getElem!_pos (encD d[t / 5]!) (t % 5) (show t % 5 < (encD d[t / 5]!).length from Nat.mod_lt _ (by decide))]
        exact List.getElem?_eq_getElem _
      have h1:=(hdi (t / 5) hi).2 _ _ hc
      rw [show t / 5 * 5+t % 5=t by omega] at h1
      have h2:=ho.cells (g:=g) rfl t _ h1
      rw [Addr.add_lit] at h2
      refine ⟨?_,blk_frozen hg⟩
      rw [get_flatK _ _ _ _ ht];exact h2
    have hsz:d.size≤9223372036854775807:=by unfold maxLen at hcm;omega
    have K:=AnyQ.slices_Reverse revDeeds 5 Tryz.isAgg72 Tryz.sizeOf72 encD (fun _=>rfl) encD_one g 0 cap d w hH hsz
    rw [hds] at K
    refine Calls.mono K ?_
    rintro e w' ⟨rfl,m,rfl⟩
    have hH2:HoldsK encD 5 (putRowK encD 5 (Sort.ahead w m) g 0 d.reverse) g 0 d.reverse:=holdsK_putRowK _ _ _ _ _ d _ hH (by simp)
    have hch:Chg (fun k=>(Value.slice (some ⟨g,0,none⟩) ds.length cap).ownBlock=some k) w (putRowK encD 5 (Sort.ahead w m) g 0 d.reverse):=by
      refine ⟨rfl,rfl,rfl,?_,fun k _ hn=>?_⟩
      · unfold putRowK;rw [size_putRow];exact Nat.le_refl _
      · have hne:g≠k:=fun e=>hn (by rw [← e];rfl)
        show (Array.modify w.heap g _)[k]? = _
        rw [Array.getElem?_modify,if_neg hne]
    have hblk:(putRowK encD 5 (Sort.ahead w m) g 0 d.reverse).heap[g]? = some (.cells (putCells id 0 (flatK encD 5 d.reverse) cur) 72 (0,0)):=by
      show (Array.modify w.heap g _)[g]? = _
      rw [Array.getElem?_modify,if_pos rfl,hg];rfl
    have hown:OwnsDs b (putRowK encD 5 (Sort.ahead w m) g 0 d.reverse) (.slice (some ⟨g,0,none⟩) ds.reverse.length cap) ds.reverse :=
      OwnsDs.of_cells hb hblk (by simpa using hnc) hcm (by simp [putCells,hcur]) (fun i hi=>?_)
    · rw [List.length_reverse] at hown
      exact ⟨rfl,hown,hch⟩
    have hi':i < ds.length:=by simpa using hi
    have hj:ds.length - 1 - i < ds.length:=by omega
    have e1:ds.reverse[i]=ds[ds.length - 1 - i]:=List.getElem_reverse _
    have e2:d.reverse[i]! = d[ds.length - 1 - i]! := by
      rw [getElem!_pos d.reverse i (by simp;omega),getElem!_pos d _ (by omega),Array.getElem_reverse]
      simp [hds]
    rw [e1]
    refine ⟨encD d[ds.length - 1 - i]!,(hdi _ hj).1.carry fun k hS hl=>⟨hch.block k hl (fun e=>hS.2 e),hS.1,fun e=>hS.2 (by rw [← e];rfl)⟩,fun c u hu=>?_⟩
    have hc:c < 5:=(List.getElem?_eq_some_iff.1 hu).1
    have h1:=(hH2.cell (i:=i) (c:=c) (by simp;omega) hc).1
    rw [h1,e2]
    rw [getElem!_pos (encD d[ds.length - 1 - i]!) c (show c < (encD d[ds.length - 1 - i]!).length from hc),← List.getElem?_eq_getElem];exact hu
end Go.Proofs.YtdbnfhpgmcjngabGreatDoor
