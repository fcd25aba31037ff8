/- How trees lie in memory, and that they lie there still when other blocks turn. -/
import Derived.WalkKit
import Derived.Lib.Hide
import Derived.Deep.QuietTactic
import Derived.BigQuiet
import Derived.Deep.RegionHeld3
import Derived.Deep.AppendLies
import Derived.Deep.RegionLaw
import Derived.WalkSpells
import Derived.Test.YtdbnfhpgmcjngabGreatDoorBpl
namespace Go.Proofs.YtdbnfhpgmcjngabGreatDoor
open Go Go.RowKit
abbrev Pr (w w':World):Prop:=Below w.heap.size w w'
theorem Pr.refl (w:World):Pr w w:=Below.refl _ _
theorem Pr.trans {a b c:World} (h:Pr a b) (k:Pr b c):Pr a c:=Below.trans h (k.mono h.size)
theorem Pr.alloc (w:World) (o:Obj):Pr w (w.alloc o):=(Below.refl _ _).alloc (Nat.le_refl _) o
theorem Pr.drew (w:World):Pr w w.drew:=(Below.refl _ _).drew
theorem Pr.drewN (w:World) (n:Nat):Pr w (w.drewN n):=⟨rfl,rfl,rfl,Nat.le_refl _,fun _ _=>rfl⟩
theorem Pr.alloc' {a w:World} (h:Pr a w) (o:Obj):Pr a (w.alloc o):=h.trans (Pr.alloc w o)
theorem Pr.drew' {a w:World} (h:Pr a w):Pr a w.drew:=h.trans (Pr.drew w)
theorem Pr.drewN' {a w:World} (h:Pr a w) (n:Nat):Pr a (w.drewN n):=h.trans (Pr.drewN w n)
theorem Pr.size {a w:World} (h:Pr a w):a.heap.size≤w.heap.size:=Below.size h
theorem lt_of_cell {w:World} {b o:Nat} {v:Value} (h:w.cell? ⟨b,o,none⟩=some v):b < w.heap.size:=World.block_lt_of_cell? w ⟨b,o,none⟩ h
theorem Pr.cell {a w:World} (h:Pr a w) {b o:Nat} {v:Value} (hc:a.cell? ⟨b,o,none⟩=some v):w.cell? ⟨b,o,none⟩=some v:=by
  rw [Below.cell h (lt_of_cell hc)];exact hc
theorem Pr.frozen {a w:World} (h:Pr a w) {b o:Nat} (hb:b < a.heap.size):w.frozen? ⟨b,o,none⟩=a.frozen? ⟨b,o,none⟩:=Below.frozen h hb
theorem cell_far {w:World} {a:Addr} {u:Value} {b o:Nat} {v:Value} (h:w.cell? ⟨b,o,none⟩=some v) (hne:a.block≠b):(w.setCell a u).cell? ⟨b,o,none⟩=some v:=by rw [World.cell?_setCell_far _ _ _ _ hne];exact h
def Kept (S:Nat→Prop) (w w':World):Prop:=∀ k,S k→k < w.heap.size→w'.heap[k]? = w.heap[k]?
theorem Kept.cell {S:Nat→Prop} {w w':World} (h:Kept S w w') {b o:Nat} {v:Value} (hb:S b) (hc:w.cell? ⟨b,o,none⟩=some v):w'.cell? ⟨b,o,none⟩=some v:=by
  rw [World.cell?_of_block (h b hb (lt_of_cell hc))];exact hc
theorem Pr.kept {w w':World} (h:Pr w w') (S:Nat→Prop):Kept S w w':=fun k _ hk=>Below.block h k hk
theorem Kept.trans {S:Nat→Prop} {a b c:World} (h:Kept S a b) (hs:a.heap.size≤b.heap.size) (k:Kept S b c):Kept S a c:=fun i hi hl=>(k i hi (by omega)).trans (h i hi hl)
theorem kept_setCell (S:Nat→Prop) (w:World) (a:Addr) (u:Value) (h:¬ S a.block):Kept S w (w.setCell a u):=fun k hk _=>Below.heap_setCell w a u k (fun e=>h (e ▸ hk))
theorem Pr.setCell {a w:World} (h:Pr a w) {p:Addr} (hp:a.heap.size≤p.block) (u:Value):Pr a (w.setCell p u):=Below.setCell h hp u
theorem blk_cell {w:World} {b o:Nat} {c:Array Value} {t:TypeId} {f:Nat × Nat} (h:w.heap[b]? = some (.cells c t f)):w.cell? ⟨b,o,none⟩=c[o]? := by simp [World.cell?,h]
theorem blk_frozen {w:World} {b o:Nat} {c:Array Value} {t:TypeId} (h:w.heap[b]? = some (.cells c t (0,0))):w.frozen? ⟨b,o,none⟩=false:=by simp [World.frozen?,h]
theorem blk_set {w:World} {b o:Nat} {c:Array Value} {t:TypeId} {f:Nat × Nat} (h:w.heap[b]? = some (.cells c t f)) (u:Value):(w.setCell ⟨b,o,none⟩ u).heap[b]? = some (.cells (c.setIfInBounds o u) t f):=by
  simp [World.setCell,Array.getElem?_modify,h]
theorem blk_lt {w:World} {b:Nat} {x:Obj} (h:w.heap[b]? = some x):b < w.heap.size:=(Array.getElem?_eq_some_iff.1 h).1
theorem Pr.blk {a w:World} (h:Pr a w) {b:Nat} {x:Obj} (hx:a.heap[b]? = some x):w.heap[b]? = some x:=by rw [Below.block h b (blk_lt hx)];exact hx
theorem grown_blk {w w':World} {row:Option Nat} (h:w.grownBy w' row) {b:Nat} {x:Obj} (hx:w.heap[b]? = some x) (hne:row≠some b):w'.heap[b]? = some x:=by rw [h.block b (blk_lt hx) (fun e=>hne e.symm)];exact hx
mutual
def TreeV (S:Nat→Prop) (w:World):Tr→Value→Value→Prop
  | .node l ks,vl,vk=>(vl=.string l∧l.size≤maxLen)∧∃ oa cap b o,vk=.slice oa ks.length cap∧(ks.length≤cap∧cap≤maxLen)∧(ks≠[]→oa=some ⟨b,o,none⟩∧S b)∧KidsAt S w ks b o
def KidsAt (S:Nat→Prop) (w:World):List Tr→Nat→Nat→Prop
  | [],_,_=>True
  | k :: ks,b,o=>∃ vl vk,w.cell? ⟨b,o,none⟩=some vl∧w.cell? ⟨b,o+1,none⟩=some vk∧TreeV S w k vl vk∧KidsAt S w ks b (o+2)
end
def Kids (S:Nat→Prop) (w:World) (ks:List Tr) (oa:Option Addr) (cap:Nat):Prop:=(ks.length≤cap∧cap≤maxLen)∧∃ b o,(ks≠[]→oa=some ⟨b,o,none⟩∧S b)∧KidsAt S w ks b o
abbrev Any:Nat→Prop:=fun _=>True
abbrev From (B:Nat):Nat→Prop:=fun k=>B≤k
theorem treeV_iff {S:Nat→Prop} {w:World} {l:ByteArray} {ks:List Tr} {vl vk:Value}:TreeV S w (.node l ks) vl vk↔(vl=.string l∧l.size≤maxLen)∧∃ oa cap,vk=.slice oa ks.length cap∧Kids S w ks oa cap:=by
  constructor
  · rintro ⟨h1,oa,cap,b,o,h2,hc,h3,h4⟩;exact ⟨h1,oa,cap,h2,hc,b,o,h3,h4⟩
  · rintro ⟨h1,oa,cap,h2,hc,b,o,h3,h4⟩;exact ⟨h1,oa,cap,b,o,h2,hc,h3,h4⟩
theorem treeV_mk {S:Nat→Prop} {w:World} {l:ByteArray} {ks:List Tr} {oa:Option Addr} (cap:Nat) (hl:l.size≤maxLen) (h:Kids S w ks oa cap):TreeV S w (.node l ks) (.string l) (.slice oa ks.length cap) :=
  treeV_iff.2 ⟨⟨rfl,hl⟩,oa,cap,rfl,h⟩
theorem Kids.nil (S:Nat→Prop) (w:World) (oa:Option Addr) (cap:Nat) (h:cap≤maxLen):Kids S w [] oa cap:=⟨⟨Nat.zero_le _,h⟩,0,0,fun h=>absurd rfl h,trivial⟩
mutual
theorem TreeV.carry {S S':Nat→Prop} {w w':World} (hk:∀ k,S k→k < w.heap.size→w'.heap[k]? = w.heap[k]? ∧ S' k):∀ {t:Tr} {vl vk},TreeV S w t vl vk→TreeV S' w' t vl vk
  | .node l ks,vl,vk,hx=>by
    obtain ⟨h1,oa,cap,b,o,h2,hc,h3,h4⟩:=hx
    refine ⟨h1,oa,cap,b,o,h2,hc,fun hn=>⟨(h3 hn).1,(hk b (h3 hn).2 ?_).2⟩,?_⟩
    · cases ks with
      | nil=>exact absurd rfl hn
      | cons k ks=>exact lt_of_cell h4.choose_spec.choose_spec.1
    · exact KidsAt.carry hk (fun hn=>(h3 hn).2) h4
theorem KidsAt.carry {S S':Nat→Prop} {w w':World} (hk:∀ k,S k→k < w.heap.size→w'.heap[k]? = w.heap[k]? ∧ S' k):∀ {ks:List Tr} {b o},(ks≠[]→S b)→KidsAt S w ks b o→KidsAt S' w' ks b o
  | [],_,_,_,_=>trivial
  | k :: ks,b,o,hb,⟨vl,vk,h1,h2,h3,h4⟩=>by
    have hS:=hb (by simp)
    have e:∀ o v,w.cell? ⟨b,o,none⟩=some v→w'.cell? ⟨b,o,none⟩=some v:=fun o v hc=>by
      rw [World.cell?_of_block (hk b hS (lt_of_cell hc)).1];exact hc
    exact ⟨vl,vk,e _ _ h1,e _ _ h2,TreeV.carry hk h3,KidsAt.carry hk (fun _=>hS) h4⟩
end
theorem Kids.carry {S S':Nat→Prop} {w w':World} (hk:∀ k,S k→k < w.heap.size→w'.heap[k]? = w.heap[k]? ∧ S' k) {ks:List Tr} {oa cap} (h:Kids S w ks oa cap):Kids S' w' ks oa cap:=by
  obtain ⟨hc,b,o,h1,h2⟩:=h
  have hb:ks≠[]→b < w.heap.size:=fun hn=>by
    cases ks with
    | nil=>exact absurd rfl hn
    | cons k ks=>exact lt_of_cell h2.choose_spec.choose_spec.1
  exact ⟨hc,b,o,fun hn=>⟨(h1 hn).1,(hk b (h1 hn).2 (hb hn)).2⟩,h2.carry hk (fun hn=>(h1 hn).2)⟩
theorem Kids.kept {S:Nat→Prop} {w w':World} (h:Kept S w w') {ks:List Tr} {oa cap} (hk:Kids S w ks oa cap):Kids S w' ks oa cap:=hk.carry fun k hS hl=>⟨h k hS hl,hS⟩
theorem Kids.pr {S:Nat→Prop} {w w':World} (h:Pr w w') {ks:List Tr} {oa cap} (hk:Kids S w ks oa cap):Kids S w' ks oa cap:=hk.kept (h.kept S)
theorem Kids.mono {S S':Nat→Prop} {w:World} (h:∀ k,S k→k < w.heap.size→S' k) {ks:List Tr} {oa cap} (hk:Kids S w ks oa cap):Kids S' w ks oa cap:=hk.carry fun k hS hl=>⟨rfl,h k hS hl⟩
theorem Kids.setCell {S:Nat→Prop} {w:World} {ks:List Tr} {oa cap} (hk:Kids S w ks oa cap) (a:Addr) (u:Value) (h:¬ S a.block):Kids S (w.setCell a u) ks oa cap:=hk.kept (kept_setCell S w a u h)
theorem Kids.from {w:World} {ks:List Tr} {oa cap} {n m:Nat} (hk:Kids (From n) w ks oa cap) (h:m≤n):Kids (From m) w ks oa cap:=hk.mono fun _ hk _=>Nat.le_trans h hk
theorem Kids.any {S:Nat→Prop} {w:World} {ks:List Tr} {oa cap} (hk:Kids S w ks oa cap):Kids Any w ks oa cap:=hk.mono fun _ _ _=>trivial
theorem TreeV.kept {S:Nat→Prop} {w w':World} (h:Kept S w w') {t:Tr} {vl vk} (hk:TreeV S w t vl vk):TreeV S w' t vl vk:=hk.carry fun k hS hl=>⟨h k hS hl,hS⟩
theorem TreeV.mono {S S':Nat→Prop} {w:World} (h:∀ k,S k→k < w.heap.size→S' k) {t:Tr} {vl vk} (hk:TreeV S w t vl vk):TreeV S' w t vl vk:=hk.carry fun k hS hl=>⟨rfl,h k hS hl⟩
theorem KidsAt.get {S:Nat→Prop} {w:World}:∀ {ks:List Tr} {b o},KidsAt S w ks b o→∀ (i:Nat) (h:i < ks.length),∃ vl vk,w.cell? ⟨b,o+i * 2,none⟩=some vl∧w.cell? ⟨b,o+i * 2+1,none⟩=some vk∧TreeV S w ks[i] vl vk
  | k :: ks,b,o,⟨vl,vk,h1,h2,h3,_⟩,0,_=>⟨vl,vk,by simpa using h1,by simpa using h2,h3⟩
  | k :: ks,b,o,⟨_,_,_,_,_,h4⟩,i+1,h=>by
    obtain ⟨vl,vk,h1,h2,h3⟩:=h4.get i (by simpa using h)
    exact ⟨vl,vk,by rw [← h1];congr 2;omega,by rw [← h2];congr 2;omega,h3⟩
theorem KidsAt.mk {S:Nat→Prop} {w:World}:∀ {ks:List Tr} {b o},(∀ (i:Nat) (h:i < ks.length),∃ vl vk,w.cell? ⟨b,o+i * 2,none⟩=some vl∧w.cell? ⟨b,o+i * 2+1,none⟩=some vk∧TreeV S w ks[i] vl vk)→KidsAt S w ks b o
  | [],_,_,_=>trivial
  | k :: ks,b,o,h=>by
    obtain ⟨vl,vk,h1,h2,h3⟩:=h 0 (by simp)
    refine ⟨vl,vk,by simpa using h1,by simpa using h2,h3,KidsAt.mk fun i hi=>?_⟩
    obtain ⟨vl,vk,h1,h2,h3⟩:=h (i+1) (by simpa using hi)
    exact ⟨vl,vk,by rw [← h1];congr 2;omega,by rw [← h2];congr 2;omega,by simpa using h3⟩
theorem Kids.get {S:Nat→Prop} {w:World} {ks:List Tr} {oa cap} (h:Kids S w ks oa cap) (i:Nat) (hi:i < ks.length):∃ b o l ks' oa' cap',ks[i]=.node l ks'∧l.size≤maxLen∧oa=some ⟨b,o,none⟩∧w.cell? ⟨b,o+i * 2,none⟩=some (.string l)∧w.cell? ⟨b,o+i * 2+1,none⟩=some (.slice oa' ks'.length cap')∧Kids S w ks' oa' cap':=by
  obtain ⟨_,b,o,h1,h2⟩:=h
  obtain ⟨vl,vk,c0,c1,h3⟩:=h2.get i hi
  have hne:ks≠[]:=by intro e;subst e;simp at hi
  revert h3
  cases hk:ks[i] with
  | node l ks' =>
    intro h3
    obtain ⟨⟨rfl,hll⟩,oa',cap',rfl,g⟩:=treeV_iff.1 h3
    exact ⟨b,o,l,ks',oa',cap',rfl,hll,(h1 hne).1,c0,c1,g⟩
theorem Kids.len {S:Nat→Prop} {w:World} {ks:List Tr} {oa cap} (h:Kids S w ks oa cap):ks.length≤9223372036854775807:=by have:=h.1;unfold maxLen at this;omega
theorem KidsAt.drop {S:Nat→Prop} {w:World} {ks:List Tr} {b o} (h:KidsAt S w ks b o) (i:Nat):KidsAt S w (ks.drop i) b (o+i * 2):=by
  refine KidsAt.mk fun j hj=>?_
  rw [List.length_drop] at hj
  obtain ⟨vl,vk,h1,h2,h3⟩:=h.get (i+j) (by omega)
  exact ⟨vl,vk,by rw [← h1];congr 2;omega,by rw [← h2];congr 2;omega,by simpa using h3⟩
theorem KidsAt.take {S:Nat→Prop} {w:World} {ks:List Tr} {b o} (h:KidsAt S w ks b o) (i:Nat):KidsAt S w (ks.take i) b o:=by
  refine KidsAt.mk fun j hj=>?_
  rw [List.length_take] at hj
  obtain ⟨vl,vk,h1,h2,h3⟩:=h.get j (by omega)
  exact ⟨vl,vk,h1,h2,by simpa using h3⟩
def Flat (S:Nat→Prop) (w:World) (vs:List Value) (oa:Option Addr) (cap:Nat):Prop:=(vs.length≤cap∧cap≤maxLen)∧∃ b o,(vs≠[]→oa=some ⟨b,o,none⟩∧S b)∧∀ (i:Nat) (h:i < vs.length),w.cell? ⟨b,o+i,none⟩=some vs[i]
theorem Flat.carry {S S':Nat→Prop} {w w':World} (hk:∀ k,S k→k < w.heap.size→w'.heap[k]? = w.heap[k]? ∧ S' k) {vs:List Value} {oa cap} (h:Flat S w vs oa cap):Flat S' w' vs oa cap:=by
  obtain ⟨hc,b,o,h1,h2⟩:=h
  have hb:∀ i (h:i < vs.length),S b∧b < w.heap.size:=fun i h=>⟨(h1 (by intro e;subst e;simp at h)).2,lt_of_cell (h2 i h)⟩
  refine ⟨hc,b,o,fun hn=>?_,fun i h=>?_⟩
  · have:=hb 0 (List.length_pos_iff.2 hn);exact ⟨(h1 hn).1,(hk b this.1 this.2).2⟩
  · have:=hb i h;rw [World.cell?_of_block (hk b this.1 this.2).1];exact h2 i h
theorem Flat.kept {S:Nat→Prop} {w w':World} (h:Kept S w w') {vs:List Value} {oa cap} (hk:Flat S w vs oa cap):Flat S w' vs oa cap:=hk.carry fun k hS hl=>⟨h k hS hl,hS⟩
theorem Flat.pr {S:Nat→Prop} {w w':World} (h:Pr w w') {vs:List Value} {oa cap} (hk:Flat S w vs oa cap):Flat S w' vs oa cap:=hk.kept (h.kept S)
theorem Flat.mono {S S':Nat→Prop} {w:World} (h:∀ k,S k→k < w.heap.size→S' k) {vs:List Value} {oa cap} (hk:Flat S w vs oa cap):Flat S' w vs oa cap:=hk.carry fun k hS hl=>⟨rfl,h k hS hl⟩
theorem Flat.any {S:Nat→Prop} {w:World} {vs:List Value} {oa cap} (hk:Flat S w vs oa cap):Flat Any w vs oa cap:=hk.mono fun _ _ _=>trivial
theorem Flat.len {S:Nat→Prop} {w:World} {vs:List Value} {oa cap} (h:Flat S w vs oa cap):vs.length≤9223372036854775807:=by have:=h.1;unfold maxLen at this;omega
theorem Flat.nil (S:Nat→Prop) (w:World) (oa:Option Addr) (cap:Nat) (h:cap≤maxLen):Flat S w [] oa cap:=⟨⟨Nat.zero_le _,h⟩,0,0,fun h=>absurd rfl h,fun _ h=>absurd h (Nat.not_lt_zero _)⟩
theorem Flat.get {S:Nat→Prop} {w:World} {vs:List Value} {oa cap} (h:Flat S w vs oa cap) (i:Nat) (hi:i < vs.length):∃ b o,oa=some ⟨b,o,none⟩∧w.cell? ⟨b,o+i,none⟩=some vs[i]:=by
  obtain ⟨_,b,o,h1,h2⟩:=h
  exact ⟨b,o,(h1 (by intro e;subst e;simp at hi)).1,h2 i hi⟩
abbrev ints (xs:List Int):List Value:=xs.map (.int .i64)
abbrev Ints (S:Nat→Prop) (w:World) (xs:List Int) (oa:Option Addr) (cap:Nat):Prop:=Flat S w (ints xs) oa cap
theorem Ints.len {S:Nat→Prop} {w:World} {xs:List Int} {oa cap} (h:Ints S w xs oa cap):xs.length≤9223372036854775807:=by have:=Flat.len h;simpa using this
theorem Ints.get {S:Nat→Prop} {w:World} {xs:List Int} {oa cap} (h:Ints S w xs oa cap) (i:Nat) (hi:i < xs.length):∃ b o,oa=some ⟨b,o,none⟩∧w.cell? ⟨b,o+i,none⟩=some (.int .i64 xs[i]):=by
  obtain ⟨b,o,h1,h2⟩:=Flat.get h i (by simpa using hi)
  exact ⟨b,o,h1,by rw [h2];simp⟩
theorem Flat.tail {S:Nat→Prop} {w:World} {v:Value} {vs:List Value} {b o cap:Nat} (h:Flat S w (v :: vs) (some ⟨b,o,none⟩) cap) :
    Flat S w vs (if cap=1 then some ⟨b,o,none⟩ else some ⟨b,o+1,none⟩) (cap - 1):=by
  obtain ⟨⟨hc,hm⟩,b',o',h1,h2⟩:=h
  obtain ⟨e,hS⟩:=h1 (by simp)
  cases e
  simp at hc
  refine ⟨⟨by omega,by omega⟩,b,o+1,fun hn=>?_,fun i hi=>?_⟩
  · have:0 < vs.length:=List.length_pos_iff.2 hn
    rw [if_neg (by omega)];exact ⟨rfl,hS⟩
  · have:=h2 (i+1) (by simpa using hi)
    rw [show o+1+i=o+(i+1) by omega];exact this
def Tvals (S:Nat→Prop) (w:World):List Tr→List Value→Prop
  | [],xs=>xs=[]
  | t :: ts,xs=>∃ vl vk ys,xs=vl :: vk :: ys∧TreeV S w t vl vk∧Tvals S w ts ys
theorem Tvals.carry {S S':Nat→Prop} {w w':World} (hk:∀ k,S k→k < w.heap.size→w'.heap[k]? = w.heap[k]? ∧ S' k):∀ {ts:List Tr} {xs},Tvals S w ts xs→Tvals S' w' ts xs
  | [],_,h=>h
  | _ :: _,_,⟨vl,vk,ys,h1,h2,h3⟩=>⟨vl,vk,ys,h1,h2.carry hk,h3.carry hk⟩
theorem Tvals.snoc {S:Nat→Prop} {w:World} {t:Tr} {vl vk:Value} (h:TreeV S w t vl vk):∀ {ts:List Tr} {xs},Tvals S w ts xs→Tvals S w (ts ++ [t]) (xs ++ [vl,vk])
  | [],_,e=>by subst e;exact ⟨vl,vk,[],rfl,h,rfl⟩
  | _ :: _,_,⟨a,b,ys,h1,h2,h3⟩=>by subst h1;exact ⟨a,b,ys ++ [vl,vk],rfl,h2,h3.snoc h⟩
theorem Tvals.append {S:Nat→Prop} {w:World} {us:List Tr} {zs:List Value} (h:Tvals S w us zs):∀ {ts:List Tr} {xs},Tvals S w ts xs→Tvals S w (ts ++ us) (xs ++ zs)
  | [],_,e=>by subst e;exact h
  | _ :: _,_,⟨a,b,ys,h1,h2,h3⟩=>by subst h1;exact ⟨a,b,ys ++ zs,rfl,h2,Tvals.append h h3⟩
theorem Tvals.length {S:Nat→Prop} {w:World}:∀ {ts:List Tr} {xs},Tvals S w ts xs→xs.length=ts.length * 2
  | [],_,e=>by subst e;rfl
  | _ :: _,_,⟨a,b,ys,h1,h2,h3⟩=>by subst h1;have:=h3.length;simp;omega
theorem Tvals.kidsAt {S:Nat→Prop} {w:World} {b:Nat}:∀ {ts:List Tr} {xs} {o:Nat},Tvals S w ts xs→(∀ j u,xs[j]? = some u→w.cell? ⟨b,o+j,none⟩=some u)→KidsAt S w ts b o
  | [],_,_,_,_=>trivial
  | _ :: _,_,o,⟨vl,vk,ys,h1,h2,h3⟩,hc=>by
    subst h1
    refine ⟨vl,vk,hc 0 vl rfl,hc 1 vk rfl,h2,h3.kidsAt fun j u hu=>?_⟩
    have:=hc (j+2) u (by simpa using hu)
    rw [← this];congr 2;omega
theorem Tvals.kids {S:Nat→Prop} {w:World} {base e:Nat} {v:Value} {ts:List Tr} {xs:List Value} (h:Tvals S w ts xs) (ho:w.ownsRow base e 2 v ts.length xs) (hS:∀ k,v.ownBlock=some k→S k) :
    ∃ oa cap,v=.slice oa ts.length cap∧Kids S w ts oa cap:=by
  rcases ho.2 with ⟨rfl,hn⟩ | ⟨g,cap,cur,rfl,hb,hg,hnc,hcm,_⟩
  · have:ts=[]:=List.eq_nil_of_length_eq_zero hn
    subst this
    exact ⟨none,0,rfl,Kids.nil _ _ _ _ (Nat.zero_le _)⟩
  · refine ⟨_,cap,rfl,⟨hnc,hcm⟩,g,0,fun _=>⟨rfl,hS g rfl⟩,h.kidsAt fun j u hu=>?_⟩
    have:=ho.cells (g:=g) rfl j u hu
    simpa [Addr.add_lit] using this
end Go.Proofs.YtdbnfhpgmcjngabGreatDoor
