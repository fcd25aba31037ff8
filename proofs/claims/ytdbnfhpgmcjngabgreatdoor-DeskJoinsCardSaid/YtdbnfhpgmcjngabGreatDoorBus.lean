/- Trees in memory that share nothing: a node may be written in place. -/
import Derived.Test.YtdbnfhpgmcjngabGreatDoorBmt
import Derived.Test.YtdbnfhpgmcjngabGreatDoorBpl
import Derived.Test.YtdbnfhpgmcjngabGreatDoorBwe
namespace Go.Proofs.YtdbnfhpgmcjngabGreatDoor
open Go Go.RowKit
mutual
def UT (w:World):Tr→Nat→Nat→Value→Value→Prop
  | .node l ks,lo,hi,vl,vk=>(vl=.string l∧l.size≤maxLen)∧lo≤hi∧∃ oa cap b o,vk=.slice oa ks.length cap∧(ks.length≤cap∧cap≤maxLen)∧(ks≠[]→oa=some ⟨b,o,none⟩∧(lo≤b∧b < hi)∧∀ j,w.frozen? ⟨b,j,none⟩=false)∧UK w ks lo hi b o
def UK (w:World):List Tr→Nat→Nat→Nat→Nat→Prop
  | [],_,_,_,_=>True
  | k :: ks,lo,hi,b,o=>∃ vl vk m1 mid,w.cell? ⟨b,o,none⟩=some vl∧w.cell? ⟨b,o+1,none⟩=some vk∧(lo≤m1∧mid≤hi)∧UT w k m1 mid vl vk∧¬ (m1≤b∧b < mid)∧UK w ks mid hi b (o+2)
end
theorem UT.le {w:World} {t:Tr} {lo hi vl vk} (h:UT w t lo hi vl vk):lo≤hi:=by cases t;exact h.2.1
mutual
theorem UT.carry {w w':World}:∀ {t:Tr} {lo hi vl vk},(∀ k,lo≤k→k < hi→k < w.heap.size→w'.heap[k]? = w.heap[k]?)→UT w t lo hi vl vk→UT w' t lo hi vl vk
  | .node l ks,lo,hi,vl,vk,hk,hx=>by
    obtain ⟨h1,h2,oa,cap,b,o,h3,hc,h4,h5⟩:=hx
    have hb:ks≠[]→w'.heap[b]? = w.heap[b]? := fun hn=>by
      have hbl:b < w.heap.size:=by
        cases ks with
        | nil=>exact absurd rfl hn
        | cons k ks=>exact lt_of_cell h5.choose_spec.choose_spec.choose_spec.choose_spec.1
      exact hk b (h4 hn).2.1.1 (h4 hn).2.1.2 hbl
    refine ⟨h1,h2,oa,cap,b,o,h3,hc,fun hn=>⟨(h4 hn).1,(h4 hn).2.1,fun j=>?_⟩,UK.carry hk hb h5⟩
    have:=(h4 hn).2.2 j
    unfold World.frozen? at this ⊢;rw [hb hn];exact this
theorem UK.carry {w w':World}:∀ {ks:List Tr} {lo hi b o},(∀ k,lo≤k→k < hi→k < w.heap.size→w'.heap[k]? = w.heap[k]?)→(ks≠[]→w'.heap[b]? = w.heap[b]?)→UK w ks lo hi b o→UK w' ks lo hi b o
  | [],_,_,_,_,_,_,_=>trivial
  | k :: ks,lo,hi,b,o,hk,hb,⟨vl,vk,m1,mid,h1,h2,h3,h4,h5,h6⟩=>by
    have hle:=h4.le
    have e:∀ o v,w.cell? ⟨b,o,none⟩=some v→w'.cell? ⟨b,o,none⟩=some v:=fun o v hc=>by
      rw [World.cell?_of_block (hb (by simp))];exact hc
    exact ⟨vl,vk,m1,mid,e _ _ h1,e _ _ h2,h3,UT.carry (fun j a c d=>hk j (by omega) (by omega) d) h4,h5,UK.carry (fun j a c d=>hk j (by omega) c d) (fun _=>hb (by simp)) h6⟩
end
mutual
theorem UT.treeV {S:Nat→Prop} {w:World}:∀ {t:Tr} {lo hi vl vk},(∀ k,lo≤k→k < hi→S k)→UT w t lo hi vl vk→TreeV S w t vl vk
  | .node l ks,lo,hi,vl,vk,hS,hx=>by
    obtain ⟨h1,h2,oa,cap,b,o,h3,hc,h4,h5⟩:=hx
    exact ⟨h1,oa,cap,b,o,h3,hc,fun hn=>⟨(h4 hn).1,hS b (h4 hn).2.1.1 (h4 hn).2.1.2⟩,UK.kidsAt hS h5⟩
theorem UK.kidsAt {S:Nat→Prop} {w:World}:∀ {ks:List Tr} {lo hi b o},(∀ k,lo≤k→k < hi→S k)→UK w ks lo hi b o→KidsAt S w ks b o
  | [],_,_,_,_,_,_=>trivial
  | k :: ks,lo,hi,b,o,hS,⟨vl,vk,m1,mid,h1,h2,h3,h4,h5,h6⟩ =>
    have hle:=h4.le
    ⟨vl,vk,h1,h2,UT.treeV (fun j a c=>hS j (by omega) (by omega)) h4,UK.kidsAt (fun j a c=>hS j (by omega) c) h6⟩
end
theorem UK.get {w : World} : ∀ {ks : List Tr} {lo hi b o}, lo ≤ hi → UK w ks lo hi b o → ∀ (i : Nat) (h : i < ks.length), ∃ vl vk lo' hi', w.cell? ⟨b, o + i * 2, none⟩ = some vl ∧ w.cell? ⟨b, o + i * 2 + 1, none⟩ = some vk ∧
      (lo≤lo'∧hi'≤hi)∧UT w ks[i] lo' hi' vl vk∧¬ (lo'≤b∧b < hi') ∧
      ∀ (w':World) (S:Nat→Prop) (x:Tr) vl2 vk2,(∀ k,k=b∨lo≤k∧k < hi→k≠b→¬ (lo'≤k∧k < hi')→w'.heap[k]? = w.heap[k]?)→(∀ j,j≠o+i * 2→j≠o+i * 2+1→w'.cell? ⟨b,j,none⟩=w.cell? ⟨b,j,none⟩) →
        w'.cell? ⟨b,o+i * 2,none⟩=some vl2→w'.cell? ⟨b,o+i * 2+1,none⟩=some vk2→TreeV S w' x vl2 vk2→(∀ k,lo≤k→k < hi→S k)→KidsAt S w' (ks.set i x) b o
  | [],_,_,_,_,_,_,i,h=>by simp at h
  | k :: ks,lo,hi,b,o,hle,⟨vl,vk,m1,mid,h1,h2,h3,h4,h5,h6⟩,0,_=>by
    have hl1:=h4.le
    refine ⟨vl,vk,m1,mid,by simpa using h1,by simpa using h2,⟨by omega,by omega⟩,h4,h5,?_⟩
    intro w' S x vl2 vk2 hk hj c0 c1 hx hS
    refine ⟨vl2,vk2,by simpa using c0,by simpa using c1,hx,?_⟩
    have hrest:KidsAt S w ks b (o+2):=UK.kidsAt (fun j a c=>hS j (by omega) c) h6
    clear h1 h2
    have go:∀ {js:List Tr} {m o2},mid≤m→m≤hi→o+2≤o2→UK w js m hi b o2→KidsAt S w' js b o2:=by
      intro js
      induction js with
      | nil=>intros;trivial
      | cons j js ih =>
        rintro m o2 a1 a2 a3 ⟨ul,uk,m3,m2,g1,g2,g3,g4,g5,g6⟩
        have hl2:=g4.le
        refine ⟨ul,uk,by rw [hj o2 (by omega) (by omega)];exact g1,by rw [hj (o2+1) (by omega) (by omega)];exact g2,?_,ih (by omega) g3.2 (by omega) g6⟩
        refine UT.treeV (fun q e1 e2=>hS q (by omega) (by omega)) (UT.carry (fun q e1 e2 _=>hk q (.inr ⟨by omega,by omega⟩) (fun e=>g5 ⟨by omega,by omega⟩) (by omega)) g4)
    exact go (Nat.le_refl _) h3.2 (Nat.le_refl _) h6
  | k :: ks,lo,hi,b,o,hle,⟨vl,vk,m1,mid,h1,h2,h3,h4,h5,h6⟩,i+1,h=>by
    have hl1:=h4.le
    obtain ⟨vl',vk',lo',hi',g1,g2,g3,g4,g5,g6⟩:=h6.get h3.2 i (by simpa using h)
    have e0:o+2+i * 2=o+(i+1) * 2:=by omega
    rw [e0] at g1 g2 g6
    refine ⟨vl',vk',lo',hi',g1,g2,⟨by omega,g3.2⟩,by simpa using g4,g5,?_⟩
    intro w' S x vl2 vk2 hk hj c0 c1 hx hS
    have hlt:=g4.le
    refine ⟨vl,vk,by rw [hj o (by omega) (by omega)];exact h1,by rw [hj (o+1) (by omega) (by omega)];exact h2,?_,g6 w' S x vl2 vk2 (fun q e1 e2 e3=>hk q (by omega) e2 e3) hj c0 c1 hx (fun q e1 e2=>hS q (by omega) e2)⟩
    exact UT.treeV (fun q e1 e2=>hS q (by omega) (by omega)) (UT.carry (fun q e1 e2 _=>hk q (.inr ⟨by omega,by omega⟩) (fun e=>h5 ⟨by omega,by omega⟩) (by omega)) h4)
structure Spot (w:World) (B o lo hi:Nat) (t:Tr) (p:List Int) (b' o' lo' hi':Nat) (x:Tr):Prop where
  at':t.at? p=some x
  tree:∃ vl vk,w.cell? ⟨b',o',none⟩=some vl∧w.cell? ⟨b',o'+1,none⟩=some vk∧UT w x lo' hi' vl vk
  low:lo≤lo'
  high:hi'≤hi
  out:¬ (lo'≤b'∧b' < hi')
  blk:b'=B∨(lo≤b'∧b' < hi)
  free:∀ j,w.frozen? ⟨b',j,none⟩=false
  put:∀ (w':World) (S:Nat→Prop) (nx:Tr) vl vk,(∀ k,k=B∨lo≤k∧k < hi→¬ (k=b'∨lo'≤k∧k < hi')→w'.heap[k]? = w.heap[k]?)→(∀ j,j≠o'→j≠o'+1→w'.cell? ⟨b',j,none⟩=w.cell? ⟨b',j,none⟩) →
    w'.cell? ⟨b',o',none⟩=some vl→w'.cell? ⟨b',o'+1,none⟩=some vk→TreeV S w' nx vl vk→(∀ k,lo≤k→k < hi→S k) →
    ∃ vl3 vk3,w'.cell? ⟨B,o,none⟩=some vl3∧w'.cell? ⟨B,o+1,none⟩=some vk3∧TreeV S w' (t.setAt p nx) vl3 vk3
theorem Spot.top {w:World} {B o lo hi:Nat} {t:Tr} {vl vk:Value} (c0:w.cell? ⟨B,o,none⟩=some vl) (c1:w.cell? ⟨B,o+1,none⟩=some vk) (h:UT w t lo hi vl vk) (hB:¬ (lo≤B∧B < hi)) (hf:∀ j,w.frozen? ⟨B,j,none⟩=false):Spot w B o lo hi t [] B o lo hi t :=
  ⟨rfl,⟨vl,vk,c0,c1,h⟩,Nat.le_refl _,Nat.le_refl _,hB,.inl rfl,hf,fun _ _ _ vl vk _ _ a b c _=>⟨vl,vk,a,b,c⟩⟩
theorem Spot.step {w:World} {B o lo hi:Nat} {t:Tr} {p:List Int} {b' o' lo' hi':Nat} {l:ByteArray} {ks:List Tr} (h:Spot w B o lo hi t p b' o' lo' hi' (.node l ks)) (n:Nat) (hn:n < ks.length) :
    ∃ oa cap b2 o2 lo2 hi2,w.cell? ⟨b',o',none⟩=some (.string l)∧w.cell? ⟨b',o'+1,none⟩=some (.slice oa ks.length cap)∧oa=some ⟨b2,o2,none⟩∧Spot w B o lo hi t (p ++ [(n:Int)]) b2 (o2+n * 2) lo2 hi2 ks[n]∧lo'≤lo2∧hi2≤hi'∧(lo'≤b2∧b2 < hi'):=by
  obtain ⟨vl,vk,c0,c1,h1,h2,oa,cap,b,o2,h3,hc,h4,h5⟩:=h.tree
  obtain ⟨rfl,hl⟩:=h1
  subst h3
  have hne:ks≠[]:=by intro e;subst e;simp at hn
  obtain ⟨rfl,hb,hf⟩:=h4 hne
  obtain ⟨ul,uk,lo2,hi2,g1,g2,g3,g4,g5,g6⟩:=h5.get h2 n hn
  have hlow:=h.low
  have hhigh:=h.high
  have hle:=g4.le
  have hout:=h.out
  have hbb:b≠b':=by rintro rfl;exact hout hb
  refine ⟨_,cap,b,o2,lo2,hi2,c0,c1,rfl,⟨?_,⟨ul,uk,g1,g2,g4⟩,by omega,by omega,g5,.inr ⟨by omega,by omega⟩,hf,?_⟩,g3.1,g3.2,hb⟩
  · rw [Tr.at?_append,h.at']
    show (Tr.node l ks).at? [(n:Int)]=_
    simp only [Tr.at?,Tr.kid?_in l ks hn];rfl
  · intro w' S nx vl2 vk2 hk hj d0 d1 hx hS
    rw [Tr.setAt_append t p [(n:Int)] nx _ h.at']
    have hb':w'.heap[b']? = w.heap[b']? := hk b' h.blk (fun e=>by
      rcases e with e | e
      · exact hbb e.symm
      · exact hout ⟨by omega,by omega⟩)
    have hk2:KidsAt S w' (ks.set n nx) b o2:=g6 w' S nx vl2 vk2 (fun k e1 e2 e3=>hk k (.inr (by omega)) (fun e=>by omega)) hj d0 d1 hx (fun k e1 e2=>hS k (by omega) (by omega))
    refine h.put w' S ((Tr.node l ks).setAt [(n:Int)] nx) (.string l) (.slice (some ⟨b,o2,none⟩) ks.length cap) (fun k e1 e2=>hk k e1 (fun e=>by omega)) (fun j _ _=>World.cell?_of_block hb') (by rw [World.cell?_of_block hb'];exact c0) (by rw [World.cell?_of_block hb'];exact c1) ?_ hS
    rw [Tr.setAt_node]
    refine ⟨⟨rfl,hl⟩,_,cap,b,o2,by simp,by simpa using hc,fun _=>⟨rfl,hS b (by omega) (by omega)⟩,?_⟩
    simpa [Tr.setAt] using hk2
def addrAt (w:World):Nat→Nat→List Int→Option (Nat × Nat)
  | b,o,[]=>some (b,o)
  | b,o,k :: p=>match w.cell? ⟨b,o+1,none⟩ with
    | some (.slice (some ⟨b2,o2,none⟩) _ _)=>addrAt w b2 (o2+k.toNat * 2) p
    | _=>none
theorem addrAt_append (w:World):∀ (p q:List Int) (b o b' o':Nat),addrAt w b o p=some (b',o')→addrAt w b o (p ++ q)=addrAt w b' o' q
  | [],q,b,o,b',o',h=>by cases h;rfl
  | k :: p,q,b,o,b',o',h=>by
    simp only [addrAt,List.cons_append] at h ⊢
    split at h
    · exact addrAt_append w p q _ _ _ _ h
    · cases h
theorem Spot.cells {w:World} {B o lo hi:Nat} {t:Tr} {p:List Int} {b' o' lo' hi':Nat} {l:ByteArray} {ks:List Tr} (h:Spot w B o lo hi t p b' o' lo' hi' (.node l ks)) :
    ∃ oa cap,w.cell? ⟨b',o',none⟩=some (.string l)∧w.cell? ⟨b',o'+1,none⟩=some (.slice oa ks.length cap)∧Kids (fun k=>lo'≤k∧k < hi') w ks oa cap∧l.size≤maxLen:=by
  obtain ⟨vl,vk,c0,c1,hx⟩:=h.tree
  obtain ⟨⟨rfl,hl⟩,oa,cap,rfl,hk⟩:=treeV_iff.1 (UT.treeV (S:=fun k=>lo'≤k∧k < hi') (fun k a b=>⟨a,b⟩) hx)
  exact ⟨oa,cap,c0,c1,hk,hl⟩
end Go.Proofs.YtdbnfhpgmcjngabGreatDoor
/- Walks: a tree of its own that shares nothing. -/
namespace Go.Proofs.YtdbnfhpgmcjngabGreatDoor
open Go Go.RowKit
theorem UT.pr {w w':World} {t:Tr} {lo hi vl vk} (h:UT w t lo hi vl vk) (hp:Pr w w'):UT w' t lo hi vl vk:=h.carry fun k _ _ hl=>Below.block hp k hl
theorem UT.setCell {w:World} {t:Tr} {lo hi vl vk} (h:UT w t lo hi vl vk) (a:Addr) (u:Value) (ha:¬ (lo≤a.block∧a.block < hi)):UT (w.setCell a u) t lo hi vl vk :=
  h.carry fun k h1 h2 _=>Below.heap_setCell w a u k (fun e=>ha (by subst e;exact ⟨h1,h2⟩))
theorem UK.low {w:World} {ks:List Tr} {lo lo' hi b o} (hl:lo'≤lo) (h:UK w ks lo hi b o):UK w ks lo' hi b o:=by
  cases ks with
  | nil=>trivial
  | cons k ks=>obtain ⟨vl,vk,m1,mid,h1,h2,h3,h4⟩:=h;exact ⟨vl,vk,m1,mid,h1,h2,⟨by omega,h3.2⟩,h4⟩
theorem UT.low {w:World} {t:Tr} {lo lo' hi vl vk} (hl:lo'≤lo) (h:UT w t lo hi vl vk):UT w t lo' hi vl vk:=by
  cases t with
  | node l ks =>
    obtain ⟨h1,h2,oa,cap,b,o,h3,hc,h4,h5⟩:=h
    exact ⟨h1,by omega,oa,cap,b,o,h3,hc,fun hn=>⟨(h4 hn).1,⟨by have:=(h4 hn).2.1.1;omega,(h4 hn).2.1.2⟩,(h4 hn).2.2⟩,h5.low hl⟩
def UV (own:Option Nat) (w:World):List Tr→Nat→Nat→List Value→Prop
  | [],lo,hi,xs=>xs=[]∧lo≤hi
  | t :: ts,lo,hi,xs=>∃ vl vk ys m1 mid,xs=vl :: vk :: ys∧(lo≤m1∧mid≤hi)∧UT w t m1 mid vl vk∧(∀ k,m1≤k→k < mid→own≠some k)∧UV own w ts mid hi ys
theorem UV.carry {own own':Option Nat} {w w':World}:∀ {ts:List Tr} {lo hi xs},(∀ k,lo≤k→k < hi→k < w.heap.size→own≠some k→w'.heap[k]? = w.heap[k]? )→(∀ k,lo≤k→k < hi→own≠some k→own'≠some k)→UV own w ts lo hi xs→UV own' w' ts lo hi xs
  | [],_,_,_,_,_,h=>h
  | _ :: _,lo,hi,_,hk,ho,⟨vl,vk,ys,m1,mid,h1,h2,h3,h4,h5⟩=>by
    have hle:=h3.le
    have hle2:mid≤hi:=h2.2
    exact ⟨vl,vk,ys,m1,mid,h1,h2,UT.carry (fun k a b c=>hk k (by omega) (by omega) c (h4 k a b)) h3,fun k a b=>ho k (by omega) (by omega) (h4 k a b),UV.carry (fun k a b c d=>hk k (by omega) b c d) (fun k a b c=>ho k (by omega) b c) h5⟩
theorem UV.wide {own:Option Nat} {w:World}:∀ {ts:List Tr} {lo hi hi' xs},hi≤hi'→UV own w ts lo hi xs→UV own w ts lo hi' xs
  | [],_,_,_,_,h,hx=>⟨hx.1,by have:=hx.2;omega⟩
  | _ :: _,_,_,_,_,h,⟨vl,vk,ys,m1,mid,h1,h2,h3,h4,h5⟩=>⟨vl,vk,ys,m1,mid,h1,⟨h2.1,by omega⟩,h3,h4,UV.wide h h5⟩
theorem UV.snoc {own:Option Nat} {w:World} {t:Tr} {hi m1 m2:Nat} {vl vk:Value} (h:UT w t m1 m2 vl vk) (hm:hi≤m1) (ho:∀ k,m1≤k→k < m2→own≠some k):∀ {ts:List Tr} {lo xs},UV own w ts lo hi xs→UV own w (ts ++ [t]) lo m2 (xs ++ [vl,vk])
  | [],lo,xs,hx=>by
    obtain ⟨rfl,hx2⟩:=hx
    exact ⟨vl,vk,[],m1,m2,rfl,⟨by omega,Nat.le_refl _⟩,h,ho,rfl,Nat.le_refl _⟩
  | _ :: _,lo,xs,⟨ul,uk,ys,n1,mid,h1,h2,h3,h4,h5⟩=>by
    have:=h.le
    subst h1
    exact ⟨ul,uk,ys ++ [vl,vk],n1,mid,rfl,⟨h2.1,by omega⟩,h3,h4,UV.snoc h hm ho h5⟩
theorem UV.length {own:Option Nat} {w:World}:∀ {ts:List Tr} {lo hi xs},UV own w ts lo hi xs→xs.length=ts.length * 2
  | [],_,_,_,h=>by rw [h.1];rfl
  | _ :: _,_,_,_,⟨_,_,ys,_,_,h1,_,_,_,h5⟩=>by subst h1;have:=h5.length;simp;omega
theorem UV.le {own:Option Nat} {w:World}:∀ {ts:List Tr} {lo hi xs},UV own w ts lo hi xs→lo≤hi
  | [],_,_,_,h=>h.2
  | _ :: _,_,_,_,⟨_,_,_,_,_,_,h2,h3,_,h5⟩=>by have:=h3.le;omega
theorem UV.uk {g:Nat} {w:World}:∀ {ts:List Tr} {lo hi xs o},UV (some g) w ts lo hi xs→(∀ j u,xs[j]? = some u→w.cell? ⟨g,o+j,none⟩=some u)→UK w ts lo hi g o
  | [],_,_,_,_,_,_=>trivial
  | _ :: _,lo,hi,xs,o,⟨vl,vk,ys,m1,mid,h1,h2,h3,h4,h5⟩,hc=>by
    subst h1
    refine ⟨vl,vk,m1,mid,hc 0 vl rfl,hc 1 vk rfl,h2,h3,fun e=>h4 g e.1 e.2 rfl,h5.uk fun j u hu=>?_⟩
    have:=hc (j+2) u (by simpa using hu)
    rw [← this];congr 2;omega
def OwnsU (base hi:Nat) (w:World) (v:Value) (ts:List Tr):Prop:=hi≤w.heap.size∧∃ xs,w.ownsRow base 46 2 v ts.length xs∧UV v.ownBlock w ts base hi xs
theorem OwnsU.nil (base hi:Nat) (w:World) (h:base≤hi∧hi≤w.heap.size):OwnsU base hi w (.slice none 0 0) []:=⟨h.2,[],World.ownsRow_nil _ _ _ _,rfl,h.1⟩
theorem OwnsU.wide {base hi hi':Nat} {w:World} {v:Value} {ts:List Tr} (h:OwnsU base hi w v ts) (hh:hi≤hi'∧hi'≤w.heap.size):OwnsU base hi' w v ts:=by
  obtain ⟨h0,xs,h1,h2⟩:=h
  exact ⟨hh.2,xs,h1,h2.wide hh.1⟩
theorem OwnsU.block {base hi:Nat} {w:World} {v:Value} {ts:List Tr} (h:OwnsU base hi w v ts):∀ k,v.ownBlock=some k→base≤k∧k < w.heap.size:=by
  obtain ⟨_,xs,h1,_⟩:=h;exact h1.lt
theorem OwnsU.kept {b hi:Nat} {w w':World} {v:Value} {ts:List Tr} (h:OwnsU b hi w v ts) (hs:hi≤w'.heap.size) (hk:Kept (From b) w w'):OwnsU b hi w' v ts:=by
  obtain ⟨h0,xs,h1,h2⟩:=h
  refine ⟨hs,xs,ownsRow_kept h1 (fun k hk'=>hk k (h1.lt k hk').1 (h1.lt k hk').2),h2.carry (fun k a _ c _=>hk k a c) (fun _ _ _ h=>h)⟩
theorem OwnsU.pr {b hi:Nat} {w w':World} {v:Value} {ts:List Tr} (h:OwnsU b hi w v ts) (hk:Pr w w') (_:hi≤w.heap.size):OwnsU b hi w' v ts:=h.kept (by have:=h.1;have:=hk.size;omega) (hk.kept _)
theorem OwnsU.setCell {b hi:Nat} {w:World} {v:Value} {ts:List Tr} (h:OwnsU b hi w v ts) (a:Addr) (u:Value) (ha:a.block < b):OwnsU b hi (w.setCell a u) v ts :=
  h.kept (by have:=h.1;simpa using this) (kept_setCell _ w a u (by show ¬ b≤a.block;omega))
theorem OwnsU.ut {b hi:Nat} {w:World} {v:Value} {ts:List Tr} (h:OwnsU b hi w v ts):∃ oa cap,v=.slice oa ts.length cap∧∀ l,l.size≤maxLen→∀ lo,lo≤b→UT w (.node l ts) lo w.heap.size (.string l) (.slice oa ts.length cap):=by
  obtain ⟨h0,xs,h1,h2⟩:=h
  have hle:=h2.le
  rcases h1.2 with ⟨rfl,hn⟩ | ⟨g,cap,cur,rfl,hb,hg,hnc,hcm,_⟩
  · have:ts=[]:=List.eq_nil_of_length_eq_zero hn
    subst this
    exact ⟨none,0,rfl,fun l hl lo hlo=>⟨⟨rfl,hl⟩,by omega,none,0,0,0,rfl,⟨Nat.le_refl _,Nat.zero_le _⟩,fun h=>absurd rfl h,trivial⟩⟩
  · have hlt:=(h1.lt g rfl).2
    have hc:∀ j u,xs[j]? = some u→w.cell? ⟨g,0+j,none⟩=some u:=fun j u hu=>by
      have:=World.ownsRow.cells h1 (g:=g) rfl j u hu
      simpa [Addr.add_lit] using this
    refine ⟨_,cap,rfl,fun l hl lo hlo=>⟨⟨rfl,hl⟩,by omega,some ⟨g,0,none⟩,cap,g,0,rfl,⟨hnc,hcm⟩,fun _=>⟨rfl,⟨by omega,hlt⟩,fun j=>blk_frozen hg⟩,UK.low hlo ((UV.wide h0 h2).uk hc)⟩⟩
section
variable {ops:Array Oper} {o:Oper} {a:Act} {w:World} {rest:List Oper} {Q:Exit→Act→World→Prop}
theorem step_treeU {K:Act→World→Prop} {E:Prop} (hgd:o.guard=none) (s x:Operand) (ho:o.op=.call { callee:=.builtin .append,args:=#[s,x],argTypes:=#[44,44] })
    (b hi:Nat) (v:Value) (ts:List Tr) (hs:a.eval s=v) (hown:OwnsU b hi w v ts) (B:Nat) (hx:a.eval x=.slice (some ⟨B,0,none⟩) 1 1) (t:Tr) (vl vk:Value) (m1 m2:Nat)
    (hB:w.heap[B]? = some (.cells #[vl,vk] 46 (0,0))) (ht:UT w t m1 m2 vl vk) (hm:hi≤m1) (hap:∀ k,m1≤k→k < m2→v.ownBlock≠some k) (hms:m2≤w.heap.size) (hlen:ts.length≤1000000000) (hbase:b≤w.heap.size)
    (h:∀ g cap w',OwnsU b m2 w' (.slice (some ⟨g,0,none⟩) (ts.length+1) cap) (ts ++ [t])→w.grownBy w' v.ownBlock→(v.ownBlock=some g∨g=w.heap.size)→K (a.put o.dst (.slice (some ⟨g,0,none⟩) (ts.length+1) cap)) w') :
    if Region.wanted o (yielded ops a.tmps)=true then Oper.wp Tryz.prog o a w K Q else E:=by
  obtain ⟨i0,hi0,hz0,hz1,hz2⟩:=info_parts info_tree
  obtain ⟨h0,xs,h1,h2⟩:=hown
  have h1c:=(UT.treeV (S:=Any) (fun _ _ _=>trivial) ht).one
  refine step_append_lies w hgd s x _ ho b _ i0 _ 2 40 under_trees hi0 hz0 hz1 hz2 rfl (by omega) v ts.length xs hs h1 ⟨B,0,none⟩ 1 1 [vl,vk] hx rfl (World.news_of_block (cs:=#[vl,vk]) hB)
    (by intro u hu;simp at hu;rcases hu with rfl | rfl;exact h1c.1;exact h1c.2) (by omega) (by unfold maxLen;omega) (by omega) hbase w.heap.size rfl ?_
  intro g cap w' g1 g2 g3 _
  refine h g cap w' ⟨by have:=g2.size;omega,xs ++ [vl,vk],by rw [List.length_append];exact g1,?_⟩ g2 g3
  show UV (some g) w' _ _ _ _
  have h3:=UV.snoc ht hm hap h2
  refine h3.carry (fun k _ _ c d=>g2.block k c (fun e=>d e.symm)) (fun k _ c d=>?_)
  rcases g3 with g3 | g3
  · rw [← g3];exact d
  · intro e;cases e;omega
end
def OwnUPost (w:World) (l:ByteArray) (ks:List Tr) (e:Ending) (w':World):Prop:=∃ oa cap,e=.returned (.agg #[.string l,.slice oa ks.length cap])∧UT w' (.node l ks) w.heap.size w'.heap.size (.string l) (.slice oa ks.length cap)∧Pr w w'
set_option maxHeartbeats 1600000 in
theorem ownU_step (N : Nat) : ∀ (l : ByteArray) (ks : List Tr) (oa cap) (w : World), Tr.szL ks < N → Tr.szL ks ≤ 1000000 → l.size ≤ maxLen → Kids Any w ks oa cap →
      Calls Tryz.prog 83 #[.agg #[.string l,.slice oa ks.length cap]] w (OwnUPost w l ks):=by
  induction N with
  | zero=>intro l ks oa cap w hN;omega
  | succ N ih =>
    have Ih:=Lib.hid ih;clear ih
    intro l ks oa cap w hN hsm hll hk
    have hm:=hk.len
    have hm2:=Tr.length_le ks
    go_enter Tryz.func83,Tryz.ntmps83
    go_wp2_with fail
    go_loopw [12] (fun i wr=>∃ (k:Nat) (v:Value),k≤ks.length∧i=.int .i64 k∧OwnsU (w.heap.size+1+1+1) wr.heap.size wr v (ks.take k)∧wr.heap[w.heap.size+1+1]? = some (.cells #[.string l,v] 46 (0,0)) ∧
      Pr ((w.alloc (.cells #[.string l,.slice oa ks.length cap] 46)).alloc (.cells #[.string ⟨#[]⟩,.slice none 0 0] 46)) wr) (fun i _=>ks.length - (intOf i).toNat)
    case atStart=>exact ⟨0,.slice none 0 0,by omega,rfl,by simpa using OwnsU.nil _ _ _ (by simp),by simpa using heap_alloc_new ((w.alloc (.cells #[.string l,.slice oa ks.length cap] 46)).alloc (.cells #[.string ⟨#[]⟩,.slice none 0 0] 46)) (.cells #[.string l,.slice none 0 0] 46),Pr.alloc _ _⟩
    case round =>
      obtain ⟨k,v,hkl,rfl,hown,hblk,hb⟩:=hrel
      have hbs:=hb.size
      simp at hbs
      have g1:wr.cell? ⟨w.heap.size+1+1,1,none⟩=some v:=blk_cell hblk
      have g1':∀ o,(wr.alloc o).cell? ⟨w.heap.size+1+1,1,none⟩=some v:=fun o=>(Pr.alloc _ o).cell g1
      have g2:wr.frozen? ⟨w.heap.size+1+1,1,none⟩=false:=blk_frozen hblk
      have g3:=blk_lt hblk
      by_cases hlt:k < ks.length
      · obtain ⟨b,o,l',ks',oa',cap',e1,hl',rfl,c0,c1,hk'⟩:=((hk.pr (Pr.alloc' (Pr.alloc _ _) _)).pr hb).get k hlt
        have hsz:=Tr.szL_get ks k hlt
        have hsn:=List.take_succ_eq_append_getElem hlt
        rw [e1] at hsz hsn
        have Hsn:=Lib.hid hsn
        clear e1 hsn
        simp only [Tr.sz] at hsz
        have htl:(ks.take k).length≤1000000:=by rw [List.length_take];omega
        have Hbk:=Lib.hid hblk
        clear hblk
        go_wp2_with fail
        go_region_law (first
            | (go_simp;go_at_call 83;refine (Ih.out _ _ _ _ _ (by omega) (by omega) hl' (hk'.pr (Pr.drew' (Pr.alloc _ _)))).mono ?_;rintro e w1 ⟨oa2,cap2,rfl,hk2,hb1⟩
               have s1:=hb1.cell ((Pr.drew' (Pr.alloc _ _)).cell g1);have s1':=fun o=>(Pr.alloc w1 o).cell s1;have s2:=hb1.cell (b:=wr.heap.size) (o:=0) (v:=.string l') (by simp [go_sem]);have s3:=hb1.cell (b:=wr.heap.size) (o:=1) (v:=.slice oa' ks'.length cap') (by simp [go_sem]))
            | (refine step_treeU rfl _ _ rfl (w.heap.size+1+1+1) wr.heap.size v (ks.take k) rfl (((hown.pr (Pr.drew' (Pr.alloc _ _)) (Nat.le_refl _)).pr hb1 (by simp)).pr (Pr.alloc _ _) (by have:=hb1.size;simp at this;omega)) w1.heap.size rfl (.node l' ks') _ _ wr.heap.size w1.heap.size (heap_alloc_new w1 _) (UT.pr (UT.low (by simp) hk2) (Pr.alloc _ _)) (Nat.le_refl _) (fun q q1 _ e=>by have:=(hown.block q e).2;omega) (by simp) (by omega) (by have:=hb1.size;simp at this ⊢;omega) ?_;intro g cap3 w2 ho2 hg2 hat2
               have n1:v.ownBlock≠some (w.heap.size+1+1):=fun e=>by have:=(hown.block _ e).1;omega
               have n2:v.ownBlock≠some wr.heap.size:=fun e=>by have:=(hown.block _ e).2;omega
               have B2:=Lib.hid (grown_blk hg2 ((Pr.alloc w1 _).blk (hb1.blk ((Pr.drew' (Pr.alloc _ _)).blk Hbk.out))) n1)
               have t1:w2.cell? ⟨w.heap.size+1+1,1,none⟩=some v:=blk_cell (o:=1) B2.out;have t2:=hg2.cell ((Pr.alloc w1 _).cell s2) (fun e=>n2 e.symm);have t3:=hg2.cell ((Pr.alloc w1 _).cell s3) (fun e=>n2 e.symm);have t4:=blk_frozen (o:=1) B2.out))
        all_goals
          go_wp2_with fail
          have hl2:(ks.take k).length=k:=by simp;omega
          rw [hl2] at ho2
          refine ⟨⟨k+1,.slice (some ⟨g,0,none⟩) (k+1) cap3,by omega,by go_num,?_,blk_set B2.out _,?_⟩,?_⟩
          · rw [Hsn.out];exact (ho2.wide (by have:=hg2.size;simp at this ⊢;omega)).setCell _ _ (by simp)
          · refine Pr.setCell (Below.grown (((hb.trans ((Pr.alloc _ _).drew')).trans hb1).alloc' _) hg2 ?_ ?_) (by simp) _
            · have:=hb1.size;simp at this ⊢;omega
            · intro k' hk';have:=(hown.block k' hk').1;simp;omega
          · simp [intOf];omega
      · have hkv:k=ks.length:=by omega
        have r0:=hb.cell (b:=w.heap.size+1) (o:=0) (v:=.string ⟨#[]⟩) (by simp [go_sem])
        have r1:=hb.cell (b:=w.heap.size+1) (o:=1) (v:=.slice none 0 0) (by simp [go_sem])
        have f0:wr.frozen? ⟨w.heap.size+1,0,none⟩=false:=by rw [hb.frozen (by simp)];simp [go_sem]
        have f1:wr.frozen? ⟨w.heap.size+1,1,none⟩=false:=by rw [hb.frozen (by simp)];simp [go_sem]
        have g0:wr.cell? ⟨w.heap.size+1+1,0,none⟩=some (.string l):=blk_cell hblk
        obtain ⟨oa2,cap2,rfl,hk2⟩:=hown.ut
        have hkl2:(ks.take k).length=ks.length:=by rw [hkv,List.take_length]
        rw [hkl2] at g1 hblk hown
        have Hbk:=Lib.hid hblk
        clear hblk hkl2
        go_wp2_with fail
        have hkt:ks.take k=ks:=by rw [hkv,List.take_length]
        rw [hkt] at hk2
        refine bodyPost_ret (v:=.agg #[.string l,.slice oa2 ks.length cap2]) (by simp [results,Tryz.results83,go_sem,r0,r1]) rfl ⟨oa2,cap2,rfl,?_,?_⟩
        · have h9:=UT.low (lo':=w.heap.size) (by omega) (UT.setCell (UT.setCell (hk2 l hll (w.heap.size+1+1) (by omega)) ⟨w.heap.size+1,0,none⟩ (.string l) (by simp;omega)) ⟨w.heap.size+1,1,none⟩ (.slice oa2 ks.length cap2) (by simp;omega))
          simpa using h9
        · exact ((((Pr.alloc _ _).trans ((Pr.alloc _ _).trans hb))).setCell (by simp) _).setCell (by simp) _
theorem ownU_any (l:ByteArray) (ks:List Tr) (oa cap) (w:World) (h:Tr.szL ks≤1000000) (hl:l.size≤maxLen) (hk:Kids Any w ks oa cap) :
    Calls Tryz.prog 83 #[.agg #[.string l,.slice oa ks.length cap]] w (OwnUPost w l ks):=ownU_step _ l ks oa cap w (Nat.lt_succ_self _) h hl hk
end Go.Proofs.YtdbnfhpgmcjngabGreatDoor
