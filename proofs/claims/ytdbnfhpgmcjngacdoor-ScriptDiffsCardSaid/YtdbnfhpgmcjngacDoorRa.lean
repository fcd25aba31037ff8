/- Walks: the document's table: what it is in memory; its name. -/
import Derived.Test.YtdbnfhpgmcjngacDoorBdf
namespace Go.Proofs.YtdbnfhpgmcjngacDoor
open Go Go.RowKit
def atN (n m i0 i j0 j:Nat):Nat:=((i0 * n+i) * m+j0) * m+j
theorem mulAdd_lt {a A b m:Nat} (h:a < A) (hb:b < m):a * m+b < A * m:=by
  have:(a+1) * m≤A * m:=Nat.mul_le_mul_right m h
  rw [Nat.add_mul] at this;omega
theorem mulAdd_inj {a a' b b' m:Nat} (hb:b < m) (hb':b' < m) (h:a * m+b=a' * m+b'):a=a'∧b=b':=by
  have ha:a=a':=by
    rcases Nat.lt_trichotomy a a' with h1 | h1 | h1
    · have:=Nat.mul_le_mul_right m h1;rw [Nat.succ_mul] at this;omega
    · exact h1
    · have:=Nat.mul_le_mul_right m h1;rw [Nat.succ_mul] at this;omega
  subst ha;exact ⟨rfl,by omega⟩
theorem atN_lt {n m i0 i j0 j:Nat} (h1:i0 < n) (h2:i < n) (h3:j0 < m) (h4:j < m):atN n m i0 i j0 j < n * n * m * m :=
  mulAdd_lt (mulAdd_lt (mulAdd_lt h1 h2) h3) h4
theorem atN_inj {n m i0 i j0 j i0' i' j0' j':Nat} (h2:i < n) (h3:j0 < m) (h4:j < m) (h2':i' < n) (h3':j0' < m) (h4':j' < m) (h:atN n m i0 i j0 j=atN n m i0' i' j0' j'):i0=i0'∧i=i'∧j0=j0'∧j=j':=by
  obtain ⟨a,b⟩:=mulAdd_inj h4 h4' h
  obtain ⟨a,c⟩:=mulAdd_inj h3 h3' a
  obtain ⟨a,d⟩:=mulAdd_inj h2 h2' a
  exact ⟨a,d,c,b⟩
structure Apt (w:World) (B:Nat) (xs ys:List Nd) (xb xo xc yb yo yc g K:Nat):Prop where
  blk:w.heap[B]? = some (.cells #[.slice (some ⟨xb,xo,none⟩) xs.length xc,.slice (some ⟨yb,yo,none⟩) ys.length yc,.int .i64 ((xs.length:Int)+1),.int .i64 ((ys.length:Int)+1),.slice (some ⟨g,0,none⟩) K K] 85 (0,0))
  nx:∀ i (_:i < xs.length),w.cell? ⟨xb,xo+i * 3,none⟩=some (.string xs[i].lab)∧w.cell? ⟨xb,xo+i * 3+1,none⟩=some (.int .i64 xs[i].par)∧w.cell? ⟨xb,xo+i * 3+2,none⟩=some (.int .i64 xs[i].left)
  ny:∀ i (_:i < ys.length),w.cell? ⟨yb,yo+i * 3,none⟩=some (.string ys[i].lab)∧w.cell? ⟨yb,yo+i * 3+1,none⟩=some (.int .i64 ys[i].par)∧w.cell? ⟨yb,yo+i * 3+2,none⟩=some (.int .i64 ys[i].left)
  big:K=(xs.length+1) * (xs.length+1) * (ys.length+1) * (ys.length+1)
  ne:B≠g∧xb≠g∧yb≠g
def Memo (w:World) (g K:Nat) (xs ys:List Nd):Prop :=
  ∃ M:Nat→Int,w.heap[g]? = some (.cells (rowV K M) 3 (0,0)) ∧
    ∀ i0 i j0 j,i0≤i→i≤xs.length→j0≤j→j≤ys.length→M (atN (xs.length+1) (ys.length+1) i0 i j0 j)=0∨M (atN (xs.length+1) (ys.length+1) i0 i j0 j)=(fdn xs ys i0 i j0 j:Int)+1
theorem Chg.cell {X:Nat→Prop} {w w1:World} (h:Chg X w w1) {b o:Nat} {v:Value} (hc:w.cell? ⟨b,o,none⟩=some v) (hX:¬ X b):w1.cell? ⟨b,o,none⟩=some v:=by
  have hb:b < w.heap.size:=by
    rcases Nat.lt_or_ge b w.heap.size with h' | h'
    · exact h'
    · simp [World.cell?,Array.getElem?_eq_none h'] at hc
  unfold World.cell? at hc ⊢
  rw [show (⟨b,o,none⟩:Addr).block=b from rfl] at *
  rw [h.block b hb hX];exact hc
section
variable {w:World} {B:Nat} {xs ys:List Nd} {xb xo xc yb yo yc g K:Nat}
theorem Apt.chg {w':World} (h:Apt w B xs ys xb xo xc yb yo yc g K) (hc:Chg (fun k=>k=g) w w'):Apt w' B xs ys xb xo xc yb yo yc g K :=
  ⟨hc.blk h.blk h.ne.1,fun i hi=>⟨hc.cell (h.nx i hi).1 h.ne.2.1,hc.cell (h.nx i hi).2.1 h.ne.2.1,hc.cell (h.nx i hi).2.2 h.ne.2.1⟩,
    fun i hi=>⟨hc.cell (h.ny i hi).1 h.ne.2.2,hc.cell (h.ny i hi).2.1 h.ne.2.2,hc.cell (h.ny i hi).2.2 h.ne.2.2⟩,h.big,h.ne⟩
theorem Apt.pr {w':World} (h:Apt w B xs ys xb xo xc yb yo yc g K) (hp:Pr w w'):Apt w' B xs ys xb xo xc yb yo yc g K:=h.chg (hp.chg _)
theorem Memo.pr {w':World} (h:Memo w g K xs ys) (hp:Pr w w'):Memo w' g K xs ys:=by
  obtain ⟨M,h1,h2⟩:=h;exact ⟨M,hp.blk h1,h2⟩
theorem Memo.store (h:Memo w g K xs ys) {i0 i j0 j:Nat} (_:i0≤i) (hi':i≤xs.length) (hj:j0≤j) (hj':j≤ys.length) (v:Int) (hv:v=(fdn xs ys i0 i j0 j:Int)+1) :
    Memo (w.setCell ⟨g,atN (xs.length+1) (ys.length+1) i0 i j0 j,none⟩ (.int .i64 v)) g K xs ys:=by
  obtain ⟨M,h1,h2⟩:=h
  have h3:=blk_set (o:=atN (xs.length+1) (ys.length+1) i0 i j0 j) h1 (.int .i64 v)
  rw [rowV_set] at h3
  refine ⟨_,h3,fun a b c d ha hb hc hd=>?_⟩
  by_cases he:atN (xs.length+1) (ys.length+1) a b c d=atN (xs.length+1) (ys.length+1) i0 i j0 j
  · obtain ⟨rfl,rfl,rfl,rfl⟩:=atN_inj (by omega) (by omega) (by omega) (by omega) (by omega) (by omega) he
    right;rw [if_pos rfl,hv]
  · rw [if_neg he];exact h2 a b c d ha hb hc hd
theorem Memo.cell (h:Memo w g K xs ys) (hK:K=(xs.length+1) * (xs.length+1) * (ys.length+1) * (ys.length+1)) {i0 i j0 j:Nat} (hi:i0≤i) (hi':i≤xs.length) (hj:j0≤j) (hj':j≤ys.length) :
    ∃ v:Int,w.cell? ⟨g,atN (xs.length+1) (ys.length+1) i0 i j0 j,none⟩=some (.int .i64 v)∧(v=0∨v=(fdn xs ys i0 i j0 j:Int)+1):=by
  obtain ⟨M,h1,h2⟩:=h
  refine ⟨_,?_,h2 i0 i j0 j hi hi' hj hj'⟩
  rw [blk_cell h1,rowV_get]
  rw [hK];exact atN_lt (by omega) (by omega) (by omega) (by omega)
theorem Memo.frozen (h:Memo w g K xs ys) (o:Nat):w.frozen? ⟨g,o,none⟩=false:=by
  obtain ⟨M,h1,_⟩:=h;exact blk_frozen h1
theorem rname_any (h:Apt w B xs ys xb xo xc yb yo yc g K) (i j:Nat) (hi:i < xs.length) (hj:j < ys.length) :
    Calls Tryd.prog 83 #[.pointer (some ⟨B,0,none⟩),.int .i64 i,.int .i64 j] w fun e w'=>e=.returned (.int .i64 (lc (labN xs i) (labN ys j):Nat))∧∃ m,w'=w.drewN m:=by
  have b0:w.cell? ⟨B,0,none⟩=some (.slice (some ⟨xb,xo,none⟩) xs.length xc):=blk_cell h.blk
  have b1:w.cell? ⟨B,1,none⟩=some (.slice (some ⟨yb,yo,none⟩) ys.length yc):=blk_cell h.blk
  have x0:=(h.nx i hi).1
  have y0:=(h.ny j hj).1
  rw [labN_get xs i hi,labN_get ys j hj]
  generalize xs[i].lab=l at *
  generalize ys[j].lab=m at *
  have hi':(i:Int) < xs.length:=by omega
  have hj':(j:Int) < ys.length:=by omega
  have hi0:(0:Int)≤i:=by omega
  have hj0:(0:Int)≤j:=by omega
  clear h
  by_cases he:l=m
  · subst he
    have hl:lc l l=0:=lc_self l
    have Hl:=Lib.hid hl
    clear hl
    go_enter Tryd.func83,Tryd.ntmps83
    go_wp2_with fail
    go_quiet (fail)
    go_wp2_with fail
    go_ret
    exact ⟨by rw [Hl.out];rfl,nq,rfl⟩
  · have hl:lc l m=1:=if_neg he
    have hn:(l.toList==m.toList)=false:=by simpa using toList_ne he
    have Hl:=Lib.hid hl
    clear hl
    go_enter Tryd.func83,Tryd.ntmps83
    go_wp2_with fail
    go_quiet (fail)
    go_wp2_with fail
    go_ret
    exact ⟨by rw [Hl.out];rfl,nq,rfl⟩
end
end Go.Proofs.YtdbnfhpgmcjngacDoor
