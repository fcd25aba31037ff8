/- Tables of numbers in memory, of one's own: rows in blocks, and the block of the rows. -/
import Derived.Test.YtdbnfhpgmcjngabGreatDoorBmt
import Derived.Deep.OwnRows
import Derived.Test.YtdbnfhpgmcjngabGreatDoorBpl
import Derived.Test.YtdbnfhpgmcjngabGreatDoorBwa
import Derived.WalkLawsBesides
import Derived.Test.YtdbnfhpgmcjngabGreatDoorBqt
import Derived.Deep.CutBlock
import Derived.Test.YtdbnfhpgmcjngabGreatDoorBwn
import Derived.Test.YtdbnfhpgmcjngabGreatDoorLa
namespace Go.Proofs.YtdbnfhpgmcjngabGreatDoor
open Go Go.RowKit
def rowV (m:Nat) (D:Nat→Int):Array Value:=((List.range m).map fun y=>Value.int .i64 (D y)).toArray
def outV (n k m:Nat) (bs:Nat→Nat):Array Value:=((List.range n).map fun x=>if x < k then Value.slice (some ⟨bs x,0,none⟩) m m else .slice none 0 0).toArray
structure Mat (w:World) (g n k m:Nat) (bs:Nat→Nat) (D:Nat→Nat→Int):Prop where
  out:w.heap[g]? = some (.cells (outV n k m bs) 53 (0,0))
  row:∀ x,x < k→w.heap[bs x]? = some (.cells (rowV m (D x)) 3 (0,0))
  inj:∀ x y,x < k→y < k→bs x=bs y→x=y
  ne:∀ x,x < k→bs x≠g
theorem rowV_get {m y:Nat} (D:Nat→Int) (h:y < m):(rowV m D)[y]? = some (.int .i64 (D y)):=by simp [rowV,h]
theorem rowV_set {m y:Nat} (D:Nat→Int) (v:Int):(rowV m D).setIfInBounds y (.int .i64 v)=rowV m (fun y'=>if y'=y then v else D y'):=by
  unfold rowV
  rw [List.setIfInBounds_toArray]
  congr 1
  refine List.ext_getElem? fun i=>?_
  rw [List.getElem?_set]
  by_cases h:y=i
  · subst h
    by_cases hm:y < m
    · simp [hm]
    · simp [hm]
  · rw [if_neg h]
    by_cases hm:i < m
    · simp [hm,Ne.symm h]
    · simp [hm]
theorem rowV_zero (m:Nat):rowV m (fun _=>0)=Array.replicate m (.int .i64 0):=by
  apply Array.ext'
  simp [rowV]
  refine List.ext_getElem? fun i=>?_
  by_cases hm:i < m
  · simp [hm]
  · simp [hm]
theorem outV_get {n k m x:Nat} (bs:Nat→Nat) (h:x < n) (hk:x < k):(outV n k m bs)[x]? = some (.slice (some ⟨bs x,0,none⟩) m m):=by simp [outV,h,hk]
theorem outV_nil {n k m x:Nat} (bs:Nat→Nat) (h:x < n) (hk:¬ x < k):(outV n k m bs)[x]? = some (.slice none 0 0):=by simp [outV,h,hk]
theorem outV_zero (n m:Nat) (bs:Nat→Nat):outV n 0 m bs=Array.replicate n (.slice none 0 0):=by
  apply Array.ext'
  simp [outV]
  refine List.ext_getElem? fun i=>?_
  by_cases hm:i < n
  · simp [hm]
  · simp [hm]
theorem outV_set {n k m:Nat} (bs:Nat→Nat) (b:Nat) (_:k < n):(outV n k m bs).setIfInBounds k (.slice (some ⟨b,0,none⟩) m m)=outV n (k+1) m (fun x=>if x=k then b else bs x):=by
  unfold outV
  rw [List.setIfInBounds_toArray]
  congr 1
  refine List.ext_getElem? fun i=>?_
  rw [List.getElem?_set]
  by_cases h:k=i
  · subst h
    simp [*]
  · rw [if_neg h]
    by_cases hm:i < n
    · have h1:(i < k+1)↔i < k:=by omega
      have h2:¬ i=k:=fun e=>h e.symm
      simp [hm,h1,h2]
    · simp [hm]
theorem made_one (z:Value) (n:Nat):madeCells #[z] n=Array.replicate n z:=by
  apply Array.ext
  · simp [madeCells]
  · intro i h1 h2
    simp [madeCells,Nat.mod_one]
theorem under_rows:Tryz.prog.underlying 162=some (.slice 53):=by kernel_rfl
theorem info_ints:(Tryz.prog.info? 53).map (fun i=>(i.zero,i.size,i.bytes))=some (some (.slice none 0 0),1,24):=by kernel_rfl
theorem make_rows (n m:Nat) (bs:Nat→Nat) (hn:n≤1000000) (W:World):(Instr.makeSlice 162 (.int .i64 n) (.int .i64 n)).run Tryz.prog W=.ok (.slice (some ⟨W.heap.size,0,none⟩) n n) (W.alloc (.cells (outV n 0 m bs) 53)):=by
  rw [outV_zero,← made_one]
  exact Go.run_make_row' _ _ _ 24 under_rows info_ints rfl .i64 .i64 n (by omega) (by omega) W
theorem make_ints (m:Nat) (hn:m≤1000000) (W:World):(Instr.makeSlice 53 (.int .i64 m) (.int .i64 m)).run Tryz.prog W=.ok (.slice (some ⟨W.heap.size,0,none⟩) m m) (W.alloc (.cells (rowV m (fun _=>0)) 3)):=by
  rw [rowV_zero,← made_one]
  exact Go.run_make_row' _ _ _ 8 under_intsT info_int rfl .i64 .i64 m (by omega) (by omega) W
section
variable {w:World} {g n k m:Nat} {bs:Nat→Nat} {D:Nat→Nat→Int}
theorem Mat.slice (h:Mat w g n k m bs D) {x:Nat} (hx:x < k) (hn:x < n):w.cell? ⟨g,x,none⟩=some (.slice (some ⟨bs x,0,none⟩) m m):=by
  rw [blk_cell h.out];exact outV_get bs hn hx
theorem Mat.cell (h:Mat w g n k m bs D) {x y:Nat} (hx:x < k) (hy:y < m):w.cell? ⟨bs x,y,none⟩=some (.int .i64 (D x y)):=by
  rw [blk_cell (h.row x hx)];exact rowV_get (D x) hy
theorem Mat.frozen (h:Mat w g n k m bs D) {x:Nat} (hx:x < k) (y:Nat):w.frozen? ⟨bs x,y,none⟩=false:=blk_frozen (h.row x hx)
theorem Mat.frozenOut (h:Mat w g n k m bs D) (x:Nat):w.frozen? ⟨g,x,none⟩=false:=blk_frozen h.out
theorem Mat.pr {w':World} (h:Mat w g n k m bs D) (hp:Pr w w'):Mat w' g n k m bs D:=⟨hp.blk h.out,fun x hx=>hp.blk (h.row x hx),h.inj,h.ne⟩
theorem Mat.chg {w':World} {X:Nat→Prop} (h:Mat w g n k m bs D) (hp:Chg X w w') (hg:¬ X g) (hb:∀ x,x < k→¬ X (bs x)):Mat w' g n k m bs D:=⟨hp.blk h.out hg,fun x hx=>hp.blk (h.row x hx) (hb x hx),h.inj,h.ne⟩
theorem Mat.store (h:Mat w g n k m bs D) {x y:Nat} (hx:x < k) (v:Int):Mat (w.setCell ⟨bs x,y,none⟩ (.int .i64 v)) g n k m bs (fun x' y'=>if x'=x∧y'=y then v else D x' y'):=by
  refine ⟨?_,fun x' hx'=>?_,h.inj,h.ne⟩
  · rw [Below.heap_setCell _ _ _ _ (fun e=>h.ne x hx e.symm)];exact h.out
  · by_cases he:x'=x
    · subst he
      have:=blk_set (o:=y) (h.row x' hx) (.int .i64 v)
      rw [rowV_set] at this
      rw [this]
      simp
    · rw [Below.heap_setCell _ _ _ _ (fun e=>he (h.inj _ _ hx' hx e))]
      rw [h.row x' hx']
      simp [he]
theorem Mat.grow (h:Mat w g n k m bs D) (hk:k < n) :
    Mat ((w.setCell ⟨g,k,none⟩ (.slice (some ⟨w.heap.size,0,none⟩) m m)).alloc (.cells (rowV m (fun _=>0)) 3)) g n (k+1) m (fun x=>if x=k then w.heap.size else bs x) (fun x y=>if x=k then 0 else D x y):=by
  have hgl:=blk_lt h.out
  have hbl:∀ x,x < k→bs x < w.heap.size:=fun x hx=>blk_lt (h.row x hx)
  have hsz:(w.setCell ⟨g,k,none⟩ (.slice (some ⟨w.heap.size,0,none⟩) m m)).heap.size=w.heap.size:=by simp [World.setCell]
  refine ⟨?_,fun x hx=>?_,fun x y hx hy e=>?_,fun x hx=>?_⟩
  · have:=(Pr.alloc _ (.cells (rowV m (fun _=>0)) 3)).blk (blk_set (o:=k) h.out (.slice (some ⟨w.heap.size,0,none⟩) m m))
    rw [outV_set bs _ hk] at this
    exact this
  · by_cases he:x=k
    · subst he
      simp only [if_true]
      have:=heap_alloc_new (w.setCell ⟨g,x,none⟩ (.slice (some ⟨w.heap.size,0,none⟩) m m)) (.cells (rowV m (fun _=>0)) 3)
      rw [hsz] at this
      exact this
    · simp only [if_neg he]
      have hx':x < k:=by omega
      refine (Pr.alloc _ _).blk ?_
      rw [Below.heap_setCell _ _ _ _ (h.ne x hx')]
      exact h.row x hx'
  · by_cases h1:x=k
    · by_cases h2:y=k
      · omega
      · have:=hbl y (by omega)
        rw [if_pos h1,if_neg h2] at e;omega
    · by_cases h2:y=k
      · have:=hbl x (by omega)
        rw [if_neg h1,if_pos h2] at e;omega
      · rw [if_neg h1,if_neg h2] at e
        exact h.inj x y (by omega) (by omega) e
  · by_cases h1:x=k
    · simp only [if_pos h1];omega
    · simp only [if_neg h1];exact h.ne x (by omega)
theorem Mat.ext {D':Nat→Nat→Int} (h:Mat w g n k m bs D) (he:∀ x y,x < k→y < m→D x y=D' x y):Mat w g n k m bs D':=by
  refine ⟨h.out,fun x hx=>?_,h.inj,h.ne⟩
  rw [h.row x hx]
  congr 2
  unfold rowV
  congr 1
  refine List.map_congr_left fun y hy=>?_
  rw [he x y hx (by simpa using hy)]
end
end Go.Proofs.YtdbnfhpgmcjngabGreatDoor
/- Walks: the table of two trees: name, pair. -/
namespace Go.Proofs.YtdbnfhpgmcjngabGreatDoor
open Go Go.RowKit
structure Tbl (w:World) (B:Nat) (xs ys:List Nd) (xb xo xc yb yo yc g:Nat) (bs:Nat→Nat) (D:Nat→Nat→Int):Prop where
  blk:w.heap[B]? = some (.cells #[.slice (some ⟨xb,xo,none⟩) xs.length xc,.slice (some ⟨yb,yo,none⟩) ys.length yc,.slice (some ⟨g,0,none⟩) xs.length xs.length] 164 (0,0))
  nx:∀ i (_:i < xs.length),w.cell? ⟨xb,xo+i * 3,none⟩=some (.string xs[i].lab)∧w.cell? ⟨xb,xo+i * 3+1,none⟩=some (.int .i64 xs[i].par)∧w.cell? ⟨xb,xo+i * 3+2,none⟩=some (.int .i64 xs[i].left)
  ny:∀ i (_:i < ys.length),w.cell? ⟨yb,yo+i * 3,none⟩=some (.string ys[i].lab)∧w.cell? ⟨yb,yo+i * 3+1,none⟩=some (.int .i64 ys[i].par)∧w.cell? ⟨yb,yo+i * 3+2,none⟩=some (.int .i64 ys[i].left)
  mat:Mat w g xs.length xs.length ys.length bs D
section
variable {w:World} {B:Nat} {xs ys:List Nd} {xb xo xc yb yo yc g:Nat} {bs:Nat→Nat} {D:Nat→Nat→Int}
theorem Tbl.pr {w':World} (h:Tbl w B xs ys xb xo xc yb yo yc g bs D) (hp:Pr w w'):Tbl w' B xs ys xb xo xc yb yo yc g bs D :=
  ⟨hp.blk h.blk,fun i hi=>⟨hp.cell (h.nx i hi).1,hp.cell (h.nx i hi).2.1,hp.cell (h.nx i hi).2.2⟩,fun i hi=>⟨hp.cell (h.ny i hi).1,hp.cell (h.ny i hi).2.1,hp.cell (h.ny i hi).2.2⟩,h.mat.pr hp⟩
theorem toList_eq {a b:ByteArray}:a.data.toList=b.data.toList↔a=b:=by
  constructor
  · intro h;cases a;cases b;congr;exact Array.toList_inj.1 h
  · intro h;rw [h]
theorem name_any (h:Tbl w B xs ys xb xo xc yb yo yc g bs D) (i j:Nat) (hi:i < xs.length) (hj:j < ys.length) :
    Calls Tryz.prog 110 #[.pointer (some ⟨B,0,none⟩),.int .i64 i,.int .i64 j] w fun e w'=>e=.returned (.int .i64 (lc (labN xs i) (labN ys j):Nat))∧∃ m,w'=w.drewN m:=by
  have b0:w.cell? ⟨B,0,none⟩=some (.slice (some ⟨xb,xo,none⟩) xs.length xc):=blk_cell h.blk
  have b1:w.cell? ⟨B,1,none⟩=some (.slice (some ⟨yb,yo,none⟩) ys.length yc):=blk_cell h.blk
  have x0:=(h.nx i hi).1
  have y0:=(h.ny j hj).1
  rw [labN_get xs i hi,labN_get ys j hj]
  generalize xs[i].lab=l at *
  generalize ys[j].lab=m at *
  have hi':(i:Int) < xs.length:=by omega
  have hj':(j:Int) < ys.length:=by omega
  have hi0:(0:Int)≤i:=by omega
  have hj0:(0:Int)≤j:=by omega
  clear h
  by_cases he:l=m
  · subst he
    have hl:lc l l=0:=lc_self l
    have Hl:=Lib.hid hl
    clear hl
    go_enter Tryz.func110,Tryz.ntmps110
    go_wp2_with fail
    go_quiet (fail)
    go_wp2_with fail
    go_ret
    exact ⟨by rw [Hl.out];rfl,nq,rfl⟩
  · have hl:lc l m=1:=if_neg he
    have hn:(l.toList==m.toList)=false:=by simpa using toList_ne he
    have Hl:=Lib.hid hl
    clear hl
    go_enter Tryz.func110,Tryz.ntmps110
    go_wp2_with fail
    go_quiet (fail)
    go_wp2_with fail
    go_ret
    exact ⟨by rw [Hl.out];rfl,nq,rfl⟩
theorem pair_any (h:Tbl w B xs ys xb xo xc yb yo yc g bs D) (hx:Fit xs) (hy:Fit ys) (i j i0 j0:Nat) (hi:i < xs.length) (hj:j < ys.length) (h1:i0≤i) (h2:j0≤j) (hix:xs.length≤1000) (hjy:ys.length≤1000)
    {gf nf mf:Nat} {bf:Nat→Nat} {F:Nat→Nat→Int} (hf:Mat w gf nf nf mf bf F) (hn:i - i0 < nf) (hm:j - j0 < mf) (_:nf≤2000)
    (V:Int) (hV:V=if lfN xs i=i0∧lfN ys j=j0 then F (i - i0) (j - j0)+(lc (labN xs i) (labN ys j):Nat) else D i j) (hF0:0≤F (i - i0) (j - j0)) (hF1:F (i - i0) (j - j0)≤1000000) :
    Calls Tryz.prog 140 #[.pointer (some ⟨B,0,none⟩),.int .i64 i,.int .i64 j,.slice (some ⟨gf,0,none⟩) nf nf,.int .i64 i0,.int .i64 j0] w fun e w'=>e=.returned (.int .i64 V)∧∃ m,w'=w.drewN m:=by
  have b0:w.cell? ⟨B,0,none⟩=some (.slice (some ⟨xb,xo,none⟩) xs.length xc):=blk_cell h.blk
  have b1:w.cell? ⟨B,1,none⟩=some (.slice (some ⟨yb,yo,none⟩) ys.length yc):=blk_cell h.blk
  have b2:w.cell? ⟨B,2,none⟩=some (.slice (some ⟨g,0,none⟩) xs.length xs.length):=blk_cell h.blk
  have x2:=(h.nx i hi).2.2
  have y2:=(h.ny j hj).2.2
  rw [hx.left i hi] at x2
  rw [hy.left j hj] at y2
  have hi':(i:Int) < xs.length:=by omega
  have hj':(j:Int) < ys.length:=by omega
  have hi0:(0:Int)≤i:=by omega
  have hj0:(0:Int)≤j:=by omega
  have HN:=Lib.hid (fun n=>name_any (h.pr (Pr.drewN w n)) i j hi hj)
  have hlc:=lc_le (labN xs i) (labN ys j)
  generalize lc (labN xs i) (labN ys j)=c at *
  by_cases hA:lfN xs i=i0
  · by_cases hB:lfN ys j=j0
    · have d0:=hf.slice hn hn
      have d1:=hf.cell hn hm
      rw [if_pos ⟨hA,hB⟩] at hV
      rw [hA] at x2
      rw [hB] at y2
      have e1:((i:Int) - i0)=((i - i0:Nat):Int):=by omega
      have e2:((j:Int) - j0)=((j - j0:Nat):Int):=by omega
      have n1:((i - i0:Nat):Int) < nf:=by omega
      have n2:((j - j0:Nat):Int) < mf:=by omega
      have n3:(0:Int)≤((i - i0:Nat):Int):=by omega
      have n4:(0:Int)≤((j - j0:Nat):Int):=by omega
      generalize F (i - i0) (j - j0)=f at *
      generalize bf (i - i0)=bi at *
      have HV:=Lib.hid hV
      have hw:IntKind.i64.wrap (f+(c:Int))=f+(c:Int):=IntWalk.i64_in _ (by omega)
      clear hV hf h hA hB hx hy
      go_enter Tryz.func140,Tryz.ntmps140
      go_wp2_with fail
      go_quiet ((go_at_call 110;exact Calls.quiet_of (HN.out _)))
      go_wp2_with fail
      go_ret
      exact ⟨by rw [HV.out];rfl,nq,rfl⟩
    · have d0:=h.mat.slice hi hi
      have d1:=h.mat.cell hi hj
      rw [if_neg (fun h=>hB h.2)] at hV
      have HV:=Lib.hid hV
      generalize lfN xs i=li at *
      generalize lfN ys j=lj at *
      generalize D i j=dv at *
      generalize bs i=bi at *
      have q1:((li:Int)==(i0:Int))=true:=by rw [hA];simp
      have q2:((lj:Int)==(j0:Int))=false:=by rw [beq_eq_false_iff_ne];omega
      clear hV hf h hA hB hx hy HN hF0 hF1
      go_enter Tryz.func140,Tryz.ntmps140
      go_wp2_with fail
      go_ret
      exact ⟨by rw [HV.out];rfl,0,rfl⟩
  · have d0:=h.mat.slice hi hi
    have d1:=h.mat.cell hi hj
    rw [if_neg (fun h=>hA h.1)] at hV
    have HV:=Lib.hid hV
    generalize lfN xs i=li at *
    generalize lfN ys j=lj at *
    generalize D i j=dv at *
    generalize bs i=bi at *
    have q1:((li:Int)==(i0:Int))=false:=by rw [beq_eq_false_iff_ne];omega
    clear hV hf h hA hx hy HN hF0 hF1
    go_enter Tryz.func140,Tryz.ntmps140
    go_wp2_with fail
    go_ret
    exact ⟨by rw [HV.out];rfl,0,rfl⟩
end
end Go.Proofs.YtdbnfhpgmcjngabGreatDoor
/- Walks: the table of forests. -/
namespace Go.Proofs.YtdbnfhpgmcjngabGreatDoor
open Go Go.RowKit
def ForPost (xs ys:List Nd) (i0 j0 n m:Nat) (w:World) (e:Ending) (w':World):Prop :=
  ∃ gf bf,e=.returned (.slice (some ⟨gf,0,none⟩) n n)∧Mat w' gf n n m bf (fun x y=>(fdn xs ys i0 (i0+x) j0 (j0+y):Int))∧Pr w w'∧w.heap.size≤gf∧∀ x,x < n→w.heap.size≤bf x
theorem row0_step (x y j:Nat):(if x=0∧y=j then (j:Int) else if y=0 then (x:Int) else if x=0∧y < j then (y:Int) else 0)=if y=0 then (x:Int) else if x=0∧y < j+1 then (y:Int) else 0:=by
  by_cases hx0:x=0
  · subst hx0
    by_cases hyj:y=j
    · subst hyj
      by_cases hy0:y=0
      · simp [hy0]
      · simp [hy0]
    · have:y < j+1↔y < j:=by omega
      simp [hyj,this]
  · simp [hx0]
def soFar (xs ys:List Nd) (i0 j0 X Y:Nat) (x y:Nat):Int:=if x < X∨(x=X∧y < Y) then (fdn xs ys i0 (i0+x) j0 (j0+y):Int) else if y=0 then (x:Int) else 0
theorem soFar_step (xs ys:List Nd) (i0 j0 X Y:Nat) (x y:Nat):(if x=X∧y=Y then (fdn xs ys i0 (i0+X) j0 (j0+Y):Int) else soFar xs ys i0 j0 X Y x y)=soFar xs ys i0 j0 X (Y+1) x y:=by
  unfold soFar
  by_cases h:x=X∧y=Y
  · obtain ⟨rfl,rfl⟩:=h;simp
  · rw [if_neg h]
    have:(x < X∨(x=X∧y < Y))↔(x < X∨(x=X∧y < Y+1)):=by omega
    simp only [this]
theorem soFar_old {xs ys:List Nd} {i0 j0 X Y x y:Nat} (h:x < X∨(x=X∧y < Y)):soFar xs ys i0 j0 X Y x y=(fdn xs ys i0 (i0+x) j0 (j0+y):Int):=if_pos h
theorem fdn_bound {xs ys:List Nd} (hx:Fit xs) (hy:Fit ys) {i0 i j0 j:Nat} (hi:i0≤i) (hj:j0≤j) (cx:Cl xs i0 i) (cy:Cl ys j0 j) (hix:i≤xs.length) (hjy:j≤ys.length):fdn xs ys i0 i j0 j≤i+j:=by
  have:=fd_upper (rng xs i0 i) (rng ys j0 j)
  rw [rng_size xs _ i0 i (Nat.lt_succ_self _) hi cx hx hix,rng_size ys _ j0 j (Nat.lt_succ_self _) hj cy hy hjy] at this
  unfold fdn;omega
section
variable {w:World} {B:Nat} {xs ys:List Nd} {xb xo xc yb yo yc g:Nat} {bs:Nat→Nat} {D:Nat→Nat→Int}
set_option maxRecDepth 100000 in
set_option maxHeartbeats 3200000 in
theorem forests_any (h:Tbl w B xs ys xb xo xc yb yo yc g bs D) (hx:Fit xs) (hy:Fit ys) (i0 i1 j0 j1:Nat) (hi:i1 < xs.length) (hj:j1 < ys.length) (h1:i0≤i1) (h2:j0≤j1) (hix:xs.length≤1000) (hjy:ys.length≤1000)
    (cx:Cl xs i0 (i1+1)) (cy:Cl ys j0 (j1+1)) (hD:∀ i j,i0≤i→i≤i1→j0≤j→j≤j1→¬(lfN xs i=i0∧lfN ys j=j0)→D i j=(fdn xs ys (lfN xs i) (i+1) (lfN ys j) (j+1):Int)) :
    Calls Tryz.prog 109 #[.pointer (some ⟨B,0,none⟩),.int .i64 i0,.int .i64 i1,.int .i64 j0,.int .i64 j1] w (ForPost xs ys i0 j0 (i1 - i0+2) (j1 - j0+2) w):=by
  obtain ⟨n,hn⟩:∃ n,n=i1 - i0+2:=⟨_,rfl⟩
  obtain ⟨m,hm⟩:∃ m,m=j1 - j0+2:=⟨_,rfl⟩
  have hn':(i1:Int) - i0+2=(n:Int):=by omega
  have hm':(j1:Int) - j0+2=(m:Int):=by omega
  have hnb:n≤1001:=by omega
  have hmb:m≤1001:=by omega
  have hn1:2≤n:=by omega
  have hm1:2≤m:=by omega
  rw [← hn,← hm]
  have Hn:=Lib.hid hn
  have Hm:=Lib.hid hm
  have HD:=Lib.hid hD
  have HT:=Lib.hid h
  have Hcx:=Lib.hid cx
  have Hcy:=Lib.hid cy
  clear hn hm hD h cx cy
  have hmk1:=fun W=>make_rows n m bs (by omega) W
  have hmk2:=fun W=>make_ints m (by omega) W
  go_enter Tryz.func109,Tryz.ntmps109
  go_wp2_with fail
  go_loopw [25] (fun v wr=>∃ (k:Nat) (bf:Nat→Nat),k≤n∧v=.int .i64 k∧Mat wr w.heap.size n k m bf (fun x y=>if y=0 then (x:Int) else 0)∧Pr w wr∧∀ x,x < k→w.heap.size≤bf x) (fun v _=>n - (intOf v).toNat)
  case atStart=>exact ⟨0,bs,by omega,rfl,⟨heap_alloc_new w _,fun x hx=>absurd hx (Nat.not_lt_zero _),fun x y hx=>absurd hx (Nat.not_lt_zero _),fun x hx=>absurd hx (Nat.not_lt_zero _)⟩,Pr.alloc _ _,fun x hx=>absurd hx (Nat.not_lt_zero _)⟩
  case round =>
    obtain ⟨k,bf,hk,rfl,hM,hb,hbf⟩:=hrel
    by_cases hkn:k < n
    · have hkn':(k:Int) < n:=by omega
      have hk0:(0:Int)≤k:=by omega
      have hM2:=hM.grow hkn
      have g1:∀ o1,(wr.alloc o1).cell? ⟨w.heap.size,k,none⟩=some (.slice none 0 0):=fun o1=>(Pr.alloc _ o1).cell (by rw [blk_cell hM.out];exact outV_nil bf hkn (Nat.lt_irrefl _))
      have g2:∀ o1,(wr.alloc o1).frozen? ⟨w.heap.size,k,none⟩=false:=fun o1=>by rw [(Pr.alloc _ o1).frozen (blk_lt hM.out)];exact hM.frozenOut k
      have hgl:=blk_lt hM.out
      obtain ⟨w5,hw5⟩:∃ w5,w5=(wr.setCell ⟨w.heap.size,k,none⟩ (.slice (some ⟨wr.heap.size,0,none⟩) m m)).alloc (.cells (rowV m (fun _=>0)) 3):=⟨_,rfl⟩
      rw [← hw5] at hM2
      have s1:=hM2.slice (x:=k) (by omega) hkn
      have s2:=hM2.cell (x:=k) (y:=0) (by omega) (by omega)
      have s3:=hM2.frozen (x:=k) (by omega) 0
      simp only [if_true] at s1 s2 s3
      have hM3:=hM2.store (x:=k) (y:=0) (by omega) (k:Int)
      rw [if_pos (rfl:k=k)] at hM3
      have hp5:Pr w w5:=by rw [hw5];exact (hb.setCell (Nat.le_refl _) _).alloc' _
      have hs5:=hb.size
      go_upto_region 6 with fail
      rw [← hw5]
      clear hw5 g1 g2
      have hM4:=Lib.hid hM3
      clear hM3 hM2 hM
      go_wp2_with fail
      refine ⟨⟨k+1,_,by omega,by go_num,hM4.out.ext fun x y hx hy=>?_,hp5.setCell hs5 _,fun x hx=>?_⟩,?_⟩
      · by_cases hy0:y=0
        · by_cases hxk:x=k
          · simp [hxk,hy0]
          · simp [hxk,hy0]
        · by_cases hxk:x=k
          · simp [hxk,hy0]
          · simp [hxk,hy0]
      · by_cases hxk:x=k
        · simp only [if_pos hxk];exact hs5
        · simp only [if_neg hxk];exact hbf x (by omega)
      · simp [intOf];omega
    · have hkv:n=k:=by omega
      subst hkv
      have hM1:=Lib.hid hM
      have Hbf:=Lib.hid hbf
      obtain ⟨wa,hwa⟩:∃ wa,wa=wr:=⟨_,rfl⟩
      subst hwa
      have Hb:=Lib.hid hb
      have q1:=hM.slice (x:=0) (by omega) (by omega)
      have hnp:(0:Int) < n:=by omega
      have hnp':0 < n:=by omega
      clear hM hbf hb hkn
      go_wp2_with fail
      go_loopw [47] (fun v wr=>∃ (j:Nat),j≤m∧v=.int .i64 j∧Mat wr w.heap.size n n m bf (fun x y=>if y=0 then (x:Int) else if x=0∧y < j then (y:Int) else 0)∧Pr w wr) (fun v _=>m - (intOf v).toNat)
      case atStart=>exact ⟨0,by omega,rfl,hM1.out.ext fun x y _ _=>by simp,Hb.out⟩
      case round =>
        obtain ⟨j,hjm,rfl,hM,hb⟩:=hrel
        have r1:=hM.slice (x:=0) (by omega) (by omega)
        by_cases hjl:j < m
        · have hjl':(j:Int) < m:=by omega
          have hjz:(0:Int)≤j:=by omega
          have r2:=hM.cell (x:=0) (y:=j) (by omega) hjl
          have r3:=hM.frozen (x:=0) (by omega) j
          have HM2:=Lib.hid (hM.store (x:=0) (y:=j) (by omega) (j:Int))
          have hbz:=Hbf.out 0 hnp'
          clear hM
          go_wp2_with fail
          refine ⟨⟨j+1,by omega,by go_num,HM2.out.ext fun x y hx hy=>?_,hb.setCell hbz _⟩,?_⟩
          · exact row0_step x y j
          · simp [intOf];omega
        · have hjv:m=j:=by omega
          subst hjv
          have hF0:∀ x y,x < n→y < m→(if y=0 then (x:Int) else if x=0∧y < m then (y:Int) else 0)=soFar xs ys i0 j0 1 1 x y:=by
            intro x y hxn hym
            unfold soFar
            have hc1:Cl xs i0 (i0+x):=Hcx.out.mono (by have:=Hn.out;omega)
            have hc2:Cl ys j0 (j0+y):=Hcy.out.mono (by have:=Hm.out;omega)
            by_cases hx0:x=0
            · subst hx0
              have:=fdn_left (xs:=xs) (ys:=ys) hy (i0:=i0) (i:=i0+0) (j0:=j0) (j:=j0+y) (by omega) (by omega) hc2 (by have:=Hm.out;omega)
              rw [if_pos (by omega:(0:Nat) < 1∨_),this]
              by_cases hy0:y=0
              · simp [hy0]
              · simp [hy0,hym]
            · by_cases hy0:y=0
              · subst hy0
                have:=fdn_right (xs:=xs) (ys:=ys) hx (i0:=i0) (i:=i0+x) (j0:=j0) (j:=j0+0) (by omega) (by omega) hc1 (by have:=Hn.out;omega)
                by_cases hx1:x=1
                · rw [if_pos rfl,if_pos (by omega),this];omega
                · rw [if_pos rfl,if_neg (by omega),if_pos rfl]
              · rw [if_neg hy0,if_neg (by omega),if_neg (by omega),if_neg hy0]
          have HM:=Lib.hid (hM.ext fun x y hx hy=>hF0 x y hx hy)
          have Hb:=Lib.hid hb
          clear hM hb hF0
          go_wp2_with fail
          go_loopw [14] (fun v wr=>∃ (i:Nat),i0≤i∧i≤i1+1∧v=.int .i64 i∧Mat wr w.heap.size n n m bf (soFar xs ys i0 j0 (i - i0+1) 1)∧Pr w wr) (fun v _=>i1+1 - (intOf v).toNat)
          case atStart=>exact ⟨i0,by omega,by omega,rfl,by rw [Nat.sub_self];exact HM.out,Hb.out⟩
          case round =>
            obtain ⟨i,hi01,hi11,rfl,hM,hb⟩:=hrel
            by_cases hil:i≤i1
            · have hil':(i:Int)≤i1:=by omega
              have HM2:=Lib.hid hM
              have Hb2:=Lib.hid hb
              clear hM hb
              go_wp2_with fail
              go_loopw [15] (fun v wr=>∃ (j:Nat),j0≤j∧j≤j1+1∧v=.int .i64 j∧Mat wr w.heap.size n n m bf (soFar xs ys i0 j0 (i - i0+1) (j - j0+1))∧Pr w wr) (fun v _=>j1+1 - (intOf v).toNat)
              case atStart=>exact ⟨j0,by omega,by omega,rfl,by rw [Nat.sub_self];exact HM2.out,Hb2.out⟩
              case round =>
                obtain ⟨j,hj01,hj11,rfl,hM,hb⟩:=hrel
                by_cases hjl:j≤j1
                · have hjl':(j:Int)≤j1:=by omega
                  obtain ⟨X,hX⟩:∃ X,X=i - i0:=⟨_,rfl⟩
                  obtain ⟨Y,hY⟩:∃ Y,Y=j - j0:=⟨_,rfl⟩
                  rw [← hX,← hY] at hM
                  have hnn:=Hn.out
                  have hmm:=Hm.out
                  have hix':i < xs.length:=by omega
                  have hjy':j < ys.length:=by omega
                  have cxi:Cl xs i0 (i+1):=Hcx.out.mono (by omega)
                  have cyj:Cl ys j0 (j+1):=Hcy.out.mono (by omega)
                  have hL:=cxi i hi01 (by omega)
                  have hMm:=cyj j hj01 (by omega)
                  have hL2:=lfN_le xs i
                  have hM2:=lfN_le ys j
                  obtain ⟨A,hA⟩:∃ A,A=lfN xs i - i0:=⟨_,rfl⟩
                  obtain ⟨C,hC⟩:∃ C,C=lfN ys j - j0:=⟨_,rfl⟩
                  have hT:=HT.out.pr hb
                  have b0:wr.cell? ⟨B,0,none⟩=some (.slice (some ⟨xb,xo,none⟩) xs.length xc):=blk_cell hT.blk
                  have b1:wr.cell? ⟨B,1,none⟩=some (.slice (some ⟨yb,yo,none⟩) ys.length yc):=blk_cell hT.blk
                  have x2:=(hT.nx i hix').2.2
                  have y2:=(hT.ny j hjy').2.2
                  rw [hx.left i hix'] at x2
                  rw [hy.left j hjy'] at y2
                  have s1:=hM.slice (x:=X+1) (by omega) (by omega)
                  have s2:=hM.slice (x:=X) (by omega) (by omega)
                  have s3:=hM.slice (x:=A) (by omega) (by omega)
                  have v1:=hM.cell (x:=X) (y:=Y+1) (by omega) (by omega)
                  have v2:=hM.cell (x:=X+1) (y:=Y) (by omega) (by omega)
                  have v3:=hM.cell (x:=A) (y:=C) (by omega) (by omega)
                  have v4:=hM.cell (x:=X+1) (y:=Y+1) (by omega) (by omega)
                  have f4:=hM.frozen (x:=X+1) (by omega) (Y+1)
                  rw [soFar_old (by omega)] at v1 v2 v3
                  have e1:i0+X=i:=by omega
                  have e2:j0+Y=j:=by omega
                  have e3:i0+A=lfN xs i:=by omega
                  have e4:j0+C=lfN ys j:=by omega
                  rw [e1,← Nat.add_assoc,e2] at v1
                  rw [← Nat.add_assoc,e1,e2] at v2
                  rw [e3,e4] at v3
                  have k1:=fdn_bound hx hy (i0:=i0) (i:=i) (j0:=j0) (j:=j+1) (by omega) (by omega) (cxi.mono (by omega)) cyj (by omega) (by omega)
                  have k2:=fdn_bound hx hy (i0:=i0) (i:=i+1) (j0:=j0) (j:=j) (by omega) (by omega) cxi (cyj.mono (by omega)) (by omega) (by omega)
                  have k3:=fdn_bound hx hy (i0:=i0) (i:=lfN xs i) (j0:=j0) (j:=lfN ys j) (by omega) (by omega) (cxi.mono (by omega)) (cyj.mono (by omega)) (by omega) (by omega)
                  have k4:=fdn_bound hx hy (i0:=i0) (i:=i) (j0:=j0) (j:=j) (by omega) (by omega) (cxi.mono (by omega)) (cyj.mono (by omega)) (by omega) (by omega)
                  have k5:=fdn_bound hx hy (i0:=lfN xs i) (i:=i+1) (j0:=lfN ys j) (j:=j+1) (by omega) (by omega) (hx.cl hix') (hy.cl hjy') (by omega) (by omega)
                  have hlc:=lc_le (labN xs i) (labN ys j)
                  obtain ⟨V,hV⟩:∃ V:Int,V=if lfN xs i=i0∧lfN ys j=j0 then soFar xs ys i0 j0 (X+1) (Y+1) (i - i0) (j - j0)+(lc (labN xs i) (labN ys j):Nat) else D i j:=⟨_,rfl⟩
                  have hso:soFar xs ys i0 j0 (X+1) (Y+1) (i - i0) (j - j0)=(fdn xs ys i0 i j0 j:Int):=by
                    rw [soFar_old (by omega)];congr 2 <;> omega
                  have CP:=Lib.hid (fun W' (h:Pr wr W')=>pair_any (hT.pr h) hx hy i j i0 j0 hix' hjy' hi01 hj01 hix hjy (hM.pr h) (by omega) (by omega) (by omega) V hV (by rw [hso];omega) (by rw [hso];omega))
                  have hfin:min (min ((fdn xs ys i0 i j0 (j+1):Int)+1) ((fdn xs ys i0 (i+1) j0 j:Int)+1)) ((fdn xs ys i0 (lfN xs i) j0 (lfN ys j):Int)+V)=(fdn xs ys i0 (i+1) j0 (j+1):Int)∧0≤V∧V≤3000:=by
                    by_cases hlr:lfN xs i=i0∧lfN ys j=j0
                    · have h3:=fdn_step1 hx hy hlr.1 hlr.2 hix' hjy'
                      have h0:fdn xs ys i0 (lfN xs i) j0 (lfN ys j)=0:=by
                        rw [fdn_left hy (by omega) (by omega) (cyj.mono (by omega)) (by omega)];omega
                      rw [if_pos hlr,hso] at hV
                      rw [h0];omega
                    · have h3:=fdn_step2 hx hy hi01 hj01 cxi cyj hix' hjy'
                      rw [if_neg hlr,HD.out i j hi01 (by omega) hj01 (by omega) hlr] at hV
                      omega
                  obtain ⟨hf1,hf2,hf3⟩:=hfin
                  generalize (fdn xs ys i0 i j0 (j+1))=p1 at *
                  generalize (fdn xs ys i0 (i+1) j0 j)=p2 at *
                  generalize (fdn xs ys i0 (lfN xs i) j0 (lfN ys j))=p3 at *
                  have HF:=Lib.hid hf1
                  have HM2:=Lib.hid (fun k=>(hM.pr (Pr.drewN wr k)).store (x:=X+1) (y:=Y+1) (by omega) (fdn xs ys i0 (i+1) j0 (j+1):Int))
                  have g1:(i:Int) - i0=X:=by omega
                  have g2:(j:Int) - j0=Y:=by omega
                  have g3:(lfN xs i:Int) - i0=A:=by omega
                  have g4:(lfN ys j:Int) - j0=C:=by omega
                  have z1:(X:Int)+1 < n:=by omega
                  have z2:(Y:Int)+1 < m:=by omega
                  have z3:(A:Int) < n:=by omega
                  have z4:(C:Int) < m:=by omega
                  have z5:(X:Int) < n:=by omega
                  have z6:(Y:Int) < m:=by omega
                  have z7:(i:Int) < xs.length:=by omega
                  have z8:(j:Int) < ys.length:=by omega
                  have w1:(0:Int)≤X:=by omega
                  have w2:(0:Int)≤Y:=by omega
                  have w3:(0:Int)≤A:=by omega
                  have w4:(0:Int)≤C:=by omega
                  have w5:(0:Int)≤i:=by omega
                  have w7:(0:Int)≤(X:Int)+1:=by omega
                  have w8:(0:Int)≤(Y:Int)+1:=by omega
                  have w9:((X:Int)+1).toNat=X+1:=by omega
                  have w10:((Y:Int)+1).toNat=Y+1:=by omega
                  have y1:(X:Int)+1 - 1=(X:Int):=by omega
                  have y3:(Y:Int)+1 - 1=(Y:Int):=by omega
                  have uX:IntKind.i64.wrap (X:Int)=(X:Int):=IntWalk.i64_in _ (by omega)
                  have uY:IntKind.i64.wrap (Y:Int)=(Y:Int):=IntWalk.i64_in _ (by omega)
                  have uA:IntKind.i64.wrap (A:Int)=(A:Int):=IntWalk.i64_in _ (by omega)
                  have uC:IntKind.i64.wrap (C:Int)=(C:Int):=IntWalk.i64_in _ (by omega)
                  have u1:IntKind.i64.wrap ((p1:Int)+1)=(p1:Int)+1:=IntWalk.i64_in _ (by omega)
                  have u2:IntKind.i64.wrap ((p2:Int)+1)=(p2:Int)+1:=IntWalk.i64_in _ (by omega)
                  have u3:IntKind.i64.wrap ((p3:Int)+V)=(p3:Int)+V:=IntWalk.i64_in _ (by omega)
                  have w6:(0:Int)≤j:=by omega
                  generalize lfN xs i=L1 at *
                  generalize lfN ys j=L2 at *
                  have Hh:=Lib.hid (And.intro hX (And.intro hY (And.intro hA hC)))
                  clear hV hso hf1 hM hT cxi cyj e1 e2 e3 e4 hX hY hA hC k1 k2 k3 k4 k5 hnn hmm hL hMm hL2 hM2 hlc hjl hil
                  go_upto_region 20 with fail
                  refine wp_region_quiet_tail 58 (by kernel_rfl) (by kernel_rfl) ?_
                  simp only [List.take_succ_cons,List.take_zero,List.drop_succ_cons,List.drop_zero]
                  repeat (go_big_quiet_step ((go_at_call 140;exact Calls.quiet_of (CP.out _ (Pr.drewN _ _)))))
                  refine wpQuiet_nil ?_
                  rintro _ ⟨nq,rfl⟩
                  have hbx:=Hbf.out (X+1) (by omega)
                  go_wp2_with fail
                  obtain ⟨hX,hY,hA,hC⟩:=Hh.out
                  have hval:(if (p3:Int)+V < if p2 < p1 then (p2:Int)+1 else (p1:Int)+1 then (p3:Int)+V else if p2 < p1 then (p2:Int)+1 else (p1:Int)+1)=(fdn xs ys i0 (i+1) j0 (j+1):Int):=by
                    have h:=HF.out
                    by_cases hp:p2 < p1
                    · simp only [if_pos hp];split <;> omega
                    · simp only [if_neg hp];split <;> omega
                  rw [hval]
                  refine ⟨⟨j+1,by omega,by omega,by go_num,?_,(hb.drewN' _).setCell hbx _⟩,?_⟩
                  · refine (HM2.out nq).ext fun x y _ _=>?_
                    have h:=soFar_step xs ys i0 j0 (X+1) (Y+1) x y
                    rw [show i0+(X+1)=i+1 by omega,show j0+(Y+1)=j+1 by omega] at h
                    rw [h,← hX,show j+1 - j0+1=Y+1+1 by omega]
                  · simp [intOf];omega
                · have hjv:¬ (j:Int)≤j1:=by omega
                  have hje:j=j1+1:=by omega
                  have hmm:=Hm.out
                  have hM3:Mat wr w.heap.size n n m bf (soFar xs ys i0 j0 (i+1 - i0+1) 1):=by
                    refine hM.ext fun x y hxn hym=>?_
                    unfold soFar
                    by_cases h1:x < i - i0+1∨(x=i - i0+1∧y < j - j0+1)
                    · rw [if_pos h1,if_pos (by omega)]
                    · rw [if_neg h1]
                      by_cases h2:x < i+1 - i0+1∨(x=i+1 - i0+1∧y < 1)
                      · rw [if_pos h2]
                        have hy0:y=0:=by omega
                        have:=fdn_right (xs:=xs) (ys:=ys) hx (i0:=i0) (i:=i0+x) (j0:=j0) (j:=j0+y) (by omega) (by omega) (Hcx.out.mono (by have:=Hn.out;omega)) (by have:=Hn.out;omega)
                        rw [if_pos hy0,this];omega
                      · rw [if_neg h2]
                  have HM3:=Lib.hid hM3
                  clear hM hM3 hje hmm
                  go_wp2_with fail
                  refine ⟨⟨i+1,by omega,by omega,by go_num,HM3.out,hb⟩,?_⟩
                  simp [intOf];omega
            · have hiv:¬ (i:Int)≤i1:=by omega
              have hie:i=i1+1:=by omega
              have HM3:=Lib.hid hM
              clear hM hil
              go_wp2_with fail
              go_ret
              have hnn:=Hn.out
              refine ⟨w.heap.size,bf,rfl,HM3.out.ext fun x y hxn hym=>?_,hb,Nat.le_refl _,Hbf.out⟩
              exact soFar_old (by omega)
end
end Go.Proofs.YtdbnfhpgmcjngabGreatDoor
/- Walks: the table of two trees is made. -/
namespace Go.Proofs.YtdbnfhpgmcjngabGreatDoor
open Go Go.RowKit
def TblOk (w:World) (B:Nat) (xs ys:List Nd):Prop:=∃ xb xo xc yb yo yc g bs D,Tbl w B xs ys xb xo xc yb yo yc g bs D∧∀ i j,i < xs.length→j < ys.length→D i j=(fdn xs ys (lfN xs i) (i+1) (lfN ys j) (j+1):Int)
theorem TblOk.pr {w w':World} {B:Nat} {xs ys:List Nd} (h:TblOk w B xs ys) (hp:Pr w w'):TblOk w' B xs ys:=by
  obtain ⟨xb,xo,xc,yb,yo,yc,g,bs,D,h1,h2⟩:=h
  exact ⟨xb,xo,xc,yb,yo,yc,g,bs,D,h1.pr hp,h2⟩
def DistOfPost (a b:Tr) (w:World) (e:Ending) (w':World):Prop :=
  ((fault a≠0∧e=.returned (.tuple #[.pointer none,.int .i64 (fault a)]))∨(fault a=0∧fault b≠0∧e=.returned (.tuple #[.pointer none,.int .i64 (fault b)])) ∨
    (fault a=0∧fault b=0∧∃ B,e=.returned (.tuple #[.pointer (some ⟨B,0,none⟩),.int .i64 0])∧TblOk w' B (nds a) (nds b)))∧Pr w w'
theorem Nds.at'' {S:Nat→Prop} {w:World} {xs:List Nd} {oa:Option Addr} {cap:Nat} (h:Nds S w xs oa cap) (hne:0 < xs.length):∃ b o,oa=some ⟨b,o,none⟩ ∧
    ∀ (i:Nat) (_:i < xs.length),w.cell? ⟨b,o+i * 3,none⟩=some (.string xs[i].lab)∧w.cell? ⟨b,o+i * 3+1,none⟩=some (.int .i64 xs[i].par)∧w.cell? ⟨b,o+i * 3+2,none⟩=some (.int .i64 xs[i].left):=by
  obtain ⟨_,b,o,h1,h2⟩:=h
  exact ⟨b,o,(h1 (by intro e;subst e;simp at hne)).1,h2⟩
theorem Tbl.store' {w:World} {xs ys:List Nd} {xb xo xc yb yo yc g n:Nat} {bs:Nat→Nat} {D:Nat→Nat→Int} (h:Tbl w (n+1) xs ys xb xo xc yb yo yc g bs D) (hbs:∀ x,x < xs.length→n+2≤bs x) (hx:xb < n) (hy:yb < n) {i:Nat} (hi:i < xs.length) (j:Nat) (v:Int) :
    Tbl (w.setCell ⟨bs i,j,none⟩ (.int .i64 v)) (n+1) xs ys xb xo xc yb yo yc g bs (fun x' y'=>if x'=i∧y'=j then v else D x' y'):=by
  have hb:=hbs i hi
  refine ⟨?_,fun k hk=>?_,fun k hk=>?_,h.mat.store hi v⟩
  · rw [Below.heap_setCell _ _ _ _ (by simp;omega)];exact h.blk
  · obtain ⟨h1,h2,h3⟩:=h.nx k hk
    exact ⟨cell_far h1 (by simp;omega),cell_far h2 (by simp;omega),cell_far h3 (by simp;omega)⟩
  · obtain ⟨h1,h2,h3⟩:=h.ny k hk
    exact ⟨cell_far h1 (by simp;omega),cell_far h2 (by simp;omega),cell_far h3 (by simp;omega)⟩
theorem orderOf_len (l:ByteArray) (ks:List Tr) (oa cap) (w:World) (hl:l.size≤maxLen) (hk:Kids Any w ks oa cap) (hf:fault (.node l ks)=0) :
    Calls Tryz.prog 108 #[.agg #[.string l,.slice oa ks.length cap]] w fun e w'=>∃ g c,e=.returned (.tuple #[.slice (some ⟨g,0,none⟩) (nds (.node l ks)).length c,.int .i64 0])∧Nds Any w' (nds (.node l ks)) (some ⟨g,0,none⟩) c∧Pr w w':=by
  refine (orderOf_any l ks oa cap w hl hk).mono ?_
  rintro e w' ⟨_,h2,hb⟩
  obtain ⟨g,c,rfl,ho⟩:=h2 hf
  obtain ⟨o1,cp,hv,hn⟩:=ho.nds
  rw [nds_length] at hv
  cases hv
  rw [nds_length]
  exact ⟨g,c,rfl,hn.any,hb⟩
theorem orderOf_bad (l:ByteArray) (ks:List Tr) (oa cap) (w:World) (hl:l.size≤maxLen) (hk:Kids Any w ks oa cap) (hf:fault (.node l ks)≠0) :
    Calls Tryz.prog 108 #[.agg #[.string l,.slice oa ks.length cap]] w fun e w'=>e=.returned (.tuple #[.slice none 0 0,.int .i64 (fault (.node l ks):Nat)])∧Pr w w':=by
  refine (orderOf_any l ks oa cap w hl hk).mono ?_
  rintro e w' ⟨h1,_,hb⟩
  exact ⟨h1 hf,hb⟩
set_option maxRecDepth 100000 in
set_option maxHeartbeats 3200000 in
theorem distOf_any (l:ByteArray) (ks:List Tr) (oa cap) (m:ByteArray) (js:List Tr) (ob cbp) (w:World) (hl:l.size≤maxLen) (hk:Kids Any w ks oa cap) (hm:m.size≤maxLen) (hj:Kids Any w js ob cbp) :
    Calls Tryz.prog 65 #[.agg #[.string l,.slice oa ks.length cap],.agg #[.string m,.slice ob js.length cbp]] w (DistOfPost (.node l ks) (.node m js) w):=by
  obtain ⟨W,hW⟩:∃ W,W=(w.alloc (.cells #[.string l,.slice oa ks.length cap] 46)).alloc (.cells #[.string m,.slice ob js.length cbp] 46):=⟨_,rfl⟩
  have hwW:Pr w W:=by rw [hW];exact (Pr.alloc _ _).alloc' _
  have c0:W.cell? ⟨w.heap.size,0,none⟩=some (.string l):=by rw [hW];simp [go_sem]
  have c1:W.cell? ⟨w.heap.size,1,none⟩=some (.slice oa ks.length cap):=by rw [hW];simp [go_sem]
  have c2:W.cell? ⟨w.heap.size+1,0,none⟩=some (.string m):=by rw [hW];simp [go_sem]
  have c3:W.cell? ⟨w.heap.size+1,1,none⟩=some (.slice ob js.length cbp):=by rw [hW];simp [go_sem]
  have s0:=stays c0;have s1:=stays c1;have s2:=stays c2;have s3:=stays c3
  have hk':=hk.pr hwW;have hj':=hj.pr hwW
  clear c0 c1 c2 c3 hk hj
  by_cases hf:fault (.node l ks)=0
  case neg =>
    have hnz:((fault (.node l ks):Int) != 0)=true:=by simp [bne_iff_ne];omega
    have C1:=Lib.hid (fun (W':World) (h:Pr W W')=>orderOf_bad l ks oa cap W' hl (hk'.pr h) hf)
    have Hf:=Lib.hid hf
    clear hf
    go_enter Tryz.func65,Tryz.ntmps65
    go_wp2_with fail
    rw [← hW];clear hW
    go_wp2_with (first
      | (go_at_call 108;(with_reducible refine Calls.mono (C1.out _ (Pr.refl _)) ?_);rintro e wD ⟨rfl,hb⟩))
    go_ret2
    exact ⟨.inl ⟨Hf.out,rfl⟩,hwW.trans hb⟩
  have hz1:=(fault_zero.1 hf).1
  have C1:=Lib.hid (fun (W':World) (h:Pr W W')=>orderOf_len l ks oa cap W' hl (hk'.pr h) hf)
  by_cases hf2:fault (.node m js)=0
  case neg =>
    have hnz:((fault (.node m js):Int) != 0)=true:=by simp [bne_iff_ne];omega
    have C2:=Lib.hid (fun (W':World) (h:Pr W W')=>orderOf_bad m js ob cbp W' hm (hj'.pr h) hf2)
    have Hf:=Lib.hid hf
    have Hf2:=Lib.hid hf2
    clear hf hf2
    go_enter Tryz.func65,Tryz.ntmps65
    go_wp2_with fail
    rw [← hW];clear hW
    go_wp2_with (first
      | (go_at_call 108;(with_reducible refine Calls.mono (C1.out _ (Pr.refl _)) ?_);rintro e wD ⟨g1,cc1,rfl,hn1,hb1⟩;have y2:=s2 _ hb1;have y3:=s3 _ hb1)
      | (go_at_call 108;(with_reducible refine Calls.mono (C2.out _ hb1) ?_);rintro e wE ⟨rfl,hb2⟩))
    go_ret2
    exact ⟨.inr (.inl ⟨Hf.out,Hf2.out,rfl⟩),hwW.trans (hb1.trans hb2)⟩
  have hz2:=(fault_zero.1 hf2).1
  have C2:=Lib.hid (fun (W':World) (h:Pr W W')=>orderOf_len m js ob cbp W' hm (hj'.pr h) hf2)
  have Hf:=Lib.hid hf
  have Hf2:=Lib.hid hf2
  have hx:=fit_nds (.node l ks)
  have hy:=fit_nds (.node m js)
  rw [← nds_length] at hz1 hz2
  have hp1:1≤(nds (.node l ks)).length:=by rw [nds_length];exact Tr.sz_pos _
  have hp2:1≤(nds (.node m js)).length:=by rw [nds_length];exact Tr.sz_pos _
  clear hf hf2
  suffices hS:Calls Tryz.prog 65 #[.agg #[.string l,.slice oa ks.length cap],.agg #[.string m,.slice ob js.length cbp]] w (fun e w'=>(∃ B,e=.returned (.tuple #[.pointer (some ⟨B,0,none⟩),.int .i64 0])∧TblOk w' B (nds (.node l ks)) (nds (.node m js)))∧Pr w w') by
    refine hS.mono ?_
    rintro e w' ⟨h1,h2⟩
    exact ⟨.inr (.inr ⟨Hf.out,Hf2.out,h1⟩),h2⟩
  generalize nds (.node l ks)=xs at *
  generalize nds (.node m js)=ys at *
  have hmk1:=fun W=>make_rows xs.length ys.length (fun _=>0) (by omega) W
  have hmk2:=fun W=>make_ints ys.length (by omega) W
  go_enter Tryz.func65,Tryz.ntmps65
  go_wp2_with fail
  rw [← hW];clear hW
  go_wp2_with (first
    | (go_at_call 108;(with_reducible refine Calls.mono (C1.out _ (Pr.refl _)) ?_);rintro e wD ⟨g1,cc1,rfl,hn1,hb1⟩;have y2:=s2 _ hb1;have y3:=s3 _ hb1)
    | (go_at_call 108;(with_reducible refine Calls.mono (C2.out _ hb1) ?_);rintro e wE ⟨g2,cc2,rfl,hn2,hb2⟩;have hn1:=hn1.pr hb2))
  have hbE:=hb1.trans hb2
  have Hn1:=Lib.hid hn1
  have Hn2:=Lib.hid hn2
  have HbE:=Lib.hid (hwW.trans hbE)
  clear hn1 hn2 hb1 hb2 hbE y2 y3 s0 s1 s2 s3
  go_loopw [42] (fun v wr=>∃ (k:Nat) (bf:Nat→Nat),k≤xs.length∧v=.int .i64 k∧wr.heap[wE.heap.size+1]? = some (.cells #[.slice (some ⟨g1,0,none⟩) xs.length cc1,.slice (some ⟨g2,0,none⟩) ys.length cc2,.slice (some ⟨wE.heap.size,0,none⟩) xs.length xs.length] 164 (0,0)) ∧
    Mat wr wE.heap.size xs.length k ys.length bf (fun _ _=>0)∧Pr wE wr∧∀ x,x < k→wE.heap.size+2≤bf x) (fun v _=>xs.length - (intOf v).toNat)
  case atStart=>exact ⟨0,fun _=>0,by omega,rfl,by simpa using heap_alloc_new (wE.alloc (.cells (outV xs.length 0 ys.length fun _=>0) 53)) _,⟨(Pr.alloc _ _).blk (heap_alloc_new wE _),fun x hx=>absurd hx (Nat.not_lt_zero _),fun x y hx=>absurd hx (Nat.not_lt_zero _),fun x hx=>absurd hx (Nat.not_lt_zero _)⟩,(Pr.alloc _ _).alloc' _,fun x hx=>absurd hx (Nat.not_lt_zero _)⟩
  case round =>
    obtain ⟨k,bf,hk,rfl,hB,hM,hb,hbf⟩:=hrel
    by_cases hkn:k < xs.length
    · have hkn':(k:Int) < xs.length:=by omega
      have hk0:(0:Int)≤k:=by omega
      have b2:wr.cell? ⟨wE.heap.size+1,2,none⟩=some (.slice (some ⟨wE.heap.size,0,none⟩) xs.length xs.length):=blk_cell hB
      have b2':∀ o1,(wr.alloc o1).cell? ⟨wE.heap.size+1,2,none⟩=some (.slice (some ⟨wE.heap.size,0,none⟩) xs.length xs.length):=fun o1=>(Pr.alloc _ o1).cell b2
      have g0:wr.cell? ⟨wE.heap.size,k,none⟩=some (.slice none 0 0):=by rw [blk_cell hM.out];exact outV_nil bf hkn (Nat.lt_irrefl _)
      have g1':∀ o1,(wr.alloc o1).cell? ⟨wE.heap.size,k,none⟩=some (.slice none 0 0):=fun o1=>(Pr.alloc _ o1).cell g0
      have g2':∀ o1,(wr.alloc o1).frozen? ⟨wE.heap.size,k,none⟩=false:=fun o1=>by rw [(Pr.alloc _ o1).frozen (blk_lt hM.out)];exact hM.frozenOut k
      have hsz:=blk_lt hB
      have hgl:=blk_lt hM.out
      have Hs:=Lib.hid hsz
      clear hsz
      go_upto_region 11 with fail
      go_region_law (fail)
      all_goals
        go_wp2_with fail
        have hsz:=Hs.out
        refine ⟨⟨k+1,_,by omega,by go_num,(Pr.drew _).blk ((Pr.alloc _ _).blk (by rw [Below.heap_setCell _ _ _ _ (by simp)];exact hB)),((hM.grow hkn).pr (Pr.drew _)).ext fun x y _ _=>by simp,((hb.setCell (Nat.le_refl _) _).alloc' _).drew',fun x hx=>?_⟩,?_⟩
        · by_cases hxk:x=k
          · simp only [if_pos hxk];omega
          · simp only [if_neg hxk];exact hbf x (by omega)
        · simp [intOf];omega
    · have hkv:k=xs.length:=by omega
      have hM2:Mat wr wE.heap.size xs.length xs.length ys.length bf (fun _ _=>0):=by rw [← hkv];exact hkv ▸ hM
      have hbf2:∀ x,x < xs.length→wE.heap.size+2≤bf x:=by rw [← hkv];exact hbf
      obtain ⟨xb,xo,hoa,hcx⟩:=Hn1.out.at'' (by omega)
      obtain ⟨yb,yo,hob,hcy⟩:=Hn2.out.at'' (by omega)
      cases hoa
      cases hob
      have hg1:g1 < wE.heap.size:=lt_of_cell (hcx 0 (by omega)).1
      have hg2:g2 < wE.heap.size:=lt_of_cell (hcy 0 (by omega)).1
      have hT:Tbl wr (wE.heap.size+1) xs ys g1 0 cc1 g2 0 cc2 wE.heap.size bf (fun _ _=>0):=⟨hB,fun i hi=>⟨hb.cell (hcx i hi).1,hb.cell (hcx i hi).2.1,hb.cell (hcx i hi).2.2⟩,fun i hi=>⟨hb.cell (hcy i hi).1,hb.cell (hcy i hi).2.1,hb.cell (hcy i hi).2.2⟩,hM2⟩
      have hkn':¬ (k:Int) < xs.length:=by omega
      have HT:=Lib.hid hT
      have Hbf:=Lib.hid hbf2
      have Hb:=Lib.hid hb
      clear hT hbf2 hb hM2 hM hbf hB hcx hcy hkn hkv Hn1 Hn2 hk
      go_wp2_with fail
      go_loopw [57] (fun v wr=>∃ (i:Nat) (D:Nat→Nat→Int),i≤xs.length∧v=.int .i64 i∧Tbl wr (wE.heap.size+1) xs ys g1 0 cc1 g2 0 cc2 wE.heap.size bf D∧(∀ a b,a < i→b < ys.length→D a b=(fdn xs ys (lfN xs a) (a+1) (lfN ys b) (b+1):Int))∧Pr wE wr) (fun v _=>xs.length - (intOf v).toNat)
      case atStart=>exact ⟨0,fun _ _=>0,by omega,rfl,HT.out,fun a b h _=>absurd h (Nat.not_lt_zero _),Hb.out⟩
      case round =>
        obtain ⟨i,D,hi,rfl,hT,hD,hb⟩:=hrel
        have HT2:=Lib.hid hT
        have HD2:=Lib.hid hD
        have Hb2:=Lib.hid hb
        clear hT hD hb
        by_cases hil:i < xs.length
        · have hil':(i:Int) < xs.length:=by omega
          have hi0:(0:Int)≤i:=by omega
          go_wp2_with fail
          go_loopw [62] (fun v wr=>∃ (j:Nat) (D:Nat→Nat→Int),j≤ys.length∧v=.int .i64 j∧Tbl wr (wE.heap.size+1) xs ys g1 0 cc1 g2 0 cc2 wE.heap.size bf D∧(∀ a b,(a < i∨(a=i∧b < j))→b < ys.length→D a b=(fdn xs ys (lfN xs a) (a+1) (lfN ys b) (b+1):Int))∧Pr wE wr) (fun v _=>ys.length - (intOf v).toNat)
          case atStart=>exact ⟨0,D,by omega,rfl,HT2.out,fun a b h h2=>HD2.out a b (by omega) h2,Hb2.out⟩
          case round =>
            obtain ⟨j,D,hj,rfl,hT,hD,hb⟩:=hrel
            by_cases hjl:j < ys.length
            · have hjl':(j:Int) < ys.length:=by omega
              have hj0:(0:Int)≤j:=by omega
              obtain ⟨L,hL⟩:∃ L,L=lfN xs i:=⟨_,rfl⟩
              obtain ⟨M,hM⟩:∃ M,M=lfN ys j:=⟨_,rfl⟩
              have hL2:=lfN_le xs i
              have hM2:=lfN_le ys j
              rw [← hL] at hL2
              rw [← hM] at hM2
              obtain ⟨A,hA⟩:∃ A,A=i - L:=⟨_,rfl⟩
              obtain ⟨C,hC⟩:∃ C,C=j - M:=⟨_,rfl⟩
              have hrow:=hT.mat.row i hil
              have hbi:=Hbf.out i hil
              have t2:=stays (blk_cell (o:=2) hT.blk:wr.cell? _=some (.slice (some ⟨wE.heap.size,0,none⟩) xs.length xs.length))
              have x2:=(hT.nx i hil).2.2
              have y2:=(hT.ny j hjl).2.2
              rw [hx.left i hil,← hL] at x2
              rw [hy.left j hjl,← hM] at y2
              simp only [Nat.zero_add] at x2 y2
              have x2:=stays x2
              have y2:=stays y2
              have r1:=stays (hT.mat.slice hil hil)
              have v4:=stays (hT.mat.cell hil hjl)
              have f4:∀ W',Pr wr W'→W'.frozen? ⟨bf i,j,none⟩=false:=fun W' h=>by rw [h.frozen (blk_lt (hT.mat.row i hil))];exact hT.mat.frozen hil j
              have CN:=Lib.hid (fun W' (h:Pr wr W')=>name_any (hT.pr h) i j hil hjl)
              have hlc:=lc_le (labN xs i) (labN ys j)
              have hfin:=fdn_tree hx hy hil hjl
              rw [← hL,← hM] at hfin
              have cxi:Cl xs L (i+1):=by rw [hL];exact hx.cl hil
              have cyj:Cl ys M (j+1):=by rw [hM];exact hy.cl hjl
              have k1:=fdn_bound hx hy (i0:=L) (i:=i) (j0:=M) (j:=j+1) (by omega) (by omega) (cxi.mono (by omega)) cyj (by omega) (by omega)
              have k2:=fdn_bound hx hy (i0:=L) (i:=i+1) (j0:=M) (j:=j) (by omega) (by omega) cxi (cyj.mono (by omega)) (by omega) (by omega)
              have k3:=fdn_bound hx hy (i0:=L) (i:=i) (j0:=M) (j:=j) (by omega) (by omega) (cxi.mono (by omega)) (cyj.mono (by omega)) (by omega) (by omega)
              have CF:Hid (∀ W',Pr wr W'→Calls Tryz.prog 109 #[.pointer (some ⟨wE.heap.size+1,0,none⟩),.int .i64 L,.int .i64 i,.int .i64 M,.int .i64 j] W' fun e w'=>∃ gf b1 b2,e=.returned (.slice (some ⟨gf,0,none⟩) (A+2) (A+2)) ∧
                  w'.cell? ⟨gf,A,none⟩=some (.slice (some ⟨b1,0,none⟩) (C+2) (C+2))∧w'.cell? ⟨gf,A+1,none⟩=some (.slice (some ⟨b2,0,none⟩) (C+2) (C+2))∧w'.cell? ⟨b1,C+1,none⟩=some (.int .i64 (fdn xs ys L i M (j+1):Int)) ∧
                  w'.cell? ⟨b2,C,none⟩=some (.int .i64 (fdn xs ys L (i+1) M j:Int))∧w'.cell? ⟨b1,C,none⟩=some (.int .i64 (fdn xs ys L i M j:Int))∧Pr W' w'):=Lib.hid fun W' h=>by
                refine (forests_any (hT.pr h) hx hy L i M j hil hjl hL2 hM2 (by omega) (by omega) cxi cyj (fun a b a1 a2 b1 b2 hne=>hD a b ?_ (by omega))).mono ?_
                · by_cases ha:a < i
                  · exact .inl ha
                  · have:a=i:=by omega
                    subst this
                    by_cases hb:b < j
                    · exact .inr ⟨rfl,hb⟩
                    · have:b=j:=by omega
                      subst this
                      exact absurd ⟨hL.symm,hM.symm⟩ hne
                · rintro e w' ⟨gf,bF,rfl,hMF,hp,_,_⟩
                  have e1:=hMF.cell (x:=A) (y:=C+1) (by omega) (by omega)
                  have e2:=hMF.cell (x:=A+1) (y:=C) (by omega) (by omega)
                  have e3:=hMF.cell (x:=A) (y:=C) (by omega) (by omega)
                  rw [show L+A=i by omega,show M+(C+1)=j+1 by omega] at e1
                  rw [show L+(A+1)=i+1 by omega,show M+C=j by omega] at e2
                  rw [show L+A=i by omega,show M+C=j by omega] at e3
                  have q1:=hMF.slice (x:=A) (by omega) (by omega)
                  have q2:=hMF.slice (x:=A+1) (by omega) (by omega)
                  rw [show j - M+2=C+2 by omega] at q1 q2
                  exact ⟨gf,bF A,bF (A+1),by rw [show i - L+2=A+2 by omega],q1,q2,e1,e2,e3,hp⟩
              generalize fdn xs ys L i M (j+1)=p1 at *
              generalize fdn xs ys L (i+1) M j=p2 at *
              generalize fdn xs ys L i M j=p3 at *
              generalize lc (labN xs i) (labN ys j)=c at *
              have HF:=Lib.hid hfin
              have HM2:=Lib.hid (fun W' (h:Pr wr W')=>(hT.pr h).store' Hbf.out hg1 hg2 hil j (fdn xs ys L (i+1) M (j+1):Int))
              have HD3:=Lib.hid hD
              have e1:(i:Int) - L=A:=by omega
              have e2:(i:Int)+1 - L=(A:Int)+1:=by omega
              have e3:(j:Int)+1 - M=(C:Int)+1:=by omega
              have e4:(j:Int) - M=C:=by omega
              have z1:(A:Int) < (A:Int)+2:=by omega
              have z2:(C:Int) < (C:Int)+2:=by omega
              have z3:(A:Int)+1 < (A:Int)+2:=by omega
              have z4:(C:Int)+1 < (C:Int)+2:=by omega
              have w1:(0:Int)≤A:=by omega
              have w2:(0:Int)≤C:=by omega
              have w3:(0:Int)≤(A:Int)+1:=by omega
              have w4:(0:Int)≤(C:Int)+1:=by omega
              have w5:((A:Int)+1).toNat=A+1:=by omega
              have w6:((C:Int)+1).toNat=C+1:=by omega
              have uA:IntKind.i64.wrap (A:Int)=A:=IntWalk.i64_in _ (by omega)
              have uC:IntKind.i64.wrap (C:Int)=C:=IntWalk.i64_in _ (by omega)
              have uA1:IntKind.i64.wrap ((A:Int)+1)=(A:Int)+1:=IntWalk.i64_in _ (by omega)
              have uC1:IntKind.i64.wrap ((C:Int)+1)=(C:Int)+1:=IntWalk.i64_in _ (by omega)
              have ui:IntKind.i64.wrap ((i:Int)+1)=(i:Int)+1:=IntWalk.i64_in _ (by omega)
              have uj:IntKind.i64.wrap ((j:Int)+1)=(j:Int)+1:=IntWalk.i64_in _ (by omega)
              have u1:IntKind.i64.wrap ((p1:Int)+1)=(p1:Int)+1:=IntWalk.i64_in _ (by omega)
              have u2:IntKind.i64.wrap ((p2:Int)+1)=(p2:Int)+1:=IntWalk.i64_in _ (by omega)
              have u3:IntKind.i64.wrap ((p3:Int)+(c:Int))=(p3:Int)+(c:Int):=IntWalk.i64_in _ (by omega)
              have hp:=Pr.drew wr
              have Hh:=Lib.hid (And.intro hL (And.intro hM (And.intro hA (And.intro hC hbi))))
              clear hL hM hA hC hbi hL2 hM2 hT hD hfin cxi cyj k1 k2 k3 hlc hrow hjl hil
              go_upto_region 19 with fail
              go_region_held3 (fun W=>Pr wr W) (exact hp)
                (first
                  | (go_at_call 109;(with_reducible refine Calls.mono (CF.out _ hp) ?_);rintro e w1 ⟨gf,b1,b2,rfl,q1,q2,q3,q4,q5,hb'⟩;have hp:=hp.trans hb'))
              go_upto_region 20 with fail
              have t2:=t2 _ hp;have x2:=x2 _ hp;have y2:=y2 _ hp;have r1:=r1 _ hp;have v4:=v4 _ hp;have f4:=f4 _ hp
              have CN2:=Lib.hid (fun W' (h:Pr w1 W')=>CN.out W' (hp.trans h))
              have Hp:=Lib.hid hp
              have Hb3:=Lib.hid hb
              clear hb' hp hb
              refine wp_region_quiet_tail 76 (by kernel_rfl) (by kernel_rfl) ?_
              simp only [List.take_succ_cons,List.take_zero,List.drop_succ_cons,List.drop_zero]
              repeat (go_big_quiet_step ((go_at_call 110;exact Calls.quiet_of (CN2.out _ (Pr.drewN _ _)))))
              refine wpQuiet_nil ?_
              rintro _ ⟨nq,rfl⟩
              go_wp2_with fail
              have hval:(if (p3:Int)+(c:Int) < if p2 < p1 then (p2:Int)+1 else (p1:Int)+1 then (p3:Int)+(c:Int) else if p2 < p1 then (p2:Int)+1 else (p1:Int)+1)=(fdn xs ys L (i+1) M (j+1):Int):=by
                have h:=HF.out
                by_cases hq:p2 < p1
                · simp only [if_pos hq];split <;> omega
                · simp only [if_neg hq];split <;> omega
              rw [hval]
              obtain ⟨hL,hM,hA,hC,hbi⟩:=Hh.out
              refine ⟨⟨j+1,_,by omega,by go_num,HM2.out _ (Hp.out.drewN' nq),fun a b h h2=>?_,((Hb3.out.trans Hp.out).drewN' nq).setCell (by simp;omega) _⟩,?_⟩
              · by_cases hab:a=i∧b=j
                · obtain ⟨rfl,rfl⟩:=hab
                  rw [if_pos ⟨rfl,rfl⟩,← hL,← hM]
                · rw [if_neg hab];exact HD3.out a b (by omega) h2
              · simp [intOf];omega
            · have HT3:=Lib.hid hT
              have HD3:=Lib.hid hD
              clear hT hD
              have hjl':¬ (j:Int) < ys.length:=by omega
              go_wp2_with fail
              refine ⟨⟨i+1,D,by omega,by go_num,HT3.out,fun a b h h2=>HD3.out a b (by omega) h2,hb⟩,?_⟩
              simp [intOf];omega
        · have hil':¬ (i:Int) < xs.length:=by omega
          go_wp2_with fail
          go_ret2
          exact ⟨⟨_,rfl,g1,0,cc1,g2,0,cc2,wE.heap.size,bf,D,HT2.out,fun a b ha hb=>HD2.out a b (by omega) hb⟩,HbE.out.trans Hb2.out⟩
end Go.Proofs.YtdbnfhpgmcjngabGreatDoor
