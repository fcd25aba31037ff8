/- Tables of numbers in memory, of one's own: rows in blocks, and the block of the rows. -/
import Derived.Test.YtdbnfhpgmcjngabMn
import Derived.Deep.OwnRows
namespace Go.Proofs.Ytdbnfhpgmcjngab
open Go Go.RowKit

/-- So many numbers, one behind the other. -/
def rowV (m : Nat) (D : Nat → Int) : Array Value := ((List.range m).map fun y => Value.int .i64 (D y)).toArray
/-- The rows' slices: the first k are made. -/
def outV (n k m : Nat) (bs : Nat → Nat) : Array Value := ((List.range n).map fun x => if x < k then Value.slice (some ⟨bs x, 0, none⟩) m m else .slice none 0 0).toArray
/-- Block g holds the slices of n rows, of which the first k are made, each of m numbers. -/
structure Mat (w : World) (g n k m : Nat) (bs : Nat → Nat) (D : Nat → Nat → Int) : Prop where
  out : w.heap[g]? = some (.cells (outV n k m bs) 38 (0, 0))
  row : ∀ x, x < k → w.heap[bs x]? = some (.cells (rowV m (D x)) 3 (0, 0))
  inj : ∀ x y, x < k → y < k → bs x = bs y → x = y
  ne : ∀ x, x < k → bs x ≠ g

theorem rowV_get {m y : Nat} (D : Nat → Int) (h : y < m) : (rowV m D)[y]? = some (.int .i64 (D y)) := by simp [rowV, h]
theorem rowV_set {m y : Nat} (D : Nat → Int) (v : Int) : (rowV m D).setIfInBounds y (.int .i64 v) = rowV m (fun y' => if y' = y then v else D y') := by
  unfold rowV
  rw [List.setIfInBounds_toArray]
  congr 1
  refine List.ext_getElem? fun i => ?_
  rw [List.getElem?_set]
  by_cases h : y = i
  · subst h
    by_cases hm : y < m
    · simp [hm]
    · simp [hm]
  · rw [if_neg h]
    by_cases hm : i < m
    · simp [hm, Ne.symm h]
    · simp [hm]
theorem rowV_zero (m : Nat) : rowV m (fun _ => 0) = Array.replicate m (.int .i64 0) := by
  apply Array.ext'
  simp [rowV]
  refine List.ext_getElem? fun i => ?_
  by_cases hm : i < m
  · simp [hm]
  · simp [hm]
theorem outV_get {n k m x : Nat} (bs : Nat → Nat) (h : x < n) (hk : x < k) : (outV n k m bs)[x]? = some (.slice (some ⟨bs x, 0, none⟩) m m) := by simp [outV, h, hk]
theorem outV_nil {n k m x : Nat} (bs : Nat → Nat) (h : x < n) (hk : ¬ x < k) : (outV n k m bs)[x]? = some (.slice none 0 0) := by simp [outV, h, hk]
theorem outV_zero (n m : Nat) (bs : Nat → Nat) : outV n 0 m bs = Array.replicate n (.slice none 0 0) := by
  apply Array.ext'
  simp [outV]
  refine List.ext_getElem? fun i => ?_
  by_cases hm : i < n
  · simp [hm]
  · simp [hm]
theorem outV_set {n k m : Nat} (bs : Nat → Nat) (b : Nat) (_ : k < n) : (outV n k m bs).setIfInBounds k (.slice (some ⟨b, 0, none⟩) m m) = outV n (k + 1) m (fun x => if x = k then b else bs x) := by
  unfold outV
  rw [List.setIfInBounds_toArray]
  congr 1
  refine List.ext_getElem? fun i => ?_
  rw [List.getElem?_set]
  by_cases h : k = i
  · subst h
    simp [*]
  · rw [if_neg h]
    by_cases hm : i < n
    · have h1 : (i < k + 1) ↔ i < k := by omega
      have h2 : ¬ i = k := fun e => h e.symm
      simp [hm, h1, h2]
    · simp [hm]

theorem made_one (z : Value) (n : Nat) : madeCells #[z] n = Array.replicate n z := by
  apply Array.ext
  · simp [madeCells]
  · intro i h1 h2
    simp [madeCells, Nat.mod_one]
theorem under_rows : Try.prog.underlying 108 = some (.slice 38) := by kernel_rfl
theorem info_ints : (Try.prog.info? 38).map (fun i => (i.zero, i.size, i.bytes)) = some (some (.slice none 0 0), 1, 24) := by kernel_rfl
theorem make_rows (n m : Nat) (bs : Nat → Nat) (hn : n ≤ 1000000) (W : World) : (Instr.makeSlice 108 (.int .i64 n) (.int .i64 n)).run Try.prog W = .ok (.slice (some ⟨W.heap.size, 0, none⟩) n n) (W.alloc (.cells (outV n 0 m bs) 38)) := by
  rw [outV_zero, ← made_one]
  exact Go.run_make_row' _ _ _ 24 under_rows info_ints rfl .i64 .i64 n (by omega) (by omega) W
theorem make_ints (m : Nat) (hn : m ≤ 1000000) (W : World) : (Instr.makeSlice 38 (.int .i64 m) (.int .i64 m)).run Try.prog W = .ok (.slice (some ⟨W.heap.size, 0, none⟩) m m) (W.alloc (.cells (rowV m (fun _ => 0)) 3)) := by
  rw [rowV_zero, ← made_one]
  exact Go.run_make_row' _ _ _ 8 under_intsT info_int rfl .i64 .i64 m (by omega) (by omega) W

section
variable {w : World} {g n k m : Nat} {bs : Nat → Nat} {D : Nat → Nat → Int}
theorem Mat.slice (h : Mat w g n k m bs D) {x : Nat} (hx : x < k) (hn : x < n) : w.cell? ⟨g, x, none⟩ = some (.slice (some ⟨bs x, 0, none⟩) m m) := by
  rw [blk_cell h.out]; exact outV_get bs hn hx
theorem Mat.cell (h : Mat w g n k m bs D) {x y : Nat} (hx : x < k) (hy : y < m) : w.cell? ⟨bs x, y, none⟩ = some (.int .i64 (D x y)) := by
  rw [blk_cell (h.row x hx)]; exact rowV_get (D x) hy
theorem Mat.frozen (h : Mat w g n k m bs D) {x : Nat} (hx : x < k) (y : Nat) : w.frozen? ⟨bs x, y, none⟩ = false := blk_frozen (h.row x hx)
theorem Mat.frozenOut (h : Mat w g n k m bs D) (x : Nat) : w.frozen? ⟨g, x, none⟩ = false := blk_frozen h.out
theorem Mat.pr {w' : World} (h : Mat w g n k m bs D) (hp : Pr w w') : Mat w' g n k m bs D := ⟨hp.blk h.out, fun x hx => hp.blk (h.row x hx), h.inj, h.ne⟩
theorem Mat.chg {w' : World} {X : Nat → Prop} (h : Mat w g n k m bs D) (hp : Chg X w w') (hg : ¬ X g) (hb : ∀ x, x < k → ¬ X (bs x)) : Mat w' g n k m bs D := ⟨hp.blk h.out hg, fun x hx => hp.blk (h.row x hx) (hb x hx), h.inj, h.ne⟩
/-- A number is stored. -/
theorem Mat.store (h : Mat w g n k m bs D) {x y : Nat} (hx : x < k) (v : Int) : Mat (w.setCell ⟨bs x, y, none⟩ (.int .i64 v)) g n k m bs (fun x' y' => if x' = x ∧ y' = y then v else D x' y') := by
  refine ⟨?_, fun x' hx' => ?_, h.inj, h.ne⟩
  · rw [Below.heap_setCell _ _ _ _ (fun e => h.ne x hx e.symm)]; exact h.out
  · by_cases he : x' = x
    · subst he
      have := blk_set (o := y) (h.row x' hx) (.int .i64 v)
      rw [rowV_set] at this
      rw [this]
      simp
    · rw [Below.heap_setCell _ _ _ _ (fun e => he (h.inj _ _ hx' hx e))]
      rw [h.row x' hx']
      simp [he]
/-- A row is made, and its slice stored. -/
theorem Mat.grow (h : Mat w g n k m bs D) (hk : k < n) :
    Mat ((w.setCell ⟨g, k, none⟩ (.slice (some ⟨w.heap.size, 0, none⟩) m m)).alloc (.cells (rowV m (fun _ => 0)) 3)) g n (k + 1) m (fun x => if x = k then w.heap.size else bs x) (fun x y => if x = k then 0 else D x y) := by
  have hgl := blk_lt h.out
  have hbl : ∀ x, x < k → bs x < w.heap.size := fun x hx => blk_lt (h.row x hx)
  have hsz : (w.setCell ⟨g, k, none⟩ (.slice (some ⟨w.heap.size, 0, none⟩) m m)).heap.size = w.heap.size := by simp [World.setCell]
  refine ⟨?_, fun x hx => ?_, fun x y hx hy e => ?_, fun x hx => ?_⟩
  · have := (Pr.alloc _ (.cells (rowV m (fun _ => 0)) 3)).blk (blk_set (o := k) h.out (.slice (some ⟨w.heap.size, 0, none⟩) m m))
    rw [outV_set bs _ hk] at this
    exact this
  · by_cases he : x = k
    · subst he
      simp only [if_true]
      have := heap_alloc_new (w.setCell ⟨g, x, none⟩ (.slice (some ⟨w.heap.size, 0, none⟩) m m)) (.cells (rowV m (fun _ => 0)) 3)
      rw [hsz] at this
      exact this
    · simp only [if_neg he]
      have hx' : x < k := by omega
      refine (Pr.alloc _ _).blk ?_
      rw [Below.heap_setCell _ _ _ _ (h.ne x hx')]
      exact h.row x hx'
  · by_cases h1 : x = k
    · by_cases h2 : y = k
      · omega
      · have := hbl y (by omega)
        rw [if_pos h1, if_neg h2] at e; omega
    · by_cases h2 : y = k
      · have := hbl x (by omega)
        rw [if_neg h1, if_pos h2] at e; omega
      · rw [if_neg h1, if_neg h2] at e
        exact h.inj x y (by omega) (by omega) e
  · by_cases h1 : x = k
    · simp only [if_pos h1]; omega
    · simp only [if_neg h1]; exact h.ne x (by omega)
theorem Mat.ext {D' : Nat → Nat → Int} (h : Mat w g n k m bs D) (he : ∀ x y, x < k → y < m → D x y = D' x y) : Mat w g n k m bs D' := by
  refine ⟨h.out, fun x hx => ?_, h.inj, h.ne⟩
  rw [h.row x hx]
  congr 2
  unfold rowV
  congr 1
  refine List.map_congr_left fun y hy => ?_
  rw [he x y hx (by simpa using hy)]
end
end Go.Proofs.Ytdbnfhpgmcjngab
