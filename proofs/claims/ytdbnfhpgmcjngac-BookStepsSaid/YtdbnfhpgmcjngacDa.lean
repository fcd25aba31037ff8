/- Walks: the table of two trees: name, pair. -/
import Derived.Test.YtdbnfhpgmcjngacDm
import Derived.Test.YtdbnfhpgmcjngacBpl
import Derived.Test.YtdbnfhpgmcjngacBwa
import Derived.WalkLawsBesides
namespace Go.Proofs.Ytdbnfhpgmcjngac
open Go Go.RowKit

/-- The table: the nodes of both, and what each two trees cost. -/
structure Tbl (w : World) (B : Nat) (xs ys : List Nd) (xb xo xc yb yo yc g : Nat) (bs : Nat → Nat) (D : Nat → Nat → Int) : Prop where
  blk : w.heap[B]? = some (.cells #[.slice (some ⟨xb, xo, none⟩) xs.length xc, .slice (some ⟨yb, yo, none⟩) ys.length yc, .slice (some ⟨g, 0, none⟩) xs.length xs.length] 110 (0, 0))
  nx : ∀ i (_ : i < xs.length), w.cell? ⟨xb, xo + i * 3, none⟩ = some (.string xs[i].lab) ∧ w.cell? ⟨xb, xo + i * 3 + 1, none⟩ = some (.int .i64 xs[i].par) ∧ w.cell? ⟨xb, xo + i * 3 + 2, none⟩ = some (.int .i64 xs[i].left)
  ny : ∀ i (_ : i < ys.length), w.cell? ⟨yb, yo + i * 3, none⟩ = some (.string ys[i].lab) ∧ w.cell? ⟨yb, yo + i * 3 + 1, none⟩ = some (.int .i64 ys[i].par) ∧ w.cell? ⟨yb, yo + i * 3 + 2, none⟩ = some (.int .i64 ys[i].left)
  mat : Mat w g xs.length xs.length ys.length bs D
section
variable {w : World} {B : Nat} {xs ys : List Nd} {xb xo xc yb yo yc g : Nat} {bs : Nat → Nat} {D : Nat → Nat → Int}
theorem Tbl.pr {w' : World} (h : Tbl w B xs ys xb xo xc yb yo yc g bs D) (hp : Pr w w') : Tbl w' B xs ys xb xo xc yb yo yc g bs D :=
  ⟨hp.blk h.blk, fun i hi => ⟨hp.cell (h.nx i hi).1, hp.cell (h.nx i hi).2.1, hp.cell (h.nx i hi).2.2⟩, fun i hi => ⟨hp.cell (h.ny i hi).1, hp.cell (h.ny i hi).2.1, hp.cell (h.ny i hi).2.2⟩, h.mat.pr hp⟩

theorem toList_eq {a b : ByteArray} : a.data.toList = b.data.toList ↔ a = b := by
  constructor
  · intro h; cases a; cases b; congr; exact Array.toList_inj.1 h
  · intro h; rw [h]

theorem name_any (h : Tbl w B xs ys xb xo xc yb yo yc g bs D) (i j : Nat) (hi : i < xs.length) (hj : j < ys.length) :
    Calls Try.prog 76 #[.pointer (some ⟨B, 0, none⟩), .int .i64 i, .int .i64 j] w fun e w' => e = .returned (.int .i64 (lc (labN xs i) (labN ys j) : Nat)) ∧ ∃ m, w' = w.drewN m := by
  have b0 : w.cell? ⟨B, 0, none⟩ = some (.slice (some ⟨xb, xo, none⟩) xs.length xc) := blk_cell h.blk
  have b1 : w.cell? ⟨B, 1, none⟩ = some (.slice (some ⟨yb, yo, none⟩) ys.length yc) := blk_cell h.blk
  have x0 := (h.nx i hi).1
  have y0 := (h.ny j hj).1
  rw [labN_get xs i hi, labN_get ys j hj]
  generalize xs[i].lab = l at *
  generalize ys[j].lab = m at *
  have hi' : (i : Int) < xs.length := by omega
  have hj' : (j : Int) < ys.length := by omega
  have hi0 : (0 : Int) ≤ i := by omega
  have hj0 : (0 : Int) ≤ j := by omega
  clear h
  by_cases he : l = m
  · subst he
    have hl : lc l l = 0 := lc_self l
    have Hl := Lib.hid hl
    clear hl
    go_enter Try.func76, Try.ntmps76
    go_wp2_with fail
    go_quiet (fail)
    go_wp2_with fail
    go_ret
    exact ⟨by rw [Hl.out]; rfl, nq, rfl⟩
  · have hl : lc l m = 1 := if_neg he
    have hn : (l.toList == m.toList) = false := by simpa using toList_ne he
    have Hl := Lib.hid hl
    clear hl
    go_enter Try.func76, Try.ntmps76
    go_wp2_with fail
    go_quiet (fail)
    go_wp2_with fail
    go_ret
    exact ⟨by rw [Hl.out]; rfl, nq, rfl⟩

/-- A table of forests, likewise. -/
theorem pair_any (h : Tbl w B xs ys xb xo xc yb yo yc g bs D) (hx : Fit xs) (hy : Fit ys) (i j i0 j0 : Nat) (hi : i < xs.length) (hj : j < ys.length) (h1 : i0 ≤ i) (h2 : j0 ≤ j) (hix : xs.length ≤ 1000) (hjy : ys.length ≤ 1000)
    {gf nf mf : Nat} {bf : Nat → Nat} {F : Nat → Nat → Int} (hf : Mat w gf nf nf mf bf F) (hn : i - i0 < nf) (hm : j - j0 < mf) (_ : nf ≤ 2000)
    (V : Int) (hV : V = if lfN xs i = i0 ∧ lfN ys j = j0 then F (i - i0) (j - j0) + (lc (labN xs i) (labN ys j) : Nat) else D i j) (hF0 : 0 ≤ F (i - i0) (j - j0)) (hF1 : F (i - i0) (j - j0) ≤ 1000000) :
    Calls Try.prog 103 #[.pointer (some ⟨B, 0, none⟩), .int .i64 i, .int .i64 j, .slice (some ⟨gf, 0, none⟩) nf nf, .int .i64 i0, .int .i64 j0] w fun e w' => e = .returned (.int .i64 V) ∧ ∃ m, w' = w.drewN m := by
  have b0 : w.cell? ⟨B, 0, none⟩ = some (.slice (some ⟨xb, xo, none⟩) xs.length xc) := blk_cell h.blk
  have b1 : w.cell? ⟨B, 1, none⟩ = some (.slice (some ⟨yb, yo, none⟩) ys.length yc) := blk_cell h.blk
  have b2 : w.cell? ⟨B, 2, none⟩ = some (.slice (some ⟨g, 0, none⟩) xs.length xs.length) := blk_cell h.blk
  have x2 := (h.nx i hi).2.2
  have y2 := (h.ny j hj).2.2
  rw [hx.left i hi] at x2
  rw [hy.left j hj] at y2
  have hi' : (i : Int) < xs.length := by omega
  have hj' : (j : Int) < ys.length := by omega
  have hi0 : (0 : Int) ≤ i := by omega
  have hj0 : (0 : Int) ≤ j := by omega
  have HN := Lib.hid (fun n => name_any (h.pr (Pr.drewN w n)) i j hi hj)
  have hlc := lc_le (labN xs i) (labN ys j)
  generalize lc (labN xs i) (labN ys j) = c at *
  by_cases hA : lfN xs i = i0
  · by_cases hB : lfN ys j = j0
    · have d0 := hf.slice hn hn
      have d1 := hf.cell hn hm
      rw [if_pos ⟨hA, hB⟩] at hV
      rw [hA] at x2
      rw [hB] at y2
      have e1 : ((i : Int) - i0) = ((i - i0 : Nat) : Int) := by omega
      have e2 : ((j : Int) - j0) = ((j - j0 : Nat) : Int) := by omega
      have n1 : ((i - i0 : Nat) : Int) < nf := by omega
      have n2 : ((j - j0 : Nat) : Int) < mf := by omega
      have n3 : (0 : Int) ≤ ((i - i0 : Nat) : Int) := by omega
      have n4 : (0 : Int) ≤ ((j - j0 : Nat) : Int) := by omega
      generalize F (i - i0) (j - j0) = f at *
      generalize bf (i - i0) = bi at *
      have HV := Lib.hid hV
      have hw : IntKind.i64.wrap (f + (c : Int)) = f + (c : Int) := IntWalk.i64_in _ (by omega)
      clear hV hf h hA hB hx hy
      go_enter Try.func103, Try.ntmps103
      go_wp2_with fail
      go_quiet ((go_at_call 76; exact Calls.quiet_of (HN.out _)))
      go_wp2_with fail
      go_ret
      exact ⟨by rw [HV.out]; rfl, nq, rfl⟩
    · have d0 := h.mat.slice hi hi
      have d1 := h.mat.cell hi hj
      rw [if_neg (fun h => hB h.2)] at hV
      have HV := Lib.hid hV
      generalize lfN xs i = li at *
      generalize lfN ys j = lj at *
      generalize D i j = dv at *
      generalize bs i = bi at *
      have q1 : ((li : Int) == (i0 : Int)) = true := by rw [hA]; simp
      have q2 : ((lj : Int) == (j0 : Int)) = false := by rw [beq_eq_false_iff_ne]; omega
      clear hV hf h hA hB hx hy HN hF0 hF1
      go_enter Try.func103, Try.ntmps103
      go_wp2_with fail
      go_ret
      exact ⟨by rw [HV.out]; rfl, 0, rfl⟩
  · have d0 := h.mat.slice hi hi
    have d1 := h.mat.cell hi hj
    rw [if_neg (fun h => hA h.1)] at hV
    have HV := Lib.hid hV
    generalize lfN xs i = li at *
    generalize lfN ys j = lj at *
    generalize D i j = dv at *
    generalize bs i = bi at *
    have q1 : ((li : Int) == (i0 : Int)) = false := by rw [beq_eq_false_iff_ne]; omega
    clear hV hf h hA hx hy HN hF0 hF1
    go_enter Try.func103, Try.ntmps103
    go_wp2_with fail
    go_ret
    exact ⟨by rw [HV.out]; rfl, 0, rfl⟩
end
end Go.Proofs.Ytdbnfhpgmcjngac
