/- Walks: what two trees cost; what two nodes' trees cost. -/
import Derived.Test.YtdbnfhpgmcjngacDc
namespace Go.Proofs.Ytdbnfhpgmcjngac
open Go Go.RowKit

set_option maxHeartbeats 1600000 in
theorem cost_any (xs ys : List Nd) (B : Nat) (w : World) (h : TblOk w B xs ys) (hx : Fit xs) (hy : Fit ys) (hix : xs.length ≤ 1000) (hjy : ys.length ≤ 1000) (hi : 1 ≤ xs.length) (hj : 1 ≤ ys.length) :
    Calls Try.prog 29 #[.pointer (some ⟨B, 0, none⟩)] w fun e w' =>
      e = .returned (.int .i64 (fdn xs ys 0 (xs.length - 1) 0 (ys.length - 1) + lc (labN xs (xs.length - 1)) (labN ys (ys.length - 1)) : Nat)) ∧ Pr w w' := by
  obtain ⟨xb, xo, xc, yb, yo, yc, g, bs, D, hT, hD⟩ := h
  obtain ⟨I, hI⟩ : ∃ I, I = xs.length - 1 := ⟨_, rfl⟩
  obtain ⟨J, hJ⟩ : ∃ J, J = ys.length - 1 := ⟨_, rfl⟩
  rw [← hI, ← hJ]
  have b0 : w.cell? ⟨B, 0, none⟩ = some (.slice (some ⟨xb, xo, none⟩) xs.length xc) := blk_cell hT.blk
  have b1 : w.cell? ⟨B, 1, none⟩ = some (.slice (some ⟨yb, yo, none⟩) ys.length yc) := blk_cell hT.blk
  have CF : Hid (∀ W', Pr w W' → Calls Try.prog 75 #[.pointer (some ⟨B, 0, none⟩), .int .i64 0, .int .i64 I, .int .i64 0, .int .i64 J] W' fun e w' => ∃ gf b1, e = .returned (.slice (some ⟨gf, 0, none⟩) (I + 2) (I + 2)) ∧
      w'.cell? ⟨gf, I, none⟩ = some (.slice (some ⟨b1, 0, none⟩) (J + 2) (J + 2)) ∧ w'.cell? ⟨b1, J, none⟩ = some (.int .i64 (fdn xs ys 0 I 0 J : Int)) ∧ Pr W' w') := Lib.hid fun W' hp => by
    have := forests_any (hT.pr hp) hx hy 0 I 0 J (by omega) (by omega) (Nat.zero_le _) (Nat.zero_le _) hix hjy (Cl.zero _ _) (Cl.zero _ _) (fun a b _ a2 _ b2 _ => hD a b (by omega) (by omega))
    refine this.mono ?_
    rintro e w' ⟨gf, bF, rfl, hMF, hp, _, _⟩
    have e1 := hMF.cell (x := I) (y := J) (by omega) (by omega)
    have q1 := hMF.slice (x := I) (by omega) (by omega)
    simp only [Nat.zero_add, Nat.sub_zero] at e1 q1
    exact ⟨gf, bF I, rfl, q1, e1, hp⟩
  have CN := Lib.hid (fun W' (h : Pr w W') => name_any (hT.pr h) I J (by omega) (by omega))
  have hk := fdn_bound hx hy (i0 := 0) (i := I) (j0 := 0) (j := J) (by omega) (by omega) (Cl.zero _ _) (Cl.zero _ _) (by omega) (by omega)
  have hlc := lc_le (labN xs I) (labN ys J)
  generalize fdn xs ys 0 I 0 J = p at *
  generalize lc (labN xs I) (labN ys J) = c at *
  have e1 : (xs.length : Int) - 1 = I := by omega
  have e2 : (ys.length : Int) - 1 = J := by omega
  have uI : IntKind.i64.wrap (I : Int) = I := IntWalk.i64_in _ (by omega)
  have uJ : IntKind.i64.wrap (J : Int) = J := IntWalk.i64_in _ (by omega)
  have uS : IntKind.i64.wrap ((p : Int) + (c : Int)) = (p : Int) + (c : Int) := IntWalk.i64_in _ (by omega)
  have z1 : (I : Int) < (I : Int) + 2 := by omega
  have z2 : (J : Int) < (J : Int) + 2 := by omega
  have w1 : (0 : Int) ≤ I := by omega
  have w2 : (0 : Int) ≤ J := by omega
  clear hD hT hk hlc hI hJ hi hj hix hjy hx hy
  go_enter Try.func29, Try.ntmps29
  go_wp2_with fail
  go_quiet (fail)
  go_wp2_with (first
    | (go_at_call 75; (with_reducible refine Calls.mono (CF.out _ (Pr.drewN _ _)) ?_); rintro e w1 ⟨gf, bg, rfl, q1, q2, hb'⟩))
  have hp := (Pr.drewN w nq).trans hb'
  obtain ⟨nq1, hnq⟩ : ∃ q, q = nq := ⟨_, rfl⟩
  subst hnq
  have Hp := Lib.hid hp
  have CN2 := Lib.hid (fun W' (h : Pr w1 W') => CN.out W' (hp.trans h))
  clear hb' hp
  go_quiet ((go_at_call 76; exact Calls.quiet_of (CN2.out _ (Pr.drewN _ _))))
  go_wp2_with fail
  go_ret
  exact ⟨rfl, Hp.out.drewN' _⟩

/-- Pair. -/
def pairZ (xs ys : List Nd) (i j : Int) : Int := if 0 ≤ i ∧ i < xs.length ∧ 0 ≤ j ∧ j < ys.length then (fdn xs ys (lfN xs i.toNat) (i.toNat + 1) (lfN ys j.toNat) (j.toNat + 1) : Int) else -1
end Go.Proofs.Ytdbnfhpgmcjngac
