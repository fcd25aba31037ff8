/- Walks: the table of forests. -/
import Derived.Test.YtdbnfhpgmcjngacDa
import Derived.Test.YtdbnfhpgmcjngacQt
import Derived.Deep.CutBlock
namespace Go.Proofs.Ytdbnfhpgmcjngac
open Go Go.RowKit

def ForPost (xs ys : List Nd) (i0 j0 n m : Nat) (w : World) (e : Ending) (w' : World) : Prop :=
  ∃ gf bf, e = .returned (.slice (some ⟨gf, 0, none⟩) n n) ∧ Mat w' gf n n m bf (fun x y => (fdn xs ys i0 (i0 + x) j0 (j0 + y) : Int)) ∧ Pr w w' ∧ w.heap.size ≤ gf ∧ ∀ x, x < n → w.heap.size ≤ bf x

theorem row0_step (x y j : Nat) : (if x = 0 ∧ y = j then (j : Int) else if y = 0 then (x : Int) else if x = 0 ∧ y < j then (y : Int) else 0) = if y = 0 then (x : Int) else if x = 0 ∧ y < j + 1 then (y : Int) else 0 := by
  by_cases hx0 : x = 0
  · subst hx0
    by_cases hyj : y = j
    · subst hyj
      by_cases hy0 : y = 0
      · simp [hy0]
      · simp [hy0]
    · have : y < j + 1 ↔ y < j := by omega
      simp [hyj, this]
  · simp [hx0]
/-- The table so far: whole rows, and a part of one. -/
def soFar (xs ys : List Nd) (i0 j0 X Y : Nat) (x y : Nat) : Int := if x < X ∨ (x = X ∧ y < Y) then (fdn xs ys i0 (i0 + x) j0 (j0 + y) : Int) else if y = 0 then (x : Int) else 0
theorem soFar_step (xs ys : List Nd) (i0 j0 X Y : Nat) (x y : Nat) : (if x = X ∧ y = Y then (fdn xs ys i0 (i0 + X) j0 (j0 + Y) : Int) else soFar xs ys i0 j0 X Y x y) = soFar xs ys i0 j0 X (Y + 1) x y := by
  unfold soFar
  by_cases h : x = X ∧ y = Y
  · obtain ⟨rfl, rfl⟩ := h; simp
  · rw [if_neg h]
    have : (x < X ∨ (x = X ∧ y < Y)) ↔ (x < X ∨ (x = X ∧ y < Y + 1)) := by omega
    simp only [this]

theorem soFar_old {xs ys : List Nd} {i0 j0 X Y x y : Nat} (h : x < X ∨ (x = X ∧ y < Y)) : soFar xs ys i0 j0 X Y x y = (fdn xs ys i0 (i0 + x) j0 (j0 + y) : Int) := if_pos h
theorem fdn_bound {xs ys : List Nd} (hx : Fit xs) (hy : Fit ys) {i0 i j0 j : Nat} (hi : i0 ≤ i) (hj : j0 ≤ j) (cx : Cl xs i0 i) (cy : Cl ys j0 j) (hix : i ≤ xs.length) (hjy : j ≤ ys.length) : fdn xs ys i0 i j0 j ≤ i + j := by
  have := fd_upper (rng xs i0 i) (rng ys j0 j)
  rw [rng_size xs _ i0 i (Nat.lt_succ_self _) hi cx hx hix, rng_size ys _ j0 j (Nat.lt_succ_self _) hj cy hy hjy] at this
  unfold fdn; omega

section
variable {w : World} {B : Nat} {xs ys : List Nd} {xb xo xc yb yo yc g : Nat} {bs : Nat → Nat} {D : Nat → Nat → Int}
set_option maxRecDepth 100000 in
set_option maxHeartbeats 3200000 in
theorem forests_any (h : Tbl w B xs ys xb xo xc yb yo yc g bs D) (hx : Fit xs) (hy : Fit ys) (i0 i1 j0 j1 : Nat) (hi : i1 < xs.length) (hj : j1 < ys.length) (h1 : i0 ≤ i1) (h2 : j0 ≤ j1) (hix : xs.length ≤ 1000) (hjy : ys.length ≤ 1000)
    (cx : Cl xs i0 (i1 + 1)) (cy : Cl ys j0 (j1 + 1)) (hD : ∀ i j, i0 ≤ i → i ≤ i1 → j0 ≤ j → j ≤ j1 → ¬(lfN xs i = i0 ∧ lfN ys j = j0) → D i j = (fdn xs ys (lfN xs i) (i + 1) (lfN ys j) (j + 1) : Int)) :
    Calls Try.prog 75 #[.pointer (some ⟨B, 0, none⟩), .int .i64 i0, .int .i64 i1, .int .i64 j0, .int .i64 j1] w (ForPost xs ys i0 j0 (i1 - i0 + 2) (j1 - j0 + 2) w) := by
  obtain ⟨n, hn⟩ : ∃ n, n = i1 - i0 + 2 := ⟨_, rfl⟩
  obtain ⟨m, hm⟩ : ∃ m, m = j1 - j0 + 2 := ⟨_, rfl⟩
  have hn' : (i1 : Int) - i0 + 2 = (n : Int) := by omega
  have hm' : (j1 : Int) - j0 + 2 = (m : Int) := by omega
  have hnb : n ≤ 1001 := by omega
  have hmb : m ≤ 1001 := by omega
  have hn1 : 2 ≤ n := by omega
  have hm1 : 2 ≤ m := by omega
  rw [← hn, ← hm]
  have Hn := Lib.hid hn
  have Hm := Lib.hid hm
  have HD := Lib.hid hD
  have HT := Lib.hid h
  have Hcx := Lib.hid cx
  have Hcy := Lib.hid cy
  clear hn hm hD h cx cy
  have hmk1 := fun W => make_rows n m bs (by omega) W
  have hmk2 := fun W => make_ints m (by omega) W
  go_enter Try.func75, Try.ntmps75
  go_wp2_with fail
  go_loopw [25] (fun v wr => ∃ (k : Nat) (bf : Nat → Nat), k ≤ n ∧ v = .int .i64 k ∧ Mat wr w.heap.size n k m bf (fun x y => if y = 0 then (x : Int) else 0) ∧ Pr w wr ∧ ∀ x, x < k → w.heap.size ≤ bf x) (fun v _ => n - (intOf v).toNat)
  case atStart => exact ⟨0, bs, by omega, rfl, ⟨heap_alloc_new w _, fun x hx => absurd hx (Nat.not_lt_zero _), fun x y hx => absurd hx (Nat.not_lt_zero _), fun x hx => absurd hx (Nat.not_lt_zero _)⟩, Pr.alloc _ _, fun x hx => absurd hx (Nat.not_lt_zero _)⟩
  case round =>
    obtain ⟨k, bf, hk, rfl, hM, hb, hbf⟩ := hrel
    by_cases hkn : k < n
    · have hkn' : (k : Int) < n := by omega
      have hk0 : (0 : Int) ≤ k := by omega
      have hM2 := hM.grow hkn
      have g1 : ∀ o1, (wr.alloc o1).cell? ⟨w.heap.size, k, none⟩ = some (.slice none 0 0) := fun o1 => (Pr.alloc _ o1).cell (by rw [blk_cell hM.out]; exact outV_nil bf hkn (Nat.lt_irrefl _))
      have g2 : ∀ o1, (wr.alloc o1).frozen? ⟨w.heap.size, k, none⟩ = false := fun o1 => by rw [(Pr.alloc _ o1).frozen (blk_lt hM.out)]; exact hM.frozenOut k
      have hgl := blk_lt hM.out
      obtain ⟨w5, hw5⟩ : ∃ w5, w5 = (wr.setCell ⟨w.heap.size, k, none⟩ (.slice (some ⟨wr.heap.size, 0, none⟩) m m)).alloc (.cells (rowV m (fun _ => 0)) 3) := ⟨_, rfl⟩
      rw [← hw5] at hM2
      have s1 := hM2.slice (x := k) (by omega) hkn
      have s2 := hM2.cell (x := k) (y := 0) (by omega) (by omega)
      have s3 := hM2.frozen (x := k) (by omega) 0
      simp only [if_true] at s1 s2 s3
      have hM3 := hM2.store (x := k) (y := 0) (by omega) (k : Int)
      rw [if_pos (rfl : k = k)] at hM3
      have hp5 : Pr w w5 := by rw [hw5]; exact (hb.setCell (Nat.le_refl _) _).alloc' _
      have hs5 := hb.size
      go_upto_region 6 with fail
      rw [← hw5]
      clear hw5 g1 g2
      have hM4 := Lib.hid hM3
      clear hM3 hM2 hM
      go_wp2_with fail
      refine ⟨⟨k + 1, _, by omega, by go_num, hM4.out.ext fun x y hx hy => ?_, hp5.setCell hs5 _, fun x hx => ?_⟩, ?_⟩
      · by_cases hy0 : y = 0
        · by_cases hxk : x = k
          · simp [hxk, hy0]
          · simp [hxk, hy0]
        · by_cases hxk : x = k
          · simp [hxk, hy0]
          · simp [hxk, hy0]
      · by_cases hxk : x = k
        · simp only [if_pos hxk]; exact hs5
        · simp only [if_neg hxk]; exact hbf x (by omega)
      · simp [intOf]; omega
    · have hkv : n = k := by omega
      subst hkv
      have hM1 := Lib.hid hM
      have Hbf := Lib.hid hbf
      obtain ⟨wa, hwa⟩ : ∃ wa, wa = wr := ⟨_, rfl⟩
      subst hwa
      have Hb := Lib.hid hb
      have q1 := hM.slice (x := 0) (by omega) (by omega)
      have hnp : (0 : Int) < n := by omega
      have hnp' : 0 < n := by omega
      clear hM hbf hb hkn
      go_wp2_with fail
      go_loopw [47] (fun v wr => ∃ (j : Nat), j ≤ m ∧ v = .int .i64 j ∧ Mat wr w.heap.size n n m bf (fun x y => if y = 0 then (x : Int) else if x = 0 ∧ y < j then (y : Int) else 0) ∧ Pr w wr) (fun v _ => m - (intOf v).toNat)
      case atStart => exact ⟨0, by omega, rfl, hM1.out.ext fun x y _ _ => by simp, Hb.out⟩
      case round =>
        obtain ⟨j, hjm, rfl, hM, hb⟩ := hrel
        have r1 := hM.slice (x := 0) (by omega) (by omega)
        by_cases hjl : j < m
        · have hjl' : (j : Int) < m := by omega
          have hjz : (0 : Int) ≤ j := by omega
          have r2 := hM.cell (x := 0) (y := j) (by omega) hjl
          have r3 := hM.frozen (x := 0) (by omega) j
          have HM2 := Lib.hid (hM.store (x := 0) (y := j) (by omega) (j : Int))
          have hbz := Hbf.out 0 hnp'
          clear hM
          go_wp2_with fail
          refine ⟨⟨j + 1, by omega, by go_num, HM2.out.ext fun x y hx hy => ?_, hb.setCell hbz _⟩, ?_⟩
          · exact row0_step x y j
          · simp [intOf]; omega
        · have hjv : m = j := by omega
          subst hjv
          have hF0 : ∀ x y, x < n → y < m → (if y = 0 then (x : Int) else if x = 0 ∧ y < m then (y : Int) else 0) = soFar xs ys i0 j0 1 1 x y := by
            intro x y hxn hym
            unfold soFar
            have hc1 : Cl xs i0 (i0 + x) := Hcx.out.mono (by have := Hn.out; omega)
            have hc2 : Cl ys j0 (j0 + y) := Hcy.out.mono (by have := Hm.out; omega)
            by_cases hx0 : x = 0
            · subst hx0
              have := fdn_left (xs := xs) (ys := ys) hy (i0 := i0) (i := i0 + 0) (j0 := j0) (j := j0 + y) (by omega) (by omega) hc2 (by have := Hm.out; omega)
              rw [if_pos (by omega : (0 : Nat) < 1 ∨ _), this]
              by_cases hy0 : y = 0
              · simp [hy0]
              · simp [hy0, hym]
            · by_cases hy0 : y = 0
              · subst hy0
                have := fdn_right (xs := xs) (ys := ys) hx (i0 := i0) (i := i0 + x) (j0 := j0) (j := j0 + 0) (by omega) (by omega) hc1 (by have := Hn.out; omega)
                by_cases hx1 : x = 1
                · rw [if_pos rfl, if_pos (by omega), this]; omega
                · rw [if_pos rfl, if_neg (by omega), if_pos rfl]
              · rw [if_neg hy0, if_neg (by omega), if_neg (by omega), if_neg hy0]
          have HM := Lib.hid (hM.ext fun x y hx hy => hF0 x y hx hy)
          have Hb := Lib.hid hb
          clear hM hb hF0
          go_wp2_with fail
          go_loopw [14] (fun v wr => ∃ (i : Nat), i0 ≤ i ∧ i ≤ i1 + 1 ∧ v = .int .i64 i ∧ Mat wr w.heap.size n n m bf (soFar xs ys i0 j0 (i - i0 + 1) 1) ∧ Pr w wr) (fun v _ => i1 + 1 - (intOf v).toNat)
          case atStart => exact ⟨i0, by omega, by omega, rfl, by rw [Nat.sub_self]; exact HM.out, Hb.out⟩
          case round =>
            obtain ⟨i, hi01, hi11, rfl, hM, hb⟩ := hrel
            by_cases hil : i ≤ i1
            · have hil' : (i : Int) ≤ i1 := by omega
              have HM2 := Lib.hid hM
              have Hb2 := Lib.hid hb
              clear hM hb
              go_wp2_with fail
              go_loopw [15] (fun v wr => ∃ (j : Nat), j0 ≤ j ∧ j ≤ j1 + 1 ∧ v = .int .i64 j ∧ Mat wr w.heap.size n n m bf (soFar xs ys i0 j0 (i - i0 + 1) (j - j0 + 1)) ∧ Pr w wr) (fun v _ => j1 + 1 - (intOf v).toNat)
              case atStart => exact ⟨j0, by omega, by omega, rfl, by rw [Nat.sub_self]; exact HM2.out, Hb2.out⟩
              case round =>
                obtain ⟨j, hj01, hj11, rfl, hM, hb⟩ := hrel
                by_cases hjl : j ≤ j1
                · have hjl' : (j : Int) ≤ j1 := by omega
                  obtain ⟨X, hX⟩ : ∃ X, X = i - i0 := ⟨_, rfl⟩
                  obtain ⟨Y, hY⟩ : ∃ Y, Y = j - j0 := ⟨_, rfl⟩
                  rw [← hX, ← hY] at hM
                  have hnn := Hn.out
                  have hmm := Hm.out
                  have hix' : i < xs.length := by omega
                  have hjy' : j < ys.length := by omega
                  have cxi : Cl xs i0 (i + 1) := Hcx.out.mono (by omega)
                  have cyj : Cl ys j0 (j + 1) := Hcy.out.mono (by omega)
                  have hL := cxi i hi01 (by omega)
                  have hMm := cyj j hj01 (by omega)
                  have hL2 := lfN_le xs i
                  have hM2 := lfN_le ys j
                  obtain ⟨A, hA⟩ : ∃ A, A = lfN xs i - i0 := ⟨_, rfl⟩
                  obtain ⟨C, hC⟩ : ∃ C, C = lfN ys j - j0 := ⟨_, rfl⟩
                  have hT := HT.out.pr hb
                  have b0 : wr.cell? ⟨B, 0, none⟩ = some (.slice (some ⟨xb, xo, none⟩) xs.length xc) := blk_cell hT.blk
                  have b1 : wr.cell? ⟨B, 1, none⟩ = some (.slice (some ⟨yb, yo, none⟩) ys.length yc) := blk_cell hT.blk
                  have x2 := (hT.nx i hix').2.2
                  have y2 := (hT.ny j hjy').2.2
                  rw [hx.left i hix'] at x2
                  rw [hy.left j hjy'] at y2
                  have s1 := hM.slice (x := X + 1) (by omega) (by omega)
                  have s2 := hM.slice (x := X) (by omega) (by omega)
                  have s3 := hM.slice (x := A) (by omega) (by omega)
                  have v1 := hM.cell (x := X) (y := Y + 1) (by omega) (by omega)
                  have v2 := hM.cell (x := X + 1) (y := Y) (by omega) (by omega)
                  have v3 := hM.cell (x := A) (y := C) (by omega) (by omega)
                  have v4 := hM.cell (x := X + 1) (y := Y + 1) (by omega) (by omega)
                  have f4 := hM.frozen (x := X + 1) (by omega) (Y + 1)
                  rw [soFar_old (by omega)] at v1 v2 v3
                  have e1 : i0 + X = i := by omega
                  have e2 : j0 + Y = j := by omega
                  have e3 : i0 + A = lfN xs i := by omega
                  have e4 : j0 + C = lfN ys j := by omega
                  rw [e1, ← Nat.add_assoc, e2] at v1
                  rw [← Nat.add_assoc, e1, e2] at v2
                  rw [e3, e4] at v3
                  have k1 := fdn_bound hx hy (i0 := i0) (i := i) (j0 := j0) (j := j + 1) (by omega) (by omega) (cxi.mono (by omega)) cyj (by omega) (by omega)
                  have k2 := fdn_bound hx hy (i0 := i0) (i := i + 1) (j0 := j0) (j := j) (by omega) (by omega) cxi (cyj.mono (by omega)) (by omega) (by omega)
                  have k3 := fdn_bound hx hy (i0 := i0) (i := lfN xs i) (j0 := j0) (j := lfN ys j) (by omega) (by omega) (cxi.mono (by omega)) (cyj.mono (by omega)) (by omega) (by omega)
                  have k4 := fdn_bound hx hy (i0 := i0) (i := i) (j0 := j0) (j := j) (by omega) (by omega) (cxi.mono (by omega)) (cyj.mono (by omega)) (by omega) (by omega)
                  have k5 := fdn_bound hx hy (i0 := lfN xs i) (i := i + 1) (j0 := lfN ys j) (j := j + 1) (by omega) (by omega) (hx.cl hix') (hy.cl hjy') (by omega) (by omega)
                  have hlc := lc_le (labN xs i) (labN ys j)
                  obtain ⟨V, hV⟩ : ∃ V : Int, V = if lfN xs i = i0 ∧ lfN ys j = j0 then soFar xs ys i0 j0 (X + 1) (Y + 1) (i - i0) (j - j0) + (lc (labN xs i) (labN ys j) : Nat) else D i j := ⟨_, rfl⟩
                  have hso : soFar xs ys i0 j0 (X + 1) (Y + 1) (i - i0) (j - j0) = (fdn xs ys i0 i j0 j : Int) := by
                    rw [soFar_old (by omega)]; congr 2 <;> omega
                  have CP := Lib.hid (fun W' (h : Pr wr W') => pair_any (hT.pr h) hx hy i j i0 j0 hix' hjy' hi01 hj01 hix hjy (hM.pr h) (by omega) (by omega) (by omega) V hV (by rw [hso]; omega) (by rw [hso]; omega))
                  have hfin : min (min ((fdn xs ys i0 i j0 (j + 1) : Int) + 1) ((fdn xs ys i0 (i + 1) j0 j : Int) + 1)) ((fdn xs ys i0 (lfN xs i) j0 (lfN ys j) : Int) + V) = (fdn xs ys i0 (i + 1) j0 (j + 1) : Int) ∧ 0 ≤ V ∧ V ≤ 3000 := by
                    by_cases hlr : lfN xs i = i0 ∧ lfN ys j = j0
                    · have h3 := fdn_step1 hx hy hlr.1 hlr.2 hix' hjy'
                      have h0 : fdn xs ys i0 (lfN xs i) j0 (lfN ys j) = 0 := by
                        rw [fdn_left hy (by omega) (by omega) (cyj.mono (by omega)) (by omega)]; omega
                      rw [if_pos hlr, hso] at hV
                      rw [h0]; omega
                    · have h3 := fdn_step2 hx hy hi01 hj01 cxi cyj hix' hjy'
                      rw [if_neg hlr, HD.out i j hi01 (by omega) hj01 (by omega) hlr] at hV
                      omega
                  obtain ⟨hf1, hf2, hf3⟩ := hfin
                  generalize (fdn xs ys i0 i j0 (j + 1)) = p1 at *
                  generalize (fdn xs ys i0 (i + 1) j0 j) = p2 at *
                  generalize (fdn xs ys i0 (lfN xs i) j0 (lfN ys j)) = p3 at *
                  have HF := Lib.hid hf1
                  have HM2 := Lib.hid (fun k => (hM.pr (Pr.drewN wr k)).store (x := X + 1) (y := Y + 1) (by omega) (fdn xs ys i0 (i + 1) j0 (j + 1) : Int))
                  have g1 : (i : Int) - i0 = X := by omega
                  have g2 : (j : Int) - j0 = Y := by omega
                  have g3 : (lfN xs i : Int) - i0 = A := by omega
                  have g4 : (lfN ys j : Int) - j0 = C := by omega
                  have z1 : (X : Int) + 1 < n := by omega
                  have z2 : (Y : Int) + 1 < m := by omega
                  have z3 : (A : Int) < n := by omega
                  have z4 : (C : Int) < m := by omega
                  have z5 : (X : Int) < n := by omega
                  have z6 : (Y : Int) < m := by omega
                  have z7 : (i : Int) < xs.length := by omega
                  have z8 : (j : Int) < ys.length := by omega
                  have w1 : (0 : Int) ≤ X := by omega
                  have w2 : (0 : Int) ≤ Y := by omega
                  have w3 : (0 : Int) ≤ A := by omega
                  have w4 : (0 : Int) ≤ C := by omega
                  have w5 : (0 : Int) ≤ i := by omega
                  have w7 : (0 : Int) ≤ (X : Int) + 1 := by omega
                  have w8 : (0 : Int) ≤ (Y : Int) + 1 := by omega
                  have w9 : ((X : Int) + 1).toNat = X + 1 := by omega
                  have w10 : ((Y : Int) + 1).toNat = Y + 1 := by omega
                  have y1 : (X : Int) + 1 - 1 = (X : Int) := by omega
                  have y3 : (Y : Int) + 1 - 1 = (Y : Int) := by omega
                  have uX : IntKind.i64.wrap (X : Int) = (X : Int) := IntWalk.i64_in _ (by omega)
                  have uY : IntKind.i64.wrap (Y : Int) = (Y : Int) := IntWalk.i64_in _ (by omega)
                  have uA : IntKind.i64.wrap (A : Int) = (A : Int) := IntWalk.i64_in _ (by omega)
                  have uC : IntKind.i64.wrap (C : Int) = (C : Int) := IntWalk.i64_in _ (by omega)
                  have u1 : IntKind.i64.wrap ((p1 : Int) + 1) = (p1 : Int) + 1 := IntWalk.i64_in _ (by omega)
                  have u2 : IntKind.i64.wrap ((p2 : Int) + 1) = (p2 : Int) + 1 := IntWalk.i64_in _ (by omega)
                  have u3 : IntKind.i64.wrap ((p3 : Int) + V) = (p3 : Int) + V := IntWalk.i64_in _ (by omega)
                  have w6 : (0 : Int) ≤ j := by omega
                  generalize lfN xs i = L1 at *
                  generalize lfN ys j = L2 at *
                  have Hh := Lib.hid (And.intro hX (And.intro hY (And.intro hA hC)))
                  clear hV hso hf1 hM hT cxi cyj e1 e2 e3 e4 hX hY hA hC k1 k2 k3 k4 k5 hnn hmm hL hMm hL2 hM2 hlc hjl hil
                  go_upto_region 20 with fail
                  refine wp_region_quiet_tail 58 (by kernel_rfl) (by kernel_rfl) ?_
                  simp only [List.take_succ_cons, List.take_zero, List.drop_succ_cons, List.drop_zero]
                  repeat (go_big_quiet_step ((go_at_call 103; exact Calls.quiet_of (CP.out _ (Pr.drewN _ _)))))
                  refine wpQuiet_nil ?_
                  rintro _ ⟨nq, rfl⟩
                  have hbx := Hbf.out (X + 1) (by omega)
                  go_wp2_with fail
                  obtain ⟨hX, hY, hA, hC⟩ := Hh.out
                  have hval : (if (p3 : Int) + V < if p2 < p1 then (p2 : Int) + 1 else (p1 : Int) + 1 then (p3 : Int) + V else if p2 < p1 then (p2 : Int) + 1 else (p1 : Int) + 1) = (fdn xs ys i0 (i + 1) j0 (j + 1) : Int) := by
                    have h := HF.out
                    by_cases hp : p2 < p1
                    · simp only [if_pos hp]; split <;> omega
                    · simp only [if_neg hp]; split <;> omega
                  rw [hval]
                  refine ⟨⟨j + 1, by omega, by omega, by go_num, ?_, (hb.drewN' _).setCell hbx _⟩, ?_⟩
                  · refine (HM2.out nq).ext fun x y _ _ => ?_
                    have h := soFar_step xs ys i0 j0 (X + 1) (Y + 1) x y
                    rw [show i0 + (X + 1) = i + 1 by omega, show j0 + (Y + 1) = j + 1 by omega] at h
                    rw [h, ← hX, show j + 1 - j0 + 1 = Y + 1 + 1 by omega]
                  · simp [intOf]; omega
                · have hjv : ¬ (j : Int) ≤ j1 := by omega
                  have hje : j = j1 + 1 := by omega
                  have hmm := Hm.out
                  have hM3 : Mat wr w.heap.size n n m bf (soFar xs ys i0 j0 (i + 1 - i0 + 1) 1) := by
                    refine hM.ext fun x y hxn hym => ?_
                    unfold soFar
                    by_cases h1 : x < i - i0 + 1 ∨ (x = i - i0 + 1 ∧ y < j - j0 + 1)
                    · rw [if_pos h1, if_pos (by omega)]
                    · rw [if_neg h1]
                      by_cases h2 : x < i + 1 - i0 + 1 ∨ (x = i + 1 - i0 + 1 ∧ y < 1)
                      · rw [if_pos h2]
                        have hy0 : y = 0 := by omega
                        have := fdn_right (xs := xs) (ys := ys) hx (i0 := i0) (i := i0 + x) (j0 := j0) (j := j0 + y) (by omega) (by omega) (Hcx.out.mono (by have := Hn.out; omega)) (by have := Hn.out; omega)
                        rw [if_pos hy0, this]; omega
                      · rw [if_neg h2]
                  have HM3 := Lib.hid hM3
                  clear hM hM3 hje hmm
                  go_wp2_with fail
                  refine ⟨⟨i + 1, by omega, by omega, by go_num, HM3.out, hb⟩, ?_⟩
                  simp [intOf]; omega
            · have hiv : ¬ (i : Int) ≤ i1 := by omega
              have hie : i = i1 + 1 := by omega
              have HM3 := Lib.hid hM
              clear hM hil
              go_wp2_with fail
              go_ret
              have hnn := Hn.out
              refine ⟨w.heap.size, bf, rfl, HM3.out.ext fun x y hxn hym => ?_, hb, Nat.le_refl _, Hbf.out⟩
              exact soFar_old (by omega)
end
end Go.Proofs.Ytdbnfhpgmcjngac
