/- Walks: pleachingref.most: the table of what two lists have in common. -/
import Derived.Test.YtdbnfhpgmcjngabMe
import Derived.Test.YtdbnfhpgmcjngabAf
namespace Go.Proofs.Ytdbnfhpgmcjngab
open Go Go.RowKit

/-- The rows' slices: those from k on are made. -/
def outD (n k m : Nat) (bs : Nat → Nat) : Array Value := ((List.range n).map fun x => if k ≤ x then Value.slice (some ⟨bs x, 0, none⟩) m m else .slice none 0 0).toArray
/-- Block g holds the slices of n rows, of which those from k on are made, each of m numbers. -/
structure Mad (w : World) (g n k m : Nat) (bs : Nat → Nat) (D : Nat → Nat → Int) : Prop where
  out : w.heap[g]? = some (.cells (outD n k m bs) 38 (0, 0))
  row : ∀ x, k ≤ x → x < n → w.heap[bs x]? = some (.cells (rowV m (D x)) 3 (0, 0))
  inj : ∀ x y, k ≤ x → x < n → k ≤ y → y < n → bs x = bs y → x = y
  ne : ∀ x, k ≤ x → x < n → bs x ≠ g
theorem outD_get {n k m x : Nat} (bs : Nat → Nat) (h : x < n) (hk : k ≤ x) : (outD n k m bs)[x]? = some (.slice (some ⟨bs x, 0, none⟩) m m) := by simp [outD, h, hk]
theorem outD_nil {n k m x : Nat} (bs : Nat → Nat) (h : x < n) (hk : ¬ k ≤ x) : (outD n k m bs)[x]? = some (.slice none 0 0) := by simp [outD, h]; omega
theorem outD_all (n m : Nat) (bs : Nat → Nat) : outD n n m bs = outV n 0 m bs := by
  unfold outD outV
  congr 1
  refine List.map_congr_left fun x hx => ?_
  rw [List.mem_range] at hx
  rw [if_neg (by omega), if_neg (by omega)]
theorem outD_zero (n m : Nat) (bs : Nat → Nat) : outD n 0 m bs = outV n n m bs := by
  unfold outD outV
  congr 1
  refine List.map_congr_left fun x hx => ?_
  rw [List.mem_range] at hx
  rw [if_pos (by omega), if_pos (by omega)]
theorem outD_set {n k m : Nat} (bs : Nat → Nat) (b : Nat) (hk : k < n) : (outD n (k + 1) m bs).setIfInBounds k (.slice (some ⟨b, 0, none⟩) m m) = outD n k m (fun x => if x = k then b else bs x) := by
  unfold outD
  rw [List.setIfInBounds_toArray]
  congr 1
  refine List.ext_getElem? fun i => ?_
  rw [List.getElem?_set]
  by_cases h : k = i
  · subst h
    simp [*]
  · rw [if_neg h]
    by_cases hm : i < n
    · have h1 : (k + 1 ≤ i) ↔ k ≤ i := by omega
      have h2 : ¬ i = k := fun e => h e.symm
      simp [hm, h1, h2]
    · simp [hm]
section
variable {w : World} {g n k m : Nat} {bs : Nat → Nat} {D : Nat → Nat → Int}
theorem Mad.slice (h : Mad w g n k m bs D) {x : Nat} (hx : k ≤ x) (hn : x < n) : w.cell? ⟨g, x, none⟩ = some (.slice (some ⟨bs x, 0, none⟩) m m) := by
  rw [blk_cell h.out]; exact outD_get bs hn hx
theorem Mad.cell (h : Mad w g n k m bs D) {x y : Nat} (hx : k ≤ x) (hn : x < n) (hy : y < m) : w.cell? ⟨bs x, y, none⟩ = some (.int .i64 (D x y)) := by
  rw [blk_cell (h.row x hx hn)]; exact rowV_get (D x) hy
theorem Mad.frozen (h : Mad w g n k m bs D) {x : Nat} (hx : k ≤ x) (hn : x < n) (y : Nat) : w.frozen? ⟨bs x, y, none⟩ = false := blk_frozen (h.row x hx hn)
theorem Mad.frozenOut (h : Mad w g n k m bs D) (x : Nat) : w.frozen? ⟨g, x, none⟩ = false := blk_frozen h.out
theorem Mad.pr {w' : World} (h : Mad w g n k m bs D) (hp : Pr w w') : Mad w' g n k m bs D := ⟨hp.blk h.out, fun x hx hn => hp.blk (h.row x hx hn), h.inj, h.ne⟩
/-- A number is stored. -/
theorem Mad.store (h : Mad w g n k m bs D) {x y : Nat} (hx : k ≤ x) (hn : x < n) (v : Int) : Mad (w.setCell ⟨bs x, y, none⟩ (.int .i64 v)) g n k m bs (fun x' y' => if x' = x ∧ y' = y then v else D x' y') := by
  refine ⟨?_, fun x' hx' hn' => ?_, h.inj, h.ne⟩
  · rw [Below.heap_setCell _ _ _ _ (fun e => h.ne x hx hn e.symm)]; exact h.out
  · by_cases he : x' = x
    · subst he
      have := blk_set (o := y) (h.row x' hx hn) (.int .i64 v)
      rw [rowV_set] at this
      rw [this]
      simp
    · rw [Below.heap_setCell _ _ _ _ (fun e => he (h.inj _ _ hx' hn' hx hn e))]
      rw [h.row x' hx' hn']
      simp [he]
/-- A row is made, and its slice stored. -/
theorem Mad.grow (h : Mad w g n (k + 1) m bs D) (hk : k < n) :
    Mad ((w.setCell ⟨g, k, none⟩ (.slice (some ⟨w.heap.size, 0, none⟩) m m)).alloc (.cells (rowV m (fun _ => 0)) 3)) g n k m (fun x => if x = k then w.heap.size else bs x) (fun x y => if x = k then 0 else D x y) := by
  have hgl := blk_lt h.out
  have hbl : ∀ x, k + 1 ≤ x → x < n → bs x < w.heap.size := fun x hx hn => blk_lt (h.row x hx hn)
  have hsz : (w.setCell ⟨g, k, none⟩ (.slice (some ⟨w.heap.size, 0, none⟩) m m)).heap.size = w.heap.size := by simp [World.setCell]
  refine ⟨?_, fun x hx hn => ?_, fun x y hx hxn hy hyn e => ?_, fun x hx hn => ?_⟩
  · have := (Pr.alloc _ (.cells (rowV m (fun _ => 0)) 3)).blk (blk_set (o := k) h.out (.slice (some ⟨w.heap.size, 0, none⟩) m m))
    rw [outD_set bs _ hk] at this
    exact this
  · by_cases he : x = k
    · subst he
      simp only [if_true]
      have := heap_alloc_new (w.setCell ⟨g, x, none⟩ (.slice (some ⟨w.heap.size, 0, none⟩) m m)) (.cells (rowV m (fun _ => 0)) 3)
      rw [hsz] at this
      exact this
    · simp only [if_neg he]
      refine (Pr.alloc _ _).blk ?_
      rw [Below.heap_setCell _ _ _ _ (h.ne x (by omega) hn)]
      exact h.row x (by omega) hn
  · by_cases h1 : x = k
    · by_cases h2 : y = k
      · omega
      · have := hbl y (by omega) hyn
        rw [if_pos h1, if_neg h2] at e; omega
    · by_cases h2 : y = k
      · have := hbl x (by omega) hxn
        rw [if_neg h1, if_pos h2] at e; omega
      · rw [if_neg h1, if_neg h2] at e
        exact h.inj x y (by omega) hxn (by omega) hyn e
  · by_cases h1 : x = k
    · simp only [if_pos h1]; omega
    · simp only [if_neg h1]; exact h.ne x (by omega) hn
theorem Mad.ext {D' : Nat → Nat → Int} (h : Mad w g n k m bs D) (he : ∀ x y, k ≤ x → x < n → y < m → D x y = D' x y) : Mad w g n k m bs D' := by
  refine ⟨h.out, fun x hx hn => ?_, h.inj, h.ne⟩
  rw [h.row x hx hn]
  congr 2
  unfold rowV
  congr 1
  refine List.map_congr_left fun y hy => ?_
  rw [he x y hx hn (by simpa using hy)]
theorem Mad.mat (h : Mad w g n 0 m bs D) : Mat w g n n m bs D :=
  ⟨by rw [← outD_zero]; exact h.out, fun x hx => h.row x (Nat.zero_le _) hx, fun x y hx hy e => h.inj x y (Nat.zero_le _) hx (Nat.zero_le _) hy e, fun x hx => h.ne x (Nat.zero_le _) hx⟩
end
theorem tab_nil {xs ys : List Tr} {i j : Nat} (h : i = xs.length ∨ j = ys.length) {x y : Nat} : tab xs ys i j x y = tab xs ys i ((j : Int) - 1) x y := by
  rw [← tab_step (lcs (xs.drop i) (ys.drop j) : Int) rfl]
  by_cases he : x = i ∧ y = j
  · rw [if_pos he]
    obtain ⟨rfl, rfl⟩ := he
    unfold tab
    rw [if_neg (by omega)]
    rcases h with h | h
    · rw [h, List.drop_length, lcs_nil]; rfl
    · rw [h, List.drop_length, lcs_nil_right]; rfl
  · rw [if_neg he]
theorem lcs_max_at {xs ys : List Tr} {i j : Nat} (hi : i < xs.length) (hj : j < ys.length) : lcs (xs.drop i) (ys.drop j) = if xs[i].beq ys[j] = true ∧ max (lcs (xs.drop (i + 1)) (ys.drop j)) (lcs (xs.drop i) (ys.drop (j + 1))) < lcs (xs.drop (i + 1)) (ys.drop (j + 1)) + 1 then lcs (xs.drop (i + 1)) (ys.drop (j + 1)) + 1 else max (lcs (xs.drop (i + 1)) (ys.drop j)) (lcs (xs.drop i) (ys.drop (j + 1))) := by
  rw [List.drop_eq_getElem_cons hi, List.drop_eq_getElem_cons hj, lcs_max]

/-- The table is told. -/
def MostPost (xs ys : List Tr) (w : World) (e : Ending) (w' : World) : Prop := ∃ g bf, e = .returned (.slice (some ⟨g, 0, none⟩) (xs.length + 1) (xs.length + 1)) ∧
  Mat w' g (xs.length + 1) (xs.length + 1) (ys.length + 1) bf (fun x y => (lcs (xs.drop x) (ys.drop y) : Int)) ∧ Pr w w'
set_option maxRecDepth 100000 in
set_option maxHeartbeats 6400000 in
theorem most_any (xs ys : List Tr) (oa cap ob cbp) (w : World) (ha : Kids Any w xs oa cap) (hb : Kids Any w ys ob cbp) (hal : xs.length ≤ 1000) (hbl : ys.length ≤ 1000) :
    Calls Try.prog 75 #[.slice oa xs.length cap, .slice ob ys.length cbp] w (MostPost xs ys w) := by
  obtain ⟨n, hn⟩ : ∃ n, n = xs.length + 1 := ⟨_, rfl⟩
  obtain ⟨m, hm⟩ : ∃ m, m = ys.length + 1 := ⟨_, rfl⟩
  have hn' : (xs.length : Int) + 1 = (n : Int) := by omega
  have hm' : (ys.length : Int) + 1 = (m : Int) := by omega
  have hmk1 := fun W => make_rows n m (fun _ => 0) (by omega) W
  have hmk2 := fun W => make_ints m (by omega) W
  have Hn := Lib.hid hn
  have Hm := Lib.hid hm
  have HA := Lib.hid ha
  have HB := Lib.hid hb
  have HP : Hid (∀ g bf w', Mat w' g n n m bf (fun x y => (lcs (xs.drop x) (ys.drop y) : Int)) → Pr w w' → MostPost xs ys w (.returned (.slice (some ⟨g, 0, none⟩) n n)) w') := Lib.hid fun g bf w' h1 h2 => ⟨g, bf, by rw [← hn], by rw [← hn, ← hm]; exact h1, h2⟩
  clear hn hm ha hb
  go_enter Try.func75, Try.ntmps75
  go_wp2_with fail
  go_loopw [6] (fun v wr => ∃ (r : Int) (bf : Nat → Nat), -1 ≤ r ∧ r ≤ (xs.length : Int) ∧ v = .int .i64 r ∧ Mad wr w.heap.size n (r + 1).toNat m bf (tab xs ys r ys.length) ∧ Pr w wr ∧ ∀ x, (r + 1).toNat ≤ x → x < n → w.heap.size ≤ bf x) (fun v _ => (intOf v + 1).toNat)
  case atStart =>
    have h1 : ((xs.length : Int) + 1).toNat = n := by have := Hn.out; omega
    refine ⟨_, fun _ => 0, by omega, by omega, rfl, ?_, Pr.alloc _ _, fun x hx => by rw [h1] at hx; omega⟩
    rw [h1]
    exact ⟨by rw [outD_all]; exact heap_alloc_new w _, fun x hx => by omega, fun x y hx => by omega, fun x hx => by omega⟩
  case round =>
    obtain ⟨r, bf, hr0, hr1, rfl, hM, hb, hbf⟩ := hrel
    by_cases hrz : 0 ≤ r
    · obtain ⟨k, rfl⟩ := Int.eq_ofNat_of_zero_le hrz
      have hk1 : ((k : Int) + 1).toNat = k + 1 := by omega
      rw [hk1] at hM hbf
      have hkn : k < n := by have := Hn.out; omega
      have hkn' : (k : Int) < n := by omega
      have hk0 : (0 : Int) ≤ k := by omega
      have hM2 := hM.grow hkn
      have g1 : ∀ o1, (wr.alloc o1).cell? ⟨w.heap.size, k, none⟩ = some (.slice none 0 0) := fun o1 => (Pr.alloc _ o1).cell (by rw [blk_cell hM.out]; exact outD_nil bf hkn (by omega))
      have g2 : ∀ o1, (wr.alloc o1).frozen? ⟨w.heap.size, k, none⟩ = false := fun o1 => by rw [(Pr.alloc _ o1).frozen (blk_lt hM.out)]; exact hM.frozenOut k
      have hgl := blk_lt hM.out
      have hp5 : Pr w ((wr.setCell ⟨w.heap.size, k, none⟩ (.slice (some ⟨wr.heap.size, 0, none⟩) m m)).alloc (.cells (rowV m (fun _ => 0)) 3)) := (hb.setCell (Nat.le_refl _) _).alloc' _
      have hs5 := hb.size
      have hM4 := Lib.hid hM2
      have Hp5 := Lib.hid hp5
      have Hbf := Lib.hid hbf
      clear hM2 hM hp5 hbf
      go_upto_region 6 with fail
      obtain ⟨bf2, hbf2⟩ : ∃ b2 : Nat → Nat, b2 = fun x => if x = k then wr.heap.size else bf x := ⟨_, rfl⟩
      have HM5 : Hid (Mad ((wr.setCell ⟨w.heap.size, k, none⟩ (.slice (some ⟨wr.heap.size, 0, none⟩) m m)).alloc (.cells (rowV m (fun _ => 0)) 3)) w.heap.size n k m bf2 (tab xs ys k ys.length)) := Lib.hid (by
        rw [hbf2]
        refine hM4.out.ext fun x y hx hn hy => ?_
        by_cases hxk : x = k
        · rw [if_pos hxk, hxk]; unfold tab; rw [if_neg (by have := Hm.out; omega)]
        · rw [if_neg hxk])
      have HB2 : Hid (∀ x, k ≤ x → x < n → w.heap.size ≤ bf2 x) := Lib.hid fun x hx hn => by
        rw [hbf2]
        by_cases hxk : x = k
        · simp only [if_pos hxk]; exact hs5
        · simp only [if_neg hxk]; exact Hbf.out x (by omega) hn
      clear hM4 hbf2 g1 g2 hgl hs5
      generalize (wr.setCell ⟨w.heap.size, k, none⟩ (.slice (some ⟨wr.heap.size, 0, none⟩) m m)).alloc (.cells (rowV m (fun _ => 0)) 3) = w1 at *
      go_wp2_with fail
      go_loopw [7] (fun v wr => ∃ u : Int, -1 ≤ u ∧ u ≤ (ys.length : Int) ∧ v = .int .i64 u ∧ Mad wr w.heap.size n k m bf2 (tab xs ys k u) ∧ Pr w wr) (fun v _ => (intOf v + 1).toNat)
      case atStart => exact ⟨_, by omega, by omega, rfl, HM5.out, Hp5.out⟩
      case round =>
        obtain ⟨u, hs0, hs1, rfl, hM, hb⟩ := hrel
        by_cases hsz : 0 ≤ u
        · obtain ⟨j, rfl⟩ := Int.eq_ofNat_of_zero_le hsz
          by_cases hends : k = xs.length ∨ j = ys.length
          · have HM6 : Hid (Mad wr w.heap.size n k m bf2 (tab xs ys k ((j : Int) - 1))) := Lib.hid (hM.ext fun x y _ _ _ => tab_nil hends)
            clear hM
            by_cases hke : k = xs.length
            · have e1 : ((k : Int) == (xs.length : Int)) = true := by simp [hke]
              clear hends hke
              go_wp2_with fail
              refine ⟨⟨(j : Int) - 1, by omega, by omega, rfl, HM6.out, hb⟩, ?_⟩
              simp [intOf]
            · have e1 : ((k : Int) == (xs.length : Int)) = false := by rw [beq_eq_false_iff_ne]; omega
              have e2 : ((j : Int) == (ys.length : Int)) = true := by rw [beq_iff_eq]; omega
              clear hends hke
              go_wp2_with fail
              refine ⟨⟨(j : Int) - 1, by omega, by omega, rfl, HM6.out, hb⟩, ?_⟩
              simp [intOf]
          · have hnn := Hn.out
            have hmm := Hm.out
            have hi : k < xs.length := by omega
            have hj : j < ys.length := by omega
            have e1 : ((k : Int) == (xs.length : Int)) = false := by rw [beq_eq_false_iff_ne]; omega
            have e2 : ((j : Int) == (ys.length : Int)) = false := by rw [beq_eq_false_iff_ne]; omega
            have s1 := hM.slice (x := k + 1) (by omega) (by omega)
            have s2 := hM.slice (x := k) (by omega) (by omega)
            have v1 := hM.cell (x := k + 1) (y := j) (by omega) (by omega) (by omega)
            have v2 := hM.cell (x := k) (y := j + 1) (by omega) (by omega) (by omega)
            have v3 := hM.cell (x := k + 1) (y := j + 1) (by omega) (by omega) (by omega)
            have v4 := hM.cell (x := k) (y := j) (by omega) (by omega) (by omega)
            have f4 := hM.frozen (x := k) (by omega) (by omega) j
            have lb4 := blk_lt (hM.row k (by omega) (by omega))
            rw [tab_yes (by omega)] at v1 v2 v3
            have k1 := lcs_drop_le xs ys (k + 1) j
            have k2 := lcs_drop_le xs ys k (j + 1)
            have k3 := lcs_drop_le xs ys (k + 1) (j + 1)
            have hlc := lcs_max_at hi hj
            have hbi := HB2.out k (by omega) (by omega)
            obtain ⟨b1, o1, l1, ks1, oa1, cap1, t1, hl1, rfl, x0, x1, hk1⟩ := (HA.out.pr hb).get k hi
            obtain ⟨b2, o2, l2, ks2, oa2, cap2, t2, hl2, rfl, y0, y1, hk2⟩ := (HB.out.pr hb).get j hj
            rw [t1, t2] at hlc
            have X0 := After.cell x0; have X1 := After.cell x1; have Y0 := After.cell y0; have Y1 := After.cell y1
            have A1 := After.cell s1; have A2 := After.cell s2; have A3 := After.cell v3
            have S1 := Lib.hid (After.call (P := Try.prog) fun W' (h : Pr wr W') => sameTree_any l1 l2 ks1 ks2 oa1 cap1 oa2 cap2 W' (hk1.pr h) (hk2.pr h))
            obtain ⟨V, hV⟩ : ∃ V, V = lcs (xs.drop k) (ys.drop j) := ⟨_, rfl⟩
            rw [← hV] at hlc
            generalize (Tr.node l1 ks1).beq (.node l2 ks2) = bl at *
            generalize lcs (xs.drop (k + 1)) (ys.drop (j + 1)) = p3 at *
            generalize lcs (xs.drop (k + 1)) (ys.drop j) = p1 at *
            generalize lcs (xs.drop k) (ys.drop (j + 1)) = p2 at *
            have z1 : (k : Int) + 1 < n := by omega
            have z2 : (k : Int) < n := by omega
            have z3 : (j : Int) + 1 < m := by omega
            have z4 : (j : Int) < m := by omega
            have z7 : (k : Int) < xs.length := by omega
            have z8 : (j : Int) < ys.length := by omega
            have q1 : (0 : Int) ≤ (k : Int) := by omega
            have q2 : (0 : Int) ≤ (k : Int) + 1 := by omega
            have q3 : (0 : Int) ≤ (j : Int) + 1 := by omega
            have q4 : (0 : Int) ≤ (j : Int) := by omega
            have w9 : ((k : Int) + 1).toNat = k + 1 := by omega
            have w10 : ((j : Int) + 1).toNat = j + 1 := by omega
            have u1 : IntKind.i64.wrap ((k : Int) + 1) = (k : Int) + 1 := IntWalk.i64_in _ (by omega)
            have u2 : IntKind.i64.wrap ((j : Int) + 1) = (j : Int) + 1 := IntWalk.i64_in _ (by omega)
            have u3 : IntKind.i64.wrap ((p3 : Int) + 1) = (p3 : Int) + 1 := IntWalk.i64_in _ (by omega)
            have HM3 := Lib.hid hM
            have HV := Lib.hid hV
            have Hb := Lib.hid hb
            have FIN : Hid (∀ w4, Pr wr w4 → (Mad (w4.setCell ⟨bf2 k, j, none⟩ (.int .i64 (V : Int))) w.heap.size n k m bf2 (tab xs ys k ((j : Int) - 1)) ∧ Pr w (w4.setCell ⟨bf2 k, j, none⟩ (.int .i64 (V : Int))))) := Lib.hid fun w4 hq => by
              refine ⟨((HM3.out.pr hq).store (x := k) (y := j) (by omega) (by omega) (V : Int)).ext fun x y _ _ _ => ?_, (Hb.out.trans hq).setCell hbi _⟩
              rw [← tab_step (lcs (xs.drop k) (ys.drop j) : Int) rfl, ← HV.out]
            clear hM hnn hmm hl1 hl2 x0 x1 y0 y1 hk1 hk2 hV hends t1 t2 hb
            by_cases h12 : p1 < p2
            case pos =>
              have d1 : decide ((p1 : Int) < (p2 : Int)) = true := decide_eq_true (by omega)
              have d2 : decide (p1 < p2) = true := decide_eq_true h12
              cases bl
              case false =>
                rw [if_neg (by simp)] at hlc
                have eV : (V : Int) = (p2 : Int) := by omega
                rw [eV] at FIN
                have h3 : True := trivial
                clear hlc eV h12 h3
                go_upto_region 13 with fail
                refine wp_region_after (by kernel_rfl) (by kernel_rfl) ?_
                repeat (go_big_quiet_step (first | (go_at_call 22; with_reducible exact S1.out _)))
                refine wpQuiet_nil ?_
                rintro wq ⟨⟨_, hq⟩, rfl⟩
                have s1 := hq.cell s1; have s2 := hq.cell s2; have v3 := hq.cell v3; have v4 := hq.cell v4
                have f4 : wq.frozen? ⟨bf2 k, j, none⟩ = false := by rw [hq.frozen lb4]; exact f4
                obtain ⟨g1, g2⟩ := FIN.out _ hq
                have G1 := Lib.hid g1; have G2 := Lib.hid g2
                clear g1 g2 FIN X0 X1 Y0 Y1 A1 A2 A3
                go_wp2_with fail
                refine ⟨⟨(j : Int) - 1, by omega, by omega, rfl, G1.out, G2.out⟩, ?_⟩
                simp [intOf]
              case true =>
                by_cases h3 : p2 < p3 + 1
                · have d3 : decide ((p2 : Int) < (p3 : Int) + 1) = true := decide_eq_true (by omega)
                  rw [if_pos ⟨rfl, by omega⟩] at hlc
                  have eV : (V : Int) = (p3 : Int) + 1 := by omega
                  rw [eV] at FIN
                  clear hlc eV h12 h3
                  go_upto_region 13 with fail
                  refine wp_region_after (by kernel_rfl) (by kernel_rfl) ?_
                  repeat (go_big_quiet_step (first | (go_at_call 22; with_reducible exact S1.out _)))
                  refine wpQuiet_nil ?_
                  rintro wq ⟨⟨_, hq⟩, rfl⟩
                  have s1 := hq.cell s1; have s2 := hq.cell s2; have v3 := hq.cell v3; have v4 := hq.cell v4
                  have f4 : wq.frozen? ⟨bf2 k, j, none⟩ = false := by rw [hq.frozen lb4]; exact f4
                  obtain ⟨g1, g2⟩ := FIN.out _ hq
                  have G1 := Lib.hid g1; have G2 := Lib.hid g2
                  clear g1 g2 FIN X0 X1 Y0 Y1 A1 A2 A3
                  go_wp2_with fail
                  refine ⟨⟨(j : Int) - 1, by omega, by omega, rfl, G1.out, G2.out⟩, ?_⟩
                  simp [intOf]
                · have d3 : decide ((p2 : Int) < (p3 : Int) + 1) = false := decide_eq_false (by omega)
                  rw [if_neg (by omega)] at hlc
                  have eV : (V : Int) = (p2 : Int) := by omega
                  rw [eV] at FIN
                  clear hlc eV h12 h3
                  go_upto_region 13 with fail
                  refine wp_region_after (by kernel_rfl) (by kernel_rfl) ?_
                  repeat (go_big_quiet_step (first | (go_at_call 22; with_reducible exact S1.out _)))
                  refine wpQuiet_nil ?_
                  rintro wq ⟨⟨_, hq⟩, rfl⟩
                  have s1 := hq.cell s1; have s2 := hq.cell s2; have v3 := hq.cell v3; have v4 := hq.cell v4
                  have f4 : wq.frozen? ⟨bf2 k, j, none⟩ = false := by rw [hq.frozen lb4]; exact f4
                  obtain ⟨g1, g2⟩ := FIN.out _ hq
                  have G1 := Lib.hid g1; have G2 := Lib.hid g2
                  clear g1 g2 FIN X0 X1 Y0 Y1 A1 A2 A3
                  go_wp2_with fail
                  refine ⟨⟨(j : Int) - 1, by omega, by omega, rfl, G1.out, G2.out⟩, ?_⟩
                  simp [intOf]
            case neg =>
              have d1 : decide ((p1 : Int) < (p2 : Int)) = false := decide_eq_false (by omega)
              have d2 : decide (p1 < p2) = false := decide_eq_false h12
              cases bl
              case false =>
                rw [if_neg (by simp)] at hlc
                have eV : (V : Int) = (p1 : Int) := by omega
                rw [eV] at FIN
                have h3 : True := trivial
                clear hlc eV h12 h3
                go_upto_region 13 with fail
                refine wp_region_after (by kernel_rfl) (by kernel_rfl) ?_
                repeat (go_big_quiet_step (first | (go_at_call 22; with_reducible exact S1.out _)))
                refine wpQuiet_nil ?_
                rintro wq ⟨⟨_, hq⟩, rfl⟩
                have s1 := hq.cell s1; have s2 := hq.cell s2; have v3 := hq.cell v3; have v4 := hq.cell v4
                have f4 : wq.frozen? ⟨bf2 k, j, none⟩ = false := by rw [hq.frozen lb4]; exact f4
                obtain ⟨g1, g2⟩ := FIN.out _ hq
                have G1 := Lib.hid g1; have G2 := Lib.hid g2
                clear g1 g2 FIN X0 X1 Y0 Y1 A1 A2 A3
                go_wp2_with fail
                refine ⟨⟨(j : Int) - 1, by omega, by omega, rfl, G1.out, G2.out⟩, ?_⟩
                simp [intOf]
              case true =>
                by_cases h3 : p1 < p3 + 1
                · have d3 : decide ((p1 : Int) < (p3 : Int) + 1) = true := decide_eq_true (by omega)
                  rw [if_pos ⟨rfl, by omega⟩] at hlc
                  have eV : (V : Int) = (p3 : Int) + 1 := by omega
                  rw [eV] at FIN
                  clear hlc eV h12 h3
                  go_upto_region 13 with fail
                  refine wp_region_after (by kernel_rfl) (by kernel_rfl) ?_
                  repeat (go_big_quiet_step (first | (go_at_call 22; with_reducible exact S1.out _)))
                  refine wpQuiet_nil ?_
                  rintro wq ⟨⟨_, hq⟩, rfl⟩
                  have s1 := hq.cell s1; have s2 := hq.cell s2; have v3 := hq.cell v3; have v4 := hq.cell v4
                  have f4 : wq.frozen? ⟨bf2 k, j, none⟩ = false := by rw [hq.frozen lb4]; exact f4
                  obtain ⟨g1, g2⟩ := FIN.out _ hq
                  have G1 := Lib.hid g1; have G2 := Lib.hid g2
                  clear g1 g2 FIN X0 X1 Y0 Y1 A1 A2 A3
                  go_wp2_with fail
                  refine ⟨⟨(j : Int) - 1, by omega, by omega, rfl, G1.out, G2.out⟩, ?_⟩
                  simp [intOf]
                · have d3 : decide ((p1 : Int) < (p3 : Int) + 1) = false := decide_eq_false (by omega)
                  rw [if_neg (by omega)] at hlc
                  have eV : (V : Int) = (p1 : Int) := by omega
                  rw [eV] at FIN
                  clear hlc eV h12 h3
                  go_upto_region 13 with fail
                  refine wp_region_after (by kernel_rfl) (by kernel_rfl) ?_
                  repeat (go_big_quiet_step (first | (go_at_call 22; with_reducible exact S1.out _)))
                  refine wpQuiet_nil ?_
                  rintro wq ⟨⟨_, hq⟩, rfl⟩
                  have s1 := hq.cell s1; have s2 := hq.cell s2; have v3 := hq.cell v3; have v4 := hq.cell v4
                  have f4 : wq.frozen? ⟨bf2 k, j, none⟩ = false := by rw [hq.frozen lb4]; exact f4
                  obtain ⟨g1, g2⟩ := FIN.out _ hq
                  have G1 := Lib.hid g1; have G2 := Lib.hid g2
                  clear g1 g2 FIN X0 X1 Y0 Y1 A1 A2 A3
                  go_wp2_with fail
                  refine ⟨⟨(j : Int) - 1, by omega, by omega, rfl, G1.out, G2.out⟩, ?_⟩
                  simp [intOf]
        · have hrv : u = -1 := by omega
          have HM6 := Lib.hid (hM.ext fun x y _ _ hy => show _ = tab xs ys ((k : Int) - 1) ys.length x y by rw [hrv]; exact tab_next (by have := Hm.out; omega))
          have e1 : decide (0 ≤ u) = false := by simp; omega
          have hk2 : ((k : Int) - 1 + 1).toNat = k := by omega
          clear hM hrv
          go_wp2_with fail
          refine ⟨⟨(k : Int) - 1, bf2, by omega, by omega, rfl, by rw [hk2]; exact HM6.out, hb, fun x hx hn => HB2.out x (by omega) hn⟩, ?_⟩
          simp [intOf]
    · have hrv : r = -1 := by omega
      subst hrv
      have HM6 := Lib.hid ((show Mad wr w.heap.size n 0 m bf (tab xs ys (-1) ys.length) from hM).mat.ext fun x y hx hy => show _ = (lcs (xs.drop x) (ys.drop y) : Int) by rw [tab_yes (by omega)])
      have Hb := Lib.hid hb
      clear hM hb hbf
      go_wp2_with fail
      go_ret
      exact HP.out _ _ _ HM6.out Hb.out
end Go.Proofs.Ytdbnfhpgmcjngab
