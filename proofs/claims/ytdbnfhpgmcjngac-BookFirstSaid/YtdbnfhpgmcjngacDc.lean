/- Walks: the table of two trees is made. -/
import Derived.Test.YtdbnfhpgmcjngacDb
import Derived.Test.YtdbnfhpgmcjngacBwn
import Derived.Test.YtdbnfhpgmcjngacLa
namespace Go.Proofs.Ytdbnfhpgmcjngac
open Go Go.RowKit

/-- A table that is made. -/
def TblOk (w : World) (B : Nat) (xs ys : List Nd) : Prop := ∃ xb xo xc yb yo yc g bs D, Tbl w B xs ys xb xo xc yb yo yc g bs D ∧ ∀ i j, i < xs.length → j < ys.length → D i j = (fdn xs ys (lfN xs i) (i + 1) (lfN ys j) (j + 1) : Int)
theorem TblOk.pr {w w' : World} {B : Nat} {xs ys : List Nd} (h : TblOk w B xs ys) (hp : Pr w w') : TblOk w' B xs ys := by
  obtain ⟨xb, xo, xc, yb, yo, yc, g, bs, D, h1, h2⟩ := h
  exact ⟨xb, xo, xc, yb, yo, yc, g, bs, D, h1.pr hp, h2⟩

/-- dist.Of: a code, or the table. -/
def DistOfPost (a b : Tr) (w : World) (e : Ending) (w' : World) : Prop :=
  ((fault a ≠ 0 ∧ e = .returned (.tuple #[.pointer none, .int .i64 (fault a)])) ∨ (fault a = 0 ∧ fault b ≠ 0 ∧ e = .returned (.tuple #[.pointer none, .int .i64 (fault b)])) ∨
    (fault a = 0 ∧ fault b = 0 ∧ ∃ B, e = .returned (.tuple #[.pointer (some ⟨B, 0, none⟩), .int .i64 0]) ∧ TblOk w' B (nds a) (nds b))) ∧ Pr w w'

theorem Nds.at'' {S : Nat → Prop} {w : World} {xs : List Nd} {oa : Option Addr} {cap : Nat} (h : Nds S w xs oa cap) (hne : 0 < xs.length) : ∃ b o, oa = some ⟨b, o, none⟩ ∧
    ∀ (i : Nat) (_ : i < xs.length), w.cell? ⟨b, o + i * 3, none⟩ = some (.string xs[i].lab) ∧ w.cell? ⟨b, o + i * 3 + 1, none⟩ = some (.int .i64 xs[i].par) ∧ w.cell? ⟨b, o + i * 3 + 2, none⟩ = some (.int .i64 xs[i].left) := by
  obtain ⟨_, b, o, h1, h2⟩ := h
  exact ⟨b, o, (h1 (by intro e; subst e; simp at hne)).1, h2⟩
/-- A number of the table is stored. -/
theorem Tbl.store' {w : World} {xs ys : List Nd} {xb xo xc yb yo yc g n : Nat} {bs : Nat → Nat} {D : Nat → Nat → Int} (h : Tbl w (n + 1) xs ys xb xo xc yb yo yc g bs D) (hbs : ∀ x, x < xs.length → n + 2 ≤ bs x) (hx : xb < n) (hy : yb < n) {i : Nat} (hi : i < xs.length) (j : Nat) (v : Int) :
    Tbl (w.setCell ⟨bs i, j, none⟩ (.int .i64 v)) (n + 1) xs ys xb xo xc yb yo yc g bs (fun x' y' => if x' = i ∧ y' = j then v else D x' y') := by
  have hb := hbs i hi
  refine ⟨?_, fun k hk => ?_, fun k hk => ?_, h.mat.store hi v⟩
  · rw [Below.heap_setCell _ _ _ _ (by simp; omega)]; exact h.blk
  · obtain ⟨h1, h2, h3⟩ := h.nx k hk
    exact ⟨cell_far h1 (by simp; omega), cell_far h2 (by simp; omega), cell_far h3 (by simp; omega)⟩
  · obtain ⟨h1, h2, h3⟩ := h.ny k hk
    exact ⟨cell_far h1 (by simp; omega), cell_far h2 (by simp; omega), cell_far h3 (by simp; omega)⟩
theorem orderOf_len (l : ByteArray) (ks : List Tr) (oa cap) (w : World) (hl : l.size ≤ maxLen) (hk : Kids Any w ks oa cap) (hf : fault (.node l ks) = 0) :
    Calls Try.prog 74 #[.agg #[.string l, .slice oa ks.length cap]] w fun e w' => ∃ g c, e = .returned (.tuple #[.slice (some ⟨g, 0, none⟩) (nds (.node l ks)).length c, .int .i64 0]) ∧ Nds Any w' (nds (.node l ks)) (some ⟨g, 0, none⟩) c ∧ Pr w w' := by
  refine (orderOf_any l ks oa cap w hl hk).mono ?_
  rintro e w' ⟨_, h2, hb⟩
  obtain ⟨g, c, rfl, ho⟩ := h2 hf
  obtain ⟨o1, cp, hv, hn⟩ := ho.nds
  rw [nds_length] at hv
  cases hv
  rw [nds_length]
  exact ⟨g, c, rfl, hn.any, hb⟩
theorem orderOf_bad (l : ByteArray) (ks : List Tr) (oa cap) (w : World) (hl : l.size ≤ maxLen) (hk : Kids Any w ks oa cap) (hf : fault (.node l ks) ≠ 0) :
    Calls Try.prog 74 #[.agg #[.string l, .slice oa ks.length cap]] w fun e w' => e = .returned (.tuple #[.slice none 0 0, .int .i64 (fault (.node l ks) : Nat)]) ∧ Pr w w' := by
  refine (orderOf_any l ks oa cap w hl hk).mono ?_
  rintro e w' ⟨h1, _, hb⟩
  exact ⟨h1 hf, hb⟩

set_option maxRecDepth 100000 in
set_option maxHeartbeats 3200000 in
theorem distOf_any (l : ByteArray) (ks : List Tr) (oa cap) (m : ByteArray) (js : List Tr) (ob cbp) (w : World) (hl : l.size ≤ maxLen) (hk : Kids Any w ks oa cap) (hm : m.size ≤ maxLen) (hj : Kids Any w js ob cbp) :
    Calls Try.prog 28 #[.agg #[.string l, .slice oa ks.length cap], .agg #[.string m, .slice ob js.length cbp]] w (DistOfPost (.node l ks) (.node m js) w) := by
  obtain ⟨W, hW⟩ : ∃ W, W = (w.alloc (.cells #[.string l, .slice oa ks.length cap] 24)).alloc (.cells #[.string m, .slice ob js.length cbp] 24) := ⟨_, rfl⟩
  have hwW : Pr w W := by rw [hW]; exact (Pr.alloc _ _).alloc' _
  have c0 : W.cell? ⟨w.heap.size, 0, none⟩ = some (.string l) := by rw [hW]; simp [go_sem]
  have c1 : W.cell? ⟨w.heap.size, 1, none⟩ = some (.slice oa ks.length cap) := by rw [hW]; simp [go_sem]
  have c2 : W.cell? ⟨w.heap.size + 1, 0, none⟩ = some (.string m) := by rw [hW]; simp [go_sem]
  have c3 : W.cell? ⟨w.heap.size + 1, 1, none⟩ = some (.slice ob js.length cbp) := by rw [hW]; simp [go_sem]
  have s0 := stays c0; have s1 := stays c1; have s2 := stays c2; have s3 := stays c3
  have hk' := hk.pr hwW; have hj' := hj.pr hwW
  clear c0 c1 c2 c3 hk hj
  by_cases hf : fault (.node l ks) = 0
  case neg =>
    have hnz : ((fault (.node l ks) : Int) != 0) = true := by simp [bne_iff_ne]; omega
    have C1 := Lib.hid (fun (W' : World) (h : Pr W W') => orderOf_bad l ks oa cap W' hl (hk'.pr h) hf)
    have Hf := Lib.hid hf
    clear hf
    go_enter Try.func28, Try.ntmps28
    go_wp2_with fail
    rw [← hW]; clear hW
    go_wp2_with (first
      | (go_at_call 74; (with_reducible refine Calls.mono (C1.out _ (Pr.refl _)) ?_); rintro e wD ⟨rfl, hb⟩))
    go_ret2
    exact ⟨.inl ⟨Hf.out, rfl⟩, hwW.trans hb⟩
  have hz1 := (fault_zero.1 hf).1
  have C1 := Lib.hid (fun (W' : World) (h : Pr W W') => orderOf_len l ks oa cap W' hl (hk'.pr h) hf)
  by_cases hf2 : fault (.node m js) = 0
  case neg =>
    have hnz : ((fault (.node m js) : Int) != 0) = true := by simp [bne_iff_ne]; omega
    have C2 := Lib.hid (fun (W' : World) (h : Pr W W') => orderOf_bad m js ob cbp W' hm (hj'.pr h) hf2)
    have Hf := Lib.hid hf
    have Hf2 := Lib.hid hf2
    clear hf hf2
    go_enter Try.func28, Try.ntmps28
    go_wp2_with fail
    rw [← hW]; clear hW
    go_wp2_with (first
      | (go_at_call 74; (with_reducible refine Calls.mono (C1.out _ (Pr.refl _)) ?_); rintro e wD ⟨g1, cc1, rfl, hn1, hb1⟩; have y2 := s2 _ hb1; have y3 := s3 _ hb1)
      | (go_at_call 74; (with_reducible refine Calls.mono (C2.out _ hb1) ?_); rintro e wE ⟨rfl, hb2⟩))
    go_ret2
    exact ⟨.inr (.inl ⟨Hf.out, Hf2.out, rfl⟩), hwW.trans (hb1.trans hb2)⟩
  have hz2 := (fault_zero.1 hf2).1
  have C2 := Lib.hid (fun (W' : World) (h : Pr W W') => orderOf_len m js ob cbp W' hm (hj'.pr h) hf2)
  have Hf := Lib.hid hf
  have Hf2 := Lib.hid hf2
  have hx := fit_nds (.node l ks)
  have hy := fit_nds (.node m js)
  rw [← nds_length] at hz1 hz2
  have hp1 : 1 ≤ (nds (.node l ks)).length := by rw [nds_length]; exact Tr.sz_pos _
  have hp2 : 1 ≤ (nds (.node m js)).length := by rw [nds_length]; exact Tr.sz_pos _
  clear hf hf2
  suffices hS : Calls Try.prog 28 #[.agg #[.string l, .slice oa ks.length cap], .agg #[.string m, .slice ob js.length cbp]] w (fun e w' => (∃ B, e = .returned (.tuple #[.pointer (some ⟨B, 0, none⟩), .int .i64 0]) ∧ TblOk w' B (nds (.node l ks)) (nds (.node m js))) ∧ Pr w w') by
    refine hS.mono ?_
    rintro e w' ⟨h1, h2⟩
    exact ⟨.inr (.inr ⟨Hf.out, Hf2.out, h1⟩), h2⟩
  generalize nds (.node l ks) = xs at *
  generalize nds (.node m js) = ys at *
  have hmk1 := fun W => make_rows xs.length ys.length (fun _ => 0) (by omega) W
  have hmk2 := fun W => make_ints ys.length (by omega) W
  go_enter Try.func28, Try.ntmps28
  go_wp2_with fail
  rw [← hW]; clear hW
  go_wp2_with (first
    | (go_at_call 74; (with_reducible refine Calls.mono (C1.out _ (Pr.refl _)) ?_); rintro e wD ⟨g1, cc1, rfl, hn1, hb1⟩; have y2 := s2 _ hb1; have y3 := s3 _ hb1)
    | (go_at_call 74; (with_reducible refine Calls.mono (C2.out _ hb1) ?_); rintro e wE ⟨g2, cc2, rfl, hn2, hb2⟩; have hn1 := hn1.pr hb2))
  have hbE := hb1.trans hb2
  have Hn1 := Lib.hid hn1
  have Hn2 := Lib.hid hn2
  have HbE := Lib.hid (hwW.trans hbE)
  clear hn1 hn2 hb1 hb2 hbE y2 y3 s0 s1 s2 s3
  go_loopw [42] (fun v wr => ∃ (k : Nat) (bf : Nat → Nat), k ≤ xs.length ∧ v = .int .i64 k ∧ wr.heap[wE.heap.size + 1]? = some (.cells #[.slice (some ⟨g1, 0, none⟩) xs.length cc1, .slice (some ⟨g2, 0, none⟩) ys.length cc2, .slice (some ⟨wE.heap.size, 0, none⟩) xs.length xs.length] 110 (0, 0)) ∧
    Mat wr wE.heap.size xs.length k ys.length bf (fun _ _ => 0) ∧ Pr wE wr ∧ ∀ x, x < k → wE.heap.size + 2 ≤ bf x) (fun v _ => xs.length - (intOf v).toNat)
  case atStart => exact ⟨0, fun _ => 0, by omega, rfl, by simpa using heap_alloc_new (wE.alloc (.cells (outV xs.length 0 ys.length fun _ => 0) 27)) _, ⟨(Pr.alloc _ _).blk (heap_alloc_new wE _), fun x hx => absurd hx (Nat.not_lt_zero _), fun x y hx => absurd hx (Nat.not_lt_zero _), fun x hx => absurd hx (Nat.not_lt_zero _)⟩, (Pr.alloc _ _).alloc' _, fun x hx => absurd hx (Nat.not_lt_zero _)⟩
  case round =>
    obtain ⟨k, bf, hk, rfl, hB, hM, hb, hbf⟩ := hrel
    by_cases hkn : k < xs.length
    · have hkn' : (k : Int) < xs.length := by omega
      have hk0 : (0 : Int) ≤ k := by omega
      have b2 : wr.cell? ⟨wE.heap.size + 1, 2, none⟩ = some (.slice (some ⟨wE.heap.size, 0, none⟩) xs.length xs.length) := blk_cell hB
      have b2' : ∀ o1, (wr.alloc o1).cell? ⟨wE.heap.size + 1, 2, none⟩ = some (.slice (some ⟨wE.heap.size, 0, none⟩) xs.length xs.length) := fun o1 => (Pr.alloc _ o1).cell b2
      have g0 : wr.cell? ⟨wE.heap.size, k, none⟩ = some (.slice none 0 0) := by rw [blk_cell hM.out]; exact outV_nil bf hkn (Nat.lt_irrefl _)
      have g1' : ∀ o1, (wr.alloc o1).cell? ⟨wE.heap.size, k, none⟩ = some (.slice none 0 0) := fun o1 => (Pr.alloc _ o1).cell g0
      have g2' : ∀ o1, (wr.alloc o1).frozen? ⟨wE.heap.size, k, none⟩ = false := fun o1 => by rw [(Pr.alloc _ o1).frozen (blk_lt hM.out)]; exact hM.frozenOut k
      have hsz := blk_lt hB
      have hgl := blk_lt hM.out
      have Hs := Lib.hid hsz
      clear hsz
      go_upto_region 11 with fail
      go_region_law (fail)
      all_goals
        go_wp2_with fail
        have hsz := Hs.out
        refine ⟨⟨k + 1, _, by omega, by go_num, (Pr.drew _).blk ((Pr.alloc _ _).blk (by rw [Below.heap_setCell _ _ _ _ (by simp)]; exact hB)), ((hM.grow hkn).pr (Pr.drew _)).ext fun x y _ _ => by simp, ((hb.setCell (Nat.le_refl _) _).alloc' _).drew', fun x hx => ?_⟩, ?_⟩
        · by_cases hxk : x = k
          · simp only [if_pos hxk]; omega
          · simp only [if_neg hxk]; exact hbf x (by omega)
        · simp [intOf]; omega
    · have hkv : k = xs.length := by omega
      have hM2 : Mat wr wE.heap.size xs.length xs.length ys.length bf (fun _ _ => 0) := by rw [← hkv]; exact hkv ▸ hM
      have hbf2 : ∀ x, x < xs.length → wE.heap.size + 2 ≤ bf x := by rw [← hkv]; exact hbf
      obtain ⟨xb, xo, hoa, hcx⟩ := Hn1.out.at'' (by omega)
      obtain ⟨yb, yo, hob, hcy⟩ := Hn2.out.at'' (by omega)
      cases hoa
      cases hob
      have hg1 : g1 < wE.heap.size := lt_of_cell (hcx 0 (by omega)).1
      have hg2 : g2 < wE.heap.size := lt_of_cell (hcy 0 (by omega)).1
      have hT : Tbl wr (wE.heap.size + 1) xs ys g1 0 cc1 g2 0 cc2 wE.heap.size bf (fun _ _ => 0) := ⟨hB, fun i hi => ⟨hb.cell (hcx i hi).1, hb.cell (hcx i hi).2.1, hb.cell (hcx i hi).2.2⟩, fun i hi => ⟨hb.cell (hcy i hi).1, hb.cell (hcy i hi).2.1, hb.cell (hcy i hi).2.2⟩, hM2⟩
      have hkn' : ¬ (k : Int) < xs.length := by omega
      have HT := Lib.hid hT
      have Hbf := Lib.hid hbf2
      have Hb := Lib.hid hb
      clear hT hbf2 hb hM2 hM hbf hB hcx hcy hkn hkv Hn1 Hn2 hk
      go_wp2_with fail
      go_loopw [57] (fun v wr => ∃ (i : Nat) (D : Nat → Nat → Int), i ≤ xs.length ∧ v = .int .i64 i ∧ Tbl wr (wE.heap.size + 1) xs ys g1 0 cc1 g2 0 cc2 wE.heap.size bf D ∧ (∀ a b, a < i → b < ys.length → D a b = (fdn xs ys (lfN xs a) (a + 1) (lfN ys b) (b + 1) : Int)) ∧ Pr wE wr) (fun v _ => xs.length - (intOf v).toNat)
      case atStart => exact ⟨0, fun _ _ => 0, by omega, rfl, HT.out, fun a b h _ => absurd h (Nat.not_lt_zero _), Hb.out⟩
      case round =>
        obtain ⟨i, D, hi, rfl, hT, hD, hb⟩ := hrel
        have HT2 := Lib.hid hT
        have HD2 := Lib.hid hD
        have Hb2 := Lib.hid hb
        clear hT hD hb
        by_cases hil : i < xs.length
        · have hil' : (i : Int) < xs.length := by omega
          have hi0 : (0 : Int) ≤ i := by omega
          go_wp2_with fail
          go_loopw [62] (fun v wr => ∃ (j : Nat) (D : Nat → Nat → Int), j ≤ ys.length ∧ v = .int .i64 j ∧ Tbl wr (wE.heap.size + 1) xs ys g1 0 cc1 g2 0 cc2 wE.heap.size bf D ∧ (∀ a b, (a < i ∨ (a = i ∧ b < j)) → b < ys.length → D a b = (fdn xs ys (lfN xs a) (a + 1) (lfN ys b) (b + 1) : Int)) ∧ Pr wE wr) (fun v _ => ys.length - (intOf v).toNat)
          case atStart => exact ⟨0, D, by omega, rfl, HT2.out, fun a b h h2 => HD2.out a b (by omega) h2, Hb2.out⟩
          case round =>
            obtain ⟨j, D, hj, rfl, hT, hD, hb⟩ := hrel
            by_cases hjl : j < ys.length
            · have hjl' : (j : Int) < ys.length := by omega
              have hj0 : (0 : Int) ≤ j := by omega
              obtain ⟨L, hL⟩ : ∃ L, L = lfN xs i := ⟨_, rfl⟩
              obtain ⟨M, hM⟩ : ∃ M, M = lfN ys j := ⟨_, rfl⟩
              have hL2 := lfN_le xs i
              have hM2 := lfN_le ys j
              rw [← hL] at hL2
              rw [← hM] at hM2
              obtain ⟨A, hA⟩ : ∃ A, A = i - L := ⟨_, rfl⟩
              obtain ⟨C, hC⟩ : ∃ C, C = j - M := ⟨_, rfl⟩
              have hrow := hT.mat.row i hil
              have hbi := Hbf.out i hil
              have t2 := stays (blk_cell (o := 2) hT.blk : wr.cell? _ = some (.slice (some ⟨wE.heap.size, 0, none⟩) xs.length xs.length))
              have x2 := (hT.nx i hil).2.2
              have y2 := (hT.ny j hjl).2.2
              rw [hx.left i hil, ← hL] at x2
              rw [hy.left j hjl, ← hM] at y2
              simp only [Nat.zero_add] at x2 y2
              have x2 := stays x2
              have y2 := stays y2
              have r1 := stays (hT.mat.slice hil hil)
              have v4 := stays (hT.mat.cell hil hjl)
              have f4 : ∀ W', Pr wr W' → W'.frozen? ⟨bf i, j, none⟩ = false := fun W' h => by rw [h.frozen (blk_lt (hT.mat.row i hil))]; exact hT.mat.frozen hil j
              have CN := Lib.hid (fun W' (h : Pr wr W') => name_any (hT.pr h) i j hil hjl)
              have hlc := lc_le (labN xs i) (labN ys j)
              have hfin := fdn_tree hx hy hil hjl
              rw [← hL, ← hM] at hfin
              have cxi : Cl xs L (i + 1) := by rw [hL]; exact hx.cl hil
              have cyj : Cl ys M (j + 1) := by rw [hM]; exact hy.cl hjl
              have k1 := fdn_bound hx hy (i0 := L) (i := i) (j0 := M) (j := j + 1) (by omega) (by omega) (cxi.mono (by omega)) cyj (by omega) (by omega)
              have k2 := fdn_bound hx hy (i0 := L) (i := i + 1) (j0 := M) (j := j) (by omega) (by omega) cxi (cyj.mono (by omega)) (by omega) (by omega)
              have k3 := fdn_bound hx hy (i0 := L) (i := i) (j0 := M) (j := j) (by omega) (by omega) (cxi.mono (by omega)) (cyj.mono (by omega)) (by omega) (by omega)
              have CF : Hid (∀ W', Pr wr W' → Calls Try.prog 75 #[.pointer (some ⟨wE.heap.size + 1, 0, none⟩), .int .i64 L, .int .i64 i, .int .i64 M, .int .i64 j] W' fun e w' => ∃ gf b1 b2, e = .returned (.slice (some ⟨gf, 0, none⟩) (A + 2) (A + 2)) ∧
                  w'.cell? ⟨gf, A, none⟩ = some (.slice (some ⟨b1, 0, none⟩) (C + 2) (C + 2)) ∧ w'.cell? ⟨gf, A + 1, none⟩ = some (.slice (some ⟨b2, 0, none⟩) (C + 2) (C + 2)) ∧ w'.cell? ⟨b1, C + 1, none⟩ = some (.int .i64 (fdn xs ys L i M (j + 1) : Int)) ∧
                  w'.cell? ⟨b2, C, none⟩ = some (.int .i64 (fdn xs ys L (i + 1) M j : Int)) ∧ w'.cell? ⟨b1, C, none⟩ = some (.int .i64 (fdn xs ys L i M j : Int)) ∧ Pr W' w') := Lib.hid fun W' h => by
                refine (forests_any (hT.pr h) hx hy L i M j hil hjl hL2 hM2 (by omega) (by omega) cxi cyj (fun a b a1 a2 b1 b2 hne => hD a b ?_ (by omega))).mono ?_
                · by_cases ha : a < i
                  · exact .inl ha
                  · have : a = i := by omega
                    subst this
                    by_cases hb : b < j
                    · exact .inr ⟨rfl, hb⟩
                    · have : b = j := by omega
                      subst this
                      exact absurd ⟨hL.symm, hM.symm⟩ hne
                · rintro e w' ⟨gf, bF, rfl, hMF, hp, _, _⟩
                  have e1 := hMF.cell (x := A) (y := C + 1) (by omega) (by omega)
                  have e2 := hMF.cell (x := A + 1) (y := C) (by omega) (by omega)
                  have e3 := hMF.cell (x := A) (y := C) (by omega) (by omega)
                  rw [show L + A = i by omega, show M + (C + 1) = j + 1 by omega] at e1
                  rw [show L + (A + 1) = i + 1 by omega, show M + C = j by omega] at e2
                  rw [show L + A = i by omega, show M + C = j by omega] at e3
                  have q1 := hMF.slice (x := A) (by omega) (by omega)
                  have q2 := hMF.slice (x := A + 1) (by omega) (by omega)
                  rw [show j - M + 2 = C + 2 by omega] at q1 q2
                  exact ⟨gf, bF A, bF (A + 1), by rw [show i - L + 2 = A + 2 by omega], q1, q2, e1, e2, e3, hp⟩
              generalize fdn xs ys L i M (j + 1) = p1 at *
              generalize fdn xs ys L (i + 1) M j = p2 at *
              generalize fdn xs ys L i M j = p3 at *
              generalize lc (labN xs i) (labN ys j) = c at *
              have HF := Lib.hid hfin
              have HM2 := Lib.hid (fun W' (h : Pr wr W') => (hT.pr h).store' Hbf.out hg1 hg2 hil j (fdn xs ys L (i + 1) M (j + 1) : Int))
              have HD3 := Lib.hid hD
              have e1 : (i : Int) - L = A := by omega
              have e2 : (i : Int) + 1 - L = (A : Int) + 1 := by omega
              have e3 : (j : Int) + 1 - M = (C : Int) + 1 := by omega
              have e4 : (j : Int) - M = C := by omega
              have z1 : (A : Int) < (A : Int) + 2 := by omega
              have z2 : (C : Int) < (C : Int) + 2 := by omega
              have z3 : (A : Int) + 1 < (A : Int) + 2 := by omega
              have z4 : (C : Int) + 1 < (C : Int) + 2 := by omega
              have w1 : (0 : Int) ≤ A := by omega
              have w2 : (0 : Int) ≤ C := by omega
              have w3 : (0 : Int) ≤ (A : Int) + 1 := by omega
              have w4 : (0 : Int) ≤ (C : Int) + 1 := by omega
              have w5 : ((A : Int) + 1).toNat = A + 1 := by omega
              have w6 : ((C : Int) + 1).toNat = C + 1 := by omega
              have uA : IntKind.i64.wrap (A : Int) = A := IntWalk.i64_in _ (by omega)
              have uC : IntKind.i64.wrap (C : Int) = C := IntWalk.i64_in _ (by omega)
              have uA1 : IntKind.i64.wrap ((A : Int) + 1) = (A : Int) + 1 := IntWalk.i64_in _ (by omega)
              have uC1 : IntKind.i64.wrap ((C : Int) + 1) = (C : Int) + 1 := IntWalk.i64_in _ (by omega)
              have ui : IntKind.i64.wrap ((i : Int) + 1) = (i : Int) + 1 := IntWalk.i64_in _ (by omega)
              have uj : IntKind.i64.wrap ((j : Int) + 1) = (j : Int) + 1 := IntWalk.i64_in _ (by omega)
              have u1 : IntKind.i64.wrap ((p1 : Int) + 1) = (p1 : Int) + 1 := IntWalk.i64_in _ (by omega)
              have u2 : IntKind.i64.wrap ((p2 : Int) + 1) = (p2 : Int) + 1 := IntWalk.i64_in _ (by omega)
              have u3 : IntKind.i64.wrap ((p3 : Int) + (c : Int)) = (p3 : Int) + (c : Int) := IntWalk.i64_in _ (by omega)
              have hp := Pr.drew wr
              have Hh := Lib.hid (And.intro hL (And.intro hM (And.intro hA (And.intro hC hbi))))
              clear hL hM hA hC hbi hL2 hM2 hT hD hfin cxi cyj k1 k2 k3 hlc hrow hjl hil
              go_upto_region 19 with fail
              go_region_held3 (fun W => Pr wr W) (exact hp)
                (first
                  | (go_at_call 75; (with_reducible refine Calls.mono (CF.out _ hp) ?_); rintro e w1 ⟨gf, b1, b2, rfl, q1, q2, q3, q4, q5, hb'⟩; have hp := hp.trans hb'))
              go_upto_region 20 with fail
              have t2 := t2 _ hp; have x2 := x2 _ hp; have y2 := y2 _ hp; have r1 := r1 _ hp; have v4 := v4 _ hp; have f4 := f4 _ hp
              have CN2 := Lib.hid (fun W' (h : Pr w1 W') => CN.out W' (hp.trans h))
              have Hp := Lib.hid hp
              have Hb3 := Lib.hid hb
              clear hb' hp hb
              refine wp_region_quiet_tail 76 (by kernel_rfl) (by kernel_rfl) ?_
              simp only [List.take_succ_cons, List.take_zero, List.drop_succ_cons, List.drop_zero]
              repeat (go_big_quiet_step ((go_at_call 76; exact Calls.quiet_of (CN2.out _ (Pr.drewN _ _)))))
              refine wpQuiet_nil ?_
              rintro _ ⟨nq, rfl⟩
              go_wp2_with fail
              have hval : (if (p3 : Int) + (c : Int) < if p2 < p1 then (p2 : Int) + 1 else (p1 : Int) + 1 then (p3 : Int) + (c : Int) else if p2 < p1 then (p2 : Int) + 1 else (p1 : Int) + 1) = (fdn xs ys L (i + 1) M (j + 1) : Int) := by
                have h := HF.out
                by_cases hq : p2 < p1
                · simp only [if_pos hq]; split <;> omega
                · simp only [if_neg hq]; split <;> omega
              rw [hval]
              obtain ⟨hL, hM, hA, hC, hbi⟩ := Hh.out
              refine ⟨⟨j + 1, _, by omega, by go_num, HM2.out _ (Hp.out.drewN' nq), fun a b h h2 => ?_, ((Hb3.out.trans Hp.out).drewN' nq).setCell (by simp; omega) _⟩, ?_⟩
              · by_cases hab : a = i ∧ b = j
                · obtain ⟨rfl, rfl⟩ := hab
                  rw [if_pos ⟨rfl, rfl⟩, ← hL, ← hM]
                · rw [if_neg hab]; exact HD3.out a b (by omega) h2
              · simp [intOf]; omega
            · have HT3 := Lib.hid hT
              have HD3 := Lib.hid hD
              clear hT hD
              have hjl' : ¬ (j : Int) < ys.length := by omega
              go_wp2_with fail
              refine ⟨⟨i + 1, D, by omega, by go_num, HT3.out, fun a b h h2 => HD3.out a b (by omega) h2, hb⟩, ?_⟩
              simp [intOf]; omega
        · have hil' : ¬ (i : Int) < xs.length := by omega
          go_wp2_with fail
          go_ret2
          exact ⟨⟨_, rfl, g1, 0, cc1, g2, 0, cc2, wE.heap.size, bf, D, HT2.out, fun a b ha hb => HD2.out a b (by omega) hb⟩, HbE.out.trans Hb2.out⟩
end Go.Proofs.Ytdbnfhpgmcjngac
