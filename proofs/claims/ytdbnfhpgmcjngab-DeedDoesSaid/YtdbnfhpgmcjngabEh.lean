/- Walks: a deed done in place, where the path leads nowhere; a node put in. -/
import Derived.Test.YtdbnfhpgmcjngabEg
import Derived.Test.YtdbnfhpgmcjngabGn
namespace Go.Proofs.Ytdbnfhpgmcjngab
open Go Go.RowKit

theorem set5_chg {X : Nat → Prop} {w w1 : World} {b : Nat} (v0 v1 v2 v3 v4 : Value) (h : Chg X w w1) (hb : X b ∨ w.heap.size ≤ b) : Chg X w (set5 w1 b v0 v1 v2 v3 v4) :=
  ((((h.setCell ⟨b, 0, none⟩ v0 hb).setCell ⟨b, 1, none⟩ v1 hb).setCell ⟨b, 2, none⟩ v2 hb).setCell ⟨b, 3, none⟩ v3 hb).setCell ⟨b, 4, none⟩ v4 hb
theorem do_end {w W w2 w5 : World} {B lo hi base : Nat} {t : Tr} {q : List Int} {b' o' lo' hi' : Nat} {xl : ByteArray} {xks R : List Tr} {o2 : Option Addr} {c2 : Nat} (HW : Pr w W) (hWs : W.heap.size = w.heap.size + 2) (hsp : Spot W B 0 lo hi t q b' o' lo' hi' (.node xl xks)) (hB : B < w.heap.size)
    (hhi : hi ≤ w.heap.size) (hbase : base ≤ lo) (hw2 : Pr W w2) (hk2 : Kids (fun k => (lo' ≤ k ∧ k < hi') ∨ W.heap.size ≤ k) w2 R o2 c2) (hp5 : Pr (w2.setCell ⟨b', o' + 1, none⟩ (.slice o2 R.length c2)) w5) (d : Dee) (hd : doneT d d.path t = (t.setAt q (.node xl R), 0))
    (k' : Int) (pth : List Int) (a' m' : Int) (s' : ByteArray) (hb : backD t d = ⟨k', pth, a', m', s'⟩) (bp : Option Addr) (bc : Nat) (hi5 : Ints (From (w.heap.size + 2)) w5 pth bp bc) (v0 v1 v2 v3 v4 : Value) :
    DoPost B lo hi base w t d (.returned (.tuple #[.agg #[.int .i64 k', .slice bp pth.length bc, .int .i64 a', .int .i64 m', .string s'], .int .i64 0])) (set5 w5 (w.heap.size + 1) v0 v1 v2 v3 v4) := by
  have hbw : b' < w.heap.size := by rcases hsp.blk with h | h <;> omega
  have hlow := hsp.low
  have hhigh := hsp.high
  have hout := hsp.out
  obtain ⟨oa, cap, d0, d1, _, hxl⟩ := hsp.cells
  have hle : lo' ≤ hi' := by obtain ⟨_, _, _, _, h⟩ := hsp.tree; exact h.le
  have h0 := ((HW.trans hw2).chg (fun k => k = b')).setCell ⟨b', o' + 1, none⟩ (.slice o2 R.length c2) (.inl rfl)
  have hch : Chg (fun k => k = b') w (set5 w5 (w.heap.size + 1) v0 v1 v2 v3 v4) := set5_chg v0 v1 v2 v3 v4 (h0.pr hp5) (.inr (by omega))
  have hws : b' < w2.heap.size := by have := HW.size; have := hw2.size; omega
  have hcell : ∀ j, (set5 w5 (w.heap.size + 1) v0 v1 v2 v3 v4).cell? ⟨b', j, none⟩ = (w2.setCell ⟨b', o' + 1, none⟩ (.slice o2 R.length c2)).cell? ⟨b', j, none⟩ := fun j => by
    rw [World.cell?_of_block (set5_heap v0 v1 v2 v3 v4 (show b' ≠ w.heap.size + 1 by omega))]
    exact Below.cell hp5 (p := ⟨b', j, none⟩) (by simpa using hws)
  have hw2c : ∀ j, w2.cell? ⟨b', j, none⟩ = w.cell? ⟨b', j, none⟩ := fun j => Below.cell (HW.trans hw2) (p := ⟨b', j, none⟩) hbw
  have hI : Ints (From w.heap.size) (set5 w5 (w.heap.size + 1) v0 v1 v2 v3 v4) pth bp bc := Flat.mono (fun k h _ => by have h2 : w.heap.size + 2 ≤ k := h; show w.heap.size ≤ k; omega) (Flat.kept (set5_kept v0 v1 v2 v3 v4 (by show ¬ w.heap.size + 2 ≤ w.heap.size + 1; omega)) hi5)
  have hkf : Kids (From base) (set5 w5 (w.heap.size + 1) v0 v1 v2 v3 v4) R o2 c2 := by
    have g1 := (hk2.setCell ⟨b', o' + 1, none⟩ (.slice o2 R.length c2) (by have := HW.size; simp only []; omega)).pr hp5
    exact (g1.kept (set5_kept v0 v1 v2 v3 v4 (by omega))).mono (fun k h _ => by show base ≤ k; omega)
  refine ⟨hch.only hsp.blk, .inr ⟨by rw [hd], bp, bc, by rw [hb], by rw [hb]; exact hI, ?_⟩⟩
  rw [hd]
  refine do_final HW hsp hB hhi hbase hch (fun j h1 h2 => ?_) ?_ ?_ (treeV_mk c2 hxl hkf)
  · rw [hcell, cell_off h2, hw2c]
  · rw [hcell, cell_off (by omega), Below.cell hw2 (p := ⟨b', o', none⟩) hsp.blk_lt]; exact d0
  · rw [hcell]
    have : w2.cell? ⟨b', o' + 1, none⟩ = some (.slice oa xks.length cap) := hw2.cell d1
    simp [go_sem, this]
section
variable {ops : Array Oper} {o : Oper} {a : Act} {w : World} {Q : Exit → Act → World → Prop} {K : Act → World → Prop} {E : Prop}
/-- 'append(own, n)', at a step of a region that draws its order. -/
theorem step_int (hgd : o.guard = none) (s x : Operand) (ho : o.op = .call { callee := .builtin .append, args := #[s, x], argTypes := #[38, 38] })
    (b : Nat) (v : Value) (xs : List Int) (hs : a.eval s = v) (hown : OwnsIs b w v xs) (B : Nat) (hx : a.eval x = .slice (some ⟨B, 0, none⟩) 1 1) (y : Int)
    (hB : w.heap[B]? = some (.cells #[.int .i64 y] 3 (0, 0))) (hlen : xs.length ≤ 1000000000) (hbase : b ≤ w.heap.size)
    (h : ∀ g cap w', OwnsIs b w' (.slice (some ⟨g, 0, none⟩) (xs.length + 1) cap) (xs ++ [y]) → w.grownBy w' v.ownBlock → (v.ownBlock = some g ∨ g = w.heap.size) → K (a.put o.dst (.slice (some ⟨g, 0, none⟩) (xs.length + 1) cap)) w') :
    if Region.wanted o (yielded ops a.tmps) = true then Oper.wp Try.prog o a w K Q else E := by
  obtain ⟨i0, hi, hz0, hz1, hz2⟩ := info_parts info_int
  refine step_append_lies w hgd s x _ ho b _ i0 _ 1 8 under_intsT hi hz0 hz1 hz2 rfl (by omega) v xs.length (ints xs) hs hown ⟨B, 0, none⟩ 1 1 [.int .i64 y] hx rfl (World.news_of_block (cs := #[.int .i64 y]) hB)
    (by intro u hu; simp at hu; subst hu; rfl) (by omega) (by unfold maxLen; omega) (by omega) hbase w.heap.size rfl ?_
  intro g cap w' g1 g2 g3 _
  refine h g cap w' ?_ g2 g3
  unfold OwnsIs
  rw [List.length_append, List.length_singleton]
  have : ints (xs ++ [y]) = ints xs ++ [.int .i64 y] := by simp
  rw [this]; exact g1
end
set_option maxRecDepth 100000 in
set_option maxHeartbeats 3200000 in
theorem doNone_any (w : World) (B lo hi base : Nat) (t : Tr) (k : Int) (p : List Int) (a m : Int) (s : ByteArray) (pa pc) (vl vk : Value) (c0 : w.cell? ⟨B, 0, none⟩ = some vl) (c1 : w.cell? ⟨B, 1, none⟩ = some vk) (ut : UT w t lo hi vl vk) (hB : ¬ (lo ≤ B ∧ B < hi)) (hf : ∀ j, w.frozen? ⟨B, j, none⟩ = false)
    (hp : Ints Any w p pa pc) (hat : t.at? p = none) (hd : (doneT ⟨k, p, a, m, s⟩ p t).2 = 7) :
    Calls Try.prog 60 #[.pointer (some ⟨B, 0, none⟩), .agg #[.int .i64 k, .slice pa p.length pc, .int .i64 a, .int .i64 m, .string s]] w (DoPost B lo hi base w t ⟨k, p, a, m, s⟩) := by
  obtain ⟨W, hW⟩ : ∃ W, W = (w.alloc (.cells #[.int .i64 k, .slice pa p.length pc, .int .i64 a, .int .i64 m, .string s] 40)).alloc (.cells #[.int .i64 0, .slice none 0 0, .int .i64 0, .int .i64 0, .string ⟨#[]⟩] 40) := ⟨_, rfl⟩
  have hwW : Pr w W := by rw [hW]; exact (Pr.alloc _ _).alloc' _
  have hBl := lt_of_cell c0
  have hF : FindPost W B 0 lo hi t p (.returned (.pointer none)) W → True := fun _ => trivial
  have CF := Lib.hid (find_any W B 0 lo hi t p pa pc (Spot.top (hwW.cell c0) (hwW.cell c1) (ut.pr hwW) hB (fun j => by rw [hwW.frozen hBl]; exact hf j)) (hp.pr hwW))
  have s1 : W.cell? ⟨w.heap.size, 1, none⟩ = some (.slice pa p.length pc) := by rw [hW]; simp [go_sem]
  have s0 : W.cell? ⟨w.heap.size, 0, none⟩ = some (.int .i64 k) := by rw [hW]; simp [go_sem]
  have s4 : W.cell? ⟨w.heap.size, 4, none⟩ = some (.string s) := by rw [hW]; simp [go_sem]
  have hblk : W.heap[w.heap.size + 1]? = some (.cells #[.int .i64 0, .slice none 0 0, .int .i64 0, .int .i64 0, .string ⟨#[]⟩] 40 (0, 0)) := by
    rw [hW]; simpa using heap_alloc_new (w.alloc (.cells #[.int .i64 k, .slice pa p.length pc, .int .i64 a, .int .i64 m, .string s] 40)) (.cells #[.int .i64 0, .slice none 0 0, .int .i64 0, .int .i64 0, .string ⟨#[]⟩] 40)
  clear hF
  have CF0 : Hid (Calls Try.prog 81 #[.pointer (some ⟨B, 0, none⟩), .slice pa p.length pc] W fun e w' => W = w' ∧ e = .returned (.pointer none)) := Lib.hid (CF.out.mono fun e w' ⟨h1, h2⟩ => ⟨h1, by
    rcases h2 with h | ⟨b', o', lo', hi', x, _, h, _⟩
    · exact h.2
    · rw [h.at'] at hat; cases hat⟩)
  have Hd := Lib.hid hd
  have r0 : W.cell? ⟨w.heap.size + 1, 0, none⟩ = some (.int .i64 0) := blk_cell hblk
  have r1 : W.cell? ⟨w.heap.size + 1, 1, none⟩ = some (.slice none 0 0) := blk_cell hblk
  have r2 : W.cell? ⟨w.heap.size + 1, 2, none⟩ = some (.int .i64 0) := blk_cell hblk
  have r3 : W.cell? ⟨w.heap.size + 1, 3, none⟩ = some (.int .i64 0) := blk_cell hblk
  have r4 : W.cell? ⟨w.heap.size + 1, 4, none⟩ = some (.string ⟨#[]⟩) := blk_cell hblk
  have f0 : ∀ j, W.frozen? ⟨w.heap.size + 1, j, none⟩ = false := fun j => blk_frozen hblk
  have f1 := f0 0; have f2 := f0 1; have f3 := f0 2; have f4 := f0 3; have f5 := f0 4
  have HW := Lib.hid hwW
  clear hd hat CF hwW hblk f0
  go_enter Try.func60, Try.ntmps60
  go_upto_region 1 with fail
  rw [← hW]
  have HWe := Lib.hid hW
  clear hW
  go_wp2_with (first
    | (go_at_call 81; (with_reducible refine Calls.mono CF0.out ?_); rintro e w1 ⟨rfl, rfl⟩))
  refine bodyPost_ret (v := .tuple #[.agg #[.int .i64 0, .slice none 0 0, .int .i64 0, .int .i64 0, .string ⟨#[]⟩], .int .i64 ((7 : Nat) : Int)]) (by simp [results, Try.results60, go_sem, r0, r1, r2, r3, r4]) rfl (DoPost.no ?_ 7 Hd.out (by decide))
  exact ((((HW.out.setCell (by simp) _).setCell (by simp) _).setCell (by simp) _).setCell (by simp) _).setCell (by simp) _
set_option maxRecDepth 100000 in
set_option maxHeartbeats 3200000 in
theorem doInsert_any (w : World) (B lo hi base : Nat) (t : Tr) (p : List Int) (n m : Nat) (s : ByteArray) (pa pc) (vl vk : Value) (c0 : w.cell? ⟨B, 0, none⟩ = some vl) (c1 : w.cell? ⟨B, 1, none⟩ = some vk) (ut : UT w t lo hi vl vk) (hB : ¬ (lo ≤ B ∧ B < hi)) (hf : ∀ j, w.frozen? ⟨B, j, none⟩ = false)
    (hhi : hi ≤ w.heap.size) (hbase : base ≤ lo) (hp : Ints (fun k => k ≠ B ∧ ¬ (lo ≤ k ∧ k < hi)) w p pa pc) (hs : s.size ≤ maxLen) (hpl : p.length ≤ 100000) (xl : ByteArray) (xks : List Tr) (hat : t.at? p = some (.node xl xks)) (hxs : xks.length ≤ 10000) :
    Calls Try.prog 60 #[.pointer (some ⟨B, 0, none⟩), .agg #[.int .i64 3, .slice pa p.length pc, .int .i64 n, .int .i64 m, .string s]] w (DoPost B lo hi base w t ⟨3, p, n, m, s⟩) := by
  obtain ⟨W, hW⟩ : ∃ W, W = (w.alloc (.cells #[.int .i64 3, .slice pa p.length pc, .int .i64 n, .int .i64 m, .string s] 40)).alloc (.cells #[.int .i64 0, .slice none 0 0, .int .i64 0, .int .i64 0, .string ⟨#[]⟩] 40) := ⟨_, rfl⟩
  have hwW : Pr w W := by rw [hW]; exact (Pr.alloc _ _).alloc' _
  have hWs : W.heap.size = w.heap.size + 2 := by rw [hW]; simp
  have hBl := lt_of_cell c0
  have hF : FindPost W B 0 lo hi t p (.returned (.pointer none)) W → True := fun _ => trivial
  have CF := Lib.hid (find_any W B 0 lo hi t p pa pc (Spot.top (hwW.cell c0) (hwW.cell c1) (ut.pr hwW) hB (fun j => by rw [hwW.frozen hBl]; exact hf j)) (Flat.any (Flat.pr hwW hp)))
  have HP := Lib.hid hp
  have s1 : W.cell? ⟨w.heap.size, 1, none⟩ = some (.slice pa p.length pc) := by rw [hW]; simp [go_sem]
  have s0 : W.cell? ⟨w.heap.size, 0, none⟩ = some (.int .i64 3) := by rw [hW]; simp [go_sem]
  have s2 : W.cell? ⟨w.heap.size, 2, none⟩ = some (.int .i64 n) := by rw [hW]; simp [go_sem]
  have s3 : W.cell? ⟨w.heap.size, 3, none⟩ = some (.int .i64 m) := by rw [hW]; simp [go_sem]
  have s4 : W.cell? ⟨w.heap.size, 4, none⟩ = some (.string s) := by rw [hW]; simp [go_sem]
  have hblk : W.heap[w.heap.size + 1]? = some (.cells #[.int .i64 0, .slice none 0 0, .int .i64 0, .int .i64 0, .string ⟨#[]⟩] 40 (0, 0)) := by
    rw [hW]; simpa using heap_alloc_new (w.alloc (.cells #[.int .i64 3, .slice pa p.length pc, .int .i64 n, .int .i64 m, .string s] 40)) (.cells #[.int .i64 0, .slice none 0 0, .int .i64 0, .int .i64 0, .string ⟨#[]⟩] 40)
  clear hF
  have CF1 : Hid (Calls Try.prog 81 #[.pointer (some ⟨B, 0, none⟩), .slice pa p.length pc] W fun e w' => W = w' ∧ ∃ b' o' lo' hi', e = .returned (.pointer (some ⟨b', o', none⟩)) ∧ Spot W B 0 lo hi t p b' o' lo' hi' (.node xl xks)) := Lib.hid (CF.out.mono fun e w' ⟨h1, h2⟩ => ⟨h1, by
    rcases h2 with h | ⟨b', o', lo', hi', x, he, h, _⟩
    · rw [h.1] at hat; cases hat
    · have := h.at'; rw [hat] at this; cases this; exact ⟨b', o', lo', hi', he, h⟩⟩)
  have hd := doneT_some ⟨3, p, n, m, s⟩ (by simp) p t _ hat
  have hb : backD t ⟨3, p, n, m, s⟩ = ⟨2, p ++ [(n : Int)], 0, 0, ⟨#[]⟩⟩ := by unfold backD; rw [if_neg (by simp), if_pos rfl]
  rw [leafT_node, if_neg (by simp), if_neg (by simp)] at hd
  simp only [Int.toNat_natCast] at hd
  have Hb := Lib.hid hb
  have HW := Lib.hid hwW
  have Hblk := Lib.hid hblk
  have HWs := Lib.hid hWs
  have r0 : W.cell? ⟨w.heap.size + 1, 0, none⟩ = some (.int .i64 0) := blk_cell hblk
  have r1 : W.cell? ⟨w.heap.size + 1, 1, none⟩ = some (.slice none 0 0) := blk_cell hblk
  have r2 : W.cell? ⟨w.heap.size + 1, 2, none⟩ = some (.int .i64 0) := blk_cell hblk
  have r3 : W.cell? ⟨w.heap.size + 1, 3, none⟩ = some (.int .i64 0) := blk_cell hblk
  have r4 : W.cell? ⟨w.heap.size + 1, 4, none⟩ = some (.string ⟨#[]⟩) := blk_cell hblk
  have f0 : ∀ j, W.frozen? ⟨w.heap.size + 1, j, none⟩ = false := fun j => blk_frozen hblk
  have f1 := f0 0; have f2 := f0 1; have f3 := f0 2; have f4 := f0 3; have f5 := f0 4
  clear hb hat CF hwW hblk hWs f0
  have ul : IntKind.i64.wrap ((xks.length : Int) - (n : Int)) = (xks.length : Int) - (n : Int) ∨ xks.length < n := by
    by_cases h : xks.length < n
    · exact .inr h
    · exact .inl (IntWalk.i64_in _ (by omega))
  by_cases hr : (xks.length : Int) < (n : Int) ∨ (xks.length : Int) - (n : Int) < (m : Int)
  · rw [if_pos hr] at hd
    have hd2 : (doneT ⟨3, p, n, m, s⟩ p t).2 = 9 := by rw [hd]
    have Hd := Lib.hid hd2
    clear hd hd2
    by_cases h1 : (xks.length : Int) < (n : Int)
    · have g1 : decide ((xks.length : Int) < (n : Int)) = true := decide_eq_true h1
      have g1' : decide (xks.length < n) = true := by simp; omega
      clear ul hr
      go_enter Try.func60, Try.ntmps60
      go_upto_region 1 with fail
      rw [← hW]
      clear hW
      go_upto_region 10 with (first
        | (go_at_call 81; (with_reducible refine Calls.mono CF1.out ?_); rintro e w1 ⟨rfl, b', o', lo', hi', rfl, hsp⟩))
      obtain ⟨oa, cap, d0, d1, hxk, hxl⟩ := hsp.cells
      clear hsp
      go_quiet (fail)
      go_wp2_with fail
      refine bodyPost_ret (v := .tuple #[.agg #[.int .i64 0, .slice none 0 0, .int .i64 0, .int .i64 0, .string ⟨#[]⟩], .int .i64 ((9 : Nat) : Int)]) (by simp [results, Try.results60, go_sem, r0, r1, r2, r3, r4]) rfl (DoPost.no ?_ 9 Hd.out (by decide))
      exact set5_pr _ _ _ _ _ (HW.out.trans (Pr.drewN _ _)) (by simp)
    · have g1 : decide ((xks.length : Int) < (n : Int)) = false := decide_eq_false h1
      have g1' : decide (xks.length < n) = false := by simp; omega
      have h2 : (xks.length : Int) - (n : Int) < (m : Int) := by omega
      have g2 : decide ((xks.length : Int) - (n : Int) < (m : Int)) = true := decide_eq_true h2
      have u1 : IntKind.i64.wrap ((xks.length : Int) - (n : Int)) = (xks.length : Int) - (n : Int) := IntWalk.i64_in _ (by omega)
      clear ul hr
      go_enter Try.func60, Try.ntmps60
      go_upto_region 1 with fail
      rw [← hW]
      clear hW
      go_upto_region 10 with (first
        | (go_at_call 81; (with_reducible refine Calls.mono CF1.out ?_); rintro e w1 ⟨rfl, b', o', lo', hi', rfl, hsp⟩))
      obtain ⟨oa, cap, d0, d1, hxk, hxl⟩ := hsp.cells
      clear hsp
      go_quiet (fail)
      go_wp2_with fail
      refine bodyPost_ret (v := .tuple #[.agg #[.int .i64 0, .slice none 0 0, .int .i64 0, .int .i64 0, .string ⟨#[]⟩], .int .i64 ((9 : Nat) : Int)]) (by simp [results, Try.results60, go_sem, r0, r1, r2, r3, r4]) rfl (DoPost.no ?_ 9 Hd.out (by decide))
      exact set5_pr _ _ _ _ _ (HW.out.trans (Pr.drewN _ _)) (by simp)
  · rw [if_neg hr] at hd
    have Hd := Lib.hid hd
    have g1 : decide ((xks.length : Int) < (n : Int)) = false := by simp; omega
    have g1' : decide (xks.length < n) = false := by simp; omega
    have g2 : decide ((xks.length : Int) - (n : Int) < (m : Int)) = false := by simp; omega
    have u1 : IntKind.i64.wrap ((xks.length : Int) - (n : Int)) = (xks.length : Int) - (n : Int) := IntWalk.i64_in _ (by omega)
    have hnm : n + m ≤ xks.length := by omega
    clear ul hr hd
    go_enter Try.func60, Try.ntmps60
    go_upto_region 1 with fail
    rw [← hW]
    clear hW
    go_upto_region 10 with (first
      | (go_at_call 81; (with_reducible refine Calls.mono CF1.out ?_); rintro e w1 ⟨rfl, b', o', lo', hi', rfl, hsp⟩))
    obtain ⟨oa, cap, d0, d1, hxk, hxl⟩ := hsp.cells
    have Hsp := Lib.hid hsp
    have Hxk := Lib.hid hxk
    have hbl := hsp.blk_lt
    have hfr := hsp.free (o' + 1)
    have hcap := hxk.1.1
    have hcm : cap ≤ 9223372036854775807 := by have := hxk.1.2; unfold maxLen at this; omega
    clear hsp hxk
    go_quiet (fail)
    go_upto_region 12 with fail
    obtain ⟨V, hV⟩ : ∃ V, V = W.drewN nq := ⟨_, rfl⟩
    have hWV : Pr W V := by rw [hV]; exact Pr.drewN _ _
    have hVs : V.heap.size = W.heap.size := by rw [hV]; simp
    rw [← hV]
    have v1 := hWV.cell s1; have v2 := hWV.cell s2; have v3 := hWV.cell s3; have v4 := hWV.cell s4; have v5 := hWV.cell d1
    obtain ⟨mid, hmid⟩ : ∃ mid, mid = (xks.drop n).take m := ⟨_, rfl⟩
    have hml : mid.length = m := by rw [hmid]; simp; omega
    have Hmid := Lib.hid hmid; have Hml := Lib.hid hml; have HWV := Lib.hid hWV; have HVs := Lib.hid hVs
    have hwl : w.heap.size < V.heap.size := by rw [hVs, HWs.out]; omega
    have hbv : b' < V.heap.size := by rw [hVs]; exact hbl
    clear hV hmid hml hWV hVs s0 s1 s2 s3 s4 d0 d1 r0 r1 r2 r3 r4 f1 f2 f3 f4 f5 g1 g1' g2 u1
    have a1 : (0 : Int) ≤ n := by omega
    have a2 : (n : Int) ≤ cap := by omega
    have a3 : (n : Int) ≤ xks.length := by omega
    have a4 : (0 : Int) ≤ (n : Int) + m := by omega
    have a5 : (n : Int) + m ≤ xks.length := by omega
    have a6 : (n : Int) + m ≤ cap := by omega
    have a7 : (xks.length : Int) ≤ cap := by omega
    have a8 : (n : Int) ≤ (n : Int) + m := by omega
    have u1 : IntKind.i64.wrap ((n : Int) + m) = (n : Int) + m := IntWalk.i64_in _ (by omega)
    have u2 : ((n : Int) + m).toNat = n + m := by omega
    go_cut [8] from 61 to 76 (fun v8 wx => ∃ Bk oc cc, v8 = .pointer (some ⟨Bk, 0, none⟩) ∧ wx.heap[Bk]? = some (.cells #[.string s, .slice oc m cc] 24 (0, 0)) ∧ V.heap.size ≤ Bk ∧ Kids (fun k => (lo' ≤ k ∧ k < hi') ∨ (V.heap.size ≤ k ∧ k ≠ Bk)) wx mid oc cc ∧ Pr V wx)
    case first =>
      have v2 := stays v2; have v3 := stays v3; have v4 := stays v4; have v5 := stays v5
      have hhl : hi' ≤ V.heap.size := by have := Hsp.out.high; have := HVs.out; have := HWs.out; omega
      by_cases hcn : cap = n
      · have a9 : m = 0 := by omega
        have a10 : xks.length = n := by omega
        have Ha10 := Lib.hid a10
        clear a10
        subst a9
        subst hcn
        clear a4 a5 a6 a8 u1 u2
        have v3 : ∀ W', Pr V W' → W'.cell? ⟨w.heap.size, 3, none⟩ = some (.int .i64 0) := v3
        have b1 : (0 : Int) ≤ cap := by omega
        have b2 : IntKind.i64.wrap (cap : Int) = cap := IntWalk.i64_in _ (by omega)
        have CT : Hid (∀ W', Pr V W' → Calls Try.prog 83 #[.slice oa 0 0] W' fun e w' => (∃ ob cp, e = .returned (.slice ob 0 cp) ∧ Kids (fun k => (lo' ≤ k ∧ k < hi') ∨ W'.heap.size ≤ k) w' mid ob cp) ∧ Pr W' w') := Lib.hid fun W' h => by
          have hk : Kids (fun k => lo' ≤ k ∧ k < hi') W' mid oa 0 := by
            have h0 : mid = [] := List.eq_nil_of_length_eq_zero Hml.out
            rw [h0]; exact Kids.nil _ _ _ _ (Nat.zero_le _)
          have := cloneTrees_any _ mid _ _ W' hk (by rw [Hml.out]; omega)
          rw [Hml.out] at this; exact this
        go_region_held3 (fun W' => Pr V W')
          (first | with_reducible exact Pr.drew V | with_reducible exact (Pr.alloc _ _).drew' | with_reducible exact hp | with_reducible exact hp.alloc' _ | exact Pr.setCell (Pr.setCell hp (Nat.le_refl _) _) (Nat.le_refl _) _)
          (first
            | (go_at_call 83; (with_reducible refine Calls.mono (CT.out _ (Pr.drew V)) ?_); rintro e w2 ⟨⟨oc, cc, rfl, hoc⟩, hb⟩; have hp := (Pr.drew V).trans hb)
            | (go_at_call 83; (with_reducible refine Calls.mono (CT.out _ (Pr.drew' (Pr.alloc _ _))) ?_); rintro e w2 ⟨⟨oc, cc, rfl, hoc⟩, hb⟩; have hp := ((Pr.alloc _ _).drew').trans hb; have z := hb.blk ((Pr.drew _).blk (heap_alloc_new V _)); have z0 : w2.cell? ⟨V.heap.size, 0, none⟩ = some (.string ⟨#[]⟩) := blk_cell z; have z1 : w2.cell? ⟨V.heap.size, 1, none⟩ = some (.slice none 0 0) := blk_cell z; have y0 : w2.frozen? ⟨V.heap.size, 0, none⟩ = false := blk_frozen z; have y1 : w2.frozen? ⟨V.heap.size, 1, none⟩ = false := blk_frozen z; have Hz := Lib.hid z; clear z))
        all_goals
          go_wp2_with fail
          go_meet
        case rel => exact ⟨w2.heap.size, oc, cc, rfl, heap_alloc_new w2 _, hp.size, (hoc.mono (fun k h hl => by rcases h with h | h; exact .inl h; exact .inr ⟨by simpa using h, by omega⟩)).pr (Pr.alloc _ _), hp.alloc' _⟩
        case rel => exact ⟨V.heap.size, oc, cc, rfl, blk_set (o := 1) (blk_set (o := 0) Hz.out _) _, Nat.le_refl _, ((hoc.mono (S' := fun k => (lo' ≤ k ∧ k < hi') ∨ (V.heap.size ≤ k ∧ k ≠ V.heap.size)) (fun k h hl => by rcases h with h | h; exact .inl h; exact .inr (by have : V.heap.size + 1 ≤ k := (by simpa using h); omega))).setCell _ _ (by simp; omega)).setCell _ _ (by simp; omega), Pr.setCell (Pr.setCell hp (Nat.le_refl _) _) (Nat.le_refl _) _⟩
      · have a9 : ¬ cap = n := hcn
        have CT : Hid (∀ W', Pr V W' → Calls Try.prog 83 #[.slice (Option.map (fun x => x.add (n * 2)) oa) m (cap - n)] W' fun e w' => (∃ ob cp, e = .returned (.slice ob m cp) ∧ Kids (fun k => (lo' ≤ k ∧ k < hi') ∨ W'.heap.size ≤ k) w' mid ob cp) ∧ Pr W' w') := Lib.hid fun W' h => by
          have hk := ((Hxk.out.pr (HWV.out.trans h)).cutL n (by omega)).cutP m (by simp; omega)
          rw [← Hmid.out] at hk
          have := cloneTrees_any _ mid _ _ W' hk (by rw [Hml.out]; omega)
          rw [Hml.out] at this; exact this
        go_region_held3 (fun W' => Pr V W')
          (first | with_reducible exact Pr.drew V | with_reducible exact (Pr.alloc _ _).drew' | with_reducible exact hp | with_reducible exact hp.alloc' _ | exact Pr.setCell (Pr.setCell hp (Nat.le_refl _) _) (Nat.le_refl _) _)
          (first
            | (go_at_call 83; (with_reducible refine Calls.mono (CT.out _ (Pr.drew V)) ?_); rintro e w2 ⟨⟨oc, cc, rfl, hoc⟩, hb⟩; have hp := (Pr.drew V).trans hb)
            | (go_at_call 83; (with_reducible refine Calls.mono (CT.out _ (Pr.drew' (Pr.alloc _ _))) ?_); rintro e w2 ⟨⟨oc, cc, rfl, hoc⟩, hb⟩; have hp := ((Pr.alloc _ _).drew').trans hb; have z := hb.blk ((Pr.drew _).blk (heap_alloc_new V _)); have z0 : w2.cell? ⟨V.heap.size, 0, none⟩ = some (.string ⟨#[]⟩) := blk_cell z; have z1 : w2.cell? ⟨V.heap.size, 1, none⟩ = some (.slice none 0 0) := blk_cell z; have y0 : w2.frozen? ⟨V.heap.size, 0, none⟩ = false := blk_frozen z; have y1 : w2.frozen? ⟨V.heap.size, 1, none⟩ = false := blk_frozen z; have Hz := Lib.hid z; clear z))
        all_goals
          go_wp2_with fail
          go_meet
        case rel => exact ⟨w2.heap.size, oc, cc, rfl, heap_alloc_new w2 _, hp.size, (hoc.mono (fun k h hl => by rcases h with h | h; exact .inl h; exact .inr ⟨by simpa using h, by omega⟩)).pr (Pr.alloc _ _), hp.alloc' _⟩
        case rel => exact ⟨V.heap.size, oc, cc, rfl, blk_set (o := 1) (blk_set (o := 0) Hz.out _) _, Nat.le_refl _, ((hoc.mono (S' := fun k => (lo' ≤ k ∧ k < hi') ∨ (V.heap.size ≤ k ∧ k ≠ V.heap.size)) (fun k h hl => by rcases h with h | h; exact .inl h; exact .inr (by have : V.heap.size + 1 ≤ k := (by simpa using h); omega))).setCell _ _ (by simp; omega)).setCell _ _ (by simp; omega), Pr.setCell (Pr.setCell hp (Nat.le_refl _) _) (Nat.le_refl _) _⟩
    case rest =>
      obtain ⟨Bk, oc, cc, rfl, hbk, hbv, hmk, hpx⟩ := hcut
      obtain ⟨wx, hwx⟩ : ∃ wx, wx = wc := ⟨_, rfl⟩
      subst hwx
      have z0 : wx.cell? ⟨Bk, 0, none⟩ = some (.string s) := blk_cell hbk
      have z1 : wx.cell? ⟨Bk, 1, none⟩ = some (.slice oc m cc) := blk_cell hbk
      have x1 := hpx.cell v1; have x2 := hpx.cell v2; have x3 := hpx.cell v3
      have RP : Hid (∀ W' ub, Pr wx W' → Kids (fun k => (lo' ≤ k ∧ k < hi') ∨ V.heap.size ≤ k) W' [.node s mid] ub 1 → Calls Try.prog 84 #[.pointer (some ⟨b', o', none⟩), .int .i64 n, .int .i64 m, .slice ub 1 1] W' (ReplPost (fun k => (lo' ≤ k ∧ k < hi') ∨ V.heap.size ≤ k) W' b' o' (repl xks n m [.node s mid]))) := Lib.hid fun W' ub h hu =>
        replace_any _ b' o' n m xks [.node s mid] oa cap ub 1 W' ((hpx.trans h).cell v5) (by rw [(HWV.out.trans (hpx.trans h)).frozen hbl]; exact hfr) (((Hxk.out.pr (HWV.out.trans (hpx.trans h)))).mono (fun k hk _ => .inl hk)) hu hnm (by omega) (by simp)
      have hk1 : ∀ o, Kids (fun k => (lo' ≤ k ∧ k < hi') ∨ V.heap.size ≤ k) ((wx.alloc o)) mid oc cc := fun o => (hmk.mono (fun k h _ => by rcases h with h | h; exact .inl h; exact .inr h.1)).pr (Pr.alloc _ _)
      have hu1 : Kids (fun k => (lo' ≤ k ∧ k < hi') ∨ V.heap.size ≤ k) (wx.alloc (.cells #[.string s, .slice oc m cc] 24)) [.node s mid] (some ⟨wx.heap.size, 0, none⟩) 1 := by
        refine ⟨⟨by simp, by unfold maxLen; omega⟩, wx.heap.size, 0, fun _ => ⟨rfl, .inr hpx.size⟩, .string s, .slice oc m cc, by simp [go_sem], by simp [go_sem], ?_, trivial⟩
        have := treeV_mk cc hs (hk1 (.cells #[.string s, .slice oc m cc] 24))
        rw [Hml.out] at this; exact this
      have Hk1 := Lib.hid hk1
      have Hu1 := Lib.hid hu1
      have Hpx := Lib.hid hpx
      clear hk1 hbk hmk hpx hu1
      go_upto_region 14 with (first
        | (go_at_call 84; refine (RP.out _ _ (Pr.alloc _ _) Hu1.out).mono ?_; rintro e w' ⟨w2, o2, c2, rfl, rfl, hp2, hk2⟩))
      have hwx : Pr V w2 := Hpx.out.trans ((Pr.alloc _ _).trans hp2)
      obtain ⟨R, hR⟩ : ∃ R, R = repl xks n m [.node s mid] := ⟨_, rfl⟩
      rw [← hR] at hk2 ⊢
      obtain ⟨wz, hwz⟩ : ∃ wz, wz = w2.setCell ⟨b', o' + 1, none⟩ (.slice o2 R.length c2) := ⟨_, rfl⟩
      rw [← hwz]
      have hbw : b' < w.heap.size := by rcases Hsp.out.blk with h | h <;> omega
      have hck : ∀ b j (v : Value), b ≠ b' → V.cell? ⟨b, j, none⟩ = some v → ∀ W', Chg (fun k => k = w.heap.size + 1) wz W' → b ≠ w.heap.size + 1 → W'.cell? ⟨b, j, none⟩ = some v := fun b j v h1 h2 W' h3 h4 => by
        have g1 := hwx.cell h2
        have g2 : wz.cell? ⟨b, j, none⟩ = some v := by rw [hwz]; exact cell_far g1 (fun e => h1 e.symm)
        have g3 := lt_of_cell g2
        rw [World.cell?_of_block (h3.block b g3 h4)]; exact g2
      have y1 : ∀ W', Chg (fun k => k = w.heap.size + 1) wz W' → W'.cell? ⟨w.heap.size, 1, none⟩ = some (.slice pa p.length pc) := fun W' h => hck _ _ _ (by omega) v1 W' h (by omega)
      have y2 : ∀ W', Chg (fun k => k = w.heap.size + 1) wz W' → W'.cell? ⟨w.heap.size, 2, none⟩ = some (.int .i64 n) := fun W' h => hck _ _ _ (by omega) v2 W' h (by omega)
      have hblz : wz.heap[w.heap.size + 1]? = some (.cells #[.int .i64 0, .slice none 0 0, .int .i64 0, .int .i64 0, .string ⟨#[]⟩] 40 (0, 0)) := by
        rw [hwz, Below.heap_setCell _ _ _ _ (by simp; omega)]
        exact (HWV.out.trans hwx).blk Hblk.out
      have hpz : Ints Any wz p pa pc := by
        have g1 : Ints (fun k => k ≠ b') w p pa pc := Flat.mono (fun k h _ => by rcases Hsp.out.blk with e | e <;> omega) HP.out
        rw [hwz]
        exact Flat.any ((Flat.pr (HW.out.trans (HWV.out.trans hwx)) g1).kept (kept_setCell _ _ _ _ (by simp)))
      have CL : Hid (∀ W', Pr wz W' → Calls Try.prog 82 #[.slice pa p.length pc] W' fun e w' => (∃ v, e = .returned v ∧ OwnsIs wz.heap.size w' v p) ∧ Pr W' w') := Lib.hid fun W' h => (cloneInts_any p pa pc W' (Flat.pr h hpz) hpl).mono fun e w' ⟨⟨v, h1, h2⟩, h3⟩ => ⟨⟨v, h1, h2.mono h.size⟩, h3⟩
      have hrs : w.heap.size + 1 < wz.heap.size := blk_lt hblz
      have Hwz := Lib.hid hwz; have HR := Lib.hid hR; have Hk2 := Lib.hid hk2; have Hwx := Lib.hid hwx; have Hp2 := Lib.hid hp2; have Hblz := Lib.hid hblz
      clear hwz hR hk2 hwx hp2 hblz hck hpz
      have hp := Pr.drew wz
      go_region_held3 (fun W' => Chg (fun k => k = w.heap.size + 1) wz W')
        (first | with_reducible exact (Pr.drew wz).chg _ | with_reducible exact (Pr.drew' (Pr.alloc _ _)).chg _ | with_reducible exact hp5.chg _ | with_reducible exact hp6.chg _ | with_reducible exact (hp6.alloc' _).chg _ | exact set5_chg _ _ _ _ _ (hp5.chg _) (.inl rfl))
        (first
        | (go_simp; go_at_call 82; (with_reducible refine Calls.mono (CL.out _ (Pr.drew wz)) ?_); rintro e w6 ⟨⟨v, rfl, ho⟩, hb⟩; have hp6 := (Pr.drew wz).trans hb)
        | (go_simp; go_at_call 82; (with_reducible refine Calls.mono (CL.out _ (Pr.drew' (Pr.alloc _ _))) ?_); rintro e w6 ⟨⟨v, rfl, ho⟩, hb⟩; have hp6 := ((Pr.alloc _ _).drew').trans hb)
        | ((refine step_int rfl _ _ rfl wz.heap.size v p rfl (ho.pr (Pr.alloc _ _)) w6.heap.size rfl (n : Int) (heap_alloc_new w6 _) (by omega) (by have := hp6.size; simp; omega) ?_); intro g9 c9 w5 ho5 hg5 hat5; have hp5 : Pr wz w5 := Below.grown (hp6.alloc' _) hg5 (by have := hp6.size; simp; omega) (fun k hk => (ho.block k hk).1); have q := hp5.blk Hblz.out; have q0 : w5.cell? ⟨w.heap.size + 1, 0, none⟩ = some (.int .i64 0) := blk_cell q; have g0 : w5.frozen? ⟨w.heap.size + 1, 0, none⟩ = false := blk_frozen q; have q1 : w5.cell? ⟨w.heap.size + 1, 1, none⟩ = some (.slice none 0 0) := blk_cell q; have g1 : w5.frozen? ⟨w.heap.size + 1, 1, none⟩ = false := blk_frozen q; have q2 : w5.cell? ⟨w.heap.size + 1, 2, none⟩ = some (.int .i64 0) := blk_cell q; have g2 : w5.frozen? ⟨w.heap.size + 1, 2, none⟩ = false := blk_frozen q; have q3 : w5.cell? ⟨w.heap.size + 1, 3, none⟩ = some (.int .i64 0) := blk_cell q; have g3 : w5.frozen? ⟨w.heap.size + 1, 3, none⟩ = false := blk_frozen q; have q4 : w5.cell? ⟨w.heap.size + 1, 4, none⟩ = some (.string ⟨#[]⟩) := blk_cell q; have g4 : w5.frozen? ⟨w.heap.size + 1, 4, none⟩ = false := blk_frozen q; clear q)
        | ((refine step_int rfl _ _ rfl wz.heap.size v p rfl ho wz.heap.size rfl (n : Int) (hb.blk ((Pr.drew _).blk (heap_alloc_new wz _))) (by omega) hp6.size ?_); intro g9 c9 w5 ho5 hg5 hat5; have hp5 : Pr wz w5 := Below.grown hp6 hg5 hp6.size (fun k hk => (ho.block k hk).1); have q := hp5.blk Hblz.out; have q0 : w5.cell? ⟨w.heap.size + 1, 0, none⟩ = some (.int .i64 0) := blk_cell q; have g0 : w5.frozen? ⟨w.heap.size + 1, 0, none⟩ = false := blk_frozen q; have q1 : w5.cell? ⟨w.heap.size + 1, 1, none⟩ = some (.slice none 0 0) := blk_cell q; have g1 : w5.frozen? ⟨w.heap.size + 1, 1, none⟩ = false := blk_frozen q; have q2 : w5.cell? ⟨w.heap.size + 1, 2, none⟩ = some (.int .i64 0) := blk_cell q; have g2 : w5.frozen? ⟨w.heap.size + 1, 2, none⟩ = false := blk_frozen q; have q3 : w5.cell? ⟨w.heap.size + 1, 3, none⟩ = some (.int .i64 0) := blk_cell q; have g3 : w5.frozen? ⟨w.heap.size + 1, 3, none⟩ = false := blk_frozen q; have q4 : w5.cell? ⟨w.heap.size + 1, 4, none⟩ = some (.string ⟨#[]⟩) := blk_cell q; have g4 : w5.frozen? ⟨w.heap.size + 1, 4, none⟩ = false := blk_frozen q; clear q))
      all_goals
        go_wp2_with fail
        have hio : Ints (From (w.heap.size + 2)) w5 (p ++ [(n : Int)]) (some ⟨g9, 0, none⟩) c9 := by
          obtain ⟨oa9, cp9, he9, hi9⟩ := ho5.ints
          simp only [Value.slice.injEq] at he9
          obtain ⟨rfl, _, rfl⟩ := he9
          exact Flat.mono (fun k h _ => by have h2 : wz.heap.size ≤ k := h; show w.heap.size + 2 ≤ k; omega) hi9
        have hk3 : Kids (fun k => (lo' ≤ k ∧ k < hi') ∨ W.heap.size ≤ k) w2 R o2 c2 := by
          refine Hk2.out.mono fun k h _ => ?_
          rcases h with h | h
          · rw [HVs.out] at h; exact h
          · refine .inr ?_
            have h1 := Hpx.out.size
            have h2 := HVs.out
            simp at h; omega
        have hpl2 : (p ++ [(n : Int)]).length = p.length + 1 := by simp
        have hfin := do_end HW.out HWs.out Hsp.out hBl hhi hbase (HWV.out.trans Hwx.out) hk3 (by rw [← Hwz.out]; exact hp5) ⟨3, p, n, m, s⟩ (by rw [Hd.out, HR.out, repl, Hmid.out]) 2 (p ++ [(n : Int)]) 0 0 ⟨#[]⟩ Hb.out (some ⟨g9, 0, none⟩) c9 hio (.int .i64 2) (.slice (some ⟨g9, 0, none⟩) (p.length + 1) c9) (.int .i64 0) (.int .i64 0) (.string ⟨#[]⟩)
        rw [hpl2] at hfin
        exact bodyPost_ret (v := .tuple #[.agg #[.int .i64 2, .slice (some ⟨g9, 0, none⟩) (p.length + 1) c9, .int .i64 0, .int .i64 0, .string ⟨#[]⟩], .int .i64 0]) (by simp [results, Try.results60, go_sem, q0, q1, q2, q3, q4]) rfl hfin
end Go.Proofs.Ytdbnfhpgmcjngab
