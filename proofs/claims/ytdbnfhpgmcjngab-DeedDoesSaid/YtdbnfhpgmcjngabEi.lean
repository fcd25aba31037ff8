/- Walks: a deed done in place: a node goes. -/
import Derived.Test.YtdbnfhpgmcjngabEh
namespace Go.Proofs.Ytdbnfhpgmcjngab
open Go Go.RowKit

theorem chg_cell {X : Nat → Prop} {w w1 : World} (h : Chg X w w1) {b o : Nat} {v : Value} (hc : w.cell? ⟨b, o, none⟩ = some v) (hX : ¬ X b) : w1.cell? ⟨b, o, none⟩ = some v := by
  rw [World.cell?_of_block (h.block b (lt_of_cell hc) hX)]; exact hc
theorem addrAt_pr {w w' : World} (hp : Pr w w') : ∀ (p : List Int) (b o : Nat) (r : Nat × Nat), addrAt w b o p = some r → addrAt w' b o p = some r
  | [], b, o, r, h => h
  | k :: p, b, o, r, h => by
    simp only [addrAt] at h ⊢
    cases hc : w.cell? ⟨b, o + 1, none⟩ with
    | none => rw [hc] at h; simp at h
    | some v =>
      rw [hp.cell hc]
      rw [hc] at h
      split at h
      · rename_i b2 o2 _ _ he
        cases he
        exact addrAt_pr hp p _ _ _ h
      · cases h
/-- There is such a place. -/
theorem spot_exists {w : World} {B o lo hi : Nat} {t : Tr} (h : Spot w B o lo hi t [] B o lo hi t) (p : List Int) : ∀ (k : Nat) (x : Tr), k ≤ p.length → t.at? (p.take k) = some x → ∃ b' o' lo' hi', Spot w B o lo hi t (p.take k) b' o' lo' hi' x ∧ addrAt w B o (p.take k) = some (b', o')
  | 0, x, _, hx => by cases hx; exact ⟨B, o, lo, hi, by simpa using h, rfl⟩
  | k + 1, x, hk, hx => by
    cases hu : t.at? (p.take k) with
    | none => 
      have := t.at?_stop (p.take (k + 1)) k (by rw [List.take_take]; simpa using hu)
      rw [this] at hx; cases hx
    | some u =>
      obtain ⟨b', o', lo', hi', hs, ha⟩ := spot_exists h p k u (by omega) hu
      have h1 := t.at?_take p k (by omega) hu
      rw [h1] at hx
      cases u with
      | node l ks =>
      obtain ⟨h0, hi2, hv, _⟩ := kid?_some hx
      obtain ⟨oa, cap, b2, o2, lo2, hi3, c0, c1, rfl, hs2, _, _⟩ := hs.step (p[k]).toNat hi2
      have e : ((p[k]).toNat : Int) = p[k] := by omega
      have hx2 : ks[(p[k]).toNat] = x := by rw [← hv]; simp [kidN, hi2]
      rw [e, hx2, ← List.take_succ_eq_append_getElem (by omega)] at hs2
      refine ⟨b2, o2 + (p[k]).toNat * 2, lo2, hi3, hs2, ?_⟩
      rw [List.take_succ_eq_append_getElem (by omega), addrAt_append _ _ _ _ _ _ _ ha]
      simp only [addrAt, c1]
theorem Ints.cutP {S : Nat → Prop} {w : World} {xs : List Int} {oa : Option Addr} {cap : Nat} (h : Ints S w xs oa cap) (n : Nat) (hn : n ≤ xs.length) : Ints S w (xs.take n) oa cap := by
  obtain ⟨⟨h1, h2⟩, b, o, h3, h4⟩ := h
  simp only [ints, List.length_map] at h1 h4
  refine ⟨⟨by simp only [ints, List.length_map, List.length_take]; omega, h2⟩, b, o, fun hne => ?_, fun i hi => ?_⟩
  · exact h3 (by intro e; simp [ints] at e hne; exact hne.2 e)
  · simp only [ints, List.length_map, List.length_take] at hi
    have := h4 i (by omega)
    simpa [ints] using this

set_option maxRecDepth 100000 in
set_option maxHeartbeats 6400000 in
theorem doDelete_any (w : World) (B lo hi base : Nat) (t : Tr) (up : List Int) (n : Nat) (pa pc) (vl vk : Value) (c0 : w.cell? ⟨B, 0, none⟩ = some vl) (c1 : w.cell? ⟨B, 1, none⟩ = some vk) (ut : UT w t lo hi vl vk) (hB : ¬ (lo ≤ B ∧ B < hi)) (hf : ∀ j, w.frozen? ⟨B, j, none⟩ = false)
    (hhi : hi ≤ w.heap.size) (hbase : base ≤ lo) (hp : Ints (fun k => k ≠ B ∧ ¬ (lo ≤ k ∧ k < hi)) w (up ++ [(n : Int)]) pa pc) (hpl : up.length ≤ 100000) (ul : ByteArray) (uks : List Tr) (hat : t.at? up = some (.node ul uks)) (hn : n < uks.length) (xl : ByteArray) (xks : List Tr) (hxn : uks[n] = .node xl xks) (hxs : xks.length ≤ 10000) (hus : uks.length ≤ 10000) :
    Calls Try.prog 60 #[.pointer (some ⟨B, 0, none⟩), .agg #[.int .i64 2, .slice pa (up.length + 1) pc, .int .i64 0, .int .i64 0, .string ⟨#[]⟩]] w (DoPost B lo hi base w t ⟨2, up ++ [(n : Int)], 0, 0, ⟨#[]⟩⟩) := by
  obtain ⟨W, hW⟩ : ∃ W, W = (w.alloc (.cells #[.int .i64 2, .slice pa (up.length + 1) pc, .int .i64 0, .int .i64 0, .string ⟨#[]⟩] 40)).alloc (.cells #[.int .i64 0, .slice none 0 0, .int .i64 0, .int .i64 0, .string ⟨#[]⟩] 40) := ⟨_, rfl⟩
  have hwW : Pr w W := by rw [hW]; exact (Pr.alloc _ _).alloc' _
  have hWs : W.heap.size = w.heap.size + 2 := by rw [hW]; simp
  have hBl := lt_of_cell c0
  have top : ∀ W', Pr W W' → Spot W' B 0 lo hi t [] B 0 lo hi t := fun W' h => Spot.top ((hwW.trans h).cell c0) ((hwW.trans h).cell c1) (ut.pr (hwW.trans h)) hB (fun j => by rw [(hwW.trans h).frozen hBl]; exact hf j)
  have hpl1 : (up ++ [(n : Int)]).length = up.length + 1 := by simp
  obtain ⟨bu, ou, lu, hu, hsu, hau⟩ := spot_exists (top W (Pr.refl _)) up up.length _ (Nat.le_refl _) (by rw [List.take_length]; exact hat)
  rw [List.take_length] at hsu hau
  obtain ⟨oau, capu, b2, o2, lx, hx, u0, u1, rfl, hsx, hlx, hhx, hbx⟩ := hsu.step n hn
  have hax : addrAt W B 0 (up ++ [(n : Int)]) = some (b2, o2 + n * 2) := by
    rw [addrAt_append _ _ _ _ _ _ _ hau]; simp only [addrAt, u1, Int.toNat_natCast]
  rw [hxn] at hsx
  have CF1 : Hid (Calls Try.prog 81 #[.pointer (some ⟨B, 0, none⟩), .slice pa (up.length + 1) pc] W fun e w' => W = w' ∧ e = .returned (.pointer (some ⟨b2, o2 + n * 2, none⟩))) := Lib.hid (by
    have := find_any W B 0 lo hi t (up ++ [(n : Int)]) pa pc (top W (Pr.refl _)) (Flat.any (Flat.pr hwW hp))
    rw [hpl1] at this
    refine this.mono fun e w' ⟨h1, h2⟩ => ⟨h1, ?_⟩
    rcases h2 with h | ⟨b', o', lo', hi', x, he, _, ha⟩
    · rw [hsx.at'] at h; cases h.1
    · rw [hax] at ha; cases ha; exact he)
  have hup : Ints (fun k => k ≠ B ∧ ¬ (lo ≤ k ∧ k < hi)) w up pa pc := by
    have := hp.cutP up.length (by simp); rwa [List.take_left' rfl] at this
  have CF2 : Hid (∀ W', Pr W W' → Calls Try.prog 81 #[.pointer (some ⟨B, 0, none⟩), .slice pa up.length pc] W' fun e w' => W' = w' ∧ e = .returned (.pointer (some ⟨bu, ou, none⟩))) := Lib.hid fun W' h => by
    have := find_any W' B 0 lo hi t up pa pc (top W' h) (Flat.any (Flat.pr (hwW.trans h) hup))
    refine this.mono fun e w' ⟨h1, h2⟩ => ⟨h1, ?_⟩
    rcases h2 with h2 | ⟨b', o', lo', hi', x, he, _, ha⟩
    · rw [hsu.at'] at h2; cases h2.1
    · rw [addrAt_pr h _ _ _ _ hau] at ha; cases ha; exact he
  have CL : Hid (∀ W', Pr W W' → Calls Try.prog 82 #[.slice pa up.length pc] W' fun e w' => (∃ ob cp, e = .returned (.slice ob up.length cp) ∧ Ints (From W'.heap.size) w' up ob cp) ∧ Pr W' w') := Lib.hid fun W' h => cloneRead_any up pa pc W' (Flat.any (Flat.pr (hwW.trans h) hup)) hpl
  obtain ⟨pb, po, rfl, pcell⟩ := Ints.get hp up.length (by simp)
  have hpcap : up.length + 1 ≤ pc := by have := hp.1.1; simpa using this
  have hpcm : pc ≤ 9223372036854775807 := by have := hp.1.2; unfold maxLen at this; omega
  have s6 : W.cell? ⟨pb, po + up.length, none⟩ = some (.int .i64 n) := by rw [hwW.cell pcell]; simp
  obtain ⟨_, capu', _, u2, hku, hul⟩ := hsu.cells
  rw [u1] at u2; cases u2
  obtain ⟨oax, capx, x0, x1, hkx, hxl⟩ := hsx.cells
  have hd := doneD_some ⟨2, up ++ [(n : Int)], 0, 0, ⟨#[]⟩⟩ rfl (n : Int) up t _ (.node xl xks) hat (by rw [Tr.kid?_in ul uks hn, hxn])
  have hb : backD t ⟨2, up ++ [(n : Int)], 0, 0, ⟨#[]⟩⟩ = ⟨3, up, n, xks.length, xl⟩ := by
    unfold backD; rw [if_pos rfl]; simp [hsx.at', Tr.kids_node, Tr.label_node]
  simp only [Int.toNat_natCast, Tr.kids_node, Tr.label_node] at hd
  have hblk : W.heap[w.heap.size + 1]? = some (.cells #[.int .i64 0, .slice none 0 0, .int .i64 0, .int .i64 0, .string ⟨#[]⟩] 40 (0, 0)) := by
    rw [hW]; simpa using heap_alloc_new (w.alloc (.cells #[.int .i64 2, .slice (some ⟨pb, po, none⟩) (up.length + 1) pc, .int .i64 0, .int .i64 0, .string ⟨#[]⟩] 40)) (.cells #[.int .i64 0, .slice none 0 0, .int .i64 0, .int .i64 0, .string ⟨#[]⟩] 40)
  have s0 : W.cell? ⟨w.heap.size, 0, none⟩ = some (.int .i64 2) := by rw [hW]; simp [go_sem]
  have s1 : W.cell? ⟨w.heap.size, 1, none⟩ = some (.slice (some ⟨pb, po, none⟩) (up.length + 1) pc) := by rw [hW]; simp [go_sem]
  have hfu := hsu.free (ou + 1)
  have hbul := hsu.blk_lt
  have Hsu := Lib.hid hsu; have Hku := Lib.hid hku; have Hkx := Lib.hid hkx; have Hd := Lib.hid hd; have Hb := Lib.hid hb; have HW := Lib.hid hwW; have HWs := Lib.hid hWs; have Hblk := Lib.hid hblk; have HU := Lib.hid hup
  have hwl : w.heap.size < W.heap.size := by omega
  have hw9 : w.heap.size + 1 < W.heap.size := by omega
  have hxl2 := hsx.blk_lt
  clear hsu hsx hku hkx hd hb hwW hWs hblk top hau hax hup hp hat hxn u0 pcell hpl1
  generalize hN : up.length = N at *
  have HN := Lib.hid hN
  clear hN
  have a1 : (0 : Int) ≤ N := by omega
  have a2 : (N : Int) ≤ pc := by omega
  have a3 : (N : Int) < (N : Int) + 1 := by omega
  have a4 : (N : Int) ≤ (N : Int) + 1 := by omega
  have a5 : (N : Int) + 1 ≤ pc := by omega
  have u9 : IntKind.i64.wrap (N : Int) = N := IntWalk.i64_in _ (by omega)
  go_enter Try.func60, Try.ntmps60
  go_upto_region 1 with fail
  rw [← hW]
  clear hW
  go_upto_region 15 with (first
    | (go_at_call 81; (with_reducible refine Calls.mono CF1.out ?_); rintro e w1 ⟨rfl, rfl⟩))
  go_quiet (fail)
  go_upto_region 16 with fail
  obtain ⟨V, hV⟩ : ∃ V, V = W.drewN nq := ⟨_, rfl⟩
  have hWV : Pr W V := by rw [hV]; exact Pr.drewN _ _
  have hVs : V.heap.size = W.heap.size := by rw [hV]; simp
  rw [← hV]
  have v1 := stays (hWV.cell x0); have v2 := stays (hWV.cell x1)
  have HWV := Lib.hid hWV; have HVs := Lib.hid hVs
  clear hV hVs
  go_cut [11] from 108 to 120 (fun v11 wx => ∃ Bk oc cc, v11 = .pointer (some ⟨Bk, 0, none⟩) ∧ wx.heap[Bk]? = some (.cells #[.int .i64 3, .slice oc N cc, .int .i64 n, .int .i64 xks.length, .string xl] 40 (0, 0)) ∧ V.heap.size ≤ Bk ∧ Ints (From V.heap.size) wx up oc cc ∧ Pr V wx)
  case first =>
    go_region_held3 (fun W' => Pr V W')
      (first | with_reducible exact Pr.drew V | with_reducible exact (Pr.alloc _ _).drew' | with_reducible exact hp | with_reducible exact hp.alloc' _ | exact set5_pr _ _ _ _ _ hp (Nat.le_refl _))
      (first
        | (go_at_call 82; (with_reducible refine Calls.mono (CL.out _ (HWV.out.trans (Pr.drew V))) ?_); rintro e w2 ⟨⟨oc, cc, rfl, hoc⟩, hb⟩; have hp := (Pr.drew V).trans hb)
        | (go_at_call 82; (with_reducible refine Calls.mono (CL.out _ (HWV.out.trans (Pr.drew' (Pr.alloc _ _)))) ?_); rintro e w2 ⟨⟨oc, cc, rfl, hoc⟩, hb⟩; have hp := ((Pr.alloc _ _).drew').trans hb; have z := hb.blk ((Pr.drew _).blk (heap_alloc_new V _)); have z0 : w2.cell? ⟨V.heap.size, 0, none⟩ = some (.int .i64 0) := blk_cell z; have z1 : w2.cell? ⟨V.heap.size, 1, none⟩ = some (.slice none 0 0) := blk_cell z; have z2 : w2.cell? ⟨V.heap.size, 2, none⟩ = some (.int .i64 0) := blk_cell z; have z3 : w2.cell? ⟨V.heap.size, 3, none⟩ = some (.int .i64 0) := blk_cell z; have z4 : w2.cell? ⟨V.heap.size, 4, none⟩ = some (.string ⟨#[]⟩) := blk_cell z; have y0 : w2.frozen? ⟨V.heap.size, 0, none⟩ = false := blk_frozen z; have y1 : w2.frozen? ⟨V.heap.size, 1, none⟩ = false := blk_frozen z; have y2 : w2.frozen? ⟨V.heap.size, 2, none⟩ = false := blk_frozen z; have y3 : w2.frozen? ⟨V.heap.size, 3, none⟩ = false := blk_frozen z; have y4 : w2.frozen? ⟨V.heap.size, 4, none⟩ = false := blk_frozen z; have Hz := Lib.hid z; clear z))
    all_goals
      go_wp2_with fail
      go_meet
    case rel => exact ⟨w2.heap.size, oc, cc, rfl, heap_alloc_new w2 _, hp.size, (Flat.pr (Pr.alloc _ _) hoc), hp.alloc' _⟩
    case rel => exact ⟨V.heap.size, oc, cc, rfl, set5_blk _ _ _ _ _ Hz.out, Nat.le_refl _, Flat.mono (fun k h _ => by have : V.heap.size + 1 ≤ k := (by simpa using h); show V.heap.size ≤ k; omega) (Flat.kept (set5_kept _ _ _ _ _ (by simp)) hoc), set5_pr _ _ _ _ _ hp (Nat.le_refl _)⟩
  case rest =>
    obtain ⟨Bk, oc, cc, rfl, hbk, hbv, hoc, hpx⟩ := hcut
    obtain ⟨wx, hwx⟩ : ∃ wx, wx = wc := ⟨_, rfl⟩
    subst hwx
    have hlow := Hsu.out.low
    have hhigh := Hsu.out.high
    have hout := Hsu.out.out
    have hbuw : bu < w.heap.size := by rcases Hsu.out.blk with h | h <;> omega
    have hne : b2 ≠ bu := by rintro rfl; exact hout hbx
    have RP : Hid (∀ W', Pr wx W' → Calls Try.prog 84 #[.pointer (some ⟨bu, ou, none⟩), .int .i64 n, .int .i64 1, .slice oax xks.length capx] W' (ReplPost (fun k => lu ≤ k ∧ k < hu) W' bu ou (repl uks n 1 xks))) := Lib.hid fun W' h => by
      have h1 := HWV.out.trans (hpx.trans h)
      have := replace_any (fun k => lu ≤ k ∧ k < hu) bu ou n 1 uks xks _ capu oax capx W' (h1.cell u1) (by rw [h1.frozen hbul]; exact hfu) (Hku.out.pr h1) ((Hkx.out.pr h1).mono (fun k hk _ => by omega)) (by omega) (by omega) (by omega)
      exact this
    have y2 : ∀ W', Chg (fun k => k = bu) wx W' → W'.cell? ⟨b2, o2 + n * 2 + 1, none⟩ = some (.slice oax xks.length capx) := fun W' h => chg_cell h (hpx.cell (HWV.out.cell x1)) hne
    obtain ⟨R, hR⟩ : ∃ R, R = repl uks n 1 xks := ⟨_, rfl⟩
    rw [← hR] at RP
    have HR := Lib.hid hR; have Hbk := Lib.hid hbk; have Hoc := Lib.hid hoc; have Hpx := Lib.hid hpx
    clear hR hbk hoc hpx v1 v2
    go_upto_region 17 with fail
    go_region_held3 (fun W' => Chg (fun k => k = bu) wx W')
      (first | with_reducible exact (Pr.drew wx).chg _ | with_reducible exact hch)
      (first
        | (go_at_call 81; (with_reducible refine Calls.mono (CF2.out _ (HWV.out.trans (Hpx.out.trans (Pr.drew wx)))) ?_); rintro e w1 ⟨rfl, rfl⟩)
        | (go_at_call 84; (with_reducible refine Calls.mono (RP.out _ (Pr.drew wx)) ?_); rintro e w' ⟨w2, oc2, cc2, rfl, rfl, hp2, hk2⟩; have hch := (((Pr.drew wx).trans hp2).chg (fun k => k = bu)).setCell ⟨bu, ou + 1, none⟩ (.slice oc2 R.length cc2) (.inl rfl)))
    have hwx : Pr wx w2 := (Pr.drew wx).trans hp2
    have nBk : Bk ≠ bu := by have := HVs.out; omega
    have hr : (w2.setCell ⟨bu, ou + 1, none⟩ (.slice oc2 R.length cc2)).heap[w.heap.size + 1]? = some (.cells #[.int .i64 0, .slice none 0 0, .int .i64 0, .int .i64 0, .string ⟨#[]⟩] 40 (0, 0)) := by
      rw [Below.heap_setCell _ _ _ _ (by simp; omega)]
      exact (HWV.out.trans (Hpx.out.trans hwx)).blk Hblk.out
    have hk : (w2.setCell ⟨bu, ou + 1, none⟩ (.slice oc2 R.length cc2)).heap[Bk]? = some (.cells #[.int .i64 3, .slice oc N cc, .int .i64 n, .int .i64 xks.length, .string xl] 40 (0, 0)) := by
      rw [Below.heap_setCell _ _ _ _ (by simpa using nBk)]
      exact hwx.blk Hbk.out
    obtain ⟨wz, hwz⟩ : ∃ wz, wz = w2.setCell ⟨bu, ou + 1, none⟩ (.slice oc2 R.length cc2) := ⟨_, rfl⟩
    rw [← hwz] at hr hk ⊢
    have r0 : wz.cell? ⟨w.heap.size + 1, 0, none⟩ = some (.int .i64 0) := blk_cell hr
    have r1 : wz.cell? ⟨w.heap.size + 1, 1, none⟩ = some (.slice none 0 0) := blk_cell hr
    have r2 : wz.cell? ⟨w.heap.size + 1, 2, none⟩ = some (.int .i64 0) := blk_cell hr
    have r3 : wz.cell? ⟨w.heap.size + 1, 3, none⟩ = some (.int .i64 0) := blk_cell hr
    have r4 : wz.cell? ⟨w.heap.size + 1, 4, none⟩ = some (.string ⟨#[]⟩) := blk_cell hr
    have f0 : ∀ j, wz.frozen? ⟨w.heap.size + 1, j, none⟩ = false := fun j => blk_frozen hr
    have f1 := f0 0; have f2 := f0 1; have f3 := f0 2; have f4 := f0 3; have f5 := f0 4
    have k0 : wz.cell? ⟨Bk, 0, none⟩ = some (.int .i64 3) := blk_cell hk
    have k1 : wz.cell? ⟨Bk, 1, none⟩ = some (.slice oc N cc) := blk_cell hk
    have k2 : wz.cell? ⟨Bk, 2, none⟩ = some (.int .i64 n) := blk_cell hk
    have k3 : wz.cell? ⟨Bk, 3, none⟩ = some (.int .i64 xks.length) := blk_cell hk
    have k4 : wz.cell? ⟨Bk, 4, none⟩ = some (.string xl) := blk_cell hk
    have Hk := Lib.hid hk; have Hr := Lib.hid hr; have Hwz := Lib.hid hwz; have Hch := Lib.hid hch; have Hk2 := Lib.hid hk2; have Hwx := Lib.hid hwx
    clear hk hr hwz hch hk2 hwx f0
    go_wp2_with fail
    have hio : Ints (From (w.heap.size + 2)) wz up oc cc := by
      rw [Hwz.out]
      refine Flat.mono (fun k h _ => ?_) (Flat.kept (kept_setCell (From V.heap.size) _ _ _ (by show ¬ V.heap.size ≤ bu; have := HVs.out; omega)) (Flat.pr Hwx.out Hoc.out))
      have h2 : V.heap.size ≤ k := h
      have := HVs.out
      show w.heap.size + 2 ≤ k; omega
    have hk3 : Kids (fun k => (lu ≤ k ∧ k < hu) ∨ W.heap.size ≤ k) w2 R oc2 cc2 := by
      refine Hk2.out.mono fun k h _ => ?_
      rcases h with h | h
      · exact .inl h
      · refine .inr ?_
        have h1 := Hpx.out.size
        have h2 := HVs.out
        simp at h; omega
    have hfin := do_end HW.out HWs.out Hsu.out hBl hhi hbase (HWV.out.trans (Hpx.out.trans Hwx.out)) hk3 (by rw [← Hwz.out]; exact Pr.refl wz) ⟨2, up ++ [(n : Int)], 0, 0, ⟨#[]⟩⟩ (by rw [Hd.out, HR.out, repl]) 3 up n xks.length xl Hb.out oc cc hio (.int .i64 3) (.slice oc N cc) (.int .i64 n) (.int .i64 xks.length) (.string xl)
    rw [HN.out] at hfin
    exact bodyPost_ret (v := .tuple #[.agg #[.int .i64 3, .slice oc N cc, .int .i64 n, .int .i64 xks.length, .string xl], .int .i64 0]) (by simp [results, Try.results60, go_sem, r0, r1, r2, r3, r4]) rfl hfin
end Go.Proofs.Ytdbnfhpgmcjngab
