/- Walks: deed.Do. -/
import Derived.Test.YtdbnfhpgmcjngabEi
namespace Go.Proofs.Ytdbnfhpgmcjngab
open Go Go.RowKit

theorem kids_sz {t x : Tr} {p : List Int} (h : t.at? p = some x) : x.kids.length < t.sz := by
  have h1 := Tr.at?_sz h
  cases x with
  | node l ks => have := Tr.length_le ks; simp only [Tr.sz_node] at h1; simp only [Tr.kids_node]; omega
theorem do_any (w : World) (B lo hi base : Nat) (t : Tr) (k : Int) (p : List Int) (a m : Int) (s : ByteArray) (pa pc) (vl vk : Value) (c0 : w.cell? ⟨B, 0, none⟩ = some vl) (c1 : w.cell? ⟨B, 1, none⟩ = some vk) (ut : UT w t lo hi vl vk) (hB : ¬ (lo ≤ B ∧ B < hi)) (hf : ∀ j, w.frozen? ⟨B, j, none⟩ = false)
    (hhi : hi ≤ w.heap.size) (hbase : base ≤ lo) (hp : Ints (fun k => k ≠ B ∧ ¬ (lo ≤ k ∧ k < hi)) w p pa pc) (hs : s.size ≤ maxLen) (hpl : p.length ≤ 100000) (hd : dfault ⟨k, p, a, m, s⟩ = 0) (hsz : t.sz ≤ 10000) :
    Calls Try.prog 60 #[.pointer (some ⟨B, 0, none⟩), .agg #[.int .i64 k, .slice pa p.length pc, .int .i64 a, .int .i64 m, .string s]] w (DoPost B lo hi base w t ⟨k, p, a, m, s⟩) := by
  obtain ⟨⟨k1, k3⟩, e1, e2, p0, m0, hp0, _⟩ := dfault_zero.1 hd
  simp only at k1 k3 e1 e2 p0 m0 hp0
  by_cases hk2 : k = 2
  · subst hk2
    obtain ⟨rfl, hne⟩ := e2 rfl
    obtain ⟨rfl, rfl⟩ := e1 (by decide)
    cases hat : t.at? p with
    | none => exact doNone_any w B lo hi base t 2 p 0 0 _ pa pc vl vk c0 c1 ut hB hf (Flat.any hp) hat (doneD_none _ rfl p t hne hp0 hat)
    | some x =>
      obtain ⟨up, k', hpe⟩ : ∃ up k', p = up ++ [k'] := ⟨p.dropLast, p.getLast hne, (List.dropLast_concat_getLast hne).symm⟩
      subst hpe
      rw [Tr.at?_append] at hat
      cases hu : t.at? up with
      | none => rw [hu] at hat; cases hat
      | some u =>
        rw [hu] at hat
        cases u with
        | node ul uks =>
        have hk : (Tr.node ul uks).kid? k' = some x := by
          simp only [Option.bind_some, Tr.at?] at hat
          cases hk : (Tr.node ul uks).kid? k' with
          | none => rw [hk] at hat; cases hat
          | some v => rw [hk] at hat; cases hat; rfl
        obtain ⟨h0, hi2, hv, _⟩ := kid?_some hk
        obtain ⟨n, rfl⟩ := Int.eq_ofNat_of_zero_le h0
        simp only [Int.toNat_natCast] at hi2
        rw [kidN_in uks n hi2] at hv
        cases x with
        | node xl xks =>
        have z1 := kids_sz hu
        have z2 : (Tr.node xl xks).kids.length < t.sz := kids_sz (t := t) (p := up ++ [(n : Int)]) (by rw [Tr.at?_append, hu]; simp [Tr.at?, hk])
        simp only [Tr.kids_node] at z1 z2
        have := doDelete_any w B lo hi base t up n pa pc vl vk c0 c1 ut hB hf hhi hbase hp (by simp at hpl; omega) ul uks hu hi2 xl xks hv (by omega) (by omega)
        rw [show up.length + 1 = (up ++ [(n : Int)]).length by simp] at this
        exact this
  · cases hat : t.at? p with
    | none => exact doNone_any w B lo hi base t k p a m s pa pc vl vk c0 c1 ut hB hf (Flat.any hp) hat (doneT_none _ hk2 p t hp0 hat)
    | some x =>
      cases x with
      | node xl xks =>
      have z1 := kids_sz hat
      simp only [Tr.kids_node] at z1
      by_cases hk1 : k = 1
      · subst hk1
        obtain ⟨rfl, rfl⟩ := e1 (by decide)
        exact doName_any w B lo hi base t p s pa pc vl vk c0 c1 ut hB hf hhi hbase (Flat.any hp) hs hp0 hpl
      · obtain rfl : k = 3 := by omega
        obtain ⟨n, rfl⟩ := Int.eq_ofNat_of_zero_le p0
        obtain ⟨m', rfl⟩ := Int.eq_ofNat_of_zero_le m0
        exact doInsert_any w B lo hi base t p n m' s pa pc vl vk c0 c1 ut hB hf hhi hbase hp hs hpl xl xks hat (by omega)

/-- What Do tells. -/
def DeedPost (w : World) (t : Tr) (d : Dee) (e : Ending) (w' : World) : Prop :=
  ∃ l ks oa cap k p a m s bp bc c, doD t d = (.node l ks, ⟨k, p, a, m, s⟩, c) ∧ l.size ≤ maxLen ∧ e = .returned (.tuple #[.agg #[.string l, .slice oa ks.length cap], .agg #[.int .i64 k, .slice bp p.length bc, .int .i64 a, .int .i64 m, .string s], .int .i64 (c : Nat)]) ∧ Kids (From w.heap.size) w' ks oa cap ∧ Ints Any w' p bp bc ∧ Pr w w'
theorem DeedPost.no {w w' : World} {t : Tr} {d : Dee} {c : Nat} (h : doD t d = (Tr.zero, Dee.zero, c)) (hp : Pr w w') :
    DeedPost w t d (.returned (.tuple #[.agg #[.string ⟨#[]⟩, .slice none 0 0], .agg #[.int .i64 0, .slice none 0 0, .int .i64 0, .int .i64 0, .string ⟨#[]⟩], .int .i64 (c : Nat)])) w' :=
  ⟨⟨#[]⟩, [], none, 0, 0, [], 0, 0, ⟨#[]⟩, none, 0, c, h, by simp [ByteArray.size], rfl, Kids.nil _ _ _ _ (Nat.zero_le _), Flat.nil _ _ _ _ (Nat.zero_le _), hp⟩

set_option maxRecDepth 100000 in
set_option maxHeartbeats 6400000 in
theorem deedDo_any (l : ByteArray) (ks : List Tr) (oa cap) (k : Int) (p : List Int) (a m : Int) (s : ByteArray) (pa pc) (w : World) (hl : l.size ≤ maxLen) (hk : Kids Any w ks oa cap) (hs : s.size ≤ maxLen) (hp : Ints Any w p pa pc) (hpl : p.length ≤ 100000) :
    Calls Try.prog 25 #[.agg #[.string l, .slice oa ks.length cap], .agg #[.int .i64 k, .slice pa p.length pc, .int .i64 a, .int .i64 m, .string s]] w (DeedPost w (.node l ks) ⟨k, p, a, m, s⟩) := by
  obtain ⟨W, hW⟩ : ∃ W, W = (((w.alloc (.cells #[.string l, .slice oa ks.length cap] 24)).alloc (.cells #[.int .i64 k, .slice pa p.length pc, .int .i64 a, .int .i64 m, .string s] 40)).alloc (.cells #[.string ⟨#[]⟩, .slice none 0 0] 24)).alloc (.cells #[.int .i64 0, .slice none 0 0, .int .i64 0, .int .i64 0, .string ⟨#[]⟩] 40) := ⟨_, rfl⟩
  have hwW : Pr w W := by rw [hW]; exact (((Pr.alloc _ _).alloc' _).alloc' _).alloc' _
  have hWs : W.heap.size = w.heap.size + 4 := by rw [hW]; simp
  have s0 := stays (show W.cell? ⟨w.heap.size, 0, none⟩ = some (.string l) by rw [hW]; simp [go_sem])
  have s1 := stays (show W.cell? ⟨w.heap.size, 1, none⟩ = some (.slice oa ks.length cap) by rw [hW]; simp [go_sem])
  have d0 := stays (show W.cell? ⟨w.heap.size + 1, 0, none⟩ = some (.int .i64 k) by rw [hW]; simp [go_sem])
  have d1 := stays (show W.cell? ⟨w.heap.size + 1, 1, none⟩ = some (.slice pa p.length pc) by rw [hW]; simp [go_sem])
  have d2 := stays (show W.cell? ⟨w.heap.size + 1, 2, none⟩ = some (.int .i64 a) by rw [hW]; simp [go_sem])
  have d3 := stays (show W.cell? ⟨w.heap.size + 1, 3, none⟩ = some (.int .i64 m) by rw [hW]; simp [go_sem])
  have d4 := stays (show W.cell? ⟨w.heap.size + 1, 4, none⟩ = some (.string s) by rw [hW]; simp [go_sem])
  have hR4 : W.heap[w.heap.size + 2]? = some (.cells #[.string ⟨#[]⟩, .slice none 0 0] 24 (0, 0)) := by
    rw [hW]; exact (Pr.alloc _ _).blk (by simpa using heap_alloc_new ((w.alloc (.cells #[.string l, .slice oa ks.length cap] 24)).alloc (.cells #[.int .i64 k, .slice pa p.length pc, .int .i64 a, .int .i64 m, .string s] 40)) (.cells #[.string ⟨#[]⟩, .slice none 0 0] 24))
  have hR5 : W.heap[w.heap.size + 3]? = some (.cells #[.int .i64 0, .slice none 0 0, .int .i64 0, .int .i64 0, .string ⟨#[]⟩] 40 (0, 0)) := by
    rw [hW]; simpa using heap_alloc_new (((w.alloc (.cells #[.string l, .slice oa ks.length cap] 24)).alloc (.cells #[.int .i64 k, .slice pa p.length pc, .int .i64 a, .int .i64 m, .string s] 40)).alloc (.cells #[.string ⟨#[]⟩, .slice none 0 0] 24)) (.cells #[.int .i64 0, .slice none 0 0, .int .i64 0, .int .i64 0, .string ⟨#[]⟩] 40)
  have R : ∀ W', Chg (fun k => k ≠ w.heap.size + 2 ∧ k ≠ w.heap.size + 3) W W' → (W'.cell? ⟨w.heap.size + 2, 0, none⟩ = some (.string ⟨#[]⟩) ∧ W'.cell? ⟨w.heap.size + 2, 1, none⟩ = some (.slice none 0 0) ∧ W'.frozen? ⟨w.heap.size + 2, 0, none⟩ = false ∧ W'.frozen? ⟨w.heap.size + 2, 1, none⟩ = false) ∧
      (W'.cell? ⟨w.heap.size + 3, 0, none⟩ = some (.int .i64 0) ∧ W'.cell? ⟨w.heap.size + 3, 1, none⟩ = some (.slice none 0 0) ∧ W'.cell? ⟨w.heap.size + 3, 2, none⟩ = some (.int .i64 0) ∧ W'.cell? ⟨w.heap.size + 3, 3, none⟩ = some (.int .i64 0) ∧ W'.cell? ⟨w.heap.size + 3, 4, none⟩ = some (.string ⟨#[]⟩)) ∧
      (W'.frozen? ⟨w.heap.size + 3, 0, none⟩ = false ∧ W'.frozen? ⟨w.heap.size + 3, 1, none⟩ = false ∧ W'.frozen? ⟨w.heap.size + 3, 2, none⟩ = false ∧ W'.frozen? ⟨w.heap.size + 3, 3, none⟩ = false ∧ W'.frozen? ⟨w.heap.size + 3, 4, none⟩ = false) := fun W' h => by
    have h4 := h.blk hR4 (by simp)
    have h5 := h.blk hR5 (by simp)
    exact ⟨⟨blk_cell h4, blk_cell h4, blk_frozen h4, blk_frozen h4⟩, ⟨blk_cell h5, blk_cell h5, blk_cell h5, blk_cell h5, blk_cell h5⟩, blk_frozen h5, blk_frozen h5, blk_frozen h5, blk_frozen h5, blk_frozen h5⟩
  have HR := Lib.hid R
  have F1 := Lib.hid (fun W' (h : Pr W W') => check_any l ks oa cap W' hl (hk.pr (hwW.trans h)))
  have F2 := Lib.hid (fun W' (h : Pr W W') => dcheck_any k p a m s pa pc W' hs (Flat.pr (hwW.trans h) hp))
  have HW := Lib.hid hwW; have HWs := Lib.hid hWs; have HK := Lib.hid hk; have HP := Lib.hid hp
  clear R hwW hWs hR4 hR5 hk hp
  by_cases ft : fault (.node l ks) = 0
  case neg =>
    have hno : doD (.node l ks) ⟨k, p, a, m, s⟩ = (Tr.zero, Dee.zero, fault (.node l ks)) := by unfold doD; rw [if_pos ft]
    have Hno := Lib.hid hno
    have e1 : ((fault (.node l ks) : Int) != 0) = true := by simp [bne_iff_ne]; omega
    clear hno
    generalize fault (.node l ks) = c at *
    go_enter Try.func25, Try.ntmps25
    go_upto_region 1 with fail
    rw [← hW]; clear hW
    have x0 := s0 _ (Pr.refl _); have x1 := s1 _ (Pr.refl _)
    go_wp2_with (first
      | (go_at_call 29; (with_reducible refine Calls.mono (F1.out _ (Pr.refl _)) ?_); rintro e w1 ⟨rfl, hb⟩; obtain ⟨⟨q0, q1, q2, q3⟩, ⟨q4, q5, q6, q7, q8⟩, q9, q10, q11, q12, q13⟩ := HR.out _ (hb.chg _); have hp := HW.out.trans hb; clear hb))
    exact bodyPost_ret (v := .tuple #[.agg #[.string ⟨#[]⟩, .slice none 0 0], .agg #[.int .i64 0, .slice none 0 0, .int .i64 0, .int .i64 0, .string ⟨#[]⟩], .int .i64 c]) (by simp [results, Try.results25, go_sem, q0, q1, q4, q5, q6, q7, q8]) rfl (DeedPost.no Hno.out (set5_pr _ _ _ _ _ ((hp.setCell (by simp; omega) _).setCell (by simp; omega) _) (by omega)))
  by_cases fd : dfault ⟨k, p, a, m, s⟩ = 0
  case neg =>
    have hno : doD (.node l ks) ⟨k, p, a, m, s⟩ = (Tr.zero, Dee.zero, dfault ⟨k, p, a, m, s⟩) := by unfold doD; rw [if_neg (by simpa using ft), if_pos fd]
    have Hno := Lib.hid hno
    rw [ft] at F1
    have e1 : ((dfault ⟨k, p, a, m, s⟩ : Int) != 0) = true := by simp [bne_iff_ne]; omega
    clear hno ft
    generalize dfault ⟨k, p, a, m, s⟩ = c at *
    go_enter Try.func25, Try.ntmps25
    go_upto_region 1 with fail
    rw [← hW]; clear hW
    have x0 := s0 _ (Pr.refl _); have x1 := s1 _ (Pr.refl _)
    go_wp2_with (first
      | (go_at_call 29; (with_reducible refine Calls.mono (F1.out _ (Pr.refl _)) ?_); rintro e w1 ⟨rfl, hb⟩; have z0 := d0 _ hb; have z1 := d1 _ hb; have z2 := d2 _ hb; have z3 := d3 _ hb; have z4 := d4 _ hb)
      | (go_at_call 27; (with_reducible refine Calls.mono (F2.out _ hb) ?_); rintro e w2 ⟨rfl, hb2⟩; obtain ⟨⟨q0, q1, q2, q3⟩, ⟨q4, q5, q6, q7, q8⟩, q9, q10, q11, q12, q13⟩ := HR.out _ ((hb.trans hb2).chg _); have hp := HW.out.trans (hb.trans hb2); clear hb hb2))
    exact bodyPost_ret (v := .tuple #[.agg #[.string ⟨#[]⟩, .slice none 0 0], .agg #[.int .i64 0, .slice none 0 0, .int .i64 0, .int .i64 0, .string ⟨#[]⟩], .int .i64 c]) (by simp [results, Try.results25, go_sem, q0, q1, q4, q5, q6, q7, q8]) rfl (DeedPost.no Hno.out (set5_pr _ _ _ _ _ ((hp.setCell (by simp; omega) _).setCell (by simp; omega) _) (by omega)))
  have hsz := (fault_zero.1 ft).1
  rw [ft] at F1
  rw [fd] at F2
  have OW := Lib.hid (fun W' (h : Pr W W') => ownU_any l ks oa cap W' (by rw [Tr.sz_node] at hsz; omega) hl (HK.out.pr (HW.out.trans h)))
  have FD := Lib.hid fd
  have FT := Lib.hid ft
  clear ft fd
  go_enter Try.func25, Try.ntmps25
  go_upto_region 1 with fail
  rw [← hW]; clear hW
  have x0 := s0 _ (Pr.refl _); have x1 := s1 _ (Pr.refl _)
  go_upto_region 8 with (first
    | (go_at_call 29; (with_reducible refine Calls.mono (F1.out _ (Pr.refl _)) ?_); rintro e w1 ⟨rfl, hb⟩; have z0 := d0 _ hb; have z1 := d1 _ hb; have z2 := d2 _ hb; have z3 := d3 _ hb; have z4 := d4 _ hb)
    | (go_at_call 27; (with_reducible refine Calls.mono (F2.out _ hb) ?_); rintro e w2 ⟨rfl, hb2⟩; have hp := hb.trans hb2; have z0 := s0 _ hp; have z1 := s1 _ hp)
    | (go_at_call 59; (with_reducible refine Calls.mono (OW.out _ hp) ?_); rintro e w3 ⟨oc, cc, rfl, hut, hb3⟩))
  have hp3 := hp.trans hb3
  obtain ⟨V, hV⟩ : ∃ V, V = w3.alloc (.cells #[.string l, .slice oc ks.length cc] 24) := ⟨_, rfl⟩
  have hv0 : V.cell? ⟨w3.heap.size, 0, none⟩ = some (.string l) := by rw [hV]; simp [go_sem]
  have hv1 : V.cell? ⟨w3.heap.size, 1, none⟩ = some (.slice oc ks.length cc) := by rw [hV]; simp [go_sem]
  have hvf : ∀ j, V.frozen? ⟨w3.heap.size, j, none⟩ = false := fun j => by rw [hV]; exact blk_frozen (heap_alloc_new _ _)
  have hvs : V.heap.size = w3.heap.size + 1 := by rw [hV]; simp
  have hpV : Pr w3 V := by rw [hV]; exact Pr.alloc _ _
  rw [← hV]
  have y0 := d0 _ (hp3.trans hpV); have y1 := d1 _ (hp3.trans hpV); have y2 := d2 _ (hp3.trans hpV); have y3 := d3 _ (hp3.trans hpV); have y4 := d4 _ (hp3.trans hpV)
  have hw2 := hp.size
  have hutl := hut.le
  have DO := Lib.hid (do_any V w3.heap.size w2.heap.size w3.heap.size w2.heap.size (.node l ks) k p a m s pa pc _ _ hv0 hv1 (hut.pr hpV) (by omega) hvf (by omega) (Nat.le_refl _)
    (Flat.pr (HW.out.trans (hp3.trans hpV)) (Flat.mono (S' := fun k => k ≠ w3.heap.size ∧ ¬ (w2.heap.size ≤ k ∧ k < w3.heap.size)) (fun k _ hl => by have := HWs.out; omega) HP.out)) hs hpl FD.out (by omega))
  have HpV := Lib.hid (HW.out.trans (hp3.trans hpV))
  have Hp3 := Lib.hid (hp3.trans hpV)
  have Hvs := Lib.hid hvs
  clear hV hvf hpV hut hp hb3 hp3 z0 z1 z2 z3 z4 x0 x1 hv0 hv1 hvs
  obtain ⟨X, hX⟩ : ∃ X : Nat → Prop, X = fun k => k = w3.heap.size ∨ (w2.heap.size ≤ k ∧ k < w3.heap.size) := ⟨_, rfl⟩
  have hXw : ∀ k, X k → W.heap.size ≤ k := fun k h => by
    have h2 : k = w3.heap.size ∨ (w2.heap.size ≤ k ∧ k < w3.heap.size) := by rw [hX] at h; exact h
    omega
  have HXw := Lib.hid hXw
  have hR9 : ∀ W', Chg X V W' → Chg (fun k => k ≠ w.heap.size + 2 ∧ k ≠ w.heap.size + 3) W W' ∧ Pr w W' := fun W' h => by
    have h1 := (Hp3.out.chg X).trans h (fun _ h => .inl h)
    refine ⟨⟨h1.os, h1.tape, h1.output, h1.size, fun k hk hn => h1.block k hk (fun hx => by have := hXw k hx; omega)⟩, ?_⟩
    exact ((HpV.out.chg X).trans h (fun _ h => .inl h)).to_pr (fun k hx => by have := hXw k hx; have := HWs.out; omega)
  have HR9 := Lib.hid hR9
  clear hXw hR9
  by_cases hc : (doneT ⟨k, p, a, m, s⟩ p (.node l ks)).2 = 0
  case neg =>
    have hno : doD (.node l ks) ⟨k, p, a, m, s⟩ = (Tr.zero, Dee.zero, (doneT ⟨k, p, a, m, s⟩ p (.node l ks)).2) := by unfold doD; rw [if_neg (by simpa using FT.out), if_neg (by simpa using FD.out), if_pos hc]
    have Hno := Lib.hid hno
    have DO2 : Hid (Calls Try.prog 60 #[.pointer (some ⟨w3.heap.size, 0, none⟩), .agg #[.int .i64 k, .slice pa p.length pc, .int .i64 a, .int .i64 m, .string s]] V fun e w' => e = .returned (.tuple #[.agg #[.int .i64 0, .slice none 0 0, .int .i64 0, .int .i64 0, .string ⟨#[]⟩], .int .i64 ((doneT ⟨k, p, a, m, s⟩ p (.node l ks)).2 : Nat)]) ∧ Chg X V w') := Lib.hid (DO.out.mono fun e w' ⟨h1, h2⟩ => ⟨by
      rcases h2 with h | h
      · exact h.2
      · exact absurd h.1 hc, by rw [hX]; exact h1⟩)
    have e1 : (((doneT ⟨k, p, a, m, s⟩ p (.node l ks)).2 : Int) != 0) = true := by simp [bne_iff_ne]; omega
    have e2 : (((doneT ⟨k, p, a, m, s⟩ p (.node l ks)).2 : Int) == 0) = false := by simp; omega
    clear hno hc hX DO
    generalize (doneT ⟨k, p, a, m, s⟩ p (.node l ks)).2 = c at *
    go_wp2_with (first
      | (go_at_call 60; (with_reducible refine Calls.mono DO2.out ?_); rintro e w4 ⟨rfl, hch⟩; obtain ⟨hr, hpf⟩ := HR9.out _ hch; obtain ⟨⟨q0, q1, q2, q3⟩, ⟨q4, q5, q6, q7, q8⟩, q9, q10, q11, q12, q13⟩ := HR.out _ (hr.pr (Pr.alloc w4 (.cells #[.int .i64 0, .slice none 0 0, .int .i64 0, .int .i64 0, .string ⟨#[]⟩] 40))); clear hr hch))
    exact bodyPost_ret (v := .tuple #[.agg #[.string ⟨#[]⟩, .slice none 0 0], .agg #[.int .i64 0, .slice none 0 0, .int .i64 0, .int .i64 0, .string ⟨#[]⟩], .int .i64 c]) (by simp [results, Try.results25, go_sem, q0, q1, q4, q5, q6, q7, q8]) rfl (DeedPost.no Hno.out (set5_pr _ _ _ _ _ (((hpf.alloc' _).setCell (by simp; omega) _).setCell (by simp; omega) _) (by omega)))
  have DO2 : Hid (Calls Try.prog 60 #[.pointer (some ⟨w3.heap.size, 0, none⟩), .agg #[.int .i64 k, .slice pa p.length pc, .int .i64 a, .int .i64 m, .string s]] V fun e w' => (∃ bp bc, e = .returned (.tuple #[.agg #[.int .i64 (backD (.node l ks) ⟨k, p, a, m, s⟩).kind, .slice bp (backD (.node l ks) ⟨k, p, a, m, s⟩).path.length bc, .int .i64 (backD (.node l ks) ⟨k, p, a, m, s⟩).pos, .int .i64 (backD (.node l ks) ⟨k, p, a, m, s⟩).many, .string (backD (.node l ks) ⟨k, p, a, m, s⟩).lab], .int .i64 0]) ∧ Ints (From V.heap.size) w' (backD (.node l ks) ⟨k, p, a, m, s⟩).path bp bc ∧
      ∃ l2 ks2 o2 c2, (doneT ⟨k, p, a, m, s⟩ p (.node l ks)).1 = .node l2 ks2 ∧ w'.cell? ⟨w3.heap.size, 0, none⟩ = some (.string l2) ∧ w'.cell? ⟨w3.heap.size, 1, none⟩ = some (.slice o2 ks2.length c2) ∧ l2.size ≤ maxLen ∧ Kids (From w2.heap.size) w' ks2 o2 c2) ∧ Chg X V w') := Lib.hid (DO.out.mono fun e w' ⟨h1, h2⟩ => ⟨by
    rcases h2 with h | h
    · exact absurd hc h.1
    · exact h.2, by rw [hX]; exact h1⟩)
  obtain ⟨r, hr⟩ : ∃ r, r = (doneT ⟨k, p, a, m, s⟩ p (.node l ks)).1 := ⟨_, rfl⟩
  rw [← hr] at DO2
  have hdd : doD (.node l ks) ⟨k, p, a, m, s⟩ = if fault r ≠ 0 then (Tr.zero, Dee.zero, fault r) else (r, backD (.node l ks) ⟨k, p, a, m, s⟩, 0) := by
    unfold doD; rw [if_neg (by simpa using FT.out), if_neg (by simpa using FD.out), if_neg (by simpa using hc), ← hr]
  have Hdd := Lib.hid hdd
  obtain ⟨bd, hbd⟩ : ∃ bd, bd = backD (.node l ks) ⟨k, p, a, m, s⟩ := ⟨_, rfl⟩
  rw [← hbd] at DO2 Hdd
  clear hc hX DO hr hdd hbd
  obtain ⟨k', p', a', m', s'⟩ := bd
  simp only at DO2
  go_upto_region 9 with (first
    | (go_at_call 60; (with_reducible refine Calls.mono DO2.out ?_); rintro e w4 ⟨⟨bp, bc, rfl, hbi, l2, ks2, o2, c2, hre, t0, t1, hl2, hk2⟩, hch⟩))
  obtain ⟨hr, hpf⟩ := HR9.out _ hch
  have hrA := hr.pr (Pr.alloc w4 (.cells #[.int .i64 k', .slice bp p'.length bc, .int .i64 a', .int .i64 m', .string s'] 40))
  obtain ⟨V2, hV2⟩ : ∃ V2, V2 = w4.alloc (.cells #[.int .i64 k', .slice bp p'.length bc, .int .i64 a', .int .i64 m', .string s'] 40) := ⟨_, rfl⟩
  have hp2 : Pr w4 V2 := by rw [hV2]; exact Pr.alloc _ _
  have j0 := stays (show V2.cell? ⟨w4.heap.size, 0, none⟩ = some (.int .i64 k') by rw [hV2]; simp [go_sem])
  have j1 := stays (show V2.cell? ⟨w4.heap.size, 1, none⟩ = some (.slice bp p'.length bc) by rw [hV2]; simp [go_sem])
  have j2 := stays (show V2.cell? ⟨w4.heap.size, 2, none⟩ = some (.int .i64 a') by rw [hV2]; simp [go_sem])
  have j3 := stays (show V2.cell? ⟨w4.heap.size, 3, none⟩ = some (.int .i64 m') by rw [hV2]; simp [go_sem])
  have j4 := stays (show V2.cell? ⟨w4.heap.size, 4, none⟩ = some (.string s') by rw [hV2]; simp [go_sem])
  rw [← hV2] at hrA ⊢
  have t0 := stays (hp2.cell t0); have t1 := stays (hp2.cell t1)
  have hk2 := hk2.pr hp2
  have hbi := Flat.pr hp2 hbi
  have C2 := Lib.hid (fun W' (h : Pr V2 W') => check_any l2 ks2 o2 c2 W' hl2 (hk2.any.pr h))
  have hpf := hpf.trans hp2
  rw [← hre] at C2
  have Hre := Lib.hid hre; have Hrr := Lib.hid hrA; have Hpf := Lib.hid hpf; have Hk2 := Lib.hid hk2; have Hbi := Lib.hid hbi
  have hsz4 : w4.heap.size < V2.heap.size := by rw [hV2]; simp
  have hw34 := hch.size
  have hwz := Hvs.out
  have y0 := t0 _ (Pr.refl _); have y1 := t1 _ (Pr.refl _)
  clear hre hrA hpf hk2 hbi hr hch hp2 hV2 hwz
  by_cases hfr : fault r = 0
  case neg =>
    have Hno := Lib.hid (show doD (.node l ks) ⟨k, p, a, m, s⟩ = (Tr.zero, Dee.zero, fault r) by rw [Hdd.out, if_pos hfr])
    have e1 : ((fault r : Int) != 0) = true := by simp [bne_iff_ne]; omega
    clear hfr
    generalize fault r = c at *
    go_wp2_with (first
      | (go_at_call 29; (with_reducible refine Calls.mono (C2.out _ (Pr.refl _)) ?_); rintro e w5 ⟨rfl, hb⟩; obtain ⟨⟨q0, q1, q2, q3⟩, ⟨q4, q5, q6, q7, q8⟩, q9, q10, q11, q12, q13⟩ := HR.out _ (Hrr.out.pr hb); have hpf := Hpf.out.trans hb; clear hb))
    exact bodyPost_ret (v := .tuple #[.agg #[.string ⟨#[]⟩, .slice none 0 0], .agg #[.int .i64 0, .slice none 0 0, .int .i64 0, .int .i64 0, .string ⟨#[]⟩], .int .i64 c]) (by simp [results, Try.results25, go_sem, q0, q1, q4, q5, q6, q7, q8]) rfl (DeedPost.no Hno.out (set5_pr _ _ _ _ _ ((hpf.setCell (by simp; omega) _).setCell (by simp; omega) _) (by omega)))
  have Hyes := Lib.hid (show doD (.node l ks) ⟨k, p, a, m, s⟩ = (r, ⟨k', p', a', m', s'⟩, 0) by rw [Hdd.out, if_neg (by simpa using hfr)])
  rw [hfr] at C2
  clear hfr
  go_upto_region 13 with (first
    | (go_at_call 29; (with_reducible refine Calls.mono (C2.out _ (Pr.refl _)) ?_); rintro e w5 ⟨rfl, hb⟩; obtain ⟨⟨q0, q1, q2, q3⟩, ⟨q4, q5, q6, q7, q8⟩, q9, q10, q11, q12, q13⟩ := HR.out _ (Hrr.out.pr hb); have hpf := Hpf.out.trans hb; have Hk2 := Lib.hid (Hk2.out.pr hb); have Hbi := Lib.hid (Flat.pr hb Hbi.out); have j0 := j0 _ hb; have j1 := j1 _ hb; have j2 := j2 _ hb; have j3 := j3 _ hb; have j4 := j4 _ hb; have t0 := t0 _ hb; have t1 := t1 _ hb; have hz5 := hb.size; clear hb))
  have hs3 : W.heap.size ≤ w3.heap.size := Nat.le_trans hw2 hutl
  have hs4 := HWs.out
  have hs5 := Hvs.out
  have n0 : w.heap.size + 1 + 1 ≠ w3.heap.size := by omega
  have m0 : w3.heap.size ≠ w.heap.size + 1 + 1 := by omega
  have n1 : w.heap.size + 1 + 1 + 1 ≠ w3.heap.size := by omega
  have m1 : w3.heap.size ≠ w.heap.size + 1 + 1 + 1 := by omega
  have n2 : w.heap.size + 1 + 1 ≠ w4.heap.size := by omega
  have m2 : w4.heap.size ≠ w.heap.size + 1 + 1 := by omega
  have n3 : w.heap.size + 1 + 1 + 1 ≠ w4.heap.size := by omega
  have m3 : w4.heap.size ≠ w.heap.size + 1 + 1 + 1 := by omega
  have hVw := hs5
  clear hs4 hs5
  have HVw := Lib.hid hVw
  clear hVw
  go_region
  all_goals
    go_wp2_with fail
    have hw4 : w.heap.size + 4 ≤ w2.heap.size := by have := HWs.out; omega
    have hw5 : w.heap.size + 4 ≤ V.heap.size := by have := HVw.out; omega
    have hkf : Kids (From w.heap.size) (set5 ((w5.setCell ⟨w.heap.size + 1 + 1, 0, none⟩ (.string l2)).setCell ⟨w.heap.size + 1 + 1, 1, none⟩ (.slice o2 ks2.length c2)) (w.heap.size + 1 + 1 + 1) (.int .i64 k') (.slice bp p'.length bc) (.int .i64 a') (.int .i64 m') (.string s')).drew ks2 o2 c2 :=
      ((((Hk2.out.setCell _ _ (by show ¬ w2.heap.size ≤ w.heap.size + 1 + 1; omega)).setCell _ _ (by show ¬ w2.heap.size ≤ w.heap.size + 1 + 1; omega)).kept (set5_kept _ _ _ _ _ (by show ¬ w2.heap.size ≤ w.heap.size + 1 + 1 + 1; omega))).from (by omega)).pr (Pr.drew _)
    have hif : Ints Any (set5 ((w5.setCell ⟨w.heap.size + 1 + 1, 0, none⟩ (.string l2)).setCell ⟨w.heap.size + 1 + 1, 1, none⟩ (.slice o2 ks2.length c2)) (w.heap.size + 1 + 1 + 1) (.int .i64 k') (.slice bp p'.length bc) (.int .i64 a') (.int .i64 m') (.string s')).drew p' bp bc :=
      Flat.any (Flat.pr (Pr.drew _) (Flat.kept (set5_kept _ _ _ _ _ (by show ¬ V.heap.size ≤ w.heap.size + 1 + 1 + 1; omega)) (Flat.kept (kept_setCell _ _ _ _ (by show ¬ V.heap.size ≤ w.heap.size + 1 + 1; omega)) (Flat.kept (kept_setCell _ _ _ _ (by show ¬ V.heap.size ≤ w.heap.size + 1 + 1; omega)) Hbi.out))))
    exact bodyPost_ret (v := .tuple #[.agg #[.string l2, .slice o2 ks2.length c2], .agg #[.int .i64 k', .slice bp p'.length bc, .int .i64 a', .int .i64 m', .string s'], .int .i64 ((0 : Nat) : Int)]) (by simp [results, Try.results25, go_sem, q0, q1, q4, q5, q6, q7, q8]) rfl
      ⟨l2, ks2, o2, c2, k', p', a', m', s', bp, bc, 0, by rw [Hyes.out, Hre.out], hl2, rfl, hkf, hif, (set5_pr _ _ _ _ _ ((hpf.setCell (by simp; omega) _).setCell (by simp; omega) _) (by omega)).drew'⟩
end Go.Proofs.Ytdbnfhpgmcjngab
