/- The law DeedDoes: its walk. -/
import Derived.Test.YtdbnfhpgmcjngabVf
import Derived.Test.YtdbnfhpgmcjngabEl
import Derived.Test.YtdbnfhpgmcjngabAf
namespace Go.Proofs.Ytdbnfhpgmcjngab
open Go Go.RowKit

/-- The document's Do, where it is known what it makes. -/
theorem rdo_is (l : ByteArray) (ks : List Tr) (oa cap) (k : Int) (p : List Int) (a m : Int) (s : ByteArray) (pa pc) (w : World) (hl : l.size ≤ maxLen) (hk : Kids Any w ks oa cap) (hs : s.size ≤ maxLen) (hp : Ints Any w p pa pc) (hpl : p.length ≤ 100000)
    (l2 : ByteArray) (ks2 : List Tr) (k2 : Int) (p2 : List Int) (a2 m2 : Int) (s2 : ByteArray) (c : Nat) (h : doD (.node l ks) ⟨k, p, a, m, s⟩ = (.node l2 ks2, ⟨k2, p2, a2, m2, s2⟩, c)) :
    Calls Try.prog 31 #[.agg #[.string l, .slice oa ks.length cap], .agg #[.int .i64 k, .slice pa p.length pc, .int .i64 a, .int .i64 m, .string s]] w fun e w' =>
      (∃ oa cap bp bc, (e = .returned (.tuple #[.agg #[.string l2, .slice oa ks2.length cap], .agg #[.int .i64 k2, .slice bp p2.length bc, .int .i64 a2, .int .i64 m2, .string s2], .int .i64 (c : Nat)]) ∧ Kids Any w' ks2 oa cap ∧ Ints Any w' p2 bp bc) ∧ Pr w w') := by
  refine (rdo_any l ks oa cap k p a m s pa pc w hl hk hs hp hpl).mono ?_
  rintro e w' ⟨l', ks', oa', cap', k', p', a', m', s', bp, bc, c', hd, hl', rfl, hk2, hi2, hp⟩
  have hd2 := hd.symm.trans h
  simp only [Prod.mk.injEq, Tr.node.injEq, Dee.mk.injEq] at hd2
  obtain ⟨⟨rfl, rfl⟩, ⟨rfl, rfl, rfl, rfl, rfl⟩, rfl⟩ := hd2
  exact ⟨oa', cap', bp, bc, ⟨rfl, hk2, hi2⟩, hp⟩

set_option maxRecDepth 100000 in
set_option maxHeartbeats 6400000 in
theorem deedDoes_walk (l : ByteArray) (ks : List Tr) (oa cap) (d : Dee) (pa pc) (e : Dee) (qa qc) (w : World) (hl : l.size ≤ maxLen) (hk : Kids Any w ks oa cap) (hp : Ints Any w d.path pa pc) (hs : d.lab.size ≤ maxLen) (hq : Ints Any w e.path qa qc) (_hu : e.lab.size ≤ maxLen) :
    Calls Try.prog 8 #[.agg #[.string l, .slice oa ks.length cap], .agg #[.int .i64 d.kind, .slice pa d.path.length pc, .int .i64 d.pos, .int .i64 d.many, .string d.lab], .agg #[.int .i64 e.kind, .slice qa e.path.length qc, .int .i64 e.pos, .int .i64 e.many, .string e.lab]] w fun e w' => e = .returned (.bool true) ∧ Pr w w' := by
  obtain ⟨k, p, a, m, s⟩ := d
  obtain ⟨k', p', a', m', s'⟩ := e
  simp only at hp hs hq ⊢
  clear _hu
  obtain ⟨W, hW⟩ : ∃ W, W = ((w.alloc (.cells #[.string l, .slice oa ks.length cap] 24)).alloc (.cells #[.int .i64 k, .slice pa p.length pc, .int .i64 a, .int .i64 m, .string s] 40)).alloc (.cells #[.int .i64 k', .slice qa p'.length qc, .int .i64 a', .int .i64 m', .string s'] 40) := ⟨_, rfl⟩
  have hwW : Pr w W := by rw [hW]; exact ((Pr.alloc _ _).alloc' _).alloc' _
  have s0 := stays (show W.cell? ⟨w.heap.size, 0, none⟩ = some (.string l) by rw [hW]; simp [go_sem])
  have s1 := stays (show W.cell? ⟨w.heap.size, 1, none⟩ = some (.slice oa ks.length cap) by rw [hW]; simp [go_sem])
  have d0 := stays (show W.cell? ⟨w.heap.size + 1, 0, none⟩ = some (.int .i64 k) by rw [hW]; simp [go_sem])
  have d1 := stays (show W.cell? ⟨w.heap.size + 1, 1, none⟩ = some (.slice pa p.length pc) by rw [hW]; simp [go_sem])
  have d2 := stays (show W.cell? ⟨w.heap.size + 1, 2, none⟩ = some (.int .i64 a) by rw [hW]; simp [go_sem])
  have d3 := stays (show W.cell? ⟨w.heap.size + 1, 3, none⟩ = some (.int .i64 m) by rw [hW]; simp [go_sem])
  have d4 := stays (show W.cell? ⟨w.heap.size + 1, 4, none⟩ = some (.string s) by rw [hW]; simp [go_sem])
  have f0 := stays (show W.cell? ⟨w.heap.size + 1 + 1, 0, none⟩ = some (.int .i64 k') by rw [hW]; simp [go_sem])
  have f1 := stays (show W.cell? ⟨w.heap.size + 1 + 1, 1, none⟩ = some (.slice qa p'.length qc) by rw [hW]; simp [go_sem])
  have f2 := stays (show W.cell? ⟨w.heap.size + 1 + 1, 2, none⟩ = some (.int .i64 a') by rw [hW]; simp [go_sem])
  have f3 := stays (show W.cell? ⟨w.heap.size + 1 + 1, 3, none⟩ = some (.int .i64 m') by rw [hW]; simp [go_sem])
  have f4 := stays (show W.cell? ⟨w.heap.size + 1 + 1, 4, none⟩ = some (.string s') by rw [hW]; simp [go_sem])
  have hk := hk.pr hwW
  have hp := Flat.pr hwW hp
  have hq := Flat.pr hwW hq
  obtain ⟨ga, hga⟩ : ∃ b, b = great (.node l ks) := ⟨_, rfl⟩
  obtain ⟨gb, hgb⟩ : ∃ b, b = greatD p s := ⟨_, rfl⟩
  obtain ⟨gc, hgc⟩ : ∃ b, b = greatD p' s' := ⟨_, rfl⟩
  obtain ⟨n9, hn9⟩ : ∃ n, n = dfault ⟨k, p, a, m, s⟩ := ⟨_, rfl⟩
  obtain ⟨b9, hb9⟩ : ∃ b, b = decide ((⟨k, p, a, m, s⟩ : Dee) = ⟨k', p', a', m', s'⟩) := ⟨_, rfl⟩
  obtain ⟨l2, ks2, k2, p2, a2, m2, s2, c2, hdo⟩ : ∃ l2 ks2 k2 p2 a2 m2 s2 c2, doD (.node l ks) ⟨k, p, a, m, s⟩ = (.node l2 ks2, ⟨k2, p2, a2, m2, s2⟩, c2) := by
    obtain ⟨⟨l2, ks2⟩, ⟨k2, p2, a2, m2, s2⟩, c2⟩ := doD (.node l ks) ⟨k, p, a, m, s⟩
    exact ⟨l2, ks2, k2, p2, a2, m2, s2, c2, rfl⟩
  have G1 : Hid (∀ W', Pr W W' → Calls Try.prog 15 #[.agg #[.string l, .slice oa ks.length cap]] W' fun e w' => e = .returned (.bool ga) ∧ Pr W' w') := Lib.hid fun W' h => by rw [hga]; exact great_any l ks _ _ _ (hk.pr h)
  have G2 : Hid (∀ W', Pr W W' → Calls Try.prog 24 #[.agg #[.int .i64 k, .slice pa p.length pc, .int .i64 a, .int .i64 m, .string s]] W' fun e w' => e = .returned (.bool gb) ∧ Pr W' w') := Lib.hid fun W' h => by rw [hgb]; exact greatDeed_any k p a m s pa pc W' (Flat.pr h hp)
  have G3 : Hid (∀ W', Pr W W' → Calls Try.prog 24 #[.agg #[.int .i64 k', .slice qa p'.length qc, .int .i64 a', .int .i64 m', .string s']] W' fun e w' => e = .returned (.bool gc) ∧ Pr W' w') := Lib.hid fun W' h => by rw [hgc]; exact greatDeed_any k' p' a' m' s' qa qc W' (Flat.pr h hq)
  have O1 : Hid (ga = false → ∀ W', Pr W W' → Calls Try.prog 16 #[.agg #[.string l, .slice oa ks.length cap]] W' (OwnPost W' l ks)) := Lib.hid fun hg W' h => rown_any l ks _ _ _ (by have := great_sz (hga ▸ hg); omega) (hk.pr h)
  have DO : Hid (p.length ≤ 100000 → ∀ W' oa cap, Pr W W' → Kids Any W' ks oa cap → Calls Try.prog 25 #[.agg #[.string l, .slice oa ks.length cap], .agg #[.int .i64 k, .slice pa p.length pc, .int .i64 a, .int .i64 m, .string s]] W' fun e w' => (∃ oa cap bp bc, (e = .returned (.tuple #[.agg #[.string l2, .slice oa ks2.length cap], .agg #[.int .i64 k2, .slice bp p2.length bc, .int .i64 a2, .int .i64 m2, .string s2], .int .i64 c2]) ∧ Kids Any w' ks2 oa cap ∧ Ints Any w' p2 bp bc) ∧ Pr W' w')) := Lib.hid fun hpl W' oa cap h hk => by
    refine (deedDo_is l ks oa cap k p a m s pa pc W' hl hk hs (Flat.pr h hp) hpl l2 ks2 k2 p2 a2 m2 s2 c2 hdo).mono ?_
    rintro e w' ⟨⟨⟨oa, cap, bp, bc, h1, h2, h3⟩, _⟩, h4⟩
    exact ⟨oa, cap, bp, bc, ⟨h1, h2, h3⟩, h4⟩
  have RDO : Hid (p.length ≤ 100000 → ∀ W', Pr W W' → Calls Try.prog 31 #[.agg #[.string l, .slice oa ks.length cap], .agg #[.int .i64 k, .slice pa p.length pc, .int .i64 a, .int .i64 m, .string s]] W' fun e w' => (∃ oa cap bp bc, (e = .returned (.tuple #[.agg #[.string l2, .slice oa ks2.length cap], .agg #[.int .i64 k2, .slice bp p2.length bc, .int .i64 a2, .int .i64 m2, .string s2], .int .i64 c2]) ∧ Kids Any w' ks2 oa cap ∧ Ints Any w' p2 bp bc) ∧ Pr W' w')) := Lib.hid fun hpl W' h =>
    rdo_is l ks oa cap k p a m s pa pc W' hl (hk.pr h) hs (Flat.pr h hp) hpl l2 ks2 k2 p2 a2 m2 s2 c2 hdo
  have C1 : Hid (∀ W', Pr W W' → Calls Try.prog 27 #[.agg #[.int .i64 k, .slice pa p.length pc, .int .i64 a, .int .i64 m, .string s]] W' fun e w' => e = .returned (.int .i64 n9) ∧ Pr W' w') := Lib.hid fun W' h => by rw [hn9]; exact dcheck_any k p a m s pa pc W' hs (Flat.pr h hp)
  have C2 : Hid (∀ W', Pr W W' → Calls Try.prog 32 #[.agg #[.int .i64 k, .slice pa p.length pc, .int .i64 a, .int .i64 m, .string s]] W' fun e w' => e = .returned (.int .i64 n9) ∧ Pr W' w') := Lib.hid fun W' h => by rw [hn9]; exact dfault_any k p a m s pa pc W' hs (Flat.pr h hp)
  have C3 : Hid (∀ W', Pr W W' → Calls Try.prog 33 #[.agg #[.int .i64 k, .slice pa p.length pc, .int .i64 a, .int .i64 m, .string s], .agg #[.int .i64 k', .slice qa p'.length qc, .int .i64 a', .int .i64 m', .string s']] W' fun e w' => e = .returned (.bool b9) ∧ Pr W' w') := Lib.hid fun W' h => by rw [hb9]; exact psameDeed_any k p a m s pa pc k' p' a' m' s' qa qc W' (Flat.pr h hp) (Flat.pr h hq)
  have C4 : Hid (∀ W', Pr W W' → Calls Try.prog 26 #[.agg #[.int .i64 k, .slice pa p.length pc, .int .i64 a, .int .i64 m, .string s], .agg #[.int .i64 k', .slice qa p'.length qc, .int .i64 a', .int .i64 m', .string s']] W' fun e w' => e = .returned (.bool b9) ∧ Pr W' w') := Lib.hid fun W' h => by rw [hb9]; exact rsameDeed_any k p a m s pa pc k' p' a' m' s' qa qc W' (Flat.pr h hp) (Flat.pr h hq)
  have C7 : Hid (∀ W' oa' cap', Pr W W' → Kids Any W' ks oa' cap' → Calls Try.prog 22 #[.agg #[.string l, .slice oa' ks.length cap'], .agg #[.string l, .slice oa ks.length cap]] W' fun e w' => e = .returned (.bool true) ∧ Pr W' w') := Lib.hid fun W' oa' cap' h hk' => by
    have := sameTree_any l l ks ks oa' cap' oa cap W' hk' (hk.pr h)
    rw [Tr.beq_self] at this; exact this
  have HG := Lib.hid hgb; have HW := Lib.hid hwW
  clear hga hgb hgc hn9 hb9 hdo hk hp hq hwW hl hs
  go_enter Try.func8, Try.ntmps8
  go_upto_region 1 with fail
  rw [← hW]; clear hW
  go_upto_region 3 with (go_at_call 23; refine (deedBegun_any _).mono ?_; rintro e w1 ⟨rfl, hp⟩)
  have x0 := s0 _ hp; have x1 := s1 _ hp; have y0 := d0 _ hp; have y1 := d1 _ hp; have y2 := d2 _ hp; have y3 := d3 _ hp; have y4 := d4 _ hp; have z0 := f0 _ hp; have z1 := f1 _ hp; have z2 := f2 _ hp; have z3 := f3 _ hp; have z4 := f4 _ hp
  cases ga
  case true =>
    go_wp2_with (first
    | (go_at_call 15; (with_reducible refine Calls.mono (G1.out _ hp) ?_); rintro e w2 ⟨rfl, hb⟩; have hp := hp.trans hb; have x0 := s0 _ hp; have x1 := s1 _ hp; have y0 := d0 _ hp; have y1 := d1 _ hp; have y2 := d2 _ hp; have y3 := d3 _ hp; have y4 := d4 _ hp; have z0 := f0 _ hp; have z1 := f1 _ hp; have z2 := f2 _ hp; have z3 := f3 _ hp; have z4 := f4 _ hp)
    | (go_at_call 24; (with_reducible refine Calls.mono (G2.out _ hp) ?_); rintro e w3 ⟨rfl, hb⟩; have hp := hp.trans hb; have x0 := s0 _ hp; have x1 := s1 _ hp; have y0 := d0 _ hp; have y1 := d1 _ hp; have y2 := d2 _ hp; have y3 := d3 _ hp; have y4 := d4 _ hp; have z0 := f0 _ hp; have z1 := f1 _ hp; have z2 := f2 _ hp; have z3 := f3 _ hp; have z4 := f4 _ hp)
    | (go_at_call 24; (with_reducible refine Calls.mono (G3.out _ hp) ?_); rintro e w4 ⟨rfl, hb⟩; have hp := hp.trans hb; have x0 := s0 _ hp; have x1 := s1 _ hp; have y0 := d0 _ hp; have y1 := d1 _ hp; have y2 := d2 _ hp; have y3 := d3 _ hp; have y4 := d4 _ hp; have z0 := f0 _ hp; have z1 := f1 _ hp; have z2 := f2 _ hp; have z3 := f3 _ hp; have z4 := f4 _ hp))
    go_ret
    exact ⟨rfl, HW.out.trans hp⟩
  case false =>
  cases gb
  case true =>
    go_wp2_with (first
    | (go_at_call 15; (with_reducible refine Calls.mono (G1.out _ hp) ?_); rintro e w2 ⟨rfl, hb⟩; have hp := hp.trans hb; have x0 := s0 _ hp; have x1 := s1 _ hp; have y0 := d0 _ hp; have y1 := d1 _ hp; have y2 := d2 _ hp; have y3 := d3 _ hp; have y4 := d4 _ hp; have z0 := f0 _ hp; have z1 := f1 _ hp; have z2 := f2 _ hp; have z3 := f3 _ hp; have z4 := f4 _ hp)
    | (go_at_call 24; (with_reducible refine Calls.mono (G2.out _ hp) ?_); rintro e w3 ⟨rfl, hb⟩; have hp := hp.trans hb; have x0 := s0 _ hp; have x1 := s1 _ hp; have y0 := d0 _ hp; have y1 := d1 _ hp; have y2 := d2 _ hp; have y3 := d3 _ hp; have y4 := d4 _ hp; have z0 := f0 _ hp; have z1 := f1 _ hp; have z2 := f2 _ hp; have z3 := f3 _ hp; have z4 := f4 _ hp)
    | (go_at_call 24; (with_reducible refine Calls.mono (G3.out _ hp) ?_); rintro e w4 ⟨rfl, hb⟩; have hp := hp.trans hb; have x0 := s0 _ hp; have x1 := s1 _ hp; have y0 := d0 _ hp; have y1 := d1 _ hp; have y2 := d2 _ hp; have y3 := d3 _ hp; have y4 := d4 _ hp; have z0 := f0 _ hp; have z1 := f1 _ hp; have z2 := f2 _ hp; have z3 := f3 _ hp; have z4 := f4 _ hp))
    go_ret
    exact ⟨rfl, HW.out.trans hp⟩
  case false =>
  cases gc
  case true =>
    go_wp2_with (first
    | (go_at_call 15; (with_reducible refine Calls.mono (G1.out _ hp) ?_); rintro e w2 ⟨rfl, hb⟩; have hp := hp.trans hb; have x0 := s0 _ hp; have x1 := s1 _ hp; have y0 := d0 _ hp; have y1 := d1 _ hp; have y2 := d2 _ hp; have y3 := d3 _ hp; have y4 := d4 _ hp; have z0 := f0 _ hp; have z1 := f1 _ hp; have z2 := f2 _ hp; have z3 := f3 _ hp; have z4 := f4 _ hp)
    | (go_at_call 24; (with_reducible refine Calls.mono (G2.out _ hp) ?_); rintro e w3 ⟨rfl, hb⟩; have hp := hp.trans hb; have x0 := s0 _ hp; have x1 := s1 _ hp; have y0 := d0 _ hp; have y1 := d1 _ hp; have y2 := d2 _ hp; have y3 := d3 _ hp; have y4 := d4 _ hp; have z0 := f0 _ hp; have z1 := f1 _ hp; have z2 := f2 _ hp; have z3 := f3 _ hp; have z4 := f4 _ hp)
    | (go_at_call 24; (with_reducible refine Calls.mono (G3.out _ hp) ?_); rintro e w4 ⟨rfl, hb⟩; have hp := hp.trans hb; have x0 := s0 _ hp; have x1 := s1 _ hp; have y0 := d0 _ hp; have y1 := d1 _ hp; have y2 := d2 _ hp; have y3 := d3 _ hp; have y4 := d4 _ hp; have z0 := f0 _ hp; have z1 := f1 _ hp; have z2 := f2 _ hp; have z3 := f3 _ hp; have z4 := f4 _ hp))
    go_ret
    exact ⟨rfl, HW.out.trans hp⟩
  case false =>
  have hpl : p.length ≤ 100000 := by have := greatD_false HG.out.symm; omega
  have O2 := Lib.hid (O1.out rfl); have DO2 := Lib.hid (DO.out hpl); have RDO2 := Lib.hid (RDO.out hpl)
  clear O1 DO RDO hpl
  go_upto_region 6 with (first
    | (go_at_call 15; (with_reducible refine Calls.mono (G1.out _ hp) ?_); rintro e w2 ⟨rfl, hb⟩; have hp := hp.trans hb; have x0 := s0 _ hp; have x1 := s1 _ hp; have y0 := d0 _ hp; have y1 := d1 _ hp; have y2 := d2 _ hp; have y3 := d3 _ hp; have y4 := d4 _ hp; have z0 := f0 _ hp; have z1 := f1 _ hp; have z2 := f2 _ hp; have z3 := f3 _ hp; have z4 := f4 _ hp)
    | (go_at_call 24; (with_reducible refine Calls.mono (G2.out _ hp) ?_); rintro e w3 ⟨rfl, hb⟩; have hp := hp.trans hb; have x0 := s0 _ hp; have x1 := s1 _ hp; have y0 := d0 _ hp; have y1 := d1 _ hp; have y2 := d2 _ hp; have y3 := d3 _ hp; have y4 := d4 _ hp; have z0 := f0 _ hp; have z1 := f1 _ hp; have z2 := f2 _ hp; have z3 := f3 _ hp; have z4 := f4 _ hp)
    | (go_at_call 24; (with_reducible refine Calls.mono (G3.out _ hp) ?_); rintro e w4 ⟨rfl, hb⟩; have hp := hp.trans hb; have x0 := s0 _ hp; have x1 := s1 _ hp; have y0 := d0 _ hp; have y1 := d1 _ hp; have y2 := d2 _ hp; have y3 := d3 _ hp; have y4 := d4 _ hp; have z0 := f0 _ hp; have z1 := f1 _ hp; have z2 := f2 _ hp; have z3 := f3 _ hp; have z4 := f4 _ hp)
    | (go_at_call 16; (with_reducible refine Calls.mono (O2.out _ hp) ?_); rintro e w5 ⟨oa5, ca5, rfl, hk5, hb⟩; have hp := hp.trans hb))
  obtain ⟨V5, hV5⟩ : ∃ V, V = w5.alloc (.cells #[.string l, .slice oa5 ks.length ca5] 24) := ⟨_, rfl⟩
  have hwV : Pr w5 V5 := by rw [hV5]; exact Pr.alloc _ _
  have o0 := stays (show V5.cell? ⟨w5.heap.size, 0, none⟩ = some (.string l) by rw [hV5]; simp [go_sem])
  have o1 := stays (show V5.cell? ⟨w5.heap.size, 1, none⟩ = some (.slice oa5 ks.length ca5) by rw [hV5]; simp [go_sem])
  rw [← hV5]
  have HK5 := Lib.hid (hk5.any.pr hwV); have HP5 := Lib.hid (hp.trans hwV)
  have o10 := o0 _ (Pr.refl _); have o11 := o1 _ (Pr.refl _)
  clear hV5 hwV hk5 hp x0 x1 y0 y1 y2 y3 y4 z0 z1 z2 z3 z4
  have y0 := d0 _ HP5.out; have y1 := d1 _ HP5.out; have y2 := d2 _ HP5.out; have y3 := d3 _ HP5.out; have y4 := d4 _ HP5.out
  go_upto_region 7 with (go_at_call 25; (with_reducible refine Calls.mono (DO2.out _ _ _ HP5.out HK5.out) ?_); rintro e w6 ⟨oa6, ca6, bp6, bc6, ⟨rfl, hk6, hi6⟩, hb6⟩)
  obtain ⟨V6, hV6⟩ : ∃ V, V = (w6.alloc (.cells #[.string l2, .slice oa6 ks2.length ca6] 24)).alloc (.cells #[.int .i64 k2, .slice bp6 p2.length bc6, .int .i64 a2, .int .i64 m2, .string s2] 40) := ⟨_, rfl⟩
  have hwV : Pr w6 V6 := by rw [hV6]; exact (Pr.alloc _ _).alloc' _
  have g0 := stays (show V6.cell? ⟨w6.heap.size, 0, none⟩ = some (.string l2) by rw [hV6]; simp [go_sem])
  have g1 := stays (show V6.cell? ⟨w6.heap.size, 1, none⟩ = some (.slice oa6 ks2.length ca6) by rw [hV6]; simp [go_sem])
  have h0 := stays (show V6.cell? ⟨w6.heap.size + 1, 0, none⟩ = some (.int .i64 k2) by rw [hV6]; simp [go_sem])
  have h1 := stays (show V6.cell? ⟨w6.heap.size + 1, 1, none⟩ = some (.slice bp6 p2.length bc6) by rw [hV6]; simp [go_sem])
  have h2 := stays (show V6.cell? ⟨w6.heap.size + 1, 2, none⟩ = some (.int .i64 a2) by rw [hV6]; simp [go_sem])
  have h3 := stays (show V6.cell? ⟨w6.heap.size + 1, 3, none⟩ = some (.int .i64 m2) by rw [hV6]; simp [go_sem])
  have h4 := stays (show V6.cell? ⟨w6.heap.size + 1, 4, none⟩ = some (.string s2) by rw [hV6]; simp [go_sem])
  rw [← hV6]
  have HK6 := Lib.hid (hk6.pr hwV); have HI6 := Lib.hid (Flat.pr hwV hi6); have HP56 := Lib.hid (hb6.trans hwV)
  have HP6 := Lib.hid (HP5.out.trans HP56.out)
  clear hV6 hwV hk6 hi6 hb6 o10 o11 y0 y1 y2 y3 y4 DO2
  have y0 := d0 _ HP6.out; have y1 := d1 _ HP6.out; have y2 := d2 _ HP6.out; have y3 := d3 _ HP6.out; have y4 := d4 _ HP6.out; have x0 := s0 _ HP6.out; have x1 := s1 _ HP6.out
  go_upto_region 8 with (go_at_call 31; (with_reducible refine Calls.mono (RDO2.out _ HP6.out) ?_); rintro e w7 ⟨oa7, ca7, bp7, bc7, ⟨rfl, hk7, hi7⟩, hb7⟩)
  obtain ⟨V7, hV7⟩ : ∃ V, V = (w7.alloc (.cells #[.string l2, .slice oa7 ks2.length ca7] 24)).alloc (.cells #[.int .i64 k2, .slice bp7 p2.length bc7, .int .i64 a2, .int .i64 m2, .string s2] 40) := ⟨_, rfl⟩
  have hwV : Pr w7 V7 := by rw [hV7]; exact (Pr.alloc _ _).alloc' _
  have i0 := stays (show V7.cell? ⟨w7.heap.size, 0, none⟩ = some (.string l2) by rw [hV7]; simp [go_sem])
  have i1 := stays (show V7.cell? ⟨w7.heap.size, 1, none⟩ = some (.slice oa7 ks2.length ca7) by rw [hV7]; simp [go_sem])
  have j0 := stays (show V7.cell? ⟨w7.heap.size + 1, 0, none⟩ = some (.int .i64 k2) by rw [hV7]; simp [go_sem])
  have j1 := stays (show V7.cell? ⟨w7.heap.size + 1, 1, none⟩ = some (.slice bp7 p2.length bc7) by rw [hV7]; simp [go_sem])
  have j2 := stays (show V7.cell? ⟨w7.heap.size + 1, 2, none⟩ = some (.int .i64 a2) by rw [hV7]; simp [go_sem])
  have j3 := stays (show V7.cell? ⟨w7.heap.size + 1, 3, none⟩ = some (.int .i64 m2) by rw [hV7]; simp [go_sem])
  have j4 := stays (show V7.cell? ⟨w7.heap.size + 1, 4, none⟩ = some (.string s2) by rw [hV7]; simp [go_sem])
  rw [← hV7]
  have hk7 := hk7.pr hwV; have hi7 := Flat.pr hwV hi7; have hq6 := hb7.trans hwV
  have hq := HP6.out.trans hq6
  have hk6 := HK6.out.pr hq6; have hi6 := Flat.pr hq6 HI6.out
  have hq5 := HP56.out.trans hq6
  have hk5 := HK5.out.pr hq5
  clear x0 x1 y0 y1 y2 y3 y4
  have A1 := Lib.hid (After.call fun W' (h : Pr V7 W') => C1.out W' (hq.trans h))
  have A2 := Lib.hid (After.call fun W' (h : Pr V7 W') => C2.out W' (hq.trans h))
  have A3 := Lib.hid (After.call fun W' (h : Pr V7 W') => C3.out W' (hq.trans h))
  have A4 := Lib.hid (After.call fun W' (h : Pr V7 W') => C4.out W' (hq.trans h))
  have A5 := Lib.hid (After.call fun W' (h : Pr V7 W') => (show Calls Try.prog 22 #[.agg #[.string l2, .slice oa6 ks2.length ca6], .agg #[.string l2, .slice oa7 ks2.length ca7]] W' fun e w' => e = .returned (.bool true) ∧ Pr W' w' by
    have := sameTree_any l2 l2 ks2 ks2 oa6 ca6 oa7 ca7 W' (hk6.pr h) (hk7.pr h)
    rw [Tr.beq_self] at this; exact this))
  have A6 := Lib.hid (After.call fun W' (h : Pr V7 W') => (show Calls Try.prog 26 #[.agg #[.int .i64 k2, .slice bp6 p2.length bc6, .int .i64 a2, .int .i64 m2, .string s2], .agg #[.int .i64 k2, .slice bp7 p2.length bc7, .int .i64 a2, .int .i64 m2, .string s2]] W' fun e w' => e = .returned (.bool true) ∧ Pr W' w' by
    have := rsameDeed_any k2 p2 a2 m2 s2 bp6 bc6 k2 p2 a2 m2 s2 bp7 bc7 W' (Flat.pr h hi6) (Flat.pr h hi7)
    simpa using this))
  have A7 := Lib.hid (After.call fun W' (h : Pr V7 W') => C7.out W' _ _ (hq.trans h) (hk5.pr h))
  have x0 := After.cell (s0 V7 hq); have x1 := After.cell (s1 V7 hq)
  have y0 := After.cell (d0 V7 hq); have y1 := After.cell (d1 V7 hq); have y2 := After.cell (d2 V7 hq); have y3 := After.cell (d3 V7 hq); have y4 := After.cell (d4 V7 hq)
  have z0 := After.cell (f0 V7 hq); have z1 := After.cell (f1 V7 hq); have z2 := After.cell (f2 V7 hq); have z3 := After.cell (f3 V7 hq); have z4 := After.cell (f4 V7 hq)
  have u0 := After.cell (o0 V7 hq5); have u1 := After.cell (o1 V7 hq5)
  have v0 := After.cell (g0 V7 hq6); have v1 := After.cell (g1 V7 hq6)
  have t0 := After.cell (h0 V7 hq6); have t1 := After.cell (h1 V7 hq6); have t2 := After.cell (h2 V7 hq6); have t3 := After.cell (h3 V7 hq6); have t4 := After.cell (h4 V7 hq6)
  have r0 := After.cell (i0 V7 (Pr.refl _)); have r1 := After.cell (i1 V7 (Pr.refl _))
  have q0 := After.cell (j0 V7 (Pr.refl _)); have q1 := After.cell (j1 V7 (Pr.refl _)); have q2 := After.cell (j2 V7 (Pr.refl _)); have q3 := After.cell (j3 V7 (Pr.refl _)); have q4 := After.cell (j4 V7 (Pr.refl _))
  have Hq := Lib.hid (HW.out.trans hq)
  clear hq hq5 hq6 hk5 hk6 hk7 hi6 hi7 hV7 hwV hb7 C1 C2 C3 C4 C7 G1 G2 G3 O2 RDO2 HK5 HK6 HI6 HP5 HP56 HP6 HG HW hb s0 s1 d0 d1 d2 d3 d4 f0 f1 f2 f3 f4 o0 o1 g0 g1 h0 h1 h2 h3 h4 i0 i1 j0 j1 j2 j3 j4
  refine wp_region_after (by kernel_rfl) (by kernel_rfl) ?_
  repeat (go_big_quiet_step (first
    | (go_at_call 27; exact A1.out _)
    | (go_at_call 32; exact A2.out _)
    | (go_at_call 33; exact A3.out _)
    | (go_at_call 26; with_reducible exact A4.out _)
    | (go_at_call 22; with_reducible exact A5.out _)
    | (go_at_call 26; with_reducible exact A6.out _)
    | (go_at_call 22; with_reducible exact A7.out _)))
  refine wpQuiet_nil ?_
  rintro _ ⟨⟨w9, hq⟩, rfl⟩
  go_wp2_with fail
  go_ret
  exact ⟨rfl, Hq.out.trans hq⟩
end Go.Proofs.Ytdbnfhpgmcjngab
