/- Walks: text.Parse. -/
import Derived.Test.YtdbnfhpgmcjngabTc
namespace Go.Proofs.Ytdbnfhpgmcjngab
open Go Go.RowKit

theorem Chg.over {X : Nat → Prop} {w w1 w2 : World} (h : Chg X w1 w2) (hp : Pr w w1) (hX : ∀ k, X k → w.heap.size ≤ k) : Pr w w2 :=
  ((hp.chg X).trans h (fun _ h => .inl h)).to_pr hX
/-- What Parse tells: a tree of its own memory, a fault. -/
def ParsePost (r : Tr × Int × Int) (w : World) (e : Ending) (w' : World) : Prop := ∃ l ks oa cap, r.1 = .node l ks ∧ l.size ≤ maxLen ∧
  e = .returned (.tuple #[.agg #[.string l, .slice oa ks.length cap], .agg #[.int .i64 r.2.1, .int .i64 r.2.2]]) ∧ Kids (From w.heap.size) w' ks oa cap ∧ Pr w w'
theorem ParsePost.no {w w' : World} {r : Tr × Int × Int} {c k : Int} (h : r = (Tr.zero, c, k)) (hp : Pr w w') :
    ParsePost r w (.returned (.tuple #[.agg #[.string ⟨#[]⟩, .slice none 0 0], .agg #[.int .i64 c, .int .i64 k]])) w' := by
  rw [h]; exact ⟨⟨#[]⟩, [], none, 0, rfl, by simp [ByteArray.size], rfl, Kids.nil _ _ _ _ (Nat.zero_le _), hp⟩
theorem parseP_small {l : List UInt8} (h : ¬ 2000 < l.length) : parseP l = match parseT l 0 with
    | .error e => (Tr.zero, (e.1 : Int), (l.length : Int) - e.2.length)
    | .ok x => if skip x.2 ≠ [] then (Tr.zero, 6, (l.length : Int) - (skip x.2).length) else if fault x.1 ≠ 0 then (Tr.zero, (fault x.1 : Int), -1) else (x.1, 0, 0) := by
  unfold parseP; rw [if_neg h]
  cases parseT l 0 <;> rfl
set_option maxRecDepth 100000 in
set_option maxHeartbeats 3200000 in
theorem parse_any (s : ByteArray) (w : World) (hs : s.size ≤ maxLen) :
    Calls Try.prog 20 #[.string s] w (ParsePost (parseP s.data.toList) w) := by
  have hmf : ∀ (fn : Fn) (first cap : Array Value) (w : World), (Instr.makeFunc fn first cap).run Try.prog w = .ok (.func fn first cap) w := fun _ _ _ _ => rfl
  unfold maxLen at hs
  obtain ⟨r, hr⟩ : ∃ r, r = parseP s.data.toList := ⟨_, rfl⟩
  rw [← hr]
  by_cases hbig : 2000 < s.size
  · have hno : r = (Tr.zero, 2, -1) := by rw [hr]; unfold parseP; rw [if_pos (by rw [size_list]; exact hbig)]
    have Hno := Lib.hid hno
    have hb1 : (2000 : Int) < s.size := by omega
    clear hr hno
    go_enter_defers Try.func20, Try.ntmps20
    go_wp2_with fail
    refine ⟨.tuple #[.agg #[.string ⟨#[]⟩, .slice none 0 0], .agg #[.int .i64 2, .int .i64 (-1)]], by simp [results, Try.results20, go_sem], ?_⟩
    refine ParsePost.no Hno.out ?_
    exact (Pr.alloc _ _).alloc' _
  rw [parseP_small (by rw [size_list]; exact hbig), size_list] at hr
  have hfew : s.size ≤ 2000 := by omega
  have hb1 : decide ((2000 : Int) < s.size) = false := by simp; omega
  obtain ⟨W, hW⟩ : ∃ W, W = ((w.alloc (.cells #[.string ⟨#[]⟩, .slice none 0 0] 24)).alloc (.cells #[.int .i64 0, .int .i64 0] 33)).alloc (.cells #[.string s, .int .i64 0] 82) := ⟨_, rfl⟩
  have hwW : Pr w W := by rw [hW]; exact ((Pr.alloc _ _).alloc' _).alloc' _
  have hWs : W.heap.size = w.heap.size + 3 := by rw [hW]; simp
  have hA : W.heap[w.heap.size]? = some (.cells #[.string ⟨#[]⟩, .slice none 0 0] 24 (0, 0)) := by
    rw [hW]; exact ((Pr.alloc _ _).alloc' _).blk (heap_alloc_new _ _)
  have hB : W.heap[w.heap.size + 1]? = some (.cells #[.int .i64 0, .int .i64 0] 33 (0, 0)) := by
    rw [hW]; exact (Pr.alloc _ _).blk (by simpa using heap_alloc_new (w.alloc (.cells #[.string ⟨#[]⟩, .slice none 0 0] 24)) (.cells #[.int .i64 0, .int .i64 0] 33))
  have hM : W.heap[w.heap.size + 1 + 1]? = some (.cells #[.string s, .int .i64 0] 82 (0, 0)) := by
    rw [hW]; simpa using heap_alloc_new ((w.alloc (.cells #[.string ⟨#[]⟩, .slice none 0 0] 24)).alloc (.cells #[.int .i64 0, .int .i64 0] 33)) (.cells #[.string s, .int .i64 0] 82)
  have hP : PRs W (w.heap.size + 1 + 1) s 0 := ⟨hM, Nat.zero_le _, by omega⟩
  have T := ptree_any W (w.heap.size + 1 + 1) s 0 0 (by omega) hP
  rw [show ((0 : Nat) : Int) = 0 from rfl, sl_zero] at T
  have Hr := Lib.hid hr; have HA := Lib.hid hA; have HB := Lib.hid hB; have HW := Lib.hid hwW
  clear hr hA hB hwW hM hP
  generalize parseT s.data.toList 0 = Y at *
  have T1 := Lib.hid T
  clear T
  go_enter_defers Try.func20, Try.ntmps20
  go_upto_region 5 with fail
  rw [← hW]
  clear hW
  rcases Y with q | y
  · go_wp2_with (go_at_call 50; (with_reducible refine Calls.mono T1.out ?_); rintro e w5 hF; have he := hF.1; subst he)
    have hA5 := hF.2.blk HA.out (by omega)
    have hB5 := hF.2.blk HB.out (by omega)
    have hc5 := hF.2
    have hr : r = (Tr.zero, (q.1 : Int), (s.size : Int) - (q.2.length : Int)) := Hr.out
    refine leaves_cons (f := 49) (args := #[.pointer (some ⟨w.heap.size, 0, none⟩), .pointer (some ⟨w.heap.size + 1, 0, none⟩)]) (by simp) (by simp [go_sem]) ?_
    refine (pcatch_fail _ _ _ _ [] w5 _ _ _ _ hA5 hB5 (by omega)).mono ?_
    rintro e u' w'' ⟨rfl, rfl, ⟨x0, x1, x2, x3⟩, hc6⟩
    show ∃ v, (results Try.f20 _).run Try.prog _ = .ok v _ ∧ ParsePost r w (.returned v) _
    refine ⟨.tuple #[.agg #[.string ⟨#[]⟩, .slice none 0 0], .agg #[.int .i64 q.1, .int .i64 ((s.size : Int) - (q.2.length : Int))]], by simp [results, Try.results20, go_sem, x0, x1, x2, x3], ParsePost.no hr ?_⟩
    exact Chg.over hc6 (Chg.over hc5 HW.out (fun k hk => by omega)) (fun k hk => by omega)
  · obtain ⟨t, rest⟩ := y
    have hr : r = if skip rest ≠ [] then (Tr.zero, 6, (s.size : Int) - (skip rest).length) else if fault t ≠ 0 then (Tr.zero, (fault t : Int), -1) else (t, 0, 0) := Hr.out
    have H2 := Lib.hid hr
    clear Hr hr
    go_upto_region 6 with (go_at_call 50; (with_reducible refine Calls.mono T1.out ?_); rintro e w5 ⟨l, ks, oa, cap, k5, het, hl5, hsz5, rfl, hk5, hk5s, hP5, hc5⟩
                           have hA5 := hc5.blk HA.out (by omega); have hB5 := hc5.blk HB.out (by omega); have s00 := blk_frozen (o := 0) hA5; have s01 := blk_frozen (o := 1) hA5; have s10 := blk_cell (o := 0) hA5; have s11 := blk_cell (o := 1) hA5)
    subst het
    obtain ⟨w6, hw6⟩ : ∃ w6, w6 = (w5.setCell ⟨w.heap.size, 0, none⟩ (.string l)).setCell ⟨w.heap.size, 1, none⟩ (.slice oa ks.length cap) := ⟨_, rfl⟩
    have hA6 : w6.heap[w.heap.size]? = some (.cells #[.string l, .slice oa ks.length cap] 24 (0, 0)) := by rw [hw6]; exact blk_set (o := 1) (blk_set (o := 0) hA5 _) _
    have hB6 : w6.heap[w.heap.size + 1]? = some (.cells #[.int .i64 0, .int .i64 0] 33 (0, 0)) := by
      rw [hw6, Below.heap_setCell _ _ _ _ (by simp), Below.heap_setCell _ _ _ _ (by simp)]; exact hB5
    have hP6 : PRs w6 (w.heap.size + 1 + 1) s k5 := by
      rw [hw6]; exact (hP5.chg ((Chg.refl (fun j => j = w.heap.size) w5).setCell _ _ (.inl rfl)) (by omega)).chg ((Chg.refl (fun j => j = w.heap.size) _).setCell _ _ (.inl rfl)) (by omega)
    have hp6 : Pr w w6 := by rw [hw6]; exact ((Chg.over hc5 HW.out (fun k hk => by omega)).setCell (by simp) _).setCell (by simp) _
    have hk6 : Kids (From W.heap.size) w6 ks oa cap := by
      rw [hw6]; exact (hk5.setCell _ _ (by show ¬ W.heap.size ≤ _; simp; omega)).setCell _ _ (by show ¬ W.heap.size ≤ _; simp; omega)
    have hs6 : w.heap.size + 3 ≤ w6.heap.size := by have := hc5.size; rw [hw6]; simp [World.setCell]; omega
    rw [← hw6]
    have B7 := Lib.hid (pblanks_any w6 (w.heap.size + 1 + 1) s k5 hP6)
    have HA6 := Lib.hid hA6; have HB6 := Lib.hid hB6; have Hp6 := Lib.hid hp6; have Hk6 := Lib.hid hk6; have Hk5s := Lib.hid hk5s; have Hl5 := Lib.hid hl5
    clear hw6 hA5 hB5 s00 s01 s10 s11 hk5 hP5 hc5 hA6 hB6 hP6 hp6 hk6 hk5s hl5 hsz5 T1
    go_upto_region 7 with (go_at_call 51; (with_reducible refine Calls.mono B7.out ?_); rintro e w7 ⟨rfl, k7, hk7, hP7, hc7⟩)
    have hA7 := hc7.blk HA6.out (by omega)
    have hB7 := hc7.blk HB6.out (by omega)
    have hp7 : Pr w w7 := Chg.over hc7 Hp6.out (fun k hk => by omega)
    have hk7k : Kids (From W.heap.size) w7 ks oa cap := Hk6.out.carry fun j hj hl => ⟨hc7.block j hl (by have hj' : W.heap.size ≤ j := hj; omega), hj⟩
    have hle7 := hP7.le
    have c71 := hP7.c1
    rw [show sl s k5 = rest from Hk5s.out] at hk7
    have hsz7 := hc7.size
    have hl7 := sl_length s k7
    by_cases hend : k7 = s.size
    · have hsk : skip rest = [] := by rw [← hk7, sl_end (by omega)]
      have hr : r = if fault (.node l ks) ≠ 0 then (Tr.zero, (fault (.node l ks) : Int), -1) else (.node l ks, 0, 0) := by rw [H2.out, if_neg (by simp [hsk])]
      have e0 : decide ((k7 : Int) < (s.size : Int)) = false := by simp; omega
      have e00 : decide (k7 < s.size) = false := by simp; omega
      have a0 : w7.cell? ⟨w.heap.size, 0, none⟩ = some (.string l) := blk_cell hA7
      have a1 : w7.cell? ⟨w.heap.size, 1, none⟩ = some (.slice oa ks.length cap) := blk_cell hA7
      have hcc := fun W' (h : Pr w7 W') => check_any l ks oa cap W' Hl5.out (hk7k.any.pr h)
      obtain ⟨n, hn⟩ : ∃ n, n = fault (.node l ks) := ⟨_, rfl⟩
      rw [← hn] at hcc hr
      have C7 := Lib.hid hcc
      have HA7 := Lib.hid hA7; have HB7 := Lib.hid hB7; have Hp7 := Lib.hid hp7; have Hk7 := Lib.hid hk7k; have Hr := Lib.hid hr
      clear hA7 hB7 hp7 hk7k hr hcc hn hsk hk7 hc7 H2
      by_cases hz : n = 0
      · have e1 : ((n : Int) != 0) = false := by simp [hz]
        have hr : r = (.node l ks, 0, 0) := by rw [Hr.out, if_neg (by simpa using hz)]
        have Hr2 := Lib.hid hr
        clear hz hr Hr
        go_wp2_with (go_at_call 29; (with_reducible refine Calls.mono (C7.out _ (Pr.refl _)) ?_); rintro e w8 ⟨rfl, hb8⟩; have hA8 := Lib.hid (hb8.blk HA7.out); have hB8 := Lib.hid (hb8.blk HB7.out)
                     have s00 := blk_frozen (o := 0) hA8.out; have s01 := blk_frozen (o := 1) hA8.out; have s10 := blk_cell (o := 0) hA8.out; have s11 := blk_cell (o := 1) hA8.out
                     have t00 := blk_frozen (o := 0) hB8.out; have t01 := blk_frozen (o := 1) hB8.out; have t10 := blk_cell (o := 0) hB8.out; have t11 := blk_cell (o := 1) hB8.out)
        obtain ⟨x0, x1⟩ := catch_blocks hA8.out hB8.out (by omega) (.string l) (.slice oa ks.length cap) (.int .i64 0) (.int .i64 0)
        obtain ⟨wz, hwz⟩ : ∃ wz, wz = (((w8.setCell ⟨w.heap.size, 0, none⟩ (.string l)).setCell ⟨w.heap.size, 1, none⟩ (.slice oa ks.length cap)).setCell ⟨w.heap.size + 1, 0, none⟩ (.int .i64 0)).setCell ⟨w.heap.size + 1, 1, none⟩ (.int .i64 0) := ⟨_, rfl⟩
        have y0 : wz.cell? ⟨w.heap.size, 0, none⟩ = some (.string l) := by rw [hwz]; exact blk_cell (o := 0) x0
        have y1 : wz.cell? ⟨w.heap.size, 1, none⟩ = some (.slice oa ks.length cap) := by rw [hwz]; exact blk_cell (o := 1) x0
        have y2 : wz.cell? ⟨w.heap.size + 1, 0, none⟩ = some (.int .i64 0) := by rw [hwz]; exact blk_cell (o := 0) x1
        have y3 : wz.cell? ⟨w.heap.size + 1, 1, none⟩ = some (.int .i64 0) := by rw [hwz]; exact blk_cell (o := 1) x1
        have hpz : Pr w wz := by rw [hwz]; exact ((((Hp7.out.trans hb8).setCell (by simp) _).setCell (by simp) _).setCell (by simp) _).setCell (by simp) _
        have hk8 : Kids (From W.heap.size) wz ks oa cap := by
          rw [hwz]; exact ((((Hk7.out.pr hb8).setCell _ _ (by show ¬ W.heap.size ≤ _; simp; omega)).setCell _ _ (by show ¬ W.heap.size ≤ _; simp; omega)).setCell _ _ (by show ¬ W.heap.size ≤ _; simp; omega)).setCell _ _ (by show ¬ W.heap.size ≤ _; simp; omega)
        rw [← hwz]
        clear hwz
        refine leaves_cons (f := 49) (args := #[.pointer (some ⟨w.heap.size, 0, none⟩), .pointer (some ⟨w.heap.size + 1, 0, none⟩)]) (by simp) (by simp [go_sem]) ?_
        refine (pcatch_idle _ _ _).mono ?_
        rintro e u' w'' ⟨rfl, rfl, rfl⟩
        show ∃ v, (results Try.f20 _).run Try.prog _ = .ok v _ ∧ ParsePost r w (.returned v) _
        refine ⟨.tuple #[.agg #[.string l, .slice oa ks.length cap], .agg #[.int .i64 0, .int .i64 0]], by simp [results, Try.results20, go_sem, y0, y1, y2, y3], ?_⟩
        rw [Hr2.out]
        exact ⟨l, ks, oa, cap, rfl, Hl5.out, rfl, hk8.from (by omega), hpz⟩
      · have e1 : ((n : Int) != 0) = true := by simp [bne_iff_ne]; omega
        have hr : r = (Tr.zero, (n : Int), -1) := by rw [Hr.out, if_pos hz]
        have Hr2 := Lib.hid hr
        clear hz hr Hr
        go_wp2_with (go_at_call 29; (with_reducible refine Calls.mono (C7.out _ (Pr.refl _)) ?_); rintro e w8 ⟨rfl, hb8⟩; have hA8 := Lib.hid (hb8.blk HA7.out); have hB8 := Lib.hid (hb8.blk HB7.out)
                     have s00 := blk_frozen (o := 0) hA8.out; have s01 := blk_frozen (o := 1) hA8.out; have s10 := blk_cell (o := 0) hA8.out; have s11 := blk_cell (o := 1) hA8.out
                     have t00 := blk_frozen (o := 0) hB8.out; have t01 := blk_frozen (o := 1) hB8.out; have t10 := blk_cell (o := 0) hB8.out; have t11 := blk_cell (o := 1) hB8.out)
        obtain ⟨x0, x1⟩ := catch_blocks hA8.out hB8.out (by omega) (.string ⟨#[]⟩) (.slice none 0 0) (.int .i64 n) (.int .i64 (-1))
        obtain ⟨wz, hwz⟩ : ∃ wz, wz = (((w8.setCell ⟨w.heap.size, 0, none⟩ (.string ⟨#[]⟩)).setCell ⟨w.heap.size, 1, none⟩ (.slice none 0 0)).setCell ⟨w.heap.size + 1, 0, none⟩ (.int .i64 n)).setCell ⟨w.heap.size + 1, 1, none⟩ (.int .i64 (-1)) := ⟨_, rfl⟩
        have y0 : wz.cell? ⟨w.heap.size, 0, none⟩ = some (.string ⟨#[]⟩) := by rw [hwz]; exact blk_cell (o := 0) x0
        have y1 : wz.cell? ⟨w.heap.size, 1, none⟩ = some (.slice none 0 0) := by rw [hwz]; exact blk_cell (o := 1) x0
        have y2 : wz.cell? ⟨w.heap.size + 1, 0, none⟩ = some (.int .i64 n) := by rw [hwz]; exact blk_cell (o := 0) x1
        have y3 : wz.cell? ⟨w.heap.size + 1, 1, none⟩ = some (.int .i64 (-1)) := by rw [hwz]; exact blk_cell (o := 1) x1
        have hpz : Pr w wz := by rw [hwz]; exact ((((Hp7.out.trans hb8).setCell (by simp) _).setCell (by simp) _).setCell (by simp) _).setCell (by simp) _
        rw [← hwz]
        clear hwz
        refine leaves_cons (f := 49) (args := #[.pointer (some ⟨w.heap.size, 0, none⟩), .pointer (some ⟨w.heap.size + 1, 0, none⟩)]) (by simp) (by simp [go_sem]) ?_
        refine (pcatch_idle _ _ _).mono ?_
        rintro e u' w'' ⟨rfl, rfl, rfl⟩
        show ∃ v, (results Try.f20 _).run Try.prog _ = .ok v _ ∧ ParsePost r w (.returned v) _
        refine ⟨.tuple #[.agg #[.string ⟨#[]⟩, .slice none 0 0], .agg #[.int .i64 n, .int .i64 (-1)]], by simp [results, Try.results20, go_sem, y0, y1, y2, y3], ?_⟩
        exact ParsePost.no Hr2.out hpz
    · have hne : skip rest ≠ [] := by rw [← hk7, sl_cons (by omega)]; simp
      have hr : r = (Tr.zero, 6, (s.size : Int) - (skip rest).length) := by rw [H2.out, if_pos hne]
      have e0 : decide ((k7 : Int) < (s.size : Int)) = true := by simp; omega
      have e00 : decide (k7 < s.size) = true := by simp; omega
      have F := pfail_any w7 (w.heap.size + 1 + 1) s k7 6 hP7
      rw [hk7] at F
      have HF := Lib.hid F; have HA7 := Lib.hid hA7; have HB7 := Lib.hid hB7; have Hp7 := Lib.hid hp7; have Hr := Lib.hid hr
      clear hA7 hB7 hp7 hk7k hr hne hk7 hc7 H2 F hP7
      go_wp2_with (go_at_call 52; (with_reducible refine Calls.mono HF.out ?_); rintro e w8 hF; have he := hF.1; subst he)
      have hA8 := hF.2.blk HA7.out (by omega)
      have hB8 := hF.2.blk HB7.out (by omega)
      have hc8 := hF.2
      refine leaves_cons (f := 49) (args := #[.pointer (some ⟨w.heap.size, 0, none⟩), .pointer (some ⟨w.heap.size + 1, 0, none⟩)]) (by simp) (by simp [go_sem]) ?_
      refine (pcatch_fail _ _ _ _ [] w8 _ _ _ _ hA8 hB8 (by omega)).mono ?_
      rintro e u' w'' ⟨rfl, rfl, ⟨x0, x1, x2, x3⟩, hc9⟩
      show ∃ v, (results Try.f20 _).run Try.prog _ = .ok v _ ∧ ParsePost r w (.returned v) _
      refine ⟨.tuple #[.agg #[.string ⟨#[]⟩, .slice none 0 0], .agg #[.int .i64 6, .int .i64 ((s.size : Int) - ((skip rest).length : Int))]], by simp [results, Try.results20, go_sem, x0, x1, x2, x3], ParsePost.no Hr.out ?_⟩
      exact Chg.over hc9 (Chg.over hc8 Hp7.out (fun k hk => by omega)) (fun k hk => by omega)
end Go.Proofs.Ytdbnfhpgmcjngab
