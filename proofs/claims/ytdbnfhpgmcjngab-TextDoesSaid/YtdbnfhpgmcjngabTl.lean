/- Walks: the document's reading of a tree. -/
import Derived.Test.YtdbnfhpgmcjngabTk
namespace Go.Proofs.Ytdbnfhpgmcjngab
open Go Go.RowKit

/-- What was read, and where it stands. -/
def RtOk (s : ByteArray) (t : Tr) (k : Nat) (c p : Int) (x : Rd (Tr × List UInt8)) : Prop :=
  match x with
  | .error q => c = (q.1 : Int) ∧ p = (s.size : Int) - (q.2.length : Int) ∧ q.1 ≠ 0
  | .ok y => y.1 = t ∧ c = 0 ∧ p = 0 ∧ sl s k = y.2 ∧ t.sz + y.2.length ≤ 1000000
def RTPost (M : Nat) (s : ByteArray) (x : Rd (Tr × List UInt8)) (w : World) (e : Ending) (w' : World) : Prop :=
  ∃ l ks oa cap k c p, e = .returned (.agg #[.string l, .slice oa ks.length cap]) ∧ l.size ≤ maxLen ∧ Kids (From w.heap.size) w' ks oa cap ∧ RDs w' M s k c p ∧ Chg (fun j => j = M) w w' ∧ RtOk s (.node l ks) k c p x
def rdLeft (s : ByteArray) (wr : World) (M : Nat) : Nat := if intOf ((wr.cell? ⟨M, 2, none⟩).getD (.bool false)) = 0 then s.size + 1 - placeOf wr M else 0
theorem RDs.left {w : World} {M : Nat} {s : ByteArray} {k : Nat} {c p : Int} (h : RDs w M s k c p) : rdLeft s w M = if c = 0 then s.size + 1 - k else 0 := by
  unfold rdLeft; rw [h.c2, h.place]; by_cases hc : c = 0 <;> simp [intOf, hc]
theorem read_code : ∀ (N : Nat) (s : List UInt8) (d : Nat), (∀ e, readT N s d = .error e → 2 * s.length + 1 ≤ N → e.1 ≠ 0) ∧ (∀ e, readK N s d = .error e → 2 * s.length + 2 ≤ N → e.1 ≠ 0) := by
  intro N
  induction N with
  | zero => intro s d; exact ⟨fun e _ h => by omega, fun e _ h => by omega⟩
  | succ N ih =>
    intro s d
    constructor
    · intro e hE hN
      rw [readT] at hE
      split at hE
      · cases hE; simp
      · split at hE
        · cases hE; simp only []; split <;> simp
        · rename_i hb
          have hl := behind_length hb
          split at hE
          · rename_i hh
            have : 0 < (behind s).length := by cases he : behind s with
              | nil => rw [he] at hh; cases hh
              | cons => simp
            split at hE
            · rename_i e2 he2
              cases hE
              exact (ih (behind s).tail d).2 _ he2 (by rw [List.length_tail]; omega)
            · cases hE
          · cases hE
    · intro e hE hN
      rw [readK] at hE
      split at hE
      · rename_i e2 he2
        cases hE
        exact (ih s (d + 1)).1 _ he2 (by omega)
      · rename_i y hy
        have h1 := (read_short N s (d + 1)).1 y hy
        have h2 := skip_length y.2
        split at hE
        · cases hE
        · split at hE
          · rename_i e2 he2
            cases hE
            exact (ih (skip y.2) d).2 _ he2 (by omega)
          · cases hE
theorem parseT_code {s : List UInt8} {d : Nat} {e : Nat × List UInt8} (h : parseT s d = .error e) : e.1 ≠ 0 := (read_code _ s d).1 e h (Nat.le_refl _)
set_option maxRecDepth 100000 in
set_option maxHeartbeats 6400000 in
theorem rtree_step (N : Nat) : ∀ (w : World) (M : Nat) (s : ByteArray) (k d : Nat), (sl s k).length < N → d ≤ 11 → RD w M s k →
    Calls Try.prog 54 #[.pointer (some ⟨M, 0, none⟩), .int .i64 (d : Int)] w (RTPost M s (parseT (sl s k) d) w) := by
  induction N with
  | zero => intro w M s k d hN; omega
  | succ N ih =>
    intro w M s k d hN hd hP
    have Ih := Lib.hid ih
    clear ih
    have hfew := hP.few
    have hkle := hP.le
    have hslk := sl_length s k
    have hMw : M < w.heap.size := blk_lt hP.blk
    obtain ⟨X, hX⟩ : ∃ X, X = parseT (sl s k) d := ⟨_, rfl⟩
    have heq := parseT_eq (sl s k) d
    rw [← hX] at heq ⊢
    clear hX
    obtain ⟨W, hW⟩ : ∃ W, W = (w.alloc (.cells #[.string ⟨#[]⟩, .slice none 0 0] 24)).alloc (.cells #[.string ⟨#[]⟩, .slice none 0 0] 24) := ⟨_, rfl⟩
    have hwW : Pr w W := by rw [hW]; exact (Pr.alloc _ _).alloc' _
    have hWs : W.heap.size = w.heap.size + 2 := by rw [hW]; simp
    have hR : W.heap[w.heap.size]? = some (.cells #[.string ⟨#[]⟩, .slice none 0 0] 24 (0, 0)) := by rw [hW]; exact (Pr.alloc _ _).blk (heap_alloc_new w _)
    have hT : W.heap[w.heap.size + 1]? = some (.cells #[.string ⟨#[]⟩, .slice none 0 0] 24 (0, 0)) := by
      rw [hW]; simpa using heap_alloc_new (w.alloc (.cells #[.string ⟨#[]⟩, .slice none 0 0] 24)) (.cells #[.string ⟨#[]⟩, .slice none 0 0] 24)
    have HP := Lib.hid (hP.pr hwW); have HR := Lib.hid hR; have HT := Lib.hid hT; have HW := Lib.hid hwW
    -- what is told where it stopped with no label
    have hstop : ∀ (w9 : World) (k9 : Nat) (c9 p9 : Int), RDs w9 M s k9 c9 p9 → Chg (fun j => j = M ∨ j = w.heap.size + 1) W w9 → (∃ q, X = .error q ∧ c9 = (q.1 : Int) ∧ p9 = (s.size : Int) - (q.2.length : Int) ∧ q.1 ≠ 0) →
        RTPost M s X w (.returned (.agg #[.string ⟨#[]⟩, .slice none 0 0])) ((w9.setCell ⟨w.heap.size, 0, none⟩ (.string ⟨#[]⟩)).setCell ⟨w.heap.size, 1, none⟩ (.slice none 0 0)) := fun w9 k9 c9 p9 h9 hc9 ⟨q, hx, h1, h2, h3⟩ => by
      refine ⟨⟨#[]⟩, [], none, 0, k9, c9, p9, rfl, by simp [ByteArray.size], Kids.nil _ _ _ _ (Nat.zero_le _), (h9.chg ((Chg.refl (fun j => j = w.heap.size) w9).setCell _ _ (.inl rfl)) (by omega)).chg ((Chg.refl (fun j => j = w.heap.size) _).setCell _ _ (.inl rfl)) (by omega), ?_, ?_⟩
      · exact ((((HW.out.chg (fun j => j = M)).trans hc9 (fun j h => h.imp id (fun e => by omega))).setCell _ _ (.inr (Nat.le_refl _))).setCell _ _ (.inr (Nat.le_refl _)))
      · rw [hx]; exact ⟨h1, h2, h3⟩
    have Hstop := Lib.hid hstop
    clear hR hT hP hwW hstop
    by_cases hdeep : 10 < d
    · rw [if_pos hdeep] at heq
      have F := Lib.hid (rwrong_first W M s k 3 HP.out)
      have H := Lib.hid heq
      have hd1 : (10 : Int) < d := by omega
      clear heq
      go_enter Try.func54, Try.ntmps54
      go_upto_region 2 with fail
      rw [← hW]; clear hW
      go_upto_region 4 with (go_at_call 56; (with_reducible refine Calls.mono F.out ?_); rintro e w1 ⟨rfl, hP1, hc1⟩)
      have B1 := Lib.hid (rblanks_later w1 M s k 3 (k : Int) hP1 (by decide))
      have HC1 := Lib.hid hc1
      have HR1 := Lib.hid (hc1.blk HR.out (by omega)); have HT1 := Lib.hid (hc1.blk HT.out (by omega)); have HP1 := Lib.hid hP1
      clear hP1 hc1
      go_wp2_with (go_at_call 55; (with_reducible refine Calls.mono B1.out ?_); rintro e w2 ⟨rfl, hp2⟩)
      go_loopw [12] (fun _ wr => Pr w1 wr) (fun _ _ => 0)
      case atStart => exact hp2
      case round =>
        have c2 := (HP1.out.pr hrel).c2
        go_upto_region 5 with fail
        go_quiet (fail)
        obtain ⟨wq, hwq⟩ : ∃ wq, wq = wr.drewN nq := ⟨_, rfl⟩
        have hrq : Pr w1 wq := by rw [hwq]; exact hrel.drewN' _
        rw [← hwq]
        clear hwq c2 hrel hp2
        obtain ⟨wr, rfl⟩ : ∃ wr, wr = wq := ⟨_, rfl⟩
        have HS := Lib.hid (HP1.out.pr hrq); have HNE : Hid ((3 : Int) ≠ 0) := Lib.hid (by decide)
        have HR9 := Lib.hid (hrq.blk HR1.out); have HT9 := Lib.hid (hrq.blk HT1.out); have HC9 := Lib.hid (((Chg.refl (fun j => j = M ∨ j = w.heap.size + 1) W).trans HC1.out (fun _ h => .inl (.inl h))).pr hrq)
        have HQ9 : Hid (∃ q : Nat × List UInt8, X = .error q ∧ (3 : Int) = (q.1 : Int) ∧ (k : Int) = (s.size : Int) - (q.2.length : Int) ∧ q.1 ≠ 0) := Lib.hid ⟨(3, sl s k), H.out, rfl, by show (k : Int) = (s.size : Int) - ((sl s k).length : Int); omega, by show (3 : Nat) ≠ 0; decide⟩
        have hP9 := HS.out
        have b1 := stays (show wr.cell? ⟨M, 1, none⟩ = some (.int .i64 (k : Int)) from hP9.c1)
        have b0 := stays (show wr.cell? ⟨M, 0, none⟩ = some (.string s) from hP9.c0)
        have WL := Lib.hid fun (c' : Int) (W' : World) (h : Pr wr W') => rwrong_later W' M s k 3 c' (k : Int) (hP9.pr h) HNE.out
        have IL := Lib.hid fun (z : Int) (W' : World) (h : Pr wr W') => ris_later W' M s k 3 (k : Int) z (hP9.pr h) HNE.out
        have t0 := stays (blk_cell (o := 0) HT9.out); have t1 := stays (blk_cell (o := 1) HT9.out)
        have r0 := stays (blk_cell (o := 0) HR9.out); have r1 := stays (blk_cell (o := 1) HR9.out)
        have hp := Pr.refl wr
        have x0 := t0 _ hp
        clear hP9
        go_upto_region 9 with fail
        have x1 := b1 _ hp; have x2 := b0 _ hp
        by_cases hz : k = s.size
        case pos =>
          have e9 : ((k : Int) == (s.size : Int)) = true := by simp [hz]
          clear hz
          go_quiet (fail)
          have hp := Pr.drewN wr nq
          go_wp2_with (first
            | (go_at_call 56; (with_reducible refine Calls.mono (WL.out _ _ hp) ?_); rintro e w7 ⟨rfl, hb⟩; have hp := hp.trans hb)
            | (go_at_call 79; (with_reducible refine Calls.mono (IL.out _ _ hp) ?_); rintro e w8 ⟨rfl, hb⟩; have hp := hp.trans hb; have y0 := t0 _ hp; have y1 := t1 _ hp; have z0 := r0 _ hp; have z1 := r1 _ hp; have f0 := blk_frozen (o := 0) (hp.blk HR9.out); have f1 := blk_frozen (o := 1) (hp.blk HR9.out)))
          refine bodyPost_ret (v := .agg #[.string ⟨#[]⟩, .slice none 0 0]) (by simp [results, Try.results54, go_sem, z0, z1]) rfl ?_
          exact Hstop.out _ _ _ _ (HS.out.pr hp) (HC9.out.pr hp) HQ9.out
        case neg =>
          have e9 : ((k : Int) == (s.size : Int)) = false := by simp; omega
          clear hz
          go_quiet (fail)
          have hp := Pr.drewN wr nq
          go_wp2_with (first
            | (go_at_call 56; (with_reducible refine Calls.mono (WL.out _ _ hp) ?_); rintro e w7 ⟨rfl, hb⟩; have hp := hp.trans hb)
            | (go_at_call 79; (with_reducible refine Calls.mono (IL.out _ _ hp) ?_); rintro e w8 ⟨rfl, hb⟩; have hp := hp.trans hb; have y0 := t0 _ hp; have y1 := t1 _ hp; have z0 := r0 _ hp; have z1 := r1 _ hp; have f0 := blk_frozen (o := 0) (hp.blk HR9.out); have f1 := blk_frozen (o := 1) (hp.blk HR9.out)))
          refine bodyPost_ret (v := .agg #[.string ⟨#[]⟩, .slice none 0 0]) (by simp [results, Try.results54, go_sem, z0, z1]) rfl ?_
          exact Hstop.out _ _ _ _ (HS.out.pr hp) (HC9.out.pr hp) HQ9.out
    · rw [if_neg hdeep] at heq
      have hd1 : decide ((10 : Int) < d) = false := by simp; omega
      have hd10 : d ≤ 10 := by omega
      have B1 := Lib.hid (rblanks_any W M s k HP.out)
      have Heq := Lib.hid heq
      clear heq hdeep
      go_enter Try.func54, Try.ntmps54
      go_upto_region 2 with fail
      rw [← hW]; clear hW
      go_upto_block 0 with (go_at_call 55; (with_reducible refine Calls.mono B1.out ?_); rintro e w2 ⟨rfl, k1, hk1, hP1, hc1⟩)
      have HR1 := Lib.hid (hc1.blk HR.out (by omega)); have HT1 := Lib.hid (hc1.blk HT.out (by omega)); have HP1 := Lib.hid hP1
      have HC1 := Lib.hid hc1; have Hk1 := Lib.hid hk1
      have hs2 := hc1.size
      have hle1 := hP1.le
      clear hP1 hc1 hk1 B1 HR HT HP
      go_cut [12] from 12 to 78 (fun _ wx => ∃ (n : Nat) (b : ByteArray), b.data.toList = (sl s k1).takeWhile okC ∧ sl s n = (sl s k1).dropWhile okC ∧ RD wx M s n ∧ wx.heap[w.heap.size + 1]? = some (.cells #[.string b, .slice none 0 0] 24 (0, 0)) ∧ Chg (fun j => j = M ∨ j = w.heap.size + 1) w2 wx)
      case first =>
        go_wp2_with fail
        go_loopw [12] (fun _ wr => ∃ (n : Nat) (b : ByteArray), b.data.toList ++ (sl s n).takeWhile okC = (sl s k1).takeWhile okC ∧ (sl s n).dropWhile okC = (sl s k1).dropWhile okC ∧ RD wr M s n ∧ wr.heap[w.heap.size + 1]? = some (.cells #[.string b, .slice none 0 0] 24 (0, 0)) ∧ Chg (fun j => j = M ∨ j = w.heap.size + 1) w2 wr) (fun _ wr => s.size - placeOf wr M)
        case atStart => exact ⟨k1, ⟨#[]⟩, by simp, rfl, HP1.out, HT1.out, Chg.refl _ _⟩
        case round =>
          obtain ⟨n, b, hb, hdw, hPr, hTr, hcr⟩ := hrel
          have c0 := hPr.c0; have c1 := hPr.c1; have c2 := hPr.c2; have f1 := hPr.f1; have t0 := blk_cell (o := 0) hTr; have g0 := blk_frozen (o := 0) hTr
          have hle := hPr.le
          have hpl := hPr.place
          have hbs : b.size ≤ 100000 := by
            have h1 := congrArg List.length hb
            have h2 : ((sl s k1).takeWhile okC).length ≤ (sl s k1).length := by have := takeDrop_length okC (sl s k1); omega
            rw [List.length_append, size_list] at h1
            have := sl_length s k1; omega
          have Hpl := Lib.hid hpl; have HPr := Lib.hid hPr; have HTr := Lib.hid hTr; have HCr := Lib.hid hcr
          clear hpl hPr hTr hcr
          have hTM : M ≠ w.heap.size + 1 := by omega
          have stop : (sl s n).takeWhile okC = [] → ∀ nq, ∃ (n : Nat) (b : ByteArray), b.data.toList = (sl s k1).takeWhile okC ∧ sl s n = (sl s k1).dropWhile okC ∧ RD (wr.drewN nq) M s n ∧ (wr.drewN nq).heap[w.heap.size + 1]? = some (.cells #[.string b, .slice none 0 0] 24 (0, 0)) ∧ Chg (fun j => j = M ∨ j = w.heap.size + 1) w2 (wr.drewN nq) := fun h nq => by
            refine ⟨n, b, by rw [← hb, h, List.append_nil], ?_, HPr.out.pr (Pr.drewN _ _), HTr.out, HCr.out.drewN _⟩
            rw [← hdw]
            have := List.takeWhile_append_dropWhile (p := okC) (l := sl s n)
            rw [h, List.nil_append] at this; exact this.symm
          have Hstop2 := Lib.hid stop
          clear stop
          by_cases hlt : n < s.size
          · have hl1 : (n : Int) < s.size := by omega
            have hl0 : (0 : Int) ≤ (n : Int) := by omega
            have hcons := sl_cons hlt
            have hiff := okC_iff s[n]
            have hex : s.extract n (n + 1) = ⟨#[s[n]]⟩ := by rw [extract_list, hcons]; simp
            cases hok : okC s[n]
            case true =>
              rw [hok] at hiff
              obtain ⟨g1, g2⟩ := hiff.1 rfl
              have d1 : decide ((97 : Int) ≤ (s[n].toNat : Int)) = true := by simpa using g1
              have d2 : decide ((s[n].toNat : Int) ≤ 122) = true := by simpa using g2
              have hnew : (b ++ s.extract n (n + 1)).data.toList ++ (sl s (n + 1)).takeWhile okC = (sl s k1).takeWhile okC ∧ (sl s (n + 1)).dropWhile okC = (sl s k1).dropWhile okC := by
                rw [hcons, List.takeWhile_cons, if_pos hok] at hb
                rw [hcons, List.dropWhile_cons, if_pos hok] at hdw
                refine ⟨?_, hdw⟩
                rw [ba_list, hex, ← hb]; simp
              have Hnew := Lib.hid hnew
              have hexs : (s.extract n (n + 1)).size = 1 := by rw [hex]; rfl
              have l1 : (n : Int) + 1 ≤ s.size := by omega
              have l2 : (n : Int) ≤ (n : Int) + 1 := by omega
              clear hnew hiff hok hcons g1 g2 hb hdw hex
              go_upto_region 5 with fail
              go_quiet (fail)
              go_upto_region 6 with fail
              have u1 : IntKind.i64.wrap ((n : Int) + 1) = (n : Int) + 1 := IntWalk.i64_in _ (by omega)
              have u2 : ((n : Int) + 1).toNat = n + 1 := by omega
              refine wp_region_quiet_tail 18 (by kernel_rfl) (by kernel_rfl) ?_
              simp only [List.take_succ_cons, List.take_zero, List.drop_succ_cons, List.drop_zero]
              repeat (go_big_quiet_step (fail))
              refine wpQuiet_nil ?_
              rintro _ ⟨nq2, rfl⟩
              clear u1 u2
              have c1a : ((wr.drewN nq).drewN nq2).cell? ⟨M, 1, none⟩ = some (.int .i64 (n : Int)) := c1
              have f1a : ((wr.drewN nq).drewN nq2).frozen? ⟨M, 1, none⟩ = false := f1
              have g0a : ((wr.drewN nq).drewN nq2).frozen? ⟨w.heap.size + 1, 0, none⟩ = false := g0
              have t0a : ((wr.drewN nq).drewN nq2).cell? ⟨w.heap.size + 1, 0, none⟩ = some (.string b) := t0
              obtain ⟨wq, hwq⟩ : ∃ wq, wq = (wr.drewN nq).drewN nq2 := ⟨_, rfl⟩
              have hrq : Pr wr wq := by rw [hwq]; exact (Pr.drewN _ _).drewN' _
              rw [← hwq] at c1a f1a g0a t0a ⊢
              have Hrq := Lib.hid hrq
              have hTM2 : w.heap.size + 1 ≠ M := by omega
              clear hwq c0 c1 c2 f1 t0 g0 hrq
              go_wp2_with fail
              have hRD : RD ((wq.setCell ⟨w.heap.size + 1, 0, none⟩ (.string (b ++ s.extract n (n + 1)))).setCell ⟨M, 1, none⟩ (.int .i64 ((n + 1 : Nat) : Int))) M s (n + 1) :=
                ((HPr.out.pr Hrq.out).chg ((Chg.refl (fun j => j = w.heap.size + 1) wq).setCell ⟨w.heap.size + 1, 0, none⟩ _ (.inl rfl)) hTM).set (k' := n + 1) (by omega)
              refine ⟨⟨n + 1, _, Hnew.out.1, Hnew.out.2, hRD, ?_, ((HCr.out.pr Hrq.out).setCell _ _ (.inl (.inr rfl))).setCell _ _ (.inl (.inl rfl))⟩, ?_⟩
              · rw [Below.heap_setCell _ _ _ _ hTM2]; exact blk_set (o := 0) (Hrq.out.blk HTr.out) _
              · have := hRD.place
                rw [Hpl.out]
                simp only [Int.natCast_add, Int.cast_ofNat_Int] at this
                rw [this]; omega
            case false =>
              have hst : (sl s n).takeWhile okC = [] := by rw [hcons, List.takeWhile_cons, if_neg (by simp [hok])]
              rw [hok] at hiff
              have Hst := Lib.hid hst
              by_cases h97 : (97 : Int) ≤ (s[n].toNat : Int)
              · have d1 : decide ((97 : Int) ≤ (s[n].toNat : Int)) = true := by simpa using h97
                have d2 : decide ((s[n].toNat : Int) ≤ 122) = false := by
                  simp only [decide_eq_false_iff_not]; intro h9; have := hiff.2 ⟨h97, h9⟩; cases this
                clear hst hiff hok h97 hcons hex hb hdw
                go_upto_region 5 with fail
                go_quiet (fail)
                go_wp2_with fail
                go_meet
                case rel => exact Hstop2.out Hst.out _
              · have d1 : decide ((97 : Int) ≤ (s[n].toNat : Int)) = false := by simpa using h97
                clear hst hiff hok h97 hcons hex hb hdw
                go_upto_region 5 with fail
                go_quiet (fail)
                go_wp2_with fail
                go_meet
                case rel => exact Hstop2.out Hst.out _
          · have hl1 : decide ((n : Int) < s.size) = false := by simp; omega
            have hl2 : decide (n < s.size) = false := by simp; omega
            have Hst := Lib.hid (show (sl s n).takeWhile okC = [] by rw [sl_end (by omega)]; rfl)
            clear hb hdw
            go_upto_region 5 with fail
            go_quiet (fail)
            go_wp2_with fail
            go_meet
            case rel => exact Hstop2.out Hst.out _
      case rest =>
        obtain ⟨n, b, hb, hdw, hPc, hTc, hcc⟩ := hcut
        obtain ⟨wr, hwr⟩ : ∃ wr, wr = wc := ⟨_, rfl⟩
        subst hwr
        have hRc := hcc.blk HR1.out (by omega)
        have hcW : Chg (fun j => j = M ∨ j = w.heap.size + 1) W wr := ((Chg.refl (fun j => j = M ∨ j = w.heap.size + 1) W).trans HC1.out (fun _ h => .inl (.inl h))).trans hcc (fun _ h => .inl h)
        have b1 := hPc.c1; have b0 := hPc.c0
        have HPC := Lib.hid hPc; have HTC := Lib.hid hTc; have HRC := Lib.hid hRc; have HCW := Lib.hid hcW
        have x0 : wr.cell? ⟨w.heap.size + 1, 0, none⟩ = some (.string b) := blk_cell hTc
        have hlen := hPc.le
        have hsr := hcW.size
        clear hPc hTc hRc hcW hcc HP1 HT1
        by_cases ht : (skip (sl s k)).takeWhile okC = []
        · have he := Heq.out
          rw [if_pos ht] at he
          have hbe : b = ⟨#[]⟩ := by
            rw [Hk1.out, ht] at hb
            apply ByteArray.ext; apply Array.ext'; exact hb
          have hsn : sl s n = skip (sl s k) := by
            rw [hdw, Hk1.out]
            have := List.takeWhile_append_dropWhile (p := okC) (l := skip (sl s k))
            rw [ht, List.nil_append] at this; exact this
          subst hbe
          have hsl := sl_length s n
          rw [hsn] at hsl
          by_cases hz : n = s.size
          · have e9 : ((n : Int) == (s.size : Int)) = true := by simp [hz]
            have HQ9 : Hid (∃ q : Nat × List UInt8, X = .error q ∧ (5 : Int) = (q.1 : Int) ∧ (n : Int) = (s.size : Int) - (q.2.length : Int) ∧ q.1 ≠ 0) := Lib.hid ⟨(5, skip (sl s k)), by rw [he, if_pos (by apply List.eq_nil_of_length_eq_zero; omega)], rfl, by show (n : Int) = (s.size : Int) - ((skip (sl s k)).length : Int); omega, by show (5 : Nat) ≠ 0; decide⟩
            clear hz hb hdw ht he hsn hsl
            go_upto_region 9 with fail
            go_quiet (fail)
            have hq := Pr.drewN wr nq
            have W1 := Lib.hid (rwrong_first _ M s n 5 (HPC.out.pr hq))
            go_upto_region 11 with (go_at_call 56; (with_reducible refine Calls.mono W1.out ?_); rintro e w7 ⟨rfl, hP7, hc7⟩)
            have HS := Lib.hid hP7
            have HC7 := Lib.hid ((HCW.out.pr hq).trans hc7 (fun _ h => .inl (.inl h)))
            have HR9 := Lib.hid (hc7.blk (hq.blk HRC.out) (by omega)); have HT9 := Lib.hid (hc7.blk (hq.blk HTC.out) (by omega))
            have WL := Lib.hid fun (c' : Int) (W' : World) (h : Pr w7 W') => rwrong_later W' M s n 5 c' n (HS.out.pr h) (by decide)
            have IL := Lib.hid fun (z : Int) (W' : World) (h : Pr w7 W') => ris_later W' M s n 5 n z (HS.out.pr h) (by decide)
            have t0 := stays (blk_cell (o := 0) HT9.out); have t1 := stays (blk_cell (o := 1) HT9.out)
            have r0 := stays (blk_cell (o := 0) HR9.out); have r1 := stays (blk_cell (o := 1) HR9.out)
            have hp := Pr.refl w7
            clear hP7 hc7 hq W1 x0 b0 b1
            go_wp2_with (first
              | (go_at_call 56; (with_reducible refine Calls.mono (WL.out _ _ hp) ?_); rintro e w8 ⟨rfl, hb⟩; have hp := hp.trans hb)
              | (go_at_call 79; (with_reducible refine Calls.mono (IL.out _ _ hp) ?_); rintro e w9 ⟨rfl, hb⟩; have hp := hp.trans hb; have y0 := t0 _ hp; have y1 := t1 _ hp; have z0 := r0 _ hp; have z1 := r1 _ hp; have f0 := blk_frozen (o := 0) (hp.blk HR9.out); have f1 := blk_frozen (o := 1) (hp.blk HR9.out)))
            refine bodyPost_ret (v := .agg #[.string ⟨#[]⟩, .slice none 0 0]) (by simp [results, Try.results54, go_sem, z0, z1]) rfl ?_
            exact Hstop.out _ _ _ _ (HS.out.pr hp) (HC7.out.pr hp) HQ9.out
          · have e9 : ((n : Int) == (s.size : Int)) = false := by simp; omega
            have HQ9 : Hid (∃ q : Nat × List UInt8, X = .error q ∧ (4 : Int) = (q.1 : Int) ∧ (n : Int) = (s.size : Int) - (q.2.length : Int) ∧ q.1 ≠ 0) := Lib.hid ⟨(4, skip (sl s k)), by rw [he, if_neg (by intro e; rw [e, List.length_nil] at hsl; omega)], rfl, by show (n : Int) = (s.size : Int) - ((skip (sl s k)).length : Int); omega, by show (4 : Nat) ≠ 0; decide⟩
            clear hz hb hdw ht he hsn hsl
            go_upto_region 9 with fail
            go_quiet (fail)
            have hq := Pr.drewN wr nq
            have W1 := Lib.hid (rwrong_first _ M s n 4 (HPC.out.pr hq))
            go_upto_region 12 with (go_at_call 56; (with_reducible refine Calls.mono W1.out ?_); rintro e w7 ⟨rfl, hP7, hc7⟩)
            have HS := Lib.hid hP7
            have HC7 := Lib.hid ((HCW.out.pr hq).trans hc7 (fun _ h => .inl (.inl h)))
            have HR9 := Lib.hid (hc7.blk (hq.blk HRC.out) (by omega)); have HT9 := Lib.hid (hc7.blk (hq.blk HTC.out) (by omega))
            have IL := Lib.hid fun (z : Int) (W' : World) (h : Pr w7 W') => ris_later W' M s n 4 n z (HS.out.pr h) (by decide)
            have t0 := stays (blk_cell (o := 0) HT9.out); have t1 := stays (blk_cell (o := 1) HT9.out)
            have r0 := stays (blk_cell (o := 0) HR9.out); have r1 := stays (blk_cell (o := 1) HR9.out)
            have hp := Pr.refl w7
            clear hP7 hc7 hq W1 x0 b0 b1
            go_wp2_with (go_at_call 79; (with_reducible refine Calls.mono (IL.out _ _ hp) ?_); rintro e w9 ⟨rfl, hb⟩; have hp := hp.trans hb; have y0 := t0 _ hp; have y1 := t1 _ hp; have z0 := r0 _ hp; have z1 := r1 _ hp; have f0 := blk_frozen (o := 0) (hp.blk HR9.out); have f1 := blk_frozen (o := 1) (hp.blk HR9.out))
            refine bodyPost_ret (v := .agg #[.string ⟨#[]⟩, .slice none 0 0]) (by simp [results, Try.results54, go_sem, z0, z1]) rfl ?_
            exact Hstop.out _ _ _ _ (HS.out.pr hp) (HC7.out.pr hp) HQ9.out
        · have he := Heq.out
          rw [if_neg ht] at he
          have hbl : b = labOf (sl s k) := by
            apply ByteArray.ext; apply Array.ext'
            rw [hb, Hk1.out]; rfl
          have hbeh : skip (sl s n) = behind (sl s k) := by rw [hdw, Hk1.out]; rfl
          have hbsz := labOf_size s k
          rw [← hbl] at he hbsz
          have hbn : b ≠ ⟨#[]⟩ := by
            intro e; apply ht
            rw [e, Hk1.out] at hb; exact hb.symm
          have hbe := behind_length ht
          have q1 : ¬ b.toList = [] := by
            have := toList_ne hbn; intro e; apply this; rw [e, ByteArray.toList_eq]
          have q2 : b.toList.isEmpty = false := by simpa using q1
          have q3 : (b.toList == []) = false := by simpa using q1
          have HE := Lib.hid he; have HBE := Lib.hid hbe; have HBH := Lib.hid hbeh
          have I1 := ris_any wr M s n 40 40 rfl HPC.out
          rw [hbeh] at I1
          have I2 := Lib.hid I1
          clear hb hdw ht he hbl hbeh hbn hbe I1 Heq Hk1
          by_cases h40 : (behind (sl s k)).head? = some 40
          case neg =>
            have he := HE.out
            rw [if_neg h40] at he
            have H := Lib.hid he
            clear he
            go_wp2_with (go_at_call 79; (with_reducible refine Calls.mono I2.out ?_); rintro e w5 ⟨bb, rfl, hbb, k2, hk2, hP2, hc2⟩; obtain rfl : bb = false := (by cases bb with | false => rfl | true => exact absurd (hbb.1 rfl) h40)
                         have HR5 := Lib.hid (hc2.blk HRC.out (by omega)); have HT5 := Lib.hid (hc2.blk HTC.out (by omega)); have t0 := blk_cell (o := 0) HT5.out; have t1 := blk_cell (o := 1) HT5.out; have r0 := blk_cell (o := 0) HR5.out; have r1 := blk_cell (o := 1) HR5.out; have f0 := blk_frozen (o := 0) HR5.out; have f1 := blk_frozen (o := 1) HR5.out; clear hbb)
            refine bodyPost_ret (v := .agg #[.string b, .slice none 0 0]) (by simp [results, Try.results54, go_sem, r0, r1]) rfl ?_
            simp only [Bool.false_eq_true, if_false] at hk2
            have hc5 : Chg (fun j => j = M) w w5 := ((HW.out.chg (fun j => j = M)).trans (HCW.out.trans (Y := fun j => j = M) hc2 (fun _ h => .inl (.inl h))) (fun j h => h.imp id (fun e => by omega)))
            refine ⟨b, [], none, 0, k2, 0, 0, rfl, by unfold maxLen; omega, Kids.nil _ _ _ _ (Nat.zero_le _), (hP2.chg ((Chg.refl (fun j => j = w.heap.size) w5).setCell _ _ (.inl rfl)) (by omega)).chg ((Chg.refl (fun j => j = w.heap.size) _).setCell _ _ (.inl rfl)) (by omega), (hc5.setCell _ _ (.inr (Nat.le_refl _))).setCell _ _ (.inr (Nat.le_refl _)), ?_⟩
            rw [H.out]
            have := HBE.out
            exact ⟨rfl, rfl, rfl, hk2, by simp only [Tr.sz_node, Tr.szL_nil]; omega⟩
          case pos =>
            have he := HE.out
            rw [if_pos h40] at he
            obtain ⟨r1, hr1⟩ : ∃ r, r = (behind (sl s k)).tail := ⟨_, rfl⟩
            rw [← hr1] at he
            have hr1l : r1.length + 2 ≤ (sl s k).length := by
              have := HBE.out
              cases hbb : behind (sl s k) with
              | nil => rw [hbb] at h40; cases h40
              | cons c cs => rw [hbb, List.length_cons] at this; rw [hbb, List.tail_cons] at hr1; rw [hr1]; omega
            have H := Lib.hid he
            have Hr1 := Lib.hid hr1
            clear he hr1
            go_wp2_with (go_at_call 79; (with_reducible refine Calls.mono I2.out ?_); rintro e w5 ⟨bb, rfl, hbb, k2, hk2, hP2, hc2⟩; obtain rfl : bb = true := hbb.2 h40)
            simp only [if_true] at hk2
            rw [← Hr1.out] at hk2
            have HT5 := Lib.hid (hc2.blk HTC.out (by omega))
            have HR5 := Lib.hid (hc2.blk HRC.out (by omega))
            have HC5 : Hid (Chg (fun j => j = M) w w5) := Lib.hid ((HW.out.chg (fun j => j = M)).trans (HCW.out.trans (Y := fun j => j = M) hc2 (fun _ h => .inl (.inl h))) (fun j h => h.imp id (fun e => by omega)))
            have hs5 := hc2.size
            have Hstart := Lib.hid (And.intro hk2 hP2)
            clear hbb hk2 hP2 hc2 HRC HTC HPC HCW I2 x0 b0 b1 q1 q2 q3
            go_loopw [100] (fun _ wr => (∃ (acc : List Tr) (v : Value) (k3 : Nat), RD wr M s k3 ∧ (parseK r1 d = match parseK (sl s k3) d with | .error e => .error e | .ok y => .ok (acc ++ y.1, y.2)) ∧ OwnsTs w5.heap.size wr v acc ∧
                wr.heap[w.heap.size + 1]? = some (.cells #[.string b, v] 24 (0, 0)) ∧ Chg (fun j => j = M ∨ j = w.heap.size + 1) w5 wr ∧ ((sl s k3).length + Tr.szL acc ≤ r1.length ∧ acc.length ≤ Tr.szL acc)) ∨
                (∃ (acc : List Tr) (v : Value) (k3 : Nat) (q : Nat × List UInt8), RDs wr M s k3 (q.1 : Int) ((s.size : Int) - (q.2.length : Int)) ∧ (X = .error q ∧ q.1 ≠ 0) ∧ OwnsTs w5.heap.size wr v acc ∧
                wr.heap[w.heap.size + 1]? = some (.cells #[.string b, v] 24 (0, 0)) ∧ Chg (fun j => j = M ∨ j = w.heap.size + 1) w5 wr)) (fun _ wr => rdLeft s wr M)
            case atStart => exact .inl ⟨[], .slice none 0 0, k2, Hstart.out.2, by rw [Hstart.out.1]; simp only [List.nil_append]; cases parseK r1 d <;> rfl, OwnsTs.nil _ _, HT5.out, Chg.refl _ _, by rw [Hstart.out.1]; simp⟩
            case round =>
              rcases hrel with ⟨acc, v, k3, hP3, hrel, hown, hblk, hc3, hlen3⟩ | ⟨acc, v, k3, q, hP3, hxq, hown, hblk, hc3⟩
              case inr =>
                obtain ⟨oz, cz, rfl, hkz⟩ := hown.kids
                have c2 := hP3.c2
                have e0 : ((q.1 : Int) == 0) = false := by have := hxq.2; simp [this]
                have t0 := blk_cell (o := 0) hblk; have t1 := blk_cell (o := 1) hblk
                have hRz := hc3.blk HR5.out (by omega)
                have r0 := blk_cell (o := 0) hRz; have r1' := blk_cell (o := 1) hRz; have f0 := blk_frozen (o := 0) hRz; have f1 := blk_frozen (o := 1) hRz
                have Hxq := Lib.hid hxq; have HP3 := Lib.hid hP3; have Hkz := Lib.hid hkz; have Hc3 := Lib.hid hc3
                have hs3 := hc3.size
                clear hxq hP3 hown hblk hc3 hRz hkz
                go_wp2_with fail
                refine bodyPost_ret (v := .agg #[.string b, .slice oz acc.length cz]) (by simp [results, Try.results54, go_sem, r0, r1']) rfl ?_
                have hcw : Chg (fun j => j = M) w wr := HC5.out.trans (Y := fun j => j = M ∨ j = w.heap.size + 1) Hc3.out (fun j hj => hj.imp id (fun e => by omega))
                refine ⟨b, acc, oz, cz, k3, _, _, rfl, by unfold maxLen; omega, ?_, (HP3.out.chg ((Chg.refl (fun j => j = w.heap.size) wr).setCell _ _ (.inl rfl)) (by omega)).chg ((Chg.refl (fun j => j = w.heap.size) _).setCell _ _ (.inl rfl)) (by omega), (hcw.setCell _ _ (.inr (Nat.le_refl _))).setCell _ _ (.inr (Nat.le_refl _)), ?_⟩
                · exact ((Hkz.out.setCell _ _ (by show ¬ w5.heap.size ≤ _; simp; omega)).setCell _ _ (by show ¬ w5.heap.size ≤ _; simp; omega)).from (by omega)
                · rw [Hxq.out.1]; exact ⟨rfl, rfl, Hxq.out.2⟩
              case inl =>
                have g1 : wr.cell? ⟨w.heap.size + 1, 1, none⟩ = some v := blk_cell hblk
                have g3 := blk_lt hblk
                have c2 := hP3.c2
                have hpk := parseK_eq (sl s k3) d
                have u1 : IntKind.i64.wrap ((d : Int) + 1) = (d : Int) + 1 := IntWalk.i64_in _ (by omega)
                have u2 : ((d + 1 : Nat) : Int) = (d : Int) + 1 := by omega
                have C := fun W' (h : Pr wr W') => Ih.out W' M s k3 (d + 1) (by omega) (by omega) (hP3.pr h)
                rw [u2] at C
                have hsz3 := fun (y : Tr × List UInt8) (h : parseT (sl s k3) (d + 1) = .ok y) => parseT_size h
                have hlf3 := hP3.left
                have hsl3 := sl_length s k3
                have hle3 := hP3.le
                generalize parseT (sl s k3) (d + 1) = Y at *
                have HXY : Hid (∀ q, Y = .error q → X = .error q) := Lib.hid fun q e => by rw [H.out, hrel, hpk, e]
                have HXK : Hid (∀ y, Y = .ok y → ((skip y.2).head? = some 41 → X = .ok (.node b (acc ++ [y.1]), (skip y.2).tail)) ∧
                    (¬ (skip y.2).head? = some 41 → parseK r1 d = match parseK (skip y.2) d with | .error e => .error e | .ok z => .ok ((acc ++ [y.1]) ++ z.1, z.2))) := Lib.hid fun y e => by
                  rw [e] at hpk
                  simp only [] at hpk
                  constructor
                  · intro h; rw [if_pos h] at hpk; rw [H.out, hrel, hpk]
                  · intro h
                    rw [if_neg h] at hpk
                    rw [hrel, hpk]
                    cases parseK (skip y.2) d with
                    | error e => rfl
                    | ok z => simp
                have C1 : Hid (∀ W', Pr wr W' → Calls Try.prog 54 #[.pointer (some ⟨M, 0, none⟩), .int .i64 ((d : Int) + 1)] W' (RTPost M s Y W')) := Lib.hid C
                have Hsz3 := Lib.hid hsz3
                have hd0 := Pr.drew wr
                have Hbk := Lib.hid hblk
                have Hc3 := Lib.hid hc3
                have HLF := Lib.hid hlf3
                have hacc : acc.length ≤ 1000000 := by omega
                have hs3 := hc3.size
                clear hpk hrel C hsz3 hblk hc3 hlf3 u2 hP3
                go_upto_region 15 with fail
                go_region_law (first
                  | (go_simp; go_at_call 54; (with_reducible refine Calls.mono (C1.out _ hd0) ?_); rintro e w6 ⟨l', ks', oa', cap', k4, c4, p4, rfl, hl', hk', hP4, hc4, hok4⟩
                     have s1 : w6.cell? ⟨w.heap.size + 1, 1, none⟩ = some v := blk_cell (o := 1) (hc4.blk (hd0.blk Hbk.out) (by omega)); have s1' := fun o => (Pr.alloc w6 o).cell s1)
                  | (refine step_tree rfl _ _ rfl w5.heap.size v acc rfl (((hown.pr hd0).kept (fun j hj hl => hc4.block j hl (by have hj' : w5.heap.size ≤ j := hj; omega))).pr (Pr.alloc _ _)) w6.heap.size rfl (.node l' ks') _ _ (heap_alloc_new w6 _) (treeV_mk cap' hl' ((hk'.pr (Pr.alloc _ _)).mono (apart_new (hown.pr hd0) (by simp; omega)))) (by omega) (by have := hc4.size; simp at this ⊢; omega) ?_; intro g cap3 w7 ho7 hg7 hat7
                     have n1 : v.ownBlock ≠ some (w.heap.size + 1) := fun e => by have := (hown.block _ e).1; omega
                     have B7 := Lib.hid (grown_blk hg7 ((Pr.alloc w6 _).blk (hc4.blk (hd0.blk Hbk.out) (by omega))) n1)
                     have t1 : w7.cell? ⟨w.heap.size + 1, 1, none⟩ = some v := blk_cell (o := 1) B7.out; have t4 := blk_frozen (o := 1) B7.out))
                all_goals
                  have hc4s := hc4.size
                  have hg7s := hg7.size
                  simp at hc4s hg7s
                  obtain ⟨wz, hwz⟩ : ∃ wz, wz = w7.setCell ⟨w.heap.size + 1, 1, none⟩ (.slice (some ⟨g, 0, none⟩) (acc.length + 1) cap3) := ⟨_, rfl⟩
                  have nM : v.ownBlock ≠ some M := fun e => by have := (hown.block _ e).1; omega
                  have hPz : RDs wz M s k4 c4 p4 := by
                    rw [hwz]
                    exact ⟨by rw [Below.heap_setCell _ _ _ _ (by simp; omega)]; exact grown_blk hg7 ((Pr.alloc w6 _).blk hP4.blk) nM, hP4.le, hP4.few⟩
                  have hownz : OwnsTs w5.heap.size wz (.slice (some ⟨g, 0, none⟩) (acc.length + 1) cap3) (acc ++ [.node l' ks']) := by rw [hwz]; exact ho7.setCell _ _ (by simp; omega)
                  have hblkz : wz.heap[w.heap.size + 1]? = some (.cells #[.string b, .slice (some ⟨g, 0, none⟩) (acc.length + 1) cap3] 24 (0, 0)) := by rw [hwz]; exact blk_set (o := 1) B7.out _
                  have hcz : Chg (fun j => j = M ∨ j = w.heap.size + 1) w5 wz := by
                    rw [hwz]
                    have h1 : Chg (fun j => j = M ∨ j = w.heap.size + 1) w5 (w6.alloc _) := ((Hc3.out.pr hd0).trans hc4 (fun _ h => .inl (.inl h))).pr (Pr.alloc w6 (.cells #[.string l', .slice oa' ks'.length cap'] 24))
                    exact (h1.trans (chg_grown hg7) (fun j hj => .inr (hown.block j hj).1)).setCell _ _ (.inl (.inr rfl))
                  rw [← hwz]
                  have Hown := Lib.hid hownz; have Hblk := Lib.hid hblkz; have Hcz := Lib.hid hcz; have HPz := Lib.hid hPz
                  have HRz := Lib.hid (hcz.blk HR5.out (by omega))
                  have hwzs := hcz.size
                  clear hwz hPz hownz hblkz hcz ho7 hg7 hat7 B7 t1 t4 s1 s1' hk' hP4 hc4 n1 hown g1
                  rcases Y with q | y
                  · obtain ⟨hq1, hq2, hq3⟩ := hok4
                    have I := ris_later wz M s k4 c4 p4 41 HPz.out (by omega)
                    have I3 := Lib.hid I
                    have hX := HXY.out q rfl
                    have HX := Lib.hid (And.intro hX (And.intro hq1 (And.intro hq2 hq3)))
                    clear hX hq1 hq2 hq3 I
                    go_wp2_with (go_at_call 79; (with_reducible refine Calls.mono I3.out ?_); rintro e w8 ⟨rfl, hp8⟩)
                    have hP8 := HPz.out.pr hp8
                    rw [HX.out.2.1, HX.out.2.2.1] at hP8
                    refine ⟨.inr ⟨acc ++ [.node l' ks'], _, k4, q, hP8, ⟨HX.out.1, HX.out.2.2.2⟩, Hown.out.pr hp8, hp8.blk Hblk.out, Hcz.out.pr hp8⟩, ?_⟩
                    rw [hP8.left, if_neg (by have := HX.out.2.2.2; omega), HLF.out]; simp; omega
                  · obtain ⟨hy, hc0, hp0, hk4, hsz4⟩ := hok4
                    subst hc0
                    subst hp0
                    have I := ris_any wz M s k4 41 41 rfl HPz.out
                    rw [hk4] at I
                    have I4 := Lib.hid I
                    have hsz5 := Hsz3.out y rfl
                    have hyp := y.1.sz_pos
                    have Hy := Lib.hid hy; have Hk4 := Lib.hid hk4
                    clear hy hk4 I
                    by_cases h41 : (skip y.2).head? = some 41
                    · have hX := (HXK.out y rfl).1 h41
                      have HX := Lib.hid hX
                      clear hX
                      go_wp2_with (go_at_call 79; (with_reducible refine Calls.mono I4.out ?_); rintro e w8 ⟨bb, rfl, hb, k8, hk8, hP8, hc8⟩; obtain rfl : bb = true := hb.2 h41
                                   have hT8 := Lib.hid (hc8.blk Hblk.out (by omega)); have hR8 := Lib.hid (hc8.blk HRz.out (by omega)); simp only [if_true] at hk8; have HK8 := Lib.hid hk8; clear hb hk8
                                   have t0 : w8.cell? ⟨w.heap.size + 1, 0, none⟩ = some (.string b) := blk_cell hT8.out; have t1 : w8.cell? ⟨w.heap.size + 1, 1, none⟩ = some (.slice (some ⟨g, 0, none⟩) (acc.length + 1) cap3) := blk_cell hT8.out
                                   have r0 : w8.cell? ⟨w.heap.size, 0, none⟩ = some (.string ⟨#[]⟩) := blk_cell hR8.out; have r1 : w8.cell? ⟨w.heap.size, 1, none⟩ = some (.slice none 0 0) := blk_cell hR8.out
                                   have f0 : w8.frozen? ⟨w.heap.size, 0, none⟩ = false := blk_frozen hR8.out; have f1 : w8.frozen? ⟨w.heap.size, 1, none⟩ = false := blk_frozen hR8.out)
                      refine bodyPost_ret (v := .agg #[.string b, .slice (some ⟨g, 0, none⟩) (acc.length + 1) cap3]) (by simp [results, Try.results54, go_sem, r0, r1]) rfl ?_
                      rw [HX.out]
                      obtain ⟨oz, cz, hez, hkz⟩ := Hown.out.kids
                      simp only [List.length_append, List.length_singleton, Value.slice.injEq] at hez
                      obtain ⟨rfl, -, rfl⟩ := hez
                      have hkz8 : Kids (From w5.heap.size) w8 (acc ++ [.node l' ks']) (some ⟨g, 0, none⟩) cap3 := hkz.carry fun j hj hl => ⟨hc8.block j hl (by have hj' : w5.heap.size ≤ j := hj; omega), hj⟩
                      have hkw := ((hkz8.setCell ⟨w.heap.size, 0, none⟩ (.string b) (by show ¬ w5.heap.size ≤ _; simp; omega)).setCell ⟨w.heap.size, 1, none⟩ (.slice (some ⟨g, 0, none⟩) (acc.length + 1) cap3) (by show ¬ w5.heap.size ≤ _; simp; omega)).from (m := w.heap.size) (by omega)
                      have hcw : Chg (fun j => j = M) w ((w8.setCell ⟨w.heap.size, 0, none⟩ (.string b)).setCell ⟨w.heap.size, 1, none⟩ (.slice (some ⟨g, 0, none⟩) (acc.length + 1) cap3)) :=
                        (((HC5.out.trans (Y := fun j => j = M ∨ j = w.heap.size + 1) Hcz.out (fun j hj => hj.imp id (fun e => by omega))).trans hc8 (fun _ h => .inl h)).setCell _ _ (.inr (Nat.le_refl _))).setCell _ _ (.inr (Nat.le_refl _))
                      have hPw := (hP8.chg ((Chg.refl (fun j => j = w.heap.size) w8).setCell ⟨w.heap.size, 0, none⟩ (.string b) (.inl rfl)) (by omega)).chg ((Chg.refl (fun j => j = w.heap.size) _).setCell ⟨w.heap.size, 1, none⟩ (.slice (some ⟨g, 0, none⟩) (acc.length + 1) cap3) (.inl rfl)) (by omega)
                      have hl8 := skip_length y.2
                      refine ⟨b, acc ++ [.node l' ks'], some ⟨g, 0, none⟩, cap3, k8, 0, 0, by rw [List.length_append, List.length_singleton], by unfold maxLen; omega, hkw, hPw, hcw, ?_⟩
                      have h2 : (Tr.node l' ks').sz = y.1.sz := by rw [Hy.out]
                      exact ⟨by rw [Hy.out], rfl, rfl, HK8.out, by simp only [Tr.sz_node, Tr.szL_append, Tr.szL_cons, Tr.szL_nil, List.length_tail] at h2 ⊢; omega⟩
                    · have hrel := (HXK.out y rfl).2 h41
                      have HREL := Lib.hid hrel
                      clear hrel
                      go_wp2_with (go_at_call 79; (with_reducible refine Calls.mono I4.out ?_); rintro e w8 ⟨bb, rfl, hb, k8, hk8, hP8, hc8⟩; obtain rfl : bb = false := (by cases bb with | false => rfl | true => exact absurd (hb.1 rfl) h41))
                      simp only [Bool.false_eq_true, if_false] at hk8
                      have hl8 := skip_length y.2
                      refine ⟨.inl ⟨acc ++ [.node l' ks'], .slice (some ⟨g, 0, none⟩) (acc.length + 1) cap3, k8, hP8, ?_, ?_, hc8.blk Hblk.out (by omega), Hcz.out.trans hc8 (fun _ h => .inl (.inl h)), ?_⟩, ?_⟩
                      · rw [hk8, HREL.out, Hy.out]
                      · exact Hown.out.kept (fun j hj hl => hc8.block j hl (by have hj' : w5.heap.size ≤ j := hj; omega))
                      · have h2 : (Tr.node l' ks').sz = y.1.sz := by rw [Hy.out]
                        rw [hk8, Tr.szL_append, Tr.szL_cons, Tr.szL_nil, h2, List.length_append, List.length_singleton]; omega
                      · rw [hP8.left, HLF.out]
                        have h1 := sl_length s k8; rw [hk8] at h1
                        have := hP8.le
                        simp; omega
theorem rtree_any (w : World) (M : Nat) (s : ByteArray) (k d : Nat) (hd : d ≤ 11) (h : RD w M s k) :
    Calls Try.prog 54 #[.pointer (some ⟨M, 0, none⟩), .int .i64 (d : Int)] w (RTPost M s (parseT (sl s k) d) w) := rtree_step _ w M s k d (Nat.lt_succ_self _) hd h
end Go.Proofs.Ytdbnfhpgmcjngab
