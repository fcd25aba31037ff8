/- Walks: the parser of texts: blanks, a sign, a label; how it gives up. -/
import Derived.Test.YtdbnfhpgmcjngabTx
import Derived.Test.YtdbnfhpgmcjngabGn
import Derived.Test.YtdbnfhpgmcjngabAf
import Derived.Test.YtdbnfhpgmcjngabMn
import Derived.Deep.CutBlock
import Derived.Deep.DeepCutAuto
import Derived.Outline
namespace Go.Proofs.Ytdbnfhpgmcjngab
open Go Go.RowKit

/-- What is left of a text, from a place on. -/
def sl (s : ByteArray) (k : Nat) : List UInt8 := s.data.toList.drop k
theorem size_list (s : ByteArray) : s.data.toList.length = s.size := Array.length_toList
theorem sl_cons {s : ByteArray} {k : Nat} (h : k < s.size) : sl s k = s[k] :: sl s (k + 1) := by
  unfold sl
  rw [List.drop_eq_getElem_cons (by rw [size_list]; exact h)]; rfl
theorem sl_end {s : ByteArray} {k : Nat} (h : s.size ≤ k) : sl s k = [] := by
  unfold sl; exact List.drop_of_length_le (by rw [size_list]; exact h)
theorem sl_length (s : ByteArray) (k : Nat) : (sl s k).length = s.size - k := by unfold sl; rw [List.length_drop, size_list]
theorem sl_zero (s : ByteArray) : sl s 0 = s.data.toList := by unfold sl; rfl
/-- Block M is a parser of that text, at that place. -/
structure PRs (w : World) (M : Nat) (s : ByteArray) (k : Nat) : Prop where
  blk : w.heap[M]? = some (.cells #[.string s, .int .i64 (k : Int)] 82 (0, 0))
  le : k ≤ s.size
  few : s.size ≤ 100000
theorem PRs.pr {w w' : World} {M : Nat} {s : ByteArray} {k : Nat} (h : PRs w M s k) (hp : Pr w w') : PRs w' M s k := ⟨hp.blk h.blk, h.le, h.few⟩
theorem PRs.chg {w w' : World} {X : Nat → Prop} {M : Nat} {s : ByteArray} {k : Nat} (h : PRs w M s k) (hp : Chg X w w') (hX : ¬ X M) : PRs w' M s k := ⟨hp.blk h.blk hX, h.le, h.few⟩
theorem PRs.set {w : World} {M : Nat} {s : ByteArray} {k k' : Nat} (h : PRs w M s k) (hk : k' ≤ s.size) : PRs (w.setCell ⟨M, 1, none⟩ (.int .i64 (k' : Int))) M s k' := ⟨blk_set (o := 1) h.blk _, hk, h.few⟩
theorem PRs.c0 {w : World} {M : Nat} {s : ByteArray} {k : Nat} (h : PRs w M s k) : w.cell? ⟨M, 0, none⟩ = some (.string s) := blk_cell h.blk
theorem PRs.c1 {w : World} {M : Nat} {s : ByteArray} {k : Nat} (h : PRs w M s k) : w.cell? ⟨M, 1, none⟩ = some (.int .i64 (k : Int)) := blk_cell h.blk
theorem PRs.f1 {w : World} {M : Nat} {s : ByteArray} {k : Nat} (h : PRs w M s k) : w.frozen? ⟨M, 1, none⟩ = false := blk_frozen h.blk
theorem Chg.drewN {X : Nat → Prop} {w w1 : World} (h : Chg X w w1) (n : Nat) : Chg X w (w1.drewN n) := h.pr (Pr.drewN _ _)
def placeOf (wr : World) (M : Nat) : Nat := (intOf ((wr.cell? ⟨M, 1, none⟩).getD (.bool false))).toNat
theorem PRs.place {w : World} {M : Nat} {s : ByteArray} {k : Nat} (h : PRs w M s k) : placeOf w M = k := by unfold placeOf; rw [h.c1]; simp [intOf]
/-- Blanks are gone over. -/
def BlPost (M : Nat) (s : ByteArray) (r : List UInt8) (w : World) (e : Ending) (w' : World) : Prop := e = .returned (.tuple #[]) ∧ ∃ k, sl s k = r ∧ PRs w' M s k ∧ Chg (fun j => j = M) w w'
theorem isBl_int (c : UInt8) : isBl c = (((c.toNat : Int) == 32) || ((c.toNat : Int) == 10)) := by
  unfold isBl
  have h1 : (c == 32) = ((c.toNat : Int) == 32) := by
    rw [Bool.eq_iff_iff, beq_iff_eq, beq_iff_eq, ← UInt8.toNat_inj]; simp; omega
  have h2 : (c == 10) = ((c.toNat : Int) == 10) := by
    rw [Bool.eq_iff_iff, beq_iff_eq, beq_iff_eq, ← UInt8.toNat_inj]; simp; omega
  rw [h1, h2]
set_option maxHeartbeats 1600000 in
theorem pblanks_any (w : World) (M : Nat) (s : ByteArray) (k : Nat) (h : PRs w M s k) :
    Calls Try.prog 51 #[.pointer (some ⟨M, 0, none⟩)] w (BlPost M s (skip (sl s k)) w) := by
  obtain ⟨r0, hr0⟩ : ∃ r0, r0 = skip (sl s k) := ⟨_, rfl⟩
  rw [← hr0]
  have H0 := Lib.hid (And.intro h hr0)
  have hfew := h.few
  clear h hr0
  go_enter Try.func51, Try.ntmps51
  go_wp2_with fail
  go_loopw [2] (fun _ wr => ∃ k' : Nat, r0 = skip (sl s k') ∧ PRs wr M s k' ∧ Chg (fun j => j = M) w wr) (fun _ wr => s.size - placeOf wr M)
  case atStart => exact ⟨k, H0.out.2, H0.out.1, Chg.refl _ _⟩
  case round =>
    obtain ⟨k', hr, hP, hc⟩ := hrel
    have c0 := hP.c0; have c1 := hP.c1; have f1 := hP.f1
    have hle := hP.le
    have hpl := hP.place
    have HP := Lib.hid hP; have Hr := Lib.hid hr; have Hpl := Lib.hid hpl
    clear hP hr hpl
    by_cases hlt : k' < s.size
    · have hl1 : (k' : Int) < s.size := by omega
      have hl0 : (0 : Int) ≤ (k' : Int) := by omega
      obtain ⟨b1, hb1⟩ : ∃ b, b = ((s[k'].toNat : Int) == 32) := ⟨_, rfl⟩
      obtain ⟨b2, hb2⟩ : ∃ b, b = ((s[k'].toNat : Int) == 10) := ⟨_, rfl⟩
      have hbl := isBl_int s[k']
      rw [← hb1, ← hb2] at hbl
      have Hbl := Lib.hid hbl
      have hb1' := hb1.symm
      have hb2' := hb2.symm
      clear hbl hb1 hb2
      have hsk : isBl s[k'] = true → skip (sl s k') = skip (sl s (k' + 1)) := fun e => by
        rw [sl_cons hlt]; unfold skip; rw [List.dropWhile_cons, if_pos e]
      have hst : isBl s[k'] = false → skip (sl s k') = sl s k' := fun e => by
        rw [sl_cons hlt]; exact skip_stop _ e
      have Hsk := Lib.hid hsk; have Hst := Lib.hid hst
      clear hsk hst
      have uw : IntKind.i64.wrap ((k' : Int) + 1) = (k' : Int) + 1 := IntWalk.i64_in _ (by omega)
      have go : ∀ nq : Nat, isBl s[k'] = true → (r0 = skip (sl s (k' + 1)) ∧ PRs ((wr.drewN nq).setCell ⟨M, 1, none⟩ (.int .i64 ((k' : Int) + 1))) M s (k' + 1) ∧ Chg (fun j => j = M) w ((wr.drewN nq).setCell ⟨M, 1, none⟩ (.int .i64 ((k' : Int) + 1)))) := fun nq e =>
        ⟨Hr.out.trans (Hsk.out e), (HP.out.pr (Pr.drewN _ _)).set (k' := k' + 1) (by omega), (hc.drewN nq).setCell _ _ (.inl rfl)⟩
      have Hgo := Lib.hid go
      clear go
      cases b1
      case true =>
        have e1 : isBl s[k'] = true := by rw [Hbl.out]; rfl
        have He := Lib.hid e1
        clear e1
        go_upto_region 0 with fail
        go_quiet (fail)
        go_wp2_with fail
        obtain ⟨g1, g2, g3⟩ := Hgo.out nq He.out
        refine ⟨⟨k' + 1, g1, g2, g3⟩, ?_⟩
        rw [g2.place, Hpl.out]; omega
      case false =>
        cases b2
        case true =>
          have e1 : isBl s[k'] = true := by rw [Hbl.out]; rfl
          have He := Lib.hid e1
          clear e1
          go_upto_region 0 with fail
          go_quiet (fail)
          go_wp2_with fail
          obtain ⟨g1, g2, g3⟩ := Hgo.out nq He.out
          refine ⟨⟨k' + 1, g1, g2, g3⟩, ?_⟩
          rw [g2.place, Hpl.out]; omega
        case false =>
          have e1 : isBl s[k'] = false := by rw [Hbl.out]; rfl
          have He := Lib.hid e1
          clear e1
          go_upto_region 0 with fail
          go_quiet (fail)
          go_wp2_with fail
          go_end0
          exact ⟨rfl, k', (Hst.out He.out).symm.trans Hr.out.symm, HP.out.pr (Pr.drewN _ _), hc.drewN _⟩
    · have hl1 : decide ((k' : Int) < s.size) = false := by simp; omega
      have hl2 : decide (k' < s.size) = false := by simp; omega
      have hend : skip (sl s k') = sl s k' := by rw [sl_end (by omega)]; rfl
      have He := Lib.hid hend
      clear hend
      go_upto_region 0 with fail
      go_quiet (fail)
      go_wp2_with fail
      go_end0
      exact ⟨rfl, k', He.out.symm.trans Hr.out.symm, HP.out.pr (Pr.drewN _ _), hc.drewN _⟩
/-- Does that sign come? It is gone over. -/
def IsPost (M : Nat) (s : ByteArray) (r : List UInt8) (c : UInt8) (w : World) (e : Ending) (w' : World) : Prop :=
  ∃ b : Bool, e = .returned (.bool b) ∧ (b = true ↔ r.head? = some c) ∧ ∃ k, sl s k = (if b = true then r.tail else r) ∧ PRs w' M s k ∧ Chg (fun j => j = M) w w'
theorem byte_eq (a b : UInt8) : ((a.toNat : Int) == (b.toNat : Int)) = decide (a = b) := by
  rw [Bool.eq_iff_iff, beq_iff_eq, decide_eq_true_eq, ← UInt8.toNat_inj]; omega
set_option maxHeartbeats 1600000 in
theorem pis_any (w : World) (M : Nat) (s : ByteArray) (k : Nat) (c : UInt8) (z : Int) (hz : z = (c.toNat : Int)) (h : PRs w M s k) :
    Calls Try.prog 78 #[.pointer (some ⟨M, 0, none⟩), .int .u8 z] w (IsPost M s (skip (sl s k)) c w) := by
  have B1 := Lib.hid (pblanks_any w M s k h)
  have hfew := h.few
  have HZ := Lib.hid hz
  clear h hz
  go_enter Try.func78, Try.ntmps78
  go_upto_region 2 with (go_at_call 51; (with_reducible refine Calls.mono B1.out ?_); rintro e w1 ⟨rfl, k', hk', hP, hc⟩)
  have c0 := hP.c0; have c1 := hP.c1; have f1 := hP.f1
  have hle := hP.le
  have HP := Lib.hid hP; have Hk := Lib.hid hk'
  clear hP hk'
  by_cases hlt : k' < s.size
  · have hl1 : (k' : Int) < s.size := by omega
    have hl0 : (0 : Int) ≤ (k' : Int) := by omega
    obtain ⟨b, hb⟩ : ∃ b, b = ((s[k'].toNat : Int) == z) := ⟨_, rfl⟩
    have hbd : b = decide (s[k'] = c) := by rw [hb, HZ.out, byte_eq]
    have hcons := sl_cons hlt
    rw [Hk.out] at hcons
    have Hcons := Lib.hid hcons; have Hbd := Lib.hid hbd
    have hb' := hb.symm
    have uw : IntKind.i64.wrap ((k' : Int) + 1) = (k' : Int) + 1 := IntWalk.i64_in _ (by omega)
    clear hcons hbd hb
    cases b
    case true =>
      go_quiet (fail)
      go_wp2_with fail
      go_ret
      refine ⟨true, rfl, ⟨fun _ => ?_, fun _ => rfl⟩, k' + 1, ?_, (HP.out.pr (Pr.drewN _ _)).set (k' := k' + 1) (by omega), (hc.drewN _).setCell _ _ (.inl rfl)⟩
      · rw [Hcons.out]; have := Hbd.out; simp at this; rw [← this]; rfl
      · rw [Hcons.out]; rfl
    case false =>
      go_quiet (fail)
      go_wp2_with fail
      go_ret
      refine ⟨false, rfl, ⟨fun h => (by cases h), fun h => ?_⟩, k', by rw [Hk.out]; rfl, HP.out.pr (Pr.drewN _ _), hc.drewN _⟩
      rw [Hcons.out] at h; have := Hbd.out; simp at this h; exact absurd h this
  · have hl1 : decide ((k' : Int) < s.size) = false := by simp; omega
    have hl2 : decide (k' < s.size) = false := by simp; omega
    have hnil : skip (sl s k) = [] := by rw [← Hk.out, sl_end (by omega)]
    have Hnil := Lib.hid hnil
    clear hnil
    go_quiet (fail)
    go_wp2_with fail
    go_ret
    refine ⟨false, rfl, ⟨fun h => (by cases h), fun h => ?_⟩, k', by rw [Hk.out]; rfl, HP.out.pr (Pr.drewN _ _), hc.drewN _⟩
    rw [Hnil.out] at h; cases h
/-- It gives up: a code, and the place. -/
def PFail (M : Nat) (s : ByteArray) (c : Nat) (r : List UInt8) (w : World) (e : Ending) (w' : World) : Prop :=
  e = .panicked [{ v := .iface 78 (.agg #[.int .i64 (c : Int), .int .i64 ((s.size : Int) - (r.length : Int))]), recovered := false }] ∧ Chg (fun j => j = M) w w'
theorem pfail_any (w : World) (M : Nat) (s : ByteArray) (k : Nat) (c : Nat) (h : PRs w M s k) :
    Calls Try.prog 52 #[.pointer (some ⟨M, 0, none⟩), .int .i64 (c : Int)] w (PFail M s c (sl s k) w) := by
  have c1 := h.c1
  have hk : (k : Int) = (s.size : Int) - ((sl s k).length : Int) := by have := h.le; rw [sl_length]; omega
  have Hk := Lib.hid hk
  clear h hk
  go_enter Try.func52, Try.ntmps52
  go_wp2_with fail
  exact ⟨rfl, by rw [Hk.out], Chg.refl _ _⟩
theorem extract_list (s : ByteArray) (k n : Nat) : s.extract k n = ⟨⟨(sl s k).take (n - k)⟩⟩ := by
  apply ByteArray.ext
  apply Array.ext'
  simp [sl]
/-- A label is read; or it gives up. -/
def LbPost (M : Nat) (s : ByteArray) (r : List UInt8) (w : World) (e : Ending) (w' : World) : Prop :=
  ((skip r).takeWhile okC = [] ∧ PFail M s (if skip r = [] then 5 else 4) (skip r) w e w') ∨
  ((skip r).takeWhile okC ≠ [] ∧ e = .returned (.string (labOf r)) ∧ ∃ k, sl s k = (skip r).dropWhile okC ∧ PRs w' M s k ∧ Chg (fun j => j = M) w w')
set_option maxRecDepth 100000 in
set_option maxHeartbeats 3200000 in
theorem plabel_any (w : World) (M : Nat) (s : ByteArray) (k : Nat) (h : PRs w M s k) :
    Calls Try.prog 77 #[.pointer (some ⟨M, 0, none⟩)] w (LbPost M s (sl s k) w) := by
  have B1 := Lib.hid (pblanks_any w M s k h)
  have hfew := h.few
  clear h
  go_enter Try.func77, Try.ntmps77
  go_upto_region 2 with (go_at_call 51; (with_reducible refine Calls.mono B1.out ?_); rintro e w1 ⟨rfl, k1, hk1, hP, hc1⟩)
  have c0 := hP.c0; have c1 := hP.c1; have f1 := hP.f1
  have hle := hP.le
  have HP := Lib.hid hP; have Hk1 := Lib.hid hk1
  clear hP hk1 B1
  go_wp2_with fail
  go_loopw [3] (fun v wr => ∃ n : Nat, k1 ≤ n ∧ n ≤ s.size ∧ v = .int .i64 n ∧ ((sl s k1).takeWhile okC = (sl s k1).take (n - k1) ++ (sl s n).takeWhile okC ∧ (sl s k1).dropWhile okC = (sl s n).dropWhile okC) ∧ w1 = wr) (fun v _ => s.size - (intOf v).toNat)
  case atStart => exact ⟨k1, by omega, hle, rfl, by simp, rfl⟩
  case round =>
    obtain ⟨n, hn1, hn2, rfl, hd, rfl⟩ := hrel
    have Hd := Lib.hid hd
    clear hd
    by_cases hlt : n < s.size
    · have hl1 : (n : Int) < s.size := by omega
      have hl0 : (0 : Int) ≤ (n : Int) := by omega
      have hcons := sl_cons hlt
      have hiff := okC_iff s[n]
      cases hok : okC s[n]
      case true =>
        rw [hok] at hiff
        obtain ⟨g1, g2⟩ := hiff.1 rfl
        have d1 : decide ((97 : Int) ≤ (s[n].toNat : Int)) = true := by simpa using g1
        have d2 : decide ((s[n].toNat : Int) ≤ 122) = true := by simpa using g2
        have hnew : (sl s k1).takeWhile okC = (sl s k1).take (n + 1 - k1) ++ (sl s (n + 1)).takeWhile okC ∧ (sl s k1).dropWhile okC = (sl s (n + 1)).dropWhile okC := by
          obtain ⟨e1, e2⟩ := Hd.out
          rw [hcons, List.takeWhile_cons, if_pos hok] at e1
          rw [hcons, List.dropWhile_cons, if_pos hok] at e2
          refine ⟨?_, e2⟩
          have hlen : n - k1 < (sl s k1).length := by rw [sl_length]; omega
          have hget : (sl s k1)[n - k1] = s[n] := by
            have h0 : sl s n = (sl s k1).drop (n - k1) := by unfold sl; rw [List.drop_drop]; congr 1; omega
            have h1 : ((sl s k1).drop (n - k1)).head? = some s[n] := by rw [← h0, hcons]; rfl
            rw [List.head?_drop] at h1
            exact (List.getElem?_eq_some_iff.1 h1).2
          rw [show n + 1 - k1 = (n - k1) + 1 by omega, List.take_succ_eq_append_getElem hlen, hget, List.append_assoc]; exact e1
        have Hnew := Lib.hid hnew
        clear hnew hiff hok hcons g1 g2
        go_wp2_with fail
        refine ⟨⟨n + 1, by omega, by omega, by go_num, Hnew.out, trivial⟩, ?_⟩
        simp [intOf]; omega
      case false =>
        have hstop : (sl s n).takeWhile okC = [] := by rw [hcons, List.takeWhile_cons, if_neg (by simp [hok])]
        have hstop2 : (sl s n).dropWhile okC = sl s n := by rw [hcons, List.dropWhile_cons, if_neg (by simp [hok])]
        rw [hok] at hiff
        by_cases h97 : (97 : Int) ≤ (s[n].toNat : Int)
        · have d1 : decide ((97 : Int) ≤ (s[n].toNat : Int)) = true := by simpa using h97
          have d2 : decide ((s[n].toNat : Int) ≤ 122) = false := by
            simp only [decide_eq_false_iff_not]; intro h9; have := hiff.2 ⟨h97, h9⟩; cases this
          clear hiff hok h97 hcons
          by_cases hn : n = k1
          · have h2 : (skip (sl s k)).takeWhile okC = [] := by
              have hs1 : (sl s k1).takeWhile okC = [] := hn ▸ hstop
              rw [← Hk1.out]; exact hs1
            have H2 := Lib.hid h2
            have ee : ((n : Int) == (k1 : Int)) = true := by simp [hn]
            by_cases hz : k1 = s.size
            · have ez : ((n : Int) == (s.size : Int)) = true := by simp; omega
              have h3 : skip (sl s k) = [] := by rw [← Hk1.out, sl_end (by omega)]
              have H3 := Lib.hid h3
              have F := Lib.hid (pfail_any w1 M s k1 5 HP.out)
              clear h2 h3 hstop hn hz
              go_wp2_with (go_at_call 52; (with_reducible refine Calls.mono F.out ?_); rintro e w2 ⟨rfl, hc2⟩)
              refine ⟨by trivial, .inl ⟨H2.out, ?_, hc1.trans hc2 (fun _ h => .inl h)⟩⟩
              rw [if_pos H3.out, ← Hk1.out]; rfl
            · have ez : ((n : Int) == (s.size : Int)) = false := by simp; omega
              have h3 : ¬ skip (sl s k) = [] := by rw [← Hk1.out, sl_cons (by have := HP.out.le; omega)]; simp
              have H3 := Lib.hid h3
              have F := Lib.hid (pfail_any w1 M s k1 4 HP.out)
              clear h2 h3 hstop hn hz
              go_wp2_with (go_at_call 52; (with_reducible refine Calls.mono F.out ?_); rintro e w2 ⟨rfl, hc2⟩)
              refine ⟨by trivial, .inl ⟨H2.out, ?_, hc1.trans hc2 (fun _ h => .inl h)⟩⟩
              rw [if_neg H3.out, ← Hk1.out]; rfl
          · have ee : ((n : Int) == (k1 : Int)) = false := by simp; omega
            have htk : (skip (sl s k)).takeWhile okC = (sl s k1).take (n - k1) := by rw [← Hk1.out]; have := Hd.out.1; rw [hstop, List.append_nil] at this; exact this
            have hne : (skip (sl s k)).takeWhile okC ≠ [] := by
              rw [htk]; intro e0; have := congrArg List.length e0; rw [List.length_take, sl_length] at this; simp only [List.length_nil] at this; omega
            have hdr : (skip (sl s k)).dropWhile okC = sl s n := by rw [← Hk1.out, Hd.out.2]; exact hstop2
            have hlab : s.extract k1 n = labOf (sl s k) := by rw [extract_list, labOf, htk]
            have l0 : (0 : Int) ≤ (k1 : Int) := by omega
            have l1 : (k1 : Int) ≤ (n : Int) := by omega
            have l2 : (n : Int) ≤ (s.size : Int) := by omega
            have H := Lib.hid (And.intro hne (And.intro hdr hlab))
            have hne2 : k1 < n := by omega
            clear htk hne hdr hlab hstop hn
            go_wp2_with fail
            go_quiet (fail)
            go_wp2_with fail
            go_ret
            exact .inr ⟨H.out.1, congrArg (fun x => Ending.returned (.string x)) H.out.2.2, n, H.out.2.1.symm, (HP.out.pr (Pr.drewN _ _)).set (k' := n) (by omega), (hc1.drewN _).setCell _ _ (.inl rfl)⟩
        · have d1 : decide ((97 : Int) ≤ (s[n].toNat : Int)) = false := by simpa using h97
          clear hiff hok h97 hcons
          by_cases hn : n = k1
          · have h2 : (skip (sl s k)).takeWhile okC = [] := by
              have hs1 : (sl s k1).takeWhile okC = [] := hn ▸ hstop
              rw [← Hk1.out]; exact hs1
            have H2 := Lib.hid h2
            have ee : ((n : Int) == (k1 : Int)) = true := by simp [hn]
            by_cases hz : k1 = s.size
            · have ez : ((n : Int) == (s.size : Int)) = true := by simp; omega
              have h3 : skip (sl s k) = [] := by rw [← Hk1.out, sl_end (by omega)]
              have H3 := Lib.hid h3
              have F := Lib.hid (pfail_any w1 M s k1 5 HP.out)
              clear h2 h3 hstop hn hz
              go_wp2_with (go_at_call 52; (with_reducible refine Calls.mono F.out ?_); rintro e w2 ⟨rfl, hc2⟩)
              refine ⟨by trivial, .inl ⟨H2.out, ?_, hc1.trans hc2 (fun _ h => .inl h)⟩⟩
              rw [if_pos H3.out, ← Hk1.out]; rfl
            · have ez : ((n : Int) == (s.size : Int)) = false := by simp; omega
              have h3 : ¬ skip (sl s k) = [] := by rw [← Hk1.out, sl_cons (by have := HP.out.le; omega)]; simp
              have H3 := Lib.hid h3
              have F := Lib.hid (pfail_any w1 M s k1 4 HP.out)
              clear h2 h3 hstop hn hz
              go_wp2_with (go_at_call 52; (with_reducible refine Calls.mono F.out ?_); rintro e w2 ⟨rfl, hc2⟩)
              refine ⟨by trivial, .inl ⟨H2.out, ?_, hc1.trans hc2 (fun _ h => .inl h)⟩⟩
              rw [if_neg H3.out, ← Hk1.out]; rfl
          · have ee : ((n : Int) == (k1 : Int)) = false := by simp; omega
            have htk : (skip (sl s k)).takeWhile okC = (sl s k1).take (n - k1) := by rw [← Hk1.out]; have := Hd.out.1; rw [hstop, List.append_nil] at this; exact this
            have hne : (skip (sl s k)).takeWhile okC ≠ [] := by
              rw [htk]; intro e0; have := congrArg List.length e0; rw [List.length_take, sl_length] at this; simp only [List.length_nil] at this; omega
            have hdr : (skip (sl s k)).dropWhile okC = sl s n := by rw [← Hk1.out, Hd.out.2]; exact hstop2
            have hlab : s.extract k1 n = labOf (sl s k) := by rw [extract_list, labOf, htk]
            have l0 : (0 : Int) ≤ (k1 : Int) := by omega
            have l1 : (k1 : Int) ≤ (n : Int) := by omega
            have l2 : (n : Int) ≤ (s.size : Int) := by omega
            have H := Lib.hid (And.intro hne (And.intro hdr hlab))
            have hne2 : k1 < n := by omega
            clear htk hne hdr hlab hstop hn
            go_wp2_with fail
            go_quiet (fail)
            go_wp2_with fail
            go_ret
            exact .inr ⟨H.out.1, congrArg (fun x => Ending.returned (.string x)) H.out.2.2, n, H.out.2.1.symm, (HP.out.pr (Pr.drewN _ _)).set (k' := n) (by omega), (hc1.drewN _).setCell _ _ (.inl rfl)⟩
    · have hl1 : decide ((n : Int) < s.size) = false := by simp; omega
      have hl2 : decide (n < s.size) = false := by simp; omega
      have hstop : (sl s n).takeWhile okC = [] := by rw [sl_end (by omega)]; rfl
      have hstop2 : (sl s n).dropWhile okC = sl s n := by rw [sl_end (by omega)]; rfl
      by_cases hn : n = k1
      · have h2 : (skip (sl s k)).takeWhile okC = [] := by
          have hs1 : (sl s k1).takeWhile okC = [] := hn ▸ hstop
          rw [← Hk1.out]; exact hs1
        have H2 := Lib.hid h2
        have ee : ((n : Int) == (k1 : Int)) = true := by simp [hn]
        by_cases hz : k1 = s.size
        · have ez : ((n : Int) == (s.size : Int)) = true := by simp; omega
          have h3 : skip (sl s k) = [] := by rw [← Hk1.out, sl_end (by omega)]
          have H3 := Lib.hid h3
          have F := Lib.hid (pfail_any w1 M s k1 5 HP.out)
          clear h2 h3 hstop hn hz
          go_wp2_with (go_at_call 52; (with_reducible refine Calls.mono F.out ?_); rintro e w2 ⟨rfl, hc2⟩)
          refine ⟨by trivial, .inl ⟨H2.out, ?_, hc1.trans hc2 (fun _ h => .inl h)⟩⟩
          rw [if_pos H3.out, ← Hk1.out]; rfl
        · have ez : ((n : Int) == (s.size : Int)) = false := by simp; omega
          have h3 : ¬ skip (sl s k) = [] := by rw [← Hk1.out, sl_cons (by have := HP.out.le; omega)]; simp
          have H3 := Lib.hid h3
          have F := Lib.hid (pfail_any w1 M s k1 4 HP.out)
          clear h2 h3 hstop hn hz
          go_wp2_with (go_at_call 52; (with_reducible refine Calls.mono F.out ?_); rintro e w2 ⟨rfl, hc2⟩)
          refine ⟨by trivial, .inl ⟨H2.out, ?_, hc1.trans hc2 (fun _ h => .inl h)⟩⟩
          rw [if_neg H3.out, ← Hk1.out]; rfl
      · have ee : ((n : Int) == (k1 : Int)) = false := by simp; omega
        have htk : (skip (sl s k)).takeWhile okC = (sl s k1).take (n - k1) := by rw [← Hk1.out]; have := Hd.out.1; rw [hstop, List.append_nil] at this; exact this
        have hne : (skip (sl s k)).takeWhile okC ≠ [] := by
          rw [htk]; intro e0; have := congrArg List.length e0; rw [List.length_take, sl_length] at this; simp only [List.length_nil] at this; omega
        have hdr : (skip (sl s k)).dropWhile okC = sl s n := by rw [← Hk1.out, Hd.out.2]; exact hstop2
        have hlab : s.extract k1 n = labOf (sl s k) := by rw [extract_list, labOf, htk]
        have l0 : (0 : Int) ≤ (k1 : Int) := by omega
        have l1 : (k1 : Int) ≤ (n : Int) := by omega
        have l2 : (n : Int) ≤ (s.size : Int) := by omega
        have H := Lib.hid (And.intro hne (And.intro hdr hlab))
        have hne2 : k1 < n := by omega
        clear htk hne hdr hlab hstop hn
        go_wp2_with fail
        go_quiet (fail)
        go_wp2_with fail
        go_ret
        exact .inr ⟨H.out.1, congrArg (fun x => Ending.returned (.string x)) H.out.2.2, n, H.out.2.1.symm, (HP.out.pr (Pr.drewN _ _)).set (k' := n) (by omega), (hc1.drewN _).setCell _ _ (.inl rfl)⟩
end Go.Proofs.Ytdbnfhpgmcjngab
