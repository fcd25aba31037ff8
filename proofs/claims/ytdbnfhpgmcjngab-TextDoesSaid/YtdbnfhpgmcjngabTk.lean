/- Walks: the document's reading of texts: blanks, a sign, what is wrong. -/
import Derived.Test.YtdbnfhpgmcjngabTj
namespace Go.Proofs.Ytdbnfhpgmcjngab
open Go Go.RowKit

/-- Block M is a reading of that text, at that place; its fault. -/
structure RDs (w : World) (M : Nat) (s : ByteArray) (k : Nat) (c p : Int) : Prop where
  blk : w.heap[M]? = some (.cells #[.string s, .int .i64 (k : Int), .int .i64 c, .int .i64 p] 88 (0, 0))
  le : k ≤ s.size
  few : s.size ≤ 100000
abbrev RD (w : World) (M : Nat) (s : ByteArray) (k : Nat) : Prop := RDs w M s k 0 0
theorem RDs.pr {w w' : World} {M : Nat} {s : ByteArray} {k : Nat} {c p : Int} (h : RDs w M s k c p) (hp : Pr w w') : RDs w' M s k c p := ⟨hp.blk h.blk, h.le, h.few⟩
theorem RDs.chg {w w' : World} {X : Nat → Prop} {M : Nat} {s : ByteArray} {k : Nat} {c p : Int} (h : RDs w M s k c p) (hp : Chg X w w') (hX : ¬ X M) : RDs w' M s k c p := ⟨hp.blk h.blk hX, h.le, h.few⟩
theorem RDs.set {w : World} {M : Nat} {s : ByteArray} {k k' : Nat} {c p : Int} (h : RDs w M s k c p) (hk : k' ≤ s.size) : RDs (w.setCell ⟨M, 1, none⟩ (.int .i64 (k' : Int))) M s k' c p := ⟨blk_set (o := 1) h.blk _, hk, h.few⟩
theorem RDs.c0 {w : World} {M : Nat} {s : ByteArray} {k : Nat} {c p : Int} (h : RDs w M s k c p) : w.cell? ⟨M, 0, none⟩ = some (.string s) := blk_cell h.blk
theorem RDs.c1 {w : World} {M : Nat} {s : ByteArray} {k : Nat} {c p : Int} (h : RDs w M s k c p) : w.cell? ⟨M, 1, none⟩ = some (.int .i64 (k : Int)) := blk_cell h.blk
theorem RDs.c2 {w : World} {M : Nat} {s : ByteArray} {k : Nat} {c p : Int} (h : RDs w M s k c p) : w.cell? ⟨M, 2, none⟩ = some (.int .i64 c) := blk_cell h.blk
theorem RDs.c3 {w : World} {M : Nat} {s : ByteArray} {k : Nat} {c p : Int} (h : RDs w M s k c p) : w.cell? ⟨M, 3, none⟩ = some (.int .i64 p) := blk_cell h.blk
theorem RDs.f1 {w : World} {M : Nat} {s : ByteArray} {k : Nat} {c p : Int} (h : RDs w M s k c p) : w.frozen? ⟨M, 1, none⟩ = false := blk_frozen h.blk
theorem RDs.fz {w : World} {M : Nat} {s : ByteArray} {k : Nat} {c p : Int} (h : RDs w M s k c p) (j : Nat) : w.frozen? ⟨M, j, none⟩ = false := blk_frozen h.blk
theorem RDs.place {w : World} {M : Nat} {s : ByteArray} {k : Nat} {c p : Int} (h : RDs w M s k c p) : placeOf w M = k := by unfold placeOf; rw [h.c1]; simp [intOf]
/-- Blanks are gone over. -/
def RBlPost (M : Nat) (s : ByteArray) (r : List UInt8) (w : World) (e : Ending) (w' : World) : Prop := e = .returned (.tuple #[]) ∧ ∃ k, sl s k = r ∧ RD w' M s k ∧ Chg (fun j => j = M) w w'
set_option maxHeartbeats 1600000 in
theorem rblanks_any (w : World) (M : Nat) (s : ByteArray) (k : Nat) (h : RD w M s k) :
    Calls Try.prog 55 #[.pointer (some ⟨M, 0, none⟩)] w (RBlPost M s (skip (sl s k)) w) := by
  obtain ⟨r0, hr0⟩ : ∃ r0, r0 = skip (sl s k) := ⟨_, rfl⟩
  rw [← hr0]
  have H0 := Lib.hid (And.intro h hr0)
  have hfew := h.few
  clear h hr0
  go_enter Try.func55, Try.ntmps55
  go_wp2_with fail
  go_loopw [2] (fun _ wr => ∃ k' : Nat, r0 = skip (sl s k') ∧ RD wr M s k' ∧ Chg (fun j => j = M) w wr) (fun _ wr => s.size - placeOf wr M)
  case atStart => exact ⟨k, H0.out.2, H0.out.1, Chg.refl _ _⟩
  case round =>
    obtain ⟨k', hr, hP, hc⟩ := hrel
    have c0 := hP.c0; have c1 := hP.c1; have f1 := hP.f1; have c2 := hP.c2
    have hle := hP.le
    have hpl := hP.place
    have HP := Lib.hid hP; have Hr := Lib.hid hr; have Hpl := Lib.hid hpl
    clear hP hr hpl
    by_cases hlt : k' < s.size
    · have hl1 : (k' : Int) < s.size := by omega
      have hl0 : (0 : Int) ≤ (k' : Int) := by omega
      obtain ⟨b1, hb1⟩ : ∃ b, b = ((s[k'].toNat : Int) == 32) := ⟨_, rfl⟩
      obtain ⟨b2, hb2⟩ : ∃ b, b = ((s[k'].toNat : Int) == 10) := ⟨_, rfl⟩
      have hbl := isBl_int s[k']
      rw [← hb1, ← hb2] at hbl
      have Hbl := Lib.hid hbl
      have hb1' := hb1.symm
      have hb2' := hb2.symm
      clear hbl hb1 hb2
      have hsk : isBl s[k'] = true → skip (sl s k') = skip (sl s (k' + 1)) := fun e => by
        rw [sl_cons hlt]; unfold skip; rw [List.dropWhile_cons, if_pos e]
      have hst : isBl s[k'] = false → skip (sl s k') = sl s k' := fun e => by
        rw [sl_cons hlt]; exact skip_stop _ e
      have Hsk := Lib.hid hsk; have Hst := Lib.hid hst
      clear hsk hst
      have uw : IntKind.i64.wrap ((k' : Int) + 1) = (k' : Int) + 1 := IntWalk.i64_in _ (by omega)
      have go : ∀ nq : Nat, isBl s[k'] = true → (r0 = skip (sl s (k' + 1)) ∧ RD ((wr.drewN nq).setCell ⟨M, 1, none⟩ (.int .i64 ((k' : Int) + 1))) M s (k' + 1) ∧ Chg (fun j => j = M) w ((wr.drewN nq).setCell ⟨M, 1, none⟩ (.int .i64 ((k' : Int) + 1)))) := fun nq e =>
        ⟨Hr.out.trans (Hsk.out e), (HP.out.pr (Pr.drewN _ _)).set (k' := k' + 1) (by omega), (hc.drewN nq).setCell _ _ (.inl rfl)⟩
      have Hgo := Lib.hid go
      clear go
      cases b1
      case true =>
        have e1 : isBl s[k'] = true := by rw [Hbl.out]; rfl
        have He := Lib.hid e1
        clear e1
        go_upto_region 0 with fail
        go_quiet (fail)
        go_wp2_with fail
        obtain ⟨g1, g2, g3⟩ := Hgo.out nq He.out
        refine ⟨⟨k' + 1, g1, g2, g3⟩, ?_⟩
        rw [g2.place, Hpl.out]; omega
      case false =>
        cases b2
        case true =>
          have e1 : isBl s[k'] = true := by rw [Hbl.out]; rfl
          have He := Lib.hid e1
          clear e1
          go_upto_region 0 with fail
          go_quiet (fail)
          go_wp2_with fail
          obtain ⟨g1, g2, g3⟩ := Hgo.out nq He.out
          refine ⟨⟨k' + 1, g1, g2, g3⟩, ?_⟩
          rw [g2.place, Hpl.out]; omega
        case false =>
          have e1 : isBl s[k'] = false := by rw [Hbl.out]; rfl
          have He := Lib.hid e1
          clear e1
          go_upto_region 0 with fail
          go_quiet (fail)
          go_wp2_with fail
          go_end0
          exact ⟨rfl, k', (Hst.out He.out).symm.trans Hr.out.symm, HP.out.pr (Pr.drewN _ _), hc.drewN _⟩
    · have hl1 : decide ((k' : Int) < s.size) = false := by simp; omega
      have hl2 : decide (k' < s.size) = false := by simp; omega
      have hend : skip (sl s k') = sl s k' := by rw [sl_end (by omega)]; rfl
      have He := Lib.hid hend
      clear hend
      go_upto_region 0 with fail
      go_quiet (fail)
      go_wp2_with fail
      go_end0
      exact ⟨rfl, k', He.out.symm.trans Hr.out.symm, HP.out.pr (Pr.drewN _ _), hc.drewN _⟩
/-- Does that sign come? It is gone over. -/
def RIsPost (M : Nat) (s : ByteArray) (r : List UInt8) (c : UInt8) (w : World) (e : Ending) (w' : World) : Prop :=
  ∃ b : Bool, e = .returned (.bool b) ∧ (b = true ↔ r.head? = some c) ∧ ∃ k, sl s k = (if b = true then r.tail else r) ∧ RD w' M s k ∧ Chg (fun j => j = M) w w'
set_option maxHeartbeats 1600000 in
theorem ris_any (w : World) (M : Nat) (s : ByteArray) (k : Nat) (c : UInt8) (z : Int) (hz : z = (c.toNat : Int)) (h : RD w M s k) :
    Calls Try.prog 79 #[.pointer (some ⟨M, 0, none⟩), .int .u8 z] w (RIsPost M s (skip (sl s k)) c w) := by
  have B1 := Lib.hid (rblanks_any w M s k h)
  have hfew := h.few
  have HZ := Lib.hid hz
  clear h hz
  go_enter Try.func79, Try.ntmps79
  go_upto_region 2 with (go_at_call 55; (with_reducible refine Calls.mono B1.out ?_); rintro e w1 ⟨rfl, k', hk', hP, hc⟩)
  have c0 := hP.c0; have c1 := hP.c1; have f1 := hP.f1; have c2 := hP.c2
  have hle := hP.le
  have HP := Lib.hid hP; have Hk := Lib.hid hk'
  clear hP hk'
  by_cases hlt : k' < s.size
  · have hl1 : (k' : Int) < s.size := by omega
    have hl0 : (0 : Int) ≤ (k' : Int) := by omega
    obtain ⟨b, hb⟩ : ∃ b, b = ((s[k'].toNat : Int) == z) := ⟨_, rfl⟩
    have hbd : b = decide (s[k'] = c) := by rw [hb, HZ.out, byte_eq]
    have hcons := sl_cons hlt
    rw [Hk.out] at hcons
    have Hcons := Lib.hid hcons; have Hbd := Lib.hid hbd
    have hb' := hb.symm
    have uw : IntKind.i64.wrap ((k' : Int) + 1) = (k' : Int) + 1 := IntWalk.i64_in _ (by omega)
    clear hcons hbd hb
    cases b
    case true =>
      go_quiet (fail)
      go_wp2_with fail
      go_ret
      refine ⟨true, rfl, ⟨fun _ => ?_, fun _ => rfl⟩, k' + 1, ?_, (HP.out.pr (Pr.drewN _ _)).set (k' := k' + 1) (by omega), (hc.drewN _).setCell _ _ (.inl rfl)⟩
      · rw [Hcons.out]; have := Hbd.out; simp at this; rw [← this]; rfl
      · rw [Hcons.out]; rfl
    case false =>
      go_quiet (fail)
      go_wp2_with fail
      go_ret
      refine ⟨false, rfl, ⟨fun h => (by cases h), fun h => ?_⟩, k', by rw [Hk.out]; rfl, HP.out.pr (Pr.drewN _ _), hc.drewN _⟩
      rw [Hcons.out] at h; have := Hbd.out; simp at this h; exact absurd h this
  · have hl1 : decide ((k' : Int) < s.size) = false := by simp; omega
    have hl2 : decide (k' < s.size) = false := by simp; omega
    have hnil : skip (sl s k) = [] := by rw [← Hk.out, sl_end (by omega)]
    have Hnil := Lib.hid hnil
    clear hnil
    go_quiet (fail)
    go_wp2_with fail
    go_ret
    refine ⟨false, rfl, ⟨fun h => (by cases h), fun h => ?_⟩, k', by rw [Hk.out]; rfl, HP.out.pr (Pr.drewN _ _), hc.drewN _⟩
    rw [Hnil.out] at h; cases h

set_option maxHeartbeats 1600000 in
theorem rF_any (c a : Int) (w : World) : Calls Try.prog 53 #[.int .i64 c, .int .i64 a] w fun e w' => e = .returned (.agg #[.int .i64 c, .int .i64 a]) ∧ Pr w w' := by
  go_enter Try.func53, Try.ntmps53
  go_wp2_with fail
  exact bodyPost_ret (v := .agg #[.int .i64 c, .int .i64 a]) (by simp [results, Try.results53, go_sem]) rfl ⟨rfl, Pr.alloc _ _⟩
/-- It is wrong: the first fault is kept. -/
def WrPost (M : Nat) (s : ByteArray) (k : Nat) (c : Int) (w : World) (e : Ending) (w' : World) : Prop := e = .returned (.tuple #[]) ∧ RDs w' M s k c (k : Int) ∧ Chg (fun j => j = M) w w'
set_option maxHeartbeats 1600000 in
theorem rwrong_first (w : World) (M : Nat) (s : ByteArray) (k : Nat) (c : Int) (h : RD w M s k) :
    Calls Try.prog 56 #[.pointer (some ⟨M, 0, none⟩), .int .i64 c] w (WrPost M s k c w) := by
  have c1 := h.c1; have c2 := h.c2
  have H := Lib.hid h
  clear h
  go_enter Try.func56, Try.ntmps56
  go_wp2_with (go_at_call 53; (with_reducible refine Calls.mono (rF_any _ _ _) ?_); rintro e w1 ⟨rfl, hp⟩; have H1 := Lib.hid (H.out.pr hp); have c21 := H1.out.c2; have c3 := H1.out.c3; have f2 := H1.out.fz 2; have f3 := H1.out.fz 3)
  go_end0
  refine ⟨rfl, ⟨blk_set (o := 3) (blk_set (o := 2) H1.out.blk _) _, H.out.le, H.out.few⟩, ((hp.chg (fun j => j = M)).setCell ⟨M, 2, none⟩ _ (.inl rfl)).setCell ⟨M, 3, none⟩ _ (.inl rfl)⟩
theorem rwrong_later (w : World) (M : Nat) (s : ByteArray) (k : Nat) (c c' p : Int) (h : RDs w M s k c p) (hc : c ≠ 0) :
    Calls Try.prog 56 #[.pointer (some ⟨M, 0, none⟩), .int .i64 c'] w fun e w' => e = .returned (.tuple #[]) ∧ Pr w w' := by
  have c2 := h.c2
  have e0 : (c == 0) = false := by simpa using hc
  clear h
  go_enter Try.func56, Try.ntmps56
  go_wp2_with fail
  go_end0
  exact ⟨rfl, Pr.refl _⟩
theorem rblanks_later (w : World) (M : Nat) (s : ByteArray) (k : Nat) (c p : Int) (h : RDs w M s k c p) (hc : c ≠ 0) :
    Calls Try.prog 55 #[.pointer (some ⟨M, 0, none⟩)] w fun e w' => e = .returned (.tuple #[]) ∧ Pr w w' := by
  have c2 := h.c2
  have e0 : (c == 0) = false := by simpa using hc
  clear h
  go_enter Try.func55, Try.ntmps55
  go_wp2_with fail
  go_loopw [2] (fun _ wr => Pr w wr) (fun _ _ => 0)
  case atStart => exact Pr.refl _
  case round =>
    have c2 := hrel.cell c2
    go_upto_region 0 with fail
    go_quiet (fail)
    go_wp2_with fail
    go_end0
    exact ⟨rfl, hrel.drewN' _⟩
theorem ris_later (w : World) (M : Nat) (s : ByteArray) (k : Nat) (c p z : Int) (h : RDs w M s k c p) (hc : c ≠ 0) :
    Calls Try.prog 79 #[.pointer (some ⟨M, 0, none⟩), .int .u8 z] w fun e w' => e = .returned (.bool false) ∧ Pr w w' := by
  have B := Lib.hid (rblanks_later w M s k c p h hc)
  have H := Lib.hid h
  have e0 : (c == 0) = false := by simpa using hc
  clear h
  go_enter Try.func79, Try.ntmps79
  go_upto_region 2 with (go_at_call 55; (with_reducible refine Calls.mono B.out ?_); rintro e w1 ⟨rfl, hp⟩)
  have c2 := (H.out.pr hp).c2
  go_quiet (fail)
  go_wp2_with fail
  go_ret
  exact ⟨rfl, hp.trans (Pr.drewN _ _)⟩
end Go.Proofs.Ytdbnfhpgmcjngab
