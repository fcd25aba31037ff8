/- Walks: pleachingref.TextOf. -/
import Derived.Test.YtdbnfhpgmcjngabTi
namespace Go.Proofs.Ytdbnfhpgmcjngab
open Go Go.RowKit

def TxPost (l : ByteArray) (ks : List Tr) (w : World) (e : Ending) (w' : World) : Prop := ∃ b : ByteArray, e = .returned (.string b) ∧ b.data.toList = textT (.node l ks) ∧ Pr w w'
def txPre (l : ByteArray) (ks : List Tr) (i : Nat) : List UInt8 := l.data.toList ++ (if i = 0 then [] else [40] ++ txtL [40] [41] [32] (ks.take i))
theorem txPre_zero (l : ByteArray) (ks : List Tr) : txPre l ks 0 = l.data.toList := by simp [txPre]
theorem txPre_succ (l : ByteArray) (ks : List Tr) (i : Nat) (h : i < ks.length) : txPre l ks (i + 1) = txPre l ks i ++ ((if i = 0 then [40] else [32]) ++ textT ks[i]) := by
  have hsn := txtL_snoc [40] [41] [32] ks[i] (ks.take i)
  rw [← List.take_succ_eq_append_getElem h] at hsn
  unfold txPre
  rw [if_neg (by omega), hsn]
  by_cases h0 : i = 0
  · subst h0; simp [txtL, textT]
  · have : (ks.take i).isEmpty = false := by
      rw [List.isEmpty_eq_false_iff]; intro e; have := congrArg List.length e; rw [List.length_take, List.length_nil] at this; omega
    rw [if_neg h0, if_neg h0, this]; simp [textT]
theorem txPre_nil (l : ByteArray) : txPre l [] 0 = textT (.node l []) := by simp [txPre, textT, txt]
theorem txPre_end (l : ByteArray) (ks : List Tr) (h : ks ≠ []) : txPre l ks ks.length ++ [41] = textT (.node l ks) := by
  have h0 : ks.length ≠ 0 := fun e => h (List.eq_nil_of_length_eq_zero e)
  have h1 : ks.isEmpty = false := by simpa using h
  unfold txPre textT
  rw [if_neg h0, List.take_length, txt, h1]; simp
theorem txPre_le (l : ByteArray) (ks : List Tr) (i : Nat) (h : i ≤ ks.length) : (txPre l ks i).length ≤ (textT (.node l ks)).length := by
  by_cases hn : ks = []
  · subst hn
    obtain rfl : i = 0 := by simpa using h
    rw [txPre_nil]; exact Nat.le_refl _
  · rw [← txPre_end l ks hn]
    have := txtL_take_le [40] [41] [32] ks i
    unfold txPre
    rw [if_neg (fun e => hn (List.eq_nil_of_length_eq_zero e)), List.take_length]
    by_cases h0 : i = 0
    · rw [if_pos h0]; simp only [List.length_append, List.length_nil]; omega
    · rw [if_neg h0]; simp only [List.length_append]; omega
set_option maxRecDepth 100000 in
set_option maxHeartbeats 3200000 in
theorem rtextOf_step (N : Nat) : ∀ (l : ByteArray) (ks : List Tr) (oa cap) (w : World), Tr.szL ks < N → Kids Any w ks oa cap → (textT (.node l ks)).length ≤ 100000 →
    Calls Try.prog 19 #[.agg #[.string l, .slice oa ks.length cap]] w (TxPost l ks w) := by
  induction N with
  | zero => intro l ks oa cap w hN; omega
  | succ N ih =>
    intro l ks oa cap w hN hk hlen
    have Ih := Lib.hid ih
    clear ih
    have hm := hk.len
    obtain ⟨W, hW⟩ : ∃ W, W = w.alloc (.cells #[.string l, .slice oa ks.length cap] 24) := ⟨_, rfl⟩
    have hwW : Pr w W := by rw [hW]; exact Pr.alloc _ _
    have s0 := stays (show W.cell? ⟨w.heap.size, 0, none⟩ = some (.string l) by rw [hW]; simp [go_sem])
    have s1 := stays (show W.cell? ⟨w.heap.size, 1, none⟩ = some (.slice oa ks.length cap) by rw [hW]; simp [go_sem])
    have HW := Lib.hid hwW; have HK := Lib.hid hk
    clear hwW hk
    go_enter Try.func19, Try.ntmps19
    go_upto_region 1 with fail
    rw [← hW]; clear hW
    have x0 := s0 _ (Pr.refl _)
    go_wp2_with fail
    go_loopw [3, 4] (fun v x wr => ∃ (i : Nat) (b : ByteArray), i ≤ ks.length ∧ x = .int .i64 i ∧ v = .string b ∧ b.data.toList = txPre l ks i ∧ Pr W wr) (fun _ x _ => ks.length - (intOf x).toNat)
    case atStart => exact ⟨0, l, by omega, rfl, rfl, (txPre_zero l ks).symm, Pr.refl _⟩
    case round =>
      obtain ⟨i, b, hi, rfl, rfl, hb, hp⟩ := hrel
      have x1 := s1 _ hp
      have hbs : b.size ≤ 100000 := by have := txPre_le l ks i hi; rw [← hb, size_list] at this; omega
      by_cases hlt : i < ks.length
      · obtain ⟨bk, o, l', ks', oa', cap', e1, hl', rfl, c0, c1, hk'⟩ := (HK.out.pr (HW.out.trans hp)).get i hlt
        have hsz := Tr.szL_get ks i hlt
        have hpre := txPre_succ l ks i hlt
        have hle := txPre_le l ks (i + 1) (by omega)
        rw [hpre] at hle
        rw [e1] at hsz hpre hle
        have hl5 : (textT (.node l' ks')).length ≤ 100000 := by simp only [List.length_append] at hle; omega
        simp only [Tr.sz_node] at hsz
        have I := Lib.hid (Ih.out l' ks' oa' cap' wr (by omega) hk' hl5)
        have Hb := Lib.hid hb; have Hpre := Lib.hid hpre
        clear hb hpre e1 hk' hle
        by_cases h0 : i = 0
        · have e0 : ((i : Int) == 0) = true := by simp [h0]
          have H0 := Lib.hid h0
          clear h0
          go_wp2_with (go_at_call 19; (with_reducible refine Calls.mono I.out ?_); rintro e w5 ⟨b5, rfl, hb5, hp5⟩; have hs5 : b5.size ≤ 100000 := (by rw [← size_list, hb5]; exact hl5); have Hb5 := Lib.hid hb5; clear hb5)
          refine ⟨⟨i + 1, _, by omega, by go_num, rfl, ?_, hp.trans hp5⟩, by simp [intOf]; omega⟩
          rw [Hpre.out, if_pos H0.out, ba_list, ba_list, Hb.out, Hb5.out]; simp
        · have e0 : ((i : Int) == 0) = false := by simp [h0]
          have H0 := Lib.hid h0
          clear h0
          go_wp2_with (go_at_call 19; (with_reducible refine Calls.mono I.out ?_); rintro e w5 ⟨b5, rfl, hb5, hp5⟩; have hs5 : b5.size ≤ 100000 := (by rw [← size_list, hb5]; exact hl5); have Hb5 := Lib.hid hb5; clear hb5)
          refine ⟨⟨i + 1, _, by omega, by go_num, rfl, ?_, hp.trans hp5⟩, by simp [intOf]; omega⟩
          rw [Hpre.out, if_neg H0.out, ba_list, ba_list, Hb.out, Hb5.out]; simp
      · have hin : i = ks.length := by omega
        have d1 : decide ((i : Int) < (ks.length : Int)) = false := by simp; omega
        have d2 : decide (i < ks.length) = false := by simp; omega
        have Hin := Lib.hid hin; have Hb := Lib.hid hb
        clear hin hb
        by_cases hnil : ks = []
        · have d3 : decide ((0 : Int) < (ks.length : Int)) = false := by simp [hnil]
          have d4 : decide (0 < ks.length) = false := by simp [hnil]
          have Hnil := Lib.hid hnil
          clear hnil
          go_wp2_with fail
          go_ret
          refine ⟨_, rfl, ?_, HW.out.trans hp⟩
          rw [Hb.out, Hin.out, Hnil.out]; exact txPre_nil l
        · have hpos : 0 < ks.length := List.length_pos_iff.2 hnil
          have d3 : decide ((0 : Int) < (ks.length : Int)) = true := by simp; omega
          have d4 : decide (0 < ks.length) = true := by simp; omega
          have Hnil := Lib.hid hnil
          clear hnil
          go_wp2_with fail
          go_ret
          refine ⟨_, rfl, ?_, HW.out.trans hp⟩
          rw [ba_list, Hb.out, Hin.out]; exact txPre_end l ks Hnil.out
theorem rtextOf_any (l : ByteArray) (ks : List Tr) (oa cap) (w : World) (hk : Kids Any w ks oa cap) (hlen : (textT (.node l ks)).length ≤ 100000) :
    Calls Try.prog 19 #[.agg #[.string l, .slice oa ks.length cap]] w fun e w' => e = .returned (.string ⟨⟨textT (.node l ks)⟩⟩) ∧ Pr w w' := by
  refine (rtextOf_step _ l ks oa cap w (Nat.lt_succ_self _) hk hlen).mono ?_
  rintro e w' ⟨b, rfl, hb, hp⟩
  have : b = ⟨⟨textT (.node l ks)⟩⟩ := by apply ByteArray.ext; apply Array.ext'; exact hb
  rw [this]; exact ⟨rfl, hp⟩
end Go.Proofs.Ytdbnfhpgmcjngab
