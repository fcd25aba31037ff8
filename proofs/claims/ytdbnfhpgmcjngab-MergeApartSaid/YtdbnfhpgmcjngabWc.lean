/- Walks: what the document's answer looks at in a tree. -/
import Derived.Test.YtdbnfhpgmcjngabWb
namespace Go.Proofs.Ytdbnfhpgmcjngab
open Go Go.RowKit

set_option maxHeartbeats 400000 in
theorem isLabel_any (s : ByteArray) (w : World) (hs : s.size ≤ maxLen) :
    Calls Try.prog 69 #[.string s] w fun e w' => e = .returned (.bool (isLab s)) ∧ w = w' := by
  unfold maxLen at hs
  by_cases h6 : 1 ≤ s.size ∧ s.size ≤ 6
  · obtain ⟨h1, h2⟩ := h6
    go_enter Try.func69, Try.ntmps69
    go_wp2_with fail
    go_loopw [3] (fun i wr => ∃ k : Nat, k ≤ s.size ∧ i = .int .i64 k ∧ (s.data.toList.take k).all okC = true ∧ wr = w) (fun i _ => s.size - (intOf i).toNat)
    case atStart => exact ⟨0, by omega, rfl, by simp, rfl⟩
    case round =>
      obtain ⟨k, hk, rfl, hr, rfl⟩ := hrel
      have Hr := Lib.hid hr; clear hr
      by_cases hlt : k < s.size
      · have Hiff := Lib.hid (okC_iff s[k])
        go_wp2_with fail
        · go_ret
          exact ⟨ret_bool (isLab_bad s k hlt (by rw [Bool.eq_false_iff, Ne, Hiff.out]; omega)).symm, rfl⟩
        · refine ⟨⟨k + 1, by omega, by go_num, okC_snoc s k hlt Hr.out (by rw [Hiff.out]; omega), trivial⟩, ?_⟩
          simp [intOf]; omega
        · go_ret
          exact ⟨ret_bool (isLab_bad s k hlt (by rw [Bool.eq_false_iff, Ne, Hiff.out]; omega)).symm, rfl⟩
      · have hkv : k = s.size := by omega
        have He : Hid (isLab s = (decide (0 < s.size) && decide (s.size ≤ 6))) := okC_end s (hkv ▸ Hr.out)
        go_wp2_with fail
        go_ret
        refine ⟨ret_bool ?_, rfl⟩
        rw [He.out, Bool.eq_iff_iff]; simp; omega
  · have hf : Hid (isLab s = false) := by
      show isLab s = false
      rw [isLab_eq, Bool.eq_false_iff]; simp; intro _ _; omega
    by_cases h1 : s.size < 1
    all_goals
      go_enter Try.func69, Try.ntmps69
      go_wp2_with fail
      go_ret
      exact ⟨ret_bool hf.out.symm, rfl⟩

set_option maxHeartbeats 400000 in
theorem longLabel_any (N : Nat) : ∀ (l : ByteArray) (ks : List Tr) (oa cap) (w : World), Tr.szL ks < N → Kids Any w ks oa cap →
    Calls Try.prog 44 #[.agg #[.string l, .slice oa ks.length cap]] w fun e w' => e = .returned (.bool ((Tr.node l ks).longB)) ∧ Pr w w' := by
  induction N with
  | zero => intro l ks oa cap w hN; omega
  | succ N ih =>
    intro l ks oa cap w hN hk
    have Ih := Lib.hid ih; clear ih
    have hm := hk.len
    by_cases h50 : 50 < l.size
    · have Hf : Hid ((Tr.node l ks).longB = true) := by show (Tr.node l ks).longB = true; simp [Tr.longB, h50]
      go_enter Try.func44, Try.ntmps44
      go_wp2_with fail
      go_ret
      exact ⟨ret_bool Hf.out.symm, Pr.alloc _ _⟩
    have Hf : Hid ((Tr.node l ks).longB = Tr.longBL ks) := by show (Tr.node l ks).longB = _; simp [Tr.longB, h50]
    go_enter Try.func44, Try.ntmps44
    go_wp2_with fail
    go_loopw [3] (fun i wr => ∃ (k : Nat), k ≤ ks.length ∧ i = .int .i64 k ∧ Tr.longBL (ks.take k) = false ∧ Pr (w.alloc (.cells #[.string l, .slice oa ks.length cap] 24)) wr) (fun i _ => ks.length - (intOf i).toNat)
    case atStart => exact ⟨0, by omega, rfl, by simp [Tr.longBL], Pr.refl _⟩
    case round =>
      obtain ⟨k, hkl, rfl, hr, hb⟩ := hrel
      have hc0 : wr.cell? ⟨w.heap.size, 1, none⟩ = some (.slice oa ks.length cap) := hb.cell (by simp [go_sem])
      have Hr := Lib.hid hr
      clear hr
      by_cases hlt : k < ks.length
      · obtain ⟨b, o, l', ks', oa', cap', e1, _, rfl, c0, c1, hk'⟩ := ((hk.pr (Pr.alloc _ _)).pr hb).get k hlt
        have hs := Tr.longBL_take ks k hlt
        have hst := Tr.longBL_stop ks k hlt
        have hsz := Tr.szL_get ks k hlt
        rw [e1] at hs hsz hst
        have Hs := Lib.hid hs
        have Hst := Lib.hid hst
        have He := Lib.hid e1
        clear hs e1 hst
        simp only [Tr.sz] at hsz
        by_cases hp : (Tr.node l' ks').longB = true
        · have Hp := Lib.hid hp; clear hp
          go_wp2_with (go_at_call 44; refine (Ih.out _ _ _ _ _ (by omega) hk').mono ?_; rintro e w' ⟨rfl, hb'⟩; simp only [Hp.out])
          go_ret
          exact ⟨ret_bool (by rw [Hf.out, Hst.out Hp.out]), ((Pr.alloc _ _).trans hb).trans hb'⟩
        · have hp' : (Tr.node l' ks').longB = false := by simpa using hp
          have Hp := Lib.hid hp'; clear hp hp'
          go_wp2_with (go_at_call 44; refine (Ih.out _ _ _ _ _ (by omega) hk').mono ?_; rintro e w' ⟨rfl, hb'⟩; simp only [Hp.out])
          refine ⟨⟨k + 1, by omega, by go_num, by rw [Hs.out, Hr.out, Hp.out]; rfl, hb.trans hb'⟩, ?_⟩
          simp [intOf]; omega
      · have hkv : k = ks.length := by omega
        go_wp2_with fail
        go_ret
        exact ⟨ret_bool (by have h1 := Hr.out; subst hkv; rw [List.take_length] at h1; rw [Hf.out, h1]), (Pr.alloc _ _).trans hb⟩

set_option maxHeartbeats 400000 in
theorem great_any (l : ByteArray) (ks : List Tr) (oa cap) (w : World) (hk : Kids Any w ks oa cap) :
    Calls Try.prog 15 #[.agg #[.string l, .slice oa ks.length cap]] w fun e w' => e = .returned (.bool (great (.node l ks))) ∧ Pr w w' := by
  by_cases h2 : 200 < Tr.szL ks + 1
  · have Hf : Hid (great (.node l ks) = true) := by show great (.node l ks) = true; unfold great; rw [decide_eq_true (show 200 < (Tr.node l ks).sz from h2)]; rfl
    have hs : 200 < sizeR (Tr.szL ks + 1) 200 := by unfold sizeR; omega
    clear h2
    go_enter Try.func15, Try.ntmps15
    go_wp2_with (go_at_call 43; refine (sizeOf_any _ _ _ _ _ _ _ (Nat.lt_succ_self _) (by omega) (by omega) (hk.pr (Pr.alloc _ _))).mono ?_; rintro e w1 ⟨rfl, hb⟩)
    go_ret
    exact ⟨ret_bool Hf.out.symm, (Pr.alloc _ _).trans hb⟩
  · have Hf : Hid (great (.node l ks) = (Tr.node l ks).longB) := by show great (.node l ks) = _; unfold great; rw [decide_eq_false (show ¬ 200 < (Tr.node l ks).sz from h2)]; rfl
    have hs : sizeR (Tr.szL ks + 1) 200 ≤ 200 := by unfold sizeR; omega
    clear h2
    go_enter Try.func15, Try.ntmps15
    go_wp2_with (first
      | (go_at_call 43; refine (sizeOf_any _ _ _ _ _ _ _ (Nat.lt_succ_self _) (by omega) (by omega) (hk.pr (Pr.alloc _ _))).mono ?_; rintro e w1 ⟨rfl, hb⟩; have c0 := hb.cell (b := w.heap.size) (o := 0) (v := .string l) (by simp [go_sem]); have c1 := hb.cell (b := w.heap.size) (o := 1) (v := .slice oa ks.length cap) (by simp [go_sem]))
      | (go_at_call 44; refine (longLabel_any _ _ _ _ _ _ (Nat.lt_succ_self _) ((hk.pr (Pr.alloc _ _)).pr (by assumption))).mono ?_; rintro e w2 ⟨rfl, hb2⟩))
    go_ret
    refine ⟨ret_bool ?_, ((Pr.alloc _ _).trans hb).trans hb2⟩
    rw [decide_eq_false (by omega), Bool.false_or]; exact Hf.out.symm

set_option maxHeartbeats 400000 in
theorem tooDeep_any (N : Nat) : ∀ (l : ByteArray) (ks : List Tr) (oa cap) (n : Int) (w : World), Tr.szL ks < N → 0 ≤ n → n ≤ 1000 → Kids Any w ks oa cap →
    Calls Try.prog 47 #[.agg #[.string l, .slice oa ks.length cap], .int .i64 n] w fun e w' => e = .returned (.bool (!(Tr.node l ks).deepZ (10 - n))) ∧ Pr w w' := by
  induction N with
  | zero => intro l ks oa cap n w hN; omega
  | succ N ih =>
    intro l ks oa cap n w hN h0 h1 hk
    have Ih := Lib.hid ih; clear ih
    have hm := hk.len
    by_cases h10 : 10 < n
    · have Hf : Hid ((Tr.node l ks).deepZ (10 - n) = false) := by show (Tr.node l ks).deepZ _ = _; simp [Tr.deepZ]; intro h; omega
      go_enter Try.func47, Try.ntmps47
      go_wp2_with fail
      go_ret
      exact ⟨ret_bool (by rw [Hf.out]; rfl), Pr.alloc _ _⟩
    have Hf : Hid ((Tr.node l ks).deepZ (10 - n) = Tr.deepZL ks (10 - (n + 1))) := by
      show (Tr.node l ks).deepZ _ = _
      simp only [Tr.deepZ]; rw [show (10 - n - 1 : Int) = 10 - (n + 1) by omega, decide_eq_true (by omega), Bool.true_and]
    go_enter Try.func47, Try.ntmps47
    go_wp2_with fail
    go_loopw [5] (fun i wr => ∃ (k : Nat), k ≤ ks.length ∧ i = .int .i64 k ∧ Tr.deepZL (ks.take k) (10 - (n + 1)) = true ∧ Pr (w.alloc (.cells #[.string l, .slice oa ks.length cap] 24)) wr) (fun i _ => ks.length - (intOf i).toNat)
    case atStart => exact ⟨0, by omega, rfl, by simp [Tr.deepZL], Pr.refl _⟩
    case round =>
      obtain ⟨k, hkl, rfl, hr, hb⟩ := hrel
      have hc0 : wr.cell? ⟨w.heap.size, 1, none⟩ = some (.slice oa ks.length cap) := hb.cell (by simp [go_sem])
      have Hr := Lib.hid hr
      clear hr
      by_cases hlt : k < ks.length
      · obtain ⟨b, o, l', ks', oa', cap', e1, _, rfl, c0, c1, hk'⟩ := ((hk.pr (Pr.alloc _ _)).pr hb).get k hlt
        have hs := Tr.deepZL_take ks k hlt (10 - (n + 1))
        have hst := Tr.deepZL_stop ks k hlt (10 - (n + 1))
        have hsz := Tr.szL_get ks k hlt
        rw [e1] at hs hsz hst
        have Hs := Lib.hid hs
        have Hst := Lib.hid hst
        have He := Lib.hid e1
        clear hs e1 hst
        simp only [Tr.sz] at hsz
        by_cases hp : (Tr.node l' ks').deepZ (10 - (n + 1)) = true
        · have Hp := Lib.hid hp; clear hp
          go_wp2_with (go_at_call 47; refine (Ih.out _ _ _ _ _ _ (by omega) (by omega) (by omega) hk').mono ?_; rintro e w' ⟨rfl, hb'⟩; simp only [Hp.out])
          refine ⟨⟨k + 1, by omega, by go_num, by rw [Hs.out, Hr.out, Hp.out]; rfl, hb.trans hb'⟩, ?_⟩
          simp [intOf]; omega
        · have hp' : (Tr.node l' ks').deepZ (10 - (n + 1)) = false := by simpa using hp
          have Hp := Lib.hid hp'; clear hp hp'
          go_wp2_with (go_at_call 47; refine (Ih.out _ _ _ _ _ _ (by omega) (by omega) (by omega) hk').mono ?_; rintro e w' ⟨rfl, hb'⟩; simp only [Hp.out])
          go_ret
          exact ⟨ret_bool (by rw [Hf.out, Hst.out Hp.out]; rfl), ((Pr.alloc _ _).trans hb).trans hb'⟩
      · have hkv : k = ks.length := by omega
        go_wp2_with fail
        go_ret
        exact ⟨ret_bool (by have h1 := Hr.out; subst hkv; rw [List.take_length] at h1; rw [Hf.out, h1]; rfl), (Pr.alloc _ _).trans hb⟩

set_option maxHeartbeats 400000 in
theorem badLabel_any (N : Nat) : ∀ (l : ByteArray) (ks : List Tr) (oa cap) (w : World), Tr.szL ks < N → l.size ≤ maxLen → Kids Any w ks oa cap →
    Calls Try.prog 48 #[.agg #[.string l, .slice oa ks.length cap]] w fun e w' => e = .returned (.bool (!(Tr.node l ks).named)) ∧ Pr w w' := by
  induction N with
  | zero => intro l ks oa cap w hN; omega
  | succ N ih =>
    intro l ks oa cap w hN hl hk
    have Ih := Lib.hid ih; clear ih
    have hm := hk.len
    by_cases hL : isLab l = true
    case neg =>
      have hL' : isLab l = false := by simpa using hL
      have HL := Lib.hid hL'; clear hL hL'
      go_enter Try.func48, Try.ntmps48
      go_wp2_with (go_at_call 69; refine (isLabel_any _ _ hl).mono ?_; rintro e w' ⟨rfl, rfl⟩; simp only [HL.out])
      go_ret
      exact ⟨ret_bool (by simp [Tr.named, HL.out]), Pr.alloc _ _⟩
    have HL := Lib.hid hL; clear hL
    have Hf : Hid ((Tr.node l ks).named = Tr.namedL ks) := by show (Tr.node l ks).named = _; simp [Tr.named, HL.out]
    go_enter Try.func48, Try.ntmps48
    go_wp2_with (go_at_call 69; refine (isLabel_any _ _ hl).mono ?_; rintro e w' ⟨rfl, rfl⟩; simp only [HL.out])
    go_loopw [3] (fun i wr => ∃ (k : Nat), k ≤ ks.length ∧ i = .int .i64 k ∧ Tr.namedL (ks.take k) = true ∧ Pr (w.alloc (.cells #[.string l, .slice oa ks.length cap] 24)) wr) (fun i _ => ks.length - (intOf i).toNat)
    case atStart => exact ⟨0, by omega, rfl, by simp [Tr.namedL], Pr.refl _⟩
    case round =>
      obtain ⟨k, hkl, rfl, hr, hb⟩ := hrel
      have hc0 : wr.cell? ⟨w.heap.size, 1, none⟩ = some (.slice oa ks.length cap) := hb.cell (by simp [go_sem])
      have Hr := Lib.hid hr
      clear hr
      by_cases hlt : k < ks.length
      · obtain ⟨b, o, l', ks', oa', cap', e1, hl', rfl, c0, c1, hk'⟩ := ((hk.pr (Pr.alloc _ _)).pr hb).get k hlt
        have hs := Tr.namedL_take ks k hlt
        have hst := Tr.namedL_stop ks k hlt
        have hsz := Tr.szL_get ks k hlt
        rw [e1] at hs hsz hst
        have Hs := Lib.hid hs
        have Hst := Lib.hid hst
        have He := Lib.hid e1
        clear hs e1 hst
        simp only [Tr.sz] at hsz
        by_cases hp : (Tr.node l' ks').named = true
        · have Hp := Lib.hid hp; clear hp
          go_wp2_with (go_at_call 48; refine (Ih.out _ _ _ _ _ (by omega) hl' hk').mono ?_; rintro e w' ⟨rfl, hb'⟩; simp only [Hp.out])
          refine ⟨⟨k + 1, by omega, by go_num, by rw [Hs.out, Hr.out, Hp.out]; rfl, hb.trans hb'⟩, ?_⟩
          simp [intOf]; omega
        · have hp' : (Tr.node l' ks').named = false := by simpa using hp
          have Hp := Lib.hid hp'; clear hp hp'
          go_wp2_with (go_at_call 48; refine (Ih.out _ _ _ _ _ (by omega) hl' hk').mono ?_; rintro e w' ⟨rfl, hb'⟩; simp only [Hp.out])
          go_ret
          exact ⟨ret_bool (by rw [Hf.out, Hst.out Hp.out]; rfl), ((Pr.alloc _ _).trans hb).trans hb'⟩
      · have hkv : k = ks.length := by omega
        go_wp2_with fail
        go_ret
        exact ⟨ret_bool (by have h1 := Hr.out; subst hkv; rw [List.take_length] at h1; rw [Hf.out, h1]; rfl), (Pr.alloc _ _).trans hb⟩

set_option maxHeartbeats 400000 in
theorem treeFault_any (l : ByteArray) (ks : List Tr) (oa cap) (w : World) (hl : l.size ≤ maxLen) (hk : Kids Any w ks oa cap) :
    Calls Try.prog 18 #[.agg #[.string l, .slice oa ks.length cap]] w fun e w' => e = .returned (.int .i64 (fault (.node l ks))) ∧ Pr w w' := by
  by_cases h1 : 40 < (Tr.node l ks).sz
  · have hr : 40 < sizeR (Tr.szL ks + 1) 40 := by simp only [Tr.sz] at h1; unfold sizeR; omega
    have Hf : Hid ((fault (.node l ks) : Int) = 2) := by unfold fault; rw [if_pos h1]; rfl
    clear h1
    go_enter Try.func18, Try.ntmps18
    go_wp2_with (go_at_call 43; refine (sizeOf_any _ _ _ _ _ _ _ (Nat.lt_succ_self _) (by omega) (by omega) (hk.pr (Pr.alloc _ _))).mono ?_; rintro e w' ⟨rfl, hb⟩)
    go_ret
    exact ⟨ret_int Hf.out.symm, (Pr.alloc _ _).trans hb⟩
  · have hr : sizeR (Tr.szL ks + 1) 40 ≤ 40 := by simp only [Tr.sz] at h1; unfold sizeR; omega
    by_cases h2 : (Tr.node l ks).deepZ 10 = true
    · have H2 : Hid ((Tr.node l ks).deepZ (10 - 0) = true) := h2
      have hn : ∀ b : Bool, (Tr.node l ks).named = b → fault (.node l ks) = if b then 0 else 1 := by
        intro b hb; unfold fault; rw [if_neg h1, h2, hb]; cases b <;> rfl
      have Hn := Lib.hid hn
      clear h1 h2 hn
      have three : ∀ b : Bool, Hid ((Tr.node l ks).named = b) → Calls Try.prog 18 #[.agg #[.string l, .slice oa ks.length cap]] w fun e w' => e = .returned (.int .i64 (fault (.node l ks))) ∧ Pr w w' := by
        intro b Hb
        cases b
        all_goals
          have Hf := Lib.hid (Hn.out _ Hb.out)
          go_enter Try.func18, Try.ntmps18
          go_wp2_with (first
            | (go_at_call 43; refine (sizeOf_any _ _ _ _ _ _ _ (Nat.lt_succ_self _) (by omega) (by omega) (hk.pr (Pr.alloc _ _))).mono ?_; rintro e w1 ⟨rfl, hb⟩; have c0 := hb.cell (b := w.heap.size) (o := 0) (v := .string l) (by simp [go_sem]); have c1 := hb.cell (b := w.heap.size) (o := 1) (v := .slice oa ks.length cap) (by simp [go_sem]))
            | (go_at_call 47; refine (tooDeep_any _ _ _ _ _ 0 _ (Nat.lt_succ_self _) (by omega) (by omega) ((hk.pr (Pr.alloc _ _)).pr (by assumption))).mono ?_; rintro e w2 ⟨rfl, hb2⟩; simp only [H2.out]; have d0 := hb2.cell c0; have d1 := hb2.cell c1; clear c0 c1)
            | (go_at_call 48; refine (badLabel_any _ _ _ _ _ _ (Nat.lt_succ_self _) hl (((hk.pr (Pr.alloc _ _)).pr (by assumption)).pr (by assumption))).mono ?_; rintro e w3 ⟨rfl, hb3⟩; simp only [Hb.out]))
          go_ret
          exact ⟨ret_int (by rw [Hf.out]; rfl), (((Pr.alloc _ _).trans hb).trans hb2).trans hb3⟩
      exact three _ rfl
    · have h2' : (Tr.node l ks).deepZ 10 = false := by simpa using h2
      have H2 : Hid ((Tr.node l ks).deepZ (10 - 0) = false) := h2'
      have Hf : Hid ((fault (.node l ks) : Int) = 3) := by unfold fault; rw [if_neg h1, if_pos h2']; rfl
      clear h1 h2 h2'
      go_enter Try.func18, Try.ntmps18
      go_wp2_with (first
        | (go_at_call 43; refine (sizeOf_any _ _ _ _ _ _ _ (Nat.lt_succ_self _) (by omega) (by omega) (hk.pr (Pr.alloc _ _))).mono ?_; rintro e w1 ⟨rfl, hb⟩; have c0 := hb.cell (b := w.heap.size) (o := 0) (v := .string l) (by simp [go_sem]); have c1 := hb.cell (b := w.heap.size) (o := 1) (v := .slice oa ks.length cap) (by simp [go_sem]))
        | (go_at_call 47; refine (tooDeep_any _ _ _ _ _ 0 _ (Nat.lt_succ_self _) (by omega) (by omega) ((hk.pr (Pr.alloc _ _)).pr (by assumption))).mono ?_; rintro e w2 ⟨rfl, hb2⟩; simp only [H2.out]))
      go_ret
      exact ⟨ret_int Hf.out.symm, ((Pr.alloc _ _).trans hb).trans hb2⟩
end Go.Proofs.Ytdbnfhpgmcjngab
