/- Walks: the functions that look at a tree's labels and depth. -/
import Derived.Test.YtdbnfhpgmcjngabWa
namespace Go.Proofs.Ytdbnfhpgmcjngab
open Go Go.RowKit

set_option maxHeartbeats 400000 in
/-- slices.IndexFunc at trees, of a function that only looks. -/
theorem indexFunc_any (p : Tr → Bool) (g : Nat) (cv : List Value) (ks : List Tr) (oa cap) (w : World) (hk : Kids Any w ks oa cap)
    (hg : ∀ args w, (callFunc g args).run Try.prog w = .ok (.enter g args) w)
    (H : ∀ (k : Nat) (h : k < ks.length) l' ks' oa' cap' wr, ks[k] = .node l' ks' → l'.size ≤ maxLen → Pr w wr → Kids Any wr ks' oa' cap' →
      Calls Try.prog g (.agg #[.string l', .slice oa' ks'.length cap'] :: cv).toArray wr fun e w' => e = .returned (.bool (p ks[k])) ∧ Pr wr w') :
    Calls Try.prog 93 #[.slice oa ks.length cap, .func (.func g) #[] cv.toArray] w fun e w' =>
      (∃ r : Int, e = .returned (.int .i64 r) ∧ (decide (0 ≤ r) = ks.any p)) ∧ Pr w w' := by
  have hm := hk.len
  have HH := Lib.hid H; clear H
  go_enter Try.func93, Try.ntmps93
  go_wp2_with fail
  go_loopw [8] (fun i wr => ∃ (k : Nat), k ≤ ks.length ∧ i = .int .i64 k ∧ (ks.take k).any p = false ∧ Pr w wr) (fun i _ => ks.length - (intOf i).toNat)
  case atStart => exact ⟨0, by omega, rfl, by simp, Pr.refl _⟩
  case round =>
    obtain ⟨k, hkl, rfl, hr, hb⟩ := hrel
    have Hr := Lib.hid hr; clear hr
    by_cases hlt : k < ks.length
    · obtain ⟨b, o, l', ks', oa', cap', e1, hl', rfl, c0, c1, hk'⟩ := (hk.pr hb).get k hlt
      have hc := HH.out k hlt l' ks' oa' cap' wr e1 hl' hb hk'
      have He := Lib.hid e1; clear e1
      have Hc := Lib.hid hc; clear hc
      have hat : ks.any p = true ∨ p ks[k] = false := by
        by_cases h : p ks[k] = true
        · exact .inl (List.any_eq_true.2 ⟨_, List.getElem_mem hlt, h⟩)
        · exact .inr (by simpa using h)
      by_cases hp : p ks[k] = true
      · have hany : ks.any p = true := List.any_eq_true.2 ⟨_, List.getElem_mem hlt, hp⟩
        have Hany := Lib.hid hany; clear hany hat
        have Hp := Lib.hid hp; clear hp
        go_wp2_with (refine Calls.mono Hc.out ?_; rintro e w' ⟨rfl, hb'⟩; simp only [Hp.out])
        go_ret
        exact ⟨⟨k, rfl, by rw [Hany.out]; simp⟩, hb.trans hb'⟩
      · have hp' : p ks[k] = false := by simpa using hp
        have Hp := Lib.hid hp'; clear hp hp' hat
        go_wp2_with (refine Calls.mono Hc.out ?_; rintro e w' ⟨rfl, hb'⟩; simp only [Hp.out])
        refine ⟨⟨k + 1, by omega, by go_num, ?_, hb.trans hb'⟩, ?_⟩
        · rw [List.take_succ_eq_append_getElem hlt, List.any_append, Hr.out]; simp [Hp.out]
        · simp [intOf]; omega
    · have hkv : k = ks.length := by omega
      go_wp2_with fail
      go_ret
      exact ⟨⟨-1, rfl, by subst hkv; have := Hr.out; rw [List.take_length] at this; rw [this]; rfl⟩, hb⟩

/-- slices.ContainsFunc at trees, likewise. -/
theorem containsFunc_any (p : Tr → Bool) (g : Nat) (cv : List Value) (ks : List Tr) (oa cap) (w : World) (hk : Kids Any w ks oa cap)
    (hg : ∀ args w, (callFunc g args).run Try.prog w = .ok (.enter g args) w)
    (H : ∀ (k : Nat) (h : k < ks.length) l' ks' oa' cap' wr, ks[k] = .node l' ks' → l'.size ≤ maxLen → Pr w wr → Kids Any wr ks' oa' cap' →
      Calls Try.prog g (.agg #[.string l', .slice oa' ks'.length cap'] :: cv).toArray wr fun e w' => e = .returned (.bool (p ks[k])) ∧ Pr wr w') :
    Calls Try.prog 86 #[.slice oa ks.length cap, .func (.func g) #[] cv.toArray] w fun e w' => e = .returned (.bool (ks.any p)) ∧ Pr w w' := by
  have h1 := Lib.hid (indexFunc_any p g cv ks oa cap w hk hg H)
  clear H hg
  go_enter Try.func86, Try.ntmps86
  go_wp2_with (go_at_call 93; refine Calls.mono h1.out ?_; rintro e w' ⟨⟨r, rfl, hr⟩, hb'⟩; have Hr := Lib.hid hr; clear hr)
  go_ret
  exact ⟨ret_bool Hr.out, hb'⟩

theorem deep1_run : ∀ args w, (callFunc 87 args).run Try.prog w = .ok (.enter 87 args) w := fun _ _ => by kernel_rfl
theorem named1_run : ∀ args w, (callFunc 88 args).run Try.prog w = .ok (.enter 88 args) w := fun _ _ => by kernel_rfl

set_option maxHeartbeats 400000 in
theorem deep_any (N : Nat) : ∀ (l : ByteArray) (ks : List Tr) (oa cap) (n : Int) (w : World), Tr.szL ks < N → -1 ≤ n → n ≤ 1000 → l.size ≤ maxLen → Kids Any w ks oa cap →
    Calls Try.prog 65 #[.agg #[.string l, .slice oa ks.length cap], .int .i64 n] w fun e w' => e = .returned (.bool ((Tr.node l ks).deepZ n)) ∧ Pr w w' := by
  induction N with
  | zero => intro l ks oa cap n w hN; omega
  | succ N ih =>
    intro l ks oa cap n w hN h0 h1 hl hk
    have Ih := Lib.hid ih; clear ih
    by_cases hn : 0 ≤ n
    · have hc : ∀ wr, Pr ((w.alloc (.cells #[.string l, .slice oa ks.length cap] 24)).alloc (.cells #[.int .i64 n] 3)) wr →
          Calls Try.prog 86 #[.slice oa ks.length cap, .func (.func 87) #[] #[.pointer (some ⟨w.heap.size + 1, 0, none⟩)]] wr fun e w' => e = .returned (.bool (ks.any fun k => !k.deepZ (n - 1))) ∧ Pr wr w' := by
        intro wr hb
        refine containsFunc_any (fun k => !k.deepZ (n - 1)) 87 [.pointer (some ⟨w.heap.size + 1, 0, none⟩)] ks oa cap wr (((hk.pr (Pr.alloc _ _)).pr (Pr.alloc _ _)).pr hb) deep1_run ?_
        intro k hlt l' ks' oa' cap' wr' e1 hl' hb' hk'
        have hcell : ∀ o, (wr'.alloc o).cell? ⟨w.heap.size + 1, 0, none⟩ = some (.int .i64 n) := fun o => (Pr.alloc _ o).cell (hb'.cell (hb.cell (by simp [go_sem])))
        have hsz := Tr.szL_get ks k hlt
        rw [e1] at hsz ⊢
        simp only [Tr.sz] at hsz
        clear e1
        go_enter Try.func87, Try.ntmps87
        go_wp2_with (go_at_call 65; refine (Ih.out _ _ _ _ _ _ (by omega) (by omega) (by omega) hl' (hk'.pr (Pr.alloc _ _))).mono ?_; rintro e w' ⟨rfl, hb''⟩)
        go_ret
        exact ⟨rfl, (Pr.alloc _ _).trans hb''⟩
      have Hc := Lib.hid hc; clear hc
      go_enter Try.func65, Try.ntmps65
      go_wp2_with (go_at_call 86; refine (Hc.out _ (Pr.refl _)).mono ?_; rintro e w' ⟨rfl, hb⟩)
      go_ret
      refine ⟨ret_bool ?_, ((Pr.alloc _ _).alloc' _).trans hb⟩
      simp only [Tr.deepZ, hn, decide_true, Bool.true_and]
      rw [Bool.eq_iff_iff, Tr.deepZL_iff]; simp
    · go_enter Try.func65, Try.ntmps65
      go_wp2_with fail
      go_ret
      exact ⟨ret_bool (by simp [Tr.deepZ]; intro h; omega), (Pr.alloc _ _).alloc' _⟩

theorem lab_any (s : ByteArray) (w : World) (hs : s.size ≤ maxLen) :
    Calls Try.prog 63 #[.string s] w fun e w' => e = .returned (.bool (isLab s)) ∧ w = w' := by
  unfold maxLen at hs
  go_enter Try.func63, Try.ntmps63
  go_wp2_with fail
  go_loopw [6] (fun i wr => ∃ k : Nat, k ≤ s.size ∧ i = .int .i64 k ∧ (s.data.toList.take k).all okC = true ∧ wr = w) (fun i _ => s.size - (intOf i).toNat)
  case atStart => exact ⟨0, by omega, rfl, by simp, rfl⟩
  case round =>
    obtain ⟨k, hk, rfl, hr, rfl⟩ := hrel
    have Hr := Lib.hid hr; clear hr
    by_cases hlt : k < s.size
    · have Hiff := Lib.hid (okC_iff s[k])
      go_wp2_with fail
      · go_ret
        exact ⟨ret_bool (isLab_bad s k hlt (by rw [Bool.eq_false_iff, Ne, Hiff.out]; omega)).symm, rfl⟩
      · refine ⟨⟨k + 1, by omega, by go_num, okC_snoc s k hlt Hr.out (by rw [Hiff.out]; omega), trivial⟩, ?_⟩
        simp [intOf]; omega
      · go_ret
        exact ⟨ret_bool (isLab_bad s k hlt (by rw [Bool.eq_false_iff, Ne, Hiff.out]; omega)).symm, rfl⟩
    · have hkv : k = s.size := by omega
      have He : Hid (isLab s = (decide (0 < s.size) && decide (s.size ≤ 6))) := okC_end s (hkv ▸ Hr.out)
      go_wp2_with fail
      all_goals
        go_ret
        refine ⟨ret_bool ?_, rfl⟩
        rw [He.out]
        have hsz : s.size = s.toList.length := by rw [ByteArray.toList_eq]; simp
      · rename_i h
        rw [hsz, h]; rfl
      · rename_i h
        have h0 : 0 < s.toList.length := List.length_pos_iff.2 h
        have h1 : s.toList.isEmpty = false := by simpa using h
        rw [← hsz] at h0
        rw [h1, Bool.eq_iff_iff]; simp; omega

set_option maxHeartbeats 400000 in
theorem named_any (N : Nat) : ∀ (l : ByteArray) (ks : List Tr) (oa cap) (w : World), Tr.szL ks < N → l.size ≤ maxLen → Kids Any w ks oa cap →
    Calls Try.prog 66 #[.agg #[.string l, .slice oa ks.length cap]] w fun e w' => e = .returned (.bool ((Tr.node l ks).named)) ∧ Pr w w' := by
  induction N with
  | zero => intro l ks oa cap w hN; omega
  | succ N ih =>
    intro l ks oa cap w hN hl hk
    have Ih := Lib.hid ih; clear ih
    have hc : ∀ wr, Pr (w.alloc (.cells #[.string l, .slice oa ks.length cap] 24)) wr →
        Calls Try.prog 86 #[.slice oa ks.length cap, .func (.func 88) #[] #[]] wr fun e w' => e = .returned (.bool (ks.any fun k => !k.named)) ∧ Pr wr w' := by
      intro wr hb
      refine containsFunc_any (fun k => !k.named) 88 [] ks oa cap wr ((hk.pr (Pr.alloc _ _)).pr hb) named1_run ?_
      intro k hlt l' ks' oa' cap' wr' e1 hl' hb' hk'
      have hsz := Tr.szL_get ks k hlt
      rw [e1] at hsz ⊢
      simp only [Tr.sz] at hsz
      clear e1
      go_enter Try.func88, Try.ntmps88
      go_wp2_with (go_at_call 66; refine (Ih.out _ _ _ _ _ (by omega) hl' (hk'.pr (Pr.alloc _ _))).mono ?_; rintro e w' ⟨rfl, hb''⟩)
      go_ret
      exact ⟨rfl, (Pr.alloc _ _).trans hb''⟩
    have Hc := Lib.hid hc; clear hc
    by_cases hL : isLab l = true
    · have HL := Lib.hid hL; clear hL
      go_enter Try.func66, Try.ntmps66
      go_wp2_with (first | (go_at_call 63; refine (lab_any _ _ hl).mono ?_; rintro e w' ⟨rfl, rfl⟩; simp only [HL.out]) | (go_at_call 86; refine (Hc.out _ (Pr.refl _)).mono ?_; rintro e w' ⟨rfl, hb⟩))
      go_ret
      refine ⟨ret_bool ?_, (Pr.alloc _ _).trans hb⟩
      simp only [Tr.named, HL.out, Bool.true_and]
      rw [Bool.eq_iff_iff, Tr.namedL_iff]; simp
    · have hL' : isLab l = false := by simpa using hL
      have HL := Lib.hid hL'; clear hL hL'
      go_enter Try.func66, Try.ntmps66
      go_wp2_with (go_at_call 63; refine (lab_any _ _ hl).mono ?_; rintro e w' ⟨rfl, rfl⟩; simp only [HL.out])
      go_ret
      exact ⟨ret_bool (by simp [Tr.named, HL.out]), Pr.alloc _ _⟩

set_option maxHeartbeats 400000 in
theorem check_any (l : ByteArray) (ks : List Tr) (oa cap) (w : World) (hl : l.size ≤ maxLen) (hk : Kids Any w ks oa cap) :
    Calls Try.prog 29 #[.agg #[.string l, .slice oa ks.length cap]] w fun e w' => e = .returned (.int .i64 (fault (.node l ks))) ∧ Pr w w' := by
  by_cases h1 : 40 < (Tr.node l ks).sz
  · have hr : leftR (Tr.szL ks + 1) 40 < 0 := by simp only [Tr.sz] at h1; unfold leftR; omega
    have Hf : Hid ((fault (.node l ks) : Int) = 2) := by unfold fault; rw [if_pos h1]; rfl
    clear h1
    go_enter Try.func29, Try.ntmps29
    go_wp2_with (go_at_call 64; refine (left_any _ _ _ _ _ _ _ (Nat.lt_succ_self _) (by omega) (by omega) (hk.pr (Pr.alloc _ _))).mono ?_; rintro e w' ⟨rfl, hb⟩)
    go_ret
    exact ⟨ret_int Hf.out.symm, (Pr.alloc _ _).trans hb⟩
  · have hr : 0 ≤ leftR (Tr.szL ks + 1) 40 := by simp only [Tr.sz] at h1; unfold leftR; omega
    by_cases h2 : (Tr.node l ks).deepZ 10 = true
    · have H2 := Lib.hid h2
      have hn : ∀ b : Bool, (Tr.node l ks).named = b → fault (.node l ks) = if b then 0 else 1 := by
        intro b hb; unfold fault; rw [if_neg h1, h2, hb]; cases b <;> rfl
      have Hn := Lib.hid hn
      clear h1 h2 hn
      have three : ∀ b : Bool, Hid ((Tr.node l ks).named = b) → Calls Try.prog 29 #[.agg #[.string l, .slice oa ks.length cap]] w fun e w' => e = .returned (.int .i64 (fault (.node l ks))) ∧ Pr w w' := by
        intro b Hb
        cases b
        all_goals
          have Hf := Lib.hid (Hn.out _ Hb.out)
          go_enter Try.func29, Try.ntmps29
          go_wp2_with (first
            | (go_at_call 64; refine (left_any _ _ _ _ _ _ _ (Nat.lt_succ_self _) (by omega) (by omega) (hk.pr (Pr.alloc _ _))).mono ?_; rintro e w1 ⟨rfl, hb⟩; have c0 := hb.cell (b := w.heap.size) (o := 0) (v := .string l) (by simp [go_sem]); have c1 := hb.cell (b := w.heap.size) (o := 1) (v := .slice oa ks.length cap) (by simp [go_sem]))
            | (go_at_call 65; refine (deep_any _ _ _ _ _ _ _ (Nat.lt_succ_self _) (by omega) (by omega) hl ((hk.pr (Pr.alloc _ _)).pr (by assumption))).mono ?_; rintro e w2 ⟨rfl, hb2⟩; simp only [H2.out]; have d0 := hb2.cell c0; have d1 := hb2.cell c1; clear c0 c1)
            | (go_at_call 66; refine (named_any _ _ _ _ _ _ (Nat.lt_succ_self _) hl (((hk.pr (Pr.alloc _ _)).pr (by assumption)).pr (by assumption))).mono ?_; rintro e w3 ⟨rfl, hb3⟩; simp only [Hb.out]))
          go_ret
          exact ⟨ret_int (by rw [Hf.out]; rfl), (((Pr.alloc _ _).trans hb).trans hb2).trans hb3⟩
      exact three _ rfl
    · have h2' : (Tr.node l ks).deepZ 10 = false := by simpa using h2
      have H2 := Lib.hid h2'
      have Hf : Hid ((fault (.node l ks) : Int) = 3) := by unfold fault; rw [if_neg h1, if_pos h2']; rfl
      clear h1 h2 h2'
      go_enter Try.func29, Try.ntmps29
      go_wp2_with (first
        | (go_at_call 64; refine (left_any _ _ _ _ _ _ _ (Nat.lt_succ_self _) (by omega) (by omega) (hk.pr (Pr.alloc _ _))).mono ?_; rintro e w1 ⟨rfl, hb⟩; have c0 := hb.cell (b := w.heap.size) (o := 0) (v := .string l) (by simp [go_sem]); have c1 := hb.cell (b := w.heap.size) (o := 1) (v := .slice oa ks.length cap) (by simp [go_sem]))
        | (go_at_call 65; refine (deep_any _ _ _ _ _ _ _ (Nat.lt_succ_self _) (by omega) (by omega) hl ((hk.pr (Pr.alloc _ _)).pr (by assumption))).mono ?_; rintro e w2 ⟨rfl, hb2⟩; simp only [H2.out]))
      go_ret
      exact ⟨ret_int Hf.out.symm, ((Pr.alloc _ _).trans hb).trans hb2⟩
end Go.Proofs.Ytdbnfhpgmcjngab
