/- Walks: are two trees the same? Of the document's answer, and of the program. -/
import Derived.Test.YtdbnfhpgmcjngabWc
namespace Go.Proofs.Ytdbnfhpgmcjngab
open Go Go.RowKit

theorem Tr.beqL_len {a b : List Tr} (h : a.length ≠ b.length) : Tr.beqL a b = false := by
  rw [Bool.eq_false_iff, Ne, Tr.beqL_iff]; intro e; exact h (by rw [e])
theorem Tr.beqL_stop {a b : List Tr} (i : Nat) (h : i < a.length) (h' : i < b.length) (hf : a[i].beq b[i] = false) : Tr.beqL a b = false := by
  rw [Bool.eq_false_iff, Ne, Tr.beqL_iff]; intro e; subst e
  rw [Bool.eq_false_iff, Ne, Tr.beq_iff] at hf; exact hf rfl
theorem Tr.beq_node (l m : ByteArray) (ks js : List Tr) : (Tr.node l ks).beq (.node m js) = (decide (l = m) && Tr.beqL ks js) := rfl
theorem take_snoc_eq {a b : List Tr} (i : Nat) (h : i < a.length) (h' : i < b.length) (he : a.take i = b.take i) (hf : a[i].beq b[i] = true) : a.take (i + 1) = b.take (i + 1) := by
  rw [Tr.beq_iff] at hf
  rw [List.take_succ_eq_append_getElem h, List.take_succ_eq_append_getElem h', he, hf]

theorem toList_ne {l m : ByteArray} (h : ¬ l = m) : ¬ l.toList = m.toList := by
  rw [ByteArray.toList_eq, ByteArray.toList_eq]; intro e; apply h
  cases l; cases m; simp at e; rw [e]

set_option maxHeartbeats 800000 in
theorem same_both (N : Nat) :
    (∀ (l m : ByteArray) (ks js : List Tr) (oa cap ob cbp) (w : World), Tr.szL ks < N → Kids Any w ks oa cap → Kids Any w js ob cbp →
      Calls Try.prog 22 #[.agg #[.string l, .slice oa ks.length cap], .agg #[.string m, .slice ob js.length cbp]] w fun e w' => e = .returned (.bool ((Tr.node l ks).beq (.node m js))) ∧ Pr w w') ∧
    (∀ (ks js : List Tr) (oa cap ob cbp) (w : World), Tr.szL ks < N → Kids Any w ks oa cap → Kids Any w js ob cbp →
      Calls Try.prog 57 #[.slice oa ks.length cap, .slice ob js.length cbp] w fun e w' => e = .returned (.bool (Tr.beqL ks js)) ∧ Pr w w') := by
  induction N with
  | zero => exact ⟨fun l m ks js oa cap ob cbp w hN => by omega, fun ks js oa cap ob cbp w hN => by omega⟩
  | succ N ih =>
    have Ih := Lib.hid ih.1; clear ih
    have lists : ∀ (ks js : List Tr) (oa cap ob cbp) (w : World), Tr.szL ks < N + 1 → Kids Any w ks oa cap → Kids Any w js ob cbp →
        Calls Try.prog 57 #[.slice oa ks.length cap, .slice ob js.length cbp] w fun e w' => e = .returned (.bool (Tr.beqL ks js)) ∧ Pr w w' := by
      intro ks js oa cap ob cbp w hN hk hj
      have hm := hk.len
      have hm2 := hj.len
      by_cases hlen : ks.length = js.length
      case neg =>
        have Hf := Lib.hid (Tr.beqL_len hlen)
        have hne : ((ks.length : Int) != js.length) = true := by simp [bne_iff_ne]; omega
        clear hlen
        go_enter Try.func57, Try.ntmps57
        go_wp2_with fail
        go_ret
        exact ⟨ret_bool Hf.out.symm, Pr.refl _⟩
      have hne : ((ks.length : Int) != js.length) = false := by simp [hlen]
      have Hlen := Lib.hid hlen
      clear hlen
      go_enter Try.func57, Try.ntmps57
      go_wp2_with fail
      go_loopw [5] (fun i wr => ∃ (k : Nat), k ≤ ks.length ∧ i = .int .i64 k ∧ ks.take k = js.take k ∧ Pr w wr) (fun i _ => ks.length - (intOf i).toNat)
      case atStart => exact ⟨0, by omega, rfl, by simp, Pr.refl _⟩
      case round =>
        obtain ⟨k, hkl, rfl, hr, hb⟩ := hrel
        have Hr := Lib.hid hr
        clear hr
        by_cases hlt : k < ks.length
        · have hlt' : k < js.length := by have := Hlen.out; omega
          obtain ⟨b, o, l1, ks1, oa1, cap1, e1, _, rfl, c0, c1, hk1⟩ := (hk.pr hb).get k hlt
          obtain ⟨b', o', l2, ks2, oa2, cap2, e2, _, rfl, d0, d1, hj1⟩ := (hj.pr hb).get k hlt'
          have hsz := Tr.szL_get ks k hlt
          have hst := Tr.beqL_stop k hlt hlt'
          have hsn := take_snoc_eq k hlt hlt' Hr.out
          rw [e1] at hsz
          rw [e1, e2] at hst hsn
          have Hst := Lib.hid hst
          have Hsn := Lib.hid hsn
          clear hst e1 e2 hsn
          simp only [Tr.sz] at hsz
          cases hp : (Tr.node l1 ks1).beq (.node l2 ks2)
          all_goals
            have Hp := Lib.hid hp; clear hp
            go_wp2_with fail
            go_region_held3 (fun w' => w'.cell? ⟨b, o + k * 2, none⟩ = some (.string l1) ∧ w'.cell? ⟨b, o + k * 2 + 1, none⟩ = some (.slice oa1 ks1.length cap1) ∧ w'.cell? ⟨b', o' + k * 2, none⟩ = some (.string l2) ∧ w'.cell? ⟨b', o' + k * 2 + 1, none⟩ = some (.slice oa2 ks2.length cap2))
              (first | go_keep | exact ⟨hb'.cell c0, hb'.cell c1, hb'.cell d0, hb'.cell d1⟩)
              (first | (go_at_call 22; refine (Ih.out _ _ _ _ _ _ _ _ _ (by omega) (hk1.pr (Pr.drew _)) (hj1.pr (Pr.drew _))).mono ?_; rintro e w' ⟨rfl, hb'⟩; simp only [Hp.out]))
            go_wp2_with fail
          · go_ret
            exact ⟨ret_bool (Hst.out Hp.out).symm, (hb.drew').trans hb'⟩
          · refine ⟨⟨k + 1, by omega, by go_num, Hsn.out Hp.out, (hb.drew').trans hb'⟩, ?_⟩
            simp [intOf]; omega
        · have hkv : k = ks.length := by omega
          go_wp2_with fail
          go_ret
          exact ⟨ret_bool (by have h1 := Hr.out; have h2 := Hlen.out; subst hkv; rw [List.take_length, h2, List.take_length] at h1; exact ((Tr.beqL_iff _ _).2 h1).symm), hb⟩
    refine ⟨?_, lists⟩
    intro l m ks js oa cap ob cbp w hN hk hj
    have Hl := Lib.hid lists; clear lists
    by_cases hlm : l = m
    · subst hlm
      have Hf : Hid ((Tr.node l ks).beq (.node l js) = Tr.beqL ks js) := by show (Tr.node l ks).beq _ = _; simp [Tr.beq_node]
      go_enter Try.func22, Try.ntmps22
      go_wp2_with (go_at_call 57; refine (Hl.out _ _ _ _ _ _ _ hN ((hk.pr (Pr.alloc _ _)).pr (Pr.alloc _ _)) ((hj.pr (Pr.alloc _ _)).pr (Pr.alloc _ _))).mono ?_; rintro e w' ⟨rfl, hb⟩)
      go_ret
      exact ⟨ret_bool Hf.out.symm, ((Pr.alloc _ _).alloc' _).trans hb⟩
    · have Hf : Hid ((Tr.node l ks).beq (.node m js) = false) := by show (Tr.node l ks).beq _ = _; simp [Tr.beq_node, hlm]
      have hl1 := toList_ne hlm
      have hl2 : (l.toList == m.toList) = false := by simpa using hl1
      clear hlm
      go_enter Try.func22, Try.ntmps22
      go_wp2_with fail
      go_ret
      exact ⟨ret_bool Hf.out.symm, (Pr.alloc _ _).alloc' _⟩

theorem same_run : ∀ args w, (callFunc 58 args).run Try.prog w = .ok (.enter 58 args) w := fun _ _ => by kernel_rfl

set_option maxHeartbeats 800000 in
theorem psame_both (N : Nat) :
    (∀ (l m : ByteArray) (ks js : List Tr) (oa cap ob cbp) (w : World), Tr.szL ks < N → Kids Any w ks oa cap → Kids Any w js ob cbp →
      Calls Try.prog 58 #[.agg #[.string l, .slice oa ks.length cap], .agg #[.string m, .slice ob js.length cbp]] w fun e w' => e = .returned (.bool ((Tr.node l ks).beq (.node m js))) ∧ Pr w w') ∧
    (∀ (ks js : List Tr) (oa cap ob cbp) (w : World), Tr.szL ks < N → Kids Any w ks oa cap → Kids Any w js ob cbp →
      Calls Try.prog 80 #[.slice oa ks.length cap, .slice ob js.length cbp, .func (.func 58) #[] #[]] w fun e w' => e = .returned (.bool (Tr.beqL ks js)) ∧ Pr w w') := by
  induction N with
  | zero => exact ⟨fun l m ks js oa cap ob cbp w hN => by omega, fun ks js oa cap ob cbp w hN => by omega⟩
  | succ N ih =>
    have Ih := Lib.hid ih.1; clear ih
    have lists : ∀ (ks js : List Tr) (oa cap ob cbp) (w : World), Tr.szL ks < N + 1 → Kids Any w ks oa cap → Kids Any w js ob cbp →
        Calls Try.prog 80 #[.slice oa ks.length cap, .slice ob js.length cbp, .func (.func 58) #[] #[]] w fun e w' => e = .returned (.bool (Tr.beqL ks js)) ∧ Pr w w' := by
      intro ks js oa cap ob cbp w hN hk hj
      have hm := hk.len
      have hm2 := hj.len
      have hrun := same_run
      by_cases hlen : ks.length = js.length
      case neg =>
        have Hf := Lib.hid (Tr.beqL_len hlen)
        have hne : ((ks.length : Int) != js.length) = true := by simp [bne_iff_ne]; omega
        clear hlen
        go_enter Try.func80, Try.ntmps80
        go_wp2_with fail
        go_ret
        exact ⟨ret_bool Hf.out.symm, Pr.refl _⟩
      have hne : ((ks.length : Int) != js.length) = false := by simp [hlen]
      have Hlen := Lib.hid hlen
      clear hlen
      go_enter Try.func80, Try.ntmps80
      go_wp2_with fail
      go_loopw [17] (fun i wr => ∃ (k : Nat), k ≤ ks.length ∧ i = .int .i64 k ∧ ks.take k = js.take k ∧ Pr w wr) (fun i _ => ks.length - (intOf i).toNat)
      case atStart => exact ⟨0, by omega, rfl, by simp, Pr.refl _⟩
      case round =>
        obtain ⟨k, hkl, rfl, hr, hb⟩ := hrel
        have Hr := Lib.hid hr
        clear hr
        by_cases hlt : k < ks.length
        · have hlt' : k < js.length := by have := Hlen.out; omega
          obtain ⟨b, o, l1, ks1, oa1, cap1, e1, _, rfl, c0, c1, hk1⟩ := (hk.pr hb).get k hlt
          obtain ⟨b', o', l2, ks2, oa2, cap2, e2, _, rfl, d0, d1, hj1⟩ := (hj.pr hb).get k hlt'
          have d0' : ∀ o1, (wr.alloc o1).cell? ⟨b', o' + k * 2, none⟩ = some (.string l2) := fun o1 => (Pr.alloc _ _).cell d0
          have d1' : ∀ o1, (wr.alloc o1).cell? ⟨b', o' + k * 2 + 1, none⟩ = some (.slice oa2 ks2.length cap2) := fun o1 => (Pr.alloc _ _).cell d1
          have hsz := Tr.szL_get ks k hlt
          have hst := Tr.beqL_stop k hlt hlt'
          have hsn := take_snoc_eq k hlt hlt' Hr.out
          rw [e1] at hsz
          rw [e1, e2] at hst hsn
          have Hst := Lib.hid hst
          have Hsn := Lib.hid hsn
          clear hst e1 e2 hsn
          simp only [Tr.sz] at hsz
          cases hp : (Tr.node l1 ks1).beq (.node l2 ks2)
          all_goals
            have Hp := Lib.hid hp; clear hp
            go_wp2_with (go_at_call 58; refine (Ih.out _ _ _ _ _ _ _ _ _ (by omega) (hk1.pr (Pr.alloc' (Pr.alloc _ _) _)) (hj1.pr (Pr.alloc' (Pr.alloc _ _) _))).mono ?_; rintro e w' ⟨rfl, hb'⟩; simp only [Hp.out])
          · go_ret
            exact ⟨ret_bool (Hst.out Hp.out).symm, (hb.trans (Pr.alloc' (Pr.alloc _ _) _)).trans hb'⟩
          · refine ⟨⟨k + 1, by omega, by go_num, Hsn.out Hp.out, (hb.trans (Pr.alloc' (Pr.alloc _ _) _)).trans hb'⟩, ?_⟩
            simp [intOf]; omega
        · have hkv : k = ks.length := by omega
          go_wp2_with fail
          go_ret
          exact ⟨ret_bool (by have h1 := Hr.out; have h2 := Hlen.out; subst hkv; rw [List.take_length, h2, List.take_length] at h1; exact ((Tr.beqL_iff _ _).2 h1).symm), hb⟩
    refine ⟨?_, lists⟩
    intro l m ks js oa cap ob cbp w hN hk hj
    have Hl := Lib.hid lists; clear lists
    by_cases hlm : l = m
    · subst hlm
      have Hf : Hid ((Tr.node l ks).beq (.node l js) = Tr.beqL ks js) := by show (Tr.node l ks).beq _ = _; simp [Tr.beq_node]
      go_enter Try.func58, Try.ntmps58
      go_wp2_with (go_at_call 80; refine (Hl.out _ _ _ _ _ _ _ hN ((hk.pr (Pr.alloc _ _)).pr (Pr.alloc _ _)) ((hj.pr (Pr.alloc _ _)).pr (Pr.alloc _ _))).mono ?_; rintro e w' ⟨rfl, hb⟩)
      go_ret
      exact ⟨ret_bool Hf.out.symm, ((Pr.alloc _ _).alloc' _).trans hb⟩
    · have Hf : Hid ((Tr.node l ks).beq (.node m js) = false) := by show (Tr.node l ks).beq _ = _; simp [Tr.beq_node, hlm]
      have hl1 := toList_ne hlm
      have hl2 : (l.toList == m.toList) = false := by simpa using hl1
      clear hlm
      go_enter Try.func58, Try.ntmps58
      go_wp2_with fail
      go_ret
      exact ⟨ret_bool Hf.out.symm, (Pr.alloc _ _).alloc' _⟩
theorem sameTree_any (l m : ByteArray) (ks js : List Tr) (oa cap ob cbp) (w : World) (hk : Kids Any w ks oa cap) (hj : Kids Any w js ob cbp) :
    Calls Try.prog 22 #[.agg #[.string l, .slice oa ks.length cap], .agg #[.string m, .slice ob js.length cbp]] w fun e w' => e = .returned (.bool ((Tr.node l ks).beq (.node m js))) ∧ Pr w w' :=
  (same_both _).1 l m ks js oa cap ob cbp w (Nat.lt_succ_self _) hk hj
theorem psame_any (l m : ByteArray) (ks js : List Tr) (oa cap ob cbp) (w : World) (hk : Kids Any w ks oa cap) (hj : Kids Any w js ob cbp) :
    Calls Try.prog 58 #[.agg #[.string l, .slice oa ks.length cap], .agg #[.string m, .slice ob js.length cbp]] w fun e w' => e = .returned (.bool ((Tr.node l ks).beq (.node m js))) ∧ Pr w w' :=
  (psame_both _).1 l m ks js oa cap ob cbp w (Nat.lt_succ_self _) hk hj
end Go.Proofs.Ytdbnfhpgmcjngab
