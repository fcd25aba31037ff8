/- Walks: are two lists of numbers, of nodes, the same? -/
import Derived.Test.YtdbnfhpgmcjngaaWo
namespace Go.Proofs.Ytdbnfhpgmcjngaa
open Go Go.RowKit

theorem take_snoc_gen {α : Type} {a b : List α} (i : Nat) (h : i < a.length) (h' : i < b.length) (he : a.take i = b.take i) (hf : a[i] = b[i]) : a.take (i + 1) = b.take (i + 1) := by
  rw [List.take_succ_eq_append_getElem h, List.take_succ_eq_append_getElem h', he, hf]

set_option maxHeartbeats 800000 in
theorem sameInts_any (xs ys : List Int) (oa cap ob cbp) (w : World) (hx : Ints Any w xs oa cap) (hy : Ints Any w ys ob cbp) :
    Calls Try.prog 34 #[.slice oa xs.length cap, .slice ob ys.length cbp] w fun e w' => e = .returned (.bool (decide (xs = ys))) ∧ Pr w w' := by
  have hm := Ints.len hx
  have hm2 := Ints.len hy
  by_cases hlen : xs.length = ys.length
  case neg =>
    have Hf : Hid (decide (xs = ys) = false) := decide_eq_false (fun e => hlen (by rw [e]))
    have hne : ((xs.length : Int) != ys.length) = true := by simp [bne_iff_ne]; omega
    clear hlen
    go_enter Try.func34, Try.ntmps34
    go_wp2_with fail
    go_ret
    exact ⟨ret_bool Hf.out.symm, Pr.refl _⟩
  have hne : ((xs.length : Int) != ys.length) = false := by simp [hlen]
  have Hlen := Lib.hid hlen
  clear hlen
  go_enter Try.func34, Try.ntmps34
  go_wp2_with fail
  go_loopw [5] (fun i wr => ∃ (k : Nat), k ≤ xs.length ∧ i = .int .i64 k ∧ xs.take k = ys.take k ∧ Pr w wr) (fun i _ => xs.length - (intOf i).toNat)
  case atStart => exact ⟨0, by omega, rfl, by simp, Pr.refl _⟩
  case round =>
    obtain ⟨k, hkl, rfl, hr, hb⟩ := hrel
    have Hr := Lib.hid hr
    clear hr
    by_cases hlt : k < xs.length
    · have hlt' : k < ys.length := by have := Hlen.out; omega
      obtain ⟨b, o, rfl, c0⟩ := Ints.get (Flat.pr hb hx) k hlt
      obtain ⟨b', o', rfl, d0⟩ := Ints.get (Flat.pr hb hy) k hlt'
      have hk0 : (0 : Int) ≤ k := by omega
      have hk1 : (k : Int) < xs.length := by omega
      have hk2 : (k : Int) < ys.length := by omega
      have hsn := take_snoc_gen k hlt hlt' Hr.out
      have hst : xs[k] ≠ ys[k] → ¬ xs = ys := fun h e => h (by subst e; rfl)
      generalize xs[k] = x at *
      generalize ys[k] = y at *
      have Hsn := Lib.hid hsn
      have Hst := Lib.hid hst
      clear hsn hst
      by_cases hp : x = y
      · have hb1 : (x != y) = false := by simp [hp]
        have Hp := Lib.hid hp
        clear hp
        go_wp2_with fail
        go_quiet (fail)
        go_wp2_with fail
        refine ⟨⟨k + 1, by omega, by go_num, Hsn.out Hp.out, hb.drewN' _⟩, ?_⟩
        simp [intOf]; omega
      · have hb1 : (x != y) = true := by simp [hp]
        have Hp := Lib.hid hp
        clear hp
        go_wp2_with fail
        go_quiet (fail)
        go_wp2_with fail
        go_ret
        exact ⟨ret_bool (decide_eq_false (Hst.out Hp.out)).symm, hb.drewN' _⟩
    · have hkv : k = xs.length := by omega
      go_wp2_with fail
      go_ret
      exact ⟨ret_bool (by have h1 := Hr.out; have h2 := Hlen.out; subst hkv; rw [List.take_length, h2, List.take_length] at h1; exact (decide_eq_true h1).symm), hb⟩

theorem node_guard (op : BinOp) (a b : Operand) (xs ys : Array Value) (w : World) : (eqGuard op 51 a b (.agg xs) (.agg ys)).run Try.prog w = .ok () w :=
  run_eqGuard_agg w _ _ _ _ _ _ (by kernel_rfl)
theorem node_fields : (Try.prog.fieldsOf 51).toList.map (fun f => (decide (f.name = "_"), f.type, f.offset)) = [(false, 9, 0), (false, 3, 1), (false, 3, 2)] := by kernel_rfl
theorem node_equalIn (d : Nat) (l1 l2 : ByteArray) (p1 p2 f1 f2 : Int) (w : World) : (Op.equalIn (d + 2) 51 (.agg #[.string l1, .int .i64 p1, .int .i64 f1]) (.agg #[.string l2, .int .i64 p2, .int .i64 f2])).run Try.prog w = .ok (decide (Nd.mk l1 p1 f1 = Nd.mk l2 p2 f2)) w := by
  rw [run_equalIn_agg w _ _ _ _ (by kernel_rfl) (by kernel_rfl)]
  have h := node_fields
  generalize (Try.prog.fieldsOf 51).toList = fs at h
  have hl : fs.length = 3 := by have := congrArg List.length h; simpa using this
  match fs, hl, h with
  | [g0, g1, g2], _, h =>
    simp at h
    obtain ⟨⟨n0, t0, o0⟩, ⟨n1, t1, o1⟩, ⟨n2, t2, o2⟩⟩ := h
    have u0 : Try.prog.underlying 9 = some .string := by kernel_rfl
    have u1 : Try.prog.underlying 3 = some (.int .i64) := by kernel_rfl
    simp only [Op.eqFields, ne_eq, n0, n1, n2, t0, t1, t2, o0, o1, o2, not_false_eq_true, if_true]
    simp [go_sem, part, isAgg, u0, u1]
    by_cases h1 : l1 = l2
    · subst h1
      by_cases h2 : p1 = p2
      · by_cases h3 : f1 = f2 <;> simp [h2, h3]
      · simp [h2]
    · rw [if_neg (toList_ne h1)]; simp [h1]

set_option maxHeartbeats 800000 in
theorem sameNodes_any (xs ys : List Nd) (oa cap ob cbp) (w : World) (hx : Nds Any w xs oa cap) (hy : Nds Any w ys ob cbp) :
    Calls Try.prog 32 #[.slice oa xs.length cap, .slice ob ys.length cbp] w fun e w' => e = .returned (.bool (decide (xs = ys))) ∧ Pr w w' := by
  have hm := Nds.len hx
  have hm2 := Nds.len hy
  by_cases hlen : xs.length = ys.length
  case neg =>
    have Hf : Hid (decide (xs = ys) = false) := decide_eq_false (fun e => hlen (by rw [e]))
    have hne : ((xs.length : Int) != ys.length) = true := by simp [bne_iff_ne]; omega
    clear hlen
    go_enter Try.func32, Try.ntmps32
    go_wp2_with fail
    go_ret
    exact ⟨ret_bool Hf.out.symm, Pr.refl _⟩
  have hne : ((xs.length : Int) != ys.length) = false := by simp [hlen]
  have Hlen := Lib.hid hlen
  clear hlen
  go_enter Try.func32, Try.ntmps32
  go_wp2_with fail
  go_loopw [5] (fun i wr => ∃ (k : Nat), k ≤ xs.length ∧ i = .int .i64 k ∧ xs.take k = ys.take k ∧ Pr w wr) (fun i _ => xs.length - (intOf i).toNat)
  case atStart => exact ⟨0, by omega, rfl, by simp, Pr.refl _⟩
  case round =>
    obtain ⟨k, hkl, rfl, hr, hb⟩ := hrel
    have Hr := Lib.hid hr
    clear hr
    by_cases hlt : k < xs.length
    · have hlt' : k < ys.length := by have := Hlen.out; omega
      obtain ⟨b, o, rfl, c0, c1, c2⟩ := (hx.pr hb).get k hlt
      obtain ⟨b', o', rfl, d0, d1, d2⟩ := (hy.pr hb).get k hlt'
      have hk0 : (0 : Int) ≤ k := by omega
      have hk1 : (k : Int) < xs.length := by omega
      have hk2 : (k : Int) < ys.length := by omega
      have hsn := take_snoc_gen k hlt hlt' Hr.out
      have hst : xs[k] ≠ ys[k] → ¬ xs = ys := fun h e => h (by subst e; rfl)
      generalize xs[k] = x at *
      generalize ys[k] = y at *
      obtain ⟨l1, p1, f1⟩ := x
      obtain ⟨l2, p2, f2⟩ := y
      have Hsn := Lib.hid hsn
      have Hst := Lib.hid hst
      clear hsn hst
      have hgd := fun a b xs ys W => node_guard .neq a b xs ys W
      by_cases hp : Nd.mk l1 p1 f1 = Nd.mk l2 p2 f2
      · have heq : ∀ W, (Op.equalIn 10000 51 (.agg #[.string l1, .int .i64 p1, .int .i64 f1]) (.agg #[.string l2, .int .i64 p2, .int .i64 f2])).run Try.prog W = .ok true W := fun W => by rw [node_equalIn 9998, decide_eq_true hp]
        have Hp := Lib.hid hp
        clear hp
        go_wp2_with fail
        go_quiet (fail)
        go_wp2_with fail
        refine ⟨⟨k + 1, by omega, by go_num, Hsn.out Hp.out, hb.drewN' _⟩, ?_⟩
        simp [intOf]; omega
      · have heq : ∀ W, (Op.equalIn 10000 51 (.agg #[.string l1, .int .i64 p1, .int .i64 f1]) (.agg #[.string l2, .int .i64 p2, .int .i64 f2])).run Try.prog W = .ok false W := fun W => by rw [node_equalIn 9998, decide_eq_false hp]
        have Hp := Lib.hid hp
        clear hp
        go_wp2_with fail
        go_quiet (fail)
        go_wp2_with fail
        go_ret
        exact ⟨ret_bool (decide_eq_false (Hst.out Hp.out)).symm, hb.drewN' _⟩
    · have hkv : k = xs.length := by omega
      go_wp2_with fail
      go_ret
      exact ⟨ret_bool (by have h1 := Hr.out; have h2 := Hlen.out; subst hkv; rw [List.take_length, h2, List.take_length] at h1; exact (decide_eq_true h1).symm), hb⟩
set_option maxHeartbeats 800000 in
theorem equalNodes_any (xs ys : List Nd) (oa cap ob cbp) (w : World) (hx : Nds Any w xs oa cap) (hy : Nds Any w ys ob cbp) :
    Calls Try.prog 58 #[.slice oa xs.length cap, .slice ob ys.length cbp] w fun e w' => e = .returned (.bool (decide (xs = ys))) ∧ Pr w w' := by
  have hm := Nds.len hx
  have hm2 := Nds.len hy
  by_cases hlen : xs.length = ys.length
  case neg =>
    have Hf : Hid (decide (xs = ys) = false) := decide_eq_false (fun e => hlen (by rw [e]))
    have hne : ((xs.length : Int) != ys.length) = true := by simp [bne_iff_ne]; omega
    clear hlen
    go_enter Try.func58, Try.ntmps58
    go_wp2_with fail
    go_ret
    exact ⟨ret_bool Hf.out.symm, Pr.refl _⟩
  have hne : ((xs.length : Int) != ys.length) = false := by simp [hlen]
  have Hlen := Lib.hid hlen
  clear hlen
  go_enter Try.func58, Try.ntmps58
  go_wp2_with fail
  go_loopw [13] (fun i wr => ∃ (k : Nat), k ≤ xs.length ∧ i = .int .i64 k ∧ xs.take k = ys.take k ∧ Pr w wr) (fun i _ => xs.length - (intOf i).toNat)
  case atStart => exact ⟨0, by omega, rfl, by simp, Pr.refl _⟩
  case round =>
    obtain ⟨k, hkl, rfl, hr, hb⟩ := hrel
    have Hr := Lib.hid hr
    clear hr
    by_cases hlt : k < xs.length
    · have hlt' : k < ys.length := by have := Hlen.out; omega
      obtain ⟨b, o, rfl, c0, c1, c2⟩ := (hx.pr hb).get k hlt
      obtain ⟨b', o', rfl, d0, d1, d2⟩ := (hy.pr hb).get k hlt'
      have hk0 : (0 : Int) ≤ k := by omega
      have hk1 : (k : Int) < xs.length := by omega
      have hk2 : (k : Int) < ys.length := by omega
      have hsn := take_snoc_gen k hlt hlt' Hr.out
      have hst : xs[k] ≠ ys[k] → ¬ xs = ys := fun h e => h (by subst e; rfl)
      generalize xs[k] = x at *
      generalize ys[k] = y at *
      obtain ⟨l1, p1, f1⟩ := x
      obtain ⟨l2, p2, f2⟩ := y
      have Hsn := Lib.hid hsn
      have Hst := Lib.hid hst
      clear hsn hst
      have hgd := fun a b xs ys W => node_guard .neq a b xs ys W
      by_cases hp : Nd.mk l1 p1 f1 = Nd.mk l2 p2 f2
      · have heq : ∀ W, (Op.equalIn 10000 51 (.agg #[.string l1, .int .i64 p1, .int .i64 f1]) (.agg #[.string l2, .int .i64 p2, .int .i64 f2])).run Try.prog W = .ok true W := fun W => by rw [node_equalIn 9998, decide_eq_true hp]
        have Hp := Lib.hid hp
        clear hp
        go_wp2_with fail
        go_quiet (fail)
        go_wp2_with fail
        refine ⟨⟨k + 1, by omega, by go_num, Hsn.out Hp.out, hb.drewN' _⟩, ?_⟩
        simp [intOf]; omega
      · have heq : ∀ W, (Op.equalIn 10000 51 (.agg #[.string l1, .int .i64 p1, .int .i64 f1]) (.agg #[.string l2, .int .i64 p2, .int .i64 f2])).run Try.prog W = .ok false W := fun W => by rw [node_equalIn 9998, decide_eq_false hp]
        have Hp := Lib.hid hp
        clear hp
        go_wp2_with fail
        go_quiet (fail)
        go_wp2_with fail
        go_ret
        exact ⟨ret_bool (decide_eq_false (Hst.out Hp.out)).symm, hb.drewN' _⟩
    · have hkv : k = xs.length := by omega
      go_wp2_with fail
      go_ret
      exact ⟨ret_bool (by have h1 := Hr.out; have h2 := Hlen.out; subst hkv; rw [List.take_length, h2, List.take_length] at h1; exact (decide_eq_true h1).symm), hb⟩
end Go.Proofs.Ytdbnfhpgmcjngaa
