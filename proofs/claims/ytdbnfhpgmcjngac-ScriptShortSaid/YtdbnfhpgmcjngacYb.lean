/- Walks: slices.ContainsFunc of pairs; script.Diff's own predicates; script.rest. -/
import Derived.Test.YtdbnfhpgmcjngacBwn
import Derived.Test.YtdbnfhpgmcjngacPs
import Derived.Test.YtdbnfhpgmcjngacBpl
import Derived.WalkLawsBesides
namespace Go.Proofs.Ytdbnfhpgmcjngac
open Go Go.RowKit

set_option maxHeartbeats 800000 in
/-- slices.IndexFunc at pairs, of a function that only looks. -/
theorem idxPairs_any (p : Int × Int → Bool) (g : Nat) (cv : List Value) (l : List (Int × Int)) (oa cap) (w : World) (hp : Prs Any w l oa cap)
    (hg : ∀ args w, (callFunc g args).run Try.prog w = .ok (.enter g args) w)
    (H : ∀ (a b : Int) wr, Pr w wr → Calls Try.prog g (.agg #[.int .i64 a, .int .i64 b] :: cv).toArray wr fun e w' => e = .returned (.bool (p (a, b))) ∧ Pr wr w') :
    Calls Try.prog 98 #[.slice oa l.length cap, .func (.func g) #[] cv.toArray] w fun e w' => (∃ r : Int, e = .returned (.int .i64 r) ∧ (decide (0 ≤ r) = l.any p)) ∧ Pr w w' := by
  have hm := hp.len
  have HH := Lib.hid H; clear H
  go_enter Try.func98, Try.ntmps98
  go_wp2_with fail
  go_loopw [8] (fun i wr => ∃ (n : Nat), n ≤ l.length ∧ i = .int .i64 n ∧ (l.take n).any p = false ∧ Pr w wr) (fun i _ => l.length - (intOf i).toNat)
  case atStart => exact ⟨0, by omega, rfl, by simp, Pr.refl _⟩
  case round =>
    obtain ⟨n, hkl, rfl, hr, hb⟩ := hrel
    have Hr := Lib.hid hr; clear hr
    by_cases hlt : n < l.length
    · obtain ⟨b, o, rfl, hcs⟩ := (hp.pr hb).get (by omega)
      obtain ⟨c0, c1⟩ := hcs n hlt
      have ht : l.take (n + 1) = l.take n ++ [l[n]] := List.take_succ_eq_append_getElem hlt
      have hyes : p l[n] = true → l.any p = true := fun h => List.any_eq_true.2 ⟨_, List.getElem_mem hlt, h⟩
      have hno : p l[n] = false → (l.take (n + 1)).any p = false := fun h => by
        rw [ht, List.any_append, Hr.out]; simp [h]
      have Hyes := Lib.hid hyes; have Hno := Lib.hid hno
      have A1 := Lib.hid (HH.out l[n].1 l[n].2 wr hb)
      clear hyes hno ht hcs
      generalize hq : p l[n] = q at *
      have hq2 : p (l[n].1, l[n].2) = q := hq
      have Hq := Lib.hid hq2
      clear hq hq2
      generalize hx : l[n].1 = x at *
      generalize hy : l[n].2 = y at *
      have Hx := Lib.hid hx; have Hy := Lib.hid hy
      clear hx hy
      cases q
      all_goals
        go_wp2_with (first | (refine Calls.mono A1.out ?_; rintro e w' ⟨rfl, hb1⟩))
      · refine ⟨⟨n + 1, by omega, by go_num, Hno.out (by trivial), hb.trans hb1⟩, ?_⟩
        simp [intOf]; omega
      · go_ret
        exact ⟨⟨n, rfl, by rw [Hyes.out (by trivial)]; simp⟩, hb.trans hb1⟩
    · have hkv : n = l.length := by omega
      go_wp2_with fail
      go_ret
      exact ⟨⟨-1, rfl, by subst hkv; have := Hr.out; rw [List.take_length] at this; rw [this]; rfl⟩, hb⟩
theorem hasPairs_any (p : Int × Int → Bool) (g : Nat) (cv : List Value) (l : List (Int × Int)) (oa cap) (w : World) (hp : Prs Any w l oa cap)
    (hg : ∀ args w, (callFunc g args).run Try.prog w = .ok (.enter g args) w)
    (H : ∀ (a b : Int) wr, Pr w wr → Calls Try.prog g (.agg #[.int .i64 a, .int .i64 b] :: cv).toArray wr fun e w' => e = .returned (.bool (p (a, b))) ∧ Pr wr w') :
    Calls Try.prog 66 #[.slice oa l.length cap, .func (.func g) #[] cv.toArray] w fun e w' => e = .returned (.bool (l.any p)) ∧ Pr w w' := by
  have h1 := Lib.hid (idxPairs_any p g cv l oa cap w hp hg H)
  clear H hg hp
  go_enter Try.func66, Try.ntmps66
  go_wp2_with (go_at_call 98; (with_reducible refine Calls.mono h1.out ?_); rintro e w' ⟨⟨r, rfl, hr⟩, hb'⟩; have Hr := Lib.hid hr; clear hr)
  go_ret
  exact ⟨ret_bool Hr.out, hb'⟩

theorem dA1_run : ∀ args w, (callFunc 67 args).run Try.prog w = .ok (.enter 67 args) w := fun _ _ => by kernel_rfl
theorem dB1_run : ∀ args w, (callFunc 69 args).run Try.prog w = .ok (.enter 69 args) w := fun _ _ => by kernel_rfl
theorem dA_run : ∀ args w, (callFunc 65 args).run Try.prog w = .ok (.enter 65 args) w := fun _ _ => by kernel_rfl
theorem dB_run : ∀ args w, (callFunc 68 args).run Try.prog w = .ok (.enter 68 args) w := fun _ _ => by kernel_rfl
theorem dA1_any (a b k : Int) (B : Nat) (w : World) (hc : w.cell? ⟨B, 0, none⟩ = some (.int .i64 k)) :
    Calls Try.prog 67 #[.agg #[.int .i64 a, .int .i64 b], .pointer (some ⟨B, 0, none⟩)] w fun e w' => e = .returned (.bool (a == k)) ∧ Pr w w' := by
  have h2 := fun o => (Pr.alloc w o).cell hc
  go_enter Try.func67, Try.ntmps67
  go_wp2_with fail
  go_ret
  exact ⟨rfl, Pr.alloc _ _⟩
theorem dB1_any (a b k : Int) (B : Nat) (w : World) (hc : w.cell? ⟨B, 0, none⟩ = some (.int .i64 k)) :
    Calls Try.prog 69 #[.agg #[.int .i64 a, .int .i64 b], .pointer (some ⟨B, 0, none⟩)] w fun e w' => e = .returned (.bool (b == k)) ∧ Pr w w' := by
  have h2 := fun o => (Pr.alloc w o).cell hc
  go_enter Try.func69, Try.ntmps69
  go_wp2_with fail
  go_ret
  exact ⟨rfl, Pr.alloc _ _⟩
theorem dA_any (l : List (Int × Int)) (oa cap) (k : Int) (C : Nat) (w : World) (hp : Prs Any w l oa cap) (hc : w.cell? ⟨C, 0, none⟩ = some (.slice oa l.length cap)) :
    Calls Try.prog 65 #[.int .i64 k, .pointer (some ⟨C, 0, none⟩)] w fun e w' => e = .returned (.bool (l.any fun p => p.1 == k)) ∧ Pr w w' := by
  have hmf : ∀ (fn : Fn) (first cap : Array Value) (w : World), (Instr.makeFunc fn first cap).run Try.prog w = .ok (.func fn first cap) w := fun _ _ _ _ => rfl
  have hw := Pr.alloc w (.cells #[.int .i64 k] 3)
  have h2 := hw.cell hc
  have hB : (w.alloc (.cells #[.int .i64 k] 3)).cell? ⟨w.heap.size, 0, none⟩ = some (.int .i64 k) := by simp [go_sem]
  have h1 := Lib.hid (hasPairs_any (fun p => p.1 == k) 67 [.pointer (some ⟨w.heap.size, 0, none⟩)] l oa cap (w.alloc (.cells #[.int .i64 k] 3)) (hp.pr hw) dA1_run (fun a b wr h => dA1_any a b k w.heap.size wr (h.cell hB)))
  have Hw := Lib.hid hw
  clear hw hp hB
  go_enter Try.func65, Try.ntmps65
  go_wp2_with (go_at_call 66; (with_reducible refine Calls.mono h1.out ?_); rintro e w1 ⟨rfl, hb1⟩)
  go_ret
  exact ⟨rfl, Hw.out.trans hb1⟩
theorem dB_any (l : List (Int × Int)) (oa cap) (k : Int) (C : Nat) (w : World) (hp : Prs Any w l oa cap) (hc : w.cell? ⟨C, 0, none⟩ = some (.slice oa l.length cap)) :
    Calls Try.prog 68 #[.int .i64 k, .pointer (some ⟨C, 0, none⟩)] w fun e w' => e = .returned (.bool (l.any fun p => p.2 == k)) ∧ Pr w w' := by
  have hmf : ∀ (fn : Fn) (first cap : Array Value) (w : World), (Instr.makeFunc fn first cap).run Try.prog w = .ok (.func fn first cap) w := fun _ _ _ _ => rfl
  have hw := Pr.alloc w (.cells #[.int .i64 k] 3)
  have h2 := hw.cell hc
  have hB : (w.alloc (.cells #[.int .i64 k] 3)).cell? ⟨w.heap.size, 0, none⟩ = some (.int .i64 k) := by simp [go_sem]
  have h1 := Lib.hid (hasPairs_any (fun p => p.2 == k) 69 [.pointer (some ⟨w.heap.size, 0, none⟩)] l oa cap (w.alloc (.cells #[.int .i64 k] 3)) (hp.pr hw) dB1_run (fun a b wr h => dB1_any a b k w.heap.size wr (h.cell hB)))
  have Hw := Lib.hid hw
  clear hw hp hB
  go_enter Try.func68, Try.ntmps68
  go_wp2_with (go_at_call 66; (with_reducible refine Calls.mono h1.out ?_); rintro e w1 ⟨rfl, hb1⟩)
  go_ret
  exact ⟨rfl, Hw.out.trans hb1⟩

/-- The numbers ahead of n of which p does not hold. -/
def restZ (p : Nat → Bool) (n : Nat) : List Int := ((List.range' 0 n).filter fun i => !p i).map Int.ofNat
theorem restZ_succ (p : Nat → Bool) (n : Nat) : restZ p (n + 1) = if p n then restZ p n else restZ p n ++ [(n : Int)] := by
  unfold restZ
  rw [List.range'_1_concat, List.filter_append, List.map_append]
  cases h : p n <;> simp [h]
theorem restZ_length (p : Nat → Bool) (n : Nat) : (restZ p n).length ≤ n := by
  unfold restZ
  rw [List.length_map]
  have := List.length_filter_le (fun i => !p i) (List.range' 0 n)
  rw [List.length_range'] at this; exact this
set_option maxHeartbeats 800000 in
theorem rest_any (p : Nat → Bool) (g : Nat) (cv : List Value) (n : Nat) (hn : n ≤ 1000000) (w : World)
    (hg : ∀ args w, (callFunc g args).run Try.prog w = .ok (.enter g args) w)
    (H : ∀ (i : Nat) wr, i < n → Pr w wr → Calls Try.prog g (.int .i64 i :: cv).toArray wr fun e w' => e = .returned (.bool (p i)) ∧ Pr wr w') :
    Calls Try.prog 71 #[.int .i64 n, .func (.func g) #[] cv.toArray] w (IntsPost w (restZ p n)) := by
  have HH := Lib.hid H; clear H
  go_enter Try.func71, Try.ntmps71
  go_wp2_with fail
  go_loopw [5, 8] (fun v i wr => ∃ (k : Nat), k ≤ n ∧ i = .int .i64 k ∧ OwnsIs w.heap.size wr v (restZ p k) ∧ Pr w wr) (fun _ i _ => n - (intOf i).toNat)
  case atStart => exact ⟨0, by omega, rfl, by simpa [restZ] using OwnsIs.nil _ _, Pr.refl _⟩
  case round =>
    obtain ⟨k, hkl, rfl, ho, hb⟩ := hrel
    have Ho := Lib.hid ho; clear ho
    by_cases hlt : k < n
    · have A1 := Lib.hid (HH.out k wr hlt hb)
      have hs := restZ_succ p k
      have hl := restZ_length p k
      have hbs := Below.size hb
      generalize hq : p k = q at *
      have Hq := Lib.hid hq; have Hs := Lib.hid hs
      clear hq hs
      cases q
      · go_wp2_with (first
          | (at_builtin; go_must (refine app_int rfl _ _ rfl w.heap.size _ _ rfl ((Ho.out.pr hb1).pr (Pr.alloc _ _)) w1.heap.size rfl _ (heap_alloc_new w1 _) (by omega) (by have := Below.size hb1; simp; omega) ?_); intro g4 c4 w2 ho4 hg4 hd4)
          | (refine Calls.mono A1.out ?_; rintro e w1 ⟨rfl, hb1⟩))
        refine ⟨⟨k + 1, by omega, by go_num, by rw [Hs.out]; exact ho4, Below.grown ((hb.trans hb1).alloc' _) hg4 (by have := Below.size hb1; simp; omega) (fun k hk => (Ho.out.block k hk).1)⟩, ?_⟩
        simp [intOf]; omega
      · go_wp2_with (refine Calls.mono A1.out ?_; rintro e w1 ⟨rfl, hb1⟩)
        refine ⟨⟨k + 1, by omega, by go_num, by rw [Hs.out]; exact Ho.out.pr hb1, hb.trans hb1⟩, ?_⟩
        simp [intOf]; omega
    · have hkv : k = n := by omega
      subst hkv
      go_wp2_with fail
      go_ret
      exact ⟨_, rfl, Ho.out, hb⟩
end Go.Proofs.Ytdbnfhpgmcjngac
