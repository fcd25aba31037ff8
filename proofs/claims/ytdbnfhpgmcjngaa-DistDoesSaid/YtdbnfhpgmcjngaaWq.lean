/- Walks: the path of a node. -/
import Derived.Test.YtdbnfhpgmcjngaaWp
import Derived.Test.YtdbnfhpgmcjngaaNp
namespace Go.Proofs.Ytdbnfhpgmcjngaa
open Go Go.RowKit

/-- Numbers came in new memory. -/
def IntsPost (w : World) (xs : List Int) (e : Ending) (w' : World) : Prop := ∃ v, e = .returned v ∧ OwnsIs w.heap.size w' v xs ∧ Pr w w'

set_option maxHeartbeats 1600000 in
theorem path_step (xs : List Nd) (hs : xs.length ≤ 1000000) (N : Nat) : ∀ (n : Int) (oa cap) (w : World), xs.length - n.toNat < N → Nds Any w xs oa cap →
    Calls Try.prog 35 #[.slice oa xs.length cap, .int .i64 n] w (IntsPost w (pathZ xs n)) := by
  induction N with
  | zero => intro n oa cap w hN; omega
  | succ N ih =>
    intro n oa cap w hN hx
    have Ih := Lib.hid ih; clear ih
    by_cases hn : n < 0
    · go_enter Try.func35, Try.ntmps35
      go_wp2_with fail
      go_ret
      exact ⟨_, rfl, by rw [pathZ_neg hn]; exact OwnsIs.nil _ _, Pr.refl _⟩
    obtain ⟨m, rfl⟩ := Int.eq_ofNat_of_zero_le (by omega : 0 ≤ n)
    have hlm : ((xs.length : Int) ≤ m) = (xs.length ≤ m) := by rw [Int.ofNat_le]
    by_cases hm : xs.length ≤ m
    · have hm' : (xs.length : Int) ≤ m := by omega
      have Hp := Lib.hid (pathN_out (l := xs) (n := m) (by omega))
      clear hlm
      go_enter Try.func35, Try.ntmps35
      go_wp2_with fail
      go_ret
      exact ⟨_, rfl, by rw [pathZ_nat, Hp.out]; exact OwnsIs.nil _ _, Pr.refl _⟩
    have hm1 : m < xs.length := by omega
    clear hlm
    obtain ⟨b, o, rfl, e0, e1, e2⟩ := hx.get m hm1
    by_cases hp : (m : Int) < xs[m].par
    case neg =>
      have Hp := Lib.hid (pathN_root hm1 hp)
      generalize xs[m].par = up at *
      clear e0 e2
      go_enter Try.func35, Try.ntmps35
      go_wp2_with fail
      go_ret
      exact ⟨_, rfl, by rw [pathZ_nat, Hp.out]; exact OwnsIs.nil _ _, Pr.refl _⟩
    have Hp := Lib.hid (pathN_up hm1 hp)
    generalize hup : xs[m].par = up at *
    have Hup := Lib.hid hup
    clear e0 e2 hup
    go_enter Try.func35, Try.ntmps35
    go_wp2_with fail
    go_loopw [6, 31] (fun c i wr => ∃ (k r : Nat), k ≤ m ∧ i = .int .i64 k ∧ c = .int .i64 r ∧ r = cntPar xs k up ∧ r ≤ k ∧ wr = w) (fun _ i _ => m - (intOf i).toNat)
    case atStart => exact ⟨0, 0, by omega, rfl, rfl, by simp [cntPar], by omega, rfl⟩
    case round =>
      obtain ⟨k, r, hkl, rfl, rfl, hr, hrk, rfl⟩ := hrel
      have Hr := Lib.hid hr
      clear hr
      by_cases hlt : k < m
      · obtain ⟨b', o', hbo, d0, d1, d2⟩ := hx.get k (by omega)
        cases hbo
        have hc := cntPar_succ xs k (by omega) up
        clear d0 d2
        generalize xs[k].par = pk at *
        have Hc := Lib.hid hc
        clear hc
        by_cases hpk : pk = up
        · have hb1 : (pk == up) = true := by simp [hpk]
          have Hpk := Lib.hid hpk
          clear hpk
          go_wp2_with fail
          refine ⟨⟨k + 1, r + 1, by omega, by go_num, by go_num, by rw [Hc.out, ← Hr.out, if_pos Hpk.out], by omega, trivial⟩, ?_⟩
          simp [intOf]; omega
        · have hb1 : (pk == up) = false := by simp [hpk]
          have Hpk := Lib.hid hpk
          clear hpk
          go_wp2_with fail
          refine ⟨⟨k + 1, r, by omega, by go_num, by go_num, by rw [Hc.out, ← Hr.out, if_neg Hpk.out]; rfl, by omega, trivial⟩, ?_⟩
          simp [intOf]; omega
      · have hkv : k = m := by omega
        have Hcx := Lib.hid (pathN_length xs _ up.toNat (Nat.le_refl _))
        have hupn : ¬ up < 0 := by omega
        have Hun := Lib.hid (pathZ_pos (l := xs) hupn)
        clear hupn
        go_wp2_with (first
          | (go_at_call 35; (with_reducible refine Calls.mono (Ih.out up _ _ _ (by omega) hx) ?_); rintro e w1 ⟨v, rfl, ho, hb⟩; rw [Hun.out] at ho)
          | (at_builtin; go_must (refine app_int rfl _ _ rfl wr.heap.size _ _ rfl (ho.pr (Pr.alloc _ _)) w1.heap.size rfl _ (heap_alloc_new w1 _) (by have := Hcx.out; omega) (by have := hb.size; simp; omega) ?_); intro g4 c4 w2 ho4 hg4 hd4))
        go_ret
        refine ⟨_, rfl, ?_, ?_⟩
        · rw [pathZ_nat, Hp.out, ← hkv, ← Hr.out]
          exact ho4
        · exact Below.grown (hb.alloc' _) hg4 (by have := hb.size; simp; omega) (fun k hk => (ho.block k hk).1)

theorem path_any (xs : List Nd) (hs : xs.length ≤ 1000000) (n : Int) (oa cap) (w : World) (hx : Nds Any w xs oa cap) :
    Calls Try.prog 35 #[.slice oa xs.length cap, .int .i64 n] w (IntsPost w (pathZ xs n)) := path_step xs hs _ n oa cap w (Nat.lt_succ_self _) hx
end Go.Proofs.Ytdbnfhpgmcjngaa
