/- Walks: what merge's lists ask: the same lists, where a place stands, a label; and how it gives up. -/
import Derived.Test.YtdbnfhpgmcjngabMe
import Derived.Test.YtdbnfhpgmcjngabMp
import Derived.Test.YtdbnfhpgmcjngabCl
import Derived.WalkLawsBesides
namespace Go.Proofs.Ytdbnfhpgmcjngab
open Go Go.RowKit

theorem sameList_any (ks js : List Tr) (oa cap ob cbp) (w : World) (hk : Kids Any w ks oa cap) (hj : Kids Any w js ob cbp) :
    Calls Try.prog 101 #[.slice oa ks.length cap, .slice ob js.length cbp] w fun e w' => e = .returned (.bool (Tr.beqL ks js)) ∧ Pr w w' := by
  have h := Lib.hid ((psame_both _).2 ks js oa cap ob cbp w (Nat.lt_succ_self _) hk hj)
  go_enter Try.func101, Try.ntmps101
  go_wp2_with (go_at_call 80; (with_reducible refine Calls.mono h.out ?_); rintro e w' ⟨rfl, hb⟩)
  go_ret
  exact ⟨rfl, hb⟩

theorem at1_run : ∀ args w, (callFunc 100 args).run Try.prog w = .ok (.enter 100 args) w := fun _ _ => by kernel_rfl
theorem at1_any (a b k : Int) (B : Nat) (w : World) (hc : w.cell? ⟨B, 0, none⟩ = some (.int .i64 k)) :
    Calls Try.prog 100 #[.agg #[.int .i64 a, .int .i64 b], .pointer (some ⟨B, 0, none⟩)] w fun e w' => e = .returned (.bool (a == k)) ∧ Pr w w' := by
  have h2 := fun o => (Pr.alloc w o).cell hc
  go_enter Try.func100, Try.ntmps100
  go_wp2_with fail
  go_ret
  exact ⟨rfl, Pr.alloc _ _⟩
/-- Where k stands. -/
def atZ (l : List (Int × Int)) (k : Int) : Int := match l.find? (fun p => p.1 == k) with | some p => p.2 | none => -1
def IdxOk (l : List (Int × Int)) (k r : Int) : Prop := (r = -1 ∧ l.find? (fun p => p.1 == k) = none) ∨ ∃ i, ∃ h : i < l.length, r = (i : Int) ∧ l.find? (fun p => p.1 == k) = some l[i]
def IdxPost (l : List (Int × Int)) (k : Int) (w : World) (e : Ending) (w' : World) : Prop := (∃ r, e = .returned (.int .i64 r) ∧ IdxOk l k r) ∧ Pr w w'
set_option maxHeartbeats 800000 in
theorem indexPair_any (l : List (Int × Int)) (oa cap) (k : Int) (B : Nat) (w : World) (hp : Prs Any w l oa cap) (hc : w.cell? ⟨B, 0, none⟩ = some (.int .i64 k)) :
    Calls Try.prog 99 #[.slice oa l.length cap, .func (.func 100) #[] #[.pointer (some ⟨B, 0, none⟩)]] w (IdxPost l k w) := by
  have hm := hp.len
  have hg := at1_run
  have Hc := stays hc
  clear hc
  go_enter Try.func99, Try.ntmps99
  go_wp2_with fail
  go_loopw [8] (fun i wr => ∃ (n : Nat), n ≤ l.length ∧ i = .int .i64 n ∧ (l.take n).find? (fun p => p.1 == k) = none ∧ Pr w wr) (fun i _ => l.length - (intOf i).toNat)
  case atStart => exact ⟨0, by omega, rfl, by simp, Pr.refl _⟩
  case round =>
    obtain ⟨n, hkl, rfl, hr, hb⟩ := hrel
    have Hr := Lib.hid hr; clear hr
    by_cases hlt : n < l.length
    · obtain ⟨b, o, rfl, hcs⟩ := (hp.pr hb).get (by omega)
      obtain ⟨c0, c1⟩ := hcs n hlt
      have ht : l.take (n + 1) = l.take n ++ [l[n]] := List.take_succ_eq_append_getElem hlt
      have hd : l = l.take n ++ l[n] :: l.drop (n + 1) := by rw [← List.drop_eq_getElem_cons hlt, List.take_append_drop]
      have hyes : (l[n].1 == k) = true → l.find? (fun p => p.1 == k) = some l[n] := fun h => by
        have h2 : (l.take n ++ l[n] :: l.drop (n + 1)).find? (fun p => p.1 == k) = some l[n] := by
          rw [List.find?_append, Hr.out]
          simp only [Option.none_or]
          rw [List.find?_cons_of_pos (by simpa using h)]
        rw [← hd] at h2
        exact h2
      have hno : (l[n].1 == k) = false → (l.take (n + 1)).find? (fun p => p.1 == k) = none := fun h => by
        rw [ht, List.find?_append, Hr.out]; simp [h]
      have Hyes := Lib.hid hyes; have Hno := Lib.hid hno
      have A1 := Lib.hid (at1_any l[n].1 l[n].2 k B wr (Hc _ hb))
      clear hyes hno ht hd hcs
      generalize hx : l[n].1 = x at *
      generalize hy : l[n].2 = y at *
      have Hx := Lib.hid hx; have Hy := Lib.hid hy
      clear hx hy
      cases hxk : (x == k)
      all_goals
        have Hxk := Lib.hid hxk
        clear hxk
        go_wp2_with (first | (go_at_call 100; (with_reducible refine Calls.mono A1.out ?_); rintro e w' ⟨rfl, hb1⟩; simp only [Hxk.out]))
      · refine ⟨⟨n + 1, by omega, by go_num, Hno.out Hxk.out, hb.trans hb1⟩, ?_⟩
        simp [intOf]; omega
      · go_ret
        exact ⟨⟨n, rfl, .inr ⟨n, hlt, rfl, Hyes.out Hxk.out⟩⟩, hb.trans hb1⟩
    · have hkv : n = l.length := by omega
      go_wp2_with fail
      go_ret
      exact ⟨⟨-1, rfl, .inl ⟨rfl, by subst hkv; have := Hr.out; rw [List.take_length] at this; exact this⟩⟩, hb⟩
set_option maxHeartbeats 800000 in
theorem pairAt_any (l : List (Int × Int)) (oa cap) (k : Int) (w : World) (hp : Prs Any w l oa cap) :
    Calls Try.prog 95 #[.slice oa l.length cap, .int .i64 k] w fun e w' => e = .returned (.int .i64 (atZ l k)) ∧ Pr w w' := by
  have hmf : ∀ (fn : Fn) (first cap : Array Value) (w : World), (Instr.makeFunc fn first cap).run Try.prog w = .ok (.func fn first cap) w := fun _ _ _ _ => rfl
  have hm := hp.len
  have hw := Pr.alloc w (.cells #[.int .i64 k] 3)
  have h1 := Lib.hid (indexPair_any l oa cap k w.heap.size (w.alloc (.cells #[.int .i64 k] 3)) (hp.pr hw) (by simp [go_sem]))
  have hp2 := hp.pr hw
  obtain ⟨z, hz⟩ : ∃ z, z = atZ l k := ⟨_, rfl⟩
  rw [← hz]
  have Hz := Lib.hid hz
  have Hw := Lib.hid hw
  have HP := Lib.hid hp2
  clear hz hw hp2 hp
  go_enter Try.func95, Try.ntmps95
  go_upto_region 2 with (go_at_call 99; (with_reducible refine Calls.mono h1.out ?_); rintro e w1 ⟨⟨r, rfl, hr⟩, hb1⟩)
  rcases hr with ⟨rfl, hf⟩ | ⟨i, hi, rfl, hf⟩
  · have hz1 : z = -1 := by rw [Hz.out]; unfold atZ; rw [hf]
    have Hz1 := Lib.hid hz1
    clear hf hz1
    go_wp2_with fail
    go_ret
    exact ⟨by rw [Hz1.out]; rfl, Hw.out.trans hb1⟩
  · obtain ⟨b, o, rfl, hcs⟩ := (HP.out.pr hb1).get (by omega)
    have c1 := (hcs i hi).2
    have e1 : z = l[i].2 := by rw [Hz.out]; unfold atZ; rw [hf]
    rw [← e1] at c1
    have z1 : decide ((i : Int) < 0) = false := by simp
    have z2 : (0 : Int) ≤ i := by omega
    have z3 : (i : Int) < l.length := by omega
    clear hcs hf e1
    go_wp2_with fail
    go_ret
    exact ⟨rfl, Hw.out.trans hb1⟩

/-- It gives up: a path is what panics. -/
def FailPost (w : World) (p : List Int) (e : Ending) (w' : World) : Prop := ∃ oa cap, e = .panicked [{ v := .iface 100 (.slice oa p.length cap), recovered := false }] ∧ Ints (From w.heap.size) w' p oa cap ∧ Pr w w'
/-- Block M is a merger, whose path is this. -/
structure MOk (w : World) (M : Nat) (pv : Value) (p : List Int) : Prop where
  blk : w.heap[M]? = some (.cells #[pv] 104 (0, 0))
  own : OwnsIs (M + 1) w pv p
  len : p.length ≤ 1000
theorem MOk.pr {w w' : World} {M : Nat} {pv : Value} {p : List Int} (h : MOk w M pv p) (hp : Pr w w') : MOk w' M pv p := ⟨hp.blk h.blk, h.own.pr hp, h.len⟩
set_option maxHeartbeats 800000 in
theorem mfail_any (w : World) (M : Nat) (pv : Value) (p : List Int) (h : MOk w M pv p) :
    Calls Try.prog 94 #[.pointer (some ⟨M, 0, none⟩)] w (FailPost w p) := by
  obtain ⟨oa, cap, rfl, hi⟩ := h.own.ints
  have c0 : w.cell? ⟨M, 0, none⟩ = some (.slice oa p.length cap) := blk_cell h.blk
  have hl := h.len
  have C1 := Lib.hid (cloneInts_any p oa cap w hi.any (by omega))
  clear h hi
  go_enter Try.func94, Try.ntmps94
  go_wp2_with (go_at_call 82; (with_reducible refine Calls.mono C1.out ?_); rintro e w1 ⟨⟨v, rfl, ho⟩, hb⟩; obtain ⟨o1, c1, rfl, hi1⟩ := ho.ints)
  exact ⟨rfl, o1, c1, rfl, hi1, hb⟩
theorem mlabel_yes (w : World) (M : Nat) (o a b l : ByteArray) (h : mixL o a b = some l) :
    Calls Try.prog 89 #[.pointer (some ⟨M, 0, none⟩), .string o, .string a, .string b] w fun e w' => e = .returned (.string l) ∧ w' = w := by
  unfold mixL at h
  by_cases h1 : a = b
  · subst h1
    rw [if_pos (Or.inl rfl)] at h
    cases h
    have e1 : (a.toList == a.toList) = true := by simp
    go_enter Try.func89, Try.ntmps89
    go_wp2_with fail
    go_ret
    exact ⟨rfl, rfl⟩
  · have e1 : (a.toList == b.toList) = false := by simpa using toList_ne h1
    by_cases h2 : b = o
    · subst h2
      rw [if_pos (Or.inr rfl)] at h
      cases h
      have e2 : (b.toList == b.toList) = true := by simp
      clear h1
      go_enter Try.func89, Try.ntmps89
      go_wp2_with fail
      go_ret
      exact ⟨rfl, rfl⟩
    · have e2 : (b.toList == o.toList) = false := by simpa using toList_ne h2
      rw [if_neg (by rintro (e | e); exact h1 e; exact h2 e)] at h
      by_cases h3 : a = o
      · subst h3
        rw [if_pos rfl] at h
        cases h
        have e3 : (a.toList == a.toList) = true := by simp
        clear h1 h2
        go_enter Try.func89, Try.ntmps89
        go_wp2_with fail
        go_ret
        exact ⟨rfl, rfl⟩
      · rw [if_neg h3] at h; cases h
theorem mlabel_no (w : World) (M : Nat) (pv : Value) (p : List Int) (o a b : ByteArray) (hm : MOk w M pv p) (h : mixL o a b = none) :
    Calls Try.prog 89 #[.pointer (some ⟨M, 0, none⟩), .string o, .string a, .string b] w (FailPost w p) := by
  unfold mixL at h
  have h1 : ¬ (a = b ∨ b = o) := fun e => by rw [if_pos e] at h; cases h
  rw [if_neg h1] at h
  have h3 : ¬ a = o := fun e => by rw [if_pos e] at h; cases h
  have e1 : (a.toList == b.toList) = false := by simpa using toList_ne (fun e => h1 (.inl e))
  have e2 : (b.toList == o.toList) = false := by simpa using toList_ne (fun e => h1 (.inr e))
  have e3 : (a.toList == o.toList) = false := by simpa using toList_ne h3
  have F1 := Lib.hid (mfail_any w M pv p hm)
  clear h h1 h3 hm
  go_enter Try.func89, Try.ntmps89
  go_wp2_with (go_at_call 94; (with_reducible refine Calls.mono F1.out ?_); rintro e w1 ⟨oa, cap, rfl, hi, hb⟩)
  exact ⟨rfl, oa, cap, rfl, hi, hb⟩
end Go.Proofs.Ytdbnfhpgmcjngab
