/- Walks: slices.Grow of nothing and slices.Concat of deeds. -/
import Derived.Test.YtdbnfhpgmcjngacDs
import Derived.Test.YtdbnfhpgmcjngacCl
namespace Go.Proofs.Ytdbnfhpgmcjngac
open Go Go.RowKit

/-- A slice of deeds of one's own; their paths lay there in another world. -/
def OwnsDX (S : Nat → Prop) (w0 : World) (base : Nat) (w : World) (v : Value) (ds : List Dee) : Prop := ∃ xs, w.ownsRow base 45 5 v ds.length xs ∧ Dvals S w0 ds xs
theorem OwnsDX.dees {S : Nat → Prop} {w0 w : World} {base : Nat} {v : Value} {ds : List Dee} (h : OwnsDX S w0 base w v ds) (hp : Pr w0 w) : ∃ oa cap, v = .slice oa ds.length cap ∧ Dees (fun k => S k ∨ base ≤ k) w ds oa cap := by
  obtain ⟨xs, ho, h2⟩ := h
  rcases ho.2 with ⟨rfl, hn⟩ | ⟨g, cap, cur, rfl, hb, hg, hnc, hcm, _⟩
  · have : ds = [] := List.eq_nil_of_length_eq_zero hn
    subst this
    exact ⟨none, 0, rfl, Dees.nil _ _ _ _ (Nat.zero_le _)⟩
  · refine ⟨_, cap, rfl, ⟨hnc, hcm⟩, g, 0, fun _ => ⟨rfl, .inr hb⟩, fun i hi => ?_⟩
    obtain ⟨vs, g1, g2⟩ := h2.get i hi
    refine ⟨vs, g1.carry fun k hS hl => ⟨Below.block hp k hl, .inl hS⟩, fun j u hu => ?_⟩
    have := ho.cells (g := g) rfl (i * 5 + j) u (g2 j u hu)
    rw [Addr.add_lit] at this
    rw [show 0 + i * 5 + j = 0 + (i * 5 + j) by omega]; exact this
theorem OwnsDX.pr {S : Nat → Prop} {w0 w w' : World} {base : Nat} {v : Value} {ts : List Dee} (h : OwnsDX S w0 base w v ts) (hp : Pr w w') : OwnsDX S w0 base w' v ts := by
  obtain ⟨xs, h1, h2⟩ := h
  exact ⟨xs, ownsRow_kept h1 (fun k hk => Below.block hp k (h1.lt k hk).2), h2⟩
theorem OwnsDX.block {S : Nat → Prop} {w0 w : World} {base : Nat} {v : Value} {ts : List Dee} (h : OwnsDX S w0 base w v ts) : ∀ k, v.ownBlock = some k → base ≤ k ∧ k < w.heap.size := by
  obtain ⟨xs, h1, _⟩ := h; exact h1.lt

section
variable {ops : Array Oper} {o : Oper} {a : Act} {w : World} {rest : List Oper} {Q : Exit → Act → World → Prop}
/-- 'append(deeds, others...)'. -/
theorem app_deeds (hgd : o.guard = none) (s x : Operand) (ho : o.op = .call { callee := .builtin .append, args := #[s, x], argTypes := #[35, 35] })
    (S : Nat → Prop) (w0 : World) (b : Nat) (v : Value) (ts : List Dee) (hs : a.eval s = v) (hown : OwnsDX S w0 b w v ts) (us : List Dee) (ao : Option Addr) (c : Nat) (hx : a.eval x = .slice ao us.length c) (hu : Dees S w0 us ao c) (hp : Pr w0 w)
    (hlen : ts.length + us.length ≤ 1000000000) (hbase : b ≤ w.heap.size)
    (h : ∀ v' w', OwnsDX S w0 b w' v' (ts ++ us) → w.grownBy w' v.ownBlock → (∀ k, v'.ownBlock = some k → v.ownBlock = some k ∨ k = w.heap.size) → wpList Try.prog ops Q rest (a.put o.dst v') w') :
    wpList Try.prog ops Q (o :: rest) a w := by
  obtain ⟨i0, hi, hz0, hz1, hz2⟩ := info_parts info_deed
  obtain ⟨xs, h1, h2⟩ := hown
  obtain ⟨_, bb, oo, e1, e2⟩ := hu
  obtain ⟨ys, g1, g2⟩ := Dees.vals e2
  refine wp_app_rows hgd s x _ ho b _ i0 _ 5 64 under_deeds hi hz0 hz1 hz2 rfl (by omega) v ts.length xs hs h1 ao us.length c ys hx g1.length ?_
    g1.one (by unfold maxLen; omega) (by omega) hbase ?_
  · intro hm
    refine ⟨⟨bb, oo, none⟩, (e1 (by intro e; subst e; simp at hm)).1, fun j u hj => ?_⟩
    have hcell := g2 j u hj
    rw [Addr.add_lit]
    rw [Below.cell hp (World.block_lt_of_cell? w0 _ hcell)]; exact hcell
  · intro v' w' k1 k2 k3
    refine h v' w' ⟨xs ++ ys, ?_, Dvals.append g1 h2⟩ k2 k3
    rw [List.length_append]; exact k1
end

theorem under_intD : Try.prog.underlying 3 = some (.int .i64) := by kernel_rfl
set_option maxHeartbeats 800000 in
theorem growDeeds_any (n : Nat) (w : World) (hs : n ≤ 1000000) :
    Calls Try.prog 100 #[.slice none 0 0, .int .i64 n] w fun e w' => (∃ v, e = .returned v ∧ w'.ownsRow w.heap.size 45 5 v 0 []) ∧ Pr w w' := by
  by_cases h0 : n = 0
  · subst h0
    go_enter Try.func100, Try.ntmps100
    go_wp2_with fail
    go_ret
    exact ⟨⟨_, rfl, World.ownsRow_nil _ _ _ _⟩, Pr.refl _⟩
  · obtain ⟨i0, hi, hz0, hz1, hz2⟩ := info_parts info_deed
    have hrz := fun ty => Lib.run_append_nil_zeros (P := Try.prog) w 35 3 ty 45 i0 _ .i64 .i64 under_deeds under_intD hi hz0 n (by omega) (by rw [hz1]; omega) (by omega) (by rw [hz2]; omega)
    have hGn : n ≤ grownCap w n 0 45 := grownCap_ge w _ _ _
    have hG63 : grownCap w n 0 45 ≤ 9223372036854775807 := by
      have := grownCap_le_maxLen w n 0 45 (by unfold maxLen; omega)
      unfold maxLen at this; omega
    obtain ⟨G, hG⟩ : ∃ G, G = grownCap w n 0 45 := ⟨_, rfl⟩
    rw [← hG] at hrz hGn hG63
    have hzc : ∀ m, (Builtin.zeroCells #[.int .i64 0, .slice none 0 0, .int .i64 0, .int .i64 0, .string ⟨#[]⟩] m).size = m * 5 := fun m => by
      simp [Builtin.zeroCells]
    clear hG hi hz0 hz1 hz2
    have Hzc := Lib.hid hzc
    clear hzc
    have h1 : (1 : Int) ≤ n := by omega
    go_enter Try.func100, Try.ntmps100
    go_wp2_with (at_builtin; refine Lib.wpList_append_run _ rfl _ _ _ _ rfl _ _ rfl rfl _ _ (hrz _) ?_)
    go_ret
    refine ⟨⟨_, rfl, ?_⟩, (Pr.drew w).alloc' _⟩
    exact ownsRow_made w.drew _ _ G _ (by rw [Array.size_append, Hzc.out, Hzc.out]; omega) (by unfold maxLen; omega)
/-- Slices of deeds, in a slice. -/
def RowsD (S : Nat → Prop) (w : World) (L : List (List Dee)) (B : Nat) : Prop := ∀ i (_ : i < L.length), ∃ oa cap, w.cell? ⟨B, i, none⟩ = some (.slice oa L[i].length cap) ∧ Dees S w L[i] oa cap
theorem dflat_take (L : List (List Dee)) (i : Nat) (h : i < L.length) : (L.take (i + 1)).flatten = (L.take i).flatten ++ L[i] := by
  rw [List.take_succ_eq_append_getElem h, List.flatten_append]; simp
/-- How many stand in the first i. -/
def dlen (L : List (List Dee)) (i : Nat) : Nat := (L.take i).flatten.length
theorem dlen_all (L : List (List Dee)) : dlen L L.length = L.flatten.length := by unfold dlen; rw [List.take_length]
theorem dlen_succ (L : List (List Dee)) (i : Nat) (h : i < L.length) : dlen L (i + 1) = dlen L i + L[i].length := by unfold dlen; rw [dflat_take L i h, List.length_append]
theorem dflat_take_le (L : List (List Dee)) (i : Nat) : (L.take i).flatten.length ≤ L.flatten.length := by
  have h : L.flatten = (L.take i).flatten ++ (L.drop i).flatten := by rw [← List.flatten_append, List.take_append_drop]
  rw [h, List.length_append]; omega
set_option maxHeartbeats 1600000 in
theorem concatDeeds_any (S : Nat → Prop) (L : List (List Dee)) (B c : Nat) (w : World) (hL : RowsD S w L B) (hn : dlen L L.length ≤ 1000000) (hl : L.length ≤ 1000) :
    Calls Try.prog 72 #[.slice (some ⟨B, 0, none⟩) L.length c] w fun e w' => (∃ ob cp, e = .returned (.slice ob (dlen L L.length) cp) ∧ Dees (fun k => S k ∨ w.heap.size ≤ k) w' L.flatten ob cp) ∧ Pr w w' := by
  have HL := Lib.hid hL
  clear hL
  have hb : ∀ i, dlen L i ≤ dlen L L.length := fun i => by rw [dlen_all]; exact dflat_take_le L i
  have Hb := Lib.hid hb
  clear hb
  go_enter Try.func72, Try.ntmps72
  go_wp2_with fail
  go_loopw [3, 11] (fun v3 v11 wr => ∃ i : Nat, i ≤ L.length ∧ v3 = .int .i64 (dlen L i : Nat) ∧ v11 = .int .i64 i ∧ wr = w) (fun _ v11 _ => L.length - (intOf v11).toNat)
  case atStart => exact ⟨0, by omega, by simp [dlen], rfl, rfl⟩
  case round =>
    obtain ⟨i, hi, rfl, rfl, rfl⟩ := hrel
    by_cases hlt : i < L.length
    · obtain ⟨oa, cap, c0, hk⟩ := HL.out i hlt
      have hbi := Hb.out (i + 1)
      have hf := dlen_succ L i hlt
      have Hf := Lib.hid hf
      rw [hf] at hbi
      have hlt' : (i : Int) < L.length := by omega
      have hi0 : (0 : Int) ≤ i := by omega
      have hlen := hk.len
      clear hf hk
      generalize hq : L[i] = q at *
      generalize hp : dlen L i = p at *
      have Hq := Lib.hid hq; have Hp := Lib.hid hp
      clear hq hp
      go_wp2_with fail
      refine ⟨⟨i + 1, by omega, ?_, by go_num, trivial⟩, ?_⟩
      · rw [Hf.out]; go_num
      · simp [intOf]; omega
    · have hie : i = L.length := by omega
      subst hie
      obtain ⟨N, hN⟩ : ∃ N, N = dlen L L.length := ⟨_, rfl⟩
      rw [← hN] at hn ⊢
      have HN := Lib.hid hN
      clear hN
      go_wp2_with (first
        | (go_at_call 100; (with_reducible refine Calls.mono (growDeeds_any _ _ hn) ?_); rintro e w1 ⟨⟨v, rfl, hr⟩, hb1⟩))
      obtain ⟨wo, hwo⟩ : ∃ wo, wo = wr := ⟨_, rfl⟩
      subst hwo
      have h0 : OwnsDX S wo wo.heap.size w1 v (L.take 0).flatten := ⟨[], by simpa using hr, by simp [Dvals]⟩
      have Hb1 := Lib.hid hb1
      clear hr hb1
      go_loopw [6, 27] (fun v6 v27 wr => ∃ i : Nat, i ≤ L.length ∧ v27 = .int .i64 i ∧ OwnsDX S wo wo.heap.size wr v6 (L.take i).flatten ∧ Pr wo wr) (fun _ v27 _ => L.length - (intOf v27).toNat)
      case atStart => exact ⟨0, by omega, rfl, h0, Hb1.out⟩
      case round =>
        obtain ⟨i, hi, rfl, hown, hp⟩ := hrel
        by_cases hlt : i < L.length
        · obtain ⟨oa, cap, c0, hk⟩ := HL.out i hlt
          have c0 := hp.cell c0
          have hbi := Hb.out (i + 1)
          rw [dlen_succ L i hlt, ← HN.out] at hbi
          have hfi : dlen L i = (L.take i).flatten.length := rfl
          rw [hfi] at hbi
          have hf := dflat_take L i hlt
          have Hf := Lib.hid hf
          have hlt' : (i : Int) < L.length := by omega
          have hi0 : (0 : Int) ≤ i := by omega
          have Hk := Lib.hid hk
          have Ho := Lib.hid hown
          have hps := hp.size
          clear hf hk hown h0 hfi
          generalize hq : L[i] = q at *
          generalize hpp : (L.take i).flatten = p at *
          have Hq := Lib.hid hq; have Hpp := Lib.hid hpp
          clear hq hpp
          go_wp2_with (at_builtin; go_must (refine app_deeds rfl _ _ rfl S wo wo.heap.size _ p rfl Ho.out q oa cap rfl Hk.out hp (by omega) hps ?_); intro v5 w5 ho5 hg5 hd5)
          refine ⟨⟨i + 1, by omega, by go_num, by rw [Hf.out]; exact ho5, Below.grown hp hg5 hps (fun k hk => (Ho.out.block k hk).1)⟩, ?_⟩
          simp [intOf]; omega
        · have hie : i = L.length := by omega
          subst hie
          rw [List.take_length] at hown
          obtain ⟨ob, cp, rfl, hk⟩ := hown.dees hp
          go_wp2_with fail
          go_ret
          exact ⟨⟨ob, cp, by rw [HN.out, dlen_all]; rfl, hk⟩, hp⟩
end Go.Proofs.Ytdbnfhpgmcjngac
