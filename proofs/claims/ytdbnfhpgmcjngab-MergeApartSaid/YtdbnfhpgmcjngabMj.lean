/- Walks: what two made of the kids of one. -/
import Derived.Test.YtdbnfhpgmcjngabMi
namespace Go.Proofs.Ytdbnfhpgmcjngab
open Go Go.RowKit

section
variable {M : Nat} {pv : Value} {p : List Int} {w : World} {o a b : List Tr} {oo oa ob : Option Addr} {co ca cb : Nat}
theorem part_any (N : Nat) (TC : TreeC N) (n : Nat) (hn : n ≤ 1000) (hm : MOk w M pv p) (hko : Kids (fun k => k < M) w o oo co) (hka : Kids (fun k => k < M) w a oa ca) (hkb : Kids (fun k => k < M) w b ob cb) (so : Tr.szL o ≤ N) (s1 : Tr.szL o ≤ 1000) (s2 : Tr.szL a ≤ 1000) (s3 : Tr.szL b ≤ 1000)
    (hpl : p.length + Tr.szL o ≤ 899) :
    Calls Try.prog 96 #[.pointer (some ⟨M, 0, none⟩), .slice oo o.length co, .slice oa a.length ca, .slice ob b.length cb, .int .i64 n] w (ListPost M pv p w (partM (mixT N) o a b n)) := by
  unfold partM
  by_cases h : (Tr.beqL a o || Tr.beqL a b) = true
  · rw [if_pos h]; exact part_b n hm hko.any hka.any hkb.any s3 h
  · rw [if_neg h]
    by_cases h1 : Tr.beqL b o = true
    · rw [if_pos h1]; exact part_a n hm hko.any hka.any hkb.any s2 h h1
    · rw [if_neg h1]
      by_cases h2 : a.length ≠ o.length ∨ b.length ≠ o.length
      · rw [if_pos h2]; exact part_no n hm hko.any hka.any hkb.any h h1 h2
      · rw [if_neg h2]; exact part_zip N TC n hn hm hko hka hkb so s1 s2 s3 hpl h h1 (by omega) (by omega)
end
theorem Prs.keep {S : Nat → Prop} {w w' : World} {ps : List (Int × Int)} {oa cap} (h : Prs S w ps oa cap) (hk : ∀ k, S k → k < w.heap.size → w'.heap[k]? = w.heap[k]?) : Prs Any w' ps oa cap := by
  obtain ⟨hc, b, o, h1, h2⟩ := h
  refine ⟨hc, b, o, fun hn => ⟨(h1 hn).1, trivial⟩, fun i hi => ?_⟩
  have hS := (h1 (by intro e; subst e; simp at hi)).2
  obtain ⟨g1, g2⟩ := h2 i hi
  have e := hk b hS (lt_of_cell g1)
  exact ⟨by rw [World.cell?_of_block e]; exact g1, by rw [World.cell?_of_block e]; exact g2⟩
theorem atZ_yes {x : List (Nat × Nat)} (hx : Rise x) {n q : Nat} (h : (n, q) ∈ x) : atZ (pz x) n = (q : Int) := by
  unfold atZ
  have : ∃ z, (pz x).find? (fun p => p.1 == (n : Int)) = some z ∧ z.2 = (q : Int) := by
    cases hf : (pz x).find? (fun p => p.1 == (n : Int)) with
    | none =>
      have := List.find?_eq_none.1 hf ((n : Int), (q : Int)) (List.mem_map.2 ⟨(n, q), h, rfl⟩)
      simp at this
    | some z =>
      have h1 := List.find?_some hf
      obtain ⟨⟨a, b⟩, hm, rfl⟩ := List.mem_map.1 (List.mem_of_find?_eq_some hf)
      simp only [beq_iff_eq] at h1
      have ha : a = n := by omega
      subst ha
      exact ⟨_, rfl, by rw [hx.one hm h]⟩
  obtain ⟨z, h1, h2⟩ := this
  rw [h1]; exact h2
theorem atZ_no {x : List (Nat × Nat)} {n : Nat} (h : ∀ q, (n, q) ∉ x) : atZ (pz x) n = -1 := by
  unfold atZ
  have : (pz x).find? (fun p => p.1 == (n : Int)) = none := by
    rw [List.find?_eq_none]
    rintro z hz
    obtain ⟨⟨a, b⟩, hm, rfl⟩ := List.mem_map.1 hz
    simp only [beq_iff_eq]
    intro e
    have ha : a = n := by omega
    subst ha
    exact h b hm
  rw [this]
/-- How far the lists are gone through: n is next; the parts begin at i, j, k. -/
def SegRel (f : Tr → Tr → Tr → Ex Tr) (o a b : List Tr) (H : List (Nat × Nat × Nat)) (r : Ex (List Tr)) (n i j k : Nat) (ts : List Tr) : Prop :=
  (n ≤ o.length ∧ HeldOk o a b i j k (H.filter fun x => decide (n ≤ x.1)) ∧ i ≤ n ∧ j ≤ a.length ∧ k ≤ b.length ∧ Tr.szL ts + Tr.szL (o.drop i) + Tr.szL (a.drop j) + Tr.szL (b.drop k) ≤ 3000 ∧
    r = exMap (fun rs => ts ++ rs) (segM f o a b (H.filter fun x => decide (n ≤ x.1)) i j k)) ∨ (n = o.length + 1 ∧ r = .ok ts)
theorem exMap_nil (x : Ex (List Tr)) : exMap (fun rs => [] ++ rs) x = x := by cases x <;> rfl
section
variable {f : Tr → Tr → Tr → Ex Tr} {o a b : List Tr} {H : List (Nat × Nat × Nat)} {r : Ex (List Tr)} {n i j k : Nat} {ts : List Tr}
theorem SegRel.start (hH : HeldOk o a b 0 0 0 H) (hr : r = segM f o a b H 0 0 0) (hs : Tr.szL o + Tr.szL a + Tr.szL b ≤ 3000) : SegRel f o a b H r 0 0 0 0 [] := by
  have e : (H.filter fun x => decide (0 ≤ x.1)) = H := by rw [List.filter_eq_self]; simp
  refine .inl ⟨by omega, by rw [e]; exact hH, by omega, by omega, by omega, by simp [Tr.szL]; omega, ?_⟩
  rw [e, hr, exMap_nil]
theorem SegRel.skip (h : SegRel f o a b H r n i j k ts) (hn : n < o.length) (hno : ∀ p q, (n, p, q) ∉ H) : SegRel f o a b H r (n + 1) i j k ts := by
  rcases h with ⟨h1, h2, h3, h4, h5, h6, h7⟩ | ⟨h1, _⟩
  · rw [rise_skip hno] at h2 h7
    exact .inl ⟨hn, h2, by omega, h4, h5, h6, h7⟩
  · omega
/-- One that all three have. -/
theorem SegRel.hit (h : SegRel f o a b H r n i j k ts) (hn : n < o.length) (hH : H.Pairwise fun p q => p.1 < q.1 ∧ p.2.1 < q.2.1 ∧ p.2.2 < q.2.2) {p q : Nat} (hin : (n, p, q) ∈ H) :
    (i ≤ n ∧ j ≤ p ∧ k ≤ q ∧ p < a.length ∧ q < b.length) ∧ (Tr.szL ts + Tr.szL (o.drop i) + Tr.szL (a.drop j) + Tr.szL (b.drop k) ≤ 3000) ∧
      (∀ e, partM f ((o.drop i).take (n - i)) ((a.drop j).take (p - j)) ((b.drop k).take (q - k)) i = .error e → r = .error e) ∧
      ((∀ o a b t, f o a b = .ok t → t.sz ≤ o.sz + a.sz + b.sz) → ∀ s, partM f ((o.drop i).take (n - i)) ((a.drop j).take (p - j)) ((b.drop k).take (q - k)) i = .ok s →
        Tr.szL (ts ++ s) ≤ 3000 ∧ SegRel f o a b H r (n + 1) (n + 1) (p + 1) (q + 1) (ts ++ s ++ [kidN o n])) := by
  rcases h with ⟨h1, h2, h3, h4, h5, h6, h7⟩ | ⟨h1, _⟩
  · have hr := rise_next hH hin
    rw [hr] at h2 h7
    have hm := h2.2 (n, p, q) (by simp)
    simp only [] at hm
    refine ⟨⟨h3, hm.2.1.1, hm.2.2.1, hm.2.1.2, hm.2.2.2⟩, h6, fun e he => ?_, fun hf s hs => ?_⟩
    · rw [h7, segM]; simp only [he]; rfl
    · have z := partM_sz hf _ _ _ _ _ hs
      have z1 := szL_seg o h3 hn
      have z2 := szL_seg a hm.2.1.1 hm.2.1.2
      have z3 := szL_seg b hm.2.2.1 hm.2.2.2
      refine ⟨by rw [Tr.szL_append]; omega, .inl ⟨hn, h2.tail, Nat.le_refl _, by omega, by omega, ?_, ?_⟩⟩
      · rw [Tr.szL_append, Tr.szL_append]
        simp only [Tr.szL]; omega
      · rw [h7, segM]
        simp only [hs]
        cases segM f o a b (H.filter fun x => decide (n + 1 ≤ x.1)) (n + 1) (p + 1) (q + 1) with
        | error e => rfl
        | ok rs => simp [exMap]
  · omega
/-- The last part. -/
theorem SegRel.last (h : SegRel f o a b H r n i j k ts) (hn : n = o.length) (hH : ∀ x ∈ H, x.1 < o.length) :
    (i ≤ n ∧ j ≤ a.length ∧ k ≤ b.length) ∧ (Tr.szL ts + Tr.szL (o.drop i) + Tr.szL (a.drop j) + Tr.szL (b.drop k) ≤ 3000) ∧
      (∀ e, partM f ((o.drop i).take (n - i)) ((a.drop j).take (a.length - j)) ((b.drop k).take (b.length - k)) i = .error e → r = .error e) ∧
      ((∀ o a b t, f o a b = .ok t → t.sz ≤ o.sz + a.sz + b.sz) → ∀ s, partM f ((o.drop i).take (n - i)) ((a.drop j).take (a.length - j)) ((b.drop k).take (b.length - k)) i = .ok s →
        Tr.szL (ts ++ s) ≤ 3000 ∧ r = .ok (ts ++ s)) := by
  rcases h with ⟨h1, h2, h3, h4, h5, h6, h7⟩ | ⟨h1, _⟩
  · have e : (H.filter fun x => decide (n ≤ x.1)) = [] := by
      rw [List.filter_eq_nil_iff]; intro x hx; have := hH x hx; simp; omega
    rw [e, segM] at h7
    have t1 : (o.drop i).take (n - i) = o.drop i := by rw [List.take_of_length_le]; rw [List.length_drop]; omega
    have t2 : (a.drop j).take (a.length - j) = a.drop j := by rw [List.take_of_length_le]; rw [List.length_drop]; omega
    have t3 : (b.drop k).take (b.length - k) = b.drop k := by rw [List.take_of_length_le]; rw [List.length_drop]; omega
    rw [t1, t2, t3]
    refine ⟨⟨h3, h4, h5⟩, h6, fun e he => by rw [h7, he]; rfl, fun hf s hs => ?_⟩
    have z := partM_sz hf _ _ _ _ _ hs
    exact ⟨by rw [Tr.szL_append]; omega, by rw [h7, hs]; rfl⟩
  · omega
end
/-- What is known of the merging of lists, up to a size. -/
def ListsC (N : Nat) : Prop := ∀ (k1 k2 k3 : List Tr) (o1 o2 o3 : Option Addr) (c1 c2 c3 M : Nat) (pv : Value) (p : List Int) (w : World),
  Tr.szL k1 ≤ N → Tr.szL k1 ≤ 1000 → Tr.szL k2 ≤ 1000 → Tr.szL k3 ≤ 1000 → p.length + Tr.szL k1 ≤ 899 → MOk w M pv p →
  Kids (fun k => k < M) w k1 o1 c1 → Kids (fun k => k < M) w k2 o2 c2 → Kids (fun k => k < M) w k3 o3 c3 →
  Calls Try.prog 90 #[.pointer (some ⟨M, 0, none⟩), .slice o1 k1.length c1, .slice o2 k2.length c2, .slice o3 k3.length c3] w (ListPost M pv p w (segM (mixT N) k1 k2 k3 (held (common k1 k2) (common k1 k3)) 0 0 0))
set_option maxRecDepth 100000 in
set_option maxHeartbeats 6400000 in
theorem lists_any (N : Nat) (TC : TreeC N) : ListsC N := by
  intro o a b oo oa ob co ca cb M pv p w so s1 s2 s3 hpl hm hko hka hkb
  have TC := Lib.hid TC
  have hlo := Tr.length_le o; have hla := Tr.length_le a; have hlb := Tr.length_le b
  have hMw : M + 1 ≤ w.heap.size := blk_lt hm.blk
  have hpb := fun k h => (hm.own.block k h).2
  have hx := common_rise o a; have hy := common_rise o b
  have hH : HeldOk o a b 0 0 0 (held (common o a) (common o b)) := held_ok (.node ⟨#[]⟩ o) (.node ⟨#[]⟩ a) (.node ⟨#[]⟩ b)
  have hmem := fun n p q => @mem_held (common o a) (common o b) n p q
  have C1 := Lib.hid (fun (W' : World) (h : Pr w W') => common_any o a oo co oa ca W' (hko.any.pr h) (hka.any.pr h) (by omega) (by omega))
  have C2 := Lib.hid (fun (W' : World) (h : Pr w W') => common_any o b oo co ob cb W' (hko.any.pr h) (hkb.any.pr h) (by omega) (by omega))
  obtain ⟨r, hr⟩ : ∃ r, r = segM (mixT N) o a b (held (common o a) (common o b)) 0 0 0 := ⟨_, rfl⟩
  rw [← hr]
  generalize held (common o a) (common o b) = H at *
  generalize common o a = X at *
  generalize common o b = Y at *
  have HR := Lib.hid hr; have HM := Lib.hid hm; have HO := Lib.hid hko; have HA := Lib.hid hka; have HB := Lib.hid hkb
  have HH := Lib.hid hH; have Hmem := Lib.hid hmem; have HX := Lib.hid hx; have HY := Lib.hid hy; have Hpb := Lib.hid hpb
  clear hr hm hko hka hkb hH hmem hx hy hpb
  have hp := Pr.refl w
  go_enter Try.func90, Try.ntmps90
  go_wp2_with (first
    | (go_at_call 40; (with_reducible refine Calls.mono (C1.out _ hp) ?_); rintro e w1 ⟨v1, rfl, ho1, hb1⟩; obtain ⟨xo, xc, rfl, hx1⟩ := ho1.prs; have hp := hp.trans hb1)
    | (go_at_call 40; (with_reducible refine Calls.mono (C2.out _ hp) ?_); rintro e w2 ⟨v2, rfl, ho2, hb2⟩; obtain ⟨yo, yc, rfl, hy1⟩ := ho2.prs; have hp := hp.trans hb2))
  have hx2 := hx1.pr hb2
  have hy2 : Prs (From w.heap.size) w2 (pz Y) yo yc := by
    obtain ⟨hc, b', o', g1, g2⟩ := hy1
    exact ⟨hc, b', o', fun hn => ⟨(g1 hn).1, Nat.le_trans hb1.size (g1 hn).2⟩, g2⟩
  have HX2 := Lib.hid hx2; have HY2 := Lib.hid hy2
  have Hp := Lib.hid hp
  have hkeep : ∀ (pq : Value) (W : World), Step M pv pq w2 W → ∀ k, From w.heap.size k → k < w2.heap.size → W.heap[k]? = w2.heap[k]? := fun pq W hs k hk hl => hs.chg.block k hl (by
    have hk' : w.heap.size ≤ k := hk
    rintro (rfl | e)
    · omega
    · have := Hpb.out k e; omega)
  have Hkeep := Lib.hid hkeep
  have hp2 := hp
  clear hp hx1 hy1 hx2 hy2 ho1 ho2 hb1 hb2 C1 C2 hkeep
  have hws := hp2.size
  clear hp2
  go_loopw [11, 12, 13, 14, 15] (fun v v12 v13 v14 v15 wr => ∃ (n i j k : Nat) (pq : Value) (ts : List Tr), n ≤ o.length + 1 ∧ v12 = .int .i64 i ∧ v13 = .int .i64 j ∧ v14 = .int .i64 k ∧ v15 = .int .i64 n ∧ OwnsA w2.heap.size wr v pq ts ∧ MOk wr M pq p ∧ Step M pv pq w2 wr ∧
    SegRel (mixT N) o a b H r n i j k ts) (fun _ _ _ _ v15 _ => o.length + 1 - (intOf v15).toNat)
  case atStart => exact ⟨0, 0, 0, 0, pv, [], by omega, rfl, rfl, rfl, rfl, OwnsA.nil _ _ _, HM.out.pr Hp.out, Step.refl _ _ _, SegRel.start HH.out HR.out (by omega)⟩
  case round =>
    obtain ⟨n, i, j, k, pq, ts, hn1, rfl, rfl, rfl, rfl, hown, hmr, hst, hrel⟩ := hrel
    by_cases hnl : n < o.length
    · have d1 : decide ((n : Int) ≤ o.length) = true := by simp; omega
      have d2 : decide ((n : Int) < o.length) = true := by simp; omega
      have hxr := HX2.out.keep (Hkeep.out pq wr hst)
      have hyr := HY2.out.keep (Hkeep.out pq wr hst)
      have A1 := Lib.hid (fun (W' : World) (h : Pr wr W') => pairAt_any (pz X) xo xc n W' (hxr.pr h))
      have A2 := Lib.hid (fun (W' : World) (h : Pr wr W') => pairAt_any (pz Y) yo yc n W' (hyr.pr h))
      clear hxr hyr
      by_cases hin : ∃ q1 q2, (n, q1) ∈ X ∧ (n, q2) ∈ Y
      · obtain ⟨q1, q2, hq1, hq2⟩ := hin
        rw [atZ_yes HX.out hq1] at A1
        rw [atZ_yes HY.out hq2] at A2
        obtain ⟨⟨hi, hj1, hk1', hq1l, hq2l⟩, hs, he, hok⟩ := hrel.hit hnl HH.out.1 ((Hmem.out n q1 q2).2 ⟨hq1, hq2⟩)
        have d3 : decide ((q1 : Int) < 0) = false := by simp
        have d4 : decide ((q2 : Int) < 0) = false := by simp
        have hlow2 : Chg (fun k => M ≤ k) w w2 := Hp.out.chg _
        have hlowr := hlow2.trans (hst.low (HM.out.pr Hp.out)) (fun _ h => .inl h)
        obtain ⟨b1, o1, l1, ks1, oa1, cap1, e1, hl1, rfl, X0, X1, hkn⟩ := HO.out.getLow n hnl
        have hkN : kidN o n = .node l1 ks1 := by rw [kidN_in o n hnl, e1]
        rw [hkN] at hok
        have hszn := Tr.szL_get o n hnl
        rw [e1] at hszn
        simp only [Tr.sz] at hszn
        obtain ⟨so1, hsl1, hk1⟩ := slice_trees (HO.out.low hlowr) i n hi (by omega)
        obtain ⟨so2, hsl2, hk2⟩ := slice_trees (HA.out.low hlowr) j q1 hj1 (by omega)
        obtain ⟨so3, hsl3, hk3⟩ := slice_trees (HB.out.low hlowr) k q2 hk1' (by omega)
        have z1 : Tr.szL ((o.drop i).take (n - i)) ≤ Tr.szL o := Nat.le_trans (Tr.szL_take_le _ _) (szL_drop_le _ _)
        have z2 : Tr.szL ((a.drop j).take (q1 - j)) ≤ Tr.szL a := Nat.le_trans (Tr.szL_take_le _ _) (szL_drop_le _ _)
        have z3 : Tr.szL ((b.drop k).take (q2 - k)) ≤ Tr.szL b := Nat.le_trans (Tr.szL_take_le _ _) (szL_drop_le _ _)
        generalize (o.drop i).take (n - i) = g1 at *
        generalize (a.drop j).take (q1 - j) = g2 at *
        generalize (b.drop k).take (q2 - k) = g3 at *
        have P1 := Lib.hid (fun (W' : World) (h : Pr wr W') => part_any N TC.out i (by omega) (hmr.pr h) (hk1.pr h) (hk2.pr h) (hk3.pr h) (by omega) (by omega) (by omega) (by omega) (by omega))
        have htl := Tr.length_le ts
        have Hlow := Lib.hid hlowr; have Hst := Lib.hid hst; have Hown := Lib.hid hown; have Hkn := Lib.hid hkn
        have y1 : (0 : Int) ≤ i := by omega
        have y2 : (0 : Int) ≤ j := by omega
        have y3 : (0 : Int) ≤ k := by omega
        have Hl1 := Lib.hid hl1
        clear hrel hown hmr hst hlow2 hlowr hk1 hk2 hk3 e1 hkN hkn hq1 hq2 hl1
        generalize partM (mixT N) g1 g2 g3 i = rt at *
        have hp := Pr.refl wr
        go_upto_region 11 with (first
          | (go_at_call 95; (with_reducible refine Calls.mono (A1.out _ hp) ?_); rintro e w3 ⟨rfl, hb3⟩; have hp := hp.trans hb3)
          | (go_at_call 95; (with_reducible refine Calls.mono (A2.out _ hp) ?_); rintro e w4 ⟨rfl, hb4⟩; have hp := hp.trans hb4))
        have hp4 := hp
        clear hp A1 A2
        refine wp_region_move_tail 15 _ (by kernel_rfl) (by kernel_rfl) (fun _ _ _ h => h) rfl (fun _ => rfl) ?_
        simp only [List.take_succ_cons, List.take_zero, List.drop_succ_cons, List.drop_zero, Nat.reduceSub, Act.put, List.setIfInBounds_toArray, List.set_cons_zero, List.set_cons_succ]
        repeat (go_big_quiet_step (fail))
        refine wpQuiet_nil ?_
        rintro _ ⟨nq, rfl⟩
        have hq := hp4.trans (Pr.drewN w4 nq)
        cases rt with
        | error e =>
          have Hr := Lib.hid (he e rfl)
          clear he hok
          go_wp2_with (go_at_call 96; (with_reducible refine Calls.mono (P1.out _ hq) ?_); rintro e5 w5 ⟨oa5, cap5, rfl, hi5, hc5⟩)
          rw [Hr.out]
          exact ⟨rfl, oa5, cap5, by simp, hi5, (Hlow.out.pr hq).trans hc5 (fun _ h => .inl h)⟩
        | ok s =>
          obtain ⟨hsz, hrel2⟩ := hok (fun o a b t => mixT_sz N o a b t) s rfl
          have Hrel2 := Lib.hid hrel2
          have hll := Tr.length_le (ts ++ s)
          rw [List.length_append] at hll
          have hvb : ∀ k', Value.ownBlock _ = some k' → w2.heap.size ≤ k' ∧ k' < wr.heap.size := Hown.out.block
          have hwr := Hst.out.chg.size
          have hqs := hq.size
          clear he hok hrel2
          go_upto_region 12 with (first
            | (go_at_call 96; (with_reducible refine Calls.mono (P1.out _ hq) ?_); rintro e5 w5 ⟨v5, pv5, rfl, ho5, hm5, hs5⟩; obtain ⟨o5, c5, rfl, hk5⟩ := ho5.kids)
            | (at_builtin; go_must (refine appAs rfl _ _ rfl w2.heap.size _ pv5 ts rfl ((Hown.out.pr hq).step hs5 (by omega)) s _ rfl _ _ rfl (hk5.mono (fun k' hS _ => ⟨by have := hS.1; omega, fun e => by have := (hvb k' e).2; have := hS.1; omega, hS.2⟩)) (by omega) (by have := hs5.chg.size; omega) (fun k' e => (hm5.own.block k' e).2) ?_); intro v6 w6 ho6 hg6))
          have hs6 := (((Hst.out.pr hq).trans hs5)).grown hg6 (fun k' e => (hvb k' e).1)
          have hm6 := hm5.grown hg6 (fun e => by have := (hvb M e).1; omega) (fun k' e => ((Hown.out.pr hq).step hs5 (by omega)).ne k' e)
          have hl6 : Chg (fun k => M ≤ k) w w6 := (Hp.out.chg _).trans (hs6.low (HM.out.pr Hp.out)) (fun _ h => .inl h)
          have x0 := X0 _ hl6; have x1 := X1 _ hl6
          go_wp2_with (first
            | (go_at_call 59; refine (own_any _ _ _ _ _ (by omega) (Hkn.out.low hl6).any).mono ?_; rintro e w7 ⟨oa7, cap7, rfl, hk7, hb7⟩)
            | (at_builtin; go_must (refine appA1 rfl _ _ rfl w2.heap.size _ pv5 (ts ++ s) rfl ((ho6.pr hb7).pr (Pr.alloc _ _)) w7.heap.size rfl (.node l1 ks1) _ _ (heap_alloc_new w7 _) (treeV_mk cap7 Hl1.out ((hk7.pr (Pr.alloc _ _)).mono (fun k' hS _ => ⟨by have hS' : w6.heap.size ≤ k' := hS; have := hs6.chg.size; omega, fun e => by have hS' : w6.heap.size ≤ k' := hS; have := (ho6.block k' e).2; omega, fun e => by have hS' : w6.heap.size ≤ k' := hS; have := (hm6.own.block k' e).2; omega⟩))) (by rw [List.length_append]; omega) (by have := hs6.chg.size; have := hb7.size; simp; omega) (fun k' e => by have := (hm6.own.block k' e).2; have := hb7.size; simp; omega) ?_); intro v8 w8 ho8 hg8))
          refine ⟨⟨n + 1, n + 1, q1 + 1, q2 + 1, pv5, ts ++ s ++ [.node l1 ks1], by omega, by go_num, by go_num, by go_num, by go_num, ho8, ((hm6.pr hb7).pr (Pr.alloc w7 _)).grown hg8 (fun e => by have := (ho6.block M e).1; omega) (fun k' e => ho6.ne k' e), ((hs6.pr hb7).pr (Pr.alloc w7 _)).grown hg8 (fun k' e => (ho6.block k' e).1), Hrel2.out⟩, ?_⟩
          simp [intOf]; omega
      · have hno : ∀ q1 q2, (n, q1, q2) ∉ H := fun q1 q2 h => hin ⟨q1, q2, ((Hmem.out n q1 q2).1 h).1, ((Hmem.out n q1 q2).1 h).2⟩
        have hrel2 := hrel.skip hnl hno
        have Hrel2 := Lib.hid hrel2
        clear hrel hno hrel2
        have hp := Pr.refl wr
        by_cases hix : ∃ q1, (n, q1) ∈ X
        · obtain ⟨q1, hq1⟩ := hix
          have hny : ∀ q2, (n, q2) ∉ Y := fun q2 h => hin ⟨q1, q2, hq1, h⟩
          rw [atZ_yes HX.out hq1] at A1
          rw [atZ_no hny] at A2
          have d3 : decide ((q1 : Int) < 0) = false := by simp
          clear hin hny hq1
          go_wp2_with (first
            | (go_at_call 95; (with_reducible refine Calls.mono (A1.out _ hp) ?_); rintro e w3 ⟨rfl, hb3⟩; have hp := hp.trans hb3)
            | (go_at_call 95; (with_reducible refine Calls.mono (A2.out _ hp) ?_); rintro e w4 ⟨rfl, hb4⟩; have hp := hp.trans hb4))
          refine ⟨⟨n + 1, i, j, k, pq, ts, by omega, rfl, rfl, rfl, by go_num, hown.pr hp, hmr.pr hp, hst.pr hp, Hrel2.out⟩, ?_⟩
          simp [intOf]; omega
        · rw [atZ_no (fun q h => hix ⟨q, h⟩)] at A1
          generalize atZ (pz Y) n = z2 at A2
          clear hin hix
          go_wp2_with (first
            | (go_at_call 95; (with_reducible refine Calls.mono (A1.out _ hp) ?_); rintro e w3 ⟨rfl, hb3⟩; have hp := hp.trans hb3)
            | (go_at_call 95; (with_reducible refine Calls.mono (A2.out _ hp) ?_); rintro e w4 ⟨rfl, hb4⟩; have hp := hp.trans hb4))
          refine ⟨⟨n + 1, i, j, k, pq, ts, by omega, rfl, rfl, rfl, by go_num, hown.pr hp, hmr.pr hp, hst.pr hp, Hrel2.out⟩, ?_⟩
          simp [intOf]; omega
    · by_cases hne : n = o.length
      · obtain ⟨⟨hi, hj1, hk1'⟩, hs, he, hok⟩ := hrel.last hne (fun x hx => (HH.out.2 x hx).1.2)
        have d1 : decide ((n : Int) ≤ o.length) = true := by simp; omega
        have d2 : decide ((n : Int) < o.length) = false := by simp; omega
        have d3 : decide (n ≤ o.length) = true := by simp; omega
        have d4 : decide (n < o.length) = false := by simp; omega
        have hlow2 : Chg (fun k => M ≤ k) w w2 := Hp.out.chg _
        have hlowr := hlow2.trans (hst.low (HM.out.pr Hp.out)) (fun _ h => .inl h)
        obtain ⟨so1, hsl1, hk1⟩ := slice_trees (HO.out.low hlowr) i n hi (by omega)
        obtain ⟨so2, hsl2, hk2⟩ := slice_trees (HA.out.low hlowr) j a.length hj1 (Nat.le_refl _)
        obtain ⟨so3, hsl3, hk3⟩ := slice_trees (HB.out.low hlowr) k b.length hk1' (Nat.le_refl _)
        have z1 : Tr.szL ((o.drop i).take (n - i)) ≤ Tr.szL o := Nat.le_trans (Tr.szL_take_le _ _) (szL_drop_le _ _)
        have z2 : Tr.szL ((a.drop j).take (a.length - j)) ≤ Tr.szL a := Nat.le_trans (Tr.szL_take_le _ _) (szL_drop_le _ _)
        have z3 : Tr.szL ((b.drop k).take (b.length - k)) ≤ Tr.szL b := Nat.le_trans (Tr.szL_take_le _ _) (szL_drop_le _ _)
        generalize (o.drop i).take (n - i) = g1 at *
        generalize (a.drop j).take (a.length - j) = g2 at *
        generalize (b.drop k).take (b.length - k) = g3 at *
        have P1 := Lib.hid (fun (W' : World) (h : Pr wr W') => part_any N TC.out i (by omega) (hmr.pr h) (hk1.pr h) (hk2.pr h) (hk3.pr h) (by omega) (by omega) (by omega) (by omega) (by omega))
        have htl := Tr.length_le ts
        have Hlow := Lib.hid hlowr; have Hst := Lib.hid hst; have Hown := Lib.hid hown
        have y1 : (0 : Int) ≤ i := by omega
        have y2 : (0 : Int) ≤ j := by omega
        have y3 : (0 : Int) ≤ k := by omega
        clear hrel hown hmr hst hlow2 hlowr hk1 hk2 hk3
        generalize partM (mixT N) g1 g2 g3 i = rt at *
        have hp := Pr.refl wr
        have Hne := Lib.hid hne
        clear hne
        go_upto_region 11 with fail
        obtain ⟨w4, hw4⟩ : ∃ w4, w4 = wr := ⟨_, rfl⟩
        subst hw4
        have hp4 := hp
        clear hp
        refine wp_region_move_tail 15 _ (by kernel_rfl) (by kernel_rfl) (fun _ _ _ h => h) rfl (fun _ => rfl) ?_
        simp only [List.take_succ_cons, List.take_zero, List.drop_succ_cons, List.drop_zero, Nat.reduceSub, Act.put, List.setIfInBounds_toArray, List.set_cons_zero, List.set_cons_succ]
        repeat (go_big_quiet_step (fail))
        refine wpQuiet_nil ?_
        rintro _ ⟨nq, rfl⟩
        have hq := hp4.trans (Pr.drewN w4 nq)
        cases rt with
        | error e =>
          have Hr := Lib.hid (he e rfl)
          clear he hok
          go_wp2_with (go_at_call 96; (with_reducible refine Calls.mono (P1.out _ hq) ?_); rintro e5 w5 ⟨oa5, cap5, rfl, hi5, hc5⟩)
          rw [Hr.out]
          exact ⟨rfl, oa5, cap5, by simp, hi5, (Hlow.out.pr hq).trans hc5 (fun _ h => .inl h)⟩
        | ok s =>
          obtain ⟨hsz, hrel2⟩ := hok (fun o a b t => mixT_sz N o a b t) s rfl
          have Hrel2 := Lib.hid hrel2
          have hll := Tr.length_le (ts ++ s)
          rw [List.length_append] at hll
          have hvb : ∀ k', Value.ownBlock _ = some k' → w2.heap.size ≤ k' ∧ k' < w4.heap.size := Hown.out.block
          have hwr := Hst.out.chg.size
          have hqs := hq.size
          clear he hok hrel2
          go_wp2_with (first
            | (go_at_call 96; (with_reducible refine Calls.mono (P1.out _ hq) ?_); rintro e5 w5 ⟨v5, pv5, rfl, ho5, hm5, hs5⟩; obtain ⟨o5, c5, rfl, hk5⟩ := ho5.kids)
            | (at_builtin; go_must (refine appAs rfl _ _ rfl w2.heap.size _ pv5 ts rfl ((Hown.out.pr hq).step hs5 (by omega)) s _ rfl _ _ rfl (hk5.mono (fun k' hS _ => ⟨by have := hS.1; omega, fun e => by have := (hvb k' e).2; have := hS.1; omega, hS.2⟩)) (by omega) (by have := hs5.chg.size; omega) (fun k' e => (hm5.own.block k' e).2) ?_); intro v6 w6 ho6 hg6))
          have hs6 := (((Hst.out.pr hq).trans hs5)).grown hg6 (fun k' e => (hvb k' e).1)
          have hm6 := hm5.grown hg6 (fun e => by have := (hvb M e).1; omega) (fun k' e => ((Hown.out.pr hq).step hs5 (by omega)).ne k' e)
          refine ⟨⟨n + 1, n + 1, a.length + 1, b.length + 1, pv5, ts ++ s, by have := Hne.out; omega, by go_num, by go_num, by go_num, by go_num, ho6, hm6, hs6, .inr ⟨by have := Hne.out; omega, Hrel2.out⟩⟩, ?_⟩
          have := Hne.out; simp [intOf]; omega
      · have hr : r = .ok ts := by rcases hrel with ⟨h1, _⟩ | ⟨_, h1⟩; omega; exact h1
        have Hr := Lib.hid hr
        have d1 : decide ((n : Int) ≤ o.length) = false := by simp; omega
        clear hrel hr
        go_wp2_with fail
        go_ret
        rw [Hr.out]
        exact ⟨_, pq, rfl, hown.mono hws, hmr, ⟨(Hp.out.chg _).trans hst.chg (fun _ h => .inl h), fun k' e => (hst.new k' e).imp id (fun h => Nat.le_trans hws h)⟩⟩
end Go.Proofs.Ytdbnfhpgmcjngab
