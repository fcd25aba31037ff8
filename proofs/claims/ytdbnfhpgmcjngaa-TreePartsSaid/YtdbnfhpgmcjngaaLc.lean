/- The law TreeParts: its walk. -/
import Derived.Test.YtdbnfhpgmcjngaaLa
import Derived.Test.YtdbnfhpgmcjngaaTrb
import Derived.Deep.DeepCutAuto
namespace Go.Proofs.Ytdbnfhpgmcjngaa
open Go Go.RowKit

theorem Flat.take {S : Nat → Prop} {w : World} {vs : List Value} {oa : Option Addr} {cap : Nat} (h : Flat S w vs oa cap) (k : Nat) : Flat S w (vs.take k) oa cap := by
  obtain ⟨⟨hc, hm⟩, b, o, h1, h2⟩ := h
  refine ⟨⟨by rw [List.length_take]; omega, hm⟩, b, o, fun hn => h1 (by intro e; subst e; simp at hn), fun i hi => ?_⟩
  rw [List.length_take] at hi
  rw [h2 i (by omega)]; simp
theorem Flat.drop {S : Nat → Prop} {w : World} {vs : List Value} {oa : Option Addr} {cap : Nat} (h : Flat S w vs oa cap) (k : Nat) (hk : k ≤ vs.length) :
    Flat S w (vs.drop k) (if cap = k then oa else oa.map (·.add k)) (cap - k) := by
  obtain ⟨⟨hc, hm⟩, b, o, h1, h2⟩ := h
  refine ⟨⟨by rw [List.length_drop]; omega, by omega⟩, b, o + k, fun hn => ?_, fun i hi => ?_⟩
  · have h3 : 0 < (vs.drop k).length := List.length_pos_iff.2 hn
    rw [List.length_drop] at h3
    obtain ⟨rfl, hS⟩ := h1 (by intro e; subst e; simp at h3)
    rw [if_neg (by omega)]
    refine ⟨?_, hS⟩
    by_cases h0 : k = 0
    · subst h0; rfl
    · simp [Addr.add, h0]
  · rw [List.length_drop] at hi
    have := h2 (k + i) (by omega)
    rw [show o + k + i = o + (k + i) by omega, this]; simp

/-- 'int(uint(cut) % uint(n+1))' is a number from 0 to n. -/
theorem cut_ix (c : Int) (n : Nat) (h : n ≤ 1000000) : ∃ K : Nat, K ≤ n ∧ wrap64 ((IntKind.u64.wrap c).tmod ((n : Int) + 1)) = K := by
  have h0 : 0 ≤ IntKind.u64.wrap c := by simp [IntKind.wrap, IntKind.signed, IntKind.bits]; omega
  generalize IntKind.u64.wrap c = u at h0
  have h1 : u.tmod ((n : Int) + 1) = u % ((n : Int) + 1) := Int.tmod_eq_emod_of_nonneg h0
  have h2 := Int.emod_nonneg u (show ((n : Int) + 1) ≠ 0 by omega)
  have h3 := Int.emod_lt_of_pos u (show (0 : Int) < (n : Int) + 1 by omega)
  refine ⟨(u % ((n : Int) + 1)).toNat, by omega, ?_⟩
  rw [h1, IntWalk.wrap64_in _ ⟨by omega, by omega⟩]; omega

/-- A variable that holds what At told. -/
def TVar (v : Value) (r : Option Tr) (wx : World) : Prop :=
  ∃ B l ks oa cap, v = .pointer (some ⟨B, 0, none⟩) ∧ r.getD Tr.zero = .node l ks ∧ l.size ≤ maxLen ∧ wx.cell? ⟨B, 0, none⟩ = some (.string l) ∧ wx.cell? ⟨B, 1, none⟩ = some (.slice oa ks.length cap) ∧ Kids Any wx ks oa cap
theorem TVar.pr {v : Value} {r : Option Tr} {a b : World} (h : TVar v r a) (hp : Pr a b) : TVar v r b := by
  obtain ⟨B, l, ks, oa, cap, h1, h2, h3, h4, h5, h6⟩ := h
  exact ⟨B, l, ks, oa, cap, h1, h2, h3, hp.cell h4, hp.cell h5, h6.pr hp⟩
/-- The variable was made behind the call. -/
theorem TVar.new {w : World} {S : Nat → Prop} {r : Option Tr} {l : ByteArray} {ks : List Tr} {oa cap} (he : r.getD Tr.zero = .node l ks) (hl : l.size ≤ maxLen) (hk : Kids S w ks oa cap) :
    TVar (.pointer (some ⟨w.heap.size, 0, none⟩)) r (w.alloc (.cells #[.string l, .slice oa ks.length cap] 24)) :=
  ⟨_, l, ks, oa, cap, rfl, he, hl, by simp [go_sem], by simp [go_sem], (hk.pr (Pr.alloc _ _)).any⟩
/-- The variable was made ahead of the call. -/
theorem TVar.set {Wd w : World} {r : Option Tr} {l : ByteArray} {ks : List Tr} {oa cap} (hb : Pr (Wd.alloc (.cells #[.string ⟨#[]⟩, .slice none 0 0] 24)).drew w) (he : r.getD Tr.zero = .node l ks) (hl : l.size ≤ maxLen)
    (hk : Kids (From (Wd.alloc (.cells #[.string ⟨#[]⟩, .slice none 0 0] 24)).drew.heap.size) w ks oa cap) :
    TVar (.pointer (some ⟨Wd.heap.size, 0, none⟩)) r ((w.setCell ⟨Wd.heap.size, 0, none⟩ (.string l)).setCell ⟨Wd.heap.size, 1, none⟩ (.slice oa ks.length cap)) := by
  have h0 : w.heap[Wd.heap.size]? = some (.cells #[.string ⟨#[]⟩, .slice none 0 0] 24 (0, 0)) := hb.blk ((Pr.drew _).blk (heap_alloc_new Wd _))
  have h1 := blk_set (o := 1) (blk_set (o := 0) h0 (.string l)) (.slice oa ks.length cap)
  refine ⟨_, l, ks, oa, cap, rfl, he, hl, blk_cell h1, blk_cell h1, ?_⟩
  exact ((hk.setCell _ _ (by simp)).setCell _ _ (by simp)).any
/-- A new variable, and then a call. -/
theorem newvar (Wd : World) : (∀ W', Pr (Wd.alloc (.cells #[.string ⟨#[]⟩, .slice none 0 0] 24)).drew W' → W'.cell? ⟨Wd.heap.size, 0, none⟩ = some (.string ⟨#[]⟩)) ∧
    (∀ W', Pr (Wd.alloc (.cells #[.string ⟨#[]⟩, .slice none 0 0] 24)).drew W' → W'.cell? ⟨Wd.heap.size, 1, none⟩ = some (.slice none 0 0)) ∧
    (∀ W', Pr (Wd.alloc (.cells #[.string ⟨#[]⟩, .slice none 0 0] 24)).drew W' → W'.frozen? ⟨Wd.heap.size, 0, none⟩ = false) ∧
    (∀ W', Pr (Wd.alloc (.cells #[.string ⟨#[]⟩, .slice none 0 0] 24)).drew W' → W'.frozen? ⟨Wd.heap.size, 1, none⟩ = false) := by
  refine ⟨stays (by simp [go_sem]), stays (by simp [go_sem]), fun W' h => ?_, fun W' h => ?_⟩ <;>
  · rw [h.frozen (by simp)]; simp [go_sem]

set_option maxHeartbeats 3200000 in
set_option maxRecDepth 100000 in
theorem treeParts_walk (l : ByteArray) (ks : List Tr) (oa cap) (p : List Int) (pa pc) (cut : Int) (w : World)
    (hl : l.size ≤ maxLen) (hk : Kids Any w ks oa cap) (hp : Ints Any w p pa pc) (_ : ∀ x ∈ p, (Lit.int .i64 x).wf = true) (hcut : (Lit.int .i64 cut).wf = true) :
    Calls Try.prog 4 #[.agg #[.string l, .slice oa ks.length cap], .slice pa p.length pc, .int .i64 cut] w fun e w' => e = .returned (.bool true) ∧ Pr w w' := by
  obtain ⟨W, hW⟩ : ∃ W, W = w.alloc (.cells #[.string l, .slice oa ks.length cap] 24) := ⟨_, rfl⟩
  have hwW : Pr w W := by rw [hW]; exact Pr.alloc _ _
  have c0 : W.cell? ⟨w.heap.size, 0, none⟩ = some (.string l) := by rw [hW]; simp [go_sem]
  have c1 : W.cell? ⟨w.heap.size, 1, none⟩ = some (.slice oa ks.length cap) := by rw [hW]; simp [go_sem]
  have s0 := stays c0; have s1 := stays c1
  have hk' := hk.pr hwW; have hp' := Flat.pr hwW hp
  clear c0 c1 hk hp
  obtain ⟨ru1, ru2, ru3⟩ := Pr.rules W
  have hml := hk'.len
  have hpl0 := Ints.len hp'
  by_cases hg1 : great (.node l ks) = true
  · have Hg1 := Lib.hid hg1; clear hg1
    go_enter Try.func4, Try.ntmps4
    go_wp2_with fail
    rw [← hW]; clear hW
    go_wp2_with (first
      | (go_at_call 14; refine (treeBegun_any _).mono ?_; rintro e w' ⟨rfl, hc⟩)
      | (go_at_call 15; (with_reducible refine Calls.mono (great_any l ks _ _ _ (hk'.pr hc)) ?_); rintro e w' ⟨rfl, hb⟩; simp only [Hg1.out]; have hc := hc.trans hb))
    go_ret
    exact ⟨rfl, hwW.trans hc⟩
  have hg1' : great (.node l ks) = false := by simpa using hg1
  have hz1 := great_sz hg1'
  have Hg1 := Lib.hid hg1'; clear hg1 hg1'
  by_cases hpl : 100 < p.length
  · have hpl' : (100 : Int) < p.length := by omega
    go_enter Try.func4, Try.ntmps4
    go_wp2_with fail
    rw [← hW]; clear hW
    go_wp2_with (first
      | (go_at_call 14; refine (treeBegun_any _).mono ?_; rintro e w' ⟨rfl, hc⟩)
      | (go_at_call 15; (with_reducible refine Calls.mono (great_any l ks _ _ _ (hk'.pr hc)) ?_); rintro e w' ⟨rfl, hb⟩; simp only [Hg1.out]; have hc := hc.trans hb))
    go_ret
    exact ⟨rfl, hwW.trans hc⟩
  have hpl' : ¬ ((100 : Int) < p.length) := by omega
  by_cases hf : fault (.node l ks) = 0
  case neg =>
    have hne : (((fault (.node l ks) : Nat) : Int) != 0) = true := by simp [bne_iff_ne]; omega
    clear hf
    go_enter Try.func4, Try.ntmps4
    go_wp2_with fail
    rw [← hW]; clear hW
    go_wp2_with (first
      | (go_at_call 14; refine (treeBegun_any _).mono ?_; rintro e w' ⟨rfl, hc⟩)
      | (go_at_call 15; (with_reducible refine Calls.mono (great_any l ks _ _ _ (hk'.pr hc)) ?_); rintro e w' ⟨rfl, hb⟩; simp only [Hg1.out]; have hc := hc.trans hb)
      | (go_at_call 21; (with_reducible refine Calls.mono (check_any l ks _ _ _ hl (hk'.pr hc)) ?_); rintro e w' ⟨rfl, hb⟩; have hc := hc.trans hb))
    go_ret
    exact ⟨rfl, hwW.trans hc⟩
  have hne : (((fault (.node l ks) : Nat) : Int) != 0) = false := by rw [hf]; rfl
  have Hf := Lib.hid hf; clear hf
  go_enter Try.func4, Try.ntmps4
  go_wp2_with fail
  rw [← hW]; clear hW
  go_wp2_with (first
    | (go_at_call 14; refine (treeBegun_any _).mono ?_; rintro e w' ⟨rfl, hc⟩)
    | (go_at_call 15; (with_reducible refine Calls.mono (great_any l ks _ _ _ (hk'.pr hc)) ?_); rintro e w' ⟨rfl, hb⟩; simp only [Hg1.out]; have hc := hc.trans hb)
    | (go_at_call 21; (with_reducible refine Calls.mono (check_any l ks _ _ _ hl (hk'.pr hc)) ?_); rintro e w' ⟨rfl, hb⟩; have hc := hc.trans hb))
  clear hne
  go_loopw [7, 8] (fun v i wr => ∃ (k r : Nat), k ≤ ks.length ∧ i = .int .i64 k ∧ v = .int .i64 r ∧ r = Tr.szL (ks.take k) + 1 ∧ Pr W wr) (fun _ i _ => ks.length - (intOf i).toNat)
  case atStart => exact ⟨0, 1, by omega, rfl, rfl, by simp, hc⟩
  case round =>
    obtain ⟨k, r, hkl, rfl, rfl, hr, hb⟩ := hrel
    have htl := Tr.szL_take_le ks k
    have hln := Tr.length_le ks
    have Hr := Lib.hid hr
    have r0 : 1 ≤ r := by omega
    have r1 : r ≤ 1000 := by omega
    clear hr
    by_cases hlt : k < ks.length
    · obtain ⟨b, o, l', ks', oa', cap', e1, hl', rfl, d0, d1, hk2⟩ := hk'.get k hlt
      have t0 := stays d0; have t1 := stays d1
      clear d0 d1
      have hs := Tr.szL_take_succ ks k hlt
      have hsz := Tr.szL_get ks k hlt
      have hat : (Tr.node l ks).at? [(k : Int)] = some (.node l' ks') := by simp only [Tr.at?, Tr.kid?_in l ks hlt, e1]; rfl
      rw [e1] at hs hsz
      have Hs := Lib.hid hs
      have Hat := Lib.hid hat
      clear hs e1 hat
      simp only [Tr.sz] at hsz
      go_wp2_with (first
        | (go_at_call 23; (with_reducible refine Calls.mono (size_any _ l' ks' _ _ _ (Nat.lt_succ_self _) (by omega) (hk2.pr hb)) ?_); rintro e wA ⟨rfl, hb1⟩; have hb := hb.trans hb1)
        | (go_at_call 17; refine (at_any l ks _ _ [(k : Int)] _ 1 _ (by omega) hl (hk'.pr (hb.alloc' _)) (Flat.mk (by simp) (by simp [maxLen]) trivial (by intro i hi; simp at hi; subst hi; simp [go_sem]))).mono ?_; rintro e wB ⟨l3, ks3, oa3, cap3, he3, hl3, rfl, hk3, hb3⟩; rw [Hat.out] at he3 ⊢; cases he3; have hb := (hb.alloc' _).trans hb3))
      obtain ⟨W0, hW0⟩ : ∃ W0, W0 = wB.alloc (.cells #[.string l', .slice oa3 ks'.length cap3] 24) := ⟨_, rfl⟩
      have pW : Pr W W0 := by rw [hW0]; exact hb.alloc' _
      have x4 : ∀ W', Pr W0 W' → W'.cell? ⟨wB.heap.size, 0, none⟩ = some (.string l') := stays (by rw [hW0]; simp [go_sem])
      have x5 : ∀ W', Pr W0 W' → W'.cell? ⟨wB.heap.size, 1, none⟩ = some (.slice oa3 ks'.length cap3) := stays (by rw [hW0]; simp [go_sem])
      have y0 := stays (s0 _ pW); have y1 := stays (s1 _ pW); have y2 := stays (t0 _ pW); have y3 := stays (t1 _ pW)
      have kX : Kids Any W0 ks' oa3 cap3 := by rw [hW0]; exact (hk3.pr (Pr.alloc _ _)).any
      have kK := hk2.pr pW
      rw [← hW0]
      have C1 : Hid (∀ W' : World, Pr W0 W' → Calls Try.prog 25 #[.agg #[.string l', .slice oa3 ks'.length cap3], .agg #[.string l', .slice oa' ks'.length cap']] W' fun e w' => e = .returned (.bool true) ∧ Pr W' w') := fun W' h => by
        have := psame_any l' l' ks' ks' _ _ _ _ W' (kX.pr h) (kK.pr h); rw [Tr.beq_self] at this; exact this
      have hW0c : ∀ W', Pr W0 W' → Pr W W' := fun _ h => pW.trans h
      clear s0 s1 t0 t1 hW0 hk3 hb3 kX kK ru1 ru2 ru3 hb
      have hc := Pr.drew W0
      go_region_held3 (fun W => Pr W0 W) (exact hc)
        (first | (go_at_call 25; (with_reducible refine Calls.mono (C1.out _ hc) ?_); rintro e w' ⟨rfl, hb'⟩; have hc := hc.trans hb'))
      go_wp2_with fail
      refine ⟨⟨k + 1, r + (Tr.szL ks' + 1), by omega, by go_num, by go_num, ?_, hW0c _ hc⟩, ?_⟩
      · have h1 := Hr.out; have h2 := Hs.out; simp only [Tr.sz] at *; omega
      · simp [intOf]; omega
    · have hkv : k = ks.length := by omega
      have hrv : r = Tr.szL ks + 1 := by have := Hr.out; rw [hkv, List.take_length] at this; exact this
      subst hrv
      clear Hr
      go_wp2_with fail
      obtain ⟨K, hK, hKe⟩ := cut_ix cut p.length (by omega)
      rw [hKe]
      clear hKe hcut
      refine (at_any l ks _ _ p _ _ _ (by omega) hl (hk'.pr hb) (Flat.pr hb hp')).mono ?_
      rintro e wA ⟨l3, ks3, oa3, cap3, he3, hl3, rfl, hk3, hb3⟩
      have hbA := hb.trans hb3
      have hKz : (0 : Int) ≤ K := by omega
      have hKp : (K : Int) ≤ p.length := by omega
      have hpcc : p.length ≤ pc := by have := hp'.1; simp at this; omega
      have hpc2 : (K : Int) ≤ pc := by omega
      have hpc3 : (p.length : Int) ≤ pc := by omega
      have He3 := Lib.hid he3
      clear he3
      go_upto_region 15 with fail
      obtain ⟨Wd, hWd⟩ : ∃ Wd, Wd = wA.alloc (.cells #[.string l3, .slice oa3 ks3.length cap3] 24) := ⟨_, rfl⟩
      have pD : Pr W Wd := by rw [hWd]; exact hbA.alloc' _
      have hX : TVar (.pointer (some ⟨wA.heap.size, 0, none⟩)) ((Tr.node l ks).at? p) Wd := ⟨_, l3, ks3, oa3, cap3, rfl, He3.out, hl3, by rw [hWd]; simp [go_sem], by rw [hWd]; simp [go_sem], by rw [hWd]; exact (hk3.pr (Pr.alloc _ _)).any⟩
      rw [← hWd]
      clear hWd hb hb3 hbA hk3 He3
      have y0 := stays (s0 _ pD); have y1 := stays (s1 _ pD)
      go_cut [14, 15] (fun v b wx => TVar v ((Tr.node l ks).at? (p.take K)) wx ∧ b = .bool ((Tr.node l ks).at? (p.take K)).isSome ∧ Pr Wd wx)
      case first =>
        obtain ⟨nv0, nv1, nv2, nv3⟩ := newvar Wd
        have hc := Pr.drew Wd
        have C1 : Hid (∀ W' : World, Pr Wd W' → Calls Try.prog 17 #[.agg #[.string l, .slice oa ks.length cap], .slice pa K pc] W' (AtPost (From W'.heap.size) W' ((Tr.node l ks).at? (p.take K)))) := fun W' h => by
          have hfl : Ints Any W' (p.take K) pa pc := by have := Flat.take (Flat.pr (pD.trans h) hp') K; rw [← List.map_take] at this; exact this
          have := at_any l ks oa cap (p.take K) pa pc W' (by omega) hl (hk'.pr (pD.trans h)) hfl
          rw [List.length_take, Nat.min_eq_left hK] at this
          exact this
        clear s0 s1
        go_region_held3 (fun W => Pr Wd W) (first | exact hc | exact (Pr.alloc _ _).drew' | exact hc.alloc' _ | exact Pr.setCell (Pr.setCell hc (by simp) _) (by simp) _)
          (first | (go_at_call 17; (with_reducible refine Calls.mono (C1.out _ (by first | exact hc | exact (Pr.alloc _ _).drew')) ?_); rintro e wB ⟨l4, ks4, oa4, cap4, he4, hl4, rfl, hk4, hb4⟩; have He4 := Lib.hid he4; clear he4; have hc := (show Pr Wd _ by first | exact hc.trans hb4 | exact (Pr.alloc _ _).drew'.trans hb4)))
        all_goals
          go_wp2_with fail
          go_meet
        · exact ⟨TVar.new He4.out hl4 hk4, rfl, hc.alloc' _⟩
        · exact ⟨TVar.set hb4 He4.out hl4 hk4, rfl, Pr.setCell (Pr.setCell hc (by simp) _) (by simp) _⟩
      case rest =>
        obtain ⟨hy, rfl, hb⟩ := hcut
        have hX := hX.pr hb
        have y0 := stays (y0 _ hb); have y1 := stays (y1 _ hb)
        have hbW := pD.trans hb
        clear pD hb
        obtain ⟨B, l5, ks5, oa5, cap5, rfl, he5, hl5, e0, e1, hk5⟩ := id hy
        have He5 := Lib.hid he5
        clear he5
        have hsz5 : Tr.szL ks5 ≤ 1000 := by
          have h5 := He5.out
          cases hat : (Tr.node l ks).at? (p.take K) with
          | none => rw [hat] at h5; cases h5; simp
          | some u => rw [hat] at h5; have := Tr.at?_sz hat; simp at h5; subst h5; simp at this; omega
        have z0 := stays e0; have z1 := stays e1
        clear e0 e1
        have hyy : (if ((Tr.node l ks).at? (p.take K)).isSome then (Tr.node l ks).at? p = (Tr.node l5 ks5).at? (p.drop K) else (Tr.node l ks).at? p = none) := by
          have h5 := He5.out
          have ha := Tr.at?_append (Tr.node l ks) (p.take K) (p.drop K)
          rw [List.take_append_drop] at ha
          cases hat : (Tr.node l ks).at? (p.take K) with
          | none => rw [hat] at ha; simp [ha]
          | some u => rw [hat] at ha h5; simp at h5; subst h5; simp [ha]
        have Hyy := Lib.hid hyy
        clear hyy
        go_upto_region 16 with fail
        go_cut [16, 17] (fun v b wx => TVar v ((Tr.node l5 ks5).at? (p.drop K)) wx ∧ b = .bool ((Tr.node l5 ks5).at? (p.drop K)).isSome ∧ Pr wc wx)
        case first =>
          obtain ⟨nv0, nv1, nv2, nv3⟩ := newvar wc
          have hc := Pr.drew wc
          have hfl := Flat.drop hp' K (by simpa using hK)
          rw [← List.map_drop] at hfl
          have C2 : Hid (∀ (W' : World) (A : Option Addr) (n c : Nat), Pr wc W' → n = p.length - K → Ints Any W' (p.drop K) A c → Calls Try.prog 17 #[.agg #[.string l5, .slice oa5 ks5.length cap5], .slice A n c] W' (AtPost (From W'.heap.size) W' ((Tr.node l5 ks5).at? (p.drop K)))) := fun W' A n c h hn hf => by
            have := at_any l5 ks5 oa5 cap5 (p.drop K) A c W' (by omega) hl5 (hk5.pr h) hf
            rw [List.length_drop, ← hn] at this
            exact this
          clear s0 s1 y0 y1 hk5 hk' hX hy
          by_cases hpK : pc = K
          · obtain rfl : K = pc := hpK.symm
            have hKl : p.length - K = 0 := by omega
            rw [if_pos rfl, Nat.sub_self] at hfl
            have Hfl := Lib.hid hfl
            clear hfl hpK
            go_region_held3 (fun W => Pr wc W) (first | exact hc | exact (Pr.alloc _ _).drew' | exact hc.alloc' _ | exact Pr.setCell (Pr.setCell hc (by simp) _) (by simp) _)
              (first | (go_at_call 17; (refine Calls.mono (C2.out _ _ _ _ (by first | exact hc | exact (Pr.alloc _ _).drew') (by omega) (Flat.pr (hbW.trans (by first | exact hc | exact (Pr.alloc _ _).drew')) Hfl.out)) ?_); rintro e wB ⟨l4, ks4, oa4, cap4, he4, hl4, rfl, hk4, hb4⟩; have He4 := Lib.hid he4; clear he4; have hc := (show Pr wc _ by first | exact hc.trans hb4 | exact (Pr.alloc _ _).drew'.trans hb4)))
            all_goals
              go_wp2_with fail
              go_meet
            · exact ⟨TVar.new He4.out hl4 hk4, rfl, hc.alloc' _⟩
            · exact ⟨TVar.set hb4 He4.out hl4 hk4, rfl, Pr.setCell (Pr.setCell hc (by simp) _) (by simp) _⟩
          · rw [if_neg hpK] at hfl
            have Hfl := Lib.hid hfl
            clear hfl
            go_region_held3 (fun W => Pr wc W) (first | exact hc | exact (Pr.alloc _ _).drew' | exact hc.alloc' _ | exact Pr.setCell (Pr.setCell hc (by simp) _) (by simp) _)
              (first | (go_at_call 17; (refine Calls.mono (C2.out _ _ _ _ (by first | exact hc | exact (Pr.alloc _ _).drew') (by omega) (Flat.pr (hbW.trans (by first | exact hc | exact (Pr.alloc _ _).drew')) Hfl.out)) ?_); rintro e wB ⟨l4, ks4, oa4, cap4, he4, hl4, rfl, hk4, hb4⟩; have He4 := Lib.hid he4; clear he4; have hc := (show Pr wc _ by first | exact hc.trans hb4 | exact (Pr.alloc _ _).drew'.trans hb4)))
            all_goals
              go_wp2_with fail
              go_meet
            · exact ⟨TVar.new He4.out hl4 hk4, rfl, hc.alloc' _⟩
            · exact ⟨TVar.set hb4 He4.out hl4 hk4, rfl, Pr.setCell (Pr.setCell hc (by simp) _) (by simp) _⟩
        case rest =>
          obtain ⟨hz, rfl, hb⟩ := hcut
          obtain ⟨B2, l6, ks6, oa6, cap6, rfl, he6, hl6, f0, f1, hk6⟩ := hz
          obtain ⟨B1, l4, ks4, oa4, cap4, hX0, he4, hl4, g0, g1, hk4⟩ := hX.pr hb
          cases hX0
          have y0 := y0 _ hb; have y1 := y1 _ hb
          rename_i wd
          have x0 := stays y0; have x1 := stays y1; have x2 := stays f0; have x3 := stays f1; have x4 := stays g0; have x5 := stays g1
          have hwd := hbW.trans hb
          have kT := hk'.pr hwd
          have hsT : Tr.szL ks ≤ 1000 := by omega
          clear y0 y1 f0 f1 g0 g1 s0 s1 z0 z1 hX hy hb hbW
          have hc := Pr.refl wc
          have hnz : (((Tr.szL ks + 1 : Nat) : Int) != ((Tr.szL ks + 1 : Nat) : Int)) = false := by simp
          have hyy := Hyy.out
          cases hat : ((Tr.node l ks).at? (p.take K)) with
          | none =>
            rw [hat] at hyy
            simp only [Option.isSome_none, Bool.false_eq_true, if_false] at hyy
            rw [hyy]
            simp only [Option.isSome_none]
            clear hyy hat Hyy he4 he6 He5
            go_wp2_with (first
              | (go_at_call 23; (with_reducible refine Calls.mono (size_any _ l ks _ _ _ (Nat.lt_succ_self _) (by omega) (kT.pr hc)) ?_); rintro e wE ⟨rfl, hb1⟩; have hc := hc.trans hb1))
            go_ret
            exact ⟨rfl, hwW.trans (hwd.trans hc)⟩
          | some u =>
            rw [hat] at hyy
            simp only [Option.isSome_some, if_true] at hyy
            rw [hyy] at he4 ⊢
            cases hd : (Tr.node l5 ks5).at? (p.drop K) with
            | none =>
              simp only [Option.isSome_none, Option.isSome_some]
              clear hyy hat hd Hyy he4 he6 He5
              go_wp2_with (first
                | (go_at_call 23; (with_reducible refine Calls.mono (size_any _ l ks _ _ _ (Nat.lt_succ_self _) (by omega) (kT.pr hc)) ?_); rintro e wE ⟨rfl, hb1⟩; have hc := hc.trans hb1))
              go_ret
              exact ⟨rfl, hwW.trans (hwd.trans hc)⟩
            | some v =>
              rw [hd] at he4 he6 hyy
              simp only [Option.getD_some] at he4 he6
              have hfz : ((fault (.node l4 ks4) : Nat) : Int) = 0 := by
                have := fault_at hyy Hf.out
                rw [he4] at this; rw [this]; rfl
              have hbq : (Tr.node l4 ks4).beq (.node l6 ks6) = true := (Tr.beq_iff _ _).2 (he4.symm.trans he6)
              have C1 : Hid (∀ W' : World, Pr wc W' → Calls Try.prog 21 #[.agg #[.string l4, .slice oa4 ks4.length cap4]] W' fun e w' => e = .returned (.int .i64 0) ∧ Pr W' w') := fun W' h => by
                have := check_any l4 ks4 oa4 cap4 W' hl4 (hk4.pr h); rw [hfz] at this; exact this
              have C2 : Hid (∀ W' : World, Pr wc W' → Calls Try.prog 25 #[.agg #[.string l4, .slice oa4 ks4.length cap4], .agg #[.string l6, .slice oa6 ks6.length cap6]] W' fun e w' => e = .returned (.bool true) ∧ Pr W' w') := fun W' h => by
                have := psame_any l4 l6 ks4 ks6 _ _ _ _ W' (hk4.pr h) (hk6.pr h); rw [hbq] at this; exact this
              simp only [Option.isSome_some]
              clear hyy hat hd Hyy he4 he6 He5 hfz hbq
              go_wp2_with (first
                | (go_at_call 23; (with_reducible refine Calls.mono (size_any _ l ks _ _ _ (Nat.lt_succ_self _) (by omega) (kT.pr hc)) ?_); rintro e wE ⟨rfl, hb1⟩; have hc := hc.trans hb1)
                | (go_at_call 21; (with_reducible refine Calls.mono (C1.out _ hc) ?_); rintro e wF ⟨rfl, hb1⟩; have hc := hc.trans hb1)
                | (go_at_call 25; (with_reducible refine Calls.mono (C2.out _ hc) ?_); rintro e wG ⟨rfl, hb1⟩; have hc := hc.trans hb1))
              go_ret
              exact ⟨rfl, hwW.trans (hwd.trans hc)⟩
end Go.Proofs.Ytdbnfhpgmcjngaa
