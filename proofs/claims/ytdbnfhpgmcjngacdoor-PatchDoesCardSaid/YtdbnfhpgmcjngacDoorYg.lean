/- Walks: the laws' greatDeeds; pleachingref.SameDeeds. -/
import Derived.Test.YtdbnfhpgmcjngacDoorDy
import Derived.Test.YtdbnfhpgmcjngacDoorDs
import Derived.Deep.DeepCutAuto
namespace Go.Proofs.YtdbnfhpgmcjngacDoor
open Go Go.RowKit

/-- Not too great: few deeds, each small. -/
def FewDs (ds : List Dee) : Prop := ds.length ≤ 100 ∧ ∀ d ∈ ds, d.path.length ≤ 60
def greatDB (d : Dee) : Bool := greatD d.path d.lab
/-- Are they too great? -/
def greatDs (ds : List Dee) : Bool := (ds.take 100).any greatDB || decide (100 < ds.length)
theorem greatDs_few {ds : List Dee} (h : greatDs ds = false) : FewDs ds := by
  unfold greatDs at h
  simp only [Bool.or_eq_false_iff, decide_eq_false_iff_not] at h
  obtain ⟨h1, h2⟩ := h
  rw [List.take_of_length_le (by omega)] at h1
  refine ⟨by omega, fun d hd => ?_⟩
  have h3 := List.any_eq_false.1 h1 d hd
  unfold greatDB greatD at h3
  simp only [Bool.or_eq_true, decide_eq_true_eq, not_or] at h3
  omega
def GreatDsPost (w : World) (ds : List Dee) (e : Ending) (w' : World) : Prop := (∃ b, e = .returned (.bool b) ∧ (b = false → FewDs ds)) ∧ Pr w w'
set_option maxHeartbeats 1600000 in
theorem greatDsE_any (ds : List Dee) (oa cap) (w : World) (hd : Dees Any w ds oa cap) :
    Calls Tryd.prog 15 #[.slice oa ds.length cap] w fun e w' => e = .returned (.bool (greatDs ds)) ∧ Pr w w' := by
  have hm := hd.len
  go_enter Tryd.func15, Tryd.ntmps15
  go_wp2_with fail
  go_loopw [3] (fun i wr => ∃ (k : Nat), k ≤ ds.length ∧ k ≤ 100 ∧ i = .int .i64 k ∧ (ds.take k).any greatDB = false ∧ Pr w wr) (fun i _ => ds.length - (intOf i).toNat)
  case atStart => exact ⟨0, by omega, by omega, rfl, by simp, Pr.refl _⟩
  case round =>
    obtain ⟨k, hkl, hk1, rfl, hg, hb⟩ := hrel
    have Hg := Lib.hid hg
    clear hg
    by_cases hlt : k < ds.length
    · by_cases h1 : k < 100
      · obtain ⟨b, o, pa, pc, rfl, c0, c1, c2, c3, c4, hp, hls⟩ := (hd.pr hb).get k hlt
        obtain ⟨bl, hbl⟩ : ∃ bl, bl = greatD ds[k].path ds[k].lab := ⟨_, rfl⟩
        have G1 := greatDeed_any ds[k].kind ds[k].path ds[k].pos ds[k].many ds[k].lab pa pc wr hp
        rw [← hbl] at G1
        have ht : ds.take (k + 1) = ds.take k ++ [ds[k]] := List.take_succ_eq_append_getElem hlt
        have hno : (ds.take (k + 1)).any greatDB = bl := by
          rw [ht, List.any_append, Hg.out, Bool.false_or, List.any_cons, List.any_nil, Bool.or_false, hbl]; rfl
        have hyes : bl = true → greatDs ds = true := fun h => by
          have h2 : ds.take 100 = ds.take (k + 1) ++ (ds.drop (k + 1)).take (100 - (k + 1)) := by rw [← List.take_add]; congr 1; omega
          unfold greatDs
          rw [h2, List.any_append, hno, h]; rfl
        have G2 := Lib.hid G1; have Hno := Lib.hid hno; have Hyes := Lib.hid hyes
        clear G1 hbl ht hno hyes hp hls
        generalize ds[k] = d at *
        obtain ⟨dk, dp, da, dm, ds'⟩ := d
        simp only at c0 c1 c2 c3 c4 G2
        cases bl
        · go_wp2_with (go_at_call 51; (with_reducible refine Calls.mono G2.out ?_); rintro e w1 ⟨rfl, hb1⟩)
          refine ⟨⟨k + 1, by omega, by omega, by go_num, Hno.out, hb.trans hb1⟩, ?_⟩
          simp [intOf]; omega
        · go_wp2_with (go_at_call 51; (with_reducible refine Calls.mono G2.out ?_); rintro e w1 ⟨rfl, hb1⟩)
          go_ret
          exact ⟨ret_bool (Hyes.out (by trivial)).symm, hb.trans hb1⟩
      · have e5 : (100 : Int) < ds.length := by omega
        have hr : greatDs ds = true := by unfold greatDs; rw [decide_eq_true (show 100 < ds.length by omega), Bool.or_true]
        have Hr := Lib.hid hr
        clear hr
        go_wp2_with fail
        go_ret
        exact ⟨ret_bool (by rw [Hr.out]), hb⟩
    · have hkv : k = ds.length := by omega
      have hr : greatDs ds = false := by
        have h := Hg.out
        rw [hkv, List.take_length] at h
        unfold greatDs
        rw [List.take_of_length_le (by omega), h, decide_eq_false (by omega)]; rfl
      have Hr := Lib.hid hr
      clear hr Hg
      have e5 : ¬ (100 : Int) < ds.length := by omega
      go_wp2_with fail
      go_ret
      exact ⟨ret_bool (by rw [Hr.out]), hb⟩
theorem greatDs_any (ds : List Dee) (oa cap) (w : World) (hd : Dees Any w ds oa cap) :
    Calls Tryd.prog 15 #[.slice oa ds.length cap] w (GreatDsPost w ds) :=
  (greatDsE_any ds oa cap w hd).mono fun _ _ ⟨h, hp⟩ => ⟨⟨_, h, greatDs_few⟩, hp⟩

set_option maxHeartbeats 1600000 in
theorem sameDeeds_any (xs ys : List Dee) (oa cap ob cbp) (w : World) (hx : Dees Any w xs oa cap) (hy : Dees Any w ys ob cbp) :
    Calls Tryd.prog 10 #[.slice oa xs.length cap, .slice ob ys.length cbp] w fun e w' => e = .returned (.bool (decide (xs = ys))) ∧ Pr w w' := by
  have hm := hx.len
  have hm2 := hy.len
  by_cases hlen : xs.length = ys.length
  case neg =>
    have Hf : Hid (decide (xs = ys) = false) := decide_eq_false (fun e => hlen (by rw [e]))
    have hne : ((xs.length : Int) != ys.length) = true := by simp [bne_iff_ne]; omega
    clear hlen
    go_enter Tryd.func10, Tryd.ntmps10
    go_wp2_with fail
    go_ret
    exact ⟨ret_bool Hf.out.symm, Pr.refl _⟩
  have hne : ((xs.length : Int) != ys.length) = false := by simp [hlen]
  have Hlen := Lib.hid hlen
  clear hlen
  go_enter Tryd.func10, Tryd.ntmps10
  go_wp2_with fail
  go_loopw [5] (fun i wr => ∃ (k : Nat), k ≤ xs.length ∧ i = .int .i64 k ∧ xs.take k = ys.take k ∧ Pr w wr) (fun i _ => xs.length - (intOf i).toNat)
  case atStart => exact ⟨0, by omega, rfl, by simp, Pr.refl _⟩
  case round =>
    obtain ⟨k, hkl, rfl, hr, hb⟩ := hrel
    have Hr := Lib.hid hr
    clear hr
    by_cases hlt : k < xs.length
    · have hlt' : k < ys.length := by have := Hlen.out; omega
      obtain ⟨b, o, pa, pc, rfl, c0, c1, c2, c3, c4, hp, hls⟩ := (hx.pr hb).get k hlt
      obtain ⟨b', o', pa', pc', rfl, d0, d1, d2, d3, d4, hp', hls'⟩ := (hy.pr hb).get k hlt'
      have hk0 : (0 : Int) ≤ k := by omega
      have hk1 : (k : Int) < xs.length := by omega
      have hk2 : (k : Int) < ys.length := by omega
      have hsn : xs[k] = ys[k] → xs.take (k + 1) = ys.take (k + 1) := fun h => by rw [List.take_succ_eq_append_getElem hlt, List.take_succ_eq_append_getElem hlt', Hr.out, h]
      have hst : xs[k] ≠ ys[k] → ¬ xs = ys := fun h e => h (by subst e; rfl)
      generalize xs[k] = x at *
      generalize ys[k] = y at *
      obtain ⟨k1, p1, a1, m1, s1⟩ := x
      obtain ⟨k2, p2, a2, m2, s2⟩ := y
      simp only at c0 c1 c2 c3 c4 d0 d1 d2 d3 d4 hp hp' hls hls'
      have SD := fun W' (h : Pr wr W') => rsameDeed_any k1 p1 a1 m1 s1 pa pc k2 p2 a2 m2 s2 pa' pc' W' (Flat.pr h hp) (Flat.pr h hp')
      obtain ⟨q, hq⟩ : ∃ q, q = decide ((⟨k1, p1, a1, m1, s1⟩ : Dee) = ⟨k2, p2, a2, m2, s2⟩) := ⟨_, rfl⟩
      rw [← hq] at SD
      have SD2 := Lib.hid SD; have Hq := Lib.hid hq
      have Hsn := Lib.hid hsn
      have Hst := Lib.hid hst
      have c0 := stays c0; have c1 := stays c1; have c2 := stays c2; have c3 := stays c3; have c4 := stays c4
      have d0 := stays d0; have d1 := stays d1; have d2 := stays d2; have d3 := stays d3; have d4 := stays d4
      clear hsn hst SD hq hp hp' hls hls'
      cases q
      all_goals
        go_upto_region 6 with fail
        go_region_held3 (fun W' => Pr wr W')
          (first | with_reducible exact Pr.drew wr | with_reducible exact hq1)
          (first | (go_at_call 27; (with_reducible refine Calls.mono (SD2.out _ (Pr.drew wr)) ?_); rintro e w1 ⟨rfl, hb1⟩; have hq1 := (Pr.drew wr).trans hb1))
        go_wp2_with fail
      · go_ret
        exact ⟨ret_bool (decide_eq_false (Hst.out (of_decide_eq_false Hq.out.symm))).symm, hb.trans hq1⟩
      · refine ⟨⟨k + 1, by omega, by go_num, Hsn.out (of_decide_eq_true Hq.out.symm), hb.trans hq1⟩, ?_⟩
        simp [intOf]; omega
    · have hkv : k = xs.length := by omega
      go_wp2_with fail
      go_ret
      exact ⟨ret_bool (by have h1 := Hr.out; have h2 := Hlen.out; subst hkv; rw [List.take_length, h2, List.take_length] at h1; exact (decide_eq_true h1).symm), hb⟩
end Go.Proofs.YtdbnfhpgmcjngacDoor
