/- Walks: the node at a path, in place; kids that others stand for. -/
import Derived.Test.YtdbnfhpgmcjngacUo
import Derived.Test.YtdbnfhpgmcjngacCl
namespace Go.Proofs.Ytdbnfhpgmcjngac
open Go Go.RowKit

def FindPost (w : World) (B o lo hi : Nat) (t : Tr) (p : List Int) (e : Ending) (w' : World) : Prop :=
  w = w' ∧ ((t.at? p = none ∧ e = .returned (.pointer none)) ∨ ∃ b' o' lo' hi' x, e = .returned (.pointer (some ⟨b', o', none⟩)) ∧ Spot w B o lo hi t p b' o' lo' hi' x ∧ addrAt w B o p = some (b', o'))
set_option maxHeartbeats 1600000 in
theorem find_any (w : World) (B o lo hi : Nat) (t : Tr) (p : List Int) (pa pc) (hs : Spot w B o lo hi t [] B o lo hi t) (hp : Ints Any w p pa pc) :
    Calls Try.prog 92 #[.pointer (some ⟨B, o, none⟩), .slice pa p.length pc] w (FindPost w B o lo hi t p) := by
  have hm := Ints.len hp
  go_enter Try.func92, Try.ntmps92
  go_wp2_with fail
  go_loopw [0, 9] (fun v i wr => ∃ (k b' o' lo' hi' : Nat) (x : Tr), k ≤ p.length ∧ i = .int .i64 k ∧ v = .pointer (some ⟨b', o', none⟩) ∧ Spot w B o lo hi t (p.take k) b' o' lo' hi' x ∧ addrAt w B o (p.take k) = some (b', o') ∧ wr = w) (fun _ i _ => p.length - (intOf i).toNat)
  case atStart => exact ⟨0, B, o, lo, hi, t, by omega, rfl, rfl, by simpa using hs, rfl, rfl⟩
  case round =>
    obtain ⟨k, b', o', lo', hi', x, hkl, rfl, rfl, hsp, had, rfl⟩ := hrel
    have Had := Lib.hid had
    clear had
    have Hs := Lib.hid hsp
    clear hs
    by_cases hlt : k < p.length
    · obtain ⟨b, o2, rfl, c0⟩ := Ints.get hp k hlt
      cases x with
      | node l ks =>
      have Hn := Lib.hid (t.at?_take p k hlt hsp.at')
      have Hst := Lib.hid (t.at?_stop p (k + 1))
      have Htk := Lib.hid (List.take_succ_eq_append_getElem hlt)
      obtain ⟨oa, cap, d0, d1, hkk, _⟩ := hsp.cells
      have hkl2 := hkk.len
      generalize hz : p[k] = z at *
      have Hz := Lib.hid hz
      clear hz hsp hkk
      by_cases hneg : z < 0
      · go_wp2_with fail
        go_ret
        exact ⟨rfl, .inl ⟨Hst.out (by rw [Hn.out]; exact Tr.kid?_neg _ hneg), rfl⟩⟩
      · by_cases hge : (ks.length : Int) ≤ z
        · go_wp2_with fail
          go_ret
          exact ⟨rfl, .inl ⟨Hst.out (by rw [Hn.out]; exact Tr.kid?_ge _ _ hge), rfl⟩⟩
        · obtain ⟨n, rfl⟩ := Int.eq_ofNat_of_zero_le (by omega : 0 ≤ z)
          have hnl : n < ks.length := by omega
          obtain ⟨oa', cap', b2, o3, lo2, hi2, e0, e1, e2, hs2, _, _⟩ := Hs.out.step n hnl
          rw [e1] at d1
          obtain ⟨rfl, rfl⟩ : oa' = oa ∧ cap' = cap := by cases d1; exact ⟨rfl, rfl⟩
          subst e2
          have Hs2 := Lib.hid hs2
          have had2 : addrAt wr B o (p.take (k + 1)) = some (b2, o3 + n * 2) := by
            rw [Htk.out, addrAt_append _ _ _ _ _ _ _ Had.out]; simp only [addrAt, e1, Int.toNat_natCast]
          have Had2 := Lib.hid had2
          clear hs2 e0 had2
          go_wp2_with fail
          refine ⟨⟨k + 1, b2, o3 + n * 2, lo2, hi2, ks[n], by omega, by go_num, rfl, by rw [Htk.out]; exact Hs2.out, Had2.out, trivial⟩, ?_⟩
          simp [intOf]; omega
    · have hkv : k = p.length := by omega
      subst hkv
      rw [List.take_length] at Hs Had
      go_wp2_with fail
      go_ret
      exact ⟨rfl, .inr ⟨b', o', lo', hi', x, rfl, Hs.out, Had.out⟩⟩

theorem Kids.cutP {S : Nat → Prop} {w : World} {ts : List Tr} {oa : Option Addr} {cap : Nat} (h : Kids S w ts oa cap) (n : Nat) (hn : n ≤ ts.length) : Kids S w (ts.take n) oa cap := by
  obtain ⟨⟨h1, h2⟩, b, o, h3, h4⟩ := h
  refine ⟨⟨by rw [List.length_take]; omega, h2⟩, b, o, fun hne => ?_, h4.take n⟩
  exact h3 (by intro e; subst e; simp at hne)
/-- Kids that others stand for. -/
def repl (ks : List Tr) (n m : Nat) (us : List Tr) : List Tr := ks.take n ++ us ++ ks.drop (n + m)
def ReplPost (S : Nat → Prop) (w : World) (b o : Nat) (ks : List Tr) (e : Ending) (w' : World) : Prop :=
  ∃ w2 oc cc, e = .returned (.tuple #[]) ∧ w' = w2.setCell ⟨b, o + 1, none⟩ (.slice oc ks.length cc) ∧ Pr w w2 ∧ Kids (fun k => S k ∨ w.heap.size ≤ k) w2 ks oc cc
set_option maxHeartbeats 1600000 in
theorem replace_any (S : Nat → Prop) (b o n m : Nat) (ks us : List Tr) (oa cap ub uc) (w : World) (c1 : w.cell? ⟨b, o + 1, none⟩ = some (.slice oa ks.length cap)) (f1 : w.frozen? ⟨b, o + 1, none⟩ = false) (hk : Kids S w ks oa cap) (hu : Kids S w us ub uc)
    (hn : n + m ≤ ks.length) (hks : ks.length ≤ 100000) (hus : us.length ≤ 100000) :
    Calls Try.prog 95 #[.pointer (some ⟨b, o, none⟩), .int .i64 n, .int .i64 m, .slice ub us.length uc] w (ReplPost S w b o (repl ks n m us)) := by
  have hlt := lt_of_cell c1
  have hcap := hk.1.1
  have hcm : cap ≤ 9223372036854775807 := by have := hk.1.2; unfold maxLen at this; omega
  have hl := hk.len
  have hul := hu.len
  have hfl : flen [ks.take n, us, ks.drop (n + m)] 3 = (repl ks n m us).length := by simp [flen, repl]
  have hfe : [ks.take n, us, ks.drop (n + m)].flatten = repl ks n m us := by simp [repl]
  have hrl : (repl ks n m us).length ≤ 1000000 := by simp [repl]; omega
  have ht1 : (ks.take n).length = n := by simp; omega
  have ht2 : (ks.drop (n + m)).length = ks.length - (n + m) := by simp
  have CC : Hid (∀ W' B ob cb, Pr w W' → W'.cell? ⟨B, 0, none⟩ = some (.slice oa n cap) → W'.cell? ⟨B, 1, none⟩ = some (.slice ub us.length uc) → W'.cell? ⟨B, 2, none⟩ = some (.slice ob (ks.length - (n + m)) cb) → Kids S w (ks.drop (n + m)) ob cb →
      Calls Try.prog 111 #[.slice (some ⟨B, 0, none⟩) 3 3] W' fun e w' => (∃ oc cp, e = .returned (.slice oc (repl ks n m us).length cp) ∧ Kids (fun k => S k ∨ w.heap.size ≤ k) w' (repl ks n m us) oc cp) ∧ Pr W' w') := Lib.hid fun W' B ob cb hp d0 d1 d2 hk2 => by
    have hR : Rows2 S W' [ks.take n, us, ks.drop (n + m)] B := by
      intro i hi
      match i with
      | 0 => exact ⟨oa, cap, by rw [d0]; simp [ht1], (hk.cutP n (by omega)).pr hp⟩
      | 1 => exact ⟨ub, uc, by rw [d1]; rfl, hu.pr hp⟩
      | 2 => exact ⟨ob, cb, by rw [d2]; simp, hk2.pr hp⟩
    refine (concatTrees_any S _ B 3 W' hR (by simp only [List.length_cons, List.length_nil]; rw [hfl]; exact hrl) (by simp)).mono ?_
    rintro e w' ⟨⟨oc, cp, rfl, hkk⟩, hb⟩
    rw [hfe] at hkk
    refine ⟨⟨oc, cp, by simp only [List.length_cons, List.length_nil]; rw [← hfl], hkk.mono (fun k hS _ => ?_)⟩, hb⟩
    rcases hS with h | h
    · exact .inl h
    · exact .inr (by have := hp.size; omega)
  have HK := Lib.hid hk
  generalize hR : repl ks n m us = R at *
  clear hfl hfe hu ht1 ht2 hk hR
  have a1 : (0 : Int) ≤ n := by omega
  have a2 : (n : Int) ≤ cap := by omega
  have a3 : (n : Int) ≤ ks.length := by omega
  have a4 : (0 : Int) ≤ (n : Int) + m := by omega
  have a5 : (n : Int) + m ≤ ks.length := by omega
  have a6 : (n : Int) + m ≤ cap := by omega
  have a7 : (ks.length : Int) ≤ cap := by omega
  have u1 : IntKind.i64.wrap ((n : Int) + m) = (n : Int) + m := IntWalk.i64_in _ (by omega)
  have u2 : ((n : Int) + m).toNat = n + m := by omega
  have f1' : w.drew.frozen? ⟨b, o + 1, none⟩ = false := f1
  by_cases hc : cap = n + m
  · have hz : ks.length - (n + m) = 0 := by omega
    have HK2 : Hid (Kids S w (ks.drop (n + m)) oa 0) := Lib.hid (by
      have h0 : ks.drop (n + m) = [] := List.drop_eq_nil_of_le (by omega)
      rw [h0]; exact Kids.nil _ _ _ _ (Nat.zero_le _))
    have hkn : ks.length = n + m := by omega
    rw [hz] at CC
    rw [hkn] at c1 a3 a5 a7 hn
    subst hc
    have a8 : (n : Int) ≤ (n : Int) + m := by omega
    have a9 : (0 : Int) ≤ (n : Int) + m := by omega
    clear hz
    go_enter Try.func95, Try.ntmps95
    go_wp2_with fail
    go_region_law (first
        | (go_simp; go_at_call 111; (refine Calls.mono (CC.out _ _ oa 0 ((Pr.alloc w _).drew') (by simp [go_sem]) (by simp [go_sem]) (by simp [go_sem]) HK2.out) ?_)
           rintro e w1 ⟨⟨oc, cp, rfl, hkk⟩, hb⟩
           have s1 := hb.cell (((Pr.alloc w _).drew').cell c1)
           have s2 : w1.frozen? ⟨b, o + 1, none⟩ = false := (by rw [((Pr.drew' (Pr.alloc w _)).trans hb).frozen hlt]; exact f1)))
    all_goals
      go_end0
      exact ⟨w1, oc, cp, rfl, rfl, ((Pr.alloc w _).drew').trans hb, hkk⟩
  · have hc2 : n + m < cap := by omega
    go_enter Try.func95, Try.ntmps95
    go_wp2_with fail
    go_region_law (first
        | (go_simp; go_at_call 111; (refine Calls.mono (CC.out _ _ (Option.map (fun x => x.add ((n + m) * 2)) oa) (cap - (n + m)) ((Pr.alloc w _).drew') (by simp [go_sem]) (by simp [go_sem]) (by simp [go_sem]) (HK.out.cutL (n + m) (by omega))) ?_)
           rintro e w1 ⟨⟨oc, cp, rfl, hkk⟩, hb⟩
           have s1 := hb.cell (((Pr.alloc w _).drew').cell c1)
           have s2 : w1.frozen? ⟨b, o + 1, none⟩ = false := (by rw [((Pr.drew' (Pr.alloc w _)).trans hb).frozen hlt]; exact f1)))
    all_goals
      go_end0
      exact ⟨w1, oc, cp, rfl, rfl, ((Pr.alloc w _).drew').trans hb, hkk⟩
end Go.Proofs.Ytdbnfhpgmcjngac
