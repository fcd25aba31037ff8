/- Walks: kids between two that all have, where no kid is merged. -/
import Derived.Test.YtdbnfhpgmcjngabMo
namespace Go.Proofs.Ytdbnfhpgmcjngab
open Go Go.RowKit

section
variable {M : Nat} {pv : Value} {p : List Int} {w : World} {o a b : List Tr} {oo oa ob : Option Addr} {co ca cb : Nat}
theorem ListPost.own {v : Value} {ts : List Tr} {e : Ending} {w' : World} (he : e = .returned v) (ho : OwnsTs w.heap.size w' v ts) (hm : MOk w M pv p) (hp : Pr w w') : ListPost M pv p w (.ok ts) e w' :=
  ⟨v, pv, he, ho.away (fun k hk => (hm.own.block k hk).2), hm.pr hp, ⟨hp.chg _, fun _ h => .inl h⟩⟩
set_option maxHeartbeats 1600000 in
theorem part_b (n : Int) (hm : MOk w M pv p) (hko : Kids Any w o oo co) (hka : Kids Any w a oa ca) (hkb : Kids Any w b ob cb) (hs : Tr.szL b ≤ 1000) (h : (Tr.beqL a o || Tr.beqL a b) = true) :
    Calls Try.prog 96 #[.pointer (some ⟨M, 0, none⟩), .slice oo o.length co, .slice oa a.length ca, .slice ob b.length cb, .int .i64 n] w (ListPost M pv p w (.ok b)) := by
  have S1 := Lib.hid (fun W' (h : Pr w W') => sameList_any a o oa ca oo co W' (hka.pr h) (hko.pr h))
  have S2 := Lib.hid (fun W' (h : Pr w W') => sameList_any a b oa ca ob cb W' (hka.pr h) (hkb.pr h))
  have hlen := hkb.len
  have hlb := Tr.length_le b
  have HM := Lib.hid hm
  have HB := Lib.hid hkb
  clear hm hko hka hkb
  generalize Tr.beqL a o = t1 at *
  generalize Tr.beqL a b = t2 at *
  have main : t1 = true ∨ (t1 = false ∧ t2 = true) := by cases t1 <;> cases t2 <;> simp at h ⊢
  clear h
  have hp := Pr.refl w
  go_enter Try.func96, Try.ntmps96
  rcases main with rfl | ⟨rfl, rfl⟩
  all_goals
    go_wp2_with (first
      | (go_at_call 101; (with_reducible refine Calls.mono (S1.out _ hp) ?_); rintro e w1 ⟨rfl, hb1⟩; have hp := hp.trans hb1)
      | (go_at_call 101; (with_reducible refine Calls.mono (S2.out _ hp) ?_); rintro e w2 ⟨rfl, hb2⟩; have hp := hp.trans hb2))
    have Hp := Lib.hid hp
    go_loopw [11, 28] (fun v i wr => ∃ k : Nat, k ≤ b.length ∧ i = .int .i64 k ∧ OwnsTs w.heap.size wr v (b.take k) ∧ Pr w wr) (fun _ i _ => b.length - (intOf i).toNat)
    case atStart => exact ⟨0, by omega, rfl, by simpa using OwnsTs.nil _ _, Hp.out⟩
    case round =>
      obtain ⟨k, hkl, rfl, hown, hb⟩ := hrel
      by_cases hlt : k < b.length
      · obtain ⟨b5, o5, l', ks', oa', cap', e1, hl', rfl, c0, c1, hk'⟩ := (HB.out.pr hb).get k hlt
        have hsz := Tr.szL_get b k hlt
        have hsn := List.take_succ_eq_append_getElem hlt
        rw [e1] at hsz hsn
        have Hsn := Lib.hid hsn
        clear e1 hsn
        simp only [Tr.sz] at hsz
        have htl : (b.take k).length ≤ 1000 := by rw [List.length_take]; omega
        have z1 : (k : Int) < b.length := by omega
        have z2 : (0 : Int) ≤ k := by omega
        go_wp2_with (first
          | (go_at_call 59; refine (own_any _ _ _ _ _ (by omega) (hk'.pr (Pr.alloc _ _))).mono ?_; rintro e w3 ⟨oa2, cap2, rfl, hk2, hb3⟩)
          | (at_builtin; go_must (refine app_tree rfl _ _ rfl w.heap.size _ _ rfl (((hown.pr (Pr.alloc _ _)).pr hb3).pr (Pr.alloc _ _)) w3.heap.size rfl (.node l' ks') _ _ (heap_alloc_new w3 _) (treeV_mk cap2 hl' ((hk2.pr (Pr.alloc _ _)).mono (apart_new (hown.pr (Pr.alloc _ _)) (by have := hb.size; simp; omega)))) (by omega) (by have := hb.size; have := hb3.size; simp at this ⊢; omega) ?_); intro g cap3 w4 ho4 hg4 hat4))
        refine ⟨⟨k + 1, by omega, by go_num, ?_, ?_⟩, ?_⟩
        · have hl2 : (b.take k).length = k := by simp; omega
          rw [hl2] at ho4; rw [Hsn.out]; exact ho4
        · exact Pr.grown (((hb.alloc' _).trans hb3).alloc' _) (((hown.pr (Pr.alloc _ _)).pr hb3).pr (Pr.alloc _ _)) hg4
        · simp [intOf]; omega
      · have hkv : k = b.length := by omega
        go_wp2_with fail
        go_ret
        subst hkv
        rw [List.take_length] at hown
        exact ListPost.own rfl hown HM.out hb
set_option maxHeartbeats 1600000 in
theorem part_a (n : Int) (hm : MOk w M pv p) (hko : Kids Any w o oo co) (hka : Kids Any w a oa ca) (hkb : Kids Any w b ob cb) (hs : Tr.szL a ≤ 1000) (h : ¬ (Tr.beqL a o || Tr.beqL a b) = true) (h1 : Tr.beqL b o = true) :
    Calls Try.prog 96 #[.pointer (some ⟨M, 0, none⟩), .slice oo o.length co, .slice oa a.length ca, .slice ob b.length cb, .int .i64 n] w (ListPost M pv p w (.ok a)) := by
  have S1 := Lib.hid (fun W' (h : Pr w W') => sameList_any a o oa ca oo co W' (hka.pr h) (hko.pr h))
  have S2 := Lib.hid (fun W' (h : Pr w W') => sameList_any a b oa ca ob cb W' (hka.pr h) (hkb.pr h))
  have S3 := Lib.hid (fun W' (h : Pr w W') => sameList_any b o ob cb oo co W' (hkb.pr h) (hko.pr h))
  have hlen := hka.len
  have hlb := Tr.length_le a
  have HM := Lib.hid hm
  have HB := Lib.hid hka
  clear hm hko hka hkb
  generalize Tr.beqL a o = t1 at *
  generalize Tr.beqL a b = t2 at *
  rw [h1] at S3
  have main : t1 = false ∧ t2 = false := by cases t1 <;> cases t2 <;> simp at h ⊢
  clear h h1
  have hp := Pr.refl w
  obtain ⟨rfl, rfl⟩ := main
  go_enter Try.func96, Try.ntmps96
  go_wp2_with (first
    | (go_at_call 101; (with_reducible refine Calls.mono (S1.out _ hp) ?_); rintro e w1 ⟨rfl, hb1⟩; have hp := hp.trans hb1)
    | (go_at_call 101; (with_reducible refine Calls.mono (S2.out _ hp) ?_); rintro e w2 ⟨rfl, hb2⟩; have hp := hp.trans hb2)
    | (go_at_call 101; (with_reducible refine Calls.mono (S3.out _ hp) ?_); rintro e w2 ⟨rfl, hb3⟩; have hp := hp.trans hb3))
  have Hp := Lib.hid hp
  go_loopw [11, 45] (fun v i wr => ∃ k : Nat, k ≤ a.length ∧ i = .int .i64 k ∧ OwnsTs w.heap.size wr v (a.take k) ∧ Pr w wr) (fun _ i _ => a.length - (intOf i).toNat)
  case atStart => exact ⟨0, by omega, rfl, by simpa using OwnsTs.nil _ _, Hp.out⟩
  case round =>
    obtain ⟨k, hkl, rfl, hown, hb⟩ := hrel
    by_cases hlt : k < a.length
    · obtain ⟨b5, o5, l', ks', oa', cap', e1, hl', rfl, c0, c1, hk'⟩ := (HB.out.pr hb).get k hlt
      have hsz := Tr.szL_get a k hlt
      have hsn := List.take_succ_eq_append_getElem hlt
      rw [e1] at hsz hsn
      have Hsn := Lib.hid hsn
      clear e1 hsn
      simp only [Tr.sz] at hsz
      have htl : (a.take k).length ≤ 1000 := by rw [List.length_take]; omega
      have z1 : (k : Int) < a.length := by omega
      have z2 : (0 : Int) ≤ k := by omega
      go_wp2_with (first
        | (go_at_call 59; refine (own_any _ _ _ _ _ (by omega) (hk'.pr (Pr.alloc _ _))).mono ?_; rintro e w3 ⟨oa2, cap2, rfl, hk2, hb3⟩)
        | (at_builtin; go_must (refine app_tree rfl _ _ rfl w.heap.size _ _ rfl (((hown.pr (Pr.alloc _ _)).pr hb3).pr (Pr.alloc _ _)) w3.heap.size rfl (.node l' ks') _ _ (heap_alloc_new w3 _) (treeV_mk cap2 hl' ((hk2.pr (Pr.alloc _ _)).mono (apart_new (hown.pr (Pr.alloc _ _)) (by have := hb.size; simp; omega)))) (by omega) (by have := hb.size; have := hb3.size; simp at this ⊢; omega) ?_); intro g cap3 w4 ho4 hg4 hat4))
      refine ⟨⟨k + 1, by omega, by go_num, ?_, ?_⟩, ?_⟩
      · have hl2 : (a.take k).length = k := by simp; omega
        rw [hl2] at ho4; rw [Hsn.out]; exact ho4
      · exact Pr.grown (((hb.alloc' _).trans hb3).alloc' _) (((hown.pr (Pr.alloc _ _)).pr hb3).pr (Pr.alloc _ _)) hg4
      · simp [intOf]; omega
    · have hkv : k = a.length := by omega
      go_wp2_with fail
      go_ret
      subst hkv
      rw [List.take_length] at hown
      exact ListPost.own rfl hown HM.out hb
set_option maxHeartbeats 1600000 in
theorem part_no (n : Int) (hm : MOk w M pv p) (hko : Kids Any w o oo co) (hka : Kids Any w a oa ca) (hkb : Kids Any w b ob cb) (h : ¬ (Tr.beqL a o || Tr.beqL a b) = true) (h1 : ¬ Tr.beqL b o = true) (h2 : a.length ≠ o.length ∨ b.length ≠ o.length) :
    Calls Try.prog 96 #[.pointer (some ⟨M, 0, none⟩), .slice oo o.length co, .slice oa a.length ca, .slice ob b.length cb, .int .i64 n] w (ListPost M pv p w (.error [])) := by
  have S1 := Lib.hid (fun W' (h : Pr w W') => sameList_any a o oa ca oo co W' (hka.pr h) (hko.pr h))
  have S2 := Lib.hid (fun W' (h : Pr w W') => sameList_any a b oa ca ob cb W' (hka.pr h) (hkb.pr h))
  have S3 := Lib.hid (fun W' (h : Pr w W') => sameList_any b o ob cb oo co W' (hkb.pr h) (hko.pr h))
  have HM := Lib.hid hm
  have F1 := Lib.hid (fun W' (h : Pr w W') => mfail_any W' M pv p (hm.pr h))
  clear hm hko hka hkb
  generalize Tr.beqL a o = t1 at *
  generalize Tr.beqL a b = t2 at *
  generalize Tr.beqL b o = t3 at *
  have main : t1 = false ∧ t2 = false := by cases t1 <;> cases t2 <;> simp at h ⊢
  have main3 : t3 = false := by cases t3 <;> simp at h1 ⊢
  clear h h1
  have hp := Pr.refl w
  obtain ⟨rfl, rfl⟩ := main
  subst main3
  have hends : ∀ (e : Ending) (W : World), FailPost w p e W → ListPost M pv p w (.error []) e W := by
    rintro e W ⟨oa, cap, rfl, hi, hb⟩
    refine ⟨oa, cap, by rw [List.append_nil], by rw [List.append_nil]; exact hi.mono (fun k hk _ => by have := blk_lt HM.out.blk; have hk' : w.heap.size ≤ k := hk; show M ≤ k; omega), hb.chg _⟩
  have He := Lib.hid hends
  clear hends
  go_enter Try.func96, Try.ntmps96
  by_cases hlen : a.length = o.length
  · have hlb : b.length ≠ o.length := by rcases h2 with h2 | h2; exact absurd hlen h2; exact h2
    have e1 : ((a.length : Int) != o.length) = false := by simp [hlen]
    have e2 : ((b.length : Int) != o.length) = true := by simp [bne_iff_ne]; omega
    clear hlen hlb h2
    go_wp2_with (first
      | (go_at_call 101; (with_reducible refine Calls.mono (S1.out _ hp) ?_); rintro e w1 ⟨rfl, hb1⟩; have hp := hp.trans hb1)
      | (go_at_call 101; (with_reducible refine Calls.mono (S2.out _ hp) ?_); rintro e w2 ⟨rfl, hb2⟩; have hp := hp.trans hb2)
      | (go_at_call 101; (with_reducible refine Calls.mono (S3.out _ hp) ?_); rintro e w2 ⟨rfl, hb3⟩; have hp := hp.trans hb3)
      | (go_at_call 94; (with_reducible refine Calls.mono (F1.out _ hp) ?_); rintro e w4 ⟨oa4, cap4, rfl, hi4, hb4⟩))
    exact ⟨rfl, He.out _ _ ⟨oa4, cap4, rfl, hi4.mono (fun k hk _ => Nat.le_trans hp.size hk), hp.trans hb4⟩⟩
  · have e1 : ((a.length : Int) != o.length) = true := by simp [bne_iff_ne]; omega
    clear hlen h2
    go_wp2_with (first
      | (go_at_call 101; (with_reducible refine Calls.mono (S1.out _ hp) ?_); rintro e w1 ⟨rfl, hb1⟩; have hp := hp.trans hb1)
      | (go_at_call 101; (with_reducible refine Calls.mono (S2.out _ hp) ?_); rintro e w2 ⟨rfl, hb2⟩; have hp := hp.trans hb2)
      | (go_at_call 101; (with_reducible refine Calls.mono (S3.out _ hp) ?_); rintro e w2 ⟨rfl, hb3⟩; have hp := hp.trans hb3)
      | (go_at_call 94; (with_reducible refine Calls.mono (F1.out _ hp) ?_); rintro e w4 ⟨oa4, cap4, rfl, hi4, hb4⟩))
    exact ⟨rfl, He.out _ _ ⟨oa4, cap4, rfl, hi4.mono (fun k hk _ => Nat.le_trans hp.size hk), hp.trans hb4⟩⟩
end
end Go.Proofs.Ytdbnfhpgmcjngab
