/- Walks: a tree is written; text.Print. -/
import Derived.Test.YtdbnfhpgmcjngabTe
namespace Go.Proofs.Ytdbnfhpgmcjngab
open Go Go.RowKit

theorem Bld.pr {B M : Nat} {w w' : World} {l : List UInt8} (h : Bld B M w l) (hp : Pr w w') : Bld B M w' l := by
  obtain ⟨hB, p, v, hpp, hb, ho, hn⟩ := h
  exact ⟨hB, p, v, hpp, hp.blk hb, ownsRow_kept ho (fun k hk => Below.block hp k (ho.lt k hk).2), hn⟩
theorem Bld.lt {B M : Nat} {w : World} {l : List UInt8} (h : Bld B M w l) : B ≤ M ∧ M < w.heap.size := by
  obtain ⟨hB, p, v, _, hb, _⟩ := h; exact ⟨hB, blk_lt hb⟩
theorem Wrote.blk {B M : Nat} {w w' : World} (h : Wrote B M w w') {b : Nat} {c : Array Value} {T : TypeId} {fz : Nat × Nat} (hb : w.heap[b]? = some (.cells c T fz)) (hM : b ≠ M) (hT : T ≠ 5) : w'.heap[b]? = some (.cells c T fz) :=
  h.2 b _ hb (by simpa using hM) (fun c' fz' e => hT (by cases e; rfl))
theorem Wrote.of_pr {B M : Nat} {w w' : World} (h : Pr w w') (hB : B ≤ w.heap.size) : Wrote B M w w' :=
  ⟨h.mono hB, fun _ _ hk _ _ => h.blk hk⟩
theorem Wrote.trans {B M : Nat} {a b c : World} (h : Wrote B M a b) (k : Wrote B M b c) : Wrote B M a c := ⟨h.1.trans k.1, h.2.trans k.2⟩
theorem Wrote.kids {B M : Nat} {w w' : World} (h : Wrote B M w w') {ks : List Tr} {oa cap} (hk : Kids (fun k => k < B) w ks oa cap) : Kids (fun k => k < B) w' ks oa cap :=
  hk.carry fun k hS _ => ⟨h.1.block k hS, hS⟩
theorem Wrote.size {B M : Nat} {w w' : World} (h : Wrote B M w w') : w.heap.size ≤ w'.heap.size := h.1.size
theorem txtL_snoc (o c b : List UInt8) (k : Tr) : ∀ ks : List Tr, txtL o c b (ks ++ [k]) = txtL o c b ks ++ ((if ks.isEmpty then [] else b) ++ txt o c b k)
  | [] => by simp [txtL]
  | x :: ks => by
    have ih := txtL_snoc o c b k ks
    simp only [List.cons_append, txtL, ih]
    cases ks with
    | nil => simp [txtL]
    | cons y ks => simp
theorem txtL_take_le (o c b : List UInt8) : ∀ (ks : List Tr) (i : Nat), (txtL o c b (ks.take i)).length ≤ (txtL o c b ks).length
  | [], i => by simp
  | x :: ks, 0 => by simp [txtL]
  | x :: ks, i + 1 => by
    have ih := txtL_take_le o c b ks i
    cases ks with
    | nil => simp [txtL]
    | cons y ks =>
      cases i with
      | zero => simp [txtL]
      | succ i => simp [txtL] at ih ⊢; omega
/-- A tree was written behind what stood there. -/
def WtPost (B M : Nat) (acc : List UInt8) (t : Tr) (w : World) (e : Ending) (w' : World) : Prop := e = .returned (.tuple #[]) ∧ Bld B M w' (acc ++ textT t) ∧ Wrote B M w w'
set_option maxRecDepth 100000 in
set_option maxHeartbeats 6400000 in
theorem wtree_step (N : Nat) : ∀ (B M : Nat) (l : ByteArray) (ks : List Tr) (oa cap) (acc : List UInt8) (w : World), Tr.szL ks < N → Bld B M w acc → Kids (fun k => k < B) w ks oa cap → (acc ++ textT (.node l ks)).length ≤ 100000 →
    Calls Try.prog 45 #[.pointer (some ⟨M, 0, none⟩), .agg #[.string l, .slice oa ks.length cap]] w (WtPost B M acc (.node l ks) w) := by
  induction N with
  | zero => intro B M l ks oa cap acc w hN; omega
  | succ N ih =>
    intro B M l ks oa cap acc w hN hb hk hlen
    have Ih := Lib.hid ih
    clear ih
    have hlt := hb.lt
    have hll := l.data.toList.length
    have htx : textT (.node l ks) = l.data.toList ++ (if ks.isEmpty then [] else [40] ++ (txtL [40] [41] [32] ks ++ [41])) := by unfold textT; rw [txt]
    rw [htx] at hlen
    have hm := hk.len
    obtain ⟨W, hW⟩ : ∃ W, W = w.alloc (.cells #[.string l, .slice oa ks.length cap] 24) := ⟨_, rfl⟩
    have hwW : Pr w W := by rw [hW]; exact Pr.alloc _ _
    have hA : W.heap[w.heap.size]? = some (.cells #[.string l, .slice oa ks.length cap] 24 (0, 0)) := by rw [hW]; exact heap_alloc_new _ _
    have s0 : W.cell? ⟨w.heap.size, 0, none⟩ = some (.string l) := blk_cell hA
    have hbW := hb.pr hwW
    have C1 := Lib.hid fun (W' : World) (h : Pr W W') => wstring_any B M W' acc l (hbW.pr h) (by rw [List.length_append, List.length_append, size_list] at hlen; omega) (by have := h.size; have := hwW.size; omega)
    have HA := Lib.hid hA; have HW := Lib.hid hwW; have Hlen := Lib.hid hlen; have Htx := Lib.hid htx; have HK := Lib.hid hk
    clear hA hwW hlen htx hbW hb hk
    go_enter Try.func45, Try.ntmps45
    go_upto_region 1 with fail
    rw [← hW]
    clear hW
    refine wp_region_quiet_tail 5 (by kernel_rfl) (by kernel_rfl) ?_
    simp only [List.take_succ_cons, List.take_zero, List.drop_succ_cons, List.drop_zero]
    repeat (go_big_quiet_step (fail))
    refine wpQuiet_nil ?_
    rintro _ ⟨nq, rfl⟩
    have hq := Pr.drewN W nq
    go_upto_region 2 with (go_at_call 76; (with_reducible refine Calls.mono (C1.out _ hq) ?_); rintro e w1 ⟨rfl, hb1, hw1⟩)
    have hW1 : Wrote B M w w1 := (Wrote.of_pr (HW.out.trans hq) (by omega)).trans hw1
    have hA1 := Lib.hid (hw1.blk (b := w.heap.size) (T := 24) ((HW.out.trans hq).size |> fun _ => hq.blk HA.out) (by omega) (by decide))
    have g1 : w1.cell? ⟨w.heap.size, 1, none⟩ = some (.slice oa ks.length cap) := blk_cell (o := 1) hA1.out
    have HW1 := Lib.hid hW1
    have hs1 := hW1.size
    clear hw1 hq hW1 HA HW C1 s0
    by_cases hnil : ks = []
    · subst hnil
      have hfin : Bld B M w1 (acc ++ textT (.node l [])) := by rw [Htx.out]; simpa using hb1
      have Hfin := Lib.hid hfin
      clear hfin hb1
      go_wp2_with fail
      go_end0
      exact ⟨rfl, Hfin.out, HW1.out⟩
    · have hpos : 0 < ks.length := List.length_pos_iff.2 hnil
      have z1 : ((ks.length : Int) == 0) = false := by simp; omega
      have htx2 : textT (.node l ks) = l.data.toList ++ ([40] ++ (txtL [40] [41] [32] ks ++ [41])) := by
        rw [Htx.out, if_neg (by simpa using hnil)]
      have hlen2 : acc.length + (l.data.toList.length + (1 + ((txtL [40] [41] [32] ks).length + 1))) ≤ 100000 := by
        have := Hlen.out; rw [if_neg (by simpa using hnil)] at this; simp only [List.length_append, List.length_singleton] at this; omega
      have C2 := Lib.hid (wstring_any B M w1 (acc ++ l.data.toList) ⟨#[40]⟩ hb1 (by rw [List.length_append]; show acc.length + l.data.toList.length + 1 ≤ 1000000; omega) (by omega))
      have Htx2 := Lib.hid htx2
      clear htx2 Htx Hlen hb1 hnil
      go_upto_region 4 with (go_at_call 76; (with_reducible refine Calls.mono C2.out ?_); rintro e w2 ⟨rfl, hb2, hw2⟩)
      have hA2 := Lib.hid (hw2.blk (T := 24) hA1.out (by omega) (by decide))
      have g2 : w2.cell? ⟨w.heap.size, 1, none⟩ = some (.slice oa ks.length cap) := blk_cell (o := 1) hA2.out
      have HW2 := Lib.hid (HW1.out.trans hw2)
      have HK2 := Lib.hid ((HW1.out.trans hw2).kids HK.out)
      have hs2 := hw2.size
      have Hb2 := Lib.hid hb2
      clear C2 HK hw2 HW1 hA1 hA2 hb2
      go_wp2_with fail
      go_loopw [23] (fun v wr => ∃ i : Nat, i ≤ ks.length ∧ v = .int .i64 i ∧ Bld B M wr (acc ++ l.data.toList ++ [40] ++ txtL [40] [41] [32] (ks.take i)) ∧ Wrote B M w2 wr) (fun v _ => ks.length - (intOf v).toNat)
      case atStart => exact ⟨0, by omega, rfl, by have := Hb2.out; simpa [txtL] using this, Wrote.of_pr (Pr.refl _) (by omega)⟩
      case round =>
        obtain ⟨i, hi, rfl, hbr, hwr⟩ := hrel
        have hsr := hwr.size
        by_cases hlt : i < ks.length
        · obtain ⟨b, o, l', ks', oa', cap', e1, hl', rfl, c0, c1, hk'⟩ := (hwr.kids HK2.out).get i hlt
          have hsz := Tr.szL_get ks i hlt
          have hsn := txtL_snoc [40] [41] [32] ks[i] (ks.take i)
          rw [← List.take_succ_eq_append_getElem hlt] at hsn
          have hle := txtL_take_le [40] [41] [32] ks (i + 1)
          have hkb := lt_of_cell c0
          rw [e1] at hsz hsn
          simp only [Tr.sz_node] at hsz
          obtain ⟨V, hV⟩ : ∃ V, V = wr.alloc (.cells #[.string l', .slice oa' ks'.length cap'] 24) := ⟨_, rfl⟩
          have hwV : Pr wr V := by rw [hV]; exact Pr.alloc _ _
          have hV5 : V.heap[wr.heap.size]? = some (.cells #[.string l', .slice oa' ks'.length cap'] 24 (0, 0)) := by rw [hV]; exact heap_alloc_new _ _
          have hMr := hbr.lt
          have hbV := hbr.pr hwV
          by_cases h0 : i = 0
          · have hsn0 : txtL [40] [41] [32] (ks.take (i + 1)) = textT (.node l' ks') := by subst h0; simpa [txtL, textT] using hsn
            have hbV0 : Bld B M V (acc ++ l.data.toList ++ [40]) := by subst h0; simpa [txtL] using hbV
            have I := Ih.out B M l' ks' oa' cap' (acc ++ l.data.toList ++ [40]) V (by omega) hbV0 ((Wrote.of_pr (M := M) hwV (by omega)).kids hk') (by rw [← hsn0]; simp only [List.length_append, List.length_singleton]; omega)
            have I2 := Lib.hid I
            have HV5 := Lib.hid hV5; have HwV := Lib.hid hwV; have Hsn := Lib.hid hsn0; have Hwr := Lib.hid hwr
            have x0 : V.cell? ⟨wr.heap.size, 0, none⟩ = some (.string l') := blk_cell hV5
            have x1 : V.cell? ⟨wr.heap.size, 1, none⟩ = some (.slice oa' ks'.length cap') := blk_cell hV5
            have t1 : decide ((0 : Int) < (i : Int)) = false := by simp; omega
            have t2 : decide (0 < i) = false := by simp; omega
            clear hsn hle I hV5 hwV hsn0 hbV hbV0 hbr hwr hk' e1 h0
            go_upto_region 7 with fail
            rw [← hV]
            clear hV
            go_wp2_with (go_at_call 45; (with_reducible refine Calls.mono I2.out ?_); rintro e w5 ⟨rfl, hb5, hw5⟩)
            refine ⟨⟨i + 1, by omega, by go_num, ?_, Hwr.out.trans ((Wrote.of_pr HwV.out (by omega)).trans hw5)⟩, ?_⟩
            · rw [Hsn.out]; exact hb5
            · simp [intOf]; omega
          · have hsn1 : txtL [40] [41] [32] (ks.take (i + 1)) = txtL [40] [41] [32] (ks.take i) ++ ([32] ++ textT (.node l' ks')) := by
              rw [if_neg (by rw [List.isEmpty_iff, List.take_eq_nil_iff]; rintro (h | h); exact h0 h; rw [h] at hlt; simp at hlt)] at hsn
              exact hsn
            have hbl := hbV
            have C4 := Lib.hid (wstring_any B M V _ ⟨#[32]⟩ hbV (by rw [hsn1] at hle; simp only [List.length_append, List.length_singleton] at hle ⊢; show _ + 1 ≤ 1000000; omega) (by have := hwV.size; omega))
            have Hsn := Lib.hid hsn1; have HV5 := Lib.hid hV5; have HwV := Lib.hid hwV; have Hwr := Lib.hid hwr
            have I2 : Hid (∀ W', Bld B M W' (acc ++ l.data.toList ++ [40] ++ txtL [40] [41] [32] (ks.take i) ++ [32]) → Wrote B M V W' → Calls Try.prog 45 #[.pointer (some ⟨M, 0, none⟩), .agg #[.string l', .slice oa' ks'.length cap']] W' (WtPost B M (acc ++ l.data.toList ++ [40] ++ txtL [40] [41] [32] (ks.take i) ++ [32]) (.node l' ks') W')) :=
              Lib.hid fun W' h1 h2 => Ih.out B M l' ks' oa' cap' _ W' (by omega) h1 (((Wrote.of_pr (M := M) hwV (by omega)).trans h2).kids hk') (by rw [hsn1] at hle; simp only [List.length_append, List.length_singleton] at hle ⊢; omega)
            have t1 : decide ((0 : Int) < (i : Int)) = true := by simp; omega
            have t2 : decide (0 < i) = true := by simp; omega
            have hVs : V.heap.size = wr.heap.size + 1 := by rw [hV]; simp
            clear hsn hle hV5 hwV hsn1 hbV hbl hbr hwr hk' e1 h0
            go_upto_region 7 with fail
            rw [← hV]
            clear hV
            go_upto_region 9 with (go_at_call 76; (with_reducible refine Calls.mono C4.out ?_); rintro e w4 ⟨rfl, hb4, hw4⟩)
            have hA4 := hw4.blk HV5.out (by omega) (by decide)
            have x0 : w4.cell? ⟨wr.heap.size, 0, none⟩ = some (.string l') := blk_cell hA4
            have x1 : w4.cell? ⟨wr.heap.size, 1, none⟩ = some (.slice oa' ks'.length cap') := blk_cell hA4
            have I3 := Lib.hid (I2.out w4 hb4 hw4)
            have Hw4 := Lib.hid hw4
            clear I2 hb4 hw4 hA4
            go_wp2_with (go_at_call 45; (with_reducible refine Calls.mono I3.out ?_); rintro e w5 ⟨rfl, hb5, hw5⟩)
            refine ⟨⟨i + 1, by omega, by go_num, ?_, Hwr.out.trans ((Wrote.of_pr HwV.out (by omega)).trans (Hw4.out.trans hw5))⟩, ?_⟩
            · rw [Hsn.out]; simpa only [List.append_assoc] using hb5
            · simp [intOf]; omega
        · have hin : i = ks.length := by omega
          have C3 := Lib.hid (wstring_any B M wr _ ⟨#[41]⟩ hbr (by rw [hin, List.take_length]; simp only [List.length_append, List.length_singleton]; show _ + 1 ≤ 1000000; omega) (by have := hbr.lt; omega))
          have Hwr := Lib.hid hwr
          have d1 : decide ((i : Int) < (ks.length : Int)) = false := by simp; omega
          have d2 : decide (i < ks.length) = false := by simp; omega
          have Hin := Lib.hid hin
          clear hin hbr hwr hlt
          go_wp2_with (go_at_call 76; (with_reducible refine Calls.mono C3.out ?_); rintro e w3 ⟨rfl, hb3, hw3⟩)
          go_end0
          refine ⟨rfl, ?_, HW2.out.trans (Hwr.out.trans hw3)⟩
          rw [Htx2.out]
          rw [Hin.out, List.take_length] at hb3
          simpa only [List.append_assoc] using hb3
theorem wtree_any (B M : Nat) (l : ByteArray) (ks : List Tr) (oa cap) (acc : List UInt8) (w : World) (hb : Bld B M w acc) (hk : Kids (fun k => k < B) w ks oa cap) (hlen : (acc ++ textT (.node l ks)).length ≤ 100000) :
    Calls Try.prog 45 #[.pointer (some ⟨M, 0, none⟩), .agg #[.string l, .slice oa ks.length cap]] w (WtPost B M acc (.node l ks) w) := wtree_step _ B M l ks oa cap acc w (Nat.lt_succ_self _) hb hk hlen
/-- What Print tells. -/
def prT (t : Tr) : ByteArray := if fault t = 0 then ⟨⟨textT t⟩⟩ else ⟨#[]⟩
theorem Bld.made (w : World) : Bld w.heap.size w.heap.size (w.alloc (.cells #[.pointer none, .slice none 0 0] 74)) [] :=
  ⟨Nat.le_refl _, .pointer none, .slice none 0 0, .inl rfl, heap_alloc_new _ _, World.ownsRow_nil _ _ _ _, by simp [Value.ownBlock]⟩
set_option maxRecDepth 100000 in
set_option maxHeartbeats 3200000 in
theorem print_any (l : ByteArray) (ks : List Tr) (oa cap) (w : World) (hl : l.size ≤ maxLen) (hk : Kids Any w ks oa cap) :
    Calls Try.prog 17 #[.agg #[.string l, .slice oa ks.length cap]] w fun e w' => e = .returned (.tuple #[.string (prT (.node l ks)), .int .i64 (fault (.node l ks))]) ∧ Pr w w' := by
  obtain ⟨W, hW⟩ : ∃ W, W = w.alloc (.cells #[.string l, .slice oa ks.length cap] 24) := ⟨_, rfl⟩
  have hwW : Pr w W := by rw [hW]; exact Pr.alloc _ _
  have s0 := stays (show W.cell? ⟨w.heap.size, 0, none⟩ = some (.string l) by rw [hW]; simp [go_sem])
  have s1 := stays (show W.cell? ⟨w.heap.size, 1, none⟩ = some (.slice oa ks.length cap) by rw [hW]; simp [go_sem])
  have F1 := Lib.hid (fun W' (h : Pr W W') => check_any l ks oa cap W' hl (hk.pr (hwW.trans h)))
  have HW := Lib.hid hwW
  have HK := Lib.hid hk
  clear hwW hk
  by_cases ft : fault (.node l ks) = 0
  case neg =>
    have hpr : prT (.node l ks) = ⟨#[]⟩ := by unfold prT; rw [if_neg ft]
    have e1 : ((fault (.node l ks) : Int) != 0) = true := by simp [bne_iff_ne]; omega
    rw [hpr]
    clear hpr
    generalize fault (.node l ks) = c at *
    go_enter Try.func17, Try.ntmps17
    go_upto_region 1 with fail
    rw [← hW]; clear hW
    have x0 := s0 _ (Pr.refl _); have x1 := s1 _ (Pr.refl _)
    go_wp2_with (go_at_call 29; (with_reducible refine Calls.mono (F1.out _ (Pr.refl _)) ?_); rintro e w1 ⟨rfl, hb⟩)
    go_ret2
    exact ⟨rfl, HW.out.trans hb⟩
  case pos =>
    have hpr : prT (.node l ks) = ⟨⟨textT (.node l ks)⟩⟩ := by unfold prT; rw [if_pos ft]
    have hnm := (fault_parts ft).2.2
    have hsz := (fault_parts ft).1
    have hlen := txt_length (.node l ks) hnm
    have hne : textT (.node l ks) ≠ [] := by obtain ⟨x, r, h, _⟩ := txt_front [40] [41] [32] hnm; unfold textT; rw [h]; simp
    rw [hpr, ft]
    rw [ft] at F1
    have Hlen := Lib.hid hlen; have Hne := Lib.hid hne
    clear hpr ft hnm hlen hne
    go_enter Try.func17, Try.ntmps17
    go_upto_region 1 with fail
    rw [← hW]; clear hW
    have x0 := s0 _ (Pr.refl _); have x1 := s1 _ (Pr.refl _)
    go_upto_region 4 with (go_at_call 29; (with_reducible refine Calls.mono (F1.out _ (Pr.refl _)) ?_); rintro e w1 ⟨rfl, hb⟩)
    obtain ⟨V, hV⟩ : ∃ V, V = w1.alloc (.cells #[.pointer none, .slice none 0 0] 74) := ⟨_, rfl⟩
    have hwV : Pr w1 V := by rw [hV]; exact Pr.alloc _ _
    have hmade : Bld w1.heap.size w1.heap.size V [] := by rw [hV]; exact Bld.made w1
    have y0 := s0 _ (hb.trans hwV); have y1 := s1 _ (hb.trans hwV)
    have hkV : Kids (fun k => k < w1.heap.size) V ks oa cap := ((HK.out.pr (HW.out.trans hb)).mono (S' := fun k => k < w1.heap.size) (fun k _ h => h)).pr hwV
    have T := Lib.hid (wtree_any w1.heap.size w1.heap.size l ks oa cap [] V hmade hkV (by rw [List.nil_append]; have := Hlen.out; omega))
    have Hp := Lib.hid ((HW.out.trans hb).trans hwV)
    have hs1 := (HW.out.trans hb).size
    clear x0 x1 hmade hwV hkV
    go_upto_region 5 with fail
    rw [← hV]; clear hV
    go_upto_region 6 with (go_at_call 45; (with_reducible refine Calls.mono T.out ?_); rintro e w2 ⟨rfl, hb2, hw2⟩)
    rw [List.nil_append] at hb2
    have R := Lib.hid (wread_any _ _ w2 _ hb2 Hne.out)
    have Hw2 := Lib.hid hw2.1
    clear hb2 hw2
    go_wp2_with (go_at_call 46; (with_reducible refine Calls.mono R.out ?_); rintro e w3 ⟨rfl, hb3⟩)
    go_ret2
    exact ⟨rfl, Below.trans Hp.out ((Hw2.out.trans hb3).mono (by omega))⟩
end Go.Proofs.Ytdbnfhpgmcjngab
