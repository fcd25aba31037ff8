/- Walks: texts of one's own; a text, cut (the document's). -/
import Derived.Test.YtdbnfhpgmcjngacDoorPwb
import Derived.Test.YtdbnfhpgmcjngacDoorMn
namespace Go.Proofs.YtdbnfhpgmcjngacDoor
open Go Go.RowKit

theorem under_strs : Tryd.prog.underlying 100 = some (.slice 9) := by kernel_rfl
/-- v is a slice of these texts, of one's own. -/
def OwnsSs (base : Nat) (w : World) (v : Value) (xs : List (List UInt8)) : Prop := w.ownsRow base 9 1 v xs.length (strs xs)
theorem OwnsSs.nil (base : Nat) (w : World) : OwnsSs base w (.slice none 0 0) [] := World.ownsRow_nil _ _ _ _
theorem OwnsSs.block {b : Nat} {w : World} {v : Value} {xs : List (List UInt8)} (h : OwnsSs b w v xs) : ∀ k, v.ownBlock = some k → b ≤ k ∧ k < w.heap.size := World.ownsRow.lt h
theorem OwnsSs.kept {b : Nat} {w w' : World} {v : Value} {xs : List (List UInt8)} (h : OwnsSs b w v xs) (hk : ∀ k, v.ownBlock = some k → w'.heap[k]? = w.heap[k]?) : OwnsSs b w' v xs := ownsRow_kept h hk
theorem OwnsSs.pr {b : Nat} {w w' : World} {v : Value} {xs : List (List UInt8)} (h : OwnsSs b w v xs) (hp : Pr w w') : OwnsSs b w' v xs := h.kept fun k hk => Below.block hp k (h.block k hk).2
theorem OwnsSs.strs {b : Nat} {w : World} {v : Value} {xs : List (List UInt8)} (h : OwnsSs b w v xs) : ∃ oa cap, v = .slice oa xs.length cap ∧ Strs (From b) w xs oa cap := by
  rcases h.2 with ⟨rfl, hn⟩ | ⟨g, cap, cur, rfl, hb, hg, hnc, hcm, _⟩
  · have : xs = [] := List.eq_nil_of_length_eq_zero hn
    subst this
    exact ⟨none, 0, rfl, Flat.nil _ _ _ _ (Nat.zero_le _)⟩
  · refine ⟨_, cap, rfl, ⟨by simpa using hnc, hcm⟩, g, 0, fun _ => ⟨rfl, hb⟩, fun i hi => ?_⟩
    have := World.ownsRow.cells h (g := g) rfl i _ (List.getElem?_eq_getElem hi)
    simpa [Addr.add_lit] using this
/-- One that holds something lies in a block. -/
theorem OwnsSs.place {b : Nat} {w : World} {v : Value} {xs : List (List UInt8)} (h : OwnsSs b w v xs) (hn : 0 < xs.length) : ∃ g cap, v = .slice (some ⟨g, 0, none⟩) xs.length cap ∧ b ≤ g ∧ g < w.heap.size ∧ (xs.length ≤ cap ∧ cap ≤ maxLen) ∧
    (∀ (i : Nat) (hi : i < xs.length), w.cell? ⟨g, i, none⟩ = some (.string ⟨⟨xs[i]⟩⟩)) ∧ ∀ i, w.frozen? ⟨g, i, none⟩ = false := by
  have hlt := World.ownsRow.lt h
  rcases h.2 with ⟨rfl, hn'⟩ | ⟨g, cap, cur, rfl, hb, hg, hnc, hcm, hz⟩
  · omega
  · refine ⟨g, cap, rfl, hb, (hlt g rfl).2, ⟨hnc, hcm⟩, fun i hi => ?_, fun i => World.ownsRow.frozenAt h i⟩
    have := World.ownsRow.cells h (g := g) rfl i (.string ⟨⟨xs[i]⟩⟩) (by simp [hi])
    simpa [Addr.add_lit] using this
/-- A text is stored. -/
theorem OwnsSs.store {b : Nat} {w : World} {g n cap : Nat} {xs : List (List UInt8)} (h : OwnsSs b w (.slice (some ⟨g, 0, none⟩) n cap) xs) (i : Nat) (y : List UInt8) :
    OwnsSs b (w.setCell ⟨g, i, none⟩ (.string ⟨⟨y⟩⟩)) (.slice (some ⟨g, 0, none⟩) n cap) (xs.set i y) := by
  unfold OwnsSs at h ⊢
  have hn : n = xs.length := by
    rcases h.2 with ⟨h1, _⟩ | ⟨_, _, _, h1, _⟩
    · cases h1
    · cases h1; rfl
  subst hn
  have hs := (World.ownsRow.stored h i (.string ⟨⟨y⟩⟩)).1
  have e : YtdbnfhpgmcjngacDoor.strs (xs.set i y) = (YtdbnfhpgmcjngacDoor.strs xs).set i (.string ⟨⟨y⟩⟩) := by simp [List.map_set]
  rw [e, List.length_set]
  exact hs
theorem OwnsSs.made (w : World) (y : List UInt8) : OwnsSs w.heap.size (w.alloc (.cells #[.string ⟨⟨y⟩⟩] 9)) (.slice (some ⟨w.heap.size, 0, none⟩) 1 1) [y] :=
  ⟨rfl, .inr ⟨w.heap.size, 1, #[.string ⟨⟨y⟩⟩], rfl, Nat.le_refl _, heap_alloc_new w _, Nat.le_refl _, by unfold maxLen; omega, rfl, rfl⟩⟩
section
variable {ops : Array Oper} {o : Oper} {a : Act} {w : World} {rest : List Oper} {Q : Exit → Act → World → Prop}
/-- 'append(texts, s)'. -/
theorem app_str (hgd : o.guard = none) (s x : Operand) (ho : o.op = .call { callee := .builtin .append, args := #[s, x], argTypes := #[100, 100] })
    (b : Nat) (v : Value) (xs : List (List UInt8)) (hs : a.eval s = v) (hown : OwnsSs b w v xs) (B : Nat) (hx : a.eval x = .slice (some ⟨B, 0, none⟩) 1 1) (y : List UInt8)
    (hB : w.heap[B]? = some (.cells #[.string ⟨⟨y⟩⟩] 9 (0, 0))) (hlen : xs.length ≤ 1000000000) (hbase : b ≤ w.heap.size)
    (h : ∀ g cap w', OwnsSs b w' (.slice (some ⟨g, 0, none⟩) (xs.length + 1) cap) (xs ++ [y]) → w.grownBy w' v.ownBlock → (v.ownBlock = some g ∨ g = w.heap.size) → wpList Tryd.prog ops Q rest (a.put o.dst (.slice (some ⟨g, 0, none⟩) (xs.length + 1) cap)) w') :
    wpList Tryd.prog ops Q (o :: rest) a w := by
  obtain ⟨i0, hi, hz0, hz1, hz2⟩ := info_parts info_string
  refine wpList_append_lies w hgd s x _ ho b _ i0 _ 1 16 under_strs hi hz0 hz1 hz2 rfl (by omega) v xs.length (strs xs) hs hown ⟨B, 0, none⟩ 1 1 [.string ⟨⟨y⟩⟩] hx rfl (World.news_of_block (cs := #[.string ⟨⟨y⟩⟩]) hB)
    (by intro u hu; simp at hu; subst hu; rfl) (by omega) (by unfold maxLen; omega) (by omega) hbase w.heap.size rfl ?_
  intro g cap w' g1 g2 g3 _
  refine h g cap w' ?_ g2 g3
  unfold OwnsSs
  rw [List.length_append, List.length_singleton]
  have : strs (xs ++ [y]) = strs xs ++ [.string ⟨⟨y⟩⟩] := by simp
  rw [this]; exact g1
end
/-- A text of one's own turned: all the blocks from the base on may be others. -/
def CutPost (c : UInt8) (s : ByteArray) (w : World) (e : Ending) (w' : World) : Prop :=
  ∃ oa cap, e = .returned (.slice oa (cutC c s.data.toList).length cap) ∧ Strs (From w.heap.size) w' (cutC c s.data.toList) oa cap ∧ Pr w w'
theorem take_succ_s (s : ByteArray) (k : Nat) (h : k < s.size) : s.data.toList.take (k + 1) = s.data.toList.take k ++ [s[k]] := by
  rw [List.take_succ_eq_append_getElem (by simpa using h)]; rfl
theorem cut_set (c b : UInt8) (l : List UInt8) (h : b ≠ c) : cutC c (l ++ [b]) = (cutC c l).set ((cutC c l).length - 1) ((cutC c l).getLastD [] ++ [b]) := by
  rw [cut_snoc, if_neg h]
  have hne := cutC_ne c l
  generalize cutC c l = L at *
  have := List.dropLast_concat_getLast hne
  generalize hD : L.dropLast = D at *
  generalize hx : L.getLast hne = x at *
  subst this
  simp
theorem cut_le (c : UInt8) : ∀ (l : List UInt8), ∀ x ∈ cutC c l, x.length ≤ l.length
  | [], x, h => by simp [cutC] at h; subst h; simp
  | b :: r, x, h => by
    have ih := cut_le c r
    by_cases hb : b = c
    · subst hb; rw [cutC_same] at h
      rcases List.mem_cons.1 h with rfl | h
      · simp
      · have := ih x h; simp; omega
    · rw [cutC_other _ hb] at h
      rcases List.mem_cons.1 h with rfl | h
      · have := ih ((cutC c r).headD []) (by rw [cutC_split]; simp)
        simp only [List.length_cons]; omega
      · have := ih x (by rw [cutC_split]; simp [h]); simp; omega
set_option maxRecDepth 100000 in
set_option maxHeartbeats 3200000 in
theorem rcut_any (s : ByteArray) (c : UInt8) (hs : s.size ≤ 1000000) (w : World) :
    Calls Tryd.prog 57 #[.string s, .int .u8 (c.toNat : Int)] w (CutPost c s w) := by
  have hsz := sizeL s
  go_enter Tryd.func57, Tryd.ntmps57
  go_wp2_with fail
  go_loopw [5, 6] (fun v x wr => ∃ k : Nat, k ≤ s.size ∧ x = .int .i64 k ∧ OwnsSs w.heap.size wr v (cutC c (s.data.toList.take k)) ∧ Pr w wr) (fun _ x _ => s.size - (intOf x).toNat)
  case atStart => exact ⟨0, by omega, rfl, OwnsSs.made w [], Pr.alloc _ _⟩
  case round =>
    obtain ⟨k, hk, rfl, ho, hp⟩ := hrel
    by_cases hlt : k < s.size
    · have hts := take_succ_s s k hlt
      have hne := cutC_ne c (s.data.toList.take k)
      have hclen : (cutC c (s.data.toList.take k)).length ≤ 1000001 := by
        rw [cut_length]; have := List.count_le_length (a := c) (l := s.data.toList.take k); rw [List.length_take] at this; omega
      by_cases hc : s[k] = c
      · have hsn := cut_snoc c s[k] (s.data.toList.take k)
        rw [if_pos hc, ← hts] at hsn
        have hb : ((s[k].toNat : Int) == (c.toNat : Int)) = true := by rw [hc]; simp
        have hb' : (s[k].toNat == c.toNat) = true := by rw [hc]; simp
        have Hsn := Lib.hid hsn
        clear hsn hts hne hc
        generalize cutC c (s.data.toList.take k) = xs at *
        go_wp2_with (at_builtin; go_must (refine app_str rfl _ _ rfl w.heap.size _ xs rfl (ho.pr (Pr.alloc _ _)) wr.heap.size rfl [] (heap_alloc_new wr _) (by omega) (by have := hp.size; simp; omega) ?_); intro g4 c4 w2 ho4 hg4 hd4)
        refine ⟨⟨k + 1, by omega, by go_num, by rw [Hsn.out]; exact ho4, ?_⟩, by simp [intOf]; omega⟩
        exact Below.grown (hp.alloc' _) hg4 (by have := hp.size; simp; omega) (fun k hk => (ho.block k hk).1)
      · have hsn := cut_set c s[k] (s.data.toList.take k) hc
        rw [← hts] at hsn
        have hb : ((s[k].toNat : Int) == (c.toNat : Int)) = false := by
          rw [beq_eq_false_iff_ne]; intro e; exact hc (UInt8.toNat_inj.1 (by omega))
        have hb' : (s[k].toNat == c.toNat) = false := by
          rw [beq_eq_false_iff_ne]; intro e; exact hc (UInt8.toNat_inj.1 e)
        obtain ⟨m, hm⟩ : ∃ m, (cutC c (s.data.toList.take k)).length = m + 1 := ⟨(cutC c (s.data.toList.take k)).length - 1, by have := List.length_pos_iff.2 hne; omega⟩
        have Hsn := Lib.hid hsn
        clear hsn hts hne hc
        have hcl := cut_le c (s.data.toList.take k)
        generalize cutC c (s.data.toList.take k) = xs at *
        obtain ⟨g, cap, rfl, hg1, hg2, hcap, hcell, hfz⟩ := ho.place (by omega)
        have hlast : xs.getLastD [] = xs[m] := by
          have e : xs.length - 1 = m := by omega
          rw [List.getLastD_eq_getLast?, List.getLast?_eq_getElem?, e, List.getElem?_eq_getElem (by omega)]; rfl
        have c0 := hcell m (by omega)
        have f0 := hfz m
        obtain ⟨b, hbx⟩ : ∃ b : ByteArray, b = ⟨⟨xs[m]⟩⟩ := ⟨_, rfl⟩
        have hbs : b.size ≤ 1000000 := by
          have h1 := hcl xs[m] (List.getElem_mem _)
          rw [List.length_take] at h1
          have h2 : b.size = xs[m].length := by rw [hbx]; rfl
          omega
        rw [← hbx] at c0
        have Hbx := Lib.hid hbx
        clear hbx hcl
        have ho' := ho
        rw [hm] at ho' hcap hclen ⊢
        have Ho := Lib.hid ho'; have Hm := Lib.hid hm; have Hl := Lib.hid hlast
        clear ho ho' hcell hfz hlast
        have uw : IntKind.i64.wrap ((k : Int) + 1) = (k : Int) + 1 := IntWalk.i64_in _ (by omega)
        go_wp2_with fail
        go_region
        have hx : (b ++ s.extract k (k + 1)) = ⟨⟨xs[m]'(by have := Hm.out; omega) ++ [s[k]]⟩⟩ := by
          refine ba_ext ?_
          rw [baL, Hbx.out]
          congr 1
          rw [ByteArray.data_extract]
          apply List.ext_getElem
          · simp; omega
          · intro i h1 h2
            have h0 : i = 0 := by simpa using h2
            subst h0
            simp; rfl
        rw [hx]
        clear hx
        have hst := Ho.out.store m (xs[m]'(by have := Hm.out; omega) ++ [s[k]])
        have Hst := Lib.hid hst
        clear hst
        go_wp2_with fail
        refine ⟨⟨k + 1, by omega, by go_num, ?_, (hp.setCell (p := ⟨g, m, none⟩) hg1 _).drew'⟩, by simp [intOf]; omega⟩
        rw [Hsn.out, show xs.length - 1 = m by have := Hm.out; omega, Hl.out]
        exact Hst.out.pr (Pr.drew _)
    · have hks : k = s.size := by omega
      have hta : s.data.toList.take k = s.data.toList := by rw [List.take_of_length_le]; omega
      have d1 : decide ((k : Int) < s.size) = false := by simp; omega
      have d3 : decide (k < s.size) = false := by simp; omega
      rw [hta] at ho
      have Ho := Lib.hid ho
      clear hks hta ho
      obtain ⟨oa, cap, rfl, h2⟩ := Ho.out.strs
      have H2 := Lib.hid h2
      clear h2
      go_wp2_with fail
      go_ret
      exact ⟨oa, cap, rfl, H2.out, hp⟩
end Go.Proofs.YtdbnfhpgmcjngacDoor
