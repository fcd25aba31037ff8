/- Walks: the nodes of a tree, as the document's answer tells them. -/
import Derived.Test.YtdbnfhpgmcjngabWe
import Derived.Test.YtdbnfhpgmcjngabMn
namespace Go.Proofs.Ytdbnfhpgmcjngab
open Go Go.RowKit

/-- The nodes of a tree came behind those of a slice of one's own. -/
def NodesPost (base : Nat) (w : World) (v : Value) (xs : List Nd) (t : Tr) (e : Ending) (w' : World) : Prop :=
  ∃ g cap, e = .returned (.slice (some ⟨g, 0, none⟩) (xs.length + t.sz) cap) ∧ OwnsNds base w' (.slice (some ⟨g, 0, none⟩) (xs.length + t.sz) cap) (xs ++ ndsT xs.length (-1) t) ∧ w.grownBy w' v.ownBlock ∧ (v.ownBlock = some g ∨ w.heap.size ≤ g)

theorem Kids.grown {B : Nat} {w w' : World} {row : Option Nat} {ks : List Tr} {oa cap} (h : Kids (fun k => k < B) w ks oa cap) (hg : w.grownBy w' row) (hr : ∀ k, row = some k → B ≤ k) : Kids (fun k => k < B) w' ks oa cap :=
  h.carry fun k hk hl => ⟨hg.block k hl (fun e => by have := hr k e.symm; have hk' : k < B := hk; omega), hk⟩

set_option maxHeartbeats 1600000 in
theorem nodesOf_any (N : Nat) : ∀ (l : ByteArray) (ks : List Tr) (oa cap) (v : Value) (xs : List Nd) (base : Nat) (w : World), Tr.szL ks < N → Tr.szL ks + xs.length ≤ 1000000 → base ≤ w.heap.size → Kids (fun k => k < base) w ks oa cap → OwnsNds base w v xs →
    Calls Try.prog 30 #[.agg #[.string l, .slice oa ks.length cap], v] w (NodesPost base w v xs (.node l ks)) := by
  induction N with
  | zero => intro l ks oa cap v xs base w hN; omega
  | succ N ih =>
    have Ih := Lib.hid ih; clear ih
    intro l ks oa cap v xs base w hN hsm hbase hk hv
    have hm := hk.len
    have hm2 := Tr.length_le ks
    obtain ⟨ov, cv, rfl, hv1, hv2, hv3⟩ := ownsRow_slice hv
    have hvb := hv.block
    obtain ⟨W, hW⟩ : ∃ W, W = w.alloc (.cells #[.string l, .slice oa ks.length cap] 24) := ⟨_, rfl⟩
    have hwW : Pr w W := by rw [hW]; exact Pr.alloc _ _
    have hWs : W.heap.size = w.heap.size + 1 := by rw [hW]; simp
    have hbox : W.heap[w.heap.size]? = some (.cells #[.string l, .slice oa ks.length cap] 24 (0, 0)) := by rw [hW]; exact heap_alloc_new w _
    have hkW := hk.pr hwW
    have hvW := hv.pr hwW
    generalize hvv : Value.slice ov xs.length cv = v0 at *
    have Hvv := Lib.hid hvv
    clear hv hk hvv
    rw [← Hvv.out]
    go_enter Try.func30, Try.ntmps30
    go_wp2_with fail
    rw [← hW, Hvv.out]
    clear hW
    have hnb : v0.ownBlock ≠ some w.heap.size := fun e => by have := (hvb _ e).2; omega
    go_loopw [1, 6, 7] (fun v1 v2 i wr => ∃ (k : Nat), k ≤ ks.length ∧ i = .int .i64 k ∧ OwnsNds base wr v1 (xs ++ ndsF xs.length (-1) (ks.take k)) ∧ OwnsIs (w.heap.size + 1) wr v2 ((kidIdx xs.length (ks.take k)).map Int.ofNat) ∧
      W.grownBy wr v0.ownBlock ∧ (∀ j, v1.ownBlock = some j → v0.ownBlock = some j ∨ w.heap.size + 1 ≤ j) ∧ (∀ j, v2.ownBlock = some j → v1.ownBlock ≠ some j)) (fun _ _ i _ => ks.length - (intOf i).toNat)
    case atStart => exact ⟨0, by omega, rfl, by simpa [ndsF] using hvW, by simpa [kidIdx] using OwnsIs.nil _ _, (Pr.refl W).grownBy _, fun j hj => .inl hj, fun j hj => by cases hj⟩
    case round =>
      obtain ⟨k, hkl, rfl, ho1, ho2, hg, hd1, hd2⟩ := hrel
      have hb0 := grown_blk hg hbox hnb
      have c0 : wr.cell? ⟨w.heap.size, 0, none⟩ = some (.string l) := blk_cell hb0
      have c1 : wr.cell? ⟨w.heap.size, 1, none⟩ = some (.slice oa ks.length cap) := blk_cell hb0
      have Hb0 := Lib.hid hb0
      clear hb0
      have htl := Tr.szL_take_le ks k
      have hl1 : (xs ++ ndsF xs.length (-1) (ks.take k)).length = xs.length + Tr.szL (ks.take k) := by rw [List.length_append, ndsF_length]
      have hkr := hkW.grown hg (fun j hj => (hvb j hj).1)
      by_cases hlt : k < ks.length
      · obtain ⟨b, o, l', ks', oa', cap', e1, hl', rfl, d0, d1, hk'⟩ := hkr.get k hlt
        have hsz := Tr.szL_get ks k hlt
        have hs := Tr.szL_take_succ ks k hlt
        have hnt := ndsF_take ks k hlt xs.length (-1)
        have hit := kidIdx_take ks k hlt xs.length
        rw [e1] at hsz hs hnt hit
        have Hnt := Lib.hid hnt
        have Hit := Lib.hid hit
        have Hl1 := Lib.hid hl1
        have htl2 := Tr.szL_take_le ks (k + 1)
        clear e1 hnt hit hl1
        simp only [Tr.sz] at hsz hs
        have hgs := hg.size
        have hil : (kidIdx xs.length (ks.take k)).length ≤ 1000000000 := by rw [kidIdx_length, List.length_take]; omega
        go_wp2_with (first
          | (go_at_call 30; (with_reducible refine Calls.mono (Ih.out l' ks' _ _ _ _ base _ (by omega) (by rw [Hl1.out]; omega) (by omega) hk' ho1) ?_); rintro e w1 ⟨g3, c3, rfl, ho3, hg3, hd3⟩; rw [Hl1.out, Tr.sz_node] at ho3 ⊢
             have hg3s := hg3.size
             have hoi := ho2.grown hg3 (fun j hj => hd2 j hj))
          | (at_builtin; go_must (refine app_int rfl _ _ rfl (w.heap.size + 1) _ _ rfl (hoi.pr (Pr.alloc _ _)) w1.heap.size rfl _ (heap_alloc_new w1 _) (by simpa using hil) (by simp; omega) ?_); intro g4 c4 w2 ho4 hg4 hd4))
        have hne3 : u6.ownBlock ≠ some g3 := fun e => by
          have h2 := (ho2.block _ e).2
          rcases hd3 with h | h
          · exact hd2 g3 e h
          · omega
        have hb3 := (ho3.block g3 rfl).2
        refine ⟨⟨k + 1, by omega, by go_num, ?_, ?_, ?_, ?_, ?_⟩, ?_⟩
        · rw [Hnt.out, ← List.append_assoc]
          exact (ho3.pr (Pr.alloc _ _)).grown hg4 (fun j hj => by cases hj; exact hne3)
        · rw [Hit.out, List.map_append]
          rw [List.length_map] at ho4
          refine cast (congrArg (OwnsIs _ _ _) ?_) ho4
          congr 1
          simp; omega
        · refine grown_trans (grown_pr (grown_trans hg hg3 (fun j hj => ?_)) (Pr.alloc _ _)) hg4 (fun j hj => ?_)
          · rcases hd1 j hj with h | h
            · exact .inl h
            · exact .inr (by omega)
          · exact .inr (by have := (ho2.block j hj).1; omega)
        · intro j hj
          cases hj
          rcases hd3 with h | h
          · exact hd1 g3 h
          · exact .inr (by show w.heap.size + 1 ≤ g3; omega)
        · intro j hj e
          cases hj; cases e
          rcases hd4 with h | h
          · exact hne3 h
          · simp at h; omega
        · simp [intOf]; omega
      · have hkv : k = ks.length := by omega
        have hkt : ks.take k = ks := by rw [hkv, List.take_length]
        rw [hkt] at ho1 ho2 hl1
        clear hkt hlt
        have hxl := ndsF_length ks xs.length (-1)
        have hil : (kidIdx xs.length ks).length = ks.length := kidIdx_length ks xs.length
        have Hbx := hg.size
        obtain ⟨o1, cc1, hu1, q1, q2, q3⟩ := ownsRow_slice ho1
        obtain ⟨o2, cc2, hu2, p1, p2, p3⟩ := ownsRow_slice ho2
        rw [hl1] at hu1 q1
        rw [List.length_map, hil] at hu2 p1
        subst hu1; subst hu2
        have Hl1 := Lib.hid hl1
        clear hl1 p3
        go_wp2_with fail
        obtain ⟨wz, hwz⟩ : ∃ wz, wz = wr := ⟨_, rfl⟩
        go_loopw [8] (fun i wq => ∃ (j : Nat), j ≤ ks.length ∧ i = .int .i64 j ∧ OwnsNds base wq (.slice o1 (xs.length + Tr.szL ks) cc1) (((kidIdx xs.length ks).take j).foldl (fun l i => setPar l i ((xs.length + Tr.szL ks : Nat) : Int)) (xs ++ ndsF xs.length (-1) ks)) ∧
          wz.grownBy wq (Value.slice o1 (xs.length + Tr.szL ks) cc1).ownBlock) (fun i _ => ks.length - (intOf i).toNat)
        case atStart => exact ⟨0, by omega, rfl, by simpa using ho1, by rw [hwz]; exact (Pr.refl _).grownBy _⟩
        case round =>
          obtain ⟨j, hjl, rfl, hoj, hgj⟩ := hrel
          subst hwz
          have ho2j := ho2.grown hgj (fun j hj => hd2 j hj)
          by_cases hlt2 : j < ks.length
          · obtain ⟨oz, cz, hz, hints⟩ := ho2j.ints
            rw [List.length_map, hil] at hz
            cases hz
            have hjx : j < (kidIdx xs.length ks).length := by omega
            obtain ⟨b, o, rfl, cj⟩ := Ints.get hints j (by simpa using hjx)
            have hir := kidIdx_lt ks xs.length _ (List.getElem_mem hjx)
            have hft := List.take_succ_eq_append_getElem hjx
            simp only [List.getElem_map] at cj
            generalize hix : (kidIdx xs.length ks)[j] = ix at *
            obtain ⟨g, rfl, hgb⟩ := q3 (by rw [Hl1.out]; omega)
            have hlen : (((kidIdx xs.length ks).take j).foldl (fun l i => setPar l i ((xs.length + Tr.szL ks : Nat) : Int)) (xs ++ ndsF xs.length (-1) ks)).length = xs.length + Tr.szL ks := by rw [setPars_length, Hl1.out]
            obtain ⟨ou, cu, hu, hnd⟩ := hoj.nds
            rw [hlen] at hu
            cases hu
            obtain ⟨b2, o2, hbo, e0, e1, e2⟩ := hnd.get ix (by omega)
            cases hbo
            have hfz := hoj.frozen (ix * 3 + 1)
            have hst := hoj.store ix (by omega) ((xs.length + Tr.szL ks : Nat) : Int)
            have Hft := Lib.hid hft
            clear hft e0 e2
            simp only [Nat.zero_add] at e1
            go_wp2_with fail
            refine ⟨⟨j + 1, by omega, by go_num, ?_, ?_⟩, ?_⟩
            · rw [Hft.out, List.foldl_append]
              simp only [List.foldl_cons, List.foldl_nil]
              rw [← Int.natCast_add]; exact hst
            · exact grown_setCell hgj _ _ rfl
            · simp [intOf]; omega
          · have hjv : j = ks.length := by omega
            have hlast := setPars ((xs.length + Tr.szL ks : Nat) : Int) (-1) ks xs
            rw [hjv, ← hil, List.take_length, hlast] at hoj
            have hlenF : (xs ++ ndsF xs.length ((xs.length + Tr.szL ks : Nat) : Int) ks).length = xs.length + Tr.szL ks := by rw [List.length_append, ndsF_length]
            have HlenF := Lib.hid hlenF
            have hb1 := grown_blk hgj Hb0.out (fun e => by rcases hd1 _ e with h | h; exact hnb h; omega)
            have b0 : wr.cell? ⟨w.heap.size, 0, none⟩ = some (.string l) := blk_cell hb1
            have hgjs := hgj.size
            clear hb1 hlast hlenF c0 c1
            go_wp2_with (first
              | (at_builtin; refine app_node rfl _ _ rfl base _ _ rfl (hoj.pr (Pr.alloc _ _)) wr.heap.size rfl ⟨l, -1, (xs.length : Int)⟩ (heap_alloc_new wr _) (by rw [HlenF.out]; omega) (by simp; omega) ?_; intro g5 c5 w5 ho5 hg5 hd5; rw [HlenF.out] at ho5 ⊢))
            go_ret
            refine ⟨g5, c5, rfl, ?_, ?_, ?_⟩
            · have e : xs ++ ndsT xs.length (-1) (.node l ks) = (xs ++ ndsF xs.length ((xs.length + Tr.szL ks : Nat) : Int) ks) ++ [⟨l, -1, (xs.length : Int)⟩] := by simp [ndsT]
              rw [e]; exact ho5
            · rw [Hvv.out]
              have hd1' : ∀ j, (Value.slice o1 (xs.length + Tr.szL ks) cc1).ownBlock = some j → v0.ownBlock = some j ∨ W.heap.size ≤ j := fun j hj => by
                rcases hd1 j hj with h | h
                · exact .inl h
                · exact .inr (by omega)
              exact grown_trans (hwW.grownBy _) (grown_trans (grown_pr (grown_trans hg hgj hd1') (Pr.alloc _ _)) hg5 hd1') (fun _ h => .inl h)
            · rw [Hvv.out]
              rcases hd5 with h | h
              · rcases hd1 _ h with h | h
                · exact .inl h
                · exact .inr (by omega)
              · refine .inr ?_
                simp at h; omega

/-- The nodes of a tree, in new memory. -/
theorem nodesOf_nil (l : ByteArray) (ks : List Tr) (oa cap) (w : World) (h : Tr.szL ks ≤ 100000) (hk : Kids Any w ks oa cap) :
    Calls Try.prog 30 #[.agg #[.string l, .slice oa ks.length cap], .slice none 0 0] w fun e w' =>
      ∃ g c, e = .returned (.slice (some ⟨g, 0, none⟩) (Tr.node l ks).sz c) ∧ OwnsNds w.heap.size w' (.slice (some ⟨g, 0, none⟩) (Tr.node l ks).sz c) (nds (.node l ks)) ∧ Pr w w' := by
  refine (nodesOf_any _ l ks oa cap (.slice none 0 0) [] w.heap.size w (Nat.lt_succ_self _) (by simp; omega) (Nat.le_refl _) (hk.mono fun _ _ h => h) (OwnsNds.nil _ _)).mono ?_
  rintro e w' ⟨g, c, rfl, h1, h2, _⟩
  simp only [List.length_nil, Nat.zero_add, List.nil_append] at h1
  refine ⟨g, c, by simp, h1, ⟨h2.os, h2.tape, h2.output, h2.size, fun k hk => h2.block k hk (by intro e; cases e)⟩⟩
end Go.Proofs.Ytdbnfhpgmcjngab
