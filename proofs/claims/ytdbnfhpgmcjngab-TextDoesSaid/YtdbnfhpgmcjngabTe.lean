/- Walks: a builder of text that lies in a writer. -/
import Derived.Test.YtdbnfhpgmcjngabTd
import Derived.Lib.Builder
import Derived.Lib.AppendStr
import Derived.Lib.UnsafeStr
import Derived.Lib.OthersKept
import Derived.Laws.Externs
namespace Go.Proofs.Ytdbnfhpgmcjngab
open Go Go.RowKit

/-- Block M is a writer that holds these bytes; they lie in a row of its own, from B on. -/
def Bld (B M : Nat) (w : World) (l : List UInt8) : Prop := B ≤ M ∧ ∃ p v, (p = .pointer none ∨ p = .pointer (some ⟨M, 0, none⟩)) ∧ w.heap[M]? = some (.cells #[p, v] 74 (0, 0)) ∧ w.ownsRow B 5 1 v l.length (Lib.byteCells l) ∧ v.ownBlock ≠ some M
/-- All that is not the writer's is as it was. -/
abbrev Wrote (B M : Nat) (w w' : World) : Prop := Below B w w' ∧ Lib.OthersKept 5 (some M) w w'
theorem under_ptrBuilder : Try.prog.underlying 69 = some (.pointer 72) := by kernel_rfl
theorem under_unsafe : Try.prog.underlying 130 = some .unsafePointer := by kernel_rfl
theorem under_bytes : Try.prog.underlying 70 = some (.slice 5) := by kernel_rfl
theorem under_stringT : Try.prog.underlying 9 = some .string := by kernel_rfl
theorem under_ptrByte : Try.prog.underlying 114 = some (.pointer 5) := by kernel_rfl
theorem info_byte : (Try.prog.info? 5).map (fun i => (i.zero, i.size, i.bytes)) = some (some (.int .u8 0), 1, 1) := by kernel_rfl
theorem info_builder : (Try.prog.info? 72).map (·.size) = some 2 := by kernel_rfl
theorem cells_byte : Try.prog.cellsOf 5 = 1 := by kernel_rfl
theorem lies_builder : liesAt Try.prog Try.prog.depth 74 (2 / Try.prog.cellsOf 74) 0 72 1 = true := by kernel_rfl
theorem shape_cells {w : World} {M : Nat} {x y : Value} {T : TypeId} {fz : Nat × Nat} (h : w.heap[M]? = some (.cells #[x, y] T fz)) : w.shape? M = some (T, 2) := by simp [World.shape?, h]

set_option maxRecDepth 100000 in
set_option maxHeartbeats 1000000 in
theorem wcopy_fresh (M : Nat) (w : World) (v : Value) (h : w.heap[M]? = some (.cells #[.pointer none, v] 74 (0, 0))) :
    Calls Try.prog 91 #[.pointer (some ⟨M, 0, none⟩)] w fun e w' => e = .returned (.tuple #[]) ∧ w' = w.setCell ⟨M, 0, none⟩ (.pointer (some ⟨M, 0, none⟩)) := by
  obtain ⟨j, hj, hjs⟩ := Option.map_eq_some_iff.1 info_builder
  have h0 : w.cell? ⟨M, 0, none⟩ = some (.pointer none) := blk_cell h
  have hfz : w.frozen? ⟨M, 0, none⟩ = false := blk_frozen h
  have hsh := shape_cells h
  have k1 := Lib.run_to_unsafe w ⟨M, 0, none⟩ under_ptrBuilder under_unsafe hj (by rw [hjs]; decide) hsh (Nat.zero_lt_succ 1)
  have k2 : (callFunc 97 #[.pointer (some ⟨M, 0, none⟩)]).run Try.prog w = .ok (.value (.pointer (some ⟨M, 0, none⟩))) w := by
    rw [run_callFunc_extern (fn := Try.f97) rfl (by kernel_rfl) (by kernel_rfl) (by kernel_rfl) (e := Extern.AbiNoEscape.same) (by kernel_rfl), Lib.run_noEscape]; rfl
  have k3 := Lib.run_from_unsafe w ⟨M, 0, none⟩ under_unsafe under_ptrBuilder hj hsh lies_builder
  go_enter Try.func91, Try.ntmps91
  go_wp2
  go_end0
  exact ⟨rfl, rfl⟩
set_option maxRecDepth 100000 in
set_option maxHeartbeats 1000000 in
theorem wcopy_used (M : Nat) (w : World) (v : Value) (h : w.heap[M]? = some (.cells #[.pointer (some ⟨M, 0, none⟩), v] 74 (0, 0))) :
    Calls Try.prog 91 #[.pointer (some ⟨M, 0, none⟩)] w fun e w' => e = .returned (.tuple #[]) ∧ w' = w := by
  obtain ⟨j, hj, _⟩ := Option.map_eq_some_iff.1 info_builder
  have h0 : w.cell? ⟨M, 0, none⟩ = some (.pointer (some ⟨M, 0, none⟩)) := blk_cell h
  have k1 := Lib.run_neq_ptr_same (P := Try.prog) (w := w) ⟨M, 0, none⟩ under_ptrBuilder hj
  go_enter Try.func91, Try.ntmps91
  go_wp2
  go_end0
  exact ⟨rfl, rfl⟩
theorem row_kind {w : World} {B e size : Nat} {v : Value} {n : Nat} {xs : List Value} (h : w.ownsRow B e size v n xs) : ∀ g, v.ownBlock = some g → ∃ c fz, w.heap[g]? = some (.cells c e fz) := by
  intro g hg
  rcases h.2 with ⟨rfl, _⟩ | ⟨g', cap, cur, rfl, _, h3, _⟩
  · cases hg
  · cases hg; exact ⟨_, _, h3⟩
theorem wcopy_any (B M : Nat) (w : World) (l : List UInt8) (h : Bld B M w l) :
    Calls Try.prog 91 #[.pointer (some ⟨M, 0, none⟩)] w fun e w' => e = .returned (.tuple #[]) ∧ Bld B M w' l ∧ Wrote B M w w' := by
  obtain ⟨hB, p, v, rfl | rfl, hb, ho, hn⟩ := h
  · refine (wcopy_fresh M w v hb).mono ?_
    rintro e w' ⟨rfl, rfl⟩
    refine ⟨rfl, ⟨hB, _, v, .inr rfl, blk_set (o := 0) hb _, ownsRow_kept ho (fun k hk => Below.heap_setCell _ _ _ _ (fun e => hn (by have e' : k = M := e; rw [← e']; exact hk))), hn⟩, (Below.refl B w).setCell (p := ⟨M, 0, none⟩) hB _, (Lib.OthersKept.refl _ _ w).setCell ⟨M, 0, none⟩ rfl _⟩
  · refine (wcopy_used M w v hb).mono ?_
    rintro e w' ⟨rfl, rfl⟩
    exact ⟨rfl, ⟨hB, _, v, .inr rfl, hb, ho, hn⟩, Below.refl B _, Lib.OthersKept.refl _ _ _⟩

set_option maxRecDepth 100000 in
set_option maxHeartbeats 2000000 in
theorem wstring_any (B M : Nat) (w : World) (l : List UInt8) (s : ByteArray) (h : Bld B M w l) (hlen : l.length + s.size ≤ 1000000) (hBw : B ≤ w.heap.size) :
    Calls Try.prog 76 #[.pointer (some ⟨M, 0, none⟩), .string s] w fun e w' => e = .returned (.tuple #[.int .i64 s.size, .nilIface]) ∧ Bld B M w' (l ++ s.data.toList) ∧ Wrote B M w w' := by
  obtain ⟨i0, hi, hz0, hz1, hz2⟩ := info_parts info_byte
  go_enter Try.func76, Try.ntmps76
  go_wp2_with (go_at_call 91; (with_reducible refine Calls.mono (wcopy_any B M _ l h) ?_))
  rintro e w1 ⟨rfl, ⟨hB, p, v, hpp, hb, ho, hn⟩, hb1, hk1⟩
  have c1 : w1.cell? ⟨M, 1, none⟩ = some v := blk_cell hb
  go_wp2_with (at_builtin; refine Lib.wpList_append_own_string _ rfl _ _ 70 9 rfl B 5 i0 under_bytes under_stringT hi hz0 hz1 hz2 _ _ _ rfl ho s rfl ?c3 ?c4 ?c5 ?_)
  case c3 => unfold maxLen; omega
  case c4 => omega
  case c5 => have := hb1.size; omega
  intro v' w2 ho2 hg2 _
  have hb2 : w2.heap[M]? = some (.cells #[p, v] 74 (0, 0)) := grown_blk hg2 hb hn
  have d1 : w2.cell? ⟨M, 1, none⟩ = some v := blk_cell hb2
  have f1 : w2.frozen? ⟨M, 1, none⟩ = false := blk_frozen hb2
  obtain ⟨ao, n', cap, rfl⟩ : ∃ ao n' cap, v' = .slice ao n' cap := by
    rcases ho2.2 with ⟨hv, _⟩ | ⟨g, cap, cur, hv, _⟩
    · exact ⟨_, _, _, hv⟩
    · exact ⟨_, _, _, hv⟩
  go_wp2
  go_ret2
  have hne2 : (Value.slice ao n' cap).ownBlock ≠ some M := by
    intro e
    obtain ⟨c, fz, h3⟩ := row_kind ho2 M e
    rw [hb2] at h3; cases h3
  refine ⟨rfl, ⟨hB, p, _, hpp, blk_set (o := 1) hb2 _, ?_, hne2⟩, ?_, (hk1.grown hg2 (row_kind ho)).setCell ⟨M, 1, none⟩ rfl _⟩
  · have := ownsRow_kept ho2 (w' := w2.setCell ⟨M, 1, none⟩ (.slice ao n' cap)) (fun k hk => Below.heap_setCell _ _ _ _ (fun e => hne2 (by have e' : k = M := e; rw [← e']; exact hk)))
    rw [Lib.strCells_eq, ← Lib.byteCells_append] at this
    rw [List.length_append]; exact this
  · exact (hb1.grown hg2 (Nat.le_trans hBw hb1.size) (fun k hk => (ho.lt k hk).1)).setCell (p := ⟨M, 1, none⟩) hB _
set_option maxRecDepth 100000 in
set_option maxHeartbeats 2000000 in
/-- What was written, as a string. -/
theorem wread_any (B M : Nat) (w : World) (l : List UInt8) (h : Bld B M w l) (h0 : l ≠ []) :
    Calls Try.prog 46 #[.pointer (some ⟨M, 0, none⟩)] w fun e w' => e = .returned (.string ⟨⟨l⟩⟩) ∧ Below B w w' := by
  obtain ⟨hB, p, v, hpp, hb, ho, hn⟩ := h
  have hl0 : l.length ≠ 0 := by simpa using h0
  obtain ⟨g, cap, cur, rfl, hbg, hg, hnc, hcm, hcs, htake⟩ : ∃ g cap cur, v = .slice (some ⟨g, 0, none⟩) l.length cap ∧ B ≤ g ∧ w.heap[g]? = some (.cells cur 5 (0, 0)) ∧ l.length ≤ cap ∧ cap ≤ maxLen ∧ cur.size = cap * 1 ∧ cur.toList.take (l.length * 1) = Lib.byteCells l := by
    rcases ho.2 with ⟨_, hz⟩ | ⟨g, cap, cur, hv, r⟩
    · exact absurd hz hl0
    · exact ⟨g, cap, cur, hv, r⟩
  have c1 : w.drew.cell? ⟨M, 1, none⟩ = some (.slice (some ⟨g, 0, none⟩) l.length cap) := blk_cell (o := 1) hb
  have hSD : (Builtin.unsafeSliceData_ #[70] 114 #[.slice (some ⟨g, 0, none⟩) l.length cap]).run Try.prog w.drew = .ok (.pointer (some ⟨g, 0, none⟩)) w.drew :=
    Lib.run_unsafeSliceData_row _ _ _ _ _ _ (by omega)
  have hUS : (Builtin.unsafeString_ #[114, 3] 9 #[.pointer (some ⟨g, 0, none⟩), .int .i64 l.length]).run Try.prog w.drew = .ok (.string ⟨⟨l⟩⟩) (w.drew.freeze ⟨g, 0, none⟩ l.length) := by
    refine Lib.run_unsafeString_row w.drew 114 3 9 5 under_ptrByte cells_byte g cur.size (by have hg' : w.drew.heap[g]? = some (.cells cur 5 (0, 0)) := hg; simp [World.shape?, hg']) l h0 (by omega) (by unfold maxLen at hcm; omega) ?_
    intro j x hx
    obtain ⟨hj, rfl⟩ := List.getElem?_eq_some_iff.1 hx
    rw [Addr.add_lit, Nat.zero_add]
    have h1 : cur[j]? = some (.int .u8 l[j].toNat) := by
      have h2 : (cur.toList.take (l.length * 1))[j]? = some (.int .u8 l[j].toNat) := by rw [htake]; simp [Lib.byteCells, hj]
      rw [List.getElem?_take] at h2
      split at h2
      · simpa using h2
      · cases h2
    show w.cell? ⟨g, j, none⟩ = _
    rw [blk_cell hg]; exact h1
  have hfin := Lib.below_freeze (Below.drew (Below.refl B w)) (p := ⟨g, 0, none⟩) hbg l.length
  have Hfin := Lib.hid hfin
  clear hfin hb ho hg htake hnc hcm hcs
  go_enter Try.func46, Try.ntmps46
  go_wp2
  go_region
  all_goals (go_wp2; go_ret; exact ⟨rfl, Hfin.out⟩)
end Go.Proofs.Ytdbnfhpgmcjngab
