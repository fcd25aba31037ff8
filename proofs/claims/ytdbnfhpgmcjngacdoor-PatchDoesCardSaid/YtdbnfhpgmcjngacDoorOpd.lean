/- What comes in is read: a deed; deeds. -/
import Derived.Test.YtdbnfhpgmcjngacDoorOpn
import Derived.Test.YtdbnfhpgmcjngacDoorDp
namespace Go.Proofs.YtdbnfhpgmcjngacDoor
open Go Go.RowKit Go.ChangeShapes Go.WideShapes Go.ChangeAt

section
variable {H : Type} {enc : TypeId × Value → H} {w : World} {spare : Nat → Bool} {held : Bool}
theorem cells_ints : Tryd.prog.cellsOf 39 = 1 := by kernel_rfl
set_option maxRecDepth 100000 in
/-- A slice of ints, in a field. -/
theorem read_ints (fuel : Nat) (cs : List Value) (x) (h : DataW.trod enc Tryd.prog w 0 spare held fuel 39 cs = some x) : ∃ (xs : List Int) (oa : Option Addr) (cap : Nat), cs = [.slice oa xs.length cap] ∧ Ints Any w xs oa cap ∧ ∀ y ∈ xs, (Lit.int .i64 y).wf = true := by
  obtain ⟨xs, oa, cap, e, hc, b, o, h1, h2⟩ := slice_rows under_ints cells_int (by decide) (fun (y : Int) cs => cs = [.int .i64 y] ∧ (Lit.int .i64 y).wf = true) (fun fuel cs x h => by
    obtain ⟨y, e, _, hw⟩ := DataW.trod_int under_int h
    exact ⟨y, e, hw⟩) h
  refine ⟨xs, oa, cap, e, ⟨by simpa using hc, b, o, fun hn => ⟨h1 (by intro e; subst e; simp at hn), trivial⟩, fun i hi => ?_⟩, fun y hy => ?_⟩
  · have hi' : i < xs.length := by simpa using hi
    obtain ⟨ys, ⟨rfl, _⟩, _, hc⟩ := h2 i hi'
    have := hc 0 (by decide)
    simpa using this
  · obtain ⟨i, hi, rfl⟩ := List.mem_iff_getElem.1 hy
    obtain ⟨ys, ⟨_, h⟩, _⟩ := h2 i hi
    exact h
theorem deed_flds : (match Tryd.prog.underlying 52 with | some (.struct fs) => fs.toList.map fun f => (f.type, f.offset) | _ => []) = [(3, 0), (39, 1), (3, 2), (3, 3), (9, 4)] := by kernel_rfl
set_option maxRecDepth 100000 in
theorem under_deed : ∃ f0 f1 f2 f3 f4 : Field, Tryd.prog.underlying 52 = some (.struct #[f0, f1, f2, f3, f4]) ∧ (f0.type = 3 ∧ f0.offset = 0) ∧ (f1.type = 39 ∧ f1.offset = 1) ∧ (f2.type = 3 ∧ f2.offset = 2) ∧ (f3.type = 3 ∧ f3.offset = 3) ∧ (f4.type = 9 ∧ f4.offset = 4) := by
  have h := deed_flds
  split at h
  · rename_i fs hu
    obtain ⟨l⟩ := fs
    match l, h with
    | [f0, f1, f2, f3, f4], h =>
      simp only [List.map_cons, List.map_nil, List.cons.injEq, Prod.mk.injEq, and_true] at h
      exact ⟨f0, f1, f2, f3, f4, hu, h.1, h.2.1, h.2.2.1, h.2.2.2.1, h.2.2.2.2⟩
  · cases h
theorem cells_deed : Tryd.prog.cellsOf 52 = 5 := by kernel_rfl
instance : Inhabited Dee := ⟨Dee.zero⟩
/-- A deed's cells, as they read. -/
def DeeAt (w : World) (y : Dee) (cs : List Value) : Prop := ∃ pa pc, cs = [.int .i64 y.kind, .slice pa y.path.length pc, .int .i64 y.pos, .int .i64 y.many, .string y.lab] ∧ Ints Any w y.path pa pc ∧ y.lab.size ≤ maxLen
set_option maxRecDepth 100000 in
theorem read_deed (fuel : Nat) (cs : List Value) (x) (h : DataW.trod enc Tryd.prog w 0 spare held fuel 52 cs = some x) : ∃ y : Dee, DeeAt w y cs := by
  obtain ⟨f0, f1, f2, f3, f4, hu, ⟨t0, o0⟩, ⟨t1, o1⟩, ⟨t2, o2⟩, ⟨t3, o3⟩, ⟨t4, o4⟩⟩ := under_deed
  obtain ⟨xs, n, rfl, _, hcl, hxl, hf⟩ := DataW.trod_struct hu h
  rw [cells_deed] at hcl
  match cs, hcl with
  | [v0, v1, v2, v3, v4], _ =>
    have g0 := hf 0 f0 rfl
    have g1 := hf 1 f1 rfl
    have g2 := hf 2 f2 rfl
    have g3 := hf 3 f3 rfl
    have g4 := hf 4 f4 rfl
    rw [t0, o0, cells_int, List.getElem?_eq_getElem (by rw [hxl]; simp)] at g0
    rw [t1, o1, cells_ints, List.getElem?_eq_getElem (by rw [hxl]; simp)] at g1
    rw [t2, o2, cells_int, List.getElem?_eq_getElem (by rw [hxl]; simp)] at g2
    rw [t3, o3, cells_int, List.getElem?_eq_getElem (by rw [hxl]; simp)] at g3
    rw [t4, o4, cells_str, List.getElem?_eq_getElem (by rw [hxl]; simp)] at g4
    obtain ⟨k, e0, _, _⟩ := DataW.trod_int under_int g0
    obtain ⟨p, pa, pc, e1, hp, _⟩ := read_ints _ _ _ g1
    obtain ⟨a, e2, _, _⟩ := DataW.trod_int under_int g2
    obtain ⟨m, e3, _, _⟩ := DataW.trod_int under_int g3
    obtain ⟨s, e4, _, hs⟩ := DataW.trod_string under_str g4
    simp at e0 e1 e2 e3 e4
    subst e0; subst e1; subst e2; subst e3; subst e4
    exact ⟨⟨k, p, a, m, s⟩, pa, pc, rfl, hp, hs⟩
set_option maxRecDepth 100000 in
/-- A deed that came in. -/
theorem open_deed {r : Reach} {b0 : Nat} {v : Value} {d : DataW H} {p : List MemPlace} (hv : Value.okWide Tryd.prog w r b0 52 v) (h : DataW.Trod enc Tryd.prog w 0 spare held 52 v d p) :
    ∃ (y : Dee) (pa : Option Addr) (pc : Nat), v = .agg #[.int .i64 y.kind, .slice pa y.path.length pc, .int .i64 y.pos, .int .i64 y.many, .string y.lab] ∧ Ints Any w y.path pa pc ∧ y.lab.size ≤ maxLen := by
  obtain ⟨f0, f1, f2, f3, f4, hu, _⟩ := under_deed
  unfold Value.okWide at hv
  rw [hu] at hv
  obtain ⟨cs, rfl, _, _⟩ := hv
  obtain ⟨fuel, h⟩ := h
  obtain ⟨y, pa, pc, e, hp, hs⟩ := read_deed fuel _ _ h
  refine ⟨y, pa, pc, ?_, hp, hs⟩
  have : cs = #[.int .i64 y.kind, .slice pa y.path.length pc, .int .i64 y.pos, .int .i64 y.many, .string y.lab] := Array.ext' (by simpa [Value.cells] using e)
  rw [this]
end
end Go.Proofs.YtdbnfhpgmcjngacDoor
