/- What comes in is read: deeds. -/
import Derived.Test.YtdbnfhpgmcjngacDoorOpd
import Derived.Test.YtdbnfhpgmcjngacDoorDs
namespace Go.Proofs.YtdbnfhpgmcjngacDoor
open Go Go.RowKit Go.ChangeShapes Go.WideShapes Go.ChangeAt

section
variable {H : Type} {enc : TypeId × Value → H} {w : World} {spare : Nat → Bool} {held : Bool}
set_option maxRecDepth 100000 in
/-- A slice of deeds that came in. -/
theorem open_deeds {r : Reach} {b0 : Nat} {v : Value} {d : DataW H} {p : List MemPlace} (hv : Value.okWide Tryd.prog w r b0 27 v) (h : DataW.Trod enc Tryd.prog w 0 spare held 27 v d p) :
    ∃ (ds : List Dee) (oa : Option Addr) (cap : Nat), v = .slice oa ds.length cap ∧ Dees Any w ds oa cap ∧ True := by
  obtain ⟨a0, l0, c0, rfl⟩ := okWide_slice under_deeds hv
  obtain ⟨fuel, h⟩ := h
  obtain ⟨ds, oa, cap, e, hc, b, o, h1, h2⟩ := slice_rows under_deeds cells_deed (by decide) (DeeAt w) read_deed h
  simp [Value.cells] at e
  obtain ⟨rfl, rfl, rfl⟩ := e
  refine ⟨ds, a0, c0, rfl, ⟨hc, b, o, fun hn => ⟨h1 hn, trivial⟩, fun i hi => ?_⟩, trivial⟩
  obtain ⟨ys, ⟨pa, pc, e, hp, hl⟩, hlen, hcell⟩ := h2 i hi
  refine ⟨ys, ⟨pa, pc, e, hp, hl⟩, fun j u hu => ?_⟩
  have hj : j < 5 := by have := (List.getElem?_eq_some_iff.1 hu).1; omega
  rw [hcell j hj]; exact hu
end
end Go.Proofs.YtdbnfhpgmcjngacDoor
