/- What comes in is read: slices of rows; nodes. -/
import Derived.Test.YtdbnfhpgmcjngacDoorOpen
import Derived.Test.YtdbnfhpgmcjngacDoorMn
namespace Go.Proofs.YtdbnfhpgmcjngacDoor
open Go Go.RowKit Go.ChangeShapes Go.WideShapes Go.ChangeAt

theorem mapM_some {α β : Type} {f : α → Option β} : ∀ {l : List α} {cs : List β}, l.mapM f = some cs → cs.length = l.length ∧ ∀ j (h : j < l.length), f l[j] = cs[j]?
  | [], cs, h => by simp at h; subst h; simp
  | a :: l, cs, h => by
    simp only [List.mapM_cons, Option.bind_eq_bind, Option.bind_eq_some_iff, Option.pure_def, Option.some.injEq] at h
    obtain ⟨b, hb, bs, hbs, rfl⟩ := h
    obtain ⟨h1, h2⟩ := mapM_some hbs
    refine ⟨by simp [h1], fun j hj => ?_⟩
    cases j with
    | zero => simpa using hb
    | succ j => simpa using h2 j (by simpa using hj)

section
variable {H : Type} {enc : TypeId × Value → H} {w : World} {spare : Nat → Bool} {held : Bool}
theorem cells_at {base : Nat} {a : Addr} {n : Nat} {cs : List Value} (h : w.cells? base a n = some cs) : cs.length = n ∧ ∀ j, j < n → a.spot = none ∧ w.cell? ⟨a.block, a.off + j, none⟩ = cs[j]? := by
  unfold World.cells? at h
  split at h
  · obtain ⟨h1, h2⟩ := mapM_some h
    rw [List.length_range] at h1
    refine ⟨h1, fun j hj => ?_⟩
    have h3 := h2 j (by simpa using hj)
    have h0 := h2 0 (by simp; omega)
    simp only [List.getElem_range] at h3 h0
    have hs : a.spot = none := by
      cases hs : a.spot with
      | none => rfl
      | some s =>
        have : cs[0]? = some (cs[0]'(by omega)) := List.getElem?_eq_getElem (by omega)
        rw [this] at h0
        have e : a.add 0 = a := by simp [Addr.add]
        rw [e] at h0
        unfold World.cell? at h0; split at h0 <;> simp_all
    refine ⟨hs, ?_⟩
    have e : a.add j = ⟨a.block, a.off + j, none⟩ := by
      unfold Addr.add; split
      · cases a; simp_all
      · rfl
    rw [← e]; exact h3
  · cases h

set_option maxRecDepth 100000 in
/-- A slice of rows, each of which says something. -/
theorem slice_rows {T E size : Nat} (hu : Tryd.prog.underlying T = some (.slice E)) (hsz : Tryd.prog.cellsOf E = size) (hpos : 0 < size) {α : Type} [Inhabited α] (R : α → List Value → Prop)
    (hR : ∀ (fuel : Nat) cs x, DataW.trod enc Tryd.prog w 0 spare held fuel E cs = some x → ∃ a, R a cs) {fuel : Nat} {cs : List Value} {x} (h : DataW.trod enc Tryd.prog w 0 spare held fuel T cs = some x) :
    ∃ (xs : List α) (oa : Option Addr) (cap : Nat), cs = [.slice oa xs.length cap] ∧ (xs.length ≤ cap ∧ cap ≤ maxLen) ∧ ∃ b o, (xs ≠ [] → oa = some ⟨b, o, none⟩) ∧
      ∀ i (h : i < xs.length), ∃ ys : List Value, R xs[i] ys ∧ ys.length = size ∧ ∀ j, j < size → w.cell? ⟨b, o + i * size + j, none⟩ = ys[j]? := by
  rcases DataW.trod_slice hu h with ⟨rfl, _⟩ | ⟨a, len, cap, elems, rest, n, rfl, rfl, _, _, hl, hm, hlen, hel, _⟩
  · exact ⟨[], none, 0, rfl, ⟨Nat.le_refl _, Nat.zero_le _⟩, 0, 0, fun h => absurd rfl h, fun _ h => absurd h (Nat.not_lt_zero _)⟩
  · rw [hsz] at hel
    have key : ∀ i, i < len → ∃ y : α, (i = 0 → a.spot = none) ∧ ∃ ys : List Value, R y ys ∧ ys.length = size ∧ ∀ j, j < size → w.cell? ⟨a.block, a.off + i * size + j, none⟩ = ys[j]? := by
      intro i hi
      have h1 := hel i hi
      rw [List.getElem?_eq_getElem (by omega)] at h1
      obtain ⟨ys, h2, h3⟩ := Option.bind_eq_some_iff.1 h1
      obtain ⟨y, hy⟩ := hR n _ _ h3
      obtain ⟨c1, c2⟩ := cells_at h2
      have hs := (c2 0 hpos).1
      refine ⟨y, fun e => by subst e; simpa [Addr.add] using hs, ys, hy, c1, fun j hj => ?_⟩
      rw [← (c2 j hj).2]
      unfold Addr.add at hs ⊢
      split <;> simp_all
    obtain ⟨f, hf⟩ := Go.Deep.choose_lt key
    refine ⟨(List.range len).map f, some a, cap, by simp, ⟨by simpa using hl, hm⟩, a.block, a.off, fun hn => ?_, fun i hi => ?_⟩
    · have h0 : 0 < len := by have := List.length_pos_iff.2 hn; simpa using this
      obtain ⟨hs, _⟩ := hf 0 h0
      cases a; simp at hs; simp [hs]
    · have hi' : i < len := by simpa using hi
      have := (hf i hi').2
      simpa using this

theorem node_flds : (match Tryd.prog.underlying 82 with | some (.struct fs) => fs.toList.map fun f => (f.type, f.offset) | _ => []) = [(9, 0), (3, 1), (3, 2)] := by kernel_rfl
set_option maxRecDepth 100000 in
theorem under_node : ∃ f0 f1 f2 : Field, Tryd.prog.underlying 82 = some (.struct #[f0, f1, f2]) ∧ f0.type = 9 ∧ f1.type = 3 ∧ f2.type = 3 ∧ f0.offset = 0 ∧ f1.offset = 1 ∧ f2.offset = 2 := by
  have h := node_flds
  split at h
  · rename_i fs hu
    obtain ⟨l⟩ := fs
    match l, h with
    | [f0, f1, f2], h =>
      simp at h
      exact ⟨f0, f1, f2, hu, h.1.1, h.2.1.1, h.2.2.1, h.1.2, h.2.1.2, h.2.2.2⟩
  · cases h
theorem cells_node : Tryd.prog.cellsOf 82 = 3 := by kernel_rfl
instance : Inhabited Nd := ⟨⟨⟨#[]⟩, 0, 0⟩⟩

set_option maxRecDepth 100000 in
theorem read_node (fuel : Nat) (cs : List Value) (x) (h : DataW.trod enc Tryd.prog w 0 spare held fuel 82 cs = some x) : ∃ y : Nd, (cs = y.cells) ∧ y.lab.size ≤ maxLen ∧ (Lit.int .i64 y.par).wf = true ∧ (Lit.int .i64 y.left).wf = true := by
  obtain ⟨f0, f1, f2, hu, t0, t1, t2, o0, o1, o2⟩ := under_node
  obtain ⟨xs, n, rfl, _, hcl, hxl, hf⟩ := DataW.trod_struct hu h
  rw [cells_node] at hcl
  match cs, hcl with
  | [v0, v1, v2], _ =>
    have g0 := hf 0 f0 rfl
    have g1 := hf 1 f1 rfl
    have g2 := hf 2 f2 rfl
    rw [t0, o0, cells_str, List.getElem?_eq_getElem (by rw [hxl]; simp)] at g0
    rw [t1, o1, cells_int, List.getElem?_eq_getElem (by rw [hxl]; simp)] at g1
    rw [t2, o2, cells_int, List.getElem?_eq_getElem (by rw [hxl]; simp)] at g2
    obtain ⟨s, e0, _, hs⟩ := DataW.trod_string under_str g0
    obtain ⟨a, e1, _, ha⟩ := DataW.trod_int under_int g1
    obtain ⟨b, e2, _, hb⟩ := DataW.trod_int under_int g2
    simp at e0 e1 e2
    subst e0; subst e1; subst e2
    exact ⟨⟨s, a, b⟩, rfl, hs, ha, hb⟩

set_option maxRecDepth 100000 in
/-- A slice of nodes that came in. -/
theorem open_nodes {r : Reach} {b0 : Nat} {v : Value} {d : DataW H} {p : List MemPlace} (hv : Value.okWide Tryd.prog w r b0 64 v) (h : DataW.Trod enc Tryd.prog w 0 spare held 64 v d p) :
    ∃ (xs : List Nd) (oa : Option Addr) (cap : Nat), v = .slice oa xs.length cap ∧ Nds Any w xs oa cap ∧ ∀ y ∈ xs, y.lab.size ≤ maxLen ∧ (Lit.int .i64 y.par).wf = true ∧ (Lit.int .i64 y.left).wf = true := by
  obtain ⟨a0, l0, c0, rfl⟩ := okWide_slice under_nodes hv
  obtain ⟨fuel, h⟩ := h
  obtain ⟨xs, oa, cap, e, hc, b, o, h1, h2⟩ := slice_rows under_nodes cells_node (by decide) (fun (y : Nd) cs => cs = y.cells ∧ y.lab.size ≤ maxLen ∧ (Lit.int .i64 y.par).wf = true ∧ (Lit.int .i64 y.left).wf = true) (fun fuel cs x h => read_node fuel cs x h) h
  simp [Value.cells] at e
  obtain ⟨rfl, rfl, rfl⟩ := e
  refine ⟨xs, a0, c0, rfl, ⟨hc, b, o, fun hn => ⟨h1 hn, trivial⟩, fun i hi => ?_⟩, fun y hy => ?_⟩
  · obtain ⟨ys, ⟨rfl, _⟩, _, hc⟩ := h2 i hi
    exact ⟨by simpa [Nd.cells] using hc 0 (by decide), by simpa [Nd.cells] using hc 1 (by decide), by simpa [Nd.cells] using hc 2 (by decide)⟩
  · obtain ⟨i, hi, rfl⟩ := List.mem_iff_getElem.1 hy
    obtain ⟨ys, ⟨_, h⟩, _⟩ := h2 i hi
    exact h
end
end Go.Proofs.YtdbnfhpgmcjngacDoor
