/- Walks: slices.Reverse of deeds. -/
import Derived.Shelf.SlicesQ.Reverse
import Derived.Ground.SlgnProg
import Derived.Test.YtdbnfhpgmcjngacDs
namespace Go.Proofs.Ytdbnfhpgmcjngac
open Go Go.RowKit Go.Shelf Go.Lib Go.Sort

def revDeeds_ren : Go.Shelf.Ren := ⟨fun | 35 => 55 | n => n, fun | 0 => 0 | 3 => 3 | 4 => 4 | 22 => 35 | 23 => 45 | n => n, fun | n => n⟩
theorem revDeeds : SlLaysE0.n35 Try.prog revDeeds_ren where
  mixed := by kernel_rfl
  f35 := ⟨Try.f55.name, by kernel_rfl, Try.func55.trans (congrArg some (by kernel_rfl))⟩
  t0 := Try.underlying0
  a0 := Try.isAgg0
  z0 := Try.sizeOf0
  v0 := Try.zeroValue0
  t3 := Try.underlying3
  a3 := Try.isAgg3
  z3 := Try.sizeOf3
  v3 := Try.zeroValue3
  t4 := Try.underlying4
  a4 := Try.isAgg4
  z4 := Try.sizeOf4
  v4 := Try.zeroValue4
  t22 := Try.underlying35
  a22 := Try.isAgg35
  z22 := Try.sizeOf35
  v22 := Try.zeroValue35

/-- A deed's five cells. -/
abbrev DC := Int × Option Addr × Nat × Nat × Int × Int × ByteArray
def encD (x : DC) : List Value := [.int .i64 x.1, .slice x.2.1 x.2.2.1 x.2.2.2.1, .int .i64 x.2.2.2.2.1, .int .i64 x.2.2.2.2.2.1, .string x.2.2.2.2.2.2]
theorem encD_one (x : DC) : ∀ v ∈ encD x, v.oneCell' = true := by
  intro v hv
  simp [encD] at hv
  rcases hv with rfl | rfl | rfl | rfl | rfl <;> rfl
/-- Deeds of one's own, the other way round. -/
theorem revDeeds_any (b : Nat) (w : World) (v : Value) (ds : List Dee) (h : OwnsDs b w v ds) :
    Calls Try.prog 55 #[v] w fun e w' => e = .returned (.tuple #[]) ∧ OwnsDs b w' v ds.reverse ∧ Chg (fun k => v.ownBlock = some k) w w' := by
  obtain ⟨xs, ho, hv⟩ := h
  rcases ho.2 with ⟨rfl, hn⟩ | ⟨g, cap, cur, rfl, hb, hg, hnc, hcm, hcur, htake⟩
  · have : ds = [] := List.eq_nil_of_length_eq_zero hn
    subst this
    refine Calls.mono (AnyQ.slices_Reverse_empty revDeeds none 0 w) ?_
    rintro e w' ⟨rfl, rfl⟩
    exact ⟨rfl, OwnsDs.nil _ _, Chg.refl _ _⟩
  · have H : ∀ i : Fin ds.length, ∃ x : DC, DeeV (Apart b (.slice (some ⟨g, 0, none⟩) ds.length cap)) w ds[i] (encD x) ∧ ∀ (c : Nat) (u : Value), (encD x)[c]? = some u → xs[i.val * 5 + c]? = some u := fun i => by
      obtain ⟨vs, g1, g2⟩ := hv.get i.val i.isLt
      obtain ⟨pa, pc, rfl, g3, g4⟩ := g1
      exact ⟨(ds[i].kind, pa, ds[i].path.length, pc, ds[i].pos, ds[i].many, ds[i].lab), ⟨pa, pc, rfl, g3, g4⟩, g2⟩
    obtain ⟨d, hd⟩ : ∃ d : Array DC, d = Array.ofFn fun i => Classical.choose (H i) := ⟨_, rfl⟩
    have hds : d.size = ds.length := by rw [hd]; simp
    have hdi : ∀ (i : Nat) (hi : i < ds.length), DeeV (Apart b (.slice (some ⟨g, 0, none⟩) ds.length cap)) w ds[i] (encD d[i]!) ∧ ∀ (c : Nat) (u : Value), (encD d[i]!)[c]? = some u → xs[i * 5 + c]? = some u := fun i hi => by
      have h1 : d[i]! = Classical.choose (H ⟨i, hi⟩) := by
        rw [getElem!_pos d i (by omega)]; simp [hd]
      rw [h1]; exact Classical.choose_spec (H ⟨i, hi⟩)
    have hH : HoldsK encD 5 w g 0 d := by
      intro t ht
      rw [size_flatK] at ht
      have hi : t / 5 < ds.length := by omega
      have hc : (encD d[t / 5]!)[t % 5]? = some (encD d[t / 5]!)[t % 5]! := by
        rw [getElem!_pos (encD d[t / 5]!) (t % 5) (show t % 5 < (encD d[t / 5]!).length from Nat.mod_lt _ (by decide))]
        exact List.getElem?_eq_getElem _
      have h1 := (hdi (t / 5) hi).2 _ _ hc
      rw [show t / 5 * 5 + t % 5 = t by omega] at h1
      have h2 := ho.cells (g := g) rfl t _ h1
      rw [Addr.add_lit] at h2
      refine ⟨?_, blk_frozen hg⟩
      rw [get_flatK _ _ _ _ ht]; exact h2
    have hsz : d.size ≤ 9223372036854775807 := by unfold maxLen at hcm; omega
    have K := AnyQ.slices_Reverse revDeeds 5 Try.isAgg45 Try.sizeOf45 encD (fun _ => rfl) encD_one g 0 cap d w hH hsz
    rw [hds] at K
    refine Calls.mono K ?_
    rintro e w' ⟨rfl, m, rfl⟩
    have hH2 : HoldsK encD 5 (putRowK encD 5 (Sort.ahead w m) g 0 d.reverse) g 0 d.reverse := holdsK_putRowK _ _ _ _ _ d _ hH (by simp)
    have hch : Chg (fun k => (Value.slice (some ⟨g, 0, none⟩) ds.length cap).ownBlock = some k) w (putRowK encD 5 (Sort.ahead w m) g 0 d.reverse) := by
      refine ⟨rfl, rfl, rfl, ?_, fun k _ hn => ?_⟩
      · unfold putRowK; rw [size_putRow]; exact Nat.le_refl _
      · have hne : g ≠ k := fun e => hn (by rw [← e]; rfl)
        show (Array.modify w.heap g _)[k]? = _
        rw [Array.getElem?_modify, if_neg hne]
    have hblk : (putRowK encD 5 (Sort.ahead w m) g 0 d.reverse).heap[g]? = some (.cells (putCells id 0 (flatK encD 5 d.reverse) cur) 45 (0, 0)) := by
      show (Array.modify w.heap g _)[g]? = _
      rw [Array.getElem?_modify, if_pos rfl, hg]; rfl
    have hown : OwnsDs b (putRowK encD 5 (Sort.ahead w m) g 0 d.reverse) (.slice (some ⟨g, 0, none⟩) ds.reverse.length cap) ds.reverse :=
      OwnsDs.of_cells hb hblk (by simpa using hnc) hcm (by simp [putCells, hcur]) (fun i hi => ?_)
    · rw [List.length_reverse] at hown
      exact ⟨rfl, hown, hch⟩
    have hi' : i < ds.length := by simpa using hi
    have hj : ds.length - 1 - i < ds.length := by omega
    have e1 : ds.reverse[i] = ds[ds.length - 1 - i] := List.getElem_reverse _
    have e2 : d.reverse[i]! = d[ds.length - 1 - i]! := by
      rw [getElem!_pos d.reverse i (by simp; omega), getElem!_pos d _ (by omega), Array.getElem_reverse]
      simp [hds]
    rw [e1]
    refine ⟨encD d[ds.length - 1 - i]!, (hdi _ hj).1.carry fun k hS hl => ⟨hch.block k hl (fun e => hS.2 e), hS.1, fun e => hS.2 (by rw [← e]; rfl)⟩, fun c u hu => ?_⟩
    have hc : c < 5 := (List.getElem?_eq_some_iff.1 hu).1
    have h1 := (hH2.cell (i := i) (c := c) (by simp; omega) hc).1
    rw [h1, e2]
    rw [getElem!_pos (encD d[ds.length - 1 - i]!) c (show c < (encD d[ds.length - 1 - i]!).length from hc), ← List.getElem?_eq_getElem]; exact hu
end Go.Proofs.Ytdbnfhpgmcjngac
