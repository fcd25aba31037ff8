/- Trees in memory that share nothing: a node may be written in place. -/
import Derived.Test.YtdbnfhpgmcjngacBmt
import Derived.Test.YtdbnfhpgmcjngacBpl
namespace Go.Proofs.Ytdbnfhpgmcjngac
open Go Go.RowKit

mutual
/-- A tree whose two cells hold these values; all beneath it lies in blocks from lo to ahead of hi, each kid's in its own part. -/
def UT (w : World) : Tr → Nat → Nat → Value → Value → Prop
  | .node l ks, lo, hi, vl, vk => (vl = .string l ∧ l.size ≤ maxLen) ∧ lo ≤ hi ∧ ∃ oa cap b o, vk = .slice oa ks.length cap ∧ (ks.length ≤ cap ∧ cap ≤ maxLen) ∧ (ks ≠ [] → oa = some ⟨b, o, none⟩ ∧ (lo ≤ b ∧ b < hi) ∧ ∀ j, w.frozen? ⟨b, j, none⟩ = false) ∧ UK w ks lo hi b o
def UK (w : World) : List Tr → Nat → Nat → Nat → Nat → Prop
  | [], _, _, _, _ => True
  | k :: ks, lo, hi, b, o => ∃ vl vk m1 mid, w.cell? ⟨b, o, none⟩ = some vl ∧ w.cell? ⟨b, o + 1, none⟩ = some vk ∧ (lo ≤ m1 ∧ mid ≤ hi) ∧ UT w k m1 mid vl vk ∧ ¬ (m1 ≤ b ∧ b < mid) ∧ UK w ks mid hi b (o + 2)
end

theorem UT.le {w : World} {t : Tr} {lo hi vl vk} (h : UT w t lo hi vl vk) : lo ≤ hi := by cases t; exact h.2.1
mutual
theorem UT.carry {w w' : World} : ∀ {t : Tr} {lo hi vl vk}, (∀ k, lo ≤ k → k < hi → k < w.heap.size → w'.heap[k]? = w.heap[k]?) → UT w t lo hi vl vk → UT w' t lo hi vl vk
  | .node l ks, lo, hi, vl, vk, hk, hx => by
    obtain ⟨h1, h2, oa, cap, b, o, h3, hc, h4, h5⟩ := hx
    have hb : ks ≠ [] → w'.heap[b]? = w.heap[b]? := fun hn => by
      have hbl : b < w.heap.size := by
        cases ks with
        | nil => exact absurd rfl hn
        | cons k ks => exact lt_of_cell h5.choose_spec.choose_spec.choose_spec.choose_spec.1
      exact hk b (h4 hn).2.1.1 (h4 hn).2.1.2 hbl
    refine ⟨h1, h2, oa, cap, b, o, h3, hc, fun hn => ⟨(h4 hn).1, (h4 hn).2.1, fun j => ?_⟩, UK.carry hk hb h5⟩
    have := (h4 hn).2.2 j
    unfold World.frozen? at this ⊢; rw [hb hn]; exact this
theorem UK.carry {w w' : World} : ∀ {ks : List Tr} {lo hi b o}, (∀ k, lo ≤ k → k < hi → k < w.heap.size → w'.heap[k]? = w.heap[k]?) → (ks ≠ [] → w'.heap[b]? = w.heap[b]?) → UK w ks lo hi b o → UK w' ks lo hi b o
  | [], _, _, _, _, _, _, _ => trivial
  | k :: ks, lo, hi, b, o, hk, hb, ⟨vl, vk, m1, mid, h1, h2, h3, h4, h5, h6⟩ => by
    have hle := h4.le
    have e : ∀ o v, w.cell? ⟨b, o, none⟩ = some v → w'.cell? ⟨b, o, none⟩ = some v := fun o v hc => by
      rw [World.cell?_of_block (hb (by simp))]; exact hc
    exact ⟨vl, vk, m1, mid, e _ _ h1, e _ _ h2, h3, UT.carry (fun j a c d => hk j (by omega) (by omega) d) h4, h5, UK.carry (fun j a c d => hk j (by omega) c d) (fun _ => hb (by simp)) h6⟩
end
mutual
theorem UT.treeV {S : Nat → Prop} {w : World} : ∀ {t : Tr} {lo hi vl vk}, (∀ k, lo ≤ k → k < hi → S k) → UT w t lo hi vl vk → TreeV S w t vl vk
  | .node l ks, lo, hi, vl, vk, hS, hx => by
    obtain ⟨h1, h2, oa, cap, b, o, h3, hc, h4, h5⟩ := hx
    exact ⟨h1, oa, cap, b, o, h3, hc, fun hn => ⟨(h4 hn).1, hS b (h4 hn).2.1.1 (h4 hn).2.1.2⟩, UK.kidsAt hS h5⟩
theorem UK.kidsAt {S : Nat → Prop} {w : World} : ∀ {ks : List Tr} {lo hi b o}, (∀ k, lo ≤ k → k < hi → S k) → UK w ks lo hi b o → KidsAt S w ks b o
  | [], _, _, _, _, _, _ => trivial
  | k :: ks, lo, hi, b, o, hS, ⟨vl, vk, m1, mid, h1, h2, h3, h4, h5, h6⟩ =>
    have hle := h4.le
    ⟨vl, vk, h1, h2, UT.treeV (fun j a c => hS j (by omega) (by omega)) h4, UK.kidsAt (fun j a c => hS j (by omega) c) h6⟩
end
/-- A kid: its cells, its part, and that all others are elsewhere. -/
theorem UK.get {w : World} : ∀ {ks : List Tr} {lo hi b o}, lo ≤ hi → UK w ks lo hi b o → ∀ (i : Nat) (h : i < ks.length), ∃ vl vk lo' hi', w.cell? ⟨b, o + i * 2, none⟩ = some vl ∧ w.cell? ⟨b, o + i * 2 + 1, none⟩ = some vk ∧
      (lo ≤ lo' ∧ hi' ≤ hi) ∧ UT w ks[i] lo' hi' vl vk ∧ ¬ (lo' ≤ b ∧ b < hi') ∧
      ∀ (w' : World) (S : Nat → Prop) (x : Tr) vl2 vk2, (∀ k, k = b ∨ lo ≤ k ∧ k < hi → k ≠ b → ¬ (lo' ≤ k ∧ k < hi') → w'.heap[k]? = w.heap[k]?) → (∀ j, j ≠ o + i * 2 → j ≠ o + i * 2 + 1 → w'.cell? ⟨b, j, none⟩ = w.cell? ⟨b, j, none⟩) →
        w'.cell? ⟨b, o + i * 2, none⟩ = some vl2 → w'.cell? ⟨b, o + i * 2 + 1, none⟩ = some vk2 → TreeV S w' x vl2 vk2 → (∀ k, lo ≤ k → k < hi → S k) → KidsAt S w' (ks.set i x) b o
  | [], _, _, _, _, _, _, i, h => by simp at h
  | k :: ks, lo, hi, b, o, hle, ⟨vl, vk, m1, mid, h1, h2, h3, h4, h5, h6⟩, 0, _ => by
    have hl1 := h4.le
    refine ⟨vl, vk, m1, mid, by simpa using h1, by simpa using h2, ⟨by omega, by omega⟩, h4, h5, ?_⟩
    intro w' S x vl2 vk2 hk hj c0 c1 hx hS
    refine ⟨vl2, vk2, by simpa using c0, by simpa using c1, hx, ?_⟩
    have hrest : KidsAt S w ks b (o + 2) := UK.kidsAt (fun j a c => hS j (by omega) c) h6
    clear h1 h2
    have go : ∀ {js : List Tr} {m o2}, mid ≤ m → m ≤ hi → o + 2 ≤ o2 → UK w js m hi b o2 → KidsAt S w' js b o2 := by
      intro js
      induction js with
      | nil => intros; trivial
      | cons j js ih =>
        rintro m o2 a1 a2 a3 ⟨ul, uk, m3, m2, g1, g2, g3, g4, g5, g6⟩
        have hl2 := g4.le
        refine ⟨ul, uk, by rw [hj o2 (by omega) (by omega)]; exact g1, by rw [hj (o2 + 1) (by omega) (by omega)]; exact g2, ?_, ih (by omega) g3.2 (by omega) g6⟩
        refine UT.treeV (fun q e1 e2 => hS q (by omega) (by omega)) (UT.carry (fun q e1 e2 _ => hk q (.inr ⟨by omega, by omega⟩) (fun e => g5 ⟨by omega, by omega⟩) (by omega)) g4)
    exact go (Nat.le_refl _) h3.2 (Nat.le_refl _) h6
  | k :: ks, lo, hi, b, o, hle, ⟨vl, vk, m1, mid, h1, h2, h3, h4, h5, h6⟩, i + 1, h => by
    have hl1 := h4.le
    obtain ⟨vl', vk', lo', hi', g1, g2, g3, g4, g5, g6⟩ := h6.get h3.2 i (by simpa using h)
    have e0 : o + 2 + i * 2 = o + (i + 1) * 2 := by omega
    rw [e0] at g1 g2 g6
    refine ⟨vl', vk', lo', hi', g1, g2, ⟨by omega, g3.2⟩, by simpa using g4, g5, ?_⟩
    intro w' S x vl2 vk2 hk hj c0 c1 hx hS
    have hlt := g4.le
    refine ⟨vl, vk, by rw [hj o (by omega) (by omega)]; exact h1, by rw [hj (o + 1) (by omega) (by omega)]; exact h2, ?_, g6 w' S x vl2 vk2 (fun q e1 e2 e3 => hk q (by omega) e2 e3) hj c0 c1 hx (fun q e1 e2 => hS q (by omega) e2)⟩
    exact UT.treeV (fun q e1 e2 => hS q (by omega) (by omega)) (UT.carry (fun q e1 e2 _ => hk q (.inr ⟨by omega, by omega⟩) (fun e => h5 ⟨by omega, by omega⟩) (by omega)) h4)

/-- A node at a path of a tree that shares nothing: where it lies, and what becomes of the tree if it turns. -/
structure Spot (w : World) (B o lo hi : Nat) (t : Tr) (p : List Int) (b' o' lo' hi' : Nat) (x : Tr) : Prop where
  at' : t.at? p = some x
  tree : ∃ vl vk, w.cell? ⟨b', o', none⟩ = some vl ∧ w.cell? ⟨b', o' + 1, none⟩ = some vk ∧ UT w x lo' hi' vl vk
  low : lo ≤ lo'
  high : hi' ≤ hi
  out : ¬ (lo' ≤ b' ∧ b' < hi')
  blk : b' = B ∨ (lo ≤ b' ∧ b' < hi)
  free : ∀ j, w.frozen? ⟨b', j, none⟩ = false
  put : ∀ (w' : World) (S : Nat → Prop) (nx : Tr) vl vk, (∀ k, k = B ∨ lo ≤ k ∧ k < hi → ¬ (k = b' ∨ lo' ≤ k ∧ k < hi') → w'.heap[k]? = w.heap[k]?) → (∀ j, j ≠ o' → j ≠ o' + 1 → w'.cell? ⟨b', j, none⟩ = w.cell? ⟨b', j, none⟩) →
    w'.cell? ⟨b', o', none⟩ = some vl → w'.cell? ⟨b', o' + 1, none⟩ = some vk → TreeV S w' nx vl vk → (∀ k, lo ≤ k → k < hi → S k) →
    ∃ vl3 vk3, w'.cell? ⟨B, o, none⟩ = some vl3 ∧ w'.cell? ⟨B, o + 1, none⟩ = some vk3 ∧ TreeV S w' (t.setAt p nx) vl3 vk3
theorem Spot.top {w : World} {B o lo hi : Nat} {t : Tr} {vl vk : Value} (c0 : w.cell? ⟨B, o, none⟩ = some vl) (c1 : w.cell? ⟨B, o + 1, none⟩ = some vk) (h : UT w t lo hi vl vk) (hB : ¬ (lo ≤ B ∧ B < hi)) (hf : ∀ j, w.frozen? ⟨B, j, none⟩ = false) : Spot w B o lo hi t [] B o lo hi t :=
  ⟨rfl, ⟨vl, vk, c0, c1, h⟩, Nat.le_refl _, Nat.le_refl _, hB, .inl rfl, hf, fun _ _ _ vl vk _ _ a b c _ => ⟨vl, vk, a, b, c⟩⟩
/-- One step down. -/
theorem Spot.step {w : World} {B o lo hi : Nat} {t : Tr} {p : List Int} {b' o' lo' hi' : Nat} {l : ByteArray} {ks : List Tr} (h : Spot w B o lo hi t p b' o' lo' hi' (.node l ks)) (n : Nat) (hn : n < ks.length) :
    ∃ oa cap b2 o2 lo2 hi2, w.cell? ⟨b', o', none⟩ = some (.string l) ∧ w.cell? ⟨b', o' + 1, none⟩ = some (.slice oa ks.length cap) ∧ oa = some ⟨b2, o2, none⟩ ∧ Spot w B o lo hi t (p ++ [(n : Int)]) b2 (o2 + n * 2) lo2 hi2 ks[n] ∧ lo' ≤ lo2 ∧ hi2 ≤ hi' ∧ (lo' ≤ b2 ∧ b2 < hi') := by
  obtain ⟨vl, vk, c0, c1, h1, h2, oa, cap, b, o2, h3, hc, h4, h5⟩ := h.tree
  obtain ⟨rfl, hl⟩ := h1
  subst h3
  have hne : ks ≠ [] := by intro e; subst e; simp at hn
  obtain ⟨rfl, hb, hf⟩ := h4 hne
  obtain ⟨ul, uk, lo2, hi2, g1, g2, g3, g4, g5, g6⟩ := h5.get h2 n hn
  have hlow := h.low
  have hhigh := h.high
  have hle := g4.le
  have hout := h.out
  have hbb : b ≠ b' := by rintro rfl; exact hout hb
  refine ⟨_, cap, b, o2, lo2, hi2, c0, c1, rfl, ⟨?_, ⟨ul, uk, g1, g2, g4⟩, by omega, by omega, g5, .inr ⟨by omega, by omega⟩, hf, ?_⟩, g3.1, g3.2, hb⟩
  · rw [Tr.at?_append, h.at']
    show (Tr.node l ks).at? [(n : Int)] = _
    simp only [Tr.at?, Tr.kid?_in l ks hn]; rfl
  · intro w' S nx vl2 vk2 hk hj d0 d1 hx hS
    rw [Tr.setAt_append t p [(n : Int)] nx _ h.at']
    have hb' : w'.heap[b']? = w.heap[b']? := hk b' h.blk (fun e => by
      rcases e with e | e
      · exact hbb e.symm
      · exact hout ⟨by omega, by omega⟩)
    have hk2 : KidsAt S w' (ks.set n nx) b o2 := g6 w' S nx vl2 vk2 (fun k e1 e2 e3 => hk k (.inr (by omega)) (fun e => by omega)) hj d0 d1 hx (fun k e1 e2 => hS k (by omega) (by omega))
    refine h.put w' S ((Tr.node l ks).setAt [(n : Int)] nx) (.string l) (.slice (some ⟨b, o2, none⟩) ks.length cap) (fun k e1 e2 => hk k e1 (fun e => by omega)) (fun j _ _ => World.cell?_of_block hb') (by rw [World.cell?_of_block hb']; exact c0) (by rw [World.cell?_of_block hb']; exact c1) ?_ hS
    rw [Tr.setAt_node]
    refine ⟨⟨rfl, hl⟩, _, cap, b, o2, by simp, by simpa using hc, fun _ => ⟨rfl, hS b (by omega) (by omega)⟩, ?_⟩
    simpa [Tr.setAt] using hk2
/-- Where a path leads, by what the cells hold. -/
def addrAt (w : World) : Nat → Nat → List Int → Option (Nat × Nat)
  | b, o, [] => some (b, o)
  | b, o, k :: p => match w.cell? ⟨b, o + 1, none⟩ with
    | some (.slice (some ⟨b2, o2, none⟩) _ _) => addrAt w b2 (o2 + k.toNat * 2) p
    | _ => none
theorem addrAt_append (w : World) : ∀ (p q : List Int) (b o b' o' : Nat), addrAt w b o p = some (b', o') → addrAt w b o (p ++ q) = addrAt w b' o' q
  | [], q, b, o, b', o', h => by cases h; rfl
  | k :: p, q, b, o, b', o', h => by
    simp only [addrAt, List.cons_append] at h ⊢
    split at h
    · exact addrAt_append w p q _ _ _ _ h
    · cases h
theorem Spot.cells {w : World} {B o lo hi : Nat} {t : Tr} {p : List Int} {b' o' lo' hi' : Nat} {l : ByteArray} {ks : List Tr} (h : Spot w B o lo hi t p b' o' lo' hi' (.node l ks)) :
    ∃ oa cap, w.cell? ⟨b', o', none⟩ = some (.string l) ∧ w.cell? ⟨b', o' + 1, none⟩ = some (.slice oa ks.length cap) ∧ Kids (fun k => lo' ≤ k ∧ k < hi') w ks oa cap ∧ l.size ≤ maxLen := by
  obtain ⟨vl, vk, c0, c1, hx⟩ := h.tree
  obtain ⟨⟨rfl, hl⟩, oa, cap, rfl, hk⟩ := treeV_iff.1 (UT.treeV (S := fun k => lo' ≤ k ∧ k < hi') (fun k a b => ⟨a, b⟩) hx)
  exact ⟨oa, cap, c0, c1, hk, hl⟩
end Go.Proofs.Ytdbnfhpgmcjngac
