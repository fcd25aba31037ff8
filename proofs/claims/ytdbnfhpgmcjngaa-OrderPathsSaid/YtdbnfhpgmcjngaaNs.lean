/- How a tree's nodes stand: what is beneath a node, its parent, its path. No program here. -/
import Derived.Test.YtdbnfhpgmcjngaaNv
import Derived.Test.YtdbnfhpgmcjngaaFn
import Derived.Test.YtdbnfhpgmcjngaaNq
namespace Go.Proofs.Ytdbnfhpgmcjngaa

/-- Nodes from the number p on, of trees whose roots have the parent par. -/
def ParP (p : Nat) (par : Int) (L : List Nd) : Prop := ∀ k (h : k < L.length),
  (L[k].par = par ∧ ∀ j (hj : j < L.length), k < j → ((p + k : Nat) : Int) < L[j].left) ∨
  (∃ m, ∃ hm : m < L.length, k < m ∧ L[k].par = ((p + m : Nat) : Int) ∧ L[m].left ≤ L[k].left ∧ ∀ j (hj : j < L.length), k < j → j < m → ((p + k : Nat) : Int) < L[j].left)
theorem ParP.nil (p : Nat) (par : Int) : ParP p par [] := fun _ h => absurd h (Nat.not_lt_zero _)
theorem ParP.append {p : Nat} {par : Int} {A B : List Nd} (ha : ParP p par A) (hb : ParP (p + A.length) par B) (fb : FitP (p + A.length) B) : ParP p par (A ++ B) := by
  intro k h
  by_cases hk : k < A.length
  · rcases ha k hk with ⟨h1, h2⟩ | ⟨m, hm, h1, h2, h3, h4⟩
    · left
      rw [List.getElem_append_left hk]
      refine ⟨h1, fun j hj hkj => ?_⟩
      by_cases hja : j < A.length
      · rw [List.getElem_append_left hja]; exact h2 j hja hkj
      · rw [List.getElem_append_right (by omega)]
        have := (fb (j - A.length) (by rw [List.length_append] at hj; omega)).1
        omega
    · right
      refine ⟨m, by rw [List.length_append]; omega, h1, ?_, ?_, fun j hj hkj hjm => ?_⟩
      · rw [List.getElem_append_left hk]; exact h2
      · rw [List.getElem_append_left hk, List.getElem_append_left hm]; exact h3
      · rw [List.getElem_append_left (by omega)]; exact h4 j (by omega) hkj hjm
  · rw [List.length_append] at h
    rcases hb (k - A.length) (by omega) with ⟨h1, h2⟩ | ⟨m, hm, h1, h2, h3, h4⟩
    · left
      rw [List.getElem_append_right (by omega)]
      refine ⟨h1, fun j hj hkj => ?_⟩
      rw [List.getElem_append_right (by omega)]
      rw [List.length_append] at hj
      have := h2 (j - A.length) (by omega) (by omega)
      omega
    · right
      refine ⟨A.length + m, by rw [List.length_append]; omega, by omega, ?_, ?_, fun j hj hkj hjm => ?_⟩
      · rw [List.getElem_append_right (by omega), h2]; omega
      · rw [List.getElem_append_right (by omega), List.getElem_append_right (by omega)]
        simp only [Nat.add_sub_cancel_left]; exact h3
      · rw [List.getElem_append_right (by omega)]
        have := h4 (j - A.length) (by omega) (by omega) (by omega)
        omega
theorem ParP.root {p : Nat} {A : List Nd} (ha : ParP p ((p + A.length : Nat) : Int) A) (fa : FitP p A) (l : ByteArray) (par : Int) : ParP p par (A ++ [⟨l, par, (p : Int)⟩]) := by
  intro k h
  have hroot : ∀ (h : A.length < (A ++ [(⟨l, par, (p : Int)⟩ : Nd)]).length), (A ++ [(⟨l, par, (p : Int)⟩ : Nd)])[A.length] = ⟨l, par, (p : Int)⟩ := fun h => by
    rw [List.getElem_append_right (Nat.le_refl _)]; simp
  by_cases hk : k < A.length
  · right
    rcases ha k hk with ⟨h1, h2⟩ | ⟨m, hm, h1, h2, h3, h4⟩
    · refine ⟨A.length, by simp, hk, ?_, ?_, fun j hj hkj hjm => ?_⟩
      · rw [List.getElem_append_left hk]; exact h1
      · rw [hroot, List.getElem_append_left hk]; exact (fa k hk).1
      · rw [List.getElem_append_left hjm]; exact h2 j hjm hkj
    · refine ⟨m, by simp; omega, h1, ?_, ?_, fun j hj hkj hjm => ?_⟩
      · rw [List.getElem_append_left hk]; exact h2
      · rw [List.getElem_append_left hk, List.getElem_append_left hm]; exact h3
      · rw [List.getElem_append_left (by omega)]; exact h4 j (by omega) hkj hjm
  · simp only [List.length_append, List.length_singleton] at h
    obtain rfl : k = A.length := by omega
    left
    rw [hroot]
    exact ⟨rfl, fun j hj hkj => by simp only [List.length_append, List.length_singleton] at hj; omega⟩
mutual
theorem parT : ∀ (t : Tr) (p : Nat) (par : Int), ParP p par (ndsT p par t)
  | .node l ks, p, par => by
    rw [ndsT]
    exact ParP.root (by rw [ndsF_length]; exact parF ks p _) (fitF ks p _) l par
theorem parF : ∀ (ks : List Tr) (p : Nat) (par : Int), ParP p par (ndsF p par ks)
  | [], p, par => by rw [ndsF]; exact ParP.nil p par
  | k :: ks, p, par => by
    rw [ndsF]
    exact (parT k p par).append (by rw [ndsT_length]; exact parF ks _ par) (by rw [ndsT_length]; exact fitF ks _ par)
end

/-- Of a tree's nodes: the parent. -/
theorem nds_par (t : Tr) (k : Nat) (h : k < (nds t).length) : ((nds t)[k].par = -1 ∧ k = t.sz - 1) ∨
    (∃ m, ∃ hm : m < (nds t).length, k < m ∧ (nds t)[k].par = (m : Int) ∧ (nds t)[m].left ≤ (nds t)[k].left ∧ ∀ j (hj : j < (nds t).length), k < j → j < m → (k : Int) < (nds t)[j].left) := by
  rcases parT t 0 (-1) k h with ⟨h1, h2⟩ | ⟨m, hm, h1, h2, h3, h4⟩
  · left
    refine ⟨h1, ?_⟩
    have hl := nds_length t
    by_cases he : k = t.sz - 1
    · exact he
    · have h0 := h2 (t.sz - 1) (by show _ < (nds t).length; omega) (by omega)
      have hf := (fit_nds t).left (t.sz - 1) (by omega)
      rw [show lfN (nds t) (t.sz - 1) = 0 from by
        cases t with | node l ks => rw [Tr.sz_node, Nat.add_sub_cancel]; unfold lfN; rw [nds_root]; simp] at hf
      have h0' : ((0 + k : Nat) : Int) < (nds t)[t.sz - 1].left := h0
      omega
  · right
    simp only [Nat.zero_add] at h2 h4
    exact ⟨m, hm, h1, h2, h3, h4⟩

/-- Does k stand beneath n, or is it n? -/
def ben (l : List Nd) (n : Nat) (k : Int) : Bool := decide (0 ≤ k ∧ (lfN l n : Int) ≤ k ∧ k ≤ (n : Int))
theorem ben_self (l : List Nd) (n : Nat) : ben l n (n : Int) = true := by
  unfold ben; have := lfN_le l n; simp; omega
theorem ben_neg (l : List Nd) (n : Nat) {k : Int} (h : k < 0) : ben l n k = false := by unfold ben; simp; omega
/-- It does just if its parent does. -/
theorem ben_up (t : Tr) (n k : Nat) (hn : n < (nds t).length) (hk : k < (nds t).length) (hne : k ≠ n) : ben (nds t) n k = ben (nds t) n (nds t)[k].par := by
  have hf := fit_nds t
  have hln := hf.left n hn
  have hlk := hf.left k hk
  have hlk2 := lfN_le (nds t) k
  have hsz := nds_length t
  rw [Bool.eq_iff_iff]
  unfold ben
  simp only [decide_eq_true_eq]
  rcases nds_par t k hk with ⟨h1, h2⟩ | ⟨m, hm, h1, h2, h3, h4⟩
  · rw [h1]
    constructor
    · rintro ⟨_, h4, h5⟩; omega
    · rintro ⟨h3, _⟩; omega
  · rw [h2]
    have hlm := hf.left m hm
    constructor
    · rintro ⟨_, h5, h6⟩
      by_cases hmn : m ≤ n
      · omega
      · have := h4 n hn (by omega) (by omega)
        omega
    · rintro ⟨_, h5, h6⟩
      have := hf.nest n m hn (by omega) (by omega)
      omega

/-- A tree stands at its node's path. -/
theorem at_pathT : ∀ (t : Tr) (p : Nat) (par : Int) (n : Nat) (h : n < (ndsT p par t).length), ∃ x, t.at? (pathT t n) = some x ∧ x.label = (ndsT p par t)[n].lab ∧ (x.sz : Int) = ((p + n : Nat) : Int) - (ndsT p par t)[n].left + 1 := by
  intro t
  induction t using Tr.ind with
  | _ l ks ih =>
  intro p par n h
  have hlen := ndsT_length (.node l ks) p par
  rw [Tr.sz_node] at hlen
  have hgen : ndsT p par (.node l ks) = ndsF p ((p + Tr.szL ks : Nat) : Int) ks ++ [⟨l, par, (p : Int)⟩] := by rw [ndsT]
  by_cases hr : n = Tr.szL ks
  · subst hr
    have hg : (ndsT p par (.node l ks))[Tr.szL ks] = ⟨l, par, (p : Int)⟩ := by
      have : (ndsT p par (.node l ks))[Tr.szL ks]? = some ⟨l, par, (p : Int)⟩ := by
        rw [hgen, List.getElem?_append_right (by rw [ndsF_length]; omega), ndsF_length]; simp
      rw [List.getElem?_eq_getElem h] at this
      simpa using this
    rw [hg]
    refine ⟨.node l ks, ?_, rfl, ?_⟩
    · rw [pathT, pathF_out ks 0 _ (Nat.le_refl _)]; simp [Tr.at?]
    · rw [Tr.sz_node]; simp only; omega
  · have hn : n < Tr.szL ks := by omega
    obtain ⟨j, hj, h1, h2⟩ : ∃ j, ∃ hj : j < ks.length, Tr.szL (ks.take j) ≤ n ∧ n < Tr.szL (ks.take j) + ks[j].sz := by
      have : ∀ i, i ≤ ks.length → n < Tr.szL (ks.take i) → ∃ j, ∃ hj : j < ks.length, Tr.szL (ks.take j) ≤ n ∧ n < Tr.szL (ks.take j) + ks[j].sz := by
        intro i
        induction i with
        | zero => intro _ h; simp at h
        | succ i ihi =>
          intro hi h
          by_cases hc : n < Tr.szL (ks.take i)
          · exact ihi (by omega) hc
          · exact ⟨i, by omega, by omega, by rw [← Tr.szL_take_succ ks i (by omega)]; exact h⟩
      exact this ks.length (Nat.le_refl _) (by rw [List.take_length]; exact hn)
    have hlj := ndsT_length ks[j] (p + Tr.szL (ks.take j)) ((p + Tr.szL ks : Nat) : Int)
    obtain ⟨x, hx1, hx2, hx3⟩ := ih ks[j] (List.getElem_mem hj) (p + Tr.szL (ks.take j)) ((p + Tr.szL ks : Nat) : Int) (n - Tr.szL (ks.take j)) (by omega)
    have hg : (ndsT p par (.node l ks))[n] = (ndsT (p + Tr.szL (ks.take j)) ((p + Tr.szL ks : Nat) : Int) ks[j])[n - Tr.szL (ks.take j)]'(by omega) := by
      have hsplit : ks = ks.take j ++ (ks[j] :: ks.drop (j + 1)) := by rw [List.getElem_cons_drop, List.take_append_drop]
      have hF : ndsF p ((p + Tr.szL ks : Nat) : Int) ks = ndsF p ((p + Tr.szL ks : Nat) : Int) (ks.take j) ++ (ndsT (p + Tr.szL (ks.take j)) ((p + Tr.szL ks : Nat) : Int) ks[j] ++ ndsF (p + Tr.szL (ks.take j) + ks[j].sz) ((p + Tr.szL ks : Nat) : Int) (ks.drop (j + 1))) := by
        rw [← ndsF, ← ndsF_append, ← hsplit]
      have : (ndsT p par (.node l ks))[n]? = (ndsT (p + Tr.szL (ks.take j)) ((p + Tr.szL ks : Nat) : Int) ks[j])[n - Tr.szL (ks.take j)]? := by
        rw [hgen, List.getElem?_append_left (by rw [ndsF_length]; omega), hF, List.getElem?_append_right (by rw [ndsF_length]; omega), ndsF_length, List.getElem?_append_left (by omega)]
      rw [List.getElem?_eq_getElem h, List.getElem?_eq_getElem (by omega)] at this
      simpa using this
    rw [hg]
    refine ⟨x, ?_, hx2, by omega⟩
    rw [pathT, pathF_hit ks j n hj h1 h2, Tr.at?, Tr.kid?_in l ks hj]
    exact hx1

/-- One path stands ahead of another one: further left, or beneath. -/
def Ahead : List Int → List Int → Prop
  | [], _ => False
  | _ :: _, [] => True
  | a :: p, b :: q => a < b ∨ (a = b ∧ Ahead p q)
theorem Ahead.ne : ∀ {p q : List Int}, Ahead p q → p ≠ q
  | [], _, h => h.elim
  | _ :: _, [], _ => by simp
  | a :: p, b :: q, h => by
    rcases h with h | ⟨rfl, h⟩
    · intro e; cases e; omega
    · intro e; cases e; exact h.ne rfl
theorem find_kid (ks : List Tr) (n : Nat) (hn : n < Tr.szL ks) : ∃ j, ∃ hj : j < ks.length, Tr.szL (ks.take j) ≤ n ∧ n < Tr.szL (ks.take j) + ks[j].sz := by
  have : ∀ i, i ≤ ks.length → n < Tr.szL (ks.take i) → ∃ j, ∃ hj : j < ks.length, Tr.szL (ks.take j) ≤ n ∧ n < Tr.szL (ks.take j) + ks[j].sz := by
    intro i
    induction i with
    | zero => intro _ h; simp at h
    | succ i ihi =>
      intro hi h
      by_cases hc : n < Tr.szL (ks.take i)
      · exact ihi (by omega) hc
      · exact ⟨i, by omega, by omega, by rw [← Tr.szL_take_succ ks i (by omega)]; exact h⟩
  exact this ks.length (Nat.le_refl _) (by rw [List.take_length]; exact hn)
theorem szL_take_mono (ks : List Tr) : ∀ {i j : Nat}, i ≤ j → Tr.szL (ks.take i) ≤ Tr.szL (ks.take j) := by
  intro i j h
  have := Tr.szL_take_le (ks.take j) i
  rwa [List.take_take, Nat.min_eq_left h] at this
theorem ahead_pathT : ∀ (t : Tr) (n m : Nat), n < m → m < t.sz → Ahead (pathT t n) (pathT t m) := by
  intro t
  induction t using Tr.ind with
  | _ l ks ih =>
  intro n m hnm hm
  rw [Tr.sz_node] at hm
  obtain ⟨i, hi, i1, i2⟩ := find_kid ks n (by omega)
  by_cases hr : m = Tr.szL ks
  · subst hr
    rw [pathT, pathT, pathF_out ks 0 _ (Nat.le_refl _), pathF_hit ks i n hi i1 i2]
    trivial
  · obtain ⟨j, hj, j1, j2⟩ := find_kid ks m (by omega)
    rw [pathT, pathT, pathF_hit ks i n hi i1 i2, pathF_hit ks j m hj j1 j2]
    rcases Nat.lt_trichotomy i j with h | h | h
    · left; omega
    · subst h
      right
      exact ⟨rfl, ih ks[i] (List.getElem_mem hi) _ _ (by omega) (by omega)⟩
    · have := szL_take_mono ks (show j + 1 ≤ i from h)
      rw [Tr.szL_take_succ ks j hj] at this
      omega
theorem pathT_inj (t : Tr) (n m : Nat) (hn : n < t.sz) (hm : m < t.sz) : decide (n = m) = decide (pathT t n = pathT t m) := by
  rcases Nat.lt_trichotomy n m with h | h | h
  · have := (ahead_pathT t n m h hm).ne
    simp [this]; omega
  · subst h; simp
  · have := (ahead_pathT t m n h hn).ne
    have h2 : ¬ pathT t n = pathT t m := fun e => this e.symm
    simp [h2]; omega
end Go.Proofs.Ytdbnfhpgmcjngaa
