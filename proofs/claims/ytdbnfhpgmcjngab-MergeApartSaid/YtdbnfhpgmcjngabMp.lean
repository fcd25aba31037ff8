/- Plain: what two made of one. No program here. -/
import Derived.Test.YtdbnfhpgmcjngabMc
import Derived.Test.YtdbnfhpgmcjngabDp
namespace Go.Proofs.Ytdbnfhpgmcjngab

/-- What was made; or the path of the node at which it clashes. -/
abbrev Ex (α : Type) := Except (List Int) α
/-- Of labels; none: they clash. -/
def mixL (o a b : ByteArray) : Option ByteArray := if a = b ∨ b = o then some a else if a = o then some b else none
/-- Kid by kid, by their numbers in the first one. -/
def zipM (f : Tr → Tr → Tr → Ex Tr) : List Tr → List Tr → List Tr → Nat → Ex (List Tr)
  | o :: os, a :: as, b :: bs, n => match f o a b with
    | .error p => .error ((n : Int) :: p)
    | .ok t => match zipM f os as bs (n + 1) with
      | .error p => .error p
      | .ok ts => .ok (t :: ts)
  | _, _, _, _ => .ok []
/-- Kids between two that all have. -/
def partM (f : Tr → Tr → Tr → Ex Tr) (o a b : List Tr) (n : Nat) : Ex (List Tr) :=
  if (Tr.beqL a o || Tr.beqL a b) = true then .ok b
  else if Tr.beqL b o = true then .ok a
  else if a.length ≠ o.length ∨ b.length ≠ o.length then .error []
  else zipM f o a b n
/-- Those that all three have. -/
def held (x y : List (Nat × Nat)) : List (Nat × Nat × Nat) := x.flatMap fun p => (y.filter fun q => p.1 == q.1).map fun q => (p.1, p.2, q.2)
/-- Between these. -/
def segM (f : Tr → Tr → Tr → Ex Tr) (o a b : List Tr) : List (Nat × Nat × Nat) → Nat → Nat → Nat → Ex (List Tr)
  | [], i, j, k => partM f (o.drop i) (a.drop j) (b.drop k) i
  | h :: H, i, j, k => match partM f ((o.drop i).take (h.1 - i)) ((a.drop j).take (h.2.1 - j)) ((b.drop k).take (h.2.2 - k)) i with
    | .error e => .error e
    | .ok s => match segM f o a b H (h.1 + 1) (h.2.1 + 1) (h.2.2 + 1) with
      | .error e => .error e
      | .ok r => .ok (s ++ kidN o h.1 :: r)
def heldT (o a b : Tr) : List (Nat × Nat × Nat) := held (common o.kids a.kids) (common o.kids b.kids)
/-- What two made of one tree. -/
def mixT : Nat → Tr → Tr → Tr → Ex Tr
  | 0, _, _, _ => .error []
  | N + 1, o, a, b =>
    if (a.beq b || b.beq o) = true then .ok a
    else if a.beq o = true then .ok b
    else match mixL o.label a.label b.label with
      | none => .error []
      | some l => match segM (mixT N) o.kids a.kids b.kids (heldT o a b) 0 0 0 with
        | .error e => .error e
        | .ok ks => .ok (.node l ks)
theorem mixT_same (N : Nat) (o a b : Tr) (h : (a.beq b || b.beq o) = true) : mixT (N + 1) o a b = .ok a := by rw [mixT, if_pos h]
theorem mixT_left (N : Nat) (o a b : Tr) (h : ¬ (a.beq b || b.beq o) = true) (h1 : a.beq o = true) : mixT (N + 1) o a b = .ok b := by rw [mixT, if_neg h, if_pos h1]
theorem mixT_lab (N : Nat) (o a b : Tr) (h : ¬ (a.beq b || b.beq o) = true) (h1 : ¬ a.beq o = true) (h2 : mixL o.label a.label b.label = none) : mixT (N + 1) o a b = .error [] := by rw [mixT, if_neg h, if_neg h1, h2]
theorem mixT_err (N : Nat) (o a b : Tr) (h : ¬ (a.beq b || b.beq o) = true) (h1 : ¬ a.beq o = true) {l : ByteArray} (h2 : mixL o.label a.label b.label = some l) {e : List Int}
    (h3 : segM (mixT N) o.kids a.kids b.kids (heldT o a b) 0 0 0 = .error e) : mixT (N + 1) o a b = .error e := by rw [mixT, if_neg h, if_neg h1, h2, h3]
theorem mixT_ok (N : Nat) (o a b : Tr) (h : ¬ (a.beq b || b.beq o) = true) (h1 : ¬ a.beq o = true) {l : ByteArray} (h2 : mixL o.label a.label b.label = some l) {ks : List Tr}
    (h3 : segM (mixT N) o.kids a.kids b.kids (heldT o a b) 0 0 0 = .ok ks) : mixT (N + 1) o a b = .ok (.node l ks) := by rw [mixT, if_neg h, if_neg h1, h2, h3]

/-- Two rising lists of the same are one. -/
theorem rise_eq {α : Type} (key : α → Nat) : ∀ (l m : List α), l.Pairwise (fun p q => key p < key q) → m.Pairwise (fun p q => key p < key q) → (∀ x, x ∈ l ↔ x ∈ m) → l = m
  | [], [], _, _, _ => rfl
  | [], y :: m, _, _, h => by have := (h y).2 (by simp); cases this
  | x :: l, [], _, _, h => by have := (h x).1 (by simp); cases this
  | x :: l, y :: m, hl, hm, h => by
    rw [List.pairwise_cons] at hl hm
    have e : x = y := by
      rcases List.mem_cons.1 ((h x).1 (by simp)) with e | e
      · exact e
      · rcases List.mem_cons.1 ((h y).2 (by simp)) with e2 | e2
        · exact e2.symm
        · have := hm.1 x e; have := hl.1 y e2; omega
    subst e
    congr 1
    refine rise_eq key l m hl.2 hm.2 fun z => ⟨fun hz => ?_, fun hz => ?_⟩
    · rcases List.mem_cons.1 ((h z).1 (List.mem_cons_of_mem _ hz)) with e | e
      · subst e; have := hl.1 z hz; omega
      · exact e
    · rcases List.mem_cons.1 ((h z).2 (List.mem_cons_of_mem _ hz)) with e | e
      · subst e; have := hm.1 z hz; omega
      · exact e
abbrev Rise (l : List (Nat × Nat)) : Prop := l.Pairwise fun p q => p.1 < q.1 ∧ p.2 < q.2
theorem Rise.one {l : List (Nat × Nat)} (h : Rise l) {n p q : Nat} (h1 : (n, p) ∈ l) (h2 : (n, q) ∈ l) : p = q := by
  induction l with
  | nil => cases h1
  | cons x l ih =>
    rw [Rise, List.pairwise_cons] at h
    rcases List.mem_cons.1 h1 with e1 | e1 <;> rcases List.mem_cons.1 h2 with e2 | e2
    · rw [← e1] at e2; cases e2; rfl
    · have := (h.1 _ e2).1; rw [← e1] at this; simp only [] at this; omega
    · have := (h.1 _ e1).1; rw [← e2] at this; simp only [] at this; omega
    · exact ih h.2 e1 e2
theorem mem_held {x y : List (Nat × Nat)} {n p q : Nat} : (n, p, q) ∈ held x y ↔ (n, p) ∈ x ∧ (n, q) ∈ y := by
  simp only [held, List.mem_flatMap, List.mem_map, List.mem_filter, beq_iff_eq, Prod.mk.injEq, Prod.exists]
  constructor
  · rintro ⟨a, b, hx, c, d, ⟨hy, e⟩, rfl, rfl, rfl⟩
    subst e; exact ⟨hx, hy⟩
  · rintro ⟨hx, hy⟩; exact ⟨n, p, hx, n, q, ⟨hy, rfl⟩, rfl, rfl, rfl⟩
theorem held_rise {x y : List (Nat × Nat)} (hx : Rise x) (hy : Rise y) : (held x y).Pairwise fun p q => p.1 < q.1 ∧ p.2.1 < q.2.1 ∧ p.2.2 < q.2.2 := by
  induction x with
  | nil => exact List.Pairwise.nil
  | cons p x ih =>
    rw [Rise, List.pairwise_cons] at hx
    rw [held, List.flatMap_cons, List.pairwise_append]
    refine ⟨?_, ih hx.2, ?_⟩
    · rw [List.pairwise_map]
      refine List.Pairwise.imp_of_mem ?_ (List.Pairwise.filter _ hy)
      intro a b ha hb hab
      simp only [List.mem_filter, beq_iff_eq] at ha hb
      omega
    · rintro ⟨a1, a2, a3⟩ ha ⟨b1, b2, b3⟩ hb
      simp only [List.mem_map, List.mem_filter, beq_iff_eq, Prod.mk.injEq, Prod.exists] at ha
      obtain ⟨c, d, ⟨hc, e⟩, rfl, rfl, rfl⟩ := ha
      obtain ⟨g1, g2⟩ := mem_held.1 hb
      have h1 := hx.1 _ g1
      simp only [] at h1 e ⊢
      refine ⟨h1.1, h1.2, ?_⟩
      have := List.pairwise_iff_getElem.1 hy
      obtain ⟨i, hi, ei⟩ := List.getElem_of_mem hc
      obtain ⟨j, hj, ej⟩ := List.getElem_of_mem g2
      by_cases hij : i < j
      · have := (this i j hi hj hij).2; rw [ei, ej] at this; exact this
      · by_cases hji : j < i
        · have := (this j i hj hi hji).1; rw [ei, ej] at this; simp only [] at this; omega
        · obtain rfl : i = j := by omega
          rw [ei] at ej; cases ej; omega
/-- The one that begins at n, and those behind it. -/
theorem rise_next {l : List (Nat × Nat × Nat)} (hl : l.Pairwise fun p q => p.1 < q.1 ∧ p.2.1 < q.2.1 ∧ p.2.2 < q.2.2) {n p q : Nat} (h : (n, p, q) ∈ l) :
    l.filter (fun x => decide (n ≤ x.1)) = (n, p, q) :: l.filter (fun x => decide (n + 1 ≤ x.1)) := by
  have hl' : l.Pairwise fun p q => p.1 < q.1 := hl.imp fun h => h.1
  refine rise_eq (fun x => x.1) _ _ (List.Pairwise.filter _ hl') (List.pairwise_cons.2 ⟨fun a ha => ?_, List.Pairwise.filter _ hl'⟩) fun x => ?_
  · simp only [List.mem_filter, decide_eq_true_eq] at ha; simp only []; omega
  · simp only [List.mem_filter, decide_eq_true_eq, List.mem_cons]
    constructor
    · rintro ⟨hx, hn⟩
      by_cases e : x.1 = n
      · left
        obtain ⟨i, hi, ei⟩ := List.getElem_of_mem hx
        obtain ⟨j, hj, ej⟩ := List.getElem_of_mem h
        have hp := List.pairwise_iff_getElem.1 hl'
        by_cases hij : i < j
        · have := hp i j hi hj hij; rw [ei, ej] at this; simp only [] at this; omega
        · by_cases hji : j < i
          · have := hp j i hj hi hji; rw [ei, ej] at this; simp only [] at this; omega
          · obtain rfl : i = j := by omega
            rw [ei] at ej; exact ej
      · right; exact ⟨hx, by omega⟩
    · rintro (rfl | ⟨hx, hn⟩)
      · exact ⟨h, Nat.le_refl _⟩
      · exact ⟨hx, by omega⟩
theorem rise_skip {l : List (Nat × Nat × Nat)} {n : Nat} (h : ∀ p q, (n, p, q) ∉ l) : l.filter (fun x => decide (n ≤ x.1)) = l.filter (fun x => decide (n + 1 ≤ x.1)) := by
  refine List.filter_congr fun x hx => ?_
  have : x.1 ≠ n := fun e => h x.2.1 x.2.2 (by rw [← e]; exact hx)
  simp only [decide_eq_decide]; omega
theorem held_swap {x y : List (Nat × Nat)} (hx : Rise x) (hy : Rise y) : held y x = (held x y).map fun h => (h.1, h.2.2, h.2.1) := by
  refine rise_eq (fun x => x.1) _ _ ((held_rise hy hx).imp fun h => h.1) ?_ ?_
  · rw [List.pairwise_map]; exact (held_rise hx hy).imp fun h => h.1
  · rintro ⟨n, p, q⟩
    rw [mem_held, List.mem_map]
    constructor
    · rintro ⟨h1, h2⟩; exact ⟨(n, q, p), mem_held.2 ⟨h2, h1⟩, rfl⟩
    · rintro ⟨⟨a, b, c⟩, h1, h2⟩
      simp only [Prod.mk.injEq] at h2
      obtain ⟨rfl, rfl, rfl⟩ := h2
      have := mem_held.1 h1; exact ⟨this.2, this.1⟩

/-- Who is named first does not matter. -/
theorem zipM_swap {f g : Tr → Tr → Tr → Ex Tr} (hf : ∀ o a b, f o a b = g o b a) : ∀ (o a b : List Tr) (n : Nat), zipM f o a b n = zipM g o b a n
  | [], a, b, n => by simp [zipM]
  | o :: os, [], [], n => by simp [zipM]
  | o :: os, [], b :: bs, n => by simp [zipM]
  | o :: os, a :: as, [], n => by simp [zipM]
  | o :: os, a :: as, b :: bs, n => by simp only [zipM]; rw [hf o a b, zipM_swap hf os as bs (n + 1)]
theorem partM_swap {f g : Tr → Tr → Tr → Ex Tr} (hf : ∀ o a b, f o a b = g o b a) (o a b : List Tr) (n : Nat) : partM f o a b n = partM g o b a n := by
  unfold partM
  rw [zipM_swap hf o a b n, Tr.beqL_comm b a]
  by_cases h1 : a = o
  · subst h1
    rw [(Tr.beqL_iff a a).2 rfl]
    by_cases h2 : b = a
    · subst h2; simp
    · have e1 : Tr.beqL b a = false := by rw [Bool.eq_false_iff]; exact fun e => h2 ((Tr.beqL_iff _ _).1 e)
      have e2 : Tr.beqL a b = false := by rw [Tr.beqL_comm]; exact e1
      simp [e1, e2]
  · have e1 : Tr.beqL a o = false := by rw [Bool.eq_false_iff]; exact fun e => h1 ((Tr.beqL_iff _ _).1 e)
    by_cases h2 : a = b
    · subst h2; simp [(Tr.beqL_iff a a).2 rfl, e1]
    · have e2 : Tr.beqL a b = false := by rw [Bool.eq_false_iff]; exact fun e => h2 ((Tr.beqL_iff _ _).1 e)
      by_cases h3 : b = o
      · subst h3; simp [(Tr.beqL_iff b b).2 rfl, e1]
      · have e3 : Tr.beqL b o = false := by rw [Bool.eq_false_iff]; exact fun e => h3 ((Tr.beqL_iff _ _).1 e)
        simp only [e1, e2, e3, Bool.or_false, Bool.false_eq_true, if_false]
        by_cases h4 : a.length ≠ o.length ∨ b.length ≠ o.length
        · rw [if_pos h4, if_pos h4.symm]
        · rw [if_neg h4, if_neg (fun e => h4 e.symm)]
theorem segM_swap {f g : Tr → Tr → Tr → Ex Tr} (hf : ∀ o a b, f o a b = g o b a) (o a b : List Tr) : ∀ (H : List (Nat × Nat × Nat)) (i j k : Nat), segM f o a b H i j k = segM g o b a (H.map fun h => (h.1, h.2.2, h.2.1)) i k j
  | [], i, j, k => by simp only [segM, List.map_nil]; exact partM_swap hf _ _ _ _
  | h :: H, i, j, k => by simp only [segM, List.map_cons]; rw [partM_swap hf, segM_swap hf o a b H]
theorem mixL_swap (o a b : ByteArray) : mixL o a b = mixL o b a := by
  unfold mixL
  by_cases h1 : a = b
  · subst h1; rfl
  · by_cases h2 : b = o
    · subst h2
      rw [if_pos (Or.inr rfl), if_neg (by rintro (e | e); exact h1 e.symm; exact h1 e), if_pos rfl]
    · by_cases h3 : a = o
      · subst h3; rw [if_neg (by rintro (e | e); exact h1 e; exact h2 e), if_pos rfl, if_pos (Or.inr rfl)]
      · rw [if_neg (by rintro (e | e); exact h1 e; exact h2 e), if_neg h3, if_neg (by rintro (e | e); exact h1 e.symm; exact h3 e), if_neg h2]
theorem beq_no {a b : Tr} (h : a ≠ b) : a.beq b = false := by rw [Bool.eq_false_iff]; exact fun e => h ((Tr.beq_iff _ _).1 e)
theorem beq_yes (a : Tr) : a.beq a = true := (Tr.beq_iff a a).2 rfl
theorem mixT_swap : ∀ (N : Nat) (o a b : Tr), mixT N o a b = mixT N o b a
  | 0, o, a, b => rfl
  | N + 1, o, a, b => by
    by_cases h1 : a = b
    · subst h1; rfl
    · by_cases h2 : b = o
      · subst h2
        rw [mixT_same _ _ _ _ (by simp [beq_yes]), mixT_left _ _ _ _ (by simp [beq_no h1, beq_no (Ne.symm h1)]) (beq_yes b)]
      · by_cases h3 : a = o
        · subst h3
          rw [mixT_left _ _ _ _ (by simp [beq_no h1, beq_no h2]) (beq_yes a), mixT_same _ _ _ _ (by simp [beq_yes])]
        · have hw : heldT o b a = (heldT o a b).map fun h => (h.1, h.2.2, h.2.1) := held_swap (common_rise _ _) (common_rise _ _)
          have hs := segM_swap (fun o a b => mixT_swap N o a b) o.kids a.kids b.kids (heldT o a b) 0 0 0
          rw [← hw] at hs
          rw [mixT, mixT, if_neg (by simp [beq_no h1, beq_no h2]), if_neg (by simp [beq_no h3]), if_neg (by simp [beq_no (Ne.symm h1), beq_no h3]), if_neg (by simp [beq_no h2]), mixL_swap, hs]

/-- Where it clashes there is a node. -/
def HasAt (o : List Tr) (n : Nat) (p : List Int) : Prop := p = [] ∨ ∃ k q, p = ((n + k : Nat) : Int) :: q ∧ ∃ t u, o[k]? = some t ∧ t.at? q = some u
theorem zipM_path {f : Tr → Tr → Tr → Ex Tr} (hf : ∀ o a b p, f o a b = .error p → ∃ u, o.at? p = some u) : ∀ (o a b : List Tr) (n : Nat) (p : List Int), zipM f o a b n = .error p → HasAt o n p
  | [], a, b, n, p, h => by simp [zipM] at h
  | o :: os, [], b, n, p, h => by simp [zipM] at h
  | o :: os, a :: as, [], n, p, h => by simp [zipM] at h
  | o :: os, a :: as, b :: bs, n, p, h => by
    simp only [zipM] at h
    cases hx : f o a b with
    | error q =>
      rw [hx] at h
      cases h
      obtain ⟨u, hu⟩ := hf _ _ _ _ hx
      exact .inr ⟨0, q, rfl, o, u, rfl, hu⟩
    | ok t =>
      rw [hx] at h
      cases hy : zipM f os as bs (n + 1) with
      | ok ts => simp only [hy] at h; cases h
      | error q =>
        simp only [hy] at h; cases h
        rcases zipM_path hf os as bs (n + 1) p hy with rfl | ⟨k, q, rfl, t, u, h1, h2⟩
        · exact .inl rfl
        · exact .inr ⟨k + 1, q, by rw [show n + (k + 1) = n + 1 + k by omega], t, u, by simpa using h1, h2⟩
theorem partM_path {f : Tr → Tr → Tr → Ex Tr} (hf : ∀ o a b p, f o a b = .error p → ∃ u, o.at? p = some u) (o a b : List Tr) (n : Nat) (p : List Int) (h : partM f o a b n = .error p) : HasAt o n p := by
  unfold partM at h
  split at h
  · cases h
  · split at h
    · cases h
    · split at h
      · cases h; exact .inl rfl
      · exact zipM_path hf o a b n p h
theorem segM_path {f : Tr → Tr → Tr → Ex Tr} (hf : ∀ o a b p, f o a b = .error p → ∃ u, o.at? p = some u) (o a b : List Tr) : ∀ (H : List (Nat × Nat × Nat)) (i j k : Nat) (p : List Int), segM f o a b H i j k = .error p → HasAt o 0 p
  | [], i, j, k, p, h => by
    rw [segM] at h
    rcases partM_path hf _ _ _ _ _ h with rfl | ⟨m, q, rfl, t, u, h1, h2⟩
    · exact .inl rfl
    · exact .inr ⟨i + m, q, by rw [Nat.zero_add], t, u, by simpa using h1, h2⟩
  | g :: H, i, j, k, p, h => by
    rw [segM] at h
    cases hx : partM f ((o.drop i).take (g.1 - i)) ((a.drop j).take (g.2.1 - j)) ((b.drop k).take (g.2.2 - k)) i with
    | error e =>
      rw [hx] at h; cases h
      rcases partM_path hf _ _ _ _ _ hx with rfl | ⟨m, q, rfl, t, u, h1, h2⟩
      · exact .inl rfl
      · refine .inr ⟨i + m, q, by rw [Nat.zero_add], t, u, ?_, h2⟩
        rw [List.getElem?_take] at h1
        split at h1
        · simpa using h1
        · cases h1
    | ok s =>
      rw [hx] at h
      cases hy : segM f o a b H (g.1 + 1) (g.2.1 + 1) (g.2.2 + 1) with
      | error e => simp only [hy] at h; cases h; exact segM_path hf o a b H _ _ _ _ hy
      | ok r => simp only [hy] at h; cases h
theorem mixT_path : ∀ (N : Nat) (o a b : Tr) (p : List Int), mixT N o a b = .error p → ∃ u, o.at? p = some u
  | 0, o, a, b, p, h => by cases h; exact ⟨o, rfl⟩
  | N + 1, o, a, b, p, h => by
    rw [mixT] at h
    split at h
    · cases h
    · split at h
      · cases h
      · split at h
        · cases h; exact ⟨o, rfl⟩
        · split at h
          · rename_i e he
            cases h
            rcases segM_path (fun o a b p hp => mixT_path N o a b p hp) _ _ _ _ _ _ _ _ he with rfl | ⟨k, q, rfl, t, u, h1, h2⟩
            · exact ⟨o, rfl⟩
            · refine ⟨u, ?_⟩
              cases o with
              | node l ks =>
                rw [Tr.kids_node] at h1
                simp only [Tr.at?, Tr.kid?, Nat.zero_add]
                rw [if_neg (by omega), Int.toNat_natCast, h1]
                exact h2
          · cases h
/-- A clash is there. -/
theorem mixT_clash {N : Nat} {o a b : Tr} {p : List Int} (h : mixT (N + 1) o a b = .error p) : a ≠ b ∧ a ≠ o ∧ b ≠ o := by
  refine ⟨?_, ?_, ?_⟩
  · rintro rfl; rw [mixT_same _ _ _ _ (by simp [beq_yes])] at h; cases h
  · rintro rfl
    by_cases e : a = b
    · subst e; rw [mixT_same _ _ _ _ (by simp [beq_yes])] at h; cases h
    · rw [mixT_left _ _ _ _ (by simp [beq_no e, beq_no (Ne.symm e)]) (beq_yes a)] at h; cases h
  · rintro rfl; rw [mixT_same _ _ _ _ (by simp [beq_yes])] at h; cases h

theorem szL_take_drop (ks : List Tr) (n : Nat) : Tr.szL (ks.take n) + Tr.szL (ks.drop n) = Tr.szL ks := by
  rw [← Tr.szL_append, List.take_append_drop]
theorem szL_drop_le (ks : List Tr) (n : Nat) : Tr.szL (ks.drop n) ≤ Tr.szL ks := by have := szL_take_drop ks n; omega
theorem szL_seg (ks : List Tr) {i n : Nat} (h : i ≤ n) (hn : n < ks.length) : Tr.szL ((ks.drop i).take (n - i)) + (kidN ks n).sz + Tr.szL (ks.drop (n + 1)) = Tr.szL (ks.drop i) := by
  have h1 := szL_take_drop (ks.drop i) (n - i)
  rw [List.drop_drop, show i + (n - i) = n by omega, List.drop_eq_getElem_cons hn] at h1
  rw [Tr.szL] at h1
  rw [kidN_in ks n hn]; omega
/-- What is made is no greater than all three. -/
theorem zipM_sz {f : Tr → Tr → Tr → Ex Tr} (hf : ∀ o a b t, f o a b = .ok t → t.sz ≤ o.sz + a.sz + b.sz) : ∀ (o a b : List Tr) (n : Nat) (ts : List Tr), zipM f o a b n = .ok ts → Tr.szL ts ≤ Tr.szL o + Tr.szL a + Tr.szL b
  | [], a, b, n, ts, h => by simp [zipM] at h; subst h; simp [Tr.szL]
  | o :: os, [], b, n, ts, h => by simp [zipM] at h; subst h; simp [Tr.szL]
  | o :: os, a :: as, [], n, ts, h => by simp [zipM] at h; subst h; simp [Tr.szL]
  | o :: os, a :: as, b :: bs, n, ts, h => by
    simp only [zipM] at h
    cases hx : f o a b with
    | error q => rw [hx] at h; cases h
    | ok t =>
      rw [hx] at h
      cases hy : zipM f os as bs (n + 1) with
      | error q => simp only [hy] at h; cases h
      | ok us =>
        simp only [hy] at h; cases h
        have h1 := hf _ _ _ _ hx
        have h2 := zipM_sz hf os as bs (n + 1) us hy
        simp only [Tr.szL]; omega
theorem partM_sz {f : Tr → Tr → Tr → Ex Tr} (hf : ∀ o a b t, f o a b = .ok t → t.sz ≤ o.sz + a.sz + b.sz) (o a b : List Tr) (n : Nat) (ts : List Tr) (h : partM f o a b n = .ok ts) : Tr.szL ts ≤ Tr.szL o + Tr.szL a + Tr.szL b := by
  unfold partM at h
  split at h
  · cases h; omega
  · split at h
    · cases h; omega
    · split at h
      · cases h
      · exact zipM_sz hf o a b n ts h
/-- Each begins where the one ahead of it ends, or behind that. -/
def HeldOk (o a b : List Tr) (i j k : Nat) (H : List (Nat × Nat × Nat)) : Prop := (H.Pairwise fun p q => p.1 < q.1 ∧ p.2.1 < q.2.1 ∧ p.2.2 < q.2.2) ∧ ∀ h ∈ H, (i ≤ h.1 ∧ h.1 < o.length) ∧ (j ≤ h.2.1 ∧ h.2.1 < a.length) ∧ (k ≤ h.2.2 ∧ h.2.2 < b.length)
theorem HeldOk.tail {o a b : List Tr} {i j k : Nat} {g : Nat × Nat × Nat} {H : List (Nat × Nat × Nat)} (h : HeldOk o a b i j k (g :: H)) : HeldOk o a b (g.1 + 1) (g.2.1 + 1) (g.2.2 + 1) H := by
  obtain ⟨h1, h2⟩ := h
  rw [List.pairwise_cons] at h1
  refine ⟨h1.2, fun x hx => ?_⟩
  have := h1.1 x hx
  have := h2 x (List.mem_cons_of_mem _ hx)
  omega
theorem held_ok (o a b : Tr) : HeldOk o.kids a.kids b.kids 0 0 0 (heldT o a b) := by
  refine ⟨held_rise (common_rise _ _) (common_rise _ _), ?_⟩
  rintro ⟨n, p, q⟩ h
  obtain ⟨h1, h2⟩ := mem_held.1 h
  obtain ⟨e1, e2, _⟩ := common_here _ _ _ h1
  obtain ⟨_, e3, _⟩ := common_here _ _ _ h2
  exact ⟨⟨Nat.zero_le _, e1⟩, ⟨Nat.zero_le _, e2⟩, ⟨Nat.zero_le _, e3⟩⟩
theorem segM_sz {f : Tr → Tr → Tr → Ex Tr} (hf : ∀ o a b t, f o a b = .ok t → t.sz ≤ o.sz + a.sz + b.sz) (o a b : List Tr) : ∀ (H : List (Nat × Nat × Nat)) (i j k : Nat) (ts : List Tr), HeldOk o a b i j k H → segM f o a b H i j k = .ok ts → Tr.szL ts ≤ Tr.szL (o.drop i) + Tr.szL (a.drop j) + Tr.szL (b.drop k)
  | [], i, j, k, ts, _, h => by rw [segM] at h; exact partM_sz hf _ _ _ _ _ h
  | g :: H, i, j, k, ts, hH, h => by
    rw [segM] at h
    cases hx : partM f ((o.drop i).take (g.1 - i)) ((a.drop j).take (g.2.1 - j)) ((b.drop k).take (g.2.2 - k)) i with
    | error e => rw [hx] at h; cases h
    | ok s =>
      rw [hx] at h
      cases hy : segM f o a b H (g.1 + 1) (g.2.1 + 1) (g.2.2 + 1) with
      | error e => simp only [hy] at h; cases h
      | ok r =>
        simp only [hy] at h; cases h
        obtain ⟨⟨a1, a2⟩, ⟨b1, b2⟩, ⟨c1, c2⟩⟩ := hH.2 g (by simp)
        have h1 := partM_sz hf _ _ _ _ _ hx
        have h2 := segM_sz hf o a b H _ _ _ _ hH.tail hy
        have e1 := szL_seg o a1 a2
        have e2 := szL_seg a b1 b2
        have e3 := szL_seg b c1 c2
        rw [Tr.szL_append]
        simp only [Tr.szL]; omega
theorem mixT_sz : ∀ (N : Nat) (o a b t : Tr), mixT N o a b = .ok t → t.sz ≤ o.sz + a.sz + b.sz
  | 0, o, a, b, t, h => by cases h
  | N + 1, o, a, b, t, h => by
    rw [mixT] at h
    split at h
    · cases h; omega
    · split at h
      · cases h; omega
      · split at h
        · cases h
        · split at h
          · cases h
          · rename_i ks he
            cases h
            have := segM_sz (fun o a b t => mixT_sz N o a b t) _ _ _ _ _ _ _ _ (held_ok o a b) he
            simp only [List.drop_zero] at this
            obtain ⟨ol, oks⟩ := o; obtain ⟨al, aks⟩ := a; obtain ⟨bl, bks⟩ := b
            simp only [Tr.kids_node] at this
            simp only [Tr.sz]; omega
end Go.Proofs.Ytdbnfhpgmcjngab
