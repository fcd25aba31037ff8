/- How far apart two forests are: the recursion on the last trees; that it is a distance. No program here. -/
import Derived.Test.YtdbnfhpgmcjngaaTr
namespace Go.Proofs.Ytdbnfhpgmcjngaa

/-- What another label costs. -/
def lc (l m : ByteArray) : Nat := if l = m then 0 else 1
theorem lc_le (l m : ByteArray) : lc l m ≤ 1 := by unfold lc; split <;> omega
theorem lc_self (l : ByteArray) : lc l l = 0 := by simp [lc]
theorem lc_symm (l m : ByteArray) : lc l m = lc m l := by
  unfold lc; by_cases h : l = m
  · subst h; rfl
  · rw [if_neg h, if_neg (fun e => h e.symm)]
theorem lc_tri (l m n : ByteArray) : lc l n ≤ lc l m + lc m n := by
  unfold lc; by_cases h : l = m
  · subst h; simp
  · by_cases g : m = n
    · subst g; simp
    · rw [if_neg h, if_neg g]; split <;> omega
theorem lc_zero {l m : ByteArray} (h : lc l m = 0) : l = m := by unfold lc at h; split at h; assumption; omega

/-- Of forests whose trees are listed from the last one on. -/
def fdr : List Tr → List Tr → Nat
  | [], G => Tr.szL G
  | .node l ks :: F, [] => Tr.szL (.node l ks :: F)
  | .node l ks :: F, .node m js :: G =>
    min (fdr (ks.reverse ++ F) (.node m js :: G) + 1)
      (min (fdr (.node l ks :: F) (js.reverse ++ G) + 1) (fdr F G + fdr ks.reverse js.reverse + lc l m))
termination_by F G => Tr.szL F + Tr.szL G
decreasing_by all_goals (simp; try omega)

/-- The least that it costs to make of one forest another one. -/
def fd (F G : List Tr) : Nat := fdr F.reverse G.reverse

theorem fd_nil (G : List Tr) : fd [] G = Tr.szL G := by simp [fd, fdr]
theorem fd_nil_right (F : List Tr) : fd F [] = Tr.szL F := by
  unfold fd
  rcases h : F.reverse with _ | ⟨⟨l, ks⟩, F'⟩
  · simp at h; subst h; simp [fdr]
  · rw [List.reverse_nil, fdr, ← h, Tr.szL_reverse]
theorem fd_snoc (F G : List Tr) (l m : ByteArray) (ks js : List Tr) :
    fd (F ++ [.node l ks]) (G ++ [.node m js]) =
      min (fd (F ++ ks) (G ++ [.node m js]) + 1) (min (fd (F ++ [.node l ks]) (G ++ js) + 1) (fd F G + fd ks js + lc l m)) := by
  unfold fd
  simp only [List.reverse_append, List.reverse_cons, List.reverse_nil, List.nil_append, List.singleton_append]
  rw [fdr]
theorem fd_del (F G : List Tr) (l : ByteArray) (ks : List Tr) : fd (F ++ [.node l ks]) G ≤ fd (F ++ ks) G + 1 := by
  rcases List.eq_nil_or_concat G with rfl | ⟨G, ⟨m, js⟩, rfl⟩
  · simp only [fd_nil_right]; simp; omega
  · simp only [List.concat_eq_append]; rw [fd_snoc]; omega
theorem fd_ins (F G : List Tr) (m : ByteArray) (js : List Tr) : fd F (G ++ [.node m js]) ≤ fd F (G ++ js) + 1 := by
  rcases List.eq_nil_or_concat F with rfl | ⟨F, ⟨l, ks⟩, rfl⟩
  · simp only [fd_nil]; simp; omega
  · simp only [List.concat_eq_append]; rw [fd_snoc]; omega
theorem fd_match (F G : List Tr) (l m : ByteArray) (ks js : List Tr) :
    fd (F ++ [.node l ks]) (G ++ [.node m js]) ≤ fd F G + fd ks js + lc l m := by rw [fd_snoc]; omega

/-- The ways in which the least can come about. -/
theorem fd_cases (F G : List Tr) : (F = [] ∧ G = []) ∨
    (∃ F' l ks, F = F' ++ [.node l ks] ∧ fd F G = fd (F' ++ ks) G + 1) ∨
    (∃ G' m js, G = G' ++ [.node m js] ∧ fd F G = fd F (G' ++ js) + 1) ∨
    (∃ F' l ks G' m js, F = F' ++ [.node l ks] ∧ G = G' ++ [.node m js] ∧ fd F G = fd F' G' + fd ks js + lc l m) := by
  rcases List.eq_nil_or_concat F with rfl | ⟨F, ⟨l, ks⟩, rfl⟩
  · rcases List.eq_nil_or_concat G with rfl | ⟨G, ⟨m, js⟩, rfl⟩
    · exact .inl ⟨rfl, rfl⟩
    · refine .inr (.inr (.inl ⟨G, m, js, by simp, ?_⟩))
      simp only [fd_nil]; simp; omega
  · rcases List.eq_nil_or_concat G with rfl | ⟨G, ⟨m, js⟩, rfl⟩
    · refine .inr (.inl ⟨F, l, ks, by simp, ?_⟩)
      simp only [fd_nil_right]; simp; omega
    · simp only [List.concat_eq_append]
      have h := fd_snoc F G l m ks js
      rcases Nat.lt_or_ge (fd (F ++ [.node l ks]) (G ++ [.node m js])) (fd (F ++ ks) (G ++ [.node m js]) + 1) with h1 | h1
      · rcases Nat.lt_or_ge (fd (F ++ [.node l ks]) (G ++ [.node m js])) (fd (F ++ [.node l ks]) (G ++ js) + 1) with h2 | h2
        · exact .inr (.inr (.inr ⟨F, l, ks, G, m, js, rfl, rfl, by omega⟩))
        · exact .inr (.inr (.inl ⟨G, m, js, rfl, by omega⟩))
      · exact .inr (.inl ⟨F, l, ks, rfl, by omega⟩)

theorem fd_self (F : List Tr) : fd F F = 0 := by
  suffices h : ∀ n F, Tr.szL F ≤ n → fd F F = 0 from h _ F (Nat.le_refl _)
  intro n
  induction n with
  | zero =>
    intro F h
    rcases List.eq_nil_or_concat F with rfl | ⟨F, ⟨l, ks⟩, rfl⟩
    · simp [fd_nil]
    · simp at h
  | succ n ih =>
    intro F h
    rcases List.eq_nil_or_concat F with rfl | ⟨F, ⟨l, ks⟩, rfl⟩
    · simp [fd_nil]
    · simp only [List.concat_eq_append] at h ⊢
      have := fd_match F F l l ks ks
      simp at h
      have h1 := ih F (by omega); have h2 := ih ks (by omega); have h3 := lc_self l
      omega

theorem fd_symm (F G : List Tr) : fd F G = fd G F := by
  suffices h : ∀ n F G, Tr.szL F + Tr.szL G ≤ n → fd F G ≤ fd G F from Nat.le_antisymm (h _ F G (Nat.le_refl _)) (h _ G F (Nat.le_refl _))
  intro n
  induction n with
  | zero =>
    intro F G h
    rcases fd_cases G F with ⟨rfl, rfl⟩ | ⟨F', l, ks, rfl, e⟩ | ⟨G', m, js, rfl, e⟩ | ⟨F', l, ks, G', m, js, rfl, rfl, e⟩
    · exact Nat.le_refl _
    all_goals (simp at h)
  | succ n ih =>
    intro F G h
    rcases fd_cases G F with ⟨rfl, rfl⟩ | ⟨F', l, ks, rfl, e⟩ | ⟨G', m, js, rfl, e⟩ | ⟨F', l, ks, G', m, js, rfl, rfl, e⟩
    · exact Nat.le_refl _
    all_goals simp at h
    · have := fd_ins F F' l ks
      have := ih F (F' ++ ks) (by simp; omega)
      omega
    · have := fd_del G' G m js
      have := ih (G' ++ js) G (by simp; omega)
      omega
    · have := fd_match G' F' m l js ks
      have := ih G' F' (by omega)
      have := ih js ks (by omega)
      have := lc_symm l m
      omega

theorem fd_zero {F G : List Tr} (h : fd F G = 0) : F = G := by
  suffices hh : ∀ n F G, Tr.szL F + Tr.szL G ≤ n → fd F G = 0 → F = G from hh _ F G (Nat.le_refl _) h
  intro n
  induction n with
  | zero =>
    intro F G h h0
    rcases fd_cases F G with ⟨rfl, rfl⟩ | ⟨F', l, ks, rfl, e⟩ | ⟨G', m, js, rfl, e⟩ | ⟨F', l, ks, G', m, js, rfl, rfl, e⟩
    · rfl
    all_goals (simp at h)
  | succ n ih =>
    intro F G h h0
    rcases fd_cases F G with ⟨rfl, rfl⟩ | ⟨F', l, ks, rfl, e⟩ | ⟨G', m, js, rfl, e⟩ | ⟨F', l, ks, G', m, js, rfl, rfl, e⟩
    · rfl
    · omega
    · omega
    · simp at h
      have h1 := ih F' G' (by omega) (by omega)
      have h2 := ih ks js (by omega) (by omega)
      have h3 := lc_zero (l := l) (m := m) (by omega)
      rw [h1, h2, h3]

theorem fd_lower (F G : List Tr) : Tr.szL F ≤ fd F G + Tr.szL G := by
  suffices hh : ∀ n F G, Tr.szL F + Tr.szL G ≤ n → Tr.szL F ≤ fd F G + Tr.szL G from hh _ F G (Nat.le_refl _)
  intro n
  induction n with
  | zero => intro F G h; omega
  | succ n ih =>
    intro F G h
    rcases fd_cases F G with ⟨rfl, rfl⟩ | ⟨F', l, ks, rfl, e⟩ | ⟨G', m, js, rfl, e⟩ | ⟨F', l, ks, G', m, js, rfl, rfl, e⟩
    · simp
    all_goals simp at h ⊢
    · have := ih (F' ++ ks) G (by simp; omega); simp at this; omega
    · have := ih F (G' ++ js) (by simp; omega); simp at this; omega
    · have := ih F' G' (by omega); have := ih ks js (by omega); omega

/-- Beside each other they cost no more than each by itself. -/
theorem fd_sub (F₁ G₁ F₂ G₂ : List Tr) : fd (F₁ ++ F₂) (G₁ ++ G₂) ≤ fd F₁ G₁ + fd F₂ G₂ := by
  suffices hh : ∀ n F₂ G₂, Tr.szL F₂ + Tr.szL G₂ ≤ n → fd (F₁ ++ F₂) (G₁ ++ G₂) ≤ fd F₁ G₁ + fd F₂ G₂ from hh _ F₂ G₂ (Nat.le_refl _)
  intro n
  induction n with
  | zero =>
    intro F G h
    rcases fd_cases F G with ⟨rfl, rfl⟩ | ⟨F', l, ks, rfl, e⟩ | ⟨G', m, js, rfl, e⟩ | ⟨F', l, ks, G', m, js, rfl, rfl, e⟩
    · simp
    all_goals (simp at h)
  | succ n ih =>
    intro F G h
    rcases fd_cases F G with ⟨rfl, rfl⟩ | ⟨F', l, ks, rfl, e⟩ | ⟨G', m, js, rfl, e⟩ | ⟨F', l, ks, G', m, js, rfl, rfl, e⟩
    · simp
    all_goals simp at h
    · have h1 := fd_del (F₁ ++ F') (G₁ ++ G) l ks
      have h2 := ih (F' ++ ks) G (by simp; omega)
      simp only [List.append_assoc] at h1 h2 ⊢; omega
    · have h1 := fd_ins (F₁ ++ F) (G₁ ++ G') m js
      have h2 := ih F (G' ++ js) (by simp; omega)
      simp only [List.append_assoc] at h1 h2 ⊢; omega
    · have h1 := fd_match (F₁ ++ F') (G₁ ++ G') l m ks js
      have h2 := ih F' G' (by omega)
      simp only [List.append_assoc] at h1 h2 ⊢; omega

theorem snoc_inj {F G : List Tr} {l m : ByteArray} {ks js : List Tr} (h : F ++ [.node l ks] = G ++ [.node m js]) : F = G ∧ l = m ∧ ks = js := by
  have h1 := List.append_inj' h rfl
  simpa using h1

/-- No more than by a third one. -/
theorem fd_tri (F G H : List Tr) : fd F H ≤ fd F G + fd G H := by
  suffices hh : ∀ n F G H, Tr.szL F + Tr.szL G + Tr.szL H ≤ n → fd F H ≤ fd F G + fd G H from hh _ F G H (Nat.le_refl _)
  intro n
  induction n with
  | zero =>
    intro F G H h
    rcases fd_cases F H with ⟨rfl, rfl⟩ | ⟨F', l, ks, rfl, e⟩ | ⟨G', m, js, rfl, e⟩ | ⟨F', l, ks, G', m, js, rfl, rfl, e⟩
    · simp [fd_nil]
    all_goals (simp at h)
  | succ n ih =>
    intro F G H h
    rcases fd_cases F G with ⟨rfl, rfl⟩ | ⟨F', l, ks, rfl, e⟩ | ⟨G', m, js, rfl, e⟩ | ⟨F', l, ks, G', m, js, rfl, rfl, e⟩
    · omega
    · simp at h
      have h1 := fd_del F' H l ks
      have h2 := ih (F' ++ ks) G H (by simp; omega)
      omega
    · simp at h
      rcases fd_cases (G' ++ [.node m js]) H with ⟨g, _⟩ | ⟨X, l', ks', g, e'⟩ | ⟨H', m', js', rfl, e'⟩ | ⟨X, l', ks', H', m', js', g, rfl, e'⟩
      · simp at g
      · obtain ⟨rfl, rfl, rfl⟩ := snoc_inj g
        have h2 := ih F (G' ++ js) H (by simp; omega)
        omega
      · simp at h
        have h1 := fd_ins F H' m' js'
        have h2 := ih F (G' ++ [.node m js]) (H' ++ js') (by simp; omega)
        omega
      · obtain ⟨rfl, rfl, rfl⟩ := snoc_inj g
        simp at h
        have h1 := ih F (G' ++ js) (H' ++ [.node m' js']) (by simp; omega)
        have h2 := fd_ins (G' ++ js) H' m' js'
        have h3 := fd_sub G' H' js js'
        omega
    · simp at h
      rcases fd_cases (G' ++ [.node m js]) H with ⟨g, _⟩ | ⟨X, l', ks', g, e'⟩ | ⟨H', m', js', rfl, e'⟩ | ⟨X, l', ks', H', m', js', g, rfl, e'⟩
      · simp at g
      · obtain ⟨rfl, rfl, rfl⟩ := snoc_inj g
        have h1 := ih (F' ++ [.node l ks]) (G' ++ js) H (by simp; omega)
        have h2 := fd_del F' (G' ++ js) l ks
        have h3 := fd_sub F' G' ks js
        omega
      · simp at h
        have h1 := fd_ins (F' ++ [.node l ks]) H' m' js'
        have h2 := ih (F' ++ [.node l ks]) (G' ++ [.node m js]) (H' ++ js') (by simp; omega)
        omega
      · obtain ⟨rfl, rfl, rfl⟩ := snoc_inj g
        simp at h
        have h1 := fd_match F' H' l m' ks js'
        have h2 := ih F' G' H' (by omega)
        have h3 := ih ks js js' (by omega)
        have h4 := lc_tri l m m'
        omega

theorem fd_upper (F G : List Tr) : fd F G ≤ Tr.szL F + Tr.szL G := by
  have := fd_tri F [] G; rw [fd_nil_right, fd_nil] at this; exact this

/-- What is put beside in both makes no difference less. -/
theorem fd_cancel (F C G D : List Tr) : fd F G ≤ fd (F ++ C) (G ++ D) + fd C D := by
  suffices hh : ∀ n F C G D, Tr.szL F + Tr.szL C + Tr.szL G + Tr.szL D ≤ n → fd F G ≤ fd (F ++ C) (G ++ D) + fd C D from hh _ F C G D (Nat.le_refl _)
  intro n
  induction n with
  | zero =>
    intro F C G D h
    rcases fd_cases F G with ⟨rfl, rfl⟩ | ⟨F', l, ks, rfl, e⟩ | ⟨G', m, js, rfl, e⟩ | ⟨F', l, ks, G', m, js, rfl, rfl, e⟩
    · simp [fd_nil]
    all_goals (simp at h)
  | succ n ih =>
    intro F C G D h
    by_cases hz : Tr.szL F + Tr.szL G = 0
    · have hF : F = [] := by cases F with | nil => rfl | cons a F => have := a.sz_pos; simp at hz; omega
      have hG : G = [] := by cases G with | nil => rfl | cons a G => have := a.sz_pos; simp at hz; omega
      subst hF; subst hG; simp [fd_nil]
    rcases List.eq_nil_or_concat C with rfl | ⟨C, ⟨l, ks⟩, rfl⟩
    · have h1 := fd_tri F (G ++ D) G
      have h2 := fd_sub G G D []
      rw [fd_self, fd_nil_right, List.append_nil] at h2
      rw [fd_nil, List.append_nil]; omega
    · rcases List.eq_nil_or_concat D with rfl | ⟨D, ⟨m, js⟩, rfl⟩
      · generalize C.concat (.node l ks) = C
        have h1 := fd_tri F (F ++ C) G
        have h2 := fd_sub F F [] C
        rw [fd_self, fd_nil, List.append_nil] at h2
        rw [fd_nil_right, List.append_nil]; omega
      · simp only [List.concat_eq_append] at h ⊢
        have g := fd_snoc (F ++ C) (G ++ D) l m ks js
        simp at h
        have a1 := fd_ins (C ++ ks) D m js
        have d1 := fd_tri (C ++ ks) (C ++ [.node l ks]) (D ++ [.node m js])
        have d2 : fd (C ++ ks) (C ++ [.node l ks]) ≤ 1 := by have := fd_ins (C ++ ks) C l ks; rw [fd_self] at this; exact this
        have e1 := fd_tri (C ++ [.node l ks]) (D ++ [.node m js]) (D ++ js)
        have e2 : fd (D ++ [.node m js]) (D ++ js) ≤ 1 := by have := fd_del D (D ++ js) m js; rw [fd_self] at this; exact this
        have i1 := ih F (C ++ ks) G (D ++ [.node m js]) (by simp; omega)
        have i2 := ih F (C ++ [.node l ks]) G (D ++ js) (by simp; omega)
        have i3 := ih F C G D (by omega)
        have i4 : fd C D ≤ fd (C ++ [.node l ks]) (D ++ [.node m js]) + (fd ks js + lc l m) := by
          have t1 := ih C [.node l ks] D [.node m js] (by simp; omega)
          have t2 := fd_match [] [] l m ks js
          simp only [List.nil_append, fd_nil, Tr.szL_nil] at t2
          omega
        simp only [List.append_assoc] at g i1 i2 i3 ⊢
        omega
end Go.Proofs.Ytdbnfhpgmcjngaa
