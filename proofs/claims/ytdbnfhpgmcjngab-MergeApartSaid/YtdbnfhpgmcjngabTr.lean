/- Plain trees with labels, and what the tree functions compute of them. No program here. -/
namespace Go.Proofs.Ytdbnfhpgmcjngab

/-- A tree with labels. -/
inductive Tr where
  | node (label : ByteArray) (kids : List Tr)

def Tr.kids : Tr → List Tr | .node _ ks => ks
def Tr.label : Tr → ByteArray | .node l _ => l

mutual
/-- How many nodes. -/
def Tr.sz : Tr → Nat | .node _ ks => Tr.szL ks + 1
def Tr.szL : List Tr → Nat | [] => 0 | k :: ks => k.sz + Tr.szL ks
end

theorem Tr.sz_pos (t : Tr) : 1 ≤ t.sz := by cases t; simp [Tr.sz]
@[simp] theorem Tr.szL_nil : Tr.szL [] = 0 := rfl
@[simp] theorem Tr.szL_cons (k : Tr) (ks : List Tr) : Tr.szL (k :: ks) = k.sz + Tr.szL ks := rfl
@[simp] theorem Tr.sz_node (l : ByteArray) (ks : List Tr) : (Tr.node l ks).sz = Tr.szL ks + 1 := rfl
@[simp] theorem Tr.szL_append : ∀ (xs ys : List Tr), Tr.szL (xs ++ ys) = Tr.szL xs + Tr.szL ys
  | [], ys => by simp
  | x :: xs, ys => by simp [Tr.szL_append xs ys]; omega
@[simp] theorem Tr.szL_reverse : ∀ (xs : List Tr), Tr.szL xs.reverse = Tr.szL xs
  | [] => rfl
  | x :: xs => by simp [Tr.szL_reverse xs]; omega
theorem Tr.szL_get : ∀ (ks : List Tr) (i : Nat) (h : i < ks.length), ks[i].sz ≤ Tr.szL ks
  | k :: ks, 0, _ => by simp
  | k :: ks, i + 1, h => by have := Tr.szL_get ks i (by simpa using h); simp; omega
theorem Tr.length_le : ∀ (ks : List Tr), ks.length ≤ Tr.szL ks
  | [] => Nat.le_refl _
  | k :: ks => by have := Tr.length_le ks; have := k.sz_pos; simp; omega
theorem Tr.szL_take_succ (ks : List Tr) (i : Nat) (h : i < ks.length) : Tr.szL (ks.take (i + 1)) = Tr.szL (ks.take i) + ks[i].sz := by
  rw [List.take_succ_eq_append_getElem h, Tr.szL_append]; simp only [Tr.szL_cons, Tr.szL_nil, Nat.add_zero]
theorem Tr.szL_take_le (ks : List Tr) (i : Nat) : Tr.szL (ks.take i) ≤ Tr.szL ks := by
  have : Tr.szL ks = Tr.szL (ks.take i) + Tr.szL (ks.drop i) := by rw [← Tr.szL_append, List.take_append_drop]
  omega

/-- The induction over trees and their kids. -/
theorem Tr.ind {P : Tr → Prop} (h : ∀ l ks, (∀ k ∈ ks, P k) → P (.node l ks)) : ∀ t, P t := by
  suffices hh : ∀ n t, t.sz ≤ n → P t from fun t => hh t.sz t (Nat.le_refl _)
  intro n
  induction n with
  | zero => intro t ht; have := t.sz_pos; omega
  | succ n ih =>
    intro t ht
    cases t with
    | node l ks =>
      refine h l ks fun k hk => ih k ?_
      obtain ⟨i, hi, rfl⟩ := List.getElem_of_mem hk
      have := Tr.szL_get ks i hi
      simp at ht; omega

mutual
def Tr.beq : Tr → Tr → Bool | .node l ks, .node m js => decide (l = m) && Tr.beqL ks js
def Tr.beqL : List Tr → List Tr → Bool
  | [], [] => true
  | k :: ks, j :: js => k.beq j && Tr.beqL ks js
  | _, _ => false
end
mutual
theorem Tr.beq_iff : ∀ (a b : Tr), a.beq b = true ↔ a = b
  | .node l ks, .node m js => by simp [Tr.beq, Tr.beqL_iff ks js]
theorem Tr.beqL_iff : ∀ (a b : List Tr), Tr.beqL a b = true ↔ a = b
  | [], [] => by simp [Tr.beqL]
  | k :: ks, j :: js => by simp [Tr.beqL, Tr.beq_iff k j, Tr.beqL_iff ks js]
  | [], j :: js => by simp [Tr.beqL]
  | k :: ks, [] => by simp [Tr.beqL]
end
instance : DecidableEq Tr := fun a b => decidable_of_iff _ (Tr.beq_iff a b)

/-- 1 to 6 letters a to z. -/
def isLab (s : ByteArray) : Bool := s.data.toList.all (fun c => 97 ≤ c && c ≤ 122) && (0 < s.size && s.size ≤ 6)

def okC (c : UInt8) : Bool := 97 ≤ c && c ≤ 122
theorem okC_iff (c : UInt8) : okC c = true ↔ 97 ≤ (c.toNat : Int) ∧ (c.toNat : Int) ≤ 122 := by
  unfold okC; simp [UInt8.le_iff_toNat_le]; omega
theorem isLab_eq (s : ByteArray) : isLab s = (s.data.toList.all okC && (0 < s.size && s.size ≤ 6)) := rfl
theorem getElem_toList (s : ByteArray) (k : Nat) (h : k < s.size) : s.data.toList[k]'(by simpa using h) = s[k] := rfl
theorem isLab_bad (s : ByteArray) (k : Nat) (h : k < s.size) (hb : okC s[k] = false) : isLab s = false := by
  have : s.data.toList.all okC = false := by
    rw [List.all_eq_false]
    refine ⟨s[k], ?_, by simp [hb]⟩
    rw [← getElem_toList s k h]; exact List.getElem_mem _
  simp [isLab_eq, this]
theorem okC_snoc (s : ByteArray) (k : Nat) (h : k < s.size) (hk : (s.data.toList.take k).all okC = true) (hb : okC s[k] = true) : (s.data.toList.take (k + 1)).all okC = true := by
  have hl : k < s.data.toList.length := by simpa using h
  rw [List.take_succ_eq_append_getElem hl, List.all_append, hk]
  simp [getElem_toList s k h, hb]
theorem okC_end (s : ByteArray) (hk : (s.data.toList.take s.size).all okC = true) : isLab s = (decide (0 < s.size) && decide (s.size ≤ 6)) := by
  rw [List.take_of_length_le (by simp)] at hk
  rw [isLab_eq, hk]; rfl

mutual
/-- No node stands beneath more than n others. -/
def Tr.deepZ : Tr → Int → Bool | .node _ ks, n => decide (0 ≤ n) && Tr.deepZL ks (n - 1)
def Tr.deepZL : List Tr → Int → Bool | [], _ => true | k :: ks, n => k.deepZ n && Tr.deepZL ks n
end
mutual
def Tr.named : Tr → Bool | .node l ks => isLab l && Tr.namedL ks
def Tr.namedL : List Tr → Bool | [] => true | k :: ks => k.named && Tr.namedL ks
end
/-- The code of a tree. -/
def fault (t : Tr) : Nat := if 40 < t.sz then 2 else if t.deepZ 10 = false then 3 else if t.named = false then 1 else 0

mutual
def Tr.longB : Tr → Bool | .node l ks => decide (50 < l.size) || Tr.longBL ks
def Tr.longBL : List Tr → Bool | [] => false | k :: ks => k.longB || Tr.longBL ks
end
/-- More than is gone through in time. -/
def great (t : Tr) : Bool := decide (200 < t.sz) || t.longB

theorem Tr.longBL_snoc : ∀ (ks : List Tr) (k : Tr), Tr.longBL (ks ++ [k]) = (Tr.longBL ks || k.longB)
  | [], k => by simp [Tr.longBL]
  | j :: ks, k => by simp [Tr.longBL, Tr.longBL_snoc ks k, Bool.or_assoc]
theorem Tr.longBL_take (ks : List Tr) (i : Nat) (h : i < ks.length) : Tr.longBL (ks.take (i + 1)) = (Tr.longBL (ks.take i) || ks[i].longB) := by
  rw [List.take_succ_eq_append_getElem h, Tr.longBL_snoc]
theorem Tr.longBL_iff : ∀ (ks : List Tr), Tr.longBL ks = true ↔ ∃ k ∈ ks, k.longB = true
  | [] => by simp [Tr.longBL]
  | k :: ks => by simp [Tr.longBL, Tr.longBL_iff ks]
theorem Tr.deepZL_iff : ∀ (ks : List Tr) (n : Int), Tr.deepZL ks n = true ↔ ∀ k ∈ ks, k.deepZ n = true
  | [], n => by simp [Tr.deepZL]
  | k :: ks, n => by simp [Tr.deepZL, Tr.deepZL_iff ks n]
theorem Tr.deepZL_snoc (ks : List Tr) (k : Tr) (n : Int) : Tr.deepZL (ks ++ [k]) n = (Tr.deepZL ks n && k.deepZ n) := by
  rw [Bool.eq_iff_iff]; simp only [Tr.deepZL_iff, Bool.and_eq_true]; simp; constructor
  · intro h; exact ⟨fun x hx => h x (.inl hx), h k (.inr rfl)⟩
  · rintro ⟨h1, h2⟩ x (hx | rfl); exact h1 x hx; exact h2
theorem Tr.deepZL_take (ks : List Tr) (i : Nat) (h : i < ks.length) (n : Int) : Tr.deepZL (ks.take (i + 1)) n = (Tr.deepZL (ks.take i) n && ks[i].deepZ n) := by
  rw [List.take_succ_eq_append_getElem h, Tr.deepZL_snoc]
theorem Tr.deepZL_stop (ks : List Tr) (i : Nat) (h : i < ks.length) (n : Int) (hf : ks[i].deepZ n = false) : Tr.deepZL ks n = false := by
  rw [Bool.eq_false_iff]; intro h2; rw [Tr.deepZL_iff] at h2; rw [h2 _ (List.getElem_mem h)] at hf; cases hf
theorem Tr.longBL_stop (ks : List Tr) (i : Nat) (h : i < ks.length) (hf : ks[i].longB = true) : Tr.longBL ks = true := by
  rw [Tr.longBL_iff]; exact ⟨_, List.getElem_mem h, hf⟩
theorem Tr.namedL_iff : ∀ (ks : List Tr), Tr.namedL ks = true ↔ ∀ k ∈ ks, k.named = true
  | [] => by simp [Tr.namedL]
  | k :: ks => by simp [Tr.namedL, Tr.namedL_iff ks]
theorem Tr.named_node (l : ByteArray) (ks : List Tr) : (Tr.node l ks).named = true ↔ isLab l = true ∧ ∀ k ∈ ks, k.named = true := by
  simp [Tr.named, Tr.namedL_iff]

theorem Tr.namedL_snoc (ks : List Tr) (k : Tr) : Tr.namedL (ks ++ [k]) = (Tr.namedL ks && k.named) := by
  rw [Bool.eq_iff_iff]; simp only [Tr.namedL_iff, Bool.and_eq_true]; simp; constructor
  · intro h; exact ⟨fun x hx => h x (.inl hx), h k (.inr rfl)⟩
  · rintro ⟨h1, h2⟩ x (hx | rfl); exact h1 x hx; exact h2
theorem Tr.namedL_take (ks : List Tr) (i : Nat) (h : i < ks.length) : Tr.namedL (ks.take (i + 1)) = (Tr.namedL (ks.take i) && ks[i].named) := by
  rw [List.take_succ_eq_append_getElem h, Tr.namedL_snoc]
theorem Tr.namedL_stop (ks : List Tr) (i : Nat) (h : i < ks.length) (hf : ks[i].named = false) : Tr.namedL ks = false := by
  rw [Bool.eq_false_iff]; intro h2; rw [Tr.namedL_iff] at h2; rw [h2 _ (List.getElem_mem h)] at hf; cases hf

/-- A kid. -/
def Tr.kid? : Tr → Int → Option Tr
  | .node _ ks, k => if k < 0 then none else ks[k.toNat]?
/-- The node at a path, with all beneath it. -/
def Tr.at? : Tr → List Int → Option Tr
  | t, [] => some t
  | t, k :: p => (t.kid? k).bind (·.at? p)
def Tr.zero : Tr := .node ⟨#[]⟩ []
theorem Tr.at?_append (t : Tr) (p q : List Int) : t.at? (p ++ q) = (t.at? p).bind (·.at? q) := by
  induction p generalizing t with
  | nil => rfl
  | cons k p ih =>
    simp only [List.cons_append, Tr.at?]
    cases t.kid? k with
    | none => rfl
    | some u => exact ih u
theorem Tr.at?_take (t : Tr) (p : List Int) (i : Nat) (h : i < p.length) {u : Tr} (hu : t.at? (p.take i) = some u) : t.at? (p.take (i + 1)) = u.kid? p[i] := by
  rw [List.take_succ_eq_append_getElem h, Tr.at?_append, hu]
  show (u.kid? p[i]).bind _ = _
  cases u.kid? p[i] <;> rfl
theorem Tr.at?_stop (t : Tr) (p : List Int) (i : Nat) (hu : t.at? (p.take i) = none) : t.at? p = none := by
  have := Tr.at?_append t (p.take i) (p.drop i)
  rw [List.take_append_drop, hu] at this; exact this
theorem Tr.kid?_neg (t : Tr) {k : Int} (h : k < 0) : t.kid? k = none := by cases t; simp [Tr.kid?, h]
theorem Tr.kid?_ge (l : ByteArray) (ks : List Tr) {k : Int} (h : (ks.length : Int) ≤ k) : (Tr.node l ks).kid? k = none := by
  simp only [Tr.kid?]; rw [if_neg (by omega)]; exact List.getElem?_eq_none (by omega)
theorem Tr.kid?_in (l : ByteArray) (ks : List Tr) {n : Nat} (h : n < ks.length) : (Tr.node l ks).kid? (n : Int) = some ks[n] := by
  simp only [Tr.kid?]; rw [if_neg (by omega)]; simp [h]
theorem Tr.kid?_sz {t u : Tr} {k : Int} (h : t.kid? k = some u) : u.sz < t.sz := by
  cases t with
  | node l ks =>
    simp only [Tr.kid?] at h
    split at h
    · cases h
    · obtain ⟨hi, rfl⟩ := List.getElem?_eq_some_iff.1 h
      have := Tr.szL_get ks k.toNat hi; simp; omega
theorem Tr.at?_sz {t u : Tr} {p : List Int} (h : t.at? p = some u) : u.sz ≤ t.sz := by
  induction p generalizing t with
  | nil => cases h; exact Nat.le_refl _
  | cons k p ih =>
    simp only [Tr.at?] at h
    cases hk : t.kid? k with
    | none => rw [hk] at h; cases h
    | some v => rw [hk] at h; have := ih h; have := Tr.kid?_sz hk; omega

end Go.Proofs.Ytdbnfhpgmcjngab
