/- Plain deeds: what they do to a tree, and what undoes them. No program here. -/
import Derived.Test.YtdbnfhpgmcjngabTrb
namespace Go.Proofs.Ytdbnfhpgmcjngab

theorem Tr.kids_node (l : ByteArray) (ks : List Tr) : (Tr.node l ks).kids = ks := rfl
theorem Tr.label_node (l : ByteArray) (ks : List Tr) : (Tr.node l ks).label = l := rfl
/-- A deed. -/
structure Dee where
  kind : Int
  path : List Int
  pos : Int
  many : Int
  lab : ByteArray
deriving DecidableEq
def Dee.zero : Dee := ⟨0, [], 0, 0, ⟨#[]⟩⟩
/-- One of a path's numbers is below 0. -/
def negP (p : List Int) : Bool := p.any fun x => decide (x < 0)
theorem negP_false {p : List Int} : negP p = false ↔ ∀ x ∈ p, 0 ≤ x := by simp [negP]
theorem negP_append (p q : List Int) : negP (p ++ q) = (negP p || negP q) := by simp [negP]

/-- The code of a deed. -/
def dfault (d : Dee) : Nat :=
  if d.kind < 1 ∨ 3 < d.kind then 10
  else if (d.kind ≠ 3 ∧ (d.pos ≠ 0 ∨ d.many ≠ 0)) ∨ (d.kind = 2 ∧ d.lab ≠ ⟨#[]⟩) then 6
  else if (d.pos < 0 ∨ d.many < 0) ∨ negP d.path = true then 9
  else if d.kind ≠ 2 ∧ isLab d.lab = false then 1
  else if d.kind = 2 ∧ d.path = [] then 8 else 0

theorem dfault_zero {d : Dee} : dfault d = 0 ↔ (1 ≤ d.kind ∧ d.kind ≤ 3) ∧ (d.kind ≠ 3 → d.pos = 0 ∧ d.many = 0) ∧ (d.kind = 2 → d.lab = ⟨#[]⟩ ∧ d.path ≠ []) ∧ 0 ≤ d.pos ∧ 0 ≤ d.many ∧ (∀ x ∈ d.path, 0 ≤ x) ∧ (d.kind ≠ 2 → isLab d.lab = true) := by
  unfold dfault
  rw [← negP_false]
  by_cases h1 : d.kind < 1 ∨ 3 < d.kind
  · rw [if_pos h1]; constructor
    · intro h; cases h
    · intro h; omega
  rw [if_neg h1]
  by_cases h2 : (d.kind ≠ 3 ∧ (d.pos ≠ 0 ∨ d.many ≠ 0)) ∨ (d.kind = 2 ∧ d.lab ≠ ⟨#[]⟩)
  · rw [if_pos h2]; constructor
    · intro h; cases h
    · rintro ⟨_, a, b, _⟩
      rcases h2 with ⟨c, e⟩ | ⟨c, e⟩
      · have := a c; omega
      · exact absurd (b c).1 e
  rw [if_neg h2]
  by_cases h3 : (d.pos < 0 ∨ d.many < 0) ∨ negP d.path = true
  · rw [if_pos h3]; constructor
    · intro h; cases h
    · rintro ⟨_, _, _, a, b, c, _⟩
      rcases h3 with h | h
      · omega
      · rw [c] at h; cases h
  rw [if_neg h3]
  by_cases h4 : d.kind ≠ 2 ∧ isLab d.lab = false
  · rw [if_pos h4]; constructor
    · intro h; cases h
    · rintro ⟨_, _, _, _, _, _, a⟩
      rw [a h4.1] at h4; cases h4.2
  rw [if_neg h4]
  have k3 : 0 ≤ d.pos ∧ 0 ≤ d.many ∧ negP d.path = false := by
    refine ⟨by omega, by omega, ?_⟩
    cases h : negP d.path with
    | false => rfl
    | true => exact absurd (.inr h) h3
  have k4 : d.kind ≠ 2 → isLab d.lab = true := fun h => by
    cases hl : isLab d.lab with
    | true => rfl
    | false => exact absurd ⟨h, hl⟩ h4
  have k2 : d.kind ≠ 3 → d.pos = 0 ∧ d.many = 0 := fun h => by
    constructor
    · exact Decidable.byContradiction fun e => h2 (.inl ⟨h, .inl e⟩)
    · exact Decidable.byContradiction fun e => h2 (.inl ⟨h, .inr e⟩)
  have k5 : d.kind = 2 → d.lab = ⟨#[]⟩ := fun h => Decidable.byContradiction fun e => h2 (.inr ⟨h, e⟩)
  by_cases h5 : d.kind = 2 ∧ d.path = []
  · rw [if_pos h5]; constructor
    · intro h; cases h
    · rintro ⟨_, _, a, _⟩; exact absurd h5.2 (a h5.1).2
  · rw [if_neg h5]
    exact ⟨fun _ => ⟨by omega, k2, fun h => ⟨k5 h, fun e => h5 ⟨h, e⟩⟩, k3.1, k3.2.1, k3.2.2, k4⟩, fun _ => rfl⟩

def kidN (ks : List Tr) (k : Int) : Tr := ks.getD k.toNat Tr.zero
theorem kidN_in (ks : List Tr) (n : Nat) (h : n < ks.length) : kidN ks (n : Int) = ks[n] := by simp [kidN, h]
theorem kid?_some {l : ByteArray} {ks : List Tr} {k : Int} {u : Tr} (h : (Tr.node l ks).kid? k = some u) : 0 ≤ k ∧ k.toNat < ks.length ∧ kidN ks k = u ∧ (ks.length : Int) > k := by
  simp only [Tr.kid?] at h
  split at h
  · cases h
  · obtain ⟨hi, he⟩ := List.getElem?_eq_some_iff.1 h
    refine ⟨by omega, hi, ?_, by omega⟩
    simp [kidN, hi, he]
theorem kid?_none {l : ByteArray} {ks : List Tr} {k : Int} (h0 : 0 ≤ k) (h : (Tr.node l ks).kid? k = none) : (ks.length : Int) ≤ k := by
  simp only [Tr.kid?] at h
  rw [if_neg (by omega), List.getElem?_eq_none_iff] at h
  omega

/-- Done where the path ends; k: the last number of a deletion's. -/
def leafT (d : Dee) (t : Tr) (k : Int) : Tr × Nat :=
  if d.kind = 1 then (.node d.lab t.kids, 0)
  else if d.kind = 2 then
    if (t.kids.length : Int) ≤ k then (t, 7) else (.node t.label (t.kids.take k.toNat ++ (kidN t.kids k).kids ++ t.kids.drop (k.toNat + 1)), 0)
  else if (t.kids.length : Int) < d.pos ∨ (t.kids.length : Int) - d.pos < d.many then (t, 9)
  else (.node t.label (t.kids.take d.pos.toNat ++ [.node d.lab ((t.kids.drop d.pos.toNat).take d.many.toNat)] ++ t.kids.drop (d.pos.toNat + d.many.toNat)), 0)
/-- Done at what is left of the path. -/
def doneT (d : Dee) : List Int → Tr → Tr × Nat
  | [], t => leafT d t 0
  | k :: p, t => if d.kind = 2 ∧ p = [] then leafT d t k
    else if (t.kids.length : Int) ≤ k then (t, 7)
    else (.node t.label (t.kids.set k.toNat (doneT d p (kidN t.kids k)).1), (doneT d p (kidN t.kids k)).2)

theorem leafT_node (d : Dee) (l : ByteArray) (ks : List Tr) (k : Int) : leafT d (.node l ks) k =
  if d.kind = 1 then (.node d.lab ks, 0)
  else if d.kind = 2 then
    if (ks.length : Int) ≤ k then (.node l ks, 7) else (.node l (ks.take k.toNat ++ (kidN ks k).kids ++ ks.drop (k.toNat + 1)), 0)
  else if (ks.length : Int) < d.pos ∨ (ks.length : Int) - d.pos < d.many then (.node l ks, 9)
  else (.node l (ks.take d.pos.toNat ++ [.node d.lab ((ks.drop d.pos.toNat).take d.many.toNat)] ++ ks.drop (d.pos.toNat + d.many.toNat)), 0) := rfl
theorem doneT_node (d : Dee) (k : Int) (p : List Int) (l : ByteArray) (ks : List Tr) : doneT d (k :: p) (.node l ks) =
  if d.kind = 2 ∧ p = [] then leafT d (.node l ks) k
    else if (ks.length : Int) ≤ k then (.node l ks, 7)
    else (.node l (ks.set k.toNat (doneT d p (kidN ks k)).1), (doneT d p (kidN ks k)).2) := rfl
/-- Another node at a path. -/
def Tr.setAt : Tr → List Int → Tr → Tr
  | _, [], x => x
  | t, k :: p, x => .node t.label (t.kids.set k.toNat ((kidN t.kids k).setAt p x))
theorem Tr.setAt_node (l : ByteArray) (ks : List Tr) (k : Int) (p : List Int) (x : Tr) : (Tr.node l ks).setAt (k :: p) x = .node l (ks.set k.toNat ((kidN ks k).setAt p x)) := rfl
theorem Tr.setAt_append (t : Tr) (p q : List Int) (x u : Tr) (h : t.at? p = some u) : t.setAt (p ++ q) x = t.setAt p (u.setAt q x) := by
  induction p generalizing t with
  | nil => cases h; rfl
  | cons k p ih =>
    cases t with
    | node l ks =>
      simp only [Tr.at?] at h
      cases hk : (Tr.node l ks).kid? k with
      | none => rw [hk] at h; cases h
      | some v =>
        rw [hk] at h
        obtain ⟨_, _, hv, _⟩ := kid?_some hk
        rw [List.cons_append, Tr.setAt_node, Tr.setAt_node, hv, ih v h]
theorem Tr.at?_setAt (t : Tr) (p : List Int) (x u : Tr) (h : t.at? p = some u) : (t.setAt p x).at? p = some x := by
  induction p generalizing t with
  | nil => rfl
  | cons k p ih =>
    cases t with
    | node l ks =>
      simp only [Tr.at?] at h
      cases hk : (Tr.node l ks).kid? k with
      | none => rw [hk] at h; cases h
      | some v =>
        rw [hk] at h
        obtain ⟨h0, hi, hv, _⟩ := kid?_some hk
        rw [Tr.setAt_node, hv]
        simp only [Tr.at?, Tr.kid?]
        rw [if_neg (by omega)]
        simp only [List.getElem?_set_self hi]
        exact ih v h
theorem Tr.setAt_back (t : Tr) (p : List Int) (x u : Tr) (h : t.at? p = some u) : (t.setAt p x).setAt p u = t := by
  induction p generalizing t with
  | nil => cases h; rfl
  | cons k p ih =>
    cases t with
    | node l ks =>
      simp only [Tr.at?] at h
      cases hk : (Tr.node l ks).kid? k with
      | none => rw [hk] at h; cases h
      | some v =>
        rw [hk] at h
        obtain ⟨h0, hi, hv, _⟩ := kid?_some hk
        have hg : kidN (ks.set k.toNat (v.setAt p x)) k = v.setAt p x := by simp [kidN, hi]
        rw [Tr.setAt_node, hv, Tr.setAt_node, hg, ih v h]
        congr 1
        rw [List.set_set]
        have : v = ks[k.toNat] := by rw [← hv]; simp [kidN, hi]
        rw [this]; exact List.set_getElem_self hi

/-- What is no deletion, where the path leads nowhere. -/
theorem doneT_none (d : Dee) (h2 : d.kind ≠ 2) : ∀ (p : List Int) (t : Tr), (∀ x ∈ p, 0 ≤ x) → t.at? p = none → (doneT d p t).2 = 7
  | [], t, _, h => by cases h
  | k :: p, .node l ks, hp, h => by
    simp only [Tr.at?] at h
    rw [doneT_node, if_neg (fun e => h2 e.1)]
    cases hk : (Tr.node l ks).kid? k with
    | none => rw [if_pos (kid?_none (hp k (by simp)) hk)]
    | some v =>
      rw [hk] at h
      obtain ⟨_, _, hv, hl⟩ := kid?_some hk
      rw [if_neg (by omega), hv]
      exact doneT_none d h2 p v (fun x hx => hp x (by simp [hx])) h
/-- .. and where it leads to a node. -/
theorem doneT_some (d : Dee) (h2 : d.kind ≠ 2) : ∀ (p : List Int) (t x : Tr), t.at? p = some x → doneT d p t = (t.setAt p (leafT d x 0).1, (leafT d x 0).2)
  | [], t, x, h => by cases h; rfl
  | k :: p, .node l ks, x, h => by
    simp only [Tr.at?] at h
    rw [doneT_node, Tr.setAt_node, if_neg (fun e => h2 e.1)]
    cases hk : (Tr.node l ks).kid? k with
    | none => rw [hk] at h; cases h
    | some v =>
      rw [hk] at h
      obtain ⟨_, _, hv, hl⟩ := kid?_some hk
      rw [if_neg (by omega), hv, doneT_some d h2 p v x h]
/-- A deletion, where the path leads nowhere. -/
theorem doneD_none (d : Dee) (h2 : d.kind = 2) : ∀ (p : List Int) (t : Tr), p ≠ [] → (∀ x ∈ p, 0 ≤ x) → t.at? p = none → (doneT d p t).2 = 7
  | [], t, hn, _, _ => absurd rfl hn
  | k :: p, .node l ks, _, hp, h => by
    simp only [Tr.at?] at h
    rw [doneT_node]
    cases hk : (Tr.node l ks).kid? k with
    | none =>
      have hl := kid?_none (hp k (by simp)) hk
      by_cases hpn : p = []
      · rw [if_pos ⟨h2, hpn⟩, leafT_node, if_neg (by omega), if_pos h2, if_pos hl]
      · rw [if_neg (fun e => hpn e.2), if_pos hl]
    | some v =>
      rw [hk] at h
      obtain ⟨_, _, hv, hl⟩ := kid?_some hk
      have hpn : p ≠ [] := by rintro rfl; cases h
      rw [if_neg (fun e => hpn e.2), if_neg (by omega), hv]
      exact doneD_none d h2 p v hpn (fun x hx => hp x (by simp [hx])) h
/-- .. and where it leads to a kid. -/
theorem doneD_some (d : Dee) (h2 : d.kind = 2) (k : Int) : ∀ (p : List Int) (t u x : Tr), t.at? p = some u → u.kid? k = some x →
    doneT d (p ++ [k]) t = (t.setAt p (.node u.label (u.kids.take k.toNat ++ x.kids ++ u.kids.drop (k.toNat + 1))), 0)
  | [], t, u, x, h, hx => by
    cases h
    cases t with
    | node l ks =>
      obtain ⟨_, _, hv, hl⟩ := kid?_some hx
      rw [List.nil_append, doneT_node, if_pos ⟨h2, rfl⟩, leafT_node, if_neg (by omega), if_pos h2, if_neg (by omega), hv]
      rfl
  | j :: p, .node l ks, u, x, h, hx => by
    simp only [Tr.at?] at h
    rw [List.cons_append, doneT_node, Tr.setAt_node, if_neg (fun e => by simp at e)]
    cases hk : (Tr.node l ks).kid? j with
    | none => rw [hk] at h; cases h
    | some v =>
      rw [hk] at h
      obtain ⟨_, _, hv, hl⟩ := kid?_some hk
      rw [if_neg (by omega), hv, doneD_some d h2 k p v u x h hx]

/-- What undoes a deed. -/
def backD (t : Tr) (d : Dee) : Dee :=
  if d.kind = 2 then ⟨3, d.path.dropLast, d.path.getLast?.getD 0, (((t.at? d.path).getD Tr.zero).kids.length : Int), ((t.at? d.path).getD Tr.zero).label⟩
  else if d.kind = 3 then ⟨2, d.path ++ [d.pos], 0, 0, ⟨#[]⟩⟩
  else ⟨1, d.path, 0, 0, ((t.at? d.path).getD Tr.zero).label⟩
/-- A deed done to a tree; the deed that undoes it; a code. -/
def doD (t : Tr) (d : Dee) : Tr × Dee × Nat :=
  if fault t ≠ 0 then (Tr.zero, Dee.zero, fault t)
  else if dfault d ≠ 0 then (Tr.zero, Dee.zero, dfault d)
  else if (doneT d d.path t).2 ≠ 0 then (Tr.zero, Dee.zero, (doneT d d.path t).2)
  else if fault (doneT d d.path t).1 ≠ 0 then (Tr.zero, Dee.zero, fault (doneT d d.path t).1)
  else ((doneT d d.path t).1, backD t d, 0)
theorem doD_ok {t : Tr} {d : Dee} : (doD t d).2.2 = 0 ↔ fault t = 0 ∧ dfault d = 0 ∧ (doneT d d.path t).2 = 0 ∧ fault (doneT d d.path t).1 = 0 := by
  unfold doD
  by_cases h1 : fault t = 0
  · rw [if_neg (by simpa using h1)]
    by_cases h2 : dfault d = 0
    · rw [if_neg (by simpa using h2)]
      by_cases h3 : (doneT d d.path t).2 = 0
      · rw [if_neg (by simpa using h3)]
        by_cases h4 : fault (doneT d d.path t).1 = 0
        · rw [if_neg (by simpa using h4)]; simp [h1, h2, h3, h4]
        · rw [if_pos h4]; simp [h4]
      · rw [if_pos h3]; simp [h3]
    · rw [if_pos h2]; simp [h2]
  · rw [if_pos h1]; simp [h1]
theorem doD_is {t : Tr} {d : Dee} (h : (doD t d).2.2 = 0) : doD t d = ((doneT d d.path t).1, backD t d, 0) := by
  obtain ⟨h1, h2, h3, h4⟩ := doD_ok.1 h
  unfold doD
  rw [if_neg (by simpa using h1), if_neg (by simpa using h2), if_neg (by simpa using h3), if_neg (by simpa using h4)]
theorem doD_no {t : Tr} {d : Dee} (h : (doD t d).2.2 ≠ 0) : doD t d = (Tr.zero, Dee.zero, (doD t d).2.2) := by
  unfold doD at h ⊢
  by_cases h1 : fault t = 0
  · rw [if_neg (by simpa using h1)] at h ⊢
    by_cases h2 : dfault d = 0
    · rw [if_neg (by simpa using h2)] at h ⊢
      by_cases h3 : (doneT d d.path t).2 = 0
      · rw [if_neg (by simpa using h3)] at h ⊢
        by_cases h4 : fault (doneT d d.path t).1 = 0
        · rw [if_neg (by simpa using h4)] at h; exact absurd rfl h
        · rw [if_pos h4]
      · rw [if_pos h3]
    · rw [if_pos h2]
  · rw [if_pos h1]

/-- The kinds of a deed that could be done. -/
theorem done_cases {t : Tr} {d : Dee} (hd : dfault d = 0) (h : (doneT d d.path t).2 = 0) :
    (d.kind = 1 ∧ ∃ x, t.at? d.path = some x ∧ (doneT d d.path t).1 = t.setAt d.path (.node d.lab x.kids)) ∨
    (d.kind = 3 ∧ ∃ x, t.at? d.path = some x ∧ d.pos ≤ x.kids.length ∧ d.many ≤ x.kids.length - d.pos ∧ (doneT d d.path t).1 = t.setAt d.path
      (.node x.label (x.kids.take d.pos.toNat ++ [.node d.lab ((x.kids.drop d.pos.toNat).take d.many.toNat)] ++ x.kids.drop (d.pos.toNat + d.many.toNat)))) ∨
    (d.kind = 2 ∧ ∃ up k u x, d.path = up ++ [k] ∧ t.at? up = some u ∧ u.kid? k = some x ∧ (doneT d d.path t).1 = t.setAt up (.node u.label (u.kids.take k.toNat ++ x.kids ++ u.kids.drop (k.toNat + 1)))) := by
  obtain ⟨⟨k1, k3⟩, _, e2, _, _, hp, _⟩ := dfault_zero.1 hd
  by_cases h2 : d.kind = 2
  · refine .inr (.inr ⟨h2, ?_⟩)
    have hne := (e2 h2).2
    obtain ⟨up, k, hpe⟩ : ∃ up k, d.path = up ++ [k] := ⟨d.path.dropLast, d.path.getLast hne, (List.dropLast_concat_getLast hne).symm⟩
    cases hat : t.at? d.path with
    | none => rw [doneD_none d h2 d.path t hne hp hat] at h; cases h
    | some x =>
      rw [hpe, Tr.at?_append] at hat
      cases hu : t.at? up with
      | none => rw [hu] at hat; cases hat
      | some u =>
        rw [hu] at hat
        have hk : u.kid? k = some x := by
          simp only [Option.bind_some, Tr.at?] at hat
          cases hk : u.kid? k with
          | none => rw [hk] at hat; cases hat
          | some v => rw [hk] at hat; cases hat; rfl
        exact ⟨up, k, u, x, hpe, hu, hk, by rw [hpe, doneD_some d h2 k up t u x hu hk]⟩
  · cases hat : t.at? d.path with
    | none => rw [doneT_none d h2 d.path t hp hat] at h; cases h
    | some x =>
      rw [doneT_some d h2 d.path t x hat] at h ⊢
      by_cases h1 : d.kind = 1
      · refine .inl ⟨h1, x, rfl, ?_⟩
        unfold leafT; rw [if_pos h1]
      · refine .inr (.inl ⟨by omega, x, rfl, ?_⟩)
        unfold leafT at h ⊢
        rw [if_neg h1, if_neg h2] at h ⊢
        by_cases hr : (x.kids.length : Int) < d.pos ∨ (x.kids.length : Int) - d.pos < d.many
        · rw [if_pos hr] at h; cases h
        · rw [if_neg hr]; exact ⟨by omega, by omega, rfl⟩
theorem Tr.label_named {t x : Tr} {p : List Int} (h : t.at? p = some x) (hf : fault t = 0) : isLab x.label = true := by
  have h3 := (fault_zero.1 (fault_at h hf)).2.2
  cases x with
  | node l ks => exact (Tr.named_node l ks).1 h3 |>.1
theorem Tr.eta (t : Tr) : Tr.node t.label t.kids = t := by cases t; rfl

/-- Undone, it is as it was. -/
theorem undone {t : Tr} {d : Dee} (h : (doD t d).2.2 = 0) : doD (doD t d).1 (backD t d) = (t, d, 0) ∧ dfault (backD t d) = 0 := by
  obtain ⟨ht, hd, h0, hf⟩ := doD_ok.1 h
  rw [doD_is h]
  have hk := dfault_zero.1 hd
  obtain ⟨⟨k1, k3⟩, e1, e2, p0, m0, hp, hl⟩ := hk
  have main : dfault (backD t d) = 0 ∧ doneT (backD t d) (backD t d).path (doneT d d.path t).1 = (t, 0) ∧ backD (doneT d d.path t).1 (backD t d) = d := by
    rcases done_cases hd h0 with ⟨hk, x, hx, hr⟩ | ⟨hk, x, hx, hx1, hx2, hr⟩ | ⟨hk, up, k, u, x, hpe, hu, hx, hr⟩
    · have hb : backD t d = ⟨1, d.path, 0, 0, x.label⟩ := by unfold backD; rw [if_neg (by omega), if_neg (by omega), hx]; rfl
      rw [hb, hr]
      refine ⟨dfault_zero.2 ⟨by simp, by simp, by simp, by simp, by simp, hp, fun _ => Tr.label_named hx ht⟩, ?_, ?_⟩
      · rw [doneT_some _ (by simp) _ _ _ (Tr.at?_setAt t d.path _ x hx)]
        rw [show leafT ⟨1, d.path, 0, 0, x.label⟩ (.node d.lab x.kids) 0 = (.node x.label x.kids, 0) from rfl, Tr.eta, Tr.setAt_back t d.path _ x hx]
      · unfold backD
        simp only [Tr.at?_setAt t d.path _ x hx]
        have := e1 (by omega)
        cases d; simp_all [Tr.label_node]
    · have hb : backD t d = ⟨2, d.path ++ [d.pos], 0, 0, ⟨#[]⟩⟩ := by unfold backD; rw [if_neg (by omega), if_pos hk]
      obtain ⟨n, hn⟩ := Int.eq_ofNat_of_zero_le p0
      obtain ⟨m, hm⟩ := Int.eq_ofNat_of_zero_le m0
      rw [hn] at hx1; rw [hn, hm] at hx2
      have hn1 : n ≤ x.kids.length := by omega
      have hm1 : m ≤ x.kids.length - n := by omega
      rw [hn, hm] at hr
      simp only [Int.toNat_natCast] at hr
      have hlt : (x.kids.take n).length = n := by simp; omega
      have hat := Tr.at?_setAt t d.path (.node x.label (x.kids.take n ++ [.node d.lab ((x.kids.drop n).take m)] ++ x.kids.drop (n + m))) x hx
      have hkid : (Tr.node x.label (x.kids.take n ++ [.node d.lab ((x.kids.drop n).take m)] ++ x.kids.drop (n + m))).kid? (n : Int) = some (.node d.lab ((x.kids.drop n).take m)) := by
        simp only [Tr.kid?]; rw [if_neg (by omega)]
        simp [hlt]
      rw [hb, hr, hn]
      refine ⟨dfault_zero.2 ⟨by simp, by simp, by simp, by simp, by simp, ?_, by simp⟩, ?_, ?_⟩
      · intro y hy; simp at hy; rcases hy with hy | rfl
        · exact hp y hy
        · omega
      · rw [doneD_some _ rfl (n : Int) d.path _ _ _ hat hkid]
        simp only [Tr.kids_node, Tr.label_node, Int.toNat_natCast]
        have e : List.take n (x.kids.take n ++ [Tr.node d.lab ((x.kids.drop n).take m)] ++ x.kids.drop (n + m)) ++ (x.kids.drop n).take m ++ List.drop (n + 1) (x.kids.take n ++ [Tr.node d.lab ((x.kids.drop n).take m)] ++ x.kids.drop (n + m)) = x.kids := by
          rw [List.append_assoc (x.kids.take n), List.take_left' hlt]
          rw [show x.kids.take n ++ ([Tr.node d.lab ((x.kids.drop n).take m)] ++ x.kids.drop (n + m)) = (x.kids.take n ++ [Tr.node d.lab ((x.kids.drop n).take m)]) ++ x.kids.drop (n + m) by simp]
          rw [List.drop_left' (by simp; omega), List.append_assoc]
          rw [show x.kids.drop (n + m) = (x.kids.drop n).drop m by rw [List.drop_drop], List.take_append_drop, List.take_append_drop]
        rw [e, Tr.eta, Tr.setAt_back t d.path _ x hx]
      · unfold backD
        rw [Tr.at?_append, hat]
        simp only [Option.bind_some, Tr.at?, hkid]
        have hml : ((x.kids.drop n).take m).length = m := by simp; omega
        simp [Tr.kids_node, Tr.label_node, hml]
        cases d; simp_all
    · have hat : t.at? d.path = some x := by rw [hpe, Tr.at?_append, hu]; simp [Tr.at?, hx]
      have hb : backD t d = ⟨3, up, k, x.kids.length, x.label⟩ := by unfold backD; rw [if_pos hk, hat, hpe]; simp
      cases u with
      | node ul uks =>
      obtain ⟨hk0, hki, hkv, hkl⟩ := kid?_some hx
      obtain ⟨n, rfl⟩ := Int.eq_ofNat_of_zero_le hk0
      simp only [Int.toNat_natCast] at hki hr
      simp only [Tr.kids_node, Tr.label_node] at hr
      have hlt : (uks.take n).length = n := by simp; omega
      have hat2 := Tr.at?_setAt t up (.node ul (uks.take n ++ x.kids ++ uks.drop (n + 1))) _ hu
      have hxv : uks[n] = x := by rw [← hkv, kidN_in uks n hki]
      rw [hb, hr]
      refine ⟨dfault_zero.2 ⟨by simp, by simp, by simp, by simp, by simp, fun y hy => hp y (by rw [hpe]; simp [hy]), fun _ => Tr.label_named hat ht⟩, ?_, ?_⟩
      · rw [doneT_some _ (by simp) _ _ _ hat2]
        have hlen : (uks.take n ++ x.kids ++ uks.drop (n + 1)).length = n + x.kids.length + (uks.length - (n + 1)) := by simp; omega
        have hle : leafT ⟨3, up, (n : Int), (x.kids.length : Int), x.label⟩ (.node ul (uks.take n ++ x.kids ++ uks.drop (n + 1))) 0 = (.node ul uks, 0) := by
          rw [leafT_node, if_neg (by simp), if_neg (by simp), if_neg (by rw [hlen]; simp only []; omega)]
          simp only [Int.toNat_natCast]
          congr 2
          rw [List.append_assoc (uks.take n), List.take_left' hlt, List.drop_left' hlt]
          rw [List.take_left' rfl]
          rw [← List.append_assoc (uks.take n), List.drop_left' (by simp; omega)]
          have : [Tr.node x.label x.kids] = [uks[n]] := by rw [Tr.eta, hxv]
          rw [this, List.append_assoc]
          rw [show [uks[n]] ++ uks.drop (n + 1) = uks.drop n from (by rw [List.drop_eq_getElem_cons hki]; rfl), List.take_append_drop]
        rw [hle, Tr.setAt_back t up _ _ hu]
      · unfold backD
        simp only [hat2]
        have h1 := (e2 hk).1
        have h2 := e1 (by omega)
        cases d; simp_all
  obtain ⟨m1, m2, m3⟩ := main
  have hok : (doD (doneT d d.path t).1 (backD t d)).2.2 = 0 := doD_ok.2 ⟨hf, m1, by rw [m2], by rw [m2]; exact ht⟩
  exact ⟨by rw [doD_is hok, m2, m3], m1⟩
end Go.Proofs.Ytdbnfhpgmcjngab
