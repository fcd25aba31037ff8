/- Plain: trees as texts, and how they are read. No program here. -/
import Derived.Test.YtdbnfhpgmcjngabTrb
namespace Go.Proofs.Ytdbnfhpgmcjngab

def isBl (c : UInt8) : Bool := c == 32 || c == 10
def skip (s : List UInt8) : List UInt8 := s.dropWhile isBl
/-- What was read; or a code, and what was left. -/
abbrev Rd (α : Type) := Except (Nat × List UInt8) α
def labOf (s : List UInt8) : ByteArray := ⟨⟨(skip s).takeWhile okC⟩⟩
def behind (s : List UInt8) : List UInt8 := skip ((skip s).dropWhile okC)
mutual
def readT : Nat → List UInt8 → Nat → Rd (Tr × List UInt8)
  | 0, s, _ => .error (0, s)
  | N + 1, s, d =>
    if 10 < d then .error (3, s)
    else if (skip s).takeWhile okC = [] then .error (if skip s = [] then 5 else 4, skip s)
    else if (behind s).head? = some 40 then match readK N (behind s).tail d with
      | .error e => .error e
      | .ok x => .ok (.node (labOf s) x.1, x.2)
    else .ok (.node (labOf s) [], behind s)
def readK : Nat → List UInt8 → Nat → Rd (List Tr × List UInt8)
  | 0, s, _ => .error (0, s)
  | N + 1, s, d => match readT N s (d + 1) with
    | .error e => .error e
    | .ok x => if (skip x.2).head? = some 41 then .ok ([x.1], (skip x.2).tail) else match readK N (skip x.2) d with
      | .error e => .error e
      | .ok y => .ok (x.1 :: y.1, y.2)
end
theorem dropWhile_length {α : Type} (p : α → Bool) : ∀ l : List α, (l.dropWhile p).length ≤ l.length
  | [] => Nat.le_refl _
  | a :: l => by
    rw [List.dropWhile_cons]
    split
    · have := dropWhile_length p l; simp; omega
    · exact Nat.le_refl _
theorem skip_length (s : List UInt8) : (skip s).length ≤ s.length := dropWhile_length _ s
theorem takeDrop_length {α : Type} (p : α → Bool) (l : List α) : (l.takeWhile p).length + (l.dropWhile p).length = l.length := by
  rw [← List.length_append, List.takeWhile_append_dropWhile]
theorem behind_length {s : List UInt8} (h : ¬ (skip s).takeWhile okC = []) : (behind s).length + 1 ≤ s.length := by
  have h1 := skip_length s
  have h2 := takeDrop_length okC (skip s)
  have h3 := skip_length ((skip s).dropWhile okC)
  have h4 : 0 < ((skip s).takeWhile okC).length := List.length_pos_iff.2 h
  unfold behind; omega
/-- What is left is shorter. -/
theorem read_short : ∀ (N : Nat) (s : List UInt8) (d : Nat), (∀ x, readT N s d = .ok x → x.2.length + 1 ≤ s.length) ∧ (∀ x, readK N s d = .ok x → x.2.length + 1 ≤ s.length)
  | 0, s, d => ⟨fun x h => (by simp [readT] at h), fun x h => (by simp [readK] at h)⟩
  | N + 1, s, d => by
    constructor
    · intro x h
      rw [readT] at h
      split at h
      · cases h
      · split at h
        · cases h
        · rename_i hb
          have hl := behind_length hb
          split at h
          · split at h
            · cases h
            · rename_i y hy
              have := (read_short N (behind s).tail d).2 y hy
              rw [List.length_tail] at this
              cases h
              simp only []; omega
          · cases h; simp only []; omega
    · intro x h
      rw [readK] at h
      split at h
      · cases h
      · rename_i y hy
        have h1 := (read_short N s (d + 1)).1 y hy
        have h2 := skip_length y.2
        split at h
        · cases h; simp only [List.length_tail]; omega
        · split at h
          · cases h
          · rename_i z hz
            have h3 := (read_short N (skip y.2) d).2 z hz
            cases h; simp only []; omega
theorem read_stable : ∀ (N : Nat) (s : List UInt8) (d : Nat), (2 * s.length + 1 ≤ N → readT N s d = readT (N + 1) s d) ∧ (2 * s.length + 2 ≤ N → readK N s d = readK (N + 1) s d)
  | 0, s, d => ⟨fun h => absurd h (by omega), fun h => absurd h (by omega)⟩
  | N + 1, s, d => by
    constructor
    · intro h
      rw [readT, readT]
      split
      · rfl
      · split
        · rfl
        · rename_i hb
          have hl := behind_length hb
          split
          · rename_i hh
            have : 0 < (behind s).length := by cases he : behind s with
              | nil => rw [he] at hh; cases hh
              | cons => simp
            rw [(read_stable N (behind s).tail d).2 (by rw [List.length_tail]; omega)]
          · rfl
    · intro h
      rw [readK, readK, ← (read_stable N s (d + 1)).1 (by omega)]
      split
      · rfl
      · rename_i y hy
        have h1 := (read_short N s (d + 1)).1 y hy
        have h2 := skip_length y.2
        split
        · rfl
        · rw [(read_stable N (skip y.2) d).2 (by omega)]
/-- A tree that a text begins with; so deep. -/
def parseT (s : List UInt8) (d : Nat) : Rd (Tr × List UInt8) := readT (2 * s.length + 1) s d
def parseK (s : List UInt8) (d : Nat) : Rd (List Tr × List UInt8) := readK (2 * s.length + 2) s d
theorem readT_any (s : List UInt8) (d : Nat) : ∀ N, readT (2 * s.length + 1 + N) s d = parseT s d
  | 0 => rfl
  | N + 1 => by rw [← readT_any s d N]; exact ((read_stable (2 * s.length + 1 + N) s d).1 (by omega)).symm
theorem readK_any (s : List UInt8) (d : Nat) : ∀ N, readK (2 * s.length + 2 + N) s d = parseK s d
  | 0 => rfl
  | N + 1 => by rw [← readK_any s d N]; exact ((read_stable (2 * s.length + 2 + N) s d).2 (by omega)).symm
theorem readT_enough {N : Nat} {s : List UInt8} {d : Nat} (h : 2 * s.length + 1 ≤ N) : readT N s d = parseT s d := by
  obtain ⟨k, rfl⟩ := Nat.exists_eq_add_of_le h; exact readT_any s d k
theorem readK_enough {N : Nat} {s : List UInt8} {d : Nat} (h : 2 * s.length + 2 ≤ N) : readK N s d = parseK s d := by
  obtain ⟨k, rfl⟩ := Nat.exists_eq_add_of_le h; exact readK_any s d k
theorem parseT_eq (s : List UInt8) (d : Nat) : parseT s d =
    if 10 < d then .error (3, s)
    else if (skip s).takeWhile okC = [] then .error (if skip s = [] then 5 else 4, skip s)
    else if (behind s).head? = some 40 then match parseK (behind s).tail d with
      | .error e => .error e
      | .ok x => .ok (.node (labOf s) x.1, x.2)
    else .ok (.node (labOf s) [], behind s) := by
  rw [parseT, readT]
  split
  · rfl
  · split
    · rfl
    · rename_i hb
      have hl := behind_length hb
      split
      · rename_i hh
        have : 0 < (behind s).length := by cases he : behind s with
          | nil => rw [he] at hh; cases hh
          | cons => simp
        rw [readK_enough (by rw [List.length_tail]; omega)]
      · rfl
theorem parseK_eq (s : List UInt8) (d : Nat) : parseK s d = match parseT s (d + 1) with
    | .error e => .error e
    | .ok x => if (skip x.2).head? = some 41 then .ok ([x.1], (skip x.2).tail) else match parseK (skip x.2) d with
      | .error e => .error e
      | .ok y => .ok (x.1 :: y.1, y.2) := by
  rw [parseK, readK, readT_enough (by omega)]
  split
  · rfl
  · rename_i y hy
    have h1 := (read_short _ s (d + 1)).1 y hy
    have h2 := skip_length y.2
    split
    · rfl
    · rw [readK_enough (by omega)]
theorem parseT_short {s : List UInt8} {d : Nat} {x : Tr × List UInt8} (h : parseT s d = .ok x) : x.2.length + 1 ≤ s.length := (read_short _ s d).1 x h
theorem parseK_short {s : List UInt8} {d : Nat} {x : List Tr × List UInt8} (h : parseK s d = .ok x) : x.2.length + 1 ≤ s.length := (read_short _ s d).2 x h
/-- All of a text: the tree, the fault's code and place. -/
def parseP (s : List UInt8) : Tr × Int × Int :=
  if 2000 < s.length then (Tr.zero, 2, -1)
  else match parseT s 0 with
    | .error e => (Tr.zero, e.1, (s.length : Int) - e.2.length)
    | .ok x => if skip x.2 ≠ [] then (Tr.zero, 6, (s.length : Int) - (skip x.2).length) else if fault x.1 ≠ 0 then (Tr.zero, fault x.1, -1) else (x.1, 0, 0)

mutual
/-- A tree as a text, by what stands ahead of kids, behind them, and between. -/
def txt (o c b : List UInt8) : Tr → List UInt8 | .node l ks => l.data.toList ++ (if ks.isEmpty then [] else o ++ (txtL o c b ks ++ c))
def txtL (o c b : List UInt8) : List Tr → List UInt8 | [] => [] | k :: ks => txt o c b k ++ (if ks.isEmpty then [] else b ++ txtL o c b ks)
end
def textT (t : Tr) : List UInt8 := txt [40] [41] [32] t
/-- Blanks, a sign, and blanks. -/
def Around (x : UInt8) (o : List UInt8) : Prop := ∃ u v, o = u ++ x :: v ∧ u.all isBl = true ∧ v.all isBl = true
theorem skip_blanks : ∀ (u r : List UInt8), u.all isBl = true → skip (u ++ r) = skip r
  | [], r, _ => rfl
  | c :: u, r, h => by
    simp only [List.all_cons, Bool.and_eq_true] at h
    show (c :: (u ++ r)).dropWhile isBl = _
    rw [List.dropWhile_cons, if_pos h.1]; exact skip_blanks u r h.2
theorem skip_stop {c : UInt8} (r : List UInt8) (h : isBl c = false) : skip (c :: r) = c :: r := by
  show (c :: r).dropWhile isBl = _
  rw [List.dropWhile_cons, if_neg (by simp [h])]
theorem skip_skip (s : List UInt8) : skip (skip s) = skip s := by
  unfold skip
  induction s with
  | nil => rfl
  | cons c s ih =>
    rw [List.dropWhile_cons]
    split
    · exact ih
    · rename_i h; rw [List.dropWhile_cons, if_neg h]
theorem okC_no {c : UInt8} (h : okC c = true) : isBl c = false ∧ c ≠ 40 ∧ c ≠ 41 := by
  have h2 := okC_iff c
  rw [h] at h2
  have h3 := h2.1 rfl
  refine ⟨?_, ?_, ?_⟩
  · rw [Bool.eq_false_iff]; intro e
    simp only [isBl, Bool.or_eq_true, beq_iff_eq] at e
    rcases e with rfl | rfl <;> simp at h3
  · rintro rfl; simp at h3
  · rintro rfl; simp at h3
theorem blank_no {c : UInt8} (h : isBl c = true) : okC c = false := by
  cases h2 : okC c with
  | false => rfl
  | true => rw [(okC_no h2).1] at h; cases h
/-- No letter comes first. -/
def NoLet (r : List UInt8) : Prop := ∀ c, r.head? = some c → okC c = false
theorem take_label : ∀ (l r : List UInt8), l.all okC = true → NoLet r → (l ++ r).takeWhile okC = l ∧ (l ++ r).dropWhile okC = r
  | [], r, _, h => by
    cases r with
    | nil => exact ⟨rfl, rfl⟩
    | cons c r =>
      have := h c rfl
      exact ⟨by simp [this], by simp [this]⟩
  | c :: l, r, h1, h => by
    simp only [List.all_cons, Bool.and_eq_true] at h1
    have := take_label l r h1.2 h
    exact ⟨by simp [h1.1, this], by simp [h1.1, this]⟩
theorem noLet_blanks {u r : List UInt8} (hu : u.all isBl = true) (h : NoLet r) : NoLet (u ++ r) := by
  cases u with
  | nil => exact h
  | cons c u =>
    intro x hx
    simp only [List.cons_append, List.head?_cons, Option.some.injEq] at hx
    subst hx
    simp only [List.all_cons, Bool.and_eq_true] at hu
    exact blank_no hu.1
theorem noLet_sign {x : UInt8} {r : List UInt8} (h : okC x = false) : NoLet (x :: r) := fun c hc => by
  simp only [List.head?_cons, Option.some.injEq] at hc; subst hc; exact h
theorem around_noLet {x : UInt8} {o r : List UInt8} (h : Around x o) (hx : okC x = false) : NoLet (o ++ r) := by
  obtain ⟨u, v, rfl, hu, hv⟩ := h
  rw [List.append_assoc]
  exact noLet_blanks hu (noLet_sign hx)
theorem around_skip {x : UInt8} {o r : List UInt8} (h : Around x o) (hx : isBl x = false) : ∃ v, v.all isBl = true ∧ skip (o ++ r) = x :: (v ++ r) := by
  obtain ⟨u, v, rfl, hu, hv⟩ := h
  refine ⟨v, hv, ?_⟩
  rw [List.append_assoc, skip_blanks u _ hu]
  exact skip_stop _ hx
theorem lab_front {l : ByteArray} (h : isLab l = true) : l.data.toList.all okC = true ∧ l.data.toList ≠ [] := by
  rw [isLab_eq] at h
  simp only [Bool.and_eq_true, decide_eq_true_eq] at h
  refine ⟨h.1, fun e => ?_⟩
  have h4 : l.data.toList.length = 0 := by rw [e]; rfl
  have h3 : l.data.toList.length = l.size := Array.length_toList
  omega
theorem txt_front (o c b : List UInt8) {t : Tr} (h : t.named = true) : ∃ x r, txt o c b t = x :: r ∧ okC x = true := by
  obtain ⟨l, ks⟩ := t
  rw [Tr.named_node] at h
  obtain ⟨h1, h2⟩ := lab_front h.1
  cases he : l.data.toList with
  | nil => exact absurd he h2
  | cons x r =>
    rw [he] at h1
    simp only [List.all_cons, Bool.and_eq_true] at h1
    refine ⟨x, r ++ (if ks.isEmpty then [] else o ++ (txtL o c b ks ++ c)), ?_, h1.1⟩
    rw [txt, he]; rfl
/-- There and back. -/
theorem parse_txt {o c b : List UInt8} (ho : Around 40 o) (hc : Around 41 c) (hb : b.all isBl = true) (hbn : b ≠ []) : ∀ (t : Tr) (d : Nat) (p r : List UInt8), t.named = true → t.deepZ (10 - (d : Int)) = true → p.all isBl = true → NoLet r → (skip r).head? ≠ some 40 →
    ∃ r', parseT (p ++ (txt o c b t ++ r)) d = .ok (t, r') ∧ skip r' = skip r := by
  refine Tr.ind fun l ks ih d p r hn hd hp hr h40 => ?_
  rw [Tr.named_node] at hn
  obtain ⟨h1, h2⟩ := lab_front hn.1
  rw [Tr.deepZ] at hd
  simp only [Bool.and_eq_true, decide_eq_true_eq] at hd
  obtain ⟨hd1, hd2⟩ := hd
  rw [Tr.deepZL_iff] at hd2
  obtain ⟨x, xs, hx⟩ : ∃ x xs, l.data.toList = x :: xs := by
    cases he : l.data.toList with
    | nil => exact absurd he h2
    | cons x xs => exact ⟨x, xs, rfl⟩
  have hxl : okC x = true := by rw [hx] at h1; simp only [List.all_cons, Bool.and_eq_true] at h1; exact h1.1
  have hl : ∀ q : List UInt8, skip (p ++ (l.data.toList ++ q)) = l.data.toList ++ q := fun q => by
    rw [skip_blanks p _ hp, hx]; exact skip_stop _ (okC_no hxl).1
  have hlab : ∀ q : List UInt8, NoLet q → labOf (p ++ (l.data.toList ++ q)) = l ∧ behind (p ++ (l.data.toList ++ q)) = skip q ∧ ¬ (skip (p ++ (l.data.toList ++ q))).takeWhile okC = [] := fun q hq => by
    have := take_label l.data.toList q h1 hq
    refine ⟨?_, ?_, ?_⟩
    · rw [labOf, hl, this.1]
    · rw [behind, hl, this.2]
    · rw [hl, this.1]; exact h2
  cases ks with
  | nil =>
    have he : txt o c b (.node l []) = l.data.toList := by simp [txt]
    obtain ⟨g1, g2, g3⟩ := hlab r hr
    rw [he, parseT_eq, if_neg (by omega), if_neg g3, g2, if_neg h40, g1]
    exact ⟨_, rfl, skip_skip r⟩
  | cons k ks =>
    obtain ⟨v, hv, hov⟩ := around_skip (r := txtL o c b (k :: ks) ++ (c ++ r)) ho (by decide)
    have he : txt o c b (.node l (k :: ks)) ++ r = l.data.toList ++ (o ++ (txtL o c b (k :: ks) ++ (c ++ r))) := by simp [txt]
    obtain ⟨g1, g2, g3⟩ := hlab _ (around_noLet (r := txtL o c b (k :: ks) ++ (c ++ r)) ho (by decide))
    rw [he, parseT_eq, if_neg (by omega), if_neg g3, g2, hov, if_pos (by rfl), g1]
    obtain ⟨vc, hvc, hcv⟩ := around_skip (r := r) hc (by decide)
    have key : ∀ (js : List Tr) (q : List UInt8), js ≠ [] → (∀ j ∈ js, j ∈ k :: ks) → q.all isBl = true → parseK (q ++ (txtL o c b js ++ (c ++ r))) d = .ok (js, vc ++ r) := by
      intro js
      induction js with
      | nil => intro q h; exact absurd rfl h
      | cons j js ihj =>
        intro q _ hm hq
        have hj := hm j (by simp)
        cases js with
        | nil =>
          obtain ⟨r', hr1, hr2⟩ := ih j hj (d + 1) q (c ++ r) (hn.2 j hj) (by rw [show (10 : Int) - ((d + 1 : Nat) : Int) = 10 - (d : Int) - 1 by omega]; exact hd2 j hj) hq (around_noLet hc (by decide)) (by rw [hcv]; simp)
          have e : txtL o c b [j] = txt o c b j := by simp [txtL]
          rw [e, parseK_eq, hr1]
          simp only [hr2, hcv, List.head?_cons, List.tail_cons, if_true]
        | cons j2 js =>
          obtain ⟨x2, r2, hx2, ox2⟩ := txt_front o c b (hn.2 j2 (hm j2 (by simp)))
          obtain ⟨rest, hrest⟩ : ∃ rest, txtL o c b (j2 :: js) ++ (c ++ r) = x2 :: rest := by
            rw [txtL, hx2]; exact ⟨_, rfl⟩
          have hsk : skip (b ++ (txtL o c b (j2 :: js) ++ (c ++ r))) = txtL o c b (j2 :: js) ++ (c ++ r) := by
            rw [skip_blanks b _ hb, hrest]; exact skip_stop _ (okC_no ox2).1
          have hnl : NoLet (b ++ (txtL o c b (j2 :: js) ++ (c ++ r))) := by
            cases b with
            | nil => exact absurd rfl hbn
            | cons y b =>
              simp only [List.all_cons, Bool.and_eq_true] at hb
              exact noLet_sign (blank_no hb.1)
          obtain ⟨r', hr1, hr2⟩ := ih j hj (d + 1) q (b ++ (txtL o c b (j2 :: js) ++ (c ++ r))) (hn.2 j hj) (by rw [show (10 : Int) - ((d + 1 : Nat) : Int) = 10 - (d : Int) - 1 by omega]; exact hd2 j hj) hq hnl
            (by rw [hsk, hrest]; simp only [List.head?_cons, ne_eq, Option.some.injEq]; exact (okC_no ox2).2.1)
          have e : txtL o c b (j :: j2 :: js) ++ (c ++ r) = txt o c b j ++ (b ++ (txtL o c b (j2 :: js) ++ (c ++ r))) := by
            rw [txtL]; simp
          have hne : ¬ (txtL o c b (j2 :: js) ++ (c ++ r)).head? = some 41 := by
            rw [hrest]; simp only [List.head?_cons, Option.some.injEq]; exact (okC_no ox2).2.2
          have hi := ihj [] (by simp) (fun z hz => hm z (List.mem_cons_of_mem _ hz)) rfl
          rw [List.nil_append] at hi
          rw [e, parseK_eq, hr1]
          simp only [hr2, hsk, if_neg hne, hi]
    have := key (k :: ks) v (by simp) (fun _ h => h) hv
    simp only [List.tail_cons, this]
    exact ⟨_, rfl, skip_blanks vc r hvc⟩

theorem around_one (x : UInt8) : Around x [x] := ⟨[], [], rfl, rfl, rfl⟩
theorem fault_parts {t : Tr} (h : fault t = 0) : t.sz ≤ 40 ∧ t.deepZ 10 = true ∧ t.named = true := by
  unfold fault at h
  split at h
  · cases h
  · split at h
    · cases h
    · split at h
      · cases h
      · rename_i h1 h2 h3
        exact ⟨by omega, by simpa using h2, by simpa using h3⟩
/-- How long it is. -/
theorem txt_length (t : Tr) (h : t.named = true) : (textT t).length + 1 ≤ 8 * t.sz := by
  unfold textT
  revert h
  refine Tr.ind (P := fun t => t.named = true → (txt [40] [41] [32] t).length + 1 ≤ 8 * t.sz) (fun l ks ih hn => ?_) t
  rw [Tr.named_node] at hn
  have hl : l.data.toList.length ≤ 6 := by
    have := hn.1; rw [isLab_eq] at this; simp only [Bool.and_eq_true, decide_eq_true_eq] at this
    have h3 : l.data.toList.length = l.size := Array.length_toList
    omega
  have key : ∀ js : List Tr, (∀ j ∈ js, j ∈ ks) → js ≠ [] → (txtL [40] [41] [32] js).length + 1 ≤ 8 * Tr.szL js := by
    intro js
    induction js with
    | nil => intro _ h; exact absurd rfl h
    | cons j js ihj =>
      intro hm _
      have h1 := ih j (hm j (by simp)) (hn.2 j (hm j (by simp)))
      rw [txtL, Tr.szL]
      cases js with
      | nil => simp only [List.isEmpty_nil, if_true, List.append_nil, Tr.szL]; omega
      | cons j2 js =>
        have h2 := ihj (fun z hz => hm z (List.mem_cons_of_mem _ hz)) (by simp)
        simp only [List.isEmpty_cons, Bool.false_eq_true, if_false, List.length_append, List.length_cons, List.length_nil]
        omega
  rw [txt, Tr.sz]
  cases ks with
  | nil => simp only [List.isEmpty_nil, if_true, List.append_nil, Tr.szL]; omega
  | cons k ks =>
    have := key (k :: ks) (fun _ h => h) (by simp)
    simp only [List.isEmpty_cons, Bool.false_eq_true, if_false, List.length_append, List.length_cons, List.length_nil]
    omega
/-- What was printed is read as the tree that it was. -/
theorem parse_back {o c b p q : List UInt8} (ho : Around 40 o) (hc : Around 41 c) (hb : b.all isBl = true) (hbn : b ≠ []) (hp : p.all isBl = true) (hq : q.all isBl = true) {t : Tr} (h : fault t = 0) (hl : (p ++ (txt o c b t ++ q)).length ≤ 2000) :
    parseP (p ++ (txt o c b t ++ q)) = (t, 0, 0) := by
  obtain ⟨_, h2, h3⟩ := fault_parts h
  have hq0 : skip q = [] := by have := skip_blanks q [] hq; rw [List.append_nil] at this; exact this
  have hnl : NoLet q := by have := noLet_blanks (r := []) hq (fun c hc => by cases hc); rw [List.append_nil] at this; exact this
  obtain ⟨r', e1, e2⟩ := parse_txt ho hc hb hbn t 0 p q h3 (by simpa using h2) hp hnl (by rw [hq0]; simp)
  unfold parseP
  rw [if_neg (by omega), e1]
  simp only [e2, hq0, h]
  simp
theorem parse_text {t : Tr} (h : fault t = 0) : parseP (textT t) = (t, 0, 0) := by
  obtain ⟨h1, _, h3⟩ := fault_parts h
  have hl := txt_length t h3
  have := parse_back (p := []) (q := []) (around_one 40) (around_one 41) (b := [32]) (by decide) (by simp) rfl rfl h (by
    show (textT t ++ []).length ≤ 2000
    rw [List.append_nil]; omega)
  rw [List.append_nil, List.nil_append] at this
  exact this
/-- What is another tree is printed otherwise. -/
theorem text_inj {t u : Tr} (h : fault t = 0) (g : fault u = 0) (e : textT t = textT u) : t = u := by
  have h1 := parse_text h
  rw [e, parse_text g] at h1
  exact (congrArg Prod.fst h1).symm
/-- What was read is a tree. -/
theorem parse_fault {s : List UInt8} (h : (parseP s).2.1 = 0) : fault (parseP s).1 = 0 := by
  unfold parseP at h ⊢
  split
  · rename_i h1; rw [if_pos h1] at h; cases h
  · rename_i h1
    rw [if_neg h1] at h
    split at h
    · rename_i e he
      exfalso
      have : ∀ N s d, (∀ e, readT N s d = .error e → 2 * s.length + 1 ≤ N → e.1 ≠ 0) ∧ (∀ e, readK N s d = .error e → 2 * s.length + 2 ≤ N → e.1 ≠ 0) := by
        intro N
        induction N with
        | zero => intro s d; exact ⟨fun e _ h => by omega, fun e _ h => by omega⟩
        | succ N ih =>
          intro s d
          constructor
          · intro e hE hN
            rw [readT] at hE
            split at hE
            · cases hE; simp
            · split at hE
              · cases hE; simp only []; split <;> simp
              · rename_i hb
                have hl := behind_length hb
                split at hE
                · rename_i hh
                  have : 0 < (behind s).length := by cases he : behind s with
                    | nil => rw [he] at hh; cases hh
                    | cons => simp
                  split at hE
                  · rename_i e2 he2
                    cases hE
                    exact (ih (behind s).tail d).2 _ he2 (by rw [List.length_tail]; omega)
                  · cases hE
                · cases hE
          · intro e hE hN
            rw [readK] at hE
            split at hE
            · rename_i e2 he2
              cases hE
              exact (ih s (d + 1)).1 _ he2 (by omega)
            · rename_i y hy
              have h1 := (read_short N s (d + 1)).1 y hy
              have h2 := skip_length y.2
              split at hE
              · cases hE
              · split at hE
                · rename_i e2 he2
                  cases hE
                  exact (ih (skip y.2) d).2 _ he2 (by omega)
                · cases hE
      have := (this _ s 0).1 e he (Nat.le_refl _)
      simp only [] at h; omega
    · rename_i x hx
      split at h
      · cases h
      · rename_i h2
        split at h
        · rename_i h3; simp only [] at h; omega
        · rename_i h3
          rw [if_neg h2, if_neg h3]; simpa using h3
end Go.Proofs.Ytdbnfhpgmcjngab
