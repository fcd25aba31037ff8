/- Plain: what is done in two kids is done in both. No program here. -/
import Derived.Test.YtdbnfhpgmcjngabMp
namespace Go.Proofs.Ytdbnfhpgmcjngab

def ids (m c : Nat) : List (Nat × Nat) := (List.range' m c).map fun k => (k, k)
def idt (m c : Nat) : List (Nat × Nat × Nat) := (List.range' m c).map fun k => (k, k, k)
theorem ids_succ (m c : Nat) : ids m (c + 1) = (m, m) :: ids (m + 1) c := by simp [ids, List.range'_succ]
theorem idt_succ (m c : Nat) : idt m (c + 1) = (m, m, m) :: idt (m + 1) c := by simp [idt, List.range'_succ]
theorem idt_zero (m : Nat) : idt m 0 = [] := by simp [idt]
theorem mem_ids {m c n p : Nat} : (n, p) ∈ ids m c ↔ n = p ∧ m ≤ n ∧ n < m + c := by
  simp only [ids, List.mem_map, List.mem_range'_1, Prod.mk.injEq]
  constructor
  · rintro ⟨k, h, rfl, rfl⟩; exact ⟨rfl, h.1, h.2⟩
  · rintro ⟨rfl, h⟩; exact ⟨n, h, rfl, rfl⟩
theorem mem_idt {m c n p q : Nat} : (n, p, q) ∈ idt m c ↔ n = p ∧ n = q ∧ m ≤ n ∧ n < m + c := by
  simp only [idt, List.mem_map, List.mem_range'_1, Prod.mk.injEq]
  constructor
  · rintro ⟨k, h, rfl, rfl, rfl⟩; exact ⟨rfl, rfl, h.1, h.2⟩
  · rintro ⟨rfl, rfl, h⟩; exact ⟨n, h, rfl, rfl, rfl⟩
theorem com_same : ∀ (C : List Tr) (m : Nat), com C C m m = ids m C.length
  | [], m => by rw [com_nil]; rfl
  | c :: C, m => by rw [com_cons, if_pos (beq_yes c), com_same C, List.length_cons, ids_succ]
/-- One tree is another one. -/
theorem com_one (u v : Tr) (C : List Tr) (hu : u ≠ v) (hv : v ∉ C) : ∀ (A : List Tr) (m : Nat), com (A ++ u :: C) (A ++ v :: C) m m = ids m A.length ++ ids (m + A.length + 1) C.length
  | [], m => by
    have h1 := lcs_right C C v
    have h2 := (lcs_le (u :: C) C).2
    rw [lcs_self] at h1
    simp only [List.nil_append, List.length_nil, Nat.add_zero]
    rw [com_cons, if_neg (by simp [beq_no hu]), if_pos (by omega)]
    have e0 : ids m 0 = [] := rfl
    rw [e0, List.nil_append]
    cases C with
    | nil => rw [com_nil]; rfl
    | cons c C =>
      have h3 := (lcs_le C (v :: c :: C)).1
      have h4 := lcs_self (c :: C)
      rw [com_cons, if_neg (by simp [beq_no (show c ≠ v from fun e => hv (by rw [e]; simp))]), if_neg (by rw [h4]; simp; omega), com_same]
  | a :: A, m => by
    rw [List.cons_append, List.cons_append, com_cons, if_pos (beq_yes a), com_one u v C hu hv A, List.length_cons, ids_succ]
    rw [show m + 1 + A.length + 1 = m + (A.length + 1) + 1 by omega]; rfl
def seg (l : List Tr) (m n : Nat) : List Tr := (l.drop m).take (n - m)
theorem seg_nil (l : List Tr) (m : Nat) : seg l m m = [] := by simp [seg]
theorem partM_nil (f : Tr → Tr → Tr → Ex Tr) (n : Nat) : partM f [] [] [] n = .ok [] := by unfold partM; rw [if_pos (by rw [(Tr.beqL_iff [] []).2 rfl]; rfl)]
def exMap {α β : Type} (g : α → β) : Ex α → Ex β | .error e => .error e | .ok r => .ok (g r)
theorem segM_cons (f : Tr → Tr → Tr → Ex Tr) (o a b : List Tr) (H : List (Nat × Nat × Nat)) (m n : Nat) {s : List Tr} (hs : partM f (seg o m n) (seg a m n) (seg b m n) m = .ok s) :
    segM f o a b ((n, n, n) :: H) m m m = exMap (fun r => s ++ kidN o n :: r) (segM f o a b H (n + 1) (n + 1) (n + 1)) := by
  rw [segM]
  simp only [seg] at hs
  rw [hs]
  simp only []
  cases segM f o a b H (n + 1) (n + 1) (n + 1) <;> rfl
theorem exMap_map {α β γ : Type} (g : β → γ) (h : α → β) (x : Ex α) : exMap g (exMap h x) = exMap (fun r => g (h r)) x := by cases x <;> rfl
theorem segM_ids (f : Tr → Tr → Tr → Ex Tr) (o a b : List Tr) (H : List (Nat × Nat × Nat)) : ∀ (c m : Nat), m + c ≤ o.length →
    segM f o a b (idt m c ++ H) m m m = exMap (fun r => seg o m (m + c) ++ r) (segM f o a b H (m + c) (m + c) (m + c))
  | 0, m, h => by
    rw [idt_zero, List.nil_append, Nat.add_zero, seg_nil]
    cases segM f o a b H m m m <;> rfl
  | c + 1, m, h => by
    rw [idt_succ, List.cons_append, segM_cons f o a b _ m m (by rw [seg_nil, seg_nil, seg_nil]; exact partM_nil f m), segM_ids f o a b H c (m + 1) (by omega), exMap_map]
    rw [show m + 1 + c = m + (c + 1) by omega]
    congr 1
    funext r
    have : seg o m (m + (c + 1)) = kidN o m :: seg o (m + 1) (m + (c + 1)) := by
      unfold seg
      rw [List.drop_eq_getElem_cons (show m < o.length by omega), show m + (c + 1) - m = (m + (c + 1) - (m + 1)) + 1 by omega, List.take_succ_cons, kidN_in o m (by omega)]
    rw [this]; rfl
/-- Over a gap, and then those that all three have. -/
theorem segM_gap (f : Tr → Tr → Tr → Ex Tr) (o a b : List Tr) (H : List (Nat × Nat × Nat)) (c m n : Nat) (h : n + (c + 1) ≤ o.length) {s : List Tr} (hs : partM f (seg o m n) (seg a m n) (seg b m n) m = .ok s) :
    segM f o a b (idt n (c + 1) ++ H) m m m = exMap (fun r => s ++ (seg o n (n + (c + 1)) ++ r)) (segM f o a b H (n + (c + 1)) (n + (c + 1)) (n + (c + 1))) := by
  rw [idt_succ, List.cons_append, segM_cons f o a b _ m n hs, segM_ids f o a b H c (n + 1) (by omega), exMap_map]
  rw [show n + 1 + c = n + (c + 1) by omega]
  congr 1
  funext r
  have : seg o n (n + (c + 1)) = kidN o n :: seg o (n + 1) (n + (c + 1)) := by
    unfold seg
    rw [List.drop_eq_getElem_cons (show n < o.length by omega), show n + (c + 1) - n = (n + (c + 1) - (n + 1)) + 1 by omega, List.take_succ_cons, kidN_in o n (by omega)]
  rw [this]; rfl
theorem beqL_no {a b : List Tr} (h : a ≠ b) : Tr.beqL a b = false := by rw [Bool.eq_false_iff]; exact fun e => h ((Tr.beqL_iff _ _).1 e)
theorem beqL_yes (a : List Tr) : Tr.beqL a a = true := (Tr.beqL_iff a a).2 rfl
theorem part_left (f : Tr → Tr → Tr → Ex Tr) (u x : Tr) (n : Nat) (h : x ≠ u) : partM f [u] [x] [u] n = .ok [x] := by
  have e := beqL_no (show [x] ≠ [u] from fun e => h (by simpa using e))
  unfold partM; rw [if_neg (by simp [e]), if_pos (beqL_yes _)]
theorem part_right (f : Tr → Tr → Tr → Ex Tr) (v y : Tr) (n : Nat) : partM f [v] [v] [y] n = .ok [y] := by
  unfold partM; rw [if_pos (by simp [beqL_yes])]
theorem part_both (N : Nat) (u v x y : Tr) (n : Nat) (hx : x ≠ u) (hy : y ≠ v) : partM (mixT (N + 1)) [u, v] [x, v] [u, y] n = .ok [x, y] := by
  have e1 := beqL_no (show [x, v] ≠ [u, v] from fun e => hx (by simpa using e))
  have e2 := beqL_no (show [x, v] ≠ [u, y] from fun e => hx (by simp at e; exact e.1))
  have e3 := beqL_no (show [u, y] ≠ [u, v] from fun e => hy (by simpa using e))
  unfold partM
  rw [if_neg (by simp [e1, e2]), if_neg (by simp [e3]), if_neg (by simp)]
  simp only [zipM]
  rw [mixT_same N u x u (by simp [beq_yes]), mixT_left N v v y (by simp [beq_no hy, beq_no (Ne.symm hy)]) (beq_yes v)]
section
variable {u v x y : Tr} {A B C : List Tr}
theorem heldT_two (l : ByteArray) (hx : x ≠ u) (hy : y ≠ v) (x2 : x ∉ B ++ v :: C) (y2 : y ∉ C) :
    heldT (.node l (A ++ u :: (B ++ v :: C))) (.node l (A ++ x :: (B ++ v :: C))) (.node l (A ++ u :: (B ++ y :: C))) = idt 0 A.length ++ (idt (A.length + 1) B.length ++ (idt (A.length + 1 + B.length + 1) C.length ++ [])) := by
  have c1 : common (A ++ u :: (B ++ v :: C)) (A ++ x :: (B ++ v :: C)) = ids 0 A.length ++ ids (0 + A.length + 1) (B ++ v :: C).length := com_one u x _ (Ne.symm hx) x2 A 0
  have c2 : common (A ++ u :: (B ++ v :: C)) (A ++ u :: (B ++ y :: C)) = ids 0 (A ++ u :: B).length ++ ids (0 + (A ++ u :: B).length + 1) C.length := by
    have := com_one v y C (Ne.symm hy) y2 (A ++ u :: B) 0
    simpa [common] using this
  unfold heldT
  simp only [Tr.kids_node]
  have r1 := common_rise (A ++ u :: (B ++ v :: C)) (A ++ x :: (B ++ v :: C))
  have r2 := common_rise (A ++ u :: (B ++ v :: C)) (A ++ u :: (B ++ y :: C))
  refine rise_eq (fun x => x.1) _ _ ((held_rise r1 r2).imp fun h => h.1) ?_ ?_
  · have hr : ∀ m c, (idt m c).Pairwise fun p q => p.1 < q.1 := fun m c => by
      unfold idt; rw [List.pairwise_map]; exact List.pairwise_lt_range'
    simp only [List.pairwise_append, List.append_nil]
    refine ⟨hr _ _, ⟨hr _ _, hr _ _, ?_⟩, ?_⟩
    · rintro ⟨a, b, c⟩ ha ⟨d, e, f⟩ hb
      have := mem_idt.1 ha; have := mem_idt.1 hb; simp only []; omega
    · rintro ⟨a, b, c⟩ ha ⟨d, e, f⟩ hb
      have := mem_idt.1 ha
      rcases List.mem_append.1 hb with hb | hb <;> (have := mem_idt.1 hb; simp only []; omega)
  · rintro ⟨n, p, q⟩
    rw [mem_held, c1, c2]
    simp only [List.mem_append, mem_ids, mem_idt, List.length_append, List.length_cons, List.append_nil]
    omega
theorem seg_at (P Q R : List Tr) (m n : Nat) (hm : m = P.length) (hn : n = P.length + Q.length) : seg (P ++ (Q ++ R)) m n = Q := by
  subst hm; subst hn
  unfold seg
  rw [List.drop_left' rfl, List.take_left' (by omega)]
/-- Both are done. -/
theorem mix_two (N : Nat) (l : ByteArray) (hx : x ≠ u) (hy : y ≠ v) (x2 : x ∉ B ++ v :: C) (y2 : y ∉ C) :
    mixT (N + 2) (.node l (A ++ u :: (B ++ v :: C))) (.node l (A ++ x :: (B ++ v :: C))) (.node l (A ++ u :: (B ++ y :: C))) = .ok (.node l (A ++ x :: (B ++ y :: C))) := by
  have n1 : ¬ Tr.node l (A ++ x :: (B ++ v :: C)) = .node l (A ++ u :: (B ++ y :: C)) := by simp [hx]
  have n2 : ¬ Tr.node l (A ++ u :: (B ++ y :: C)) = .node l (A ++ u :: (B ++ v :: C)) := by simp [hy]
  have n3 : ¬ Tr.node l (A ++ x :: (B ++ v :: C)) = .node l (A ++ u :: (B ++ v :: C)) := by simp [hx]
  refine mixT_ok (N + 1) _ _ _ (by simp [beq_no n1, beq_no n2]) (by simp [beq_no n3]) (l := l) (by simp [mixL, Tr.label_node]) ?_
  rw [heldT_two l hx hy x2 y2]
  simp only [Tr.kids_node]
  have s0 := segM_ids (mixT (N + 1)) (A ++ u :: (B ++ v :: C)) (A ++ x :: (B ++ v :: C)) (A ++ u :: (B ++ y :: C)) (idt (A.length + 1) B.length ++ (idt (A.length + 1 + B.length + 1) C.length ++ [])) A.length 0 (by simp)
  rw [s0, Nat.zero_add]
  have sA : seg (A ++ u :: (B ++ v :: C)) 0 A.length = A := by
    have := seg_at [] A (u :: (B ++ v :: C)) 0 A.length rfl (by simp); simpa using this
  rw [sA]
  have tail : ∀ (s : List Tr) (m : Nat), partM (mixT (N + 1)) (seg (A ++ u :: (B ++ v :: C)) m (A.length + 1 + B.length + 1)) (seg (A ++ x :: (B ++ v :: C)) m (A.length + 1 + B.length + 1)) (seg (A ++ u :: (B ++ y :: C)) m (A.length + 1 + B.length + 1)) m = .ok s → m ≤ A.length + 1 + B.length + 1 →
      segM (mixT (N + 1)) (A ++ u :: (B ++ v :: C)) (A ++ x :: (B ++ v :: C)) (A ++ u :: (B ++ y :: C)) (idt (A.length + 1 + B.length + 1) C.length ++ []) m m m = .ok (s ++ C) := by
    intro s m hs hm
    cases C with
    | nil =>
      rw [List.length_nil, idt_zero, List.nil_append, segM]
      have e : ∀ (L : List Tr), L.length = A.length + 1 + B.length + 1 → L.drop m = seg L m (A.length + 1 + B.length + 1) := fun L hL => by
        unfold seg; rw [List.take_of_length_le]; rw [List.length_drop]; omega
      rw [e _ (by simp; omega), e _ (by simp; omega), e _ (by simp; omega), hs, List.append_nil]
    | cons c C =>
      rw [List.length_cons, segM_gap _ _ _ _ [] C.length m (A.length + 1 + B.length + 1) (by simp; omega) hs]
      have e1 : seg (A ++ u :: (B ++ v :: c :: C)) (A.length + 1 + B.length + 1) (A.length + 1 + B.length + 1 + (C.length + 1)) = c :: C := by
        have := seg_at (A ++ u :: (B ++ [v])) (c :: C) [] (A.length + 1 + B.length + 1) (A.length + 1 + B.length + 1 + (C.length + 1)) (by simp; omega) (by simp; omega)
        simpa using this
      have e2 : ∀ L : List Tr, L.length = A.length + 1 + B.length + 1 + (C.length + 1) → L.drop (A.length + 1 + B.length + 1 + (C.length + 1)) = [] := fun L hL => by rw [List.drop_eq_nil_iff]; omega
      rw [e1, segM, e2 _ (by simp; omega), e2 _ (by simp; omega), e2 _ (by simp; omega), partM_nil]
      simp [exMap]
  cases B with
  | nil =>
    have h1 : ∀ p q : Tr, seg (A ++ p :: ([] ++ q :: C)) A.length (A.length + 1 + 0 + 1) = [p, q] := fun p q => by
      have := seg_at A [p, q] C A.length (A.length + 1 + 0 + 1) rfl (by simp); simpa using this
    have := tail [x, y] A.length (by simp only [List.length_nil]; rw [h1, h1, h1]; exact part_both N u v x y _ hx hy) (by simp; omega)
    simp only [List.length_nil, List.nil_append] at this
    simp only [List.length_nil, idt_zero, List.nil_append]
    rw [this]; simp [exMap]
  | cons c B =>
    have hp : ∀ p q : Tr, seg (A ++ p :: (c :: B ++ q :: C)) A.length (A.length + 1) = [p] := fun p q => by
      have := seg_at A [p] (c :: B ++ q :: C) A.length (A.length + 1) rfl (by simp); simpa using this
    rw [List.length_cons, segM_gap _ _ _ _ _ B.length A.length (A.length + 1) (by simp; omega) (by rw [hp, hp, hp]; exact part_left _ u x _ hx)]
    have e1 : seg (A ++ u :: (c :: B ++ v :: C)) (A.length + 1) (A.length + 1 + (B.length + 1)) = c :: B := by
      have := seg_at (A ++ [u]) (c :: B) (v :: C) (A.length + 1) (A.length + 1 + (B.length + 1)) (by simp) (by simp); simpa using this
    have h2 : ∀ p q : Tr, seg (A ++ p :: (c :: B ++ q :: C)) (A.length + 1 + (B.length + 1)) (A.length + 1 + (B.length + 1) + 1) = [q] := fun p q => by
      have := seg_at (A ++ p :: (c :: B)) [q] C (A.length + 1 + (B.length + 1)) (A.length + 1 + (B.length + 1) + 1) (by simp; omega) (by simp; omega); simpa using this
    have := tail [y] (A.length + 1 + (B.length + 1)) (by simp only [List.length_cons]; rw [h2, h2, h2]; exact part_right _ v y _) (by simp)
    simp only [List.length_cons] at this
    rw [e1, this]; simp [exMap]
end
theorem split_two (ks : List Tr) {i j : Nat} (hij : i < j) (hj : j < ks.length) : ∃ A B C, ∃ u v, ks = A ++ u :: (B ++ v :: C) ∧ A.length = i ∧ A.length + 1 + B.length = j ∧ u = ks[i] ∧ v = ks[j] := by
  refine ⟨ks.take i, (ks.drop (i + 1)).take (j - (i + 1)), ks.drop (j + 1), ks[i], ks[j], ?_, by simp; omega, by simp; omega, rfl, rfl⟩
  have h1 : ks.drop (i + 1) = (ks.drop (i + 1)).take (j - (i + 1)) ++ ks[j] :: ks.drop (j + 1) := by
    conv => lhs; rw [← List.take_append_drop (j - (i + 1)) (ks.drop (i + 1))]
    rw [List.drop_drop, show i + 1 + (j - (i + 1)) = j by omega, List.drop_eq_getElem_cons hj]
  rw [← h1, ← List.drop_eq_getElem_cons (by omega), List.take_append_drop]
theorem mix_apart_lt (N : Nat) (l : ByteArray) (ks : List Tr) (x y : Tr) {i j : Nat} (hij : i < j) (hj : j < ks.length) (hx : x ∉ ks) (hy : y ∉ ks) :
    mixT (N + 2) (.node l ks) (.node l (ks.set i x)) (.node l (ks.set j y)) = .ok (.node l ((ks.set i x).set j y)) := by
  obtain ⟨A, B, C, u, v, e, h1, h2, h3, h4⟩ := split_two ks hij hj
  clear h3 h4
  subst e
  have s1 : (A ++ u :: (B ++ v :: C)).set i x = A ++ x :: (B ++ v :: C) := by rw [← h1]; simp
  have s2 : ∀ z : Tr, (A ++ z :: (B ++ v :: C)).set j y = A ++ z :: (B ++ y :: C) := fun z => by
    rw [← h2]
    have : A ++ z :: (B ++ v :: C) = (A ++ z :: B) ++ v :: C := by simp
    rw [this, List.set_append_right _ _ (by simp; omega)]
    have : A.length + 1 + B.length - (A ++ z :: B).length = 0 := by simp; omega
    rw [this]; simp
  rw [s1, s2, s2]
  simp only [List.mem_append, List.mem_cons, not_or] at hx hy
  exact mix_two N l hx.2.1 hy.2.2.2.1 (by simp only [List.mem_append, List.mem_cons, not_or]; exact ⟨hx.2.2.1, hx.2.2.2.1, hx.2.2.2.2⟩) hy.2.2.2.2
/-- What is done in two kids is done in both. -/
theorem mix_apart (N : Nat) (l : ByteArray) (ks : List Tr) (x y : Tr) {i j : Nat} (hij : i ≠ j) (hi : i < ks.length) (hj : j < ks.length) (hx : x ∉ ks) (hy : y ∉ ks) :
    mixT (N + 2) (.node l ks) (.node l (ks.set i x)) (.node l (ks.set j y)) = .ok (.node l ((ks.set i x).set j y)) := by
  by_cases h : i < j
  · exact mix_apart_lt N l ks x y h hj hx hy
  · rw [mixT_swap, List.set_comm _ _ hij]; exact mix_apart_lt N l ks y x (by omega) hi hy hx
end Go.Proofs.Ytdbnfhpgmcjngab
