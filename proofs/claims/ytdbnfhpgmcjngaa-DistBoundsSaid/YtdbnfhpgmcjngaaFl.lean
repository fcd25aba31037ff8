/- How many labels one tree has more often than another one: no more than they are apart. No program here. -/
import Derived.Test.YtdbnfhpgmcjngaaFd
import Derived.Test.YtdbnfhpgmcjngaaNd
namespace Go.Proofs.Ytdbnfhpgmcjngaa

def cntL (L : List ByteArray) (s : ByteArray) : Nat := L.countP (fun t => decide (t = s))
theorem cntL_append (A B : List ByteArray) (s : ByteArray) : cntL (A ++ B) s = cntL A s + cntL B s := by simp [cntL]
theorem cntL_one (l s : ByteArray) : cntL [l] s = if l = s then 1 else 0 := by simp [cntL, List.countP_cons]
theorem cntL_nil (s : ByteArray) : cntL [] s = 0 := rfl
/-- How many stand behind as many of the same label as the other one has. -/
def more (L M : List ByteArray) : Nat := (List.range L.length).countP (fun i => decide (cntL M (L.getD i ⟨#[]⟩) < cntL (L.take (i + 1)) (L.getD i ⟨#[]⟩)))
theorem more_nil (M : List ByteArray) : more [] M = 0 := rfl
theorem more_snoc (L M : List ByteArray) (l : ByteArray) : more (L ++ [l]) M = more L M + if cntL M l ≤ cntL L l then 1 else 0 := by
  unfold more
  rw [List.length_append, List.length_singleton, List.range_succ, List.countP_append]
  have h1 : (List.range L.length).countP (fun i => decide (cntL M ((L ++ [l]).getD i ⟨#[]⟩) < cntL ((L ++ [l]).take (i + 1)) ((L ++ [l]).getD i ⟨#[]⟩))) = (List.range L.length).countP (fun i => decide (cntL M (L.getD i ⟨#[]⟩) < cntL (L.take (i + 1)) (L.getD i ⟨#[]⟩))) := by
    refine List.countP_congr fun i hi => ?_
    have hi' : i < L.length := by simpa using hi
    have hg : (L ++ [l]).getD i ⟨#[]⟩ = L.getD i ⟨#[]⟩ := by simp [hi', Nat.lt_succ_of_lt hi']
    rw [hg, List.take_append_of_le_length (by omega)]
  rw [h1]
  congr 1
  have h2 : (L ++ [l]).getD L.length ⟨#[]⟩ = l := by simp
  rw [List.countP_cons, List.countP_nil, h2, List.take_of_length_le (by simp), cntL_append, cntL_one, if_pos rfl]
  by_cases h : cntL M l ≤ cntL L l
  · rw [if_pos h]; simp; omega
  · rw [if_neg h]; simp; omega

/-- The same, label by label. -/
def diffU (U : List ByteArray) (L M : List ByteArray) : Nat := (U.map fun s => cntL L s - cntL M s).foldr (· + ·) 0
theorem diffU_cons (s : ByteArray) (U L M : List ByteArray) : diffU (s :: U) L M = (cntL L s - cntL M s) + diffU U L M := rfl
theorem diffU_snoc_no (U : List ByteArray) (L M : List ByteArray) (l : ByteArray) (h : l ∉ U) : diffU U (L ++ [l]) M = diffU U L M := by
  induction U with
  | nil => rfl
  | cons s U ih =>
    rw [diffU_cons, diffU_cons, ih (fun e => h (List.mem_cons_of_mem _ e)), cntL_append, cntL_one, if_neg (fun e => h (by rw [e]; exact List.mem_cons_self ..))]
    rfl
theorem diffU_snoc (U : List ByteArray) (hU : U.Nodup) (L M : List ByteArray) (l : ByteArray) (h : l ∈ U) : diffU U (L ++ [l]) M = diffU U L M + if cntL M l ≤ cntL L l then 1 else 0 := by
  induction U with
  | nil => cases h
  | cons s U ih =>
    rw [List.nodup_cons] at hU
    rw [diffU_cons, diffU_cons, cntL_append, cntL_one]
    by_cases hs : l = s
    · subst hs
      rw [if_pos rfl, diffU_snoc_no U L M l hU.1]
      by_cases hc : cntL M l ≤ cntL L l
      · rw [if_pos hc]; omega
      · rw [if_neg hc]; omega
    · rw [if_neg hs, ih hU.2 (by
        rcases List.mem_cons.1 h with h | h
        · exact absurd h hs
        · exact h)]
      omega
theorem diffU_nil (U M : List ByteArray) : diffU U [] M = 0 := by
  induction U with
  | nil => rfl
  | cons s U ih => rw [diffU_cons, ih, cntL_nil]; omega
theorem more_diff (U : List ByteArray) (hU : U.Nodup) (M : List ByteArray) : ∀ (L : List ByteArray), (∀ s ∈ L, s ∈ U) → more L M = diffU U L M := by
  intro L
  suffices h : ∀ n L, L.length = n → (∀ s ∈ L, s ∈ U) → more L M = diffU U L M from h _ L rfl
  intro n
  induction n with
  | zero =>
    intro L hn _
    have := List.eq_nil_of_length_eq_zero hn
    subst this
    rw [more_nil]
    exact (diffU_nil U M).symm
  | succ n ih =>
    intro L hn hL
    rcases List.eq_nil_or_concat L with rfl | ⟨L, l, rfl⟩
    · simp at hn
    · simp only [List.concat_eq_append] at hn hL ⊢
      rw [more_snoc, diffU_snoc U hU L M l (hL l (by simp)), ih L (by simp at hn; omega) (fun s hs => hL s (by simp [hs]))]
theorem nodup_cover : ∀ (L : List ByteArray), ∃ U : List ByteArray, U.Nodup ∧ ∀ s ∈ L, s ∈ U
  | [] => ⟨[], List.nodup_nil, by simp⟩
  | l :: L => by
    obtain ⟨U, h1, h2⟩ := nodup_cover L
    by_cases h : l ∈ U
    · exact ⟨U, h1, fun s hs => by rcases List.mem_cons.1 hs with rfl | hs; exact h; exact h2 s hs⟩
    · exact ⟨l :: U, List.nodup_cons.2 ⟨h, h1⟩, fun s hs => by rcases List.mem_cons.1 hs with rfl | hs; exact List.mem_cons_self ..; exact List.mem_cons_of_mem _ (h2 s hs)⟩
theorem diffU_sub (U A B C D : List ByteArray) : diffU U (A ++ B) (C ++ D) ≤ diffU U A C + diffU U B D := by
  induction U with
  | nil => exact Nat.le_refl _
  | cons s U ih => rw [diffU_cons, diffU_cons, diffU_cons, cntL_append, cntL_append]; omega
theorem more_sub (A B C D : List ByteArray) : more (A ++ B) (C ++ D) ≤ more A C + more B D := by
  obtain ⟨U, h1, h2⟩ := nodup_cover (A ++ B)
  rw [more_diff U h1 _ _ h2, more_diff U h1 _ A (fun s hs => h2 s (by simp [hs])), more_diff U h1 _ B (fun s hs => h2 s (by simp [hs]))]
  exact diffU_sub U A B C D
theorem more_one (l m : ByteArray) : more [l] [m] ≤ lc l m := by
  have := more_snoc [] [m] l
  rw [List.nil_append, more_nil, cntL_nil, cntL_one] at this
  rw [this]
  unfold lc
  by_cases h : l = m
  · subst h; simp
  · have h2 : ¬ m = l := fun e => h e.symm
    simp [h, h2]
theorem more_self_nil (L : List ByteArray) : more L L = 0 := by
  obtain ⟨U, h1, h2⟩ := nodup_cover L
  rw [more_diff U h1 _ _ h2]
  clear h1 h2
  induction U with
  | nil => rfl
  | cons s U ih => rw [diffU_cons, ih]; omega
theorem more_le (L M : List ByteArray) : more L M ≤ L.length := by
  unfold more
  have := List.countP_le_length (p := fun i => decide (cntL M (L.getD i ⟨#[]⟩) < cntL (L.take (i + 1)) (L.getD i ⟨#[]⟩))) (l := List.range L.length)
  simpa using this

mutual
/-- The labels of a tree, each behind all beneath it. -/
def labsT : Tr → List ByteArray | .node l ks => labsF ks ++ [l]
def labsF : List Tr → List ByteArray | [] => [] | k :: ks => labsT k ++ labsF ks
end
theorem labsF_append : ∀ (F G : List Tr), labsF (F ++ G) = labsF F ++ labsF G
  | [], G => by simp [labsF]
  | k :: F, G => by simp [labsF, labsF_append F G]
mutual
theorem labsT_length : ∀ (t : Tr), (labsT t).length = t.sz
  | .node l ks => by simp [labsT, labsF_length ks]
theorem labsF_length : ∀ (F : List Tr), (labsF F).length = Tr.szL F
  | [] => by simp [labsF]
  | k :: F => by simp [labsF, labsT_length k, labsF_length F]
end
theorem fd_more (F G : List Tr) : more (labsF F) (labsF G) ≤ fd F G := by
  suffices hh : ∀ n F G, Tr.szL F + Tr.szL G ≤ n → more (labsF F) (labsF G) ≤ fd F G from hh _ F G (Nat.le_refl _)
  intro n
  induction n with
  | zero =>
    intro F G h
    have := labsF_length F
    have h2 := more_le (labsF F) (labsF G)
    omega
  | succ n ih =>
    intro F G h
    rcases fd_cases F G with ⟨rfl, rfl⟩ | ⟨F', l, ks, rfl, e⟩ | ⟨G', m, js, rfl, e⟩ | ⟨F', l, ks, G', m, js, rfl, rfl, e⟩
    · exact Nat.zero_le _
    all_goals simp at h
    · have h1 := ih (F' ++ ks) G (by simp; omega)
      rw [labsF_append] at h1 ⊢
      have h2 := more_snoc (labsF F' ++ labsF ks) (labsF G) l
      have h3 : labsF [Tr.node l ks] = labsF ks ++ [l] := by simp [labsF, labsT]
      rw [h3, ← List.append_assoc, h2]
      split <;> omega
    · have h1 := ih F (G' ++ js) (by simp; omega)
      have h3 : labsF (G' ++ [Tr.node m js]) = labsF (G' ++ js) ++ [m] := by rw [labsF_append, labsF_append]; simp [labsF, labsT]
      have h2 := more_sub (labsF F) [] (labsF (G' ++ js)) [m]
      rw [List.append_nil, more_nil] at h2
      rw [h3]; omega
    · have h1 := ih F' G' (by omega)
      have h2 := ih ks js (by omega)
      have h3 : labsF (F' ++ [Tr.node l ks]) = labsF F' ++ (labsF ks ++ [l]) := by rw [labsF_append]; simp [labsF, labsT]
      have h4 : labsF (G' ++ [Tr.node m js]) = labsF G' ++ (labsF js ++ [m]) := by rw [labsF_append]; simp [labsF, labsT]
      have h5 := more_sub (labsF F') (labsF ks ++ [l]) (labsF G') (labsF js ++ [m])
      have h6 := more_sub (labsF ks) [l] (labsF js) [m]
      have h7 := more_one l m
      rw [h3, h4]; omega
mutual
theorem ndsT_labs : ∀ (t : Tr) (p : Nat) (par : Int), (ndsT p par t).map (·.lab) = labsT t
  | .node l ks, p, par => by rw [ndsT, labsT]; simp [ndsF_labs ks]
theorem ndsF_labs : ∀ (ks : List Tr) (p : Nat) (par : Int), (ndsF p par ks).map (·.lab) = labsF ks
  | [], p, par => by simp [ndsF, labsF]
  | k :: ks, p, par => by rw [ndsF, labsF]; simp [ndsT_labs k, ndsF_labs ks]
end
theorem nds_labs (t : Tr) : (nds t).map (·.lab) = labsT t := ndsT_labs t 0 (-1)
theorem cost_more (l m : ByteArray) (ks js : List Tr) : more (labsT (.node l ks)) (labsT (.node m js)) ≤ fd ks js + lc l m := by
  rw [labsT, labsT]
  have h1 := more_sub (labsF ks) [l] (labsF js) [m]
  have h2 := more_one l m
  have h3 := fd_more ks js
  omega
end Go.Proofs.Ytdbnfhpgmcjngaa
