/- More on plain trees: parts of a tree are trees. No program here. -/
import Derived.Test.YtdbnfhpgmcjngabTr
namespace Go.Proofs.Ytdbnfhpgmcjngab

theorem Tr.deepZ_mono : ∀ (t : Tr) (n m : Int), n ≤ m → t.deepZ n = true → t.deepZ m = true := by
  intro t
  induction t using Tr.ind with
  | h l ks ih =>
    intro n m h hd
    simp only [Tr.deepZ, Bool.and_eq_true, decide_eq_true_eq, Tr.deepZL_iff] at hd ⊢
    exact ⟨by omega, fun k hk => ih k hk (n - 1) (m - 1) (by omega) (hd.2 k hk)⟩
theorem fault_zero {t : Tr} : fault t = 0 ↔ t.sz ≤ 40 ∧ t.deepZ 10 = true ∧ t.named = true := by
  unfold fault
  by_cases h1 : 40 < t.sz
  · rw [if_pos h1]; constructor
    · intro h; cases h
    · intro h; omega
  · rw [if_neg h1]
    cases t.deepZ 10 <;> cases t.named <;> simp <;> omega
theorem Tr.kid?_mem {l : ByteArray} {ks : List Tr} {k : Int} {u : Tr} (h : (Tr.node l ks).kid? k = some u) : u ∈ ks := by
  simp only [Tr.kid?] at h
  split at h
  · cases h
  · exact List.mem_of_getElem? h
theorem fault_kid {t u : Tr} {k : Int} (h : t.kid? k = some u) (hf : fault t = 0) : fault u = 0 := by
  rw [fault_zero] at hf ⊢
  obtain ⟨h1, h2, h3⟩ := hf
  have hs := Tr.kid?_sz h
  cases t with
  | node l ks =>
    have hm := Tr.kid?_mem h
    simp only [Tr.deepZ, Bool.and_eq_true, decide_eq_true_eq, Tr.deepZL_iff] at h2
    rw [Tr.named_node] at h3
    exact ⟨by omega, Tr.deepZ_mono u _ _ (by omega) (h2.2 u hm), h3.2 u hm⟩
theorem fault_at {t u : Tr} {p : List Int} (h : t.at? p = some u) (hf : fault t = 0) : fault u = 0 := by
  induction p generalizing t with
  | nil => cases h; exact hf
  | cons k p ih =>
    simp only [Tr.at?] at h
    cases hk : t.kid? k with
    | none => rw [hk] at h; cases h
    | some v => rw [hk] at h; exact ih h (fault_kid hk hf)
end Go.Proofs.Ytdbnfhpgmcjngab
