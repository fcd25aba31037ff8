/- The tree of nodes, by all that say that it is their parent. No program here. -/
import Derived.Test.YtdbnfhpgmcjngaaNq
namespace Go.Proofs.Ytdbnfhpgmcjngaa

mutual
/-- The tree that node n heads. -/
def underT (l : List Nd) (n : Nat) : Tr := .node ((l[n]?.map (·.lab)).getD ⟨#[]⟩) (underK l n n)
termination_by (n, n + 1)
/-- Its kids among the first j nodes. -/
def underK (l : List Nd) (n j : Nat) : List Tr :=
  match j with
  | 0 => []
  | j + 1 => underK l n j ++ (if _ : j < n ∧ (l[j]?.map (·.par)) = some (n : Int) then [underT l j] else [])
termination_by (n, j)
end
theorem underK_zero (l : List Nd) (n : Nat) : underK l n 0 = [] := by rw [underK]
theorem underK_yes (l : List Nd) (n j : Nat) (h : j < l.length) (hj : j < n) (hp : l[j].par = (n : Int)) : underK l n (j + 1) = underK l n j ++ [underT l j] := by
  rw [underK, dif_pos ⟨hj, by simp [h, hp]⟩]
theorem underK_no (l : List Nd) (n j : Nat) (h : j < l.length) (hp : l[j].par ≠ (n : Int)) : underK l n (j + 1) = underK l n j := by
  rw [underK, dif_neg (by rintro ⟨_, h2⟩; simp [h] at h2; exact hp h2), List.append_nil]
theorem underK_length (l : List Nd) (n : Nat) : ∀ j, (underK l n j).length ≤ j
  | 0 => by rw [underK_zero]; simp
  | j + 1 => by
    have := underK_length l n j
    rw [underK]; split <;> simp <;> omega
theorem underT_eq (l : List Nd) (n : Nat) (h : n < l.length) : underT l n = .node l[n].lab (underK l n n) := by
  rw [underT]; simp [h]
/-- What TreeOf tells: a tree, and a code. -/
def treeOf (l : List Nd) : Tr × Nat :=
  if l.length = 0 then (Tr.zero, 7) else if 40 < l.length then (Tr.zero, 2)
  else if fault (underT l (l.length - 1)) = 0 ∧ nds (underT l (l.length - 1)) = l then (underT l (l.length - 1), 0) else (Tr.zero, 15)
end Go.Proofs.Ytdbnfhpgmcjngaa
