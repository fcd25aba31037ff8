/- The nodes of a tree, each behind all beneath it. No program here. -/
import Derived.Test.YtdbnfhpgmcjngabTrb
namespace Go.Proofs.Ytdbnfhpgmcjngab

/-- A node: its label, its parent's number, the lowest number beneath it. -/
structure Nd where
  lab : ByteArray
  par : Int
  left : Int
deriving DecidableEq

mutual
/-- The nodes of a tree, from number p on; the root has that parent. -/
def ndsT (p : Nat) (par : Int) : Tr → List Nd | .node l ks => ndsF p ((p + Tr.szL ks : Nat) : Int) ks ++ [⟨l, par, (p : Int)⟩]
def ndsF (p : Nat) (par : Int) : List Tr → List Nd | [] => [] | k :: ks => ndsT p par k ++ ndsF (p + k.sz) par ks
end
/-- The nodes of a tree. -/
def nds (t : Tr) : List Nd := ndsT 0 (-1) t

mutual
theorem ndsT_length : ∀ (t : Tr) (p : Nat) (par : Int), (ndsT p par t).length = t.sz
  | .node l ks, p, par => by simp [ndsT, ndsF_length ks p]
theorem ndsF_length : ∀ (ks : List Tr) (p : Nat) (par : Int), (ndsF p par ks).length = Tr.szL ks
  | [], p, par => by simp [ndsF]
  | k :: ks, p, par => by simp [ndsF, ndsT_length k p par, ndsF_length ks (p + k.sz) par]
end
theorem ndsF_append : ∀ (xs ys : List Tr) (p : Nat) (par : Int), ndsF p par (xs ++ ys) = ndsF p par xs ++ ndsF (p + Tr.szL xs) par ys
  | [], ys, p, par => by simp [ndsF]
  | x :: xs, ys, p, par => by simp [ndsF, ndsF_append xs ys, Nat.add_assoc]
theorem ndsF_one (k : Tr) (p : Nat) (par : Int) : ndsF p par [k] = ndsT p par k := by simp [ndsF]
theorem ndsF_take (ks : List Tr) (i : Nat) (h : i < ks.length) (p : Nat) (par : Int) : ndsF p par (ks.take (i + 1)) = ndsF p par (ks.take i) ++ ndsT (p + Tr.szL (ks.take i)) par ks[i] := by
  rw [List.take_succ_eq_append_getElem h, ndsF_append, ndsF_one]
theorem nds_length (t : Tr) : (nds t).length = t.sz := ndsT_length t 0 (-1)

/-- The numbers of the roots. -/
def kidIdx (p : Nat) : List Tr → List Nat | [] => [] | k :: ks => (p + k.sz - 1) :: kidIdx (p + k.sz) ks
theorem kidIdx_append : ∀ (xs ys : List Tr) (p : Nat), kidIdx p (xs ++ ys) = kidIdx p xs ++ kidIdx (p + Tr.szL xs) ys
  | [], ys, p => by simp [kidIdx]
  | x :: xs, ys, p => by simp [kidIdx, kidIdx_append xs ys, Nat.add_assoc]
theorem kidIdx_take (ks : List Tr) (i : Nat) (h : i < ks.length) (p : Nat) : kidIdx p (ks.take (i + 1)) = kidIdx p (ks.take i) ++ [p + Tr.szL (ks.take i) + ks[i].sz - 1] := by
  rw [List.take_succ_eq_append_getElem h, kidIdx_append]; rfl
theorem kidIdx_length : ∀ (ks : List Tr) (p : Nat), (kidIdx p ks).length = ks.length
  | [], p => rfl
  | k :: ks, p => by simp [kidIdx, kidIdx_length ks]
theorem kidIdx_lt : ∀ (ks : List Tr) (p : Nat), ∀ i ∈ kidIdx p ks, p ≤ i ∧ i < p + Tr.szL ks
  | [], p, i, h => by cases h
  | k :: ks, p, i, h => by
    have := k.sz_pos
    simp only [kidIdx, List.mem_cons] at h
    rcases h with rfl | h
    · simp; omega
    · have := kidIdx_lt ks _ i h; simp; omega

/-- A node's parent is told. -/
def setPar (l : List Nd) (i : Nat) (p : Int) : List Nd := l.modify i fun x => { x with par := p }
theorem setPar_length (l : List Nd) (i : Nat) (p : Int) : (setPar l i p).length = l.length := by simp [setPar]
theorem setPar_at (xs : List Nd) (x : Nd) (ys : List Nd) (p : Int) : setPar (xs ++ x :: ys) xs.length p = xs ++ { x with par := p } :: ys := by
  unfold setPar
  induction xs with
  | nil => rfl
  | cons a xs ih => simpa using ih
theorem setPars_length (is : List Nat) (p : Int) : ∀ (l : List Nd), (is.foldl (fun l i => setPar l i p) l).length = l.length := by
  induction is with
  | nil => intro l; rfl
  | cons i is ih => intro l; simp [ih, setPar_length]
/-- All roots get their parent. -/
theorem setPars (me par : Int) : ∀ (ks : List Tr) (xs : List Nd), (kidIdx xs.length ks).foldl (fun l i => setPar l i me) (xs ++ ndsF xs.length par ks) = xs ++ ndsF xs.length me ks
  | [], xs => by simp [kidIdx, ndsF]
  | .node l js :: ks, xs => by
    simp only [kidIdx, List.foldl_cons, ndsF, ndsT, Tr.sz_node]
    have e1 : xs.length + (Tr.szL js + 1) - 1 = (xs ++ ndsF xs.length ((xs.length + Tr.szL js : Nat) : Int) js).length := by rw [List.length_append, ndsF_length]; omega
    have e2 : xs ++ (ndsF xs.length ((xs.length + Tr.szL js : Nat) : Int) js ++ [Nd.mk l par (xs.length : Int)] ++ ndsF (xs.length + (Tr.szL js + 1)) par ks)
        = (xs ++ ndsF xs.length ((xs.length + Tr.szL js : Nat) : Int) js) ++ Nd.mk l par (xs.length : Int) :: ndsF (xs.length + (Tr.szL js + 1)) par ks := by simp
    rw [e1, e2, setPar_at]
    have ih := setPars me par ks (xs ++ ndsF xs.length ((xs.length + Tr.szL js : Nat) : Int) js ++ [Nd.mk l me (xs.length : Int)])
    have e3 : (xs ++ ndsF xs.length ((xs.length + Tr.szL js : Nat) : Int) js ++ [Nd.mk l me (xs.length : Int)]).length = xs.length + (Tr.szL js + 1) := by simp only [List.length_append, ndsF_length, List.length_singleton]; omega
    rw [e3] at ih
    simp only [List.append_assoc, List.cons_append, List.nil_append] at ih ⊢
    exact ih
end Go.Proofs.Ytdbnfhpgmcjngab
