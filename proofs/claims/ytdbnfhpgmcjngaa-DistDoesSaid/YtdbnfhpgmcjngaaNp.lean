/- Paths of nodes. No program here. -/
import Derived.Test.YtdbnfhpgmcjngaaNd
namespace Go.Proofs.Ytdbnfhpgmcjngaa

/-- How many nodes ahead of n have that parent. -/
def cntPar (l : List Nd) (n : Nat) (up : Int) : Nat := (l.take n).countP (fun x => decide (x.par = up))
theorem cntPar_succ (l : List Nd) (n : Nat) (h : n < l.length) (up : Int) : cntPar l (n + 1) up = cntPar l n up + if l[n].par = up then 1 else 0 := by
  unfold cntPar
  rw [List.take_succ_eq_append_getElem h, List.countP_append]
  simp [List.countP_cons]
theorem cntPar_le (l : List Nd) (n : Nat) (up : Int) : cntPar l n up ≤ n := by
  unfold cntPar
  have := List.countP_le_length (p := fun x : Nd => decide (x.par = up)) (l := l.take n)
  rw [List.length_take] at this; omega

/-- What order.Path tells, of whatever nodes. -/
def pathN (l : List Nd) (n : Nat) : List Int :=
  if h : n < l.length then
    if (n : Int) < l[n].par then pathN l l[n].par.toNat ++ [(cntPar l n l[n].par : Int)] else []
  else []
termination_by l.length - n
decreasing_by omega
theorem pathN_out {l : List Nd} {n : Nat} (h : ¬ n < l.length) : pathN l n = [] := by rw [pathN, dif_neg h]
theorem pathN_root {l : List Nd} {n : Nat} (h : n < l.length) (hp : ¬ (n : Int) < l[n].par) : pathN l n = [] := by rw [pathN, dif_pos h, if_neg hp]
theorem pathN_up {l : List Nd} {n : Nat} (h : n < l.length) (hp : (n : Int) < l[n].par) : pathN l n = pathN l l[n].par.toNat ++ [(cntPar l n l[n].par : Int)] := by rw [pathN, dif_pos h, if_pos hp]
theorem pathN_length (l : List Nd) : ∀ (k n : Nat), l.length - n ≤ k → (pathN l n).length ≤ k := by
  intro k
  induction k with
  | zero => intro n h; rw [pathN_out (by omega)]; simp
  | succ k ih =>
    intro n h
    by_cases h1 : n < l.length
    · by_cases h2 : (n : Int) < l[n].par
      · rw [pathN_up h1 h2, List.length_append]
        have := ih l[n].par.toNat (by omega)
        simp; omega
      · rw [pathN_root h1 h2]; simp
    · rw [pathN_out h1]; simp

/-- The same, of a number that may be below 0. -/
def pathZ (l : List Nd) (n : Int) : List Int := if n < 0 then [] else pathN l n.toNat
theorem pathZ_neg {l : List Nd} {n : Int} (h : n < 0) : pathZ l n = [] := if_pos h
theorem pathZ_nat (l : List Nd) (n : Nat) : pathZ l n = pathN l n := by unfold pathZ; rw [if_neg (by omega), Int.toNat_natCast]
theorem pathZ_pos {l : List Nd} {n : Int} (h : ¬ n < 0) : pathZ l n = pathN l n.toNat := if_neg h

mutual
/-- What the document's answer tells: it is looked for. -/
def pathT : Tr → Nat → List Int | .node _ ks, n => pathF ks 0 n
def pathF : List Tr → Nat → Nat → List Int
  | [], _, _ => []
  | k :: ks, i, n => if n < k.sz then (i : Int) :: pathT k n else pathF ks (i + 1) (n - k.sz)
end
theorem pathF_drop : ∀ (ks : List Tr) (j i n : Nat), j ≤ ks.length → Tr.szL (ks.take j) ≤ n → pathF ks i n = pathF (ks.drop j) (i + j) (n - Tr.szL (ks.take j))
  | ks, 0, i, n, _, _ => by simp
  | [], j + 1, i, n, h, _ => by simp at h
  | k :: ks, j + 1, i, n, h, hn => by
    simp only [List.take_succ_cons, Tr.szL_cons] at hn
    rw [pathF, if_neg (by omega), pathF_drop ks j (i + 1) (n - k.sz) (by simpa using h) (by omega)]
    simp only [List.take_succ_cons, Tr.szL_cons, List.drop_succ_cons]
    congr 1 <;> omega
theorem pathF_hit (ks : List Tr) (j n : Nat) (h : j < ks.length) (h1 : Tr.szL (ks.take j) ≤ n) (h2 : n < Tr.szL (ks.take j) + ks[j].sz) : pathF ks 0 n = (j : Int) :: pathT ks[j] (n - Tr.szL (ks.take j)) := by
  rw [pathF_drop ks j 0 n (by omega) h1, List.drop_eq_getElem_cons h, pathF, if_pos (by omega), Nat.zero_add]
theorem pathF_out (ks : List Tr) (i n : Nat) (h : Tr.szL ks ≤ n) : pathF ks i n = [] := by
  have := pathF_drop ks ks.length i n (Nat.le_refl _) (by rw [List.take_length]; exact h)
  rw [this, List.drop_length, pathF]
/-- The same, of a number that may be below 0. -/
def pathTZ (t : Tr) (n : Int) : List Int := if n < 0 then [] else pathT t n.toNat
theorem pathTZ_neg {t : Tr} {n : Int} (h : n < 0) : pathTZ t n = [] := if_pos h
theorem pathTZ_nat (t : Tr) (n : Nat) : pathTZ t n = pathT t n := by unfold pathTZ; rw [if_neg (by omega), Int.toNat_natCast]
mutual
theorem pathT_length : ∀ (t : Tr) (n : Nat), (pathT t n).length ≤ t.sz
  | .node _ ks, n => by have := pathF_length ks 0 n; simp only [pathT, Tr.sz_node]; omega
theorem pathF_length : ∀ (ks : List Tr) (i n : Nat), (pathF ks i n).length ≤ Tr.szL ks + 1
  | [], i, n => by simp [pathF]
  | k :: ks, i, n => by
    have h1 := pathT_length k n
    have h2 := pathF_length ks (i + 1) (n - k.sz)
    have := k.sz_pos
    simp only [pathF, Tr.szL_cons]; split
    · simp; omega
    · omega
end
end Go.Proofs.Ytdbnfhpgmcjngaa
