/- Walks: are two trees the same? Of the document's answer, and of the program. -/
import Derived.Test.YtdbnfhpgmcjngadDoorWc
namespace Go.Proofs.YtdbnfhpgmcjngadDoor
open Go Go.RowKit

theorem Tr.beqL_len {a b : List Tr} (h : a.length ≠ b.length) : Tr.beqL a b = false := by
  rw [Bool.eq_false_iff, Ne, Tr.beqL_iff]; intro e; exact h (by rw [e])
theorem Tr.beqL_stop {a b : List Tr} (i : Nat) (h : i < a.length) (h' : i < b.length) (hf : a[i].beq b[i] = false) : Tr.beqL a b = false := by
  rw [Bool.eq_false_iff, Ne, Tr.beqL_iff]; intro e; subst e
  rw [Bool.eq_false_iff, Ne, Tr.beq_iff] at hf; exact hf rfl
theorem Tr.beq_node (l m : ByteArray) (ks js : List Tr) : (Tr.node l ks).beq (.node m js) = (decide (l = m) && Tr.beqL ks js) := rfl
theorem take_snoc_eq {a b : List Tr} (i : Nat) (h : i < a.length) (h' : i < b.length) (he : a.take i = b.take i) (hf : a[i].beq b[i] = true) : a.take (i + 1) = b.take (i + 1) := by
  rw [Tr.beq_iff] at hf
  rw [List.take_succ_eq_append_getElem h, List.take_succ_eq_append_getElem h', he, hf]

theorem toList_ne {l m : ByteArray} (h : ¬ l = m) : ¬ l.toList = m.toList := by
  rw [ByteArray.toList_eq, ByteArray.toList_eq]; intro e; apply h
  cases l; cases m; simp at e; rw [e]

end Go.Proofs.YtdbnfhpgmcjngadDoor
