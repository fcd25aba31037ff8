/- Walks: the document's deed done, whichever it is. -/
import Derived.Test.YtdbnfhpgmcjngabVd
namespace Go.Proofs.Ytdbnfhpgmcjngab
open Go Go.RowKit

theorem rdone_any (k : Int) (p : List Int) (a m : Int) (s : ByteArray) (pa : Option Addr) (np pc : Nat) (hk1 : 1 ≤ k) (hk3 : k ≤ 3) (ha : 0 ≤ a) (hm : 0 ≤ m) (hs : s.size ≤ maxLen) : ∀ (q : List Int), (∀ x ∈ q, 0 ≤ x) → (k = 2 → q ≠ []) →
    ∀ (S : Nat → Prop) (l : ByteArray) (ks : List Tr) (oa : Option Addr) (cap : Nat) (qa : Option Addr) (qc : Nat) (w : World), l.size ≤ maxLen → Tr.szL ks ≤ 1000000 → Kids S w ks oa cap → Ints Any w q qa qc →
      Calls Try.prog 67 #[.agg #[.string l, .slice oa ks.length cap], .agg #[.int .i64 k, .slice pa np pc, .int .i64 a, .int .i64 m, .string s], .slice qa q.length qc] w (DonePost S (doneT ⟨k, p, a, m, s⟩ q (.node l ks)) w) := by
  intro q
  induction q with
  | nil =>
    intro _ h2 S l ks oa cap qa qc w hl hsz hk _
    have h2' : k ≠ 2 := fun e => h2 e rfl
    show Calls _ _ _ _ (DonePost S (leafT ⟨k, p, a, m, s⟩ (.node l ks) 0) w)
    rw [leafT_node]
    by_cases e1 : k = 1
    · rw [if_pos e1]; exact rdone_name hs hsz hk e1
    · rw [if_neg e1, if_neg h2']
      obtain ⟨n, rfl⟩ := Int.eq_ofNat_of_zero_le ha
      obtain ⟨m', rfl⟩ := Int.eq_ofNat_of_zero_le hm
      by_cases hf : (ks.length : Int) < (n : Int) ∨ (ks.length : Int) - (n : Int) < (m' : Int)
      · rw [if_pos hf]; exact rdone_insfar hl hk (by omega) (by omega) hf
      · rw [if_neg hf]
        have := rdone_ins (qa := qa) (qc := qc) (pa := pa) (np := np) (pc := pc) (S := S) (k := k) (n := n) (m := m') (s := s) (w := w) hl hs hsz hk (by omega) (by omega)
        unfold insP at this
        simpa using this
  | cons x q ih =>
    intro hpos h2 S l ks oa cap qa qc w hl hsz hk hq
    have hx0 : 0 ≤ x := hpos x (by simp)
    rw [doneT_node]
    by_cases hlast : k = 2 ∧ q = []
    · rw [if_pos hlast, leafT_node, if_neg (by show ¬ k = 1; omega), if_pos hlast.1]
      obtain ⟨hk2, rfl⟩ := hlast
      by_cases hf : (ks.length : Int) ≤ x
      · rw [if_pos hf]; exact rdone_delfar x hl hk hq hk2 hf
      · rw [if_neg hf]
        obtain ⟨n, rfl⟩ := Int.eq_ofNat_of_zero_le hx0
        have := rdone_del (pa := pa) (np := np) (pc := pc) (a := a) (m := m) (s := s) n hl hsz hk hq hk2 (by omega)
        rw [delP_all ks n (by omega)] at this
        simpa using this
    · rw [if_neg hlast]
      have hne : k = 2 → q ≠ [] := fun e h => hlast ⟨e, h⟩
      by_cases hf : (ks.length : Int) ≤ x
      · rw [if_pos hf]; exact rdone_far x q hl hk hq hne hf
      · rw [if_neg hf]
        obtain ⟨n, rfl⟩ := Int.eq_ofNat_of_zero_le hx0
        have hn : n < ks.length := by omega
        have := rdone_in (k := k) (a := a) (m := m) (s := s) (pa := pa) (np := np) (pc := pc) n q (doneT ⟨k, p, a, m, s⟩ q (kidN ks (n : Int))) hl hsz hk hq hne hn (fun S' l' ks' oa' cap' qa' qc' W' e1 e2 e3 e4 => by
          have h3 := Tr.szL_get ks n hn
          rw [e1, Tr.sz_node] at h3
          rw [kidN_in ks n hn, e1]
          exact ih (fun y hy => hpos y (by simp [hy])) hne S' l' ks' oa' cap' qa' qc' W' e2 (by omega) e3 e4)
        simpa using this
end Go.Proofs.Ytdbnfhpgmcjngab
