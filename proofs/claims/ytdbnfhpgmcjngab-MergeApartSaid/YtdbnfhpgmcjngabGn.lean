/- Small lemmas on trees in memory and on great trees. -/
import Derived.Test.YtdbnfhpgmcjngabWe
namespace Go.Proofs.Ytdbnfhpgmcjngab
open Go Go.RowKit

/-- A cell that is there stays. -/
theorem stays {W0 : World} {b o : Nat} {v : Value} (h : W0.cell? ⟨b, o, none⟩ = some v) : ∀ W, Pr W0 W → W.cell? ⟨b, o, none⟩ = some v := fun _ hp => hp.cell h

theorem great_false {t : Tr} (h : great t = false) : t.sz ≤ 200 := by
  unfold great at h; simp at h; omega
theorem great_sz {l : ByteArray} {ks : List Tr} (h : great (.node l ks) = false) : Tr.szL ks ≤ 199 := by
  have := great_false h; simp only [Tr.sz] at this; omega
theorem Tr.beq_self (t : Tr) : t.beq t = true := (Tr.beq_iff t t).2 rfl

/-- One tree more, ahead of others, where they lie. -/
theorem KidsAt.cons {S : Nat → Prop} {w : World} {l : ByteArray} {ks ts : List Tr} {oa : Option Addr} {cap b o : Nat} (h0 : w.cell? ⟨b, o, none⟩ = some (.string l)) (h1 : w.cell? ⟨b, o + 1, none⟩ = some (.slice oa ks.length cap)) (hl : l.size ≤ maxLen)
    (hk : Kids S w ks oa cap) (ht : KidsAt S w ts b (o + 2)) : KidsAt S w (.node l ks :: ts) b o := ⟨_, _, h0, h1, treeV_mk cap hl hk, ht⟩
theorem Kids.mk {S : Nat → Prop} {w : World} {ts : List Tr} {b o cap : Nat} (hc : ts.length ≤ cap) (hm : cap ≤ maxLen) (hS : S b) (h : KidsAt S w ts b o) : Kids S w ts (some ⟨b, o, none⟩) cap := ⟨⟨hc, hm⟩, b, o, fun _ => ⟨rfl, hS⟩, h⟩
theorem Kids.nil0 (S : Nat → Prop) (w : World) : Kids S w [] none 0 := Kids.nil _ _ _ _ (Nat.zero_le _)
theorem Flat.mk {S : Nat → Prop} {w : World} {vs : List Value} {b o cap : Nat} (hc : vs.length ≤ cap) (hm : cap ≤ maxLen) (hS : S b) (h : ∀ (i : Nat) (h : i < vs.length), w.cell? ⟨b, o + i, none⟩ = some vs[i]) : Flat S w vs (some ⟨b, o, none⟩) cap := ⟨⟨hc, hm⟩, b, o, fun _ => ⟨rfl, hS⟩, h⟩
end Go.Proofs.Ytdbnfhpgmcjngab
