/- MergeApart: rows of trees of one's own, whose kids are replaced in place. -/
import Derived.Test.YtdbnfhpgmcjngabMx
namespace Go.Proofs.Ytdbnfhpgmcjngab
open Go Go.RowKit

set_option maxHeartbeats 1600000 in
/-- A tree of one's own, with the row of its kids. -/
theorem rown_row (l : ByteArray) (ks : List Tr) (oa cap) (w : World) (h : Tr.szL ks ≤ 1000000) (hk : Kids Any w ks oa cap) :
    Calls Try.prog 16 #[.agg #[.string l, .slice oa ks.length cap]] w fun e w' => ∃ v, e = .returned (.agg #[.string l, v]) ∧ OwnsTs w.heap.size w' v ks ∧ Pr w w' := by
  have Hl := Lib.hid fun W' (h' : Kids Any W' ks oa cap) => rownList_any ks oa cap W' h h'
  go_enter Try.func16, Try.ntmps16
  go_wp2_with fail
  go_region_held3 (fun w' => w'.cell? ⟨w.heap.size, 0, none⟩ = some (.string l) ∧ w'.cell? ⟨w.heap.size, 1, none⟩ = some (.slice oa ks.length cap))
    (first | go_keep | exact ⟨hb1.cell (by simp [go_sem]), hb1.cell (by simp [go_sem])⟩)
    (first | (go_at_call 42; refine (Hl.out _ (hk.pr (Pr.drew' (Pr.alloc' (Pr.alloc _ _) _)))).mono ?_; rintro e w1 ⟨v, rfl, hown, hb1⟩; obtain ⟨oa2, cap2, rfl, hk2⟩ := hown.kids; have r0 := hb1.cell (b := w.heap.size + 1) (o := 0) (v := .string ⟨#[]⟩) (by simp [go_sem]); have r1 := hb1.cell (b := w.heap.size + 1) (o := 1) (v := .slice none 0 0) (by simp [go_sem]); have f0 : w1.frozen? ⟨w.heap.size + 1, 0, none⟩ = false := (by rw [hb1.frozen (by simp)]; simp [go_sem]); have f1 : w1.frozen? ⟨w.heap.size + 1, 1, none⟩ = false := (by rw [hb1.frozen (by simp)]; simp [go_sem])))
  go_wp2_with fail
  refine bodyPost_ret (v := .agg #[.string l, .slice oa2 ks.length cap2]) (by simp [results, Try.results16, go_sem, r0, r1]) rfl ⟨_, rfl, ?_, ?_⟩
  · exact ((hown.setCell _ _ (by simp)).setCell _ _ (by simp)).mono (by simp; omega)
  · exact ((((Pr.alloc _ _).alloc' _).drew'.trans hb1).setCell (by simp) _).setCell (by simp) _

theorem cell_by {w : World} {b o j : Nat} {u : Value} (h : j ≠ o) : (w.setCell ⟨b, o, none⟩ u).cell? ⟨b, j, none⟩ = w.cell? ⟨b, j, none⟩ := by
  have h' : o ≠ j := fun e => h e.symm
  unfold World.cell? World.setCell
  simp only [Array.getElem?_modify]
  cases hh : w.heap[b]? with
  | none => simp
  | some x => cases x <;> simp [h']
theorem row_own {w : World} {b e size : Nat} {v : Value} {n : Nat} {xs : List Value} (h : w.ownsRow b e size v n xs) (hn : 0 < n) : ∃ g cb cur, v = .slice (some ⟨g, 0, none⟩) n cb ∧ b ≤ g ∧ w.heap[g]? = some (.cells cur e (0, 0)) ∧ n ≤ cb ∧ cb ≤ maxLen := by
  rcases h.2 with ⟨_, h0⟩ | ⟨g, cb, cur, rfl, h1, h2, h3, h4, _⟩
  · omega
  · exact ⟨g, cb, cur, rfl, h1, h2, h3, h4⟩
/-- A row of kids in block g: what stands beneath them is elsewhere. -/
def RowT (S : Nat → Prop) (g cb : Nat) (w : World) (ks : List Tr) : Prop :=
  (∃ cur, w.heap[g]? = some (.cells cur 24 (0, 0))) ∧ (ks.length ≤ cb ∧ cb ≤ maxLen) ∧ S g ∧ KidsAt (fun k => S k ∧ k ≠ g) w ks g 0
section
variable {S S' : Nat → Prop} {g cb : Nat} {w w' : World} {ks : List Tr}
theorem RowT.lt (h : RowT S g cb w ks) : g < w.heap.size := by obtain ⟨⟨_, h⟩, _⟩ := h; exact blk_lt h
theorem RowT.carry (h : RowT S g cb w ks) (hk : ∀ k, S k → k < w.heap.size → w'.heap[k]? = w.heap[k]? ∧ S' k) : RowT S' g cb w' ks := by
  have hl := h.lt
  obtain ⟨⟨cur, h1⟩, h2, h3, h4⟩ := h
  refine ⟨⟨cur, by rw [(hk g h3 hl).1]; exact h1⟩, h2, (hk g h3 hl).2, ?_⟩
  cases ks with
  | nil => trivial
  | cons t ts =>
    refine KidsAt.mk fun i hi => ?_
    obtain ⟨vl, vk, e0, e1, ht⟩ := h4.get i hi
    have hc : ∀ o, w'.cell? ⟨g, o, none⟩ = w.cell? ⟨g, o, none⟩ := fun o => World.cell?_of_block (hk g h3 hl).1
    exact ⟨vl, vk, by rw [hc]; exact e0, by rw [hc]; exact e1, ht.carry fun k hS hlk => ⟨(hk k hS.1 hlk).1, (hk k hS.1 hlk).2, hS.2⟩⟩
theorem RowT.kids (h : RowT S g cb w ks) : Kids S w ks (some ⟨g, 0, none⟩) cb :=
  ⟨h.2.1, g, 0, fun _ => ⟨rfl, h.2.2.1⟩, KidsAt.mk fun i hi => by
    obtain ⟨vl, vk, e0, e1, ht⟩ := h.2.2.2.get i hi
    exact ⟨vl, vk, e0, e1, ht.carry fun k hk _ => ⟨rfl, hk.1⟩⟩⟩
theorem RowT.get (h : RowT S g cb w ks) {i : Nat} (hi : i < ks.length) : (∃ u0, w.cell? ⟨g, i * 2, none⟩ = some u0) ∧ ∃ u1, w.cell? ⟨g, i * 2 + 1, none⟩ = some u1 := by
  obtain ⟨vl, vk, e0, e1, _⟩ := h.2.2.2.get i hi
  rw [Nat.zero_add] at e0 e1
  exact ⟨⟨vl, e0⟩, vk, e1⟩
theorem RowT.frozen (h : RowT S g cb w ks) (o : Nat) : w.frozen? ⟨g, o, none⟩ = false := by obtain ⟨⟨_, h⟩, _⟩ := h; exact blk_frozen h
/-- One kid is another one: it lies elsewhere. -/
theorem RowT.set (h : RowT S g cb w ks) {i : Nat} (hi : i < ks.length) {l : ByteArray} {kx : List Tr} {p : Option Addr} {q : Nat} (hl : l.size ≤ maxLen) (hk : Kids S' w kx p q) (hg : ¬ S' g) :
    RowT (fun k => S k ∨ S' k) g cb ((w.setCell ⟨g, i * 2, none⟩ (.string l)).setCell ⟨g, i * 2 + 1, none⟩ (.slice p kx.length q)) (ks.set i (.node l kx)) := by
  obtain ⟨⟨cur, hb⟩, hc, hS, h4⟩ := h
  have h1 := blk_set (o := i * 2) hb (.string l)
  have h2 := blk_set (o := i * 2 + 1) h1 (.slice p kx.length q)
  have hkept : ∀ k, k ≠ g → ((w.setCell ⟨g, i * 2, none⟩ (.string l)).setCell ⟨g, i * 2 + 1, none⟩ (.slice p kx.length q)).heap[k]? = w.heap[k]? := fun k hk => by
    rw [Below.heap_setCell _ _ _ _ hk, Below.heap_setCell _ _ _ _ hk]
  refine ⟨⟨_, h2⟩, by rw [List.length_set]; exact hc, .inl hS, KidsAt.mk fun j hj => ?_⟩
  have hj' : j < ks.length := by rw [List.length_set] at hj; exact hj
  simp only [Nat.zero_add]
  by_cases hij : i = j
  · subst hij
    obtain ⟨vl, vk, e0, e1, _⟩ := h4.get i hi
    rw [Nat.zero_add] at e1
    have hlen : i * 2 + 1 < cur.size := by
      rw [blk_cell hb] at e1
      exact (Array.getElem?_eq_some_iff.1 e1).1
    refine ⟨.string l, .slice p kx.length q, ?_, ?_, ?_⟩
    · rw [cell_by (by omega), blk_cell h1, Array.getElem?_setIfInBounds, if_pos rfl, if_pos (by omega)]
    · rw [blk_cell h2, Array.getElem?_setIfInBounds, if_pos rfl, if_pos (by rw [Array.size_setIfInBounds]; omega)]
    · rw [List.getElem_set_self]
      exact (treeV_mk q hl hk).carry fun k hS' _ => ⟨hkept k (fun e => hg (e ▸ hS')), .inr hS', fun e => hg (e ▸ hS')⟩
  · obtain ⟨vl, vk, e0, e1, ht⟩ := h4.get j hj'
    rw [Nat.zero_add] at e0 e1
    refine ⟨vl, vk, ?_, ?_, ?_⟩
    · rw [cell_by (by omega), cell_by (by omega)]; exact e0
    · rw [cell_by (by omega), cell_by (by omega)]; exact e1
    · rw [List.getElem_set_ne hij]
      exact ht.carry fun k hS' _ => ⟨hkept k hS'.2, .inl hS'.1, hS'.2⟩
theorem RowT.mono (h : RowT S g cb w ks) (hs : ∀ k, S k → S' k) : RowT S' g cb w ks := h.carry fun k hk _ => ⟨rfl, hs k hk⟩
end
/-- A slice of one's own is such a row. -/
theorem OwnsTs.row {b : Nat} {w : World} {v : Value} {ks : List Tr} (h : OwnsTs b w v ks) (hn : 0 < ks.length) : ∃ g cb, v = .slice (some ⟨g, 0, none⟩) ks.length cb ∧ RowT (From b) g cb w ks := by
  obtain ⟨xs, h1, h2⟩ := h
  obtain ⟨g, cb, cur, rfl, hbg, hg, hnc, hcm⟩ := row_own h1 hn
  refine ⟨g, cb, rfl, ⟨cur, hg⟩, ⟨hnc, hcm⟩, hbg, ?_⟩
  refine Tvals.kidsAt (h2.carry fun k hk _ => ⟨rfl, hk.1, fun e => hk.2 (by simp [Value.ownBlock, e])⟩) fun j u hj => ?_
  have := h1.cells (g := g) rfl j u hj
  rw [Addr.add_lit] at this; exact this

section
variable {P : Program} {md : Region.Mode} {ops : Array Oper} {Q : Exit → Act → World → Prop}
/-- Each operation waits for earlier ones alone, where it must wait. -/
def backA (md : Region.Mode) (ops : Array Oper) : Bool := (List.range ops.size).all fun i => ((ops[i]?).map fun o => o.after.all fun e => !Region.binds md e || decide (e.on < i)).getD true
theorem ready_doneA (hb : backA md ops = true) {listed : Array Bool} (hsz : listed.size = ops.size) (h : Region.ready md ops listed = []) : ∀ i, i < ops.size → listed.getD i false = true := by
  intro i
  induction i using Nat.strongRecOn with
  | _ i ih =>
    intro hi
    have hl : i < listed.size := by omega
    cases hx : listed.getD i true with
    | true => simpa [Array.getD, hl] using hx
    | false =>
      exfalso
      have hm : i ∈ Region.ready md ops listed := by
        simp only [Region.ready, List.mem_filter, List.mem_range, Bool.and_eq_true]
        refine ⟨hi, by rw [hx]; rfl, ?_⟩
        have hoi : ops[i]? = some ops[i] := Array.getElem?_eq_getElem hi
        have hbi := List.all_eq_true.1 hb i (List.mem_range.2 hi)
        rw [hoi] at hbi ⊢
        simp only [Option.map_some, Option.getD_some] at hbi ⊢
        rw [Array.all_eq_true'] at hbi ⊢
        intro e he
        have h0 := hbi e he
        cases hbe : Region.binds md e with
        | false => simp
        | true =>
          rw [hbe] at h0
          have h1 : e.on < i := by simpa using h0
          rw [ih e.on h1 (by omega)]; simp
      rw [h] at hm; cases hm
theorem wpAny_invA (hb : backA md ops = true) (I : Array Bool → Act → World → Prop) (hstep : ∀ i listed a w, I listed a w → i ∈ Region.ready md ops listed → wpOp P ops Q i (fun a' w' => I (listed.setIfInBounds i true) a' w') a w)
    (hfin : ∀ listed a w, (∀ i, i < ops.size → listed.getD i false = true) → I listed a w → Q .normal a w) :
    ∀ (fuel : Nat) (listed : Array Bool) (a : Act) (w : World), listed.size = ops.size → undoneN ops listed ≤ fuel → I listed a w → wpAny P md ops Q fuel listed a w
  | 0, listed, a, w, hsz, hf, h => by
    have hr : Region.ready md ops listed = [] := undone_ready (by omega)
    exact ⟨hr, hfin _ _ _ (ready_doneA hb hsz hr) h⟩
  | fuel + 1, listed, a, w, hsz, hf, h => by
    refine ⟨fun hr => hfin _ _ _ (ready_doneA hb hsz hr) h, fun i hi => ?_⟩
    have h2 := undone_step hi
    exact wpOp_mono (fun a' w' h' => wpAny_invA hb I hstep hfin fuel _ a' w' (by simpa using hsz) (by omega) h') (hstep i listed a w h hi)
/-- An invariant over the operations that are done, where some waits bind under one reading of the text alone. -/
theorem wp_region_invA {id : Nat} {a : Act} {w : World} (hm : P.follows .mixedOrders = true) (hb : backA .any ops = true) (I : Act → Array Bool → Act → World → Prop)
    (h0 : I a (Array.replicate ops.size false) a w.drew) (hstep : ∀ i listed a' w', I a listed a' w' → i ∈ Region.ready .any ops listed → wpOp P ops Q i (fun a' w' => I a (listed.setIfInBounds i true) a' w') a' w')
    (hfin : ∀ listed a' w', (∀ i, i < ops.size → listed.getD i false = true) → I a listed a' w' → Q .normal a' w') : (Code.region id ops true).wp P Q a w := by
  refine wp_region_any hm ?_
  refine wpAny_invA hb (I a) hstep hfin _ _ _ _ (by simp) ?_ h0
  unfold undoneN
  exact Nat.le_trans (List.length_filter_le _ _) (by simp)
end
section
variable {ops : Array Oper} {o : Oper} {a : Act} {w : World} {Q : Exit → Act → World → Prop}
/-- 'append(ts, t, u)', at a step of a region that draws its order. -/
theorem step_two {K : Act → World → Prop} (hgd : o.guard = none) (s x : Operand) (ho : o.op = .call { callee := .builtin .append, args := #[s, x], argTypes := #[22, 22] })
    (b : Nat) (v : Value) (ts : List Tr) (hs : a.eval s = v) (hown : OwnsTs b w v ts) (B : Nat) (hx : a.eval x = .slice (some ⟨B, 0, none⟩) 2 2) (t u : Tr) (vl vk ul uk : Value)
    (hB : w.heap[B]? = some (.cells #[vl, vk, ul, uk] 24 (0, 0))) (ht : TreeV (Apart b v) w t vl vk) (hu : TreeV (Apart b v) w u ul uk) (hlen : ts.length ≤ 1000000000) (hbase : b ≤ w.heap.size)
    (h : ∀ g cap w', OwnsTs b w' (.slice (some ⟨g, 0, none⟩) (ts.length + 2) cap) (ts ++ [t, u]) → w.grownBy w' v.ownBlock → (v.ownBlock = some g ∨ g = w.heap.size) → K (a.put o.dst (.slice (some ⟨g, 0, none⟩) (ts.length + 2) cap)) w') :
    Oper.wp Try.prog o a w K Q := by
  have hw : Region.wanted o (yielded #[] a.tmps) = true := by simp [Region.wanted, hgd]
  suffices H : if Region.wanted o (yielded #[] a.tmps) = true then Oper.wp Try.prog o a w K Q else True by rwa [if_pos hw] at H
  obtain ⟨i0, hi, hz0, hz1, hz2⟩ := info_parts info_tree
  obtain ⟨xs, h1, h2⟩ := hown
  refine step_append_lies w hgd s x _ ho b _ i0 _ 2 40 under_trees hi hz0 hz1 hz2 rfl (by omega) v ts.length xs hs h1 ⟨B, 0, none⟩ 2 2 [vl, vk, ul, uk] hx rfl (World.news_of_block (cs := #[vl, vk, ul, uk]) hB)
    (by intro u' hu'; simp at hu'; rcases hu' with rfl | rfl | rfl | rfl; exact ht.one.1; exact ht.one.2; exact hu.one.1; exact hu.one.2) (by omega) (by unfold maxLen; omega) (by omega) hbase w.heap.size rfl ?_
  intro g cap w' g1 g2 g3 _
  exact h g cap w' (OwnsTs.grown h2 (us := [t, u]) (ys := [vl, vk, ul, uk]) ⟨vl, vk, [ul, uk], rfl, ht, ul, uk, [], rfl, hu, rfl⟩ g1 g2 g3) g2 g3
end
/-! The blocks' tags: who made them. -/
def newTag (tag : Nat → Nat) (n i : Nat) : Nat → Nat := fun k => if n ≤ k then i else tag k
theorem newTag_lt {tag : Nat → Nat} {n i k : Nat} (h : k < n) : newTag tag n i k = tag k := if_neg (by omega)
theorem newTag_ge {tag : Nat → Nat} {n i k : Nat} (h : n ≤ k) : newTag tag n i k = i := if_pos h
/-- The blocks of tag i are as they were. -/
def Steps (i : Nat) (tag : Nat → Nat) (w : World) (tag' : Nat → Nat) (w' : World) : Prop := ∀ k, k < w.heap.size → tag k = i → w'.heap[k]? = w.heap[k]? ∧ tag' k = tag k
section
variable {tag tag' : Nat → Nat} {w w' : World} {i j T : Nat}
theorem Steps.pr (h : Pr w w') (n : Nat) : Steps i tag w (newTag tag w.heap.size n) w' := fun k hk _ => ⟨Below.block h k hk, newTag_lt hk⟩
theorem Steps.two (hT : tag T = j) (hij : i ≠ j) (o o' : Nat) (u v : Value) : Steps i tag w tag ((w.setCell ⟨T, o, none⟩ u).setCell ⟨T, o', none⟩ v) := fun k _ hk => ⟨by
  have hn : k ≠ T := fun e => hij (by rw [← hk, ← hT, e])
  rw [Below.heap_setCell _ _ _ _ hn, Below.heap_setCell _ _ _ _ hn], rfl⟩
def RowR (V : World) (l : ByteArray) (ks : List Tr) (i : Nat) (r : Value) (tag : Nat → Nat) (w : World) : Prop :=
  ∃ g cb, r = .agg #[.string l, .slice (some ⟨g, 0, none⟩) ks.length cb] ∧ V.heap.size ≤ g ∧ RowT (fun k => tag k = i) g cb w ks
def VarT (V : World) (i : Nat) (p : Value) (tag : Nat → Nat) (w : World) : Prop := ∃ T x y, p = .pointer (some ⟨T, 0, none⟩) ∧ V.heap.size ≤ T ∧ tag T = i ∧ w.heap[T]? = some (.cells #[x, y] 24 (0, 0))
def VarU (i : Nat) (p r : Value) (tag : Nat → Nat) (w : World) : Prop := ∃ T x y, p = .pointer (some ⟨T, 0, none⟩) ∧ r = .agg #[x, y] ∧ tag T = i ∧ w.heap[T]? = some (.cells #[x, y] 24 (0, 0))
variable {V : World} {l : ByteArray} {ks : List Tr} {r p : Value}
theorem RowR.step (h : RowR V l ks i r tag w) (hs : Steps i tag w tag' w') : RowR V l ks i r tag' w' := by
  obtain ⟨g, cb, h1, h2, h3⟩ := h
  exact ⟨g, cb, h1, h2, h3.carry fun k hk hl => ⟨(hs k hl hk).1, by rw [(hs k hl hk).2]; exact hk⟩⟩
theorem VarT.step (h : VarT V i p tag w) (hs : Steps i tag w tag' w') : VarT V i p tag' w' := by
  obtain ⟨T, x, y, h1, h2, h3, h4⟩ := h
  exact ⟨T, x, y, h1, h2, by rw [(hs T (blk_lt h4) h3).2]; exact h3, by rw [(hs T (blk_lt h4) h3).1]; exact h4⟩
theorem VarU.step (h : VarU i p r tag w) (hs : Steps i tag w tag' w') : VarU i p r tag' w' := by
  obtain ⟨T, x, y, h1, h2, h3, h4⟩ := h
  exact ⟨T, x, y, h1, h2, by rw [(hs T (blk_lt h4) h3).2]; exact h3, by rw [(hs T (blk_lt h4) h3).1]; exact h4⟩
/-- What a call of Own brings. -/
theorem RowR.own {v : Value} (hV : V.heap.size ≤ w.heap.size) (hn : 0 < ks.length) (h : OwnsTs w.heap.size w' v ks) : RowR V l ks i (.agg #[.string l, v]) (newTag tag w.heap.size i) w' := by
  obtain ⟨g, cb, rfl, hr⟩ := h.row hn
  exact ⟨g, cb, rfl, Nat.le_trans hV hr.2.2.1, hr.mono fun k hk => newTag_ge hk⟩
/-- A row in the blocks of these tags. -/
def RowP (P : Nat → Prop) (tag : Nat → Nat) (g cb : Nat) (w : World) (ks : List Tr) : Prop := RowT (fun k => P (tag k)) g cb w ks
theorem RowP.pr {P : Nat → Prop} {g cb : Nat} (h : RowP P tag g cb w ks) (hb : Pr w w') (n : Nat) : RowP P (newTag tag w.heap.size n) g cb w' ks :=
  RowT.carry h fun k hk hl => ⟨Below.block hb k hl, by rw [newTag_lt hl]; exact hk⟩
theorem RowP.two {P : Nat → Prop} {g cb : Nat} (h : RowP P tag g cb w ks) (hT : ¬ P (tag T)) (o o' : Nat) (u v : Value) : RowP P tag g cb ((w.setCell ⟨T, o, none⟩ u).setCell ⟨T, o', none⟩ v) ks :=
  RowT.carry h fun k hk _ => ⟨by
    have hn : k ≠ T := fun e => hT (e ▸ hk)
    rw [Below.heap_setCell _ _ _ _ hn, Below.heap_setCell _ _ _ _ hn], hk⟩
theorem RowP.set {P : Nat → Prop} {g cb : Nat} (h : RowP P tag g cb w ks) {i n : Nat} (hi : i < ks.length) {l : ByteArray} {kx : List Tr} {p : Option Addr} {q : Nat} (hl : l.size ≤ maxLen) (hk : Kids (fun k => tag k = n) w kx p q) (hP : P n) (hg : tag g ≠ n) :
    RowP P tag g cb ((w.setCell ⟨g, i * 2, none⟩ (.string l)).setCell ⟨g, i * 2 + 1, none⟩ (.slice p kx.length q)) (ks.set i (.node l kx)) :=
  (RowT.set h hi hl hk hg).mono fun k hk => hk.elim id fun e => by rw [e]; exact hP
/-- Blocks of other tags are as they were. -/
def Off (P : Nat → Prop) (tag0 : Nat → Nat) (w0 : World) (tag : Nat → Nat) (w : World) : Prop :=
  w0.heap.size ≤ w.heap.size ∧ (∀ k, k < w0.heap.size → tag k = tag0 k) ∧ ∀ k, k < w0.heap.size → ¬ P (tag0 k) → w.heap[k]? = w0.heap[k]?
theorem Off.refl (P : Nat → Prop) (tag : Nat → Nat) (w : World) : Off P tag w tag w := ⟨Nat.le_refl _, fun _ _ => rfl, fun _ _ _ => rfl⟩
theorem Off.drew (P : Nat → Prop) (tag : Nat → Nat) (w : World) : Off P tag w tag w.drew := ⟨Nat.le_refl _, fun _ _ => rfl, fun _ _ _ => rfl⟩
theorem Off.pr {P : Nat → Prop} {tag0 : Nat → Nat} {w0 : World} (h : Off P tag0 w0 tag w) (hb : Pr w w') (n : Nat) : Off P tag0 w0 (newTag tag w.heap.size n) w' :=
  ⟨Nat.le_trans h.1 hb.size, fun k hk => by rw [newTag_lt (Nat.lt_of_lt_of_le hk h.1)]; exact h.2.1 k hk, fun k hk hP => by rw [Below.block hb k (Nat.lt_of_lt_of_le hk h.1)]; exact h.2.2 k hk hP⟩
theorem Off.two {P : Nat → Prop} {tag0 : Nat → Nat} {w0 : World} (h : Off P tag0 w0 tag w) (hT : P (tag0 T)) (o o' : Nat) (u v : Value) : Off P tag0 w0 tag ((w.setCell ⟨T, o, none⟩ u).setCell ⟨T, o', none⟩ v) :=
  ⟨by simpa [World.setCell] using h.1, h.2.1, fun k hk hP => by
    have hn : k ≠ T := fun e => hP (e ▸ hT)
    rw [Below.heap_setCell _ _ _ _ hn, Below.heap_setCell _ _ _ _ hn]; exact h.2.2 k hk hP⟩
theorem Off.blk {P : Nat → Prop} {tag0 : Nat → Nat} {w0 : World} (h : Off P tag0 w0 tag w) {b : Nat} {x : Obj} (hx : w0.heap[b]? = some x) (hP : ¬ P (tag0 b)) : w.heap[b]? = some x := by rw [h.2.2 b (blk_lt hx) hP]; exact hx
theorem Off.row {P Q : Nat → Prop} {tag0 : Nat → Nat} {w0 : World} {g cb : Nat} (h : Off P tag0 w0 tag w) (hr : RowP Q tag0 g cb w0 ks) (hPQ : ∀ n, Q n → ¬ P n) : RowP Q tag g cb w ks :=
  RowT.carry hr fun k hk hl => ⟨h.2.2 k hl (hPQ _ hk), by rw [h.2.1 k hl]; exact hk⟩
/-- A tree in the blocks of one tag. -/
def OwnX (l : ByteArray) (ks : List Tr) (n : Nat) (r : Value) (tag : Nat → Nat) (w : World) : Prop := ∃ p q, r = .agg #[.string l, .slice p ks.length q] ∧ Kids (fun k => tag k = n) w ks p q
theorem OwnX.step {n : Nat} (h : OwnX l ks n r tag w) (hs : Steps n tag w tag' w') : OwnX l ks n r tag' w' := by
  obtain ⟨p, q, h1, h2⟩ := h
  exact ⟨p, q, h1, h2.carry fun k hk hl => ⟨(hs k hl hk).1, by rw [(hs k hl hk).2]; exact hk⟩⟩
theorem OwnX.own {n : Nat} {p : Option Addr} {q : Nat} (h : Kids (From w.heap.size) w' ks p q) : OwnX l ks n (.agg #[.string l, .slice p ks.length q]) (newTag tag w.heap.size n) w' :=
  ⟨p, q, rfl, h.mono fun _ hk _ => newTag_ge hk⟩
theorem VarT.alloc (hV : V.heap.size ≤ w.heap.size) (x y : Value) : VarT V i (.pointer (some ⟨w.heap.size, 0, none⟩)) (newTag tag w.heap.size i) (w.alloc (.cells #[x, y] 24)) :=
  ⟨w.heap.size, x, y, rfl, hV, newTag_ge (Nat.le_refl _), heap_alloc_new _ _⟩
end
end Go.Proofs.Ytdbnfhpgmcjngab
