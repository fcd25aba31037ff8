/- Walks: the tree of nodes, as the document's answer makes it. -/
import Derived.Test.YtdbnfhpgmcjngaaWr
import Derived.Test.YtdbnfhpgmcjngaaNu
namespace Go.Proofs.Ytdbnfhpgmcjngaa
open Go Go.RowKit

set_option maxHeartbeats 1600000 in
theorem under_step (xs : List Nd) (hs : xs.length ≤ 1000) (hlab : ∀ x ∈ xs, x.lab.size ≤ maxLen) (N : Nat) : ∀ (n : Nat) (hn : n < xs.length) (oa cap) (w : World), n < N → Nds Any w xs oa cap →
    Calls Try.prog 59 #[.slice oa xs.length cap, .int .i64 n] w (OwnPost w xs[n].lab (underK xs n n)) := by
  induction N with
  | zero => intro n hn oa cap w hN; omega
  | succ N ih =>
    have Ih := Lib.hid ih; clear ih
    intro n hn oa cap w hN hx
    have hll : xs[n].lab.size ≤ maxLen := hlab _ (List.getElem_mem hn)
    have Hlab := Lib.hid hlab
    clear hlab
    obtain ⟨b, o, rfl, e0, e1, e2⟩ := hx.get n hn
    have e0' : ∀ o1, (w.alloc o1).cell? ⟨b, o + n * 3, none⟩ = some (.string xs[n].lab) := fun o1 => (Pr.alloc _ _).cell e0
    generalize hL : xs[n].lab = L at *
    have HL := Lib.hid hL
    clear hL e1 e2
    have hn0 : (0 : Int) ≤ n := by omega
    have hn1 : (n : Int) < xs.length := by omega
    go_enter Try.func59, Try.ntmps59
    go_wp2_with fail
    go_loopw [6] (fun i wr => ∃ (k : Nat) (v : Value), k ≤ n ∧ i = .int .i64 k ∧ OwnsTs (w.heap.size + 1 + 1) wr v (underK xs n k) ∧ wr.heap[w.heap.size + 1]? = some (.cells #[.string L, v] 24 (0, 0)) ∧
      Pr (w.alloc (.cells #[.string ⟨#[]⟩, .slice none 0 0] 24)) wr) (fun i _ => n - (intOf i).toNat)
    case atStart => exact ⟨0, .slice none 0 0, by omega, rfl, by rw [underK_zero]; exact OwnsTs.nil _ _, by simpa using heap_alloc_new (w.alloc (.cells #[.string ⟨#[]⟩, .slice none 0 0] 24)) (.cells #[.string L, .slice none 0 0] 24), Pr.alloc _ _⟩
    case round =>
      obtain ⟨k, v, hkl, rfl, hown, hblk, hb⟩ := hrel
      have hbs := hb.size
      simp at hbs
      have g1 : wr.cell? ⟨w.heap.size + 1, 1, none⟩ = some v := blk_cell hblk
      have g1' : ∀ o, (wr.alloc o).cell? ⟨w.heap.size + 1, 1, none⟩ = some v := fun o => (Pr.alloc _ o).cell g1
      have g2 : wr.frozen? ⟨w.heap.size + 1, 1, none⟩ = false := blk_frozen hblk
      have g3 := blk_lt hblk
      by_cases hlt : k < n
      · have hkx : k < xs.length := by omega
        have hxr := (hx.pr (Pr.alloc _ _)).pr hb
        obtain ⟨b', o', hbo, d0, d1, d2⟩ := hxr.get k hkx
        cases hbo
        have hy := underK_yes xs n k hkx hlt
        have hno := underK_no xs n k hkx
        have hte := underT_eq xs k hkx
        have hlk := Hlab.out _ (List.getElem_mem hkx)
        generalize hpk : xs[k].par = pk at *
        generalize hlk2 : xs[k].lab = lk at *
        have Hy := Lib.hid hy; have Hno := Lib.hid hno; have Hte := Lib.hid hte; have Hlk2 := Lib.hid hlk2
        have Hbk := Lib.hid hblk
        clear hblk d0 d2 hpk hy hno hte hlk2
        have htl := underK_length xs n k
        by_cases hpn : pk = (n : Int)
        · have hb1 : (pk == (n : Int)) = true := by simp [hpn]
          have Hpn := Lib.hid hpn
          clear hpn
          have hcall := Lib.hid (fun W' (hW' : Nds Any W' xs (some ⟨b, o, none⟩) cap) => Ih.out k hkx (some ⟨b, o, none⟩) cap W' (by omega) hW')
          rw [Hlk2.out] at hcall
          go_wp2_with fail
          go_region_law (first
            | (go_simp; go_at_call 59; refine (hcall.out _ (hxr.pr (Pr.drew _))).mono ?_; rintro e w1 ⟨oa2, cap2, rfl, hk2, hb1⟩
               have s1 := hb1.cell ((Pr.drew _).cell g1); have s1' := fun o => (Pr.alloc w1 o).cell s1)
            | (refine step_tree rfl _ _ rfl (w.heap.size + 1 + 1) v (underK xs n k) rfl (((hown.pr (Pr.drew _)).pr hb1).pr (Pr.alloc _ _)) w1.heap.size rfl (.node lk (underK xs k k)) _ _ (heap_alloc_new w1 _) (treeV_mk cap2 hlk ((hk2.pr (Pr.alloc _ _)).mono (apart_new (hown.pr (Pr.drew _)) (by simp; omega)))) (by omega) (by have := hb1.size; simp at this ⊢; omega) ?_; intro g cap3 w2 ho2 hg2 hat2
               have n1 : v.ownBlock ≠ some (w.heap.size + 1) := fun e => by have := (hown.block _ e).1; omega
               have B2 := Lib.hid (grown_blk hg2 ((Pr.alloc w1 _).blk (hb1.blk ((Pr.drew _).blk Hbk.out))) n1)
               have t1 : w2.cell? ⟨w.heap.size + 1, 1, none⟩ = some v := blk_cell (o := 1) B2.out; have t4 := blk_frozen (o := 1) B2.out))
          all_goals
            go_wp2_with fail
            refine ⟨⟨k + 1, .slice (some ⟨g, 0, none⟩) ((underK xs n k).length + 1) cap3, by omega, by go_num, ?_, blk_set B2.out _, ?_⟩, ?_⟩
            · rw [Hy.out Hpn.out, Hte.out]; exact ho2.setCell _ _ (by simp)
            · refine Pr.setCell (Below.grown (((hb.trans (Pr.drew _)).trans hb1).alloc' _) hg2 ?_ ?_) (by simp) _
              · have := hb1.size; simp at this ⊢; omega
              · intro k' hk'; have := (hown.block k' hk').1; simp; omega
            · simp [intOf]; omega
        · have hb1 : (pk == (n : Int)) = false := by simp [hpn]
          have Hpn := Lib.hid hpn
          clear hpn
          go_wp2_with fail
          refine ⟨⟨k + 1, v, by omega, by go_num, by rw [Hno.out Hpn.out]; exact hown, Hbk.out, hb⟩, ?_⟩
          simp [intOf]; omega
      · have hkv : k = n := by omega
        have r0 := hb.cell (b := w.heap.size) (o := 0) (v := .string ⟨#[]⟩) (by simp [go_sem])
        have r1 := hb.cell (b := w.heap.size) (o := 1) (v := .slice none 0 0) (by simp [go_sem])
        have f0 : wr.frozen? ⟨w.heap.size, 0, none⟩ = false := by rw [hb.frozen (by simp)]; simp [go_sem]
        have f1 : wr.frozen? ⟨w.heap.size, 1, none⟩ = false := by rw [hb.frozen (by simp)]; simp [go_sem]
        have g0 : wr.cell? ⟨w.heap.size + 1, 0, none⟩ = some (.string L) := blk_cell hblk
        obtain ⟨oa2, cap2, rfl, hk2⟩ := hown.kids
        have Hbk := Lib.hid hblk
        rw [hkv] at hk2
        have hkl2 : (underK xs n k).length = (underK xs n n).length := by rw [hkv]
        rw [hkl2] at g1
        clear hblk hkl2 g1'
        go_wp2_with fail
        refine bodyPost_ret (v := .agg #[.string L, .slice oa2 (underK xs n n).length cap2]) (by simp [results, Try.results59, go_sem, r0, r1]) rfl ⟨oa2, cap2, rfl, ?_, ?_⟩
        · exact ((hk2.setCell _ _ (by simp; omega)).setCell _ _ (by simp; omega)).from (by omega)
        · exact ((((Pr.alloc _ _).trans hb)).setCell (by simp) _).setCell (by simp) _

/-- A tree and a code came. -/
def TreePost (w : World) (t : Tr) (code : Nat) (e : Ending) (w' : World) : Prop :=
  ∃ l ks oa cap, t = .node l ks ∧ l.size ≤ maxLen ∧ e = .returned (.tuple #[.agg #[.string l, .slice oa ks.length cap], .int .i64 code]) ∧ Kids Any w' ks oa cap ∧ Pr w w'
theorem TreePost.zero {w w' : World} {code : Nat} (h : Pr w w') : TreePost w Tr.zero code (.returned (.tuple #[.agg #[.string ⟨#[]⟩, .slice none 0 0], .int .i64 code])) w' :=
  ⟨⟨#[]⟩, [], none, 0, rfl, by simp [ByteArray.size], rfl, Kids.nil _ _ _ _ (Nat.zero_le _), h⟩

/-- A tree's nodes, of one's own, held against others. -/
theorem sameNodes_nds (lb : ByteArray) (ks : List Tr) (ys : List Nd) (b : Nat) (g c : Nat) (ob cbp) (w : World) (hx : OwnsNds b w (.slice (some ⟨g, 0, none⟩) (Tr.szL ks + 1) c) (nds (.node lb ks))) (hy : Nds Any w ys ob cbp) :
    Calls Try.prog 32 #[.slice (some ⟨g, 0, none⟩) (Tr.szL ks + 1) c, .slice ob ys.length cbp] w fun e w' => e = .returned (.bool (decide (nds (.node lb ks) = ys))) ∧ Pr w w' := by
  obtain ⟨o3, cc3, hv3, hn3⟩ := hx.nds
  rw [nds_length, Tr.sz_node] at hv3
  cases hv3
  have := sameNodes_any (nds (.node lb ks)) ys _ _ ob cbp w hn3.any hy
  rw [nds_length, Tr.sz_node] at this
  exact this

set_option maxHeartbeats 800000 in
theorem treeOf_any (xs : List Nd) (hlab : ∀ x ∈ xs, x.lab.size ≤ maxLen) (oa cap) (w : World) (hx : Nds Any w xs oa cap) :
    Calls Try.prog 30 #[.slice oa xs.length cap] w (TreePost w (treeOf xs).1 (treeOf xs).2) := by
  have hm := hx.len
  by_cases h0 : xs.length = 0
  · have hb : ((xs.length : Int) == 0) = true := by simp [h0]
    have He : Hid (treeOf xs = (Tr.zero, 7)) := if_pos h0
    clear h0
    go_enter Try.func30, Try.ntmps30
    go_wp2_with fail
    rw [He.out]
    exact bodyPost_ret (v := .tuple #[.agg #[.string ⟨#[]⟩, .slice none 0 0], .int .i64 7]) (by simp [results, Try.results30, go_sem]) rfl (TreePost.zero (Pr.alloc _ _))
  have hb : ((xs.length : Int) == 0) = false := by simpa using h0
  by_cases h40 : 40 < xs.length
  · have hb4 : (40 : Int) < xs.length := by omega
    have He : Hid (treeOf xs = (Tr.zero, 2)) := by show treeOf xs = _; unfold treeOf; rw [if_neg h0, if_pos h40]
    clear h0 h40
    go_enter Try.func30, Try.ntmps30
    go_wp2_with fail
    rw [He.out]
    exact bodyPost_ret (v := .tuple #[.agg #[.string ⟨#[]⟩, .slice none 0 0], .int .i64 2]) (by simp [results, Try.results30, go_sem]) rfl (TreePost.zero (Pr.alloc _ _))
  have hb4 : ¬ (40 : Int) < xs.length := by omega
  have hlt : xs.length - 1 < xs.length := by omega
  have ht := underT_eq xs (xs.length - 1) hlt
  have hll : xs[xs.length - 1].lab.size ≤ maxLen := hlab _ (List.getElem_mem hlt)
  have hcall := Lib.hid (fun W' (hW' : Nds Any W' xs oa cap) => under_step xs (by omega) hlab _ (xs.length - 1) hlt oa cap W' (Nat.lt_succ_self _) hW')
  have hi := Lib.hid (show (xs.length : Int) - 1 = ((xs.length - 1 : Nat) : Int) by omega)
  have he : treeOf xs = if fault (underT xs (xs.length - 1)) = 0 ∧ nds (underT xs (xs.length - 1)) = xs then (underT xs (xs.length - 1), 0) else (Tr.zero, 15) := by unfold treeOf; rw [if_neg h0, if_neg h40]
  rw [ht] at he
  have Hlb := Lib.hid hlab
  clear hlab
  generalize xs[xs.length - 1].lab = lb at *
  generalize hks : underK xs (xs.length - 1) (xs.length - 1) = ks at *
  have He := Lib.hid he
  have Hlt := Lib.hid hlt
  have H0 := Lib.hid h0
  clear ht he hks hlt h0
  by_cases hf : fault (.node lb ks) = 0
  case neg =>
    have hne : (((fault (.node lb ks) : Nat) : Int) != 0) = true := by simp [bne_iff_ne]; omega
    have He2 : Hid (treeOf xs = (Tr.zero, 15)) := He.out.trans (if_neg (fun h => hf h.1))
    clear hf
    go_enter Try.func30, Try.ntmps30
    go_wp2_with (first
      | (go_at_call 59; rw [hi.out]; refine (hcall.out _ (hx.pr (Pr.alloc _ _))).mono ?_; rintro e w1 ⟨oa2, cap2, rfl, hk2, hb1⟩)
      | (go_at_call 22; (with_reducible refine Calls.mono (treeFault_any lb ks _ _ _ hll ((hk2.pr (Pr.alloc _ _)).any)) ?_); rintro e w2 ⟨rfl, hb2⟩; have hc := (hb1.alloc' (.cells #[.string lb, .slice oa2 ks.length cap2] 24)).trans hb2
         have r0 := hc.cell (b := w.heap.size) (o := 0) (v := .string ⟨#[]⟩) (by simp [go_sem]); have r1 := hc.cell (b := w.heap.size) (o := 1) (v := .slice none 0 0) (by simp [go_sem]); have f0 : w2.frozen? ⟨w.heap.size, 0, none⟩ = false := (by rw [hc.frozen (by simp)]; simp [go_sem]); have f1 : w2.frozen? ⟨w.heap.size, 1, none⟩ = false := (by rw [hc.frozen (by simp)]; simp [go_sem])))
    rw [He2.out]
    exact bodyPost_ret (v := .tuple #[.agg #[.string ⟨#[]⟩, .slice none 0 0], .int .i64 15]) (by simp [results, Try.results30, go_sem, r0, r1]) rfl (TreePost.zero ((((Pr.alloc _ _).trans hc).setCell (by simp) _).setCell (by simp) _))
  have hne : (((fault (.node lb ks) : Nat) : Int) != 0) = false := by rw [hf]; rfl
  have hz40 := (fault_zero.1 hf).1
  simp only [Tr.sz_node] at hz40
  have hsame : ∀ b, decide (nds (.node lb ks) = xs) = b → treeOf xs = if b then (Tr.node lb ks, 0) else (Tr.zero, 15) := by
    intro b hb; rw [He.out]; cases b
    · rw [if_neg (fun h => by simp at hb; exact hb h.2)]; rfl
    · rw [if_pos ⟨hf, by simpa using hb⟩]; rfl
  have Hsm := Lib.hid hsame
  clear hsame
  cases hd : decide (nds (.node lb ks) = xs)
  all_goals
    have He2 := Lib.hid (Hsm.out _ hd)
    have Hd := Lib.hid hd
    have Hf := Lib.hid hf
    clear hd hf
    go_enter Try.func30, Try.ntmps30
    go_wp2_with (first
      | (go_at_call 59; rw [hi.out]; refine (hcall.out _ (hx.pr (Pr.alloc _ _))).mono ?_; rintro e w1 ⟨oa2, cap2, rfl, hk2, hb1⟩)
      | (go_at_call 22; (with_reducible refine Calls.mono (treeFault_any lb ks _ _ _ hll ((hk2.pr (Pr.alloc _ _)).any)) ?_); rintro e w2 ⟨rfl, hb2⟩
         have q0 := hb2.cell (b := w1.heap.size) (o := 0) (v := .string lb) (by simp [go_sem]); have q1 := hb2.cell (b := w1.heap.size) (o := 1) (v := .slice oa2 ks.length cap2) (by simp [go_sem]))
      | (go_at_call 33; (with_reducible refine Calls.mono (nodesOf_nil lb ks _ _ _ (by omega) (((hk2.pr (Pr.alloc _ _)).pr hb2).any)) ?_); rintro e w3 ⟨g3, c3, rfl, ho3, hb3⟩)
      | (go_at_call 32; (with_reducible refine Calls.mono (sameNodes_nds lb ks xs _ _ _ _ _ _ ho3 (hx.pr ((((Pr.alloc _ _).trans hb1).alloc' _).trans (hb2.trans hb3)))) ?_); rintro e w4 ⟨rfl, hb4⟩; simp only [Hd.out]; have hc := ((hb1.alloc' (.cells #[.string lb, .slice oa2 ks.length cap2] 24)).trans hb2).trans (hb3.trans hb4)
         have p0 := (hb3.trans hb4).cell q0; have p1 := (hb3.trans hb4).cell q1
         have r0 := hc.cell (b := w.heap.size) (o := 0) (v := .string ⟨#[]⟩) (by simp [go_sem]); have r1 := hc.cell (b := w.heap.size) (o := 1) (v := .slice none 0 0) (by simp [go_sem]); have f0 : w4.frozen? ⟨w.heap.size, 0, none⟩ = false := (by rw [hc.frozen (by simp)]; simp [go_sem]); have f1 : w4.frozen? ⟨w.heap.size, 1, none⟩ = false := (by rw [hc.frozen (by simp)]; simp [go_sem])))
    rw [He2.out]
  · exact bodyPost_ret (v := .tuple #[.agg #[.string ⟨#[]⟩, .slice none 0 0], .int .i64 15]) (by simp [results, Try.results30, go_sem, r0, r1]) rfl (TreePost.zero ((((Pr.alloc _ _).trans hc).setCell (by simp) _).setCell (by simp) _))
  · refine bodyPost_ret (v := .tuple #[.agg #[.string lb, .slice oa2 ks.length cap2], .int .i64 0]) (by simp [results, Try.results30, go_sem, r0, r1]) rfl ⟨lb, ks, oa2, cap2, rfl, hll, rfl, ?_, (((Pr.alloc _ _).trans hc).setCell (by simp) _).setCell (by simp) _⟩
    exact (((((hk2.pr (Pr.alloc _ _)).pr hb2).pr (hb3.trans hb4)).setCell _ _ (by simp)).setCell _ _ (by simp)).any
end Go.Proofs.Ytdbnfhpgmcjngaa
