/- Walks: the tree of nodes, as the program makes it. -/
import Derived.Test.YtdbnfhpgmcjngaaWs
import Derived.Test.YtdbnfhpgmcjngaaMg
import Derived.Test.YtdbnfhpgmcjngaaNw
import Derived.Deep.CutBlock
import Derived.Deep.DeepCutAuto
namespace Go.Proofs.Ytdbnfhpgmcjngaa
open Go Go.RowKit

theorem heap_alloc_two (w : World) (o1 o2 : Obj) : ((w.alloc o1).alloc o2).heap[w.heap.size + 1]? = some o2 := by
  have := heap_alloc_new (w.alloc o1) o2
  simpa using this

/-- A tree's nodes, of one's own, held against others. -/
theorem equal_nds (lb : ByteArray) (ks : List Tr) (ys : List Nd) (b : Nat) (g c : Nat) (ob cbp) (w : World) (hx : OwnsNds b w (.slice (some ⟨g, 0, none⟩) (Tr.node lb ks).sz c) (nds (.node lb ks))) (hy : Nds Any w ys ob cbp) :
    Calls Try.prog 58 #[.slice (some ⟨g, 0, none⟩) (Tr.szL ks + 1) c, .slice ob ys.length cbp] w fun e w' => e = .returned (.bool (decide (nds (.node lb ks) = ys))) ∧ Pr w w' := by
  obtain ⟨o3, cc3, hv3, hn3⟩ := hx.nds
  rw [nds_length, Tr.sz_node] at hv3
  cases hv3
  have := equalNodes_any (nds (.node lb ks)) ys _ _ ob cbp w hn3.any hy
  rw [nds_length, Tr.sz_node] at this
  exact this

set_option maxHeartbeats 1600000 in
theorem ordTree_any (xs : List Nd) (hlab : ∀ x ∈ xs, x.lab.size ≤ maxLen) (oa cap) (w : World) (hx : Nds Any w xs oa cap) :
    Calls Try.prog 29 #[.slice oa xs.length cap] w (TreePost w (treeP xs).1 (treeP xs).2) := by
  have hm := hx.len
  by_cases h0 : xs.length = 0
  · have hb : ((xs.length : Int) == 0) = true := by simp [h0]
    have He : Hid (treeP xs = (Tr.zero, 7)) := if_pos h0
    clear h0
    go_enter Try.func29, Try.ntmps29
    go_wp2_with fail
    rw [He.out]
    exact bodyPost_ret (v := .tuple #[.agg #[.string ⟨#[]⟩, .slice none 0 0], .int .i64 7]) (by simp [results, Try.results29, go_sem]) rfl (TreePost.zero ((Pr.alloc _ _)))
  have hb : ((xs.length : Int) == 0) = false := by simpa using h0
  by_cases h40 : 40 < xs.length
  · have hb4 : (40 : Int) < xs.length := by omega
    have He : Hid (treeP xs = (Tr.zero, 2)) := by show treeP xs = _; unfold treeP; rw [if_neg h0, if_pos h40]
    clear h0 h40
    go_enter Try.func29, Try.ntmps29
    go_wp2_with fail
    rw [He.out]
    exact bodyPost_ret (v := .tuple #[.agg #[.string ⟨#[]⟩, .slice none 0 0], .int .i64 2]) (by simp [results, Try.results29, go_sem]) rfl (TreePost.zero ((Pr.alloc _ _)))
  have hb4 : ¬ (40 : Int) < xs.length := by omega
  have Hlab := Lib.hid hlab
  clear hlab
  have H0 := Lib.hid h0
  clear h0
  go_enter Try.func29, Try.ntmps29
  go_wp2_with fail
  go_loopw [4, 5, 22] (fun v4 v5 i wr => ∃ (k : Nat) (oa1 oa2 : Option Addr) (c1 c2 : Nat), k ≤ xs.length ∧ i = .int .i64 k ∧ v4 = .slice oa1 (stk (xs.take k)).1.length c1 ∧ Kids (From (w.heap.size + 1)) wr (stk (xs.take k)).1 oa1 c1 ∧
    v5 = .slice oa2 (stk (xs.take k)).2.length c2 ∧ Ints Any wr (stk (xs.take k)).2 oa2 c2 ∧ Pr (w.alloc (.cells #[.string ⟨#[]⟩, .slice none 0 0] 24)) wr) (fun _ _ i _ => xs.length - (intOf i).toNat)
  case atStart => exact ⟨0, none, none, 0, 0, by omega, rfl, rfl, Kids.nil _ _ _ _ (Nat.zero_le _), rfl, Flat.nil _ _ _ _ (Nat.zero_le _), Pr.refl _⟩
  case round =>
    obtain ⟨wz, hwz⟩ : ∃ wz, wz = wr := ⟨_, rfl⟩
    subst hwz
    obtain ⟨k, oa1, oa2, c1, c2, hkl, rfl, rfl, hk1, rfl, hk2, hb1⟩ := hrel
    by_cases hlt : k < xs.length
    · obtain ⟨b, o, rfl, e0, e1, e2⟩ := ((hx.pr (Pr.alloc _ _)).pr hb1).get k hlt
      have hsl := stk_len xs k
      have hst := stk_take xs k hlt
      have hll := Hlab.out _ (List.getElem_mem hlt)
      have hcl := cutFrom_le (stk (xs.take k)).2 xs[k].left (stk (xs.take k)).2.length
      unfold stkStep at hst
      generalize xs[k].lab = lb at *
      generalize xs[k].left = lf at *
      generalize xs[k].par = pr at *
      have Hst := Lib.hid hst
      clear hst
      generalize (stk (xs.take k)).1 = ts at *
      generalize (stk (xs.take k)).2 = fs at *
      have hk0 : (0 : Int) ≤ k := by omega
      have hk9 : (k : Int) < xs.length := by omega
      obtain ⟨hs1, hs2⟩ := hsl
      have Hs1 := Lib.hid hs1
      have hts : ts.length ≤ 40 := by omega
      clear hs1
      generalize hcv : cutFrom fs lf fs.length = at' at *
      have Hcv := Lib.hid hcv
      clear hcv
      go_upto_block 2 with fail
      obtain ⟨W, hW⟩ : ∃ W, W = (wz.alloc (.cells #[.string lb, .int .i64 pr, .int .i64 lf] 51)).alloc (.cells #[.string lb, .slice none 0 0] 24) := ⟨_, rfl⟩
      have hwW : Pr wz W := by rw [hW]; exact Pr.alloc' (Pr.alloc _ _) _
      have hWs : W.heap.size = wz.heap.size + 1 + 1 := by rw [hW]; simp
      have hbx7 : W.cell? ⟨wz.heap.size, 2, none⟩ = some (.int .i64 lf) := by rw [hW]; exact (Pr.alloc _ _).cell (blk_cell (heap_alloc_new wz _))
      have hbx8 : W.heap[wz.heap.size + 1]? = some (.cells #[.string lb, .slice none 0 0] 24 (0, 0)) := by rw [hW]; simpa using heap_alloc_new (wz.alloc (.cells #[.string lb, .int .i64 pr, .int .i64 lf] 51)) (.cells #[.string lb, .slice none 0 0] 24)
      rw [← hW]
      clear hW e0 e1 e2
      have hk2W := Flat.pr hwW hk2
      go_cut [9] from 31 to 44 (fun v9 wx => v9 = .int .i64 at' ∧ Pr W wx)
      case first =>
        go_wp2_with fail
        go_loopw [9] (fun v9 w2 => ∃ (n : Nat), n ≤ fs.length ∧ v9 = .int .i64 n ∧ cutFrom fs lf n = at' ∧ Pr W w2) (fun v9 _ => (intOf v9).toNat)
        case atStart => exact ⟨ts.length, Nat.le_of_eq Hs1.out, rfl, by rw [Hs1.out]; exact Hcv.out, Pr.refl _⟩
        case round =>
          obtain ⟨n, hnl, rfl, hcn, hb2⟩ := hrel
          have Hcn := Lib.hid hcn
          clear hcn
          have g7 := hb2.cell hbx7
          have hpop : ∀ m, n = m + 1 → ∃ b5 o5 f, oa2 = some ⟨b5, o5, none⟩ ∧ wr.cell? ⟨b5, o5 + m, none⟩ = some (.int .i64 f) ∧ (lf ≤ f → cutFrom fs lf n = cutFrom fs lf m) ∧ (¬ lf ≤ f → cutFrom fs lf n = n) := by
            intro m hm
            have hn : m < fs.length := by omega
            obtain ⟨b5, o5, h1, c5⟩ := Ints.get (Flat.pr hb2 hk2W) m hn
            exact ⟨b5, o5, fs[m], h1, c5, by rw [hm]; exact cutFrom_down fs lf m hn, by rw [hm]; exact cutFrom_stop fs lf m hn⟩
          by_cases hz : n = 0
          · have hd : decide ((0 : Int) < ((0 : Nat) : Int)) = false := rfl
            have hat : n = at' := by rw [← Hcn.out, hz]; rfl
            clear hpop
            subst hz
            subst hat
            go_wp2_with fail
            go_quiet (fail)
            go_wp2_with fail
            go_meet
            case rel => exact ⟨rfl, hb2.drewN' _⟩
          · obtain ⟨m, hm⟩ : ∃ m, n = m + 1 := ⟨n - 1, by omega⟩
            obtain ⟨b5, o5, f, rfl, c5, hdn, hsp⟩ := hpop m hm
            have Hdn := Lib.hid hdn
            have Hsp := Lib.hid hsp
            have hd : decide ((0 : Int) < (n : Int)) = true := by simp; omega
            have hd' : decide (0 < n) = true := by simp; omega
            have hi : (n : Int) - 1 = (m : Int) := by omega
            have hn0 : (0 : Int) ≤ m := by omega
            have hn1 : (m : Int) < fs.length := by omega
            have Hm := Lib.hid hm
            clear hpop hm hz hdn hsp
            by_cases hp : lf ≤ f
            · have hd2 : decide (lf ≤ f) = true := by simp [hp]
              have Hp := Lib.hid hp
              clear hp
              go_wp2_with fail
              go_quiet (fail)
              go_wp2_with fail
              have hmn := Hm.out
              refine ⟨⟨m, by omega, by go_num, (Hdn.out Hp.out).symm.trans Hcn.out, hb2.drewN' _⟩, ?_⟩
              simp [intOf]; omega
            · have hd2 : decide (lf ≤ f) = false := by simp [hp]
              have Hp := Lib.hid hp
              clear hp
              have hat : n = at' := (Hsp.out Hp.out).symm.trans Hcn.out
              subst hat
              go_wp2_with fail
              go_quiet (fail)
              go_wp2_with fail
              go_meet
              case rel => exact ⟨rfl, hb2.drewN' _⟩
      case rest =>
        obtain ⟨rfl, hb2⟩ := hcut
        have hk1z : Kids (fun j => w.heap.size + 1 ≤ j ∧ j < wz.heap.size) wc ts oa1 c1 := (hk1.mono (S' := fun j => w.heap.size + 1 ≤ j ∧ j < wz.heap.size) fun j hs hj => ⟨hs, hj⟩).pr (hwW.trans hb2)
        have hc1 := hk1.1
        have hnl2 : at' ≤ ts.length := by rw [Hs1.out]; exact hcl
        have h8 := hb2.blk hbx8
        have g8 : wc.cell? ⟨wz.heap.size + 1, 1, none⟩ = some (.slice none 0 0) := blk_cell (o := 1) h8
        have hnt : (at' : Int) ≤ ts.length := by omega
        have hn00 : (0 : Int) ≤ at' := by omega
        have H8 := Lib.hid h8
        have hbs := hb2.size
        clear h8
        go_upto_region 14 with fail
        go_cut [] from 45 to 51 (fun wx => ∃ ob cb, Kids (From (w.heap.size + 1)) wx (ts.drop at') ob cb ∧ wx.heap[wz.heap.size + 1]? = some (.cells #[.string lb, .slice ob (ts.length - at') cb] 24 (0, 0)) ∧ wx.cell? ⟨wz.heap.size, 2, none⟩ = some (.int .i64 lf) ∧ Pr wz wx ∧ wz.heap.size + 1 + 1 ≤ wx.heap.size)
        case first =>
          by_cases hcc : c1 = at'
          · subst hcc
            have hz0 := Lib.hid (show ts.length - c1 = 0 by omega)
            have hd0 := Lib.hid (show ts.drop c1 = [] from List.drop_eq_nil_of_le (by omega))
            go_region_law (first
              | (refine step_trees_nil rfl _ _ rfl rfl (fun j => w.heap.size + 1 ≤ j ∧ j < wz.heap.size) [] 0 rfl _ _ rfl (Kids.nil _ _ _ _ (Nat.zero_le _)) (by simp) ?_; intro ob cb w3 hk3 hb3
                 have B8 := (Pr.drew wc |>.trans hb3).blk H8.out; have t8 : w3.cell? ⟨wz.heap.size + 1, 1, none⟩ = _ := blk_cell (o := 1) B8; have t9 := blk_frozen (o := 1) B8))
            all_goals
              go_wp2_with fail
              go_meet
              case rel =>
                rw [hz0.out, hd0.out]
                refine ⟨ob, cb, (hk3.setCell _ _ (by simp; omega)).mono fun q hq _ => ?_, blk_set B8 _, ?_, ?_, ?_⟩
                · rcases hq with ⟨hq, _⟩ | hq
                  · exact hq
                  · simp at hq; show _ ≤ q; have := hb1.size; simp at this; omega
                · exact cell_far (((hb2.trans (Pr.drew _)).trans hb3).cell hbx7) (by simp)
                · exact Pr.setCell ((((hwW.trans hb2).trans (Pr.drew _)).trans hb3)) (by simp) _
                · have := hb3.size; simp at this ⊢; omega
          · go_region_law (first
              | (refine step_trees_nil rfl _ _ rfl rfl (fun j => w.heap.size + 1 ≤ j ∧ j < wz.heap.size) (ts.drop at') _ (List.length_drop) _ _ rfl ((hk1z.cutL at' (by omega)).pr (Pr.drew _)) (by rw [List.length_drop]; omega) ?_; intro ob cb w3 hk3 hb3
                 have B8 := (Pr.drew wc |>.trans hb3).blk H8.out; have t8 : w3.cell? ⟨wz.heap.size + 1, 1, none⟩ = _ := blk_cell (o := 1) B8; have t9 := blk_frozen (o := 1) B8))
            all_goals
              go_wp2_with fail
              go_meet
              case rel =>
                refine ⟨ob, cb, (hk3.setCell _ _ (by simp; omega)).mono fun q hq _ => ?_, blk_set B8 _, ?_, ?_, ?_⟩
                · rcases hq with ⟨hq, _⟩ | hq
                  · exact hq
                  · simp at hq; show _ ≤ q; have := hb1.size; simp at this; omega
                · exact cell_far (((hb2.trans (Pr.drew _)).trans hb3).cell hbx7) (by simp)
                · exact Pr.setCell ((((hwW.trans hb2).trans (Pr.drew _)).trans hb3)) (by simp) _
                · have := hb3.size; simp at this ⊢; omega
        case rest =>
          obtain ⟨ob, cb, hkb, hbb, h7, hbw, hws⟩ := hcut
          have p0 : wc.cell? ⟨wz.heap.size + 1, 0, none⟩ = some (.string lb) := blk_cell hbb
          have p1 : wc.cell? ⟨wz.heap.size + 1, 1, none⟩ = some (.slice ob (ts.length - at') cb) := blk_cell hbb
          have h7' : ∀ o1, (wc.alloc o1).cell? ⟨wz.heap.size, 2, none⟩ = some (.int .i64 lf) := fun o1 => (Pr.alloc _ o1).cell h7
          have p0' : ∀ o1, (wc.alloc o1).cell? ⟨wz.heap.size + 1, 0, none⟩ = some (.string lb) := fun o1 => (Pr.alloc _ o1).cell p0
          have p1' : ∀ o1, (wc.alloc o1).cell? ⟨wz.heap.size + 1, 1, none⟩ = some (.slice ob (ts.length - at') cb) := fun o1 => (Pr.alloc _ o1).cell p1
          have hkc : ∀ x, Pr wc x → Kids (From (w.heap.size + 1)) x (ts.take at') oa1 at' := fun x hx => (((hk1.cutR at' (by omega)).pr hbw).pr hx)
          have hic : ∀ x, Pr wc x → Ints Any x (fs.take at') oa2 at' := fun x hx => (((Ints.cutR hk2 at' hcl).pr hbw).pr hx)
          have Hkc := Lib.hid hkc
          have Hic := Lib.hid hic
          have Hbb := Lib.hid hbb
          have htv : ∀ x, Pr wc x → TreeV (From (w.heap.size + 1)) x (.node lb (ts.drop at')) (.string lb) (.slice ob (ts.length - at') cb) := fun x hx => by
            have := treeV_mk (l := lb) cb hll (hkb.pr hx); rw [List.length_drop] at this; exact this
          have Htv := Lib.hid htv
          have hb1c : at' ≤ c1 := by omega
          have hb2c : at' ≤ c2 := by have := hk2.1.1; simp only [ints, List.length_map] at this; omega
          clear htv hkc hic hbb hk1 hk2 hk2W
          have hlt1 : (ts.take at').length = at' := by rw [List.length_take]; omega
          have hlt2 : (fs.take at').length = at' := by rw [List.length_take]; omega
          have Hl1 := Lib.hid hlt1
          have Hl2 := Lib.hid hlt2
          have hc2 : (at' : Int) ≤ fs.length := by omega
          clear hlt1 hlt2
          go_upto_region 15 with fail
          go_region_law (first
            | (refine step_tree_full rfl _ _ rfl (From (w.heap.size + 1)) (ts.take at') _ Hl1.out oa1 rfl (Hkc.out _ (by repeat (first | exact Pr.refl _ | apply Pr.drew' | apply Pr.alloc'))) _ rfl (.node lb (ts.drop at')) (.string lb) (.slice ob (ts.length - at') cb) (by first | exact heap_alloc_new _ _ | exact heap_alloc_two _ _ _ | exact (Pr.alloc _ _).blk (heap_alloc_new _ _)) (Htv.out _ (by repeat (first | exact Pr.refl _ | apply Pr.drew' | apply Pr.alloc'))) (by rw [Hl1.out]; omega) ?_
               intro g4 c4 w4 hk4 hb4
               have hP4 : Pr wc w4 := Pr.trans (by repeat (first | exact Pr.refl _ | apply Pr.drew' | apply Pr.alloc')) hb4
               have q7 := hP4.cell h7)
            | (refine step_int_full rfl _ _ rfl Any (fs.take at') _ Hl2.out oa2 rfl (Hic.out _ (by first | exact hP4 | exact hP4.alloc' _)) _ rfl lf (by first | exact heap_alloc_new _ _ | exact hb4.blk (heap_alloc_two _ _ _) | exact hb4.blk ((Pr.alloc _ _).blk (heap_alloc_new _ _))) (by rw [Hl2.out]; omega) ?_
               intro g5 c5 w5 hk5 hb5))
          all_goals
            go_wp2_with fail
            have hw5 : Pr w4 w5 := (by first | exact hb5 | exact (Pr.alloc _ _).trans hb5)
            have hz1 := hb1.size
            simp at hz1
            refine ⟨⟨k + 1, some ⟨g4, 0, none⟩, some ⟨g5, 0, none⟩, c4, c5, by omega, by go_num, ?_, ?_, ?_, ?_, ?_⟩, ?_⟩
            · rw [Hst.out]; simp only [List.length_append, Hl1.out, List.length_singleton]
            · rw [Hst.out]
              refine (hk4.pr hw5).mono fun q hq _ => ?_
              rcases hq with hq | hq
              · exact hq
              · simp at hq; show _ ≤ q; omega
            · rw [Hst.out]; simp only [List.length_append, Hl2.out, List.length_singleton]
            · rw [Hst.out]; exact Flat.any hk5
            · exact ((hb1.trans hbw).trans hP4).trans hw5
            · simp [intOf]; omega
    · have hkv : k = xs.length := by omega
      subst hkv
      rw [List.take_length] at *
      have hlen40 := stk_len xs xs.length
      rw [List.take_length] at hlen40
      have r0 := hb1.cell (b := w.heap.size) (o := 0) (v := .string ⟨#[]⟩) (by simp [go_sem])
      have r1 := hb1.cell (b := w.heap.size) (o := 1) (v := .slice none 0 0) (by simp [go_sem])
      have f0 : wz.frozen? ⟨w.heap.size, 0, none⟩ = false := by rw [hb1.frozen (by simp)]; simp [go_sem]
      have f1 : wz.frozen? ⟨w.heap.size, 1, none⟩ = false := by rw [hb1.frozen (by simp)]; simp [go_sem]
      have hxr := (hx.pr (Pr.alloc _ _)).pr hb1
      have htp : treeP xs = match (stk xs).1 with | [t] => if fault t = 0 ∧ nds t = xs then (t, 0) else (Tr.zero, 15) | _ => (Tr.zero, 15) := by
        unfold treeP; rw [if_neg H0.out, if_neg h40]; rfl
      generalize (stk xs).1 = T at *
      by_cases hT : T.length = 1
      · obtain ⟨⟨lb, ks⟩, rfl⟩ := List.length_eq_one_iff.1 hT
        obtain ⟨b4, o4, lb', ks', oa4, cap4, he4, hl4, rfl, t0, t1, hk4⟩ := hk1.get 0 (by simp)
        simp only [List.getElem_cons_zero, Tr.node.injEq] at he4
        obtain ⟨rfl, rfl⟩ := he4
        simp only [Nat.zero_mul, Nat.add_zero] at t0 t1
        have Htp := Lib.hid htp
        have Hl40 := Lib.hid hlen40
        have HT := Lib.hid hT
        have Hk1 := Lib.hid hk1
        clear htp hlen40 hT hk1 hk2
        by_cases hf : fault (.node lb ks) = 0
        case neg =>
          have hne : (((fault (.node lb ks) : Nat) : Int) != 0) = true := by simp [bne_iff_ne]; omega
          have He2 : Hid (treeP xs = (Tr.zero, 15)) := Htp.out.trans (if_neg (fun h => hf h.1))
          have Hf := Lib.hid hf
          clear hf
          go_wp2_with (first
            | (go_at_call 31; (with_reducible refine Calls.mono (orderOf_any lb ks _ _ _ hl4 hk4.any) ?_); rintro e w2 ⟨q1, q2, hb2⟩; obtain rfl := q1 Hf.out; clear q1 q2
               have r0' := hb2.cell r0; have r1' := hb2.cell r1; have f0' : w2.frozen? ⟨w.heap.size, 0, none⟩ = false := (by rw [hb2.frozen (lt_of_cell r0)]; exact f0); have f1' : w2.frozen? ⟨w.heap.size, 1, none⟩ = false := (by rw [hb2.frozen (lt_of_cell r0)]; exact f1)))
          rw [He2.out]
          exact bodyPost_ret (v := .tuple #[.agg #[.string ⟨#[]⟩, .slice none 0 0], .int .i64 15]) (by simp [results, Try.results29, go_sem, r0', r1']) rfl (TreePost.zero ((((Pr.alloc _ _).trans (hb1.trans hb2)).setCell (by simp) _).setCell (by simp) _))
        have hne : (((fault (.node lb ks) : Nat) : Int) != 0) = false := by rw [hf]; rfl
        have hsame : ∀ b, decide (nds (.node lb ks) = xs) = b → treeP xs = if b then (Tr.node lb ks, 0) else (Tr.zero, 15) := by
          intro b hb; rw [Htp.out]; cases b
          · exact (if_neg (fun h => by simp at hb; exact hb h.2)).trans rfl
          · exact (if_pos ⟨hf, by simpa using hb⟩).trans rfl
        have Hsm := Lib.hid hsame
        clear hsame
        cases hd : decide (nds (.node lb ks) = xs)
        all_goals
          have He2 := Lib.hid (Hsm.out _ hd)
          have Hd := Lib.hid hd
          have Hf := Lib.hid hf
          clear hd hf
          go_wp2_with (first
            | (go_at_call 31; (with_reducible refine Calls.mono (orderOf_any lb ks _ _ _ hl4 hk4.any) ?_); rintro e w2 ⟨q1, q2, hb2⟩; obtain ⟨g3, c3, rfl, ho3⟩ := q2 Hf.out; clear q1 q2
               have r0' := hb2.cell r0; have r1' := hb2.cell r1; have f0' : w2.frozen? ⟨w.heap.size, 0, none⟩ = false := (by rw [hb2.frozen (lt_of_cell r0)]; exact f0); have f1' : w2.frozen? ⟨w.heap.size, 1, none⟩ = false := (by rw [hb2.frozen (lt_of_cell r0)]; exact f1))
            | (go_at_call 58; (with_reducible refine Calls.mono (equal_nds lb ks xs _ _ _ _ _ _ ho3 (hxr.pr hb2)) ?_); rintro e w4 ⟨rfl, hb4⟩; simp only [Hd.out]
               have r0'' := hb4.cell r0'; have r1'' := hb4.cell r1'; have t0'' := (hb2.trans hb4).cell t0; have t1'' := (hb2.trans hb4).cell t1; have f0'' : w4.frozen? ⟨w.heap.size, 0, none⟩ = false := (by rw [hb4.frozen (lt_of_cell r0')]; exact f0'); have f1'' : w4.frozen? ⟨w.heap.size, 1, none⟩ = false := (by rw [hb4.frozen (lt_of_cell r0')]; exact f1')))
          rw [He2.out]
        · exact bodyPost_ret (v := .tuple #[.agg #[.string ⟨#[]⟩, .slice none 0 0], .int .i64 15]) (by simp [results, Try.results29, go_sem, r0'', r1'']) rfl (TreePost.zero ((((Pr.alloc _ _).trans (hb1.trans (hb2.trans hb4))).setCell (by simp) _).setCell (by simp) _))
        · refine bodyPost_ret (v := .tuple #[.agg #[.string lb, .slice oa4 ks.length cap4], .int .i64 0]) (by simp [results, Try.results29, go_sem, r0'', r1'']) rfl ⟨lb, ks, oa4, cap4, rfl, hl4, rfl, ?_, (((Pr.alloc _ _).trans (hb1.trans (hb2.trans hb4))).setCell (by simp) _).setCell (by simp) _⟩
          exact (((hk4.pr (hb2.trans hb4)).setCell _ _ (by simp)).setCell _ _ (by simp)).any
      · have hne : (((T.length : Nat) : Int) != 1) = true := by simp [bne_iff_ne]; omega
        have He2 : Hid (treeP xs = (Tr.zero, 15)) := by
          refine htp.trans ?_
          match T, hT with
          | [], _ => rfl
          | [t], h => exact absurd rfl h
          | _ :: _ :: _, _ => rfl
        have HT := Lib.hid hT
        clear htp hT hlen40
        go_wp2_with fail
        rw [He2.out]
        exact bodyPost_ret (v := .tuple #[.agg #[.string ⟨#[]⟩, .slice none 0 0], .int .i64 15]) (by simp [results, Try.results29, go_sem, r0, r1]) rfl (TreePost.zero ((((Pr.alloc _ _).trans hb1).setCell (by simp) _).setCell (by simp) _))
end Go.Proofs.Ytdbnfhpgmcjngaa
