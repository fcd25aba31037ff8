/- Walks: the document's deed done: a node deleted. -/
import Derived.Test.YtdbnfhpgmcjngabVb
namespace Go.Proofs.Ytdbnfhpgmcjngab
open Go Go.RowKit

section
variable {ops : Array Oper} {o : Oper} {a : Act} {w : World} {Q : Exit → Act → World → Prop} {K : Act → World → Prop} {E : Prop}
/-- 'append(trees, others...)', at a step of a region that draws its order. -/
theorem step_trees (hgd : o.guard = none) (s x : Operand) (ho : o.op = .call { callee := .builtin .append, args := #[s, x], argTypes := #[22, 22] })
    (b : Nat) (v : Value) (ts : List Tr) (hs : a.eval s = v) (hown : OwnsTs b w v ts) (us : List Tr) (ao : Option Addr) (c : Nat) (hx : a.eval x = .slice ao us.length c) (hu : Kids (Apart b v) w us ao c)
    (hlen : ts.length + us.length ≤ 1000000000) (hbase : b ≤ w.heap.size)
    (h : ∀ v' w', OwnsTs b w' v' (ts ++ us) → w.grownBy w' v.ownBlock → K (a.put o.dst v') w') :
    if Region.wanted o (yielded ops a.tmps) = true then Oper.wp Try.prog o a w K Q else E := by
  obtain ⟨i0, hi, hz0, hz1, hz2⟩ := info_parts info_tree
  obtain ⟨xs, h1, h2⟩ := hown
  obtain ⟨ys, g1, g2⟩ := hu.vals
  by_cases hm : 0 < us.length
  · obtain ⟨ad, rfl, hc⟩ := g2 hm
    refine step_append_lies w hgd s x _ ho b _ i0 _ 2 40 under_trees hi hz0 hz1 hz2 rfl (by omega) v ts.length xs hs h1 ad us.length c ys hx g1.length hc g1.one hm (by unfold maxLen; omega) (by omega) hbase w.heap.size rfl ?_
    intro g cap w' k1 k2 k3 _
    exact h _ w' (OwnsTs.grown h2 g1 k1 k2 k3) k2
  · have hus : us = [] := List.eq_nil_of_length_eq_zero (by omega)
    subst hus
    have hw : Region.wanted o (yielded ops a.tmps) = true := by simp [Region.wanted, hgd]
    rw [if_pos hw]
    have hrun := run_append_zero (P := Try.prog) (w := w) b 22 o.type _ i0 2 under_trees hi v ts.length xs h1 ao c
    unfold Oper.wp execOp
    simp only [ho, resolve, invoke, builtin, Sem.run_bind, Sem.run_pure, Result.andThen_ok, List.map_toArray, List.map_cons, List.map_nil, hs, hx, List.length_nil, hrun]
    exact h v w (by rw [List.append_nil]; exact ⟨xs, h1, h2⟩) (World.grownBy.refl _ _)
end
theorem chgC {X : Nat → Prop} {w w1 : World} (h : Chg X w w1) {b o : Nat} {v : Value} (hc : w.cell? ⟨b, o, none⟩ = some v) (hX : ¬ X b) : w1.cell? ⟨b, o, none⟩ = some v := by
  rw [World.cell?_of_block (h.block b (lt_of_cell hc) hX)]; exact hc
theorem chgOver {X : Nat → Prop} {w w1 w2 : World} (hp : Pr w w1) (h : Chg X w1 w2) (hX : ∀ k, X k → w.heap.size ≤ k) : Pr w w2 :=
  ((hp.chg X).trans h (fun _ h => .inl h)).to_pr hX
/-- The kids, as far as they have come. -/
def delP (ks : List Tr) (x i : Nat) : List Tr := if i ≤ x then ks.take i else ks.take x ++ (kidN ks (x : Int)).kids ++ (ks.drop (x + 1)).take (i - (x + 1))
theorem delP_zero (ks : List Tr) (x : Nat) : delP ks x 0 = [] := by simp [delP]
theorem delP_at (ks : List Tr) (x : Nat) (h : x < ks.length) : delP ks x (x + 1) = delP ks x x ++ ks[x].kids := by
  unfold delP
  rw [if_neg (by omega), if_pos (Nat.le_refl _), kidN_in ks x h]; simp
theorem delP_succ (ks : List Tr) (x i : Nat) (h : i < ks.length) (hne : i ≠ x) : delP ks x (i + 1) = delP ks x i ++ [ks[i]] := by
  unfold delP
  by_cases hi : i < x
  · rw [if_pos (by omega), if_pos (by omega)]; exact List.take_succ_eq_append_getElem h
  · rw [if_neg (by omega), if_neg (by omega), List.append_assoc]
    rw [show i + 1 - (x + 1) = (i - (x + 1)) + 1 by omega, List.take_succ_eq_append_getElem (by simp; omega)]
    simp only [List.append_assoc]
    congr 3
    simp only [List.getElem_drop]
    congr 2
    omega
theorem delP_all (ks : List Tr) (x : Nat) (h : x < ks.length) : delP ks x ks.length = ks.take x ++ (kidN ks (x : Int)).kids ++ ks.drop (x + 1) := by
  unfold delP
  rw [if_neg (by omega), List.take_of_length_le (l := ks.drop (x + 1)) (by rw [List.length_drop]; omega)]
theorem delP_length (ks : List Tr) (x i : Nat) (hi : i ≤ ks.length) : (delP ks x i).length ≤ ks.length + (kidN ks (x : Int)).kids.length := by
  unfold delP
  split
  · rw [List.length_take]; omega
  · simp; omega

section
variable {S : Nat → Prop} {l : ByteArray} {ks : List Tr} {oa : Option Addr} {cap : Nat} {k a m : Int} {s : ByteArray} {pa : Option Addr} {np pc : Nat} {qa : Option Addr} {qc : Nat} {w : World}
set_option maxRecDepth 100000 in
set_option maxHeartbeats 6400000 in
/-- A kid goes; its kids stand in its place. -/
theorem rdone_del (x : Nat) (hl : l.size ≤ maxLen) (hsz : Tr.szL ks ≤ 1000000) (hk : Kids S w ks oa cap) (hq : Ints Any w [(x : Int)] qa qc) (hk2 : k = 2) (hx : x < ks.length) :
    Calls Try.prog 67 #[.agg #[.string l, .slice oa ks.length cap], .agg #[.int .i64 k, .slice pa np pc, .int .i64 a, .int .i64 m, .string s], .slice qa 1 qc] w (DonePost S (.node l (delP ks x ks.length), 0) w) := by
  have hm := hk.len
  obtain ⟨bq, oq, rfl, cq⟩ := Ints.get hq 0 (by simp)
  simp only [List.getElem_cons_zero, Nat.add_zero] at cq

  obtain ⟨W, hW⟩ : ∃ W, W = ((w.alloc (.cells #[.string l, .slice oa ks.length cap] 24)).alloc (.cells #[.int .i64 k, .slice pa np pc, .int .i64 a, .int .i64 m, .string s] 40)).alloc (.cells #[.string ⟨#[]⟩, .slice none 0 0] 24) := ⟨_, rfl⟩
  have hwW : Pr w W := by rw [hW]; exact ((Pr.alloc _ _).alloc' _).alloc' _
  have hWs : W.heap.size = w.heap.size + 3 := by rw [hW]; simp
  have s0 := stays (show W.cell? ⟨w.heap.size, 0, none⟩ = some (.string l) by rw [hW]; simp [go_sem])
  have s1 := stays (show W.cell? ⟨w.heap.size, 1, none⟩ = some (.slice oa ks.length cap) by rw [hW]; simp [go_sem])
  have d0 := stays (show W.cell? ⟨w.heap.size + 1, 0, none⟩ = some (.int .i64 k) by rw [hW]; simp [go_sem])
  have d1 := stays (show W.cell? ⟨w.heap.size + 1, 1, none⟩ = some (.slice pa np pc) by rw [hW]; simp [go_sem])
  have d2 := stays (show W.cell? ⟨w.heap.size + 1, 2, none⟩ = some (.int .i64 a) by rw [hW]; simp [go_sem])
  have d3 := stays (show W.cell? ⟨w.heap.size + 1, 3, none⟩ = some (.int .i64 m) by rw [hW]; simp [go_sem])
  have d4 := stays (show W.cell? ⟨w.heap.size + 1, 4, none⟩ = some (.string s) by rw [hW]; simp [go_sem])
  have hR : W.heap[w.heap.size + 1 + 1]? = some (.cells #[.string ⟨#[]⟩, .slice none 0 0] 24 (0, 0)) := by
    rw [hW]; simpa using heap_alloc_new ((w.alloc (.cells #[.string l, .slice oa ks.length cap] 24)).alloc (.cells #[.int .i64 k, .slice pa np pc, .int .i64 a, .int .i64 m, .string s] 40)) (.cells #[.string ⟨#[]⟩, .slice none 0 0] 24)
  have HR := Lib.hid hR; have HW := Lib.hid hwW; have HWs := Lib.hid hWs; have HK := Lib.hid ((hk.mono (S' := fun j => S j ∧ j < w.heap.size) (fun j h1 h2 => ⟨h1, h2⟩)).pr hwW)
  clear hR hk

  have cq := stays (hwW.cell cq)
  have hws1 : w.heap.size + 3 ≤ W.heap.size := by omega
  have hbq : bq < W.heap.size := lt_of_cell (cq _ (Pr.refl _))
  have hd1 : decide ((ks.length : Int) ≤ (x : Int)) = false := by simp; omega
  have hd2 : decide (ks.length ≤ x) = false := by simp; omega
  have hkx : (kidN ks (x : Int)).kids.length ≤ 1000000 := by
    rw [kidN_in ks x hx]
    have h1 := Tr.szL_get ks x hx
    cases hkk : ks[x] with
    | node l' ks' => rw [hkk, Tr.sz_node] at h1; have := Tr.length_le ks'; simp only [Tr.kids_node]; omega
  have hkl := Tr.length_le ks
  subst hk2
  clear hwW hq hWs
  go_enter Try.func67, Try.ntmps67
  go_upto_region 1 with fail
  rw [← hW]; clear hW
  have y0 := d0 _ (Pr.refl _); have y3 := s0 _ (Pr.refl _)
  have y1 := fun o => d0 _ (Pr.alloc W o)
  go_upto_region 23 with fail
  obtain ⟨V, hV⟩ : ∃ V, V = W.alloc (.cells #[.string l, .slice none 0 0] 24) := ⟨_, rfl⟩
  have hwV : Pr W V := by rw [hV]; exact Pr.alloc _ _
  have hVs : V.heap.size = W.heap.size + 1 := by rw [hV]; simp
  have hT : V.heap[W.heap.size]? = some (.cells #[.string l, .slice none 0 0] 24 (0, 0)) := by rw [hV]; exact heap_alloc_new _ _
  rw [← hV]
  clear hV y0 y1 y3
  have s1 := stays (s1 _ hwV); have cq := stays (cq _ hwV)
  have HR2 := Lib.hid (hwV.blk HR.out); have HT := Lib.hid hT; have HW2 := Lib.hid (HW.out.trans hwV); have HK2 := Lib.hid (HK.out.pr hwV)
  have hvs1 : W.heap.size + 1 ≤ V.heap.size := by omega
  clear hVs hT hwV HR HK HW
  have x1 := s1 _ (Pr.refl _); have x2 := cq _ (Pr.refl _)
  go_quiet (fail)
  obtain ⟨V1, hV1⟩ : ∃ V1, V1 = V.drewN nq := ⟨_, rfl⟩
  have hV1p : Pr V V1 := by rw [hV1]; exact Pr.drewN _ _
  rw [← hV1]
  clear hV1 x1 x2
  have HT1 := Lib.hid (hV1p.blk HT.out)
  go_wp2_with fail
  go_loopw [14] (fun vi wr => ∃ (i : Nat) (v : Value), i ≤ ks.length ∧ vi = .int .i64 i ∧ OwnsTs V.heap.size wr v (delP ks x i) ∧ wr.heap[W.heap.size]? = some (.cells #[.string l, v] 24 (0, 0)) ∧ Chg (fun j => j = W.heap.size) V wr) (fun vi _ => ks.length - (intOf vi).toNat)
  case atStart => exact ⟨0, .slice none 0 0, by omega, rfl, by rw [delP_zero]; exact OwnsTs.nil _ _, HT1.out, hV1p.chg _⟩
  case round =>
    obtain ⟨i, v, hi, rfl, hown, hblk, hcr⟩ := hrel
    have hsr := hcr.size
    have x1 : wr.cell? ⟨w.heap.size, 1, none⟩ = some (.slice oa ks.length cap) := chgC hcr (s1 _ (Pr.refl _)) (by omega)
    have hlen := delP_length ks x i hi
    by_cases hlt : i < ks.length
    · have x2 : wr.cell? ⟨bq, oq, none⟩ = some (.int .i64 (x : Int)) := chgC hcr (cq _ (Pr.refl _)) (by omega)
      have hkr : Kids (fun j => S j ∧ j < w.heap.size) wr ks oa cap := HK2.out.carry fun j hj hl => ⟨hcr.block j hl (by have := hj.2; omega), hj⟩
      obtain ⟨bk, ok, l', ks', oa', cap', e1, hl', rfl, c0, c1, hk'⟩ := hkr.get i hlt
      have hsz' := Tr.szL_get ks i hlt
      rw [e1, Tr.sz_node] at hsz'
      have hkl' := Tr.length_le ks'
      have g1 : wr.cell? ⟨W.heap.size, 1, none⟩ = some v := blk_cell hblk
      have hd0 := Pr.drew wr
      have n1 : v.ownBlock ≠ some W.heap.size := fun e => by have := (hown.block _ e).1; omega
      have l0 : (0 : Int) ≤ (i : Int) := by omega
      have l1 : (i : Int) < (ks.length : Int) := by omega
      have Hbk := Lib.hid hblk; have Hcr := Lib.hid hcr; have He1 := Lib.hid e1
      by_cases hix : i = x
      · have e5 : ((i : Int) == (x : Int)) = true := by simp [hix]
        have hsuc : delP ks x (i + 1) = delP ks x i ++ ks' := by
          subst hix; rw [delP_at ks i hlt, He1.out]; rfl
        have Hsuc := Lib.hid hsuc
        have OL := Lib.hid fun (W' : World) (h : Pr wr W') => rownList_any ks' oa' cap' W' (by omega) (hk'.any.pr h)
        clear hblk hcr e1 hix hsuc hkr hk'
        go_upto_region 29 with fail
        go_region_law (first
          | (go_simp; go_at_call 42; (with_reducible refine Calls.mono (OL.out _ hd0) ?_); rintro e w5 ⟨v5, rfl, hown5, hb5⟩; obtain ⟨o5, c5, rfl, hk5⟩ := hown5.kids; have s1' : w5.cell? ⟨W.heap.size, 1, none⟩ = some v := blk_cell ((hd0.trans hb5).blk Hbk.out))
          | (refine step_trees rfl _ _ rfl V.heap.size v (delP ks x i) rfl ((hown.pr hd0).pr hb5) ks' _ _ rfl (hk5.mono (fun j hj _ => ⟨by have hj' : wr.heap.size ≤ j := (by simpa using hj); omega, fun e => by have hj' : wr.heap.size ≤ j := (by simpa using hj); have := (hown.block j e).2; omega⟩)) (by omega) (by have := hb5.size; simp at this; omega) ?_; intro v6 w6 ho6 hg6; obtain ⟨o6, c6, rfl, hk6⟩ := ho6.kids; have B6 := Lib.hid (grown_blk hg6 ((hd0.trans hb5).blk Hbk.out) n1); have t4 := blk_frozen (o := 1) B6.out; have t5 := blk_cell (o := 1) B6.out))
        all_goals
          have hs6 := hg6.size
          have hs5 := hb5.size
          simp at hs5
          obtain ⟨wz, hwz⟩ : ∃ wz, wz = w6.setCell ⟨W.heap.size, 1, none⟩ (.slice o6 ((delP ks x i).length + ks'.length) c6) := ⟨_, rfl⟩
          have h1 : OwnsTs V.heap.size wz (.slice o6 ((delP ks x i).length + ks'.length) c6) (delP ks x (i + 1)) := by
            rw [hwz, Hsuc.out]; rw [List.length_append] at ho6; exact ho6.setCell _ _ (by simp; omega)
          have h2 : wz.heap[W.heap.size]? = some (.cells #[.string l, .slice o6 ((delP ks x i).length + ks'.length) c6] 24 (0, 0)) := by rw [hwz]; exact blk_set (o := 1) B6.out _
          have h3 : Chg (fun j => j = W.heap.size) V wz := by
            rw [hwz]
            exact (((Hcr.out.pr hd0).pr hb5).trans (chg_grown hg6) (fun j hj => .inr (hown.block j hj).1)).setCell _ _ (.inl rfl)
          rw [← hwz]
          have H := Lib.hid (And.intro h1 (And.intro h2 h3))
          clear hwz h1 h2 h3 ho6 hg6 hk6 hk5 hown5 hb5 hown t4 t5 s1'
          go_wp2_with fail
          exact ⟨⟨i + 1, _, by omega, by go_num, H.out.1, H.out.2.1, H.out.2.2⟩, by simp [intOf]; omega⟩
      · have e5 : ((i : Int) == (x : Int)) = false := by simp; omega
        have hsuc : delP ks x (i + 1) = delP ks x i ++ [.node l' ks'] := by rw [delP_succ ks x i hlt hix, He1.out]
        have Hsuc := Lib.hid hsuc
        have OW := Lib.hid fun (W' : World) (h : Pr wr W') => rown_any l' ks' oa' cap' W' (by omega) (hk'.any.pr h)
        clear hblk hcr e1 hix hsuc hkr hk'
        go_upto_region 30 with fail
        go_region_law (first
          | (go_simp; go_at_call 16; (with_reducible refine Calls.mono (OW.out _ hd0) ?_); rintro e w5 ⟨o5, c5, rfl, hk5, hb5⟩; have s1' : w5.cell? ⟨W.heap.size, 1, none⟩ = some v := blk_cell ((hd0.trans hb5).blk Hbk.out); have s1'' := fun o => (Pr.alloc w5 o).cell s1')
          | (refine step_tree rfl _ _ rfl V.heap.size v (delP ks x i) rfl (((hown.pr hd0).pr hb5).pr (Pr.alloc _ _)) w5.heap.size rfl (.node l' ks') _ _ (heap_alloc_new w5 _) (treeV_mk c5 hl' ((hk5.pr (Pr.alloc _ _)).mono (fun j hj _ => ⟨by have hj' : wr.heap.size ≤ j := (by simpa using hj); omega, fun e => by have hj' : wr.heap.size ≤ j := (by simpa using hj); have := (hown.block j e).2; omega⟩))) (by omega) (by have := hb5.size; simp at this ⊢; omega) ?_; intro g6 c6 w6 ho6 hg6 hat6; have B6 := Lib.hid (grown_blk hg6 ((Pr.alloc w5 _).blk ((hd0.trans hb5).blk Hbk.out)) n1); have t4 := blk_frozen (o := 1) B6.out; have t5 := blk_cell (o := 1) B6.out))
        all_goals
          have hs6 := hg6.size
          have hs5 := hb5.size
          simp at hs5 hs6
          obtain ⟨wz, hwz⟩ : ∃ wz, wz = w6.setCell ⟨W.heap.size, 1, none⟩ (.slice (some ⟨g6, 0, none⟩) ((delP ks x i).length + 1) c6) := ⟨_, rfl⟩
          have h1 : OwnsTs V.heap.size wz (.slice (some ⟨g6, 0, none⟩) ((delP ks x i).length + 1) c6) (delP ks x (i + 1)) := by
            rw [hwz, Hsuc.out]; exact ho6.setCell _ _ (by simp; omega)
          have h2 : wz.heap[W.heap.size]? = some (.cells #[.string l, .slice (some ⟨g6, 0, none⟩) ((delP ks x i).length + 1) c6] 24 (0, 0)) := by rw [hwz]; exact blk_set (o := 1) B6.out _
          have h3 : Chg (fun j => j = W.heap.size) V wz := by
            rw [hwz]
            exact ((((Hcr.out.pr hd0).pr hb5).pr (Pr.alloc w5 (.cells #[.string l', .slice o5 ks'.length c5] 24))).trans (chg_grown hg6) (fun j hj => .inr (hown.block j hj).1)).setCell _ _ (.inl rfl)
          rw [← hwz]
          have H := Lib.hid (And.intro h1 (And.intro h2 h3))
          clear hwz h1 h2 h3 ho6 hg6 hat6 hk5 hb5 hown t4 t5 s1' s1''
          go_wp2_with fail
          exact ⟨⟨i + 1, _, by omega, by go_num, H.out.1, H.out.2.1, H.out.2.2⟩, by simp [intOf]; omega⟩
    · have hin : i = ks.length := by omega
      have z1 : decide ((i : Int) < (ks.length : Int)) = false := by simp; omega
      have z2 : decide (i < ks.length) = false := by simp; omega
      obtain ⟨oz, cz, rfl, hkz⟩ := hown.kids
      have t0 := blk_cell (o := 0) hblk; have t1 := blk_cell (o := 1) hblk
      have hRr := hcr.blk HR2.out (by omega)
      have r0 := blk_cell (o := 0) hRr; have r1 := blk_cell (o := 1) hRr; have f0 := blk_frozen (o := 0) hRr; have f1 := blk_frozen (o := 1) hRr
      have Hin := Lib.hid hin; have Hkz := Lib.hid hkz; have Hcr := Lib.hid hcr
      have hVw := HW2.out.size
      clear hin hlt hown hkz hblk hRr hcr
      go_wp2_with fail
      refine bodyPost_ret (v := .tuple #[.agg #[.string l, .slice oz (delP ks x i).length cz], .int .i64 0]) (by simp [results, Try.results67, go_sem, r0, r1]) rfl ?_
      have hpr : Pr w wr := chgOver HW2.out Hcr.out (fun j hj => by omega)
      rw [← Hin.out]
      exact done_fin (c := 0) rfl hl hpr (Hkz.out.mono (fun j hj _ => .inr (by have hj' : V.heap.size ≤ j := hj; omega)))
end
end Go.Proofs.Ytdbnfhpgmcjngab
