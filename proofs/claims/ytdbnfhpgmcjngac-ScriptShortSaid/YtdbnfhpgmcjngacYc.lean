/- Walks: script.without. -/
import Derived.Test.YtdbnfhpgmcjngacYa
import Derived.Test.YtdbnfhpgmcjngacRw
import Derived.Test.YtdbnfhpgmcjngacBpl
namespace Go.Proofs.Ytdbnfhpgmcjngac
open Go Go.RowKit

theorem delL_snoc (t : Tr) : ∀ (l pre : List Nat) (n : Nat), delL t pre (l ++ [n]) = delL t pre l ++ [⟨2, whT (inL (pre ++ l)) 0 t n, 0, 0, ⟨#[]⟩⟩]
  | [], pre, n => by simp [delL]
  | m :: l, pre, n => by
    rw [List.cons_append, delL, delL_snoc t l (pre ++ [m]) n, delL, List.append_assoc]; rfl
theorem delL_path (t : Tr) : ∀ (l pre : List Nat), ∀ d ∈ delL t pre l, d.path.length ≤ t.sz
  | [], pre, d, h => by simp [delL] at h
  | m :: l, pre, d, h => by
    rw [delL] at h
    rcases List.mem_cons.1 h with rfl | h
    · exact whT_length _ _ _ _
    · exact delL_path t l _ d h
theorem goneOk_take {t : Tr} {L : List Nat} (hn : ∀ n ∈ L, n + 1 < t.sz) (i : Nat) : GoneOk (nds t) ((L.map Int.ofNat).take i) (inL (L.take i)) := by
  refine ⟨fun j => ?_, fun v h hg => ?_⟩
  · rw [← List.map_take]
    unfold inL
    rw [decide_eq_decide, List.mem_map]
    constructor
    · rintro ⟨a, ha, e⟩
      have e1 : (a : Int) = (j : Int) := e
      have : a = j := by omega
      exact this ▸ ha
    · intro h; exact ⟨j, h, rfl⟩
  · have hv : v ∈ L := List.mem_of_mem_take (by simpa [inL] using hg)
    have h1 := hn v hv
    rcases par_parts h with ⟨_, h2⟩ | ⟨m, h2, h3, h4, _⟩
    · omega
    · rw [parN_get _ _ h] at h4; exact ⟨m, h2, h3, h4⟩
/-- What without tells. -/
def WoutPost (w : World) (t : Tr) (L : List Nat) (e : Ending) (w' : World) : Prop :=
  ∃ l ks oa cap o7 c7 o8 c8, prune (inL L) t = .node l ks ∧ l.size ≤ maxLen ∧ e = .returned (.tuple #[.agg #[.string l, .slice oa ks.length cap], .slice o7 (delL t [] L).length c7, .slice o8 (undoL t L).length c8]) ∧ Kids (From w.heap.size) w' ks oa cap ∧ Dees (From w.heap.size) w' (delL t [] L) o7 c7 ∧ Dees (From w.heap.size) w' (undoL t L) o8 c8 ∧ Pr w w'

set_option maxRecDepth 100000 in
set_option maxHeartbeats 6400000 in
theorem without_any (l : ByteArray) (ks : List Tr) (oa cap) (nd : List Nd) (hnd : nd = nds (.node l ks)) (ob cb) (L : List Nat) (xs : List Int) (hxs : xs = L.map Int.ofNat) (og cg) (w : World) (hl : l.size ≤ maxLen) (ft : fault (.node l ks) = 0)
    (hk : Kids Any w ks oa cap) (hN : Nds Any w nd ob cb) (hx : Ints Any w xs og cg) (hL : L.Pairwise (fun a b => a < b)) (hn : ∀ n ∈ L, n + 1 < (Tr.node l ks).sz) (hLl : L.length ≤ 80) :
    Calls Try.prog 70 #[.agg #[.string l, .slice oa ks.length cap], .slice ob nd.length cb, .slice og xs.length cg] w (WoutPost w (.node l ks) L) := by
  have hxl : xs.length = L.length := by rw [hxs, List.length_map]
  have hszf := (fault_zero.1 ft).1
  have hndl : nd.length ≤ 1000000 := by rw [hnd, nds_length]; omega
  have hup : UpOk nd := by rw [hnd]; exact upOk_nds _
  have hlen := Ints.len hx
  obtain ⟨back, hdel⟩ := del_ok ft L [] 0 (by rw [List.nil_append]; exact hL) hn
  rw [inL_nil, prune_none, List.nil_append] at hdel
  have hund : undoL (.node l ks) L = back := by unfold undoL; rw [hdel]
  rw [← hund] at hdel
  have hrun := runT_ok ft (by rw [delL_length]; exact hLl) hdel
  have hpth : ∀ d ∈ delL (.node l ks) [] L, d.path.length ≤ 100000 := fun d hd => by have := delL_path _ _ _ d hd; omega
  obtain ⟨W, hW⟩ : ∃ W, W = (w.alloc (.cells #[.string l, .slice oa ks.length cap] 24)).alloc (.cells #[.string ⟨#[]⟩, .slice none 0 0] 24) := ⟨_, rfl⟩
  have hwW : Pr w W := by rw [hW]; exact (Pr.alloc _ _).alloc' _
  have hWs : W.heap.size = w.heap.size + 2 := by rw [hW]; simp
  have hT0 : W.heap[w.heap.size]? = some (.cells #[.string l, .slice oa ks.length cap] 24 (0, 0)) := by
    rw [hW]; exact (Pr.alloc _ _).blk (heap_alloc_new w (.cells #[.string l, .slice oa ks.length cap] 24))
  have hR1 : W.heap[w.heap.size + 1]? = some (.cells #[.string ⟨#[]⟩, .slice none 0 0] 24 (0, 0)) := by
    rw [hW]; simpa using heap_alloc_new (w.alloc (.cells #[.string l, .slice oa ks.length cap] 24)) (.cells #[.string ⟨#[]⟩, .slice none 0 0] 24)
  have HG := Lib.hid fun i => goneOk_take hn i
  have HW := Lib.hid hwW; have HWs := Lib.hid hWs; have HK := Lib.hid hk; have HT := Lib.hid hT0; have HR := Lib.hid hR1
  have HN := Lib.hid hN; have HX := Lib.hid hx; have Hnd := Lib.hid hnd; have Hxs := Lib.hid hxs; have Hup := Lib.hid hup; have Hrun := Lib.hid hrun; have Hpth := Lib.hid hpth; have Hn := Lib.hid hn; have HL := Lib.hid hL
  have Hxl := Lib.hid hxl
  clear hwW hWs hT0 hR1 hk hN hx hnd hxs hup hrun hpth hdel hund hn hL hxl
  go_enter Try.func70, Try.ntmps70
  go_upto_region 1 with fail
  rw [← hW]; clear hW
  go_wp2_with fail
  go_loopw [9, 18] (fun v vi wr => ∃ i : Nat, i ≤ xs.length ∧ vi = .int .i64 i ∧ OwnsDs W.heap.size wr v (delL (.node l ks) [] (L.take i)) ∧ Pr W wr) (fun _ vi _ => xs.length - (intOf vi).toNat)
  case atStart => exact ⟨0, by omega, rfl, by rw [List.take_zero]; exact OwnsDs.nil _ _, Pr.refl _⟩
  case round =>
    obtain ⟨i, hi, rfl, hown, hb⟩ := hrel
    have Hown := Lib.hid hown; clear hown
    by_cases hlt : i < xs.length
    case pos =>
      have hltL : i < L.length := by have := Hxl.out; omega
      obtain ⟨n, hnn⟩ : ∃ n, n = L[i] := ⟨_, rfl⟩
      obtain ⟨bg, og', hog, c0⟩ := Ints.get (Flat.pr (HW.out.trans hb) HX.out) i hlt
      have hxi : xs[i] = (n : Int) := by have h := Hxs.out; subst h; rw [List.getElem_map, ← hnn]; rfl
      rw [hxi] at c0
      have hn1 := Hn.out n (by rw [hnn]; exact List.getElem_mem hltL)
      obtain ⟨ys, hys⟩ : ∃ ys, ys = xs.take i := ⟨_, rfl⟩
      have hyl : ys.length = i := by rw [hys, List.length_take]; omega
      have hgy : GoneOk nd ys (inL (L.take i)) := by rw [hys, Hxs.out, Hnd.out]; exact HG.out i
      have hyi : Ints Any wr ys og cg := by rw [hys]; exact Ints.cutP (Flat.pr (HW.out.trans hb) HX.out) i (by omega)
      have hnl : n < nd.length := by rw [Hnd.out, nds_length]; omega
      have hwh : whN nd (inL (L.take i)) n = whT (inL (L.take i)) 0 (.node l ks) n := by
        rw [Hnd.out]
        refine whN_is (fun j hj => ?_) hn1
        simp only [inL, decide_eq_false_iff_not]
        intro hm
        obtain ⟨a, ha, e⟩ := List.getElem_of_mem hm
        rw [List.length_take] at ha
        rw [List.getElem_take] at e
        have := List.pairwise_iff_getElem.1 HL.out a i (by omega) hltL (by omega)
        omega
      have WH := where_any nd Hup.out hndl ys (inL (L.take i)) hgy n ob cb og cg wr hnl (HN.out.pr (HW.out.trans hb)) hyi
      rw [hyl, hwh] at WH
      have hds : delL (.node l ks) [] (L.take (i + 1)) = delL (.node l ks) [] (L.take i) ++ [⟨2, whT (inL (L.take i)) 0 (.node l ks) n, 0, 0, ⟨#[]⟩⟩] := by
        rw [List.take_succ_eq_append_getElem hltL, delL_snoc, ← hnn, List.nil_append]
      obtain ⟨p, hp⟩ : ∃ p, p = whT (inL (L.take i)) 0 (.node l ks) n := ⟨_, rfl⟩
      have hdl : (delL (.node l ks) [] (L.take i)).length ≤ 1000000000 := by rw [delL_length, List.length_take]; omega
      rw [← hp] at WH hds
      have hds' := hds
      generalize delL (.node l ks) [] (L.take i) = D at *
      have Hds := Lib.hid hds; have WH2 := Lib.hid WH; have Hb := Lib.hid hb
      have hq0 := Below.size hb
      have hic : i ≤ cg := by have h := HX.out.1.1; rw [List.length_map] at h; omega
      have hub : ∀ j, u9.ownBlock = some j → W.heap.size ≤ j ∧ j < wr.heap.size := fun j hj => Hown.out.block j hj
      have Hub := Lib.hid hub
      have Hdl := Lib.hid hdl
      clear WH hds hds' hp hwh hgy hyi hys hyl hxi hnn hub hdl hb
      subst hog
      go_upto_region 6 with (go_at_call 99; (with_reducible refine Calls.mono WH2.out ?_); rintro e w1 ⟨v1, rfl, ho1, hb1⟩; obtain ⟨bp, bc, rfl, hi1⟩ := ho1.ints)
      obtain ⟨V1, hV1⟩ : ∃ V, V = w1.alloc (.cells #[.int .i64 2, .slice bp p.length bc, .int .i64 0, .int .i64 0, .string ⟨#[]⟩] 45) := ⟨_, rfl⟩
      have hpV : Pr w1 V1 := by rw [hV1]; exact Pr.alloc _ _
      have b0 : V1.cell? ⟨w1.heap.size, 0, none⟩ = some (.int .i64 2) := by rw [hV1]; simp [go_sem]
      have b1 : V1.cell? ⟨w1.heap.size, 1, none⟩ = some (.slice bp p.length bc) := by rw [hV1]; simp [go_sem]
      have b2 : V1.cell? ⟨w1.heap.size, 2, none⟩ = some (.int .i64 0) := by rw [hV1]; simp [go_sem]
      have b3 : V1.cell? ⟨w1.heap.size, 3, none⟩ = some (.int .i64 0) := by rw [hV1]; simp [go_sem]
      have b4 : V1.cell? ⟨w1.heap.size, 4, none⟩ = some (.string ⟨#[]⟩) := by rw [hV1]; simp [go_sem]
      rw [← hV1]
      have hq1 := Below.size hb1; have hq2 := Below.size hpV
      have Hi3 : Hid (Ints (Apart W.heap.size u9) V1 p bp bc) := Lib.hid (Flat.mono (fun j (hj : wr.heap.size ≤ j) _ => ⟨by omega, fun e => by have := (Hub.out j e).2; omega⟩) (Flat.pr hpV hi1))
      have Ho3 : Hid (OwnsDs W.heap.size V1 u9 D) := Lib.hid ((Hown.out.pr hb1).pr hpV)
      have HbV := Lib.hid ((Hb.out.trans hb1).trans hpV)
      have hlab : (⟨#[]⟩ : ByteArray).size ≤ maxLen := by unfold maxLen; simp [ByteArray.size]
      have Hlab := Lib.hid hlab
      clear hV1 hi1 ho1 hb1 hpV hlab
      go_upto_region 7 with (at_builtin; go_must (refine app_deed rfl _ _ rfl W.heap.size u9 D rfl (Ho3.out.pr (Pr.alloc _ _)) V1.heap.size rfl ⟨2, p, 0, 0, ⟨#[]⟩⟩ bp bc (heap_alloc_new V1 _) (Flat.pr (Pr.alloc _ _) Hi3.out) Hlab.out Hdl.out (by simp; omega) ?_); intro g4 c4 w4 ho4 hg4 hd4)
      rw [← Hds.out] at ho4
      have hb4 : Pr W w4 := Below.grown (HbV.out.alloc' _) hg4 (by simp; omega) (fun j hj => (Hub.out j hj).1)
      have Ho4 := Lib.hid ho4; have Hb4 := Lib.hid hb4
      clear ho4 hg4 hd4 hb4
      go_wp2_with fail
      refine ⟨⟨i + 1, by omega, by go_num, Ho4.out, Hb4.out⟩, ?_⟩
      simp [intOf]; omega
    case neg =>
      have hie : i = L.length := by have := Hxl.out; omega
      have hown2 := Hown.out
      rw [hie, List.take_length] at hown2
      obtain ⟨o7, c7, rfl, hds⟩ := hown2.dees
      have hT := hb.blk HT.out
      have t0 := blk_cell (o := 0) hT; have t1 := blk_cell (o := 1) hT
      have R1 := run_any l ks oa cap (delL (.node l ks) [] L) o7 c7 wr hl (HK.out.pr (HW.out.trans hb)) hds.any Hpth.out
      obtain ⟨D, hD⟩ : ∃ D, D = delL (.node l ks) [] L := ⟨_, rfl⟩
      have hrun := Hrun.out
      rw [← hD] at R1 hds hrun ⊢
      have R2 := Lib.hid R1; have Hds := Lib.hid hds; have HD := Lib.hid hD; have Hb := Lib.hid hb; have Hrun2 := Lib.hid hrun
      clear R1 hds hD hb hown2 Hown hT hrun Hrun Hpth
      go_upto_region 9 with (go_at_call 22; (with_reducible refine Calls.mono R2.out ?_); rintro e w1 ⟨l2, ks2, oa2, cap2, bs, o8, c8, rc, ri, hr, hl2, rfl, hk2, hbs, _, hb1⟩)
      have hre := Hrun2.out.symm.trans hr
      obtain ⟨V, hV⟩ : ∃ V, V = (w1.alloc (.cells #[.string l2, .slice oa2 ks2.length cap2] 24)).alloc (.cells #[.int .i64 rc, .int .i64 ri] 39) := ⟨_, rfl⟩
      have hpV : Pr w1 V := by rw [hV]; exact (Pr.alloc _ _).alloc' _
      have n0 : V.cell? ⟨w1.heap.size, 0, none⟩ = some (.string l2) := by rw [hV]; simp [go_sem]
      have n1 : V.cell? ⟨w1.heap.size, 1, none⟩ = some (.slice oa2 ks2.length cap2) := by rw [hV]; simp [go_sem]
      have hR := (hb1.trans hpV).blk (Hb.out.blk HR.out)
      have q0 := blk_cell (o := 0) hR; have q1 := blk_cell (o := 1) hR; have q2 := blk_frozen (o := 0) hR; have q3 := blk_frozen (o := 1) hR
      rw [← hV]
      have hws := HWs.out; have hz1 := Below.size Hb.out; have hz2 := Below.size hb1; have hz3 := Below.size hpV
      have key : ∀ W4, Chg (fun k => k = w.heap.size + 1) V W4 → WoutPost w (.node l ks) L (.returned (.tuple #[.agg #[.string l2, .slice oa2 ks2.length cap2], .slice o7 D.length c7, .slice o8 bs.length c8])) W4 := fun W4 h4 => by
        have e1 : prune (inL L) (.node l ks) = .node l2 ks2 := congrArg Prod.fst hre
        have e2 : undoL (.node l ks) L = bs := congrArg (fun x => x.2.1) hre
        refine ⟨l2, ks2, oa2, cap2, o7, c7, o8, c8, e1, hl2, by rw [e2, HD.out], ?_, ?_, ?_, ?_⟩
        · exact (hk2.pr hpV).carry fun j (hj : wr.heap.size ≤ j) hl => ⟨h4.block j hl (by omega), show w.heap.size ≤ j by omega⟩
        · rw [← HD.out]
          exact ((Hds.out.pr hb1).pr hpV).carry fun j (hj : W.heap.size ≤ j) hl => ⟨h4.block j hl (by omega), show w.heap.size ≤ j by omega⟩
        · rw [e2]
          exact (hbs.pr hpV).carry fun j (hj : wr.heap.size ≤ j) hl => ⟨h4.block j hl (by omega), show w.heap.size ≤ j by omega⟩
        · exact (((HW.out.trans Hb.out).trans (hb1.trans hpV)).chg (fun k => k = w.heap.size + 1)).trans h4 (fun _ h => .inl h) |>.to_pr (fun k hk => by omega)
      have Key := Lib.hid key
      clear hV key hre hr hk2 hbs hb1 hpV hR hws hz1 hz2 hz3 t0 t1
      go_wp2_with fail
      exact bodyPost_ret (v := .tuple #[.agg #[.string l2, .slice oa2 ks2.length cap2], .slice o7 D.length c7, .slice o8 bs.length c8]) (by simp [results, Try.results70, go_sem, q0, q1]) rfl (Key.out _ (Chg.setCell (Chg.setCell (Chg.refl (fun k => k = w.heap.size + 1) V) ⟨w.heap.size + 1, 0, none⟩ (.string l2) (.inl rfl)) ⟨w.heap.size + 1, 1, none⟩ (.slice oa2 ks2.length cap2) (.inl rfl)))
end Go.Proofs.Ytdbnfhpgmcjngac
