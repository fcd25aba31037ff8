/- The law ScriptJoins: its walk. -/
import Derived.Test.YtdbnfhpgmcjngacYh
import Derived.Test.YtdbnfhpgmcjngacLcx
import Derived.Deep.DeepCutAuto
namespace Go.Proofs.Ytdbnfhpgmcjngac
open Go Go.RowKit

theorem Dees.cutP {S : Nat → Prop} {w : World} {ds : List Dee} {oa : Option Addr} {cap : Nat} (h : Dees S w ds oa cap) (n : Nat) : Dees S w (ds.take n) oa cap := by
  obtain ⟨hc, b, o, h1, h2⟩ := h
  refine ⟨⟨by rw [List.length_take]; omega, hc.2⟩, b, o, fun hn => h1 (by intro e; subst e; simp at hn), fun i hi => ?_⟩
  rw [List.length_take] at hi
  obtain ⟨vs, g1, g2⟩ := h2 i (by omega)
  rw [List.getElem_take]; exact ⟨vs, g1, g2⟩
theorem Dees.cutL {S : Nat → Prop} {w : World} {ds : List Dee} {oa : Option Addr} {cap : Nat} (h : Dees S w ds oa cap) (n : Nat) (hn : n ≤ ds.length) : Dees S w (ds.drop n) (oa.map fun x => x.add (n * 5)) (cap - n) := by
  obtain ⟨hc, b, o, h1, h2⟩ := h
  refine ⟨⟨by rw [List.length_drop]; omega, by omega⟩, b, o + n * 5, fun he => ?_, fun i hi => ?_⟩
  · obtain ⟨e, hS⟩ := h1 (by intro e; subst e; simp at he)
    exact ⟨by rw [e]; simp [Addr.add_lit], hS⟩
  · rw [List.length_drop] at hi
    obtain ⟨vs, g1, g2⟩ := h2 (n + i) (by omega)
    rw [List.getElem_drop]
    exact ⟨vs, g1, fun j u hu => by rw [← g2 j u hu]; congr 2; omega⟩
theorem alloc_second (w : World) (o1 o2 : Obj) : ((w.alloc o1).alloc o2).heap[w.heap.size + 1]? = some o2 := by simpa using heap_alloc_new (w.alloc o1) o2

theorem fault_guard (op : BinOp) (a b : Operand) (xs ys : Array Value) (w : World) : (eqGuard op 39 a b (.agg xs) (.agg ys)).run Try.prog w = .ok () w :=
  run_eqGuard_agg w _ _ _ _ _ _ (by kernel_rfl)
theorem fault_fields : (Try.prog.fieldsOf 39).toList.map (fun f => (decide (f.name = "_"), f.type, f.offset)) = [(false, 3, 0), (false, 3, 1)] := by kernel_rfl
theorem fault_equalIn (d : Nat) (p1 p2 f1 f2 : Int) (w : World) : (Op.equalIn (d + 2) 39 (.agg #[.int .i64 p1, .int .i64 f1]) (.agg #[.int .i64 p2, .int .i64 f2])).run Try.prog w = .ok (decide ((p1, f1) = (p2, f2))) w := by
  rw [run_equalIn_agg w _ _ _ _ (by kernel_rfl) (by kernel_rfl)]
  have h := fault_fields
  generalize (Try.prog.fieldsOf 39).toList = fs at h
  have hl : fs.length = 2 := by have := congrArg List.length h; simpa using this
  match fs, hl, h with
  | [g0, g1], _, h =>
    simp at h
    obtain ⟨⟨n0, t0, o0⟩, ⟨n1, t1, o1⟩⟩ := h
    have u1 : Try.prog.underlying 3 = some (.int .i64) := by kernel_rfl
    simp only [Op.eqFields, ne_eq, n0, n1, t0, t1, o0, o1, not_false_eq_true, if_true]
    simp [go_sem, part, isAgg, u1]
    by_cases h2 : p1 = p2
    · by_cases h3 : f1 = f2 <;> simp [h2, h3]
    · simp [h2]
theorem runT_at {t : Tr} {l : List Dee} : (runT t l).2.2.2 ≤ 80 := by
  by_cases h0 : fault t = 0
  · by_cases h1 : l.length ≤ 80
    · cases h2 : runGo 0 t l with
      | error e => rw [runT_err h0 h1 h2]; have := runGo_code h2; simp only []; omega
      | ok r => rw [runT_ok h0 h1 h2]; simp
    · rw [runT_many h0 (by omega)]; simp
  · rw [runT_fault h0]; simp
section
variable {ops : Array Oper} {o : Oper} {a : Act} {w : World} {rest : List Oper} {Q : Exit → Act → World → Prop}
/-- An operation whose guard lets it by. -/
theorem wpList_unguard (hw : Region.wanted o (yielded ops a.tmps) = true) (h : wpList Try.prog ops Q ({ o with guard := none } :: rest) a w) : wpList Try.prog ops Q (o :: rest) a w := by
  have h2 : Region.wanted { o with guard := none } (yielded ops a.tmps) = true := rfl
  unfold wpList at h ⊢
  rw [if_pos h2] at h
  rw [if_pos hw]
  exact h
/-- 'append(deeds, others...)', to deeds of one's own. -/
theorem app_deeds_own (hgd : o.guard = none) (s x : Operand) (ho : o.op = .call { callee := .builtin .append, args := #[s, x], argTypes := #[35, 35] })
    (b : Nat) (v : Value) (ts : List Dee) (hs : a.eval s = v) (hown : OwnsDs b w v ts) (us : List Dee) (ao : Option Addr) (c : Nat) (hx : a.eval x = .slice ao us.length c) (hu : Dees (fun k => k < b) w us ao c)
    (hlen : ts.length + us.length ≤ 1000000000) (hbase : b ≤ w.heap.size)
    (h : ∀ oa cap w', Dees Any w' (ts ++ us) oa cap → w.grownBy w' v.ownBlock → wpList Try.prog ops Q rest (a.put o.dst (.slice oa (ts ++ us).length cap)) w') :
    wpList Try.prog ops Q (o :: rest) a w := by
  obtain ⟨xs, h1, h2⟩ := hown
  have hlt := h1.lt
  refine app_deeds hgd s x ho (fun k => v.ownBlock ≠ some k) w b v ts hs ⟨xs, h1, h2.carry fun k hS _ => ⟨rfl, hS.2⟩⟩ us ao c hx (hu.mono fun k hk _ e => by have := hlt k e; omega) (Pr.refl w) hlen hbase ?_
  intro v' w' ⟨zs, k1, k2⟩ hg _
  obtain ⟨oa, cap, rfl, hd⟩ := (show OwnsDX Any w' b w' v' (ts ++ us) from ⟨zs, k1, k2.carry fun k hS hl => ⟨hg.block k hl (fun e => hS e.symm), trivial⟩⟩).dees (Pr.refl w')
  exact h oa cap w' hd.any hg
end
/-- What a run told, in three variables. -/
def RunVars (r : Tr × List Dee × Int × Int) (V : World) (v1 v2 v3 : Value) (wx : World) : Prop := ∃ B1 B2 l ks oa cap bs ob cb c i, v1 = .pointer (some ⟨B1, 0, none⟩) ∧ v2 = .slice ob bs.length cb ∧ v3 = .pointer (some ⟨B2, 0, none⟩) ∧ r = (.node l ks, bs, c, i) ∧ l.size ≤ maxLen ∧
  (wx.cell? ⟨B1, 0, none⟩ = some (.string l) ∧ wx.cell? ⟨B1, 1, none⟩ = some (.slice oa ks.length cap)) ∧ (wx.cell? ⟨B2, 0, none⟩ = some (.int .i64 c) ∧ wx.cell? ⟨B2, 1, none⟩ = some (.int .i64 i)) ∧
  Kids Any wx ks oa cap ∧ Dees Any wx bs ob cb ∧ OwnsDs V.heap.size wx (.slice ob bs.length cb) bs ∧ Pr V wx
theorem RunVars.mkb {r : Tr × List Dee × Int × Int} {V wq w4 wx : World} {l : ByteArray} {ks : List Tr} {oa cap} {bs : List Dee} {ob cb} {c i : Int} (B1 B2 : Nat) (hr : r = (.node l ks, bs, c, i)) (hl : l.size ≤ maxLen)
    (hk : Kids (From wq.heap.size) w4 ks oa cap) (hd : Dees (From wq.heap.size) w4 bs ob cb) (ho : OwnsDs wq.heap.size w4 (.slice ob bs.length cb) bs) (hp : Pr V w4) (hq : V.heap.size ≤ wq.heap.size)
    (hB1 : V.heap.size ≤ B1) (hB2 : V.heap.size ≤ B2) (hch : Chg (fun k => k = B1 ∨ k = B2) w4 wx) (hn1 : B1 < wq.heap.size ∨ w4.heap.size ≤ B1) (hn2 : B2 < wq.heap.size ∨ w4.heap.size ≤ B2)
    (hA : wx.heap[B1]? = some (.cells #[.string l, .slice oa ks.length cap] 24 (0, 0))) (hF : wx.heap[B2]? = some (.cells #[.int .i64 c, .int .i64 i] 39 (0, 0))) :
    RunVars r V (.pointer (some ⟨B1, 0, none⟩)) (.slice ob bs.length cb) (.pointer (some ⟨B2, 0, none⟩)) wx :=
  have hc : ∀ j, From wq.heap.size j → j < w4.heap.size → wx.heap[j]? = w4.heap[j]? := fun j (hj : wq.heap.size ≤ j) hl => hch.block j hl (by omega)
  ⟨B1, B2, l, ks, oa, cap, bs, ob, cb, c, i, rfl, rfl, rfl, hr, hl, ⟨blk_cell (o := 0) hA, blk_cell (o := 1) hA⟩, ⟨blk_cell (o := 0) hF, blk_cell (o := 1) hF⟩, hk.carry fun j hj hl => ⟨hc j hj hl, trivial⟩, hd.carry fun j hj hl => ⟨hc j hj hl, trivial⟩, (ho.kept hc).mono hq,
    ((hp.chg (fun k => k = B1 ∨ k = B2)).trans hch (fun _ h => .inl h)).to_pr (fun k hk => by rcases hk with rfl | rfl <;> assumption)⟩
/-- Two cells of a block are written. -/
theorem set2_blk {u : World} {A t : Nat} {a0 a1 : Value} (x y : Value) (h : u.heap[A]? = some (.cells #[a0, a1] t (0, 0))) : ((u.setCell ⟨A, 0, none⟩ x).setCell ⟨A, 1, none⟩ y).heap[A]? = some (.cells #[x, y] t (0, 0)) :=
  blk_set (o := 1) (blk_set (o := 0) h x) y
theorem set2_chg (u : World) (A : Nat) (x y : Value) : Chg (fun k => k = A) u ((u.setCell ⟨A, 0, none⟩ x).setCell ⟨A, 1, none⟩ y) :=
  Chg.setCell (Chg.setCell (Chg.refl (fun k => k = A) u) ⟨A, 0, none⟩ x (.inl rfl)) ⟨A, 1, none⟩ y (.inl rfl)
theorem set2_both {w4 u : World} {A F t s : Nat} {a0 a1 f0 f1 : Value} (x y z v : Value) (hp : Pr w4 u) (hA : u.heap[A]? = some (.cells #[a0, a1] t (0, 0))) (hF : u.heap[F]? = some (.cells #[f0, f1] s (0, 0))) (hne : A ≠ F) :
    let wx := ((((u.setCell ⟨A, 0, none⟩ x).setCell ⟨A, 1, none⟩ y).setCell ⟨F, 0, none⟩ z).setCell ⟨F, 1, none⟩ v)
    Chg (fun k => k = A ∨ k = F) w4 wx ∧ wx.heap[A]? = some (.cells #[x, y] t (0, 0)) ∧ wx.heap[F]? = some (.cells #[z, v] s (0, 0)) := by
  intro wx
  refine ⟨((hp.chg (fun k => k = A ∨ k = F)).trans (set2_chg u A x y) (fun _ h => .inl (.inl h))).trans (set2_chg _ F z v) (fun _ h => .inl (.inr h)), ?_, ?_⟩
  · exact (set2_chg _ F z v).blk (set2_blk x y hA) hne
  · exact set2_blk z v ((set2_chg u A x y).blk hF (fun e => hne e.symm))
set_option maxRecDepth 100000 in
set_option maxHeartbeats 12800000 in
theorem scriptJoins_walk (l : ByteArray) (ks : List Tr) (oa cap) (ds : List Dee) (da dc) (cut : Int) (w : World) (hl : l.size ≤ maxLen) (hk : Kids Any w ks oa cap) (hd : Dees Any w ds da dc) (_ : True) (_ : (Lit.int .i64 cut).wf = true) :
    Calls Try.prog 7 #[.agg #[.string l, .slice oa ks.length cap], .slice da ds.length dc, .int .i64 cut] w fun e w' => e = .returned (.bool true) ∧ Pr w w' := by
  obtain ⟨W, hW⟩ : ∃ W, W = w.alloc (.cells #[.string l, .slice oa ks.length cap] 24) := ⟨_, rfl⟩
  have hwW : Pr w W := by rw [hW]; exact Pr.alloc _ _
  have s0 := stays (show W.cell? ⟨w.heap.size, 0, none⟩ = some (.string l) by rw [hW]; simp [go_sem])
  have s1 := stays (show W.cell? ⟨w.heap.size, 1, none⟩ = some (.slice oa ks.length cap) by rw [hW]; simp [go_sem])
  have hk := hk.pr hwW
  have hd := hd.pr hwW
  have hdl := hd.len
  have hdc := hd.1
  obtain ⟨ga, hga⟩ : ∃ b, b = great (.node l ks) := ⟨_, rfl⟩
  have G1 : Hid (∀ W', Pr W W' → Calls Try.prog 13 #[.agg #[.string l, .slice oa ks.length cap]] W' fun e w' => e = .returned (.bool ga) ∧ Pr W' w') := Lib.hid fun W' h => by rw [hga]; exact great_any l ks _ _ _ (hk.pr h)
  obtain ⟨gd, hgd⟩ : ∃ b, b = greatDs ds := ⟨_, rfl⟩
  obtain ⟨g8, hg8⟩ : ∃ b, b = decide (80 < ds.length) := ⟨_, rfl⟩
  have e80 : decide ((80 : Int) < (ds.length : Int)) = g8 := by rw [hg8, decide_eq_decide]; omega
  have e81 : decide (80 < ds.length) = g8 := hg8.symm
  have hgo : (ga || gd || g8) = false → FewDs ds ∧ ds.length ≤ 80 := fun h => by
    simp only [Bool.or_eq_false_iff] at h
    exact ⟨greatDs_few (by rw [← hgd]; exact h.1.2), by have h3 := h.2; rw [hg8, decide_eq_false_iff_not] at h3; omega⟩
  have Hgo := Lib.hid hgo
  have G2 : Hid (∀ W', Pr W W' → Calls Try.prog 20 #[.slice da ds.length dc] W' fun e w' => e = .returned (.bool gd) ∧ Pr W' w') := Lib.hid fun W' h => by rw [hgd]; exact greatDsE_any ds da dc W' (hd.pr h)
  have HK := Lib.hid hk; have HD := Lib.hid hd; have HW := Lib.hid hwW; have Hdc := Lib.hid hdc
  clear hga hk hd hwW hdc hgd hg8 hgo
  go_enter Try.func7, Try.ntmps7
  go_upto_region 1 with fail
  rw [← hW]; clear hW
  go_upto_region 3 with (first
    | (go_at_call 19; (with_reducible refine Calls.mono (scriptBegun_any _) ?_); rintro e w1 ⟨rfl, hc⟩))
  have z0 := s0 _ hc; have z1 := s1 _ hc
  have Hc := Lib.hid hc
  clear hc
  go_cut [29] from 19 to 28 (fun v wx => v = .bool (ga || gd || g8) ∧ Pr w1 wx)
  case first =>
    have hp := Pr.refl w1
    cases ga <;> cases gd <;> cases g8
    all_goals
      go_wp2_with (first
        | (go_at_call 13; (with_reducible refine Calls.mono (G1.out _ (Hc.out.trans hp)) ?_); rintro e w2 ⟨rfl, hb⟩; have hp := hp.trans hb)
        | (go_at_call 20; (with_reducible refine Calls.mono (G2.out _ (Hc.out.trans hp)) ?_); rintro e w3 ⟨rfl, hb⟩; have hp := hp.trans hb))
      go_meet
      case rel => exact ⟨rfl, hp⟩
  case rest =>
    obtain ⟨rfl, hp⟩ := hcut
    cases hbad : (ga || gd || g8)
    case true =>
      go_wp2_with fail
      go_ret
      exact ⟨rfl, HW.out.trans (Hc.out.trans hp)⟩
    case false =>
      obtain ⟨⟨hf1, hf2⟩, h80⟩ := Hgo.out hbad
      obtain ⟨w2, hw2⟩ : ∃ w2, w2 = wc := ⟨_, rfl⟩
      subst hw2
      have hWp := Hc.out.trans hp
      have x0 := s0 _ hWp; have x1 := s1 _ hWp
      have hpl : ∀ d ∈ ds, d.path.length ≤ 100000 := fun d h => by have := hf2 d h; omega
      obtain ⟨K, hK, hKe⟩ := cutn_ix cut ds.length (by omega)
      have R1 := Lib.hid (run_any l ks oa cap ds da dc w2 hl (HK.out.pr hWp) (HD.out.pr hWp) hpl)
      have hpl2 : ∀ d ∈ ds.take K, d.path.length ≤ 100000 := fun d h => hpl d (List.mem_of_mem_take h)
      have hpl3 : ∀ d ∈ ds.drop K, d.path.length ≤ 100000 := fun d h => hpl d (List.mem_of_mem_drop h)
      have htk : (ds.take K).length = K := by rw [List.length_take]; omega
      have hdk : (ds.drop K).length = ds.length - K := List.length_drop
      have R2 : Hid (∀ u, Pr W u → Calls Try.prog 22 #[.agg #[.string l, .slice oa ks.length cap], .slice da K dc] u (RunPost u (.node l ks) (ds.take K))) := Lib.hid fun u h => by
        have h2 := run_any l ks oa cap (ds.take K) da dc u hl (HK.out.pr h) ((HD.out.pr h).cutP K) hpl2
        rw [htk] at h2; exact h2
      have R3 : Hid (∀ u l2 k2 o2 c2 oo cc, Pr W u → l2.size ≤ maxLen → Kids Any u k2 o2 c2 → Dees Any u (ds.drop K) oo cc → Calls Try.prog 22 #[.agg #[.string l2, .slice o2 k2.length c2], .slice oo (ds.length - K) cc] u (RunPost u (.node l2 k2) (ds.drop K))) := Lib.hid fun u l2 k2 o2 c2 oo cc h h1 h2 h3 => by
        have h4 := run_any l2 k2 o2 c2 (ds.drop K) oo cc u h1 h2 h3 hpl3
        rw [hdk] at h4; exact h4
      have hj := runT_joins (t := .node l ks) (l1 := ds.take K) (l2 := ds.drop K) (by rw [List.take_append_drop]; exact h80)
      rw [List.take_append_drop, htk] at hj
      have Hj := Lib.hid hj
      have HWp := Lib.hid hWp
      have hdc1 : ds.length ≤ dc := Hdc.out.1
      have hdc2 : (dc : Int) ≤ 9223372036854775807 := by have := Hdc.out.2; unfold maxLen at this; omega
      have hKn : (K : Int) ≤ ds.length := by omega
      have hKc : (K : Int) ≤ dc := by omega
      have hK0 : (0 : Int) ≤ K := by omega
      have Hpl3 := Lib.hid hpl3; have Hdk := Lib.hid hdk
      clear hpl hpl2 hpl3 htk hdk hj hf1 hf2 hWp
      go_upto_region 7 with (go_at_call 22; (with_reducible refine Calls.mono R1.out ?_); rintro e w3 ⟨l3, k3, o3, c3, bs3, ob3, cb3, rc3, ri3, hr3, hl3, rfl, hk3, hd3, ho3, hb3⟩)
      obtain ⟨V, hV⟩ : ∃ V, V = (w3.alloc (.cells #[.string l3, .slice o3 k3.length c3] 24)).alloc (.cells #[.int .i64 rc3, .int .i64 ri3] 39) := ⟨_, rfl⟩
      have hpV : Pr w3 V := by rw [hV]; exact (Pr.alloc _ _).alloc' _
      have y0 := stays (show V.cell? ⟨w3.heap.size, 0, none⟩ = some (.string l3) by rw [hV]; simp [go_sem])
      have y1 := stays (show V.cell? ⟨w3.heap.size, 1, none⟩ = some (.slice o3 k3.length c3) by rw [hV]; simp [go_sem])
      have y2 := stays (show V.cell? ⟨w3.heap.size + 1, 0, none⟩ = some (.int .i64 rc3) by rw [hV]; simp [go_sem])
      have y3 := stays (show V.cell? ⟨w3.heap.size + 1, 1, none⟩ = some (.int .i64 ri3) by rw [hV]; simp [go_sem])
      have hWV := HWp.out.trans (hb3.trans hpV)
      have s0 := fun u (h : Pr V u) => s0 u (hWV.trans h); have s1 := fun u (h : Pr V u) => s1 u (hWV.trans h)
      have R2 := Lib.hid fun u (h : Pr V u) => R2.out u (hWV.trans h)
      have Hk3 := Lib.hid (hk3.any.pr hpV); have Hd3 := Lib.hid (hd3.any.pr hpV); have HWV := Lib.hid hWV; have Hr3 := Lib.hid hr3
      rw [← hV]
      clear hV hpV hWV hk3 hd3 ho3 hb3 x0 x1 hr3 R1
      go_cut [11, 12, 13] from 45 to 53 (fun v11 v12 v13 wx => RunVars (runT (.node l ks) (ds.take K)) V v11 v12 v13 wx)
      case first =>
          go_region_held3 (fun W' => Pr V W')
            (first | with_reducible exact Pr.drew V | with_reducible exact (Pr.alloc _ _).drew' | with_reducible exact ((Pr.alloc _ _).alloc' _).drew' | with_reducible exact hp4 | with_reducible exact hp4.alloc' _ | with_reducible exact (hp4.alloc' _).alloc' _ | (repeat (first | with_reducible exact hp4 | refine Pr.alloc' ?_ _ | refine Pr.setCell ?_ (by have := Below.size hp4; simp <;> omega) _)))
            (first
              | (go_at_call 22; (with_reducible refine Calls.mono (R2.out _ (Pr.drew V)) ?_); rintro e w4 ⟨l4, k4, o4, c4, bs4, ob4, cb4, rc4, ri4, hr4, hl4, rfl, hk4, hd4, ho4, hb4⟩; have hp4 := (Pr.drew V).trans hb4)
              | (go_at_call 22; (with_reducible refine Calls.mono (R2.out _ ((Pr.alloc V (.cells #[.string ⟨#[]⟩, .slice none 0 0] 24)).drew')) ?_); rintro e w4 ⟨l4, k4, o4, c4, bs4, ob4, cb4, rc4, ri4, hr4, hl4, rfl, hk4, hd4, ho4, hb4⟩; have hp4 := ((Pr.alloc V (.cells #[.string ⟨#[]⟩, .slice none 0 0] 24)).drew').trans hb4; have zA := hb4.blk ((Pr.drew _).blk (heap_alloc_new V (.cells #[.string ⟨#[]⟩, .slice none 0 0] 24))); have a0 := blk_cell (o := 0) zA; have a1 := blk_cell (o := 1) zA; have a2 := blk_frozen (o := 0) zA; have a3 := blk_frozen (o := 1) zA; have n1 := Nat.ne_of_lt (blk_lt zA); have n2 := Nat.ne_of_gt (blk_lt zA); have a4 := fun o => (Pr.alloc w4 o).cell a0; have a5 := fun o => (Pr.alloc w4 o).cell a1; have a6 := fun o => blk_frozen (o := 0) ((Pr.alloc w4 o).blk zA); have a7 := fun o => blk_frozen (o := 1) ((Pr.alloc w4 o).blk zA))
              | (go_at_call 22; (with_reducible refine Calls.mono (R2.out _ ((Pr.alloc V (.cells #[.int .i64 0, .int .i64 0] 39)).drew')) ?_); rintro e w4 ⟨l4, k4, o4, c4, bs4, ob4, cb4, rc4, ri4, hr4, hl4, rfl, hk4, hd4, ho4, hb4⟩; have hp4 := ((Pr.alloc V (.cells #[.int .i64 0, .int .i64 0] 39)).drew').trans hb4; have zB := hb4.blk ((Pr.drew _).blk (heap_alloc_new V (.cells #[.int .i64 0, .int .i64 0] 39))); have b0 := blk_cell (o := 0) zB; have b1 := blk_cell (o := 1) zB; have b2 := blk_frozen (o := 0) zB; have b3 := blk_frozen (o := 1) zB; have n1 := Nat.ne_of_lt (blk_lt zB); have n2 := Nat.ne_of_gt (blk_lt zB); have b4 := fun o => (Pr.alloc w4 o).cell b0; have b5 := fun o => (Pr.alloc w4 o).cell b1; have b6 := fun o => blk_frozen (o := 0) ((Pr.alloc w4 o).blk zB); have b7 := fun o => blk_frozen (o := 1) ((Pr.alloc w4 o).blk zB))
              | (go_at_call 22; (with_reducible refine Calls.mono (R2.out _ (((Pr.alloc V (.cells #[.string ⟨#[]⟩, .slice none 0 0] 24)).alloc' (.cells #[.int .i64 0, .int .i64 0] 39)).drew')) ?_); rintro e w4 ⟨l4, k4, o4, c4, bs4, ob4, cb4, rc4, ri4, hr4, hl4, rfl, hk4, hd4, ho4, hb4⟩; have hp4 := (((Pr.alloc V (.cells #[.string ⟨#[]⟩, .slice none 0 0] 24)).alloc' (.cells #[.int .i64 0, .int .i64 0] 39)).drew').trans hb4; have zA := hb4.blk ((Pr.drew _).blk ((Pr.alloc _ _).blk (heap_alloc_new V (.cells #[.string ⟨#[]⟩, .slice none 0 0] 24)))); have zB := hb4.blk ((Pr.drew _).blk (alloc_second V (.cells #[.string ⟨#[]⟩, .slice none 0 0] 24) (.cells #[.int .i64 0, .int .i64 0] 39))); have a0 := blk_cell (o := 0) zA; have a1 := blk_cell (o := 1) zA; have a2 := blk_frozen (o := 0) zA; have a3 := blk_frozen (o := 1) zA; have b0 := blk_cell (o := 0) zB; have b1 := blk_cell (o := 1) zB; have b2 := blk_frozen (o := 0) zB; have b3 := blk_frozen (o := 1) zB)
              | (go_at_call 22; (with_reducible refine Calls.mono (R2.out _ (((Pr.alloc V (.cells #[.int .i64 0, .int .i64 0] 39)).alloc' (.cells #[.string ⟨#[]⟩, .slice none 0 0] 24)).drew')) ?_); rintro e w4 ⟨l4, k4, o4, c4, bs4, ob4, cb4, rc4, ri4, hr4, hl4, rfl, hk4, hd4, ho4, hb4⟩; have hp4 := (((Pr.alloc V (.cells #[.int .i64 0, .int .i64 0] 39)).alloc' (.cells #[.string ⟨#[]⟩, .slice none 0 0] 24)).drew').trans hb4; have zB := hb4.blk ((Pr.drew _).blk ((Pr.alloc _ _).blk (heap_alloc_new V (.cells #[.int .i64 0, .int .i64 0] 39)))); have zA := hb4.blk ((Pr.drew _).blk (alloc_second V (.cells #[.int .i64 0, .int .i64 0] 39) (.cells #[.string ⟨#[]⟩, .slice none 0 0] 24))); have a0 := blk_cell (o := 0) zA; have a1 := blk_cell (o := 1) zA; have a2 := blk_frozen (o := 0) zA; have a3 := blk_frozen (o := 1) zA; have b0 := blk_cell (o := 0) zB; have b1 := blk_cell (o := 1) zB; have b2 := blk_frozen (o := 0) zB; have b3 := blk_frozen (o := 1) zB))
          all_goals
            go_wp2_with fail
            go_meet
            have hz4 := Below.size hp4
          all_goals first
            | exact RunVars.mkb w4.heap.size (w4.heap.size + 1) hr4 hl4 hk4 hd4 ho4 hp4 (by simp) hz4 (by omega) (((Pr.alloc _ _).alloc' _).chg _) (.inr (Nat.le_refl _)) (.inr (by omega)) ((Pr.alloc _ _).blk (heap_alloc_new w4 _)) (alloc_second w4 _ _)
            | exact RunVars.mkb (w4.heap.size + 1) w4.heap.size hr4 hl4 hk4 hd4 ho4 hp4 (by simp) (by omega) hz4 (((Pr.alloc _ _).alloc' _).chg _) (.inr (by omega)) (.inr (Nat.le_refl _)) (alloc_second w4 _ _) ((Pr.alloc _ _).blk (heap_alloc_new w4 _))
            | (obtain ⟨g1, g2, g3⟩ := set2_both (.string l4) (.slice o4 k4.length c4) (.int .i64 rc4) (.int .i64 ri4) (Pr.alloc w4 (.cells #[.int .i64 0, .int .i64 0] 39)) ((Pr.alloc w4 (.cells #[.int .i64 0, .int .i64 0] 39)).blk zA) (heap_alloc_new w4 (.cells #[.int .i64 0, .int .i64 0] 39)) n1
               exact RunVars.mkb V.heap.size w4.heap.size hr4 hl4 hk4 hd4 ho4 hp4 (by simp) (Nat.le_refl _) hz4 g1 (.inl (by simp)) (.inr (Nat.le_refl _)) g2 g3)
            | (obtain ⟨g1, g2, g3⟩ := set2_both (.string l4) (.slice o4 k4.length c4) (.int .i64 rc4) (.int .i64 ri4) (Pr.refl w4) zA zB (show V.heap.size ≠ V.heap.size + 1 by omega)
               exact RunVars.mkb V.heap.size (V.heap.size + 1) hr4 hl4 hk4 hd4 ho4 hp4 (by simp; omega) (Nat.le_refl _) (by omega) g1 (.inl (by simp; omega)) (.inl (by simp)) g2 g3)
            | (obtain ⟨g1, g2, g3⟩ := set2_both (.string l4) (.slice o4 k4.length c4) (.int .i64 rc4) (.int .i64 ri4) (Pr.refl w4) zA zB (show V.heap.size + 1 ≠ V.heap.size by omega)
               exact RunVars.mkb (V.heap.size + 1) V.heap.size hr4 hl4 hk4 hd4 ho4 hp4 (by simp; omega) (by omega) (Nat.le_refl _) g1 (.inl (by simp)) (.inl (by simp; omega)) g2 g3)
            | exact RunVars.mkb w4.heap.size V.heap.size hr4 hl4 hk4 hd4 ho4 hp4 (by simp) hz4 (Nat.le_refl _) (((Pr.alloc w4 _).chg _).trans (set2_chg (w4.alloc _) V.heap.size _ _) (fun _ h => .inl (.inr h))) (.inr (Nat.le_refl _)) (.inl (by simp)) ((set2_chg (w4.alloc _) V.heap.size _ _).blk (heap_alloc_new w4 _) n2) (set2_blk _ _ ((Pr.alloc w4 _).blk zB))
      case rest =>
        obtain ⟨B1, B2, l4, k4, o4, c4, bs4, ob4, cb4, rc4, ri4, rfl, rfl, rfl, hr4, hl4, ⟨t0, t1⟩, ⟨t2, t3⟩, hk4, hd4, ho4, hp4⟩ := hcut
        obtain ⟨V2, hV2⟩ : ∃ V2, V2 = wc := ⟨_, rfl⟩
        subst hV2
        have hj := Hj.out
        rw [Hr3.out, hr4] at hj
        simp only [] at hj
        have Hj2 := Lib.hid hj; have Hr4 := Lib.hid hr4
        have q2 := y2 _ hp4; have q3 := y3 _ hp4
        clear hj hr4 Hj R2
        by_cases hc4 : rc4 = 0
        case neg =>
          have he := Hj2.out.1 hc4
          simp only [Prod.mk.injEq] at he
          obtain ⟨rfl, rfl⟩ := he
          have e1 : (rc3 != 0) = true := by simpa [bne_iff_ne] using hc4
          have heq : ∀ W, (Op.equalIn 10000 39 (.agg #[.int .i64 rc3, .int .i64 ri3]) (.agg #[.int .i64 rc3, .int .i64 ri3])).run Try.prog W = .ok true W := fun W => by rw [fault_equalIn 9998]; simp
          have hgd := fun a b xs ys W => fault_guard .eql a b xs ys W
          have HV := Lib.hid (HWV.out.trans hp4)
          clear hc4 hd4 ho4 hk4
          go_upto_region 8 with fail
          go_wp2_with fail
          go_ret
          exact ⟨rfl, HW.out.trans HV.out⟩
        case pos =>
          subst hc4
          have hWV2 := HWV.out.trans hp4
          have HWV2 := Lib.hid hWV2; have Hk4 := Lib.hid hk4; have Hd4 := Lib.hid hd4; have Ho4 := Lib.hid ho4; have Hp4 := Lib.hid hp4
          have t0 := stays t0; have t1 := stays t1; have t2 := stays t2; have t3 := stays t3
          have y0 := fun u (h : Pr V2 u) => y0 u (hp4.trans h); have y1 := fun u (h : Pr V2 u) => y1 u (hp4.trans h); have y2 := fun u (h : Pr V2 u) => y2 u (hp4.trans h); have y3 := fun u (h : Pr V2 u) => y3 u (hp4.trans h)
          have p0 := t0 _ (Pr.refl _); have p1 := t1 _ (Pr.refl _); have p2 := t2 _ (Pr.refl _)
          clear hWV2 hk4 hd4 ho4 hp4 q2 q3
          go_upto_region 10 with fail
          clear p0 p1 p2
          go_cut [14, 15, 16] from 60 to 68 (fun v14 v15 v16 wx => RunVars (runT (.node l4 k4) (ds.drop K)) V2 v14 v15 v16 wx)
          case first =>
            by_cases hcn : dc = K
            case pos =>
              have hds0 : ds.length = K := by omega
              have R5 : Hid (∀ u, Pr V2 u → Calls Try.prog 22 #[.agg #[.string l4, .slice o4 k4.length c4], .slice da 0 0] u (RunPost u (.node l4 k4) (ds.drop K))) := Lib.hid fun u h => by
                have h0 : ds.drop K = [] := List.drop_of_length_le (by omega)
                have h2 := R3.out u l4 k4 o4 c4 da 0 (HWV2.out.trans h) hl4 (Hk4.out.pr h) (by rw [h0]; exact Dees.nil _ _ _ _ (Nat.zero_le _))
                rw [hds0, Nat.sub_self] at h2; exact h2
              have Hds0 := Lib.hid hds0
              clear hds0
              subst hcn
              go_region_held3 (fun W' => Pr V2 W')
                (first | with_reducible exact Pr.drew V2 | with_reducible exact (Pr.alloc _ _).drew' | with_reducible exact ((Pr.alloc _ _).alloc' _).drew' | with_reducible exact hp4 | with_reducible exact hp4.alloc' _ | with_reducible exact (hp4.alloc' _).alloc' _ | (repeat (first | with_reducible exact hp4 | refine Pr.alloc' ?_ _ | refine Pr.setCell ?_ (by have := Below.size hp4; simp <;> omega) _)))
                (first
                  | (go_at_call 22; (with_reducible refine Calls.mono (R5.out _ (Pr.drew V2)) ?_); rintro e w4 ⟨l4, k4, o4, c4, bs4, ob4, cb4, rc4, ri4, hr4, hl4, rfl, hk4, hd4, ho4, hb4⟩; have hp4 := (Pr.drew V2).trans hb4)
                  | (go_at_call 22; (with_reducible refine Calls.mono (R5.out _ ((Pr.alloc V2 (.cells #[.string ⟨#[]⟩, .slice none 0 0] 24)).drew')) ?_); rintro e w4 ⟨l4, k4, o4, c4, bs4, ob4, cb4, rc4, ri4, hr4, hl4, rfl, hk4, hd4, ho4, hb4⟩; have hp4 := ((Pr.alloc V2 (.cells #[.string ⟨#[]⟩, .slice none 0 0] 24)).drew').trans hb4; have zA := hb4.blk ((Pr.drew _).blk (heap_alloc_new V2 (.cells #[.string ⟨#[]⟩, .slice none 0 0] 24))); have a0 := blk_cell (o := 0) zA; have a1 := blk_cell (o := 1) zA; have a2 := blk_frozen (o := 0) zA; have a3 := blk_frozen (o := 1) zA; have n1 := Nat.ne_of_lt (blk_lt zA); have n2 := Nat.ne_of_gt (blk_lt zA); have a4 := fun o => (Pr.alloc w4 o).cell a0; have a5 := fun o => (Pr.alloc w4 o).cell a1; have a6 := fun o => blk_frozen (o := 0) ((Pr.alloc w4 o).blk zA); have a7 := fun o => blk_frozen (o := 1) ((Pr.alloc w4 o).blk zA))
                  | (go_at_call 22; (with_reducible refine Calls.mono (R5.out _ ((Pr.alloc V2 (.cells #[.int .i64 0, .int .i64 0] 39)).drew')) ?_); rintro e w4 ⟨l4, k4, o4, c4, bs4, ob4, cb4, rc4, ri4, hr4, hl4, rfl, hk4, hd4, ho4, hb4⟩; have hp4 := ((Pr.alloc V2 (.cells #[.int .i64 0, .int .i64 0] 39)).drew').trans hb4; have zB := hb4.blk ((Pr.drew _).blk (heap_alloc_new V2 (.cells #[.int .i64 0, .int .i64 0] 39))); have b0 := blk_cell (o := 0) zB; have b1 := blk_cell (o := 1) zB; have b2 := blk_frozen (o := 0) zB; have b3 := blk_frozen (o := 1) zB; have n1 := Nat.ne_of_lt (blk_lt zB); have n2 := Nat.ne_of_gt (blk_lt zB); have b4 := fun o => (Pr.alloc w4 o).cell b0; have b5 := fun o => (Pr.alloc w4 o).cell b1; have b6 := fun o => blk_frozen (o := 0) ((Pr.alloc w4 o).blk zB); have b7 := fun o => blk_frozen (o := 1) ((Pr.alloc w4 o).blk zB))
                  | (go_at_call 22; (with_reducible refine Calls.mono (R5.out _ (((Pr.alloc V2 (.cells #[.string ⟨#[]⟩, .slice none 0 0] 24)).alloc' (.cells #[.int .i64 0, .int .i64 0] 39)).drew')) ?_); rintro e w4 ⟨l4, k4, o4, c4, bs4, ob4, cb4, rc4, ri4, hr4, hl4, rfl, hk4, hd4, ho4, hb4⟩; have hp4 := (((Pr.alloc V2 (.cells #[.string ⟨#[]⟩, .slice none 0 0] 24)).alloc' (.cells #[.int .i64 0, .int .i64 0] 39)).drew').trans hb4; have zA := hb4.blk ((Pr.drew _).blk ((Pr.alloc _ _).blk (heap_alloc_new V2 (.cells #[.string ⟨#[]⟩, .slice none 0 0] 24)))); have zB := hb4.blk ((Pr.drew _).blk (alloc_second V2 (.cells #[.string ⟨#[]⟩, .slice none 0 0] 24) (.cells #[.int .i64 0, .int .i64 0] 39))); have a0 := blk_cell (o := 0) zA; have a1 := blk_cell (o := 1) zA; have a2 := blk_frozen (o := 0) zA; have a3 := blk_frozen (o := 1) zA; have b0 := blk_cell (o := 0) zB; have b1 := blk_cell (o := 1) zB; have b2 := blk_frozen (o := 0) zB; have b3 := blk_frozen (o := 1) zB)
                  | (go_at_call 22; (with_reducible refine Calls.mono (R5.out _ (((Pr.alloc V2 (.cells #[.int .i64 0, .int .i64 0] 39)).alloc' (.cells #[.string ⟨#[]⟩, .slice none 0 0] 24)).drew')) ?_); rintro e w4 ⟨l4, k4, o4, c4, bs4, ob4, cb4, rc4, ri4, hr4, hl4, rfl, hk4, hd4, ho4, hb4⟩; have hp4 := (((Pr.alloc V2 (.cells #[.int .i64 0, .int .i64 0] 39)).alloc' (.cells #[.string ⟨#[]⟩, .slice none 0 0] 24)).drew').trans hb4; have zB := hb4.blk ((Pr.drew _).blk ((Pr.alloc _ _).blk (heap_alloc_new V2 (.cells #[.int .i64 0, .int .i64 0] 39)))); have zA := hb4.blk ((Pr.drew _).blk (alloc_second V2 (.cells #[.int .i64 0, .int .i64 0] 39) (.cells #[.string ⟨#[]⟩, .slice none 0 0] 24))); have a0 := blk_cell (o := 0) zA; have a1 := blk_cell (o := 1) zA; have a2 := blk_frozen (o := 0) zA; have a3 := blk_frozen (o := 1) zA; have b0 := blk_cell (o := 0) zB; have b1 := blk_cell (o := 1) zB; have b2 := blk_frozen (o := 0) zB; have b3 := blk_frozen (o := 1) zB))
              all_goals
                go_wp2_with fail
                go_meet
                have hz4 := Below.size hp4
              all_goals first
                | exact RunVars.mkb w4.heap.size (w4.heap.size + 1) hr4 hl4 hk4 hd4 ho4 hp4 (by simp) hz4 (by omega) (((Pr.alloc _ _).alloc' _).chg _) (.inr (Nat.le_refl _)) (.inr (by omega)) ((Pr.alloc _ _).blk (heap_alloc_new w4 _)) (alloc_second w4 _ _)
                | exact RunVars.mkb (w4.heap.size + 1) w4.heap.size hr4 hl4 hk4 hd4 ho4 hp4 (by simp) (by omega) hz4 (((Pr.alloc _ _).alloc' _).chg _) (.inr (by omega)) (.inr (Nat.le_refl _)) (alloc_second w4 _ _) ((Pr.alloc _ _).blk (heap_alloc_new w4 _))
                | (obtain ⟨g1, g2, g3⟩ := set2_both (.string l4) (.slice o4 k4.length c4) (.int .i64 rc4) (.int .i64 ri4) (Pr.alloc w4 (.cells #[.int .i64 0, .int .i64 0] 39)) ((Pr.alloc w4 (.cells #[.int .i64 0, .int .i64 0] 39)).blk zA) (heap_alloc_new w4 (.cells #[.int .i64 0, .int .i64 0] 39)) n1
                   exact RunVars.mkb V2.heap.size w4.heap.size hr4 hl4 hk4 hd4 ho4 hp4 (by simp) (Nat.le_refl _) hz4 g1 (.inl (by simp)) (.inr (Nat.le_refl _)) g2 g3)
                | (obtain ⟨g1, g2, g3⟩ := set2_both (.string l4) (.slice o4 k4.length c4) (.int .i64 rc4) (.int .i64 ri4) (Pr.refl w4) zA zB (show V2.heap.size ≠ V2.heap.size + 1 by omega)
                   exact RunVars.mkb V2.heap.size (V2.heap.size + 1) hr4 hl4 hk4 hd4 ho4 hp4 (by simp; omega) (Nat.le_refl _) (by omega) g1 (.inl (by simp; omega)) (.inl (by simp)) g2 g3)
                | (obtain ⟨g1, g2, g3⟩ := set2_both (.string l4) (.slice o4 k4.length c4) (.int .i64 rc4) (.int .i64 ri4) (Pr.refl w4) zA zB (show V2.heap.size + 1 ≠ V2.heap.size by omega)
                   exact RunVars.mkb (V2.heap.size + 1) V2.heap.size hr4 hl4 hk4 hd4 ho4 hp4 (by simp; omega) (by omega) (Nat.le_refl _) g1 (.inl (by simp)) (.inl (by simp; omega)) g2 g3)
                | exact RunVars.mkb w4.heap.size V2.heap.size hr4 hl4 hk4 hd4 ho4 hp4 (by simp) hz4 (Nat.le_refl _) (((Pr.alloc w4 _).chg _).trans (set2_chg (w4.alloc _) V2.heap.size _ _) (fun _ h => .inl (.inr h))) (.inr (Nat.le_refl _)) (.inl (by simp)) ((set2_chg (w4.alloc _) V2.heap.size _ _).blk (heap_alloc_new w4 _) n2) (set2_blk _ _ ((Pr.alloc w4 _).blk zB))
            case neg =>
              have R5 : Hid (∀ u, Pr V2 u → Calls Try.prog 22 #[.agg #[.string l4, .slice o4 k4.length c4], .slice (Option.map (fun x => x.add (K * 5)) da) (ds.length - K) (dc - K)] u (RunPost u (.node l4 k4) (ds.drop K))) := Lib.hid fun u h =>
                R3.out u l4 k4 o4 c4 _ _ (HWV2.out.trans h) hl4 (Hk4.out.pr h) (((HD.out.pr (HWV2.out.trans h))).cutL K hK)
              go_region_held3 (fun W' => Pr V2 W')
                (first | with_reducible exact Pr.drew V2 | with_reducible exact (Pr.alloc _ _).drew' | with_reducible exact ((Pr.alloc _ _).alloc' _).drew' | with_reducible exact hp4 | with_reducible exact hp4.alloc' _ | with_reducible exact (hp4.alloc' _).alloc' _ | (repeat (first | with_reducible exact hp4 | refine Pr.alloc' ?_ _ | refine Pr.setCell ?_ (by have := Below.size hp4; simp <;> omega) _)))
                (first
                  | (go_at_call 22; (with_reducible refine Calls.mono (R5.out _ (Pr.drew V2)) ?_); rintro e w4 ⟨l4, k4, o4, c4, bs4, ob4, cb4, rc4, ri4, hr4, hl4, rfl, hk4, hd4, ho4, hb4⟩; have hp4 := (Pr.drew V2).trans hb4)
                  | (go_at_call 22; (with_reducible refine Calls.mono (R5.out _ ((Pr.alloc V2 (.cells #[.string ⟨#[]⟩, .slice none 0 0] 24)).drew')) ?_); rintro e w4 ⟨l4, k4, o4, c4, bs4, ob4, cb4, rc4, ri4, hr4, hl4, rfl, hk4, hd4, ho4, hb4⟩; have hp4 := ((Pr.alloc V2 (.cells #[.string ⟨#[]⟩, .slice none 0 0] 24)).drew').trans hb4; have zA := hb4.blk ((Pr.drew _).blk (heap_alloc_new V2 (.cells #[.string ⟨#[]⟩, .slice none 0 0] 24))); have a0 := blk_cell (o := 0) zA; have a1 := blk_cell (o := 1) zA; have a2 := blk_frozen (o := 0) zA; have a3 := blk_frozen (o := 1) zA; have n1 := Nat.ne_of_lt (blk_lt zA); have n2 := Nat.ne_of_gt (blk_lt zA); have a4 := fun o => (Pr.alloc w4 o).cell a0; have a5 := fun o => (Pr.alloc w4 o).cell a1; have a6 := fun o => blk_frozen (o := 0) ((Pr.alloc w4 o).blk zA); have a7 := fun o => blk_frozen (o := 1) ((Pr.alloc w4 o).blk zA))
                  | (go_at_call 22; (with_reducible refine Calls.mono (R5.out _ ((Pr.alloc V2 (.cells #[.int .i64 0, .int .i64 0] 39)).drew')) ?_); rintro e w4 ⟨l4, k4, o4, c4, bs4, ob4, cb4, rc4, ri4, hr4, hl4, rfl, hk4, hd4, ho4, hb4⟩; have hp4 := ((Pr.alloc V2 (.cells #[.int .i64 0, .int .i64 0] 39)).drew').trans hb4; have zB := hb4.blk ((Pr.drew _).blk (heap_alloc_new V2 (.cells #[.int .i64 0, .int .i64 0] 39))); have b0 := blk_cell (o := 0) zB; have b1 := blk_cell (o := 1) zB; have b2 := blk_frozen (o := 0) zB; have b3 := blk_frozen (o := 1) zB; have n1 := Nat.ne_of_lt (blk_lt zB); have n2 := Nat.ne_of_gt (blk_lt zB); have b4 := fun o => (Pr.alloc w4 o).cell b0; have b5 := fun o => (Pr.alloc w4 o).cell b1; have b6 := fun o => blk_frozen (o := 0) ((Pr.alloc w4 o).blk zB); have b7 := fun o => blk_frozen (o := 1) ((Pr.alloc w4 o).blk zB))
                  | (go_at_call 22; (with_reducible refine Calls.mono (R5.out _ (((Pr.alloc V2 (.cells #[.string ⟨#[]⟩, .slice none 0 0] 24)).alloc' (.cells #[.int .i64 0, .int .i64 0] 39)).drew')) ?_); rintro e w4 ⟨l4, k4, o4, c4, bs4, ob4, cb4, rc4, ri4, hr4, hl4, rfl, hk4, hd4, ho4, hb4⟩; have hp4 := (((Pr.alloc V2 (.cells #[.string ⟨#[]⟩, .slice none 0 0] 24)).alloc' (.cells #[.int .i64 0, .int .i64 0] 39)).drew').trans hb4; have zA := hb4.blk ((Pr.drew _).blk ((Pr.alloc _ _).blk (heap_alloc_new V2 (.cells #[.string ⟨#[]⟩, .slice none 0 0] 24)))); have zB := hb4.blk ((Pr.drew _).blk (alloc_second V2 (.cells #[.string ⟨#[]⟩, .slice none 0 0] 24) (.cells #[.int .i64 0, .int .i64 0] 39))); have a0 := blk_cell (o := 0) zA; have a1 := blk_cell (o := 1) zA; have a2 := blk_frozen (o := 0) zA; have a3 := blk_frozen (o := 1) zA; have b0 := blk_cell (o := 0) zB; have b1 := blk_cell (o := 1) zB; have b2 := blk_frozen (o := 0) zB; have b3 := blk_frozen (o := 1) zB)
                  | (go_at_call 22; (with_reducible refine Calls.mono (R5.out _ (((Pr.alloc V2 (.cells #[.int .i64 0, .int .i64 0] 39)).alloc' (.cells #[.string ⟨#[]⟩, .slice none 0 0] 24)).drew')) ?_); rintro e w4 ⟨l4, k4, o4, c4, bs4, ob4, cb4, rc4, ri4, hr4, hl4, rfl, hk4, hd4, ho4, hb4⟩; have hp4 := (((Pr.alloc V2 (.cells #[.int .i64 0, .int .i64 0] 39)).alloc' (.cells #[.string ⟨#[]⟩, .slice none 0 0] 24)).drew').trans hb4; have zB := hb4.blk ((Pr.drew _).blk ((Pr.alloc _ _).blk (heap_alloc_new V2 (.cells #[.int .i64 0, .int .i64 0] 39)))); have zA := hb4.blk ((Pr.drew _).blk (alloc_second V2 (.cells #[.int .i64 0, .int .i64 0] 39) (.cells #[.string ⟨#[]⟩, .slice none 0 0] 24))); have a0 := blk_cell (o := 0) zA; have a1 := blk_cell (o := 1) zA; have a2 := blk_frozen (o := 0) zA; have a3 := blk_frozen (o := 1) zA; have b0 := blk_cell (o := 0) zB; have b1 := blk_cell (o := 1) zB; have b2 := blk_frozen (o := 0) zB; have b3 := blk_frozen (o := 1) zB))
              all_goals
                go_wp2_with fail
                go_meet
                have hz4 := Below.size hp4
              all_goals first
                | exact RunVars.mkb w4.heap.size (w4.heap.size + 1) hr4 hl4 hk4 hd4 ho4 hp4 (by simp) hz4 (by omega) (((Pr.alloc _ _).alloc' _).chg _) (.inr (Nat.le_refl _)) (.inr (by omega)) ((Pr.alloc _ _).blk (heap_alloc_new w4 _)) (alloc_second w4 _ _)
                | exact RunVars.mkb (w4.heap.size + 1) w4.heap.size hr4 hl4 hk4 hd4 ho4 hp4 (by simp) (by omega) hz4 (((Pr.alloc _ _).alloc' _).chg _) (.inr (by omega)) (.inr (Nat.le_refl _)) (alloc_second w4 _ _) ((Pr.alloc _ _).blk (heap_alloc_new w4 _))
                | (obtain ⟨g1, g2, g3⟩ := set2_both (.string l4) (.slice o4 k4.length c4) (.int .i64 rc4) (.int .i64 ri4) (Pr.alloc w4 (.cells #[.int .i64 0, .int .i64 0] 39)) ((Pr.alloc w4 (.cells #[.int .i64 0, .int .i64 0] 39)).blk zA) (heap_alloc_new w4 (.cells #[.int .i64 0, .int .i64 0] 39)) n1
                   exact RunVars.mkb V2.heap.size w4.heap.size hr4 hl4 hk4 hd4 ho4 hp4 (by simp) (Nat.le_refl _) hz4 g1 (.inl (by simp)) (.inr (Nat.le_refl _)) g2 g3)
                | (obtain ⟨g1, g2, g3⟩ := set2_both (.string l4) (.slice o4 k4.length c4) (.int .i64 rc4) (.int .i64 ri4) (Pr.refl w4) zA zB (show V2.heap.size ≠ V2.heap.size + 1 by omega)
                   exact RunVars.mkb V2.heap.size (V2.heap.size + 1) hr4 hl4 hk4 hd4 ho4 hp4 (by simp; omega) (Nat.le_refl _) (by omega) g1 (.inl (by simp; omega)) (.inl (by simp)) g2 g3)
                | (obtain ⟨g1, g2, g3⟩ := set2_both (.string l4) (.slice o4 k4.length c4) (.int .i64 rc4) (.int .i64 ri4) (Pr.refl w4) zA zB (show V2.heap.size + 1 ≠ V2.heap.size by omega)
                   exact RunVars.mkb (V2.heap.size + 1) V2.heap.size hr4 hl4 hk4 hd4 ho4 hp4 (by simp; omega) (by omega) (Nat.le_refl _) g1 (.inl (by simp)) (.inl (by simp; omega)) g2 g3)
                | exact RunVars.mkb w4.heap.size V2.heap.size hr4 hl4 hk4 hd4 ho4 hp4 (by simp) hz4 (Nat.le_refl _) (((Pr.alloc w4 _).chg _).trans (set2_chg (w4.alloc _) V2.heap.size _ _) (fun _ h => .inl (.inr h))) (.inr (Nat.le_refl _)) (.inl (by simp)) ((set2_chg (w4.alloc _) V2.heap.size _ _).blk (heap_alloc_new w4 _) n2) (set2_blk _ _ ((Pr.alloc w4 _).blk zB))
          case rest =>
            obtain ⟨B3, B4, l5, k5, o5, c5, bs5, ob5, cb5, rc5, ri5, rfl, rfl, rfl, hr5, hl5, ⟨v0, v1⟩, ⟨v2, v3⟩, hk5, hd5, ho5, hp5⟩ := hcut
            obtain ⟨V3, hV3⟩ : ∃ V3, V3 = wc := ⟨_, rfl⟩
            subst hV3
            have hj := Hj2.out
            rw [hr5] at hj
            simp only [] at hj
            have hat := runT_at (t := .node l4 k4) (l := ds.drop K)
            rw [hr5] at hat
            simp only [] at hat
            have p0 := y0 _ hp5; have p1 := y1 _ hp5; have p2 := y2 _ hp5; have p3 := y3 _ hp5
            have HV3 := Lib.hid (HWV2.out.trans hp5)
            have Hr5 := Lib.hid hr5
            clear hr5 R3
            by_cases hc5 : rc5 = 0
            case neg =>
              obtain ⟨hi0, he⟩ := hj.2.1 (by trivial) hc5
              simp only [Prod.mk.injEq] at he
              obtain ⟨rfl, rfl⟩ := he
              have e1 : (rc3 != 0) = true := by simpa [bne_iff_ne] using hc5
              have u1 : IntKind.i64.wrap (ri5 + K) = ri5 + K := IntWalk.i64_in _ (by omega)
              have heq : ∀ W, (Op.equalIn 10000 39 (.agg #[.int .i64 rc3, .int .i64 (ri5 + K)]) (.agg #[.int .i64 rc3, .int .i64 (ri5 + K)])).run Try.prog W = .ok true W := fun W => by rw [fault_equalIn 9998]; simp
              have hgd := fun a b xs ys W => fault_guard .eql a b xs ys W
              clear hj hc5 hd5 ho5 hk5
              go_upto_region 11 with fail
              go_wp2_with fail
              go_ret
              exact ⟨rfl, HW.out.trans HV3.out⟩
            case pos =>
              have he := hj.2.2 (by trivial) hc5
              subst hc5
              have hn5 : bs5.length ≤ 80 := by
                have h := (runT_back (t := .node l4 k4) (l := ds.drop K) (by rw [Hr5.out])).2
                rw [Hr5.out] at h; simp only [] at h; rw [h, List.length_drop]; omega
              have hn4 : bs4.length ≤ 80 := by
                have h := (runT_back (t := .node l ks) (l := ds.take K) (by rw [Hr4.out])).2
                rw [Hr4.out] at h; simp only [] at h; rw [h, List.length_take]; omega
              simp only [Prod.mk.injEq, Tr.node.injEq] at he
              obtain ⟨⟨rfl, rfl⟩, rfl, rfl, rfl⟩ := he
              have S1 : Hid (Calls Try.prog 16 #[.agg #[.string l3, .slice o3 k3.length c3], .agg #[.string l3, .slice o5 k3.length c5]] V3 fun e w' => e = .returned (.bool true) ∧ Pr V3 w') := Lib.hid (by
                have := sameTree_any l3 l3 k3 k3 o3 c3 o5 c5 V3 ((Hk3.out.pr Hp4.out).pr hp5) hk5; rw [Tr.beq_self] at this; exact this)
              have Ho5 := Lib.hid ho5; have Hp5 := Lib.hid hp5
              have Hb4 : Hid (Dees (fun k => k < V2.heap.size) V3 bs4 ob4 cb4) := Lib.hid ((Hd4.out.mono (S' := fun k => k < V2.heap.size) (fun k _ hl => hl)).pr hp5)
              clear hj hat hd5 ho5 hk5
              go_upto_region 13 with fail
              have hz5 := Below.size hp5
              have SD : Hid (∀ u oz cz, Dees Any u (bs5 ++ bs4) ob3 cb3 → Dees Any u (bs5 ++ bs4) oz cz → Calls Try.prog 24 #[.slice ob3 (bs5.length + bs4.length) cb3, .slice oz (bs5.length + bs4.length) cz] u fun e w' => e = .returned (.bool true) ∧ Pr u w') := Lib.hid fun u oz cz h1 h2 => by
                have := sameDeeds_any (bs5 ++ bs4) (bs5 ++ bs4) ob3 cb3 oz cz u h1 h2
                rw [decide_eq_true rfl, List.length_append] at this; exact this
              have HG9 : Hid (∀ w6 w7, Pr V3 w6 → w6.grownBy w7 (Value.slice ob5 bs5.length cb5).ownBlock → Pr V2 w7) := Lib.hid fun w6 w7 h hg => Below.grown (Hp5.out.trans h) hg (Below.size (Hp5.out.trans h)) (fun k hk => (Ho5.out.block k hk).1)
              go_wp2_with (first
                | (go_at_call 16; (with_reducible refine Calls.mono S1.out ?_); rintro e w6 ⟨rfl, hb6⟩)
                | (at_builtin; refine wpList_unguard rfl ?_; refine app_deeds_own rfl _ _ rfl V2.heap.size (.slice ob5 bs5.length cb5) bs5 rfl (Ho5.out.pr hb6) bs4 ob4 cb4 rfl (Hb4.out.pr hb6) (by omega) (by have := Below.size hb6; omega) ?_; intro oz cz w7 hz hg7; have hp7 := HG9.out _ _ hb6 hg7)
                | (go_at_call 24; (with_reducible refine Calls.mono (SD.out _ _ _ (((Hd3.out.pr Hp4.out).pr hp7)) hz) ?_); rintro e w8 ⟨rfl, hb8⟩))
              go_ret
              exact ⟨rfl, HW.out.trans (HWV2.out.trans (hp7.trans hb8))⟩
end Go.Proofs.Ytdbnfhpgmcjngac
