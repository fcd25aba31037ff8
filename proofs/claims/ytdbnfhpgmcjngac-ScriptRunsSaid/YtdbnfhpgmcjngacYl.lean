/- Walks: pleachingref.Run. -/
import Derived.Test.YtdbnfhpgmcjngacYo
import Derived.Test.YtdbnfhpgmcjngacRw
import Derived.Test.YtdbnfhpgmcjngacYd
import Derived.Deep.DeepCutAuto
namespace Go.Proofs.Ytdbnfhpgmcjngac
open Go Go.RowKit

theorem rF_any (c i : Int) (w : World) : Calls Try.prog 56 #[.int .i64 c, .int .i64 i] w fun e w' => e = .returned (.agg #[.int .i64 c, .int .i64 i]) ∧ Pr w w' := by
  go_enter Try.func56, Try.ntmps56
  go_wp2_with fail
  exact bodyPost_ret (v := .agg #[.int .i64 c, .int .i64 i]) (by simp [results, Try.results56, go_sem]) rfl ⟨rfl, Pr.alloc _ _⟩
/-- What the document's Run tells. -/
def RRunPost (w : World) (t : Tr) (ds : List Dee) (e : Ending) (w' : World) : Prop :=
  ∃ l ks oa cap bs ob cb c i, runT t ds = (.node l ks, bs, c, i) ∧ l.size ≤ maxLen ∧ e = .returned (.tuple #[.agg #[.string l, .slice oa ks.length cap], .slice ob bs.length cb, .agg #[.int .i64 c, .int .i64 i]]) ∧ Kids Any w' ks oa cap ∧ Dees Any w' bs ob cb ∧ Pr w w'
theorem RRunPost.no {w w' : World} {t : Tr} {ds : List Dee} {c i : Int} (h : runT t ds = (Tr.zero, [], c, i)) (hp : Pr w w') :
    RRunPost w t ds (.returned (.tuple #[.agg #[.string ⟨#[]⟩, .slice none 0 0], .slice none 0 0, .agg #[.int .i64 c, .int .i64 i]])) w' :=
  ⟨⟨#[]⟩, [], none, 0, [], none, 0, c, i, h, by simp [ByteArray.size], rfl, Kids.nil _ _ _ _ (Nat.zero_le _), Dees.nil _ _ _ _ (Nat.zero_le _), hp⟩

set_option maxRecDepth 100000 in
set_option maxHeartbeats 12800000 in
theorem rrun_any (l : ByteArray) (ks : List Tr) (oa cap) (ds : List Dee) (da dc) (w : World) (hl : l.size ≤ maxLen) (hk : Kids Any w ks oa cap) (hd : Dees Any w ds da dc) (hpl : ∀ d ∈ ds, d.path.length ≤ 100000) :
    Calls Try.prog 23 #[.agg #[.string l, .slice oa ks.length cap], .slice da ds.length dc] w (RRunPost w (.node l ks) ds) := by
  obtain ⟨W, hW⟩ : ∃ W, W = ((w.alloc (.cells #[.string l, .slice oa ks.length cap] 24)).alloc (.cells #[.string ⟨#[]⟩, .slice none 0 0] 24)).alloc (.cells #[.int .i64 0, .int .i64 0] 39) := ⟨_, rfl⟩
  have hwW : Pr w W := by rw [hW]; exact ((Pr.alloc _ _).alloc' _).alloc' _
  have hWs : W.heap.size = w.heap.size + 3 := by rw [hW]; simp
  have s0 := stays (show W.cell? ⟨w.heap.size, 0, none⟩ = some (.string l) by rw [hW]; simp [go_sem])
  have s1 := stays (show W.cell? ⟨w.heap.size, 1, none⟩ = some (.slice oa ks.length cap) by rw [hW]; simp [go_sem])
  have hT0 : W.heap[w.heap.size]? = some (.cells #[.string l, .slice oa ks.length cap] 24 (0, 0)) := by
    rw [hW]; exact ((Pr.alloc _ _).alloc' _).blk (heap_alloc_new w (.cells #[.string l, .slice oa ks.length cap] 24))
  have hR1 : W.heap[w.heap.size + 1]? = some (.cells #[.string ⟨#[]⟩, .slice none 0 0] 24 (0, 0)) := by
    rw [hW]; exact (Pr.alloc _ _).blk (by simpa using heap_alloc_new (w.alloc (.cells #[.string l, .slice oa ks.length cap] 24)) (.cells #[.string ⟨#[]⟩, .slice none 0 0] 24))
  have hR2 : W.heap[w.heap.size + 2]? = some (.cells #[.int .i64 0, .int .i64 0] 39 (0, 0)) := by
    rw [hW]; simpa using heap_alloc_new ((w.alloc (.cells #[.string l, .slice oa ks.length cap] 24)).alloc (.cells #[.string ⟨#[]⟩, .slice none 0 0] 24)) (.cells #[.int .i64 0, .int .i64 0] 39)
  have HR := Lib.hid (fun (W' : World) (h : Chg (fun k => k ≠ w.heap.size + 1 ∧ k ≠ w.heap.size + 2) W W') => And.intro (h.blk hR1 (by simp)) (h.blk hR2 (by simp)))
  have F1 := Lib.hid (fun W' (h : Pr W W') => treeFault_any l ks oa cap W' hl (hk.pr (hwW.trans h)))
  have hdl := hd.len
  have HW := Lib.hid hwW; have HWs := Lib.hid hWs; have HK := Lib.hid hk; have HD := Lib.hid hd; have HT := Lib.hid hT0
  clear hwW hWs hR1 hR2 hk hd hT0
  by_cases ft : fault (.node l ks) = 0
  case neg =>
    have Hno := Lib.hid (runT_fault (l := ds) ft)
    have e1 : ((fault (.node l ks) : Int) != 0) = true := by simp [bne_iff_ne]; omega
    clear ft
    generalize fault (.node l ks) = c at *
    go_enter Try.func23, Try.ntmps23
    go_upto_region 1 with fail
    rw [← hW]; clear hW
    have x0 := s0 _ (Pr.refl _); have x1 := s1 _ (Pr.refl _)
    go_wp2_with (first
      | (go_at_call 26; (with_reducible refine Calls.mono (F1.out _ (Pr.refl _)) ?_); rintro e w1 ⟨rfl, hb⟩)
      | (go_at_call 56; (with_reducible refine Calls.mono (rF_any _ _ _) ?_); rintro e w2 ⟨rfl, hb2⟩; obtain ⟨r1, r2⟩ := HR.out _ ((hb.trans hb2).chg _); have q0 := blk_cell (o := 0) r1; have q1 := blk_cell (o := 1) r1; have q2 := blk_frozen (o := 0) r1; have q3 := blk_frozen (o := 1) r1; have q4 := blk_cell (o := 0) r2; have q5 := blk_cell (o := 1) r2; have q6 := blk_frozen (o := 0) r2; have q7 := blk_frozen (o := 1) r2; have hp := HW.out.trans (hb.trans hb2); clear hb hb2 r1 r2))
    exact bodyPost_ret (v := .tuple #[.agg #[.string ⟨#[]⟩, .slice none 0 0], .slice none 0 0, .agg #[.int .i64 c, .int .i64 (-1)]]) (by simp [results, Try.results23, go_sem, q0, q1, q4, q5]) rfl (RRunPost.no Hno.out ((((hp.setCell (by simp <;> omega) _).setCell (by simp <;> omega) _).setCell (by simp <;> omega) _).setCell (by simp <;> omega) _))
  case pos =>
    rw [ft] at F1
    by_cases h80 : 80 < ds.length
    case pos =>
      have Hno := Lib.hid (runT_many ft h80)
      have e1 : decide ((80 : Int) < (ds.length : Int)) = true := by simp; omega
      have e2 : decide (80 < ds.length) = true := by simp; omega
      clear ft h80
      go_enter Try.func23, Try.ntmps23
      go_upto_region 1 with fail
      rw [← hW]; clear hW
      have x0 := s0 _ (Pr.refl _); have x1 := s1 _ (Pr.refl _)
      go_wp2_with (first
        | (go_at_call 26; (with_reducible refine Calls.mono (F1.out _ (Pr.refl _)) ?_); rintro e w1 ⟨rfl, hb⟩)
        | (go_at_call 56; (with_reducible refine Calls.mono (rF_any _ _ _) ?_); rintro e w2 ⟨rfl, hb2⟩; obtain ⟨r1, r2⟩ := HR.out _ ((hb.trans hb2).chg _); have q0 := blk_cell (o := 0) r1; have q1 := blk_cell (o := 1) r1; have q2 := blk_frozen (o := 0) r1; have q3 := blk_frozen (o := 1) r1; have q4 := blk_cell (o := 0) r2; have q5 := blk_cell (o := 1) r2; have q6 := blk_frozen (o := 0) r2; have q7 := blk_frozen (o := 1) r2; have hp := HW.out.trans (hb.trans hb2); clear hb hb2 r1 r2))
      exact bodyPost_ret (v := .tuple #[.agg #[.string ⟨#[]⟩, .slice none 0 0], .slice none 0 0, .agg #[.int .i64 2, .int .i64 (-1)]]) (by simp [results, Try.results23, go_sem, q0, q1, q4, q5]) rfl (RRunPost.no Hno.out ((((hp.setCell (by simp <;> omega) _).setCell (by simp <;> omega) _).setCell (by simp <;> omega) _).setCell (by simp <;> omega) _))
    case neg =>
      have e1 : decide ((80 : Int) < (ds.length : Int)) = false := by simp; omega
      have e2 : decide (80 < ds.length) = false := by simp; omega
      obtain ⟨Z, hZ⟩ : ∃ Z : Nat → Prop, Z = fun j => j < w.heap.size ∨ W.heap.size ≤ j := ⟨_, rfl⟩
      have hZb : ∀ j, Z j → j ≠ w.heap.size := fun j h e => by rw [hZ] at h; have h' : j < w.heap.size ∨ W.heap.size ≤ j := h; have := HWs.out; omega
      have hZn : ∀ j, W.heap.size ≤ j → Z j := fun j h => by rw [hZ]; exact .inr h
      have hZo : ∀ j, j < w.heap.size → Z j := fun j h => by rw [hZ]; exact .inl h
      have HkZ : Hid (Kids Z W ks oa cap) := Lib.hid ((HK.out.mono (fun j _ hj => hZo j hj)).pr HW.out)
      have HZb := Lib.hid hZb; have HZn := Lib.hid hZn; have HZo := Lib.hid hZo
      have HZ9 : Hid (∀ j, Z j → j ≠ w.heap.size + 1 ∧ j ≠ w.heap.size + 2) := Lib.hid fun j h => by rw [hZ] at h; have h' : j < w.heap.size ∨ W.heap.size ≤ j := h; have := HWs.out; omega
      clear hZ hZb hZn hZo
      go_enter Try.func23, Try.ntmps23
      go_upto_region 1 with fail
      rw [← hW]; clear hW
      have x0 := s0 _ (Pr.refl _); have x1 := s1 _ (Pr.refl _)
      go_wp2_with (first
        | (go_at_call 26; (with_reducible refine Calls.mono (F1.out _ (Pr.refl _)) ?_); rintro e w1 ⟨rfl, hb⟩))
      have HTV := Lib.hid (hb.blk HT.out); have HcV := Lib.hid (hb.chg (fun k => k = w.heap.size)); have HkV := Lib.hid (HkZ.out.pr hb)
      clear hb x0 x1
      go_loopw [8, 9] (fun v vi wr => ∃ (i : Nat) (bs : List Dee) (l' : ByteArray) (ks' : List Tr) (oa' : Option Addr) (cap' : Nat) (ob : Option Addr) (cb : Nat), i ≤ ds.length ∧ bs.length = i ∧ vi = .int .i64 i ∧ v = .slice ob bs.length cb ∧ Dees Z wr bs ob cb ∧ wr.heap[w.heap.size]? = some (.cells #[.string l', .slice oa' ks'.length cap'] 24 (0, 0)) ∧ l'.size ≤ maxLen ∧ Kids Z wr ks' oa' cap' ∧ Chg (fun k => k = w.heap.size) W wr ∧ (runGo 0 (.node l ks) ds = match runGo i (.node l' ks') (ds.drop i) with | .error e => .error e | .ok r => .ok (r.1, r.2 ++ bs))) (fun _ vi _ => ds.length - (intOf vi).toNat)
      case atStart => exact ⟨0, [], l, ks, oa, cap, none, 0, by omega, rfl, rfl, rfl, Dees.nil _ _ _ _ (Nat.zero_le _), HTV.out, hl, HkV.out, HcV.out, by rw [List.drop_zero]; cases runGo 0 (.node l ks) ds <;> simp⟩
      case round =>
        obtain ⟨i, bs, l', ks', oa', cap', ob, cb, hi, hbs, rfl, rfl, hdz, hT, hl', hk', hc, hrun⟩ := hrel
        have HDr : Hid (Dees Any wr ds da dc) := Lib.hid (((HD.out.mono (S' := fun j => j < w.heap.size) (fun j _ h => h)).pr HW.out).carry fun k hS hl => ⟨hc.block k hl (by have : k < w.heap.size := hS; omega), trivial⟩)
        have Hbs := Lib.hid hbs; have Hdz := Lib.hid hdz; have Hrun := Lib.hid hrun; have Hk := Lib.hid hk'; have Hc := Lib.hid hc; have HTr := Lib.hid hT
        have X0 := stays (blk_cell (o := 0) hT); have X1 := stays (blk_cell (o := 1) hT)
        clear hbs hdz hrun hk' hc hT
        by_cases hlt : i < ds.length
        case pos =>
          obtain ⟨b9, o9, pa, pc, e9, k0, k1, k2, k3, k4, hpi, hls⟩ := HDr.out.get i hlt
          subst e9
          have hpl1 := hpl _ (List.getElem_mem hlt)
          have hin : Ints Z wr ds[i].path pa pc := by
            obtain ⟨b8, o8, pa8, pc8, e8, g0, g1, g2, g3, g4, hpi8, _⟩ := HD.out.get i hlt
            cases e8
            have hlt8 := lt_of_cell g1
            have h1 : wr.cell? ⟨b9, o9 + i * 5 + 1, none⟩ = w.cell? ⟨b9, o9 + i * 5 + 1, none⟩ := by
              have h2 := Hc.out.block b9 (by have := Below.size HW.out; omega) (by omega)
              rw [World.cell?_of_block h2, World.cell?_of_block (Below.block HW.out b9 hlt8)]
            rw [h1, g1] at k1
            cases k1
            exact Flat.carry (fun j _ hj => ⟨(Hc.out.block j (by have := Below.size HW.out; omega) (by omega)).trans (Below.block HW.out j hj), HZo.out j hj⟩) hpi8
          obtain ⟨d, hd⟩ : ∃ d, d = ds[i] := ⟨_, rfl⟩
          rw [← hd] at k0 k1 k2 k3 k4 hpi hls hpl1 hin
          obtain ⟨k, p, a, m, s⟩ := d
          simp only at k0 k1 k2 k3 k4 hpi hls hpl1 hin
          have RU := Lib.hid fun u (h : Pr wr u) => rdoS_any (fun j => Z j ∧ j < wr.heap.size) l' ks' oa' cap' k p a m s pa pc u hl' ((Hk.out.mono (fun j hj hl => ⟨hj, hl⟩)).pr h) hls (Flat.pr h (Flat.mono (fun j hj hl => ⟨hj, hl⟩) hin)) hpl1
          have k0 := stays k0; have k1 := stays k1; have k2 := stays k2; have k3 := stays k3; have k4 := stays k4
          have hB0 : ∀ j, (fun j => Z j ∧ j < wr.heap.size) j → j < wr.heap.size := fun j h => h.2
          have Hd := Lib.hid hd
          clear hd hpi hls hin
          go_upto_region 10 with fail
          go_cut [10, 11, 12] from 31 to 40 (fun v10 v11 v12 wx => DoVars (fun j => Z j ∧ j < wr.heap.size) (doD (.node l' ks') ⟨k, p, a, m, s⟩) wr v10 v11 v12 wx)
          case first =>
            go_region_held3 (fun W' => Pr wr W')
              (first | with_reducible exact Pr.drew wr | with_reducible exact (Pr.alloc _ _).drew' | with_reducible exact ((Pr.alloc _ _).alloc' _).drew' | with_reducible exact hp4 | with_reducible exact hp4.alloc' _ | with_reducible exact (hp4.alloc' _).alloc' _ | with_reducible exact Pr.setCell (Pr.setCell hp4 hzA _) hzA _ | with_reducible exact (Pr.setCell (Pr.setCell hp4 hzA _) hzA _).alloc' _ | with_reducible exact set5_pr _ _ _ _ _ (Pr.setCell (Pr.setCell hp4 hzA _) hzA _) hzB | with_reducible exact set5_pr _ _ _ _ _ hp4 hzB | with_reducible exact (set5_pr _ _ _ _ _ hp4 hzB).alloc' _)
              (first
                | (go_at_call 57; (with_reducible refine Calls.mono (RU.out _ (Pr.drew wr)) ?_); rintro e w4 ⟨l4, k4, o4, c4, kk, pp, aa, mm, ss, bp4, bc4, cc, hr4, hl4, rfl, hk4, hi4, hb4⟩; have hp4 := (Pr.drew wr).trans hb4)
                | (go_at_call 57; (with_reducible refine Calls.mono (RU.out _ ((Pr.alloc wr (.cells #[.string ⟨#[]⟩, .slice none 0 0] 24)).drew')) ?_); rintro e w4 ⟨l4, k4, o4, c4, kk, pp, aa, mm, ss, bp4, bc4, cc, hr4, hl4, rfl, hk4, hi4, hb4⟩; have hp4 := ((Pr.alloc wr (.cells #[.string ⟨#[]⟩, .slice none 0 0] 24)).drew').trans hb4; have zA := hb4.blk ((Pr.drew _).blk (heap_alloc_new wr (.cells #[.string ⟨#[]⟩, .slice none 0 0] 24))); have a0 := blk_cell (o := 0) zA; have a1 := blk_cell (o := 1) zA; have a2 := blk_frozen (o := 0) zA; have a3 := blk_frozen (o := 1) zA; have hzA := Nat.le_refl wr.heap.size; have n3 := blk_lt zA; have n1 := Nat.ne_of_lt (blk_lt zA); have n2 := Nat.ne_of_gt (blk_lt zA))
                | (go_at_call 57; (with_reducible refine Calls.mono (RU.out _ ((Pr.alloc wr (.cells #[.int .i64 0, .slice none 0 0, .int .i64 0, .int .i64 0, .string ⟨#[]⟩] 45)).drew')) ?_); rintro e w4 ⟨l4, k4, o4, c4, kk, pp, aa, mm, ss, bp4, bc4, cc, hr4, hl4, rfl, hk4, hi4, hb4⟩; have hp4 := ((Pr.alloc wr (.cells #[.int .i64 0, .slice none 0 0, .int .i64 0, .int .i64 0, .string ⟨#[]⟩] 45)).drew').trans hb4; have zB := hb4.blk ((Pr.drew _).blk (heap_alloc_new wr (.cells #[.int .i64 0, .slice none 0 0, .int .i64 0, .int .i64 0, .string ⟨#[]⟩] 45))); have b0 := blk_cell (o := 0) zB; have f0 := blk_frozen (o := 0) zB; have b1 := blk_cell (o := 1) zB; have f1 := blk_frozen (o := 1) zB; have b2 := blk_cell (o := 2) zB; have f2 := blk_frozen (o := 2) zB; have b3 := blk_cell (o := 3) zB; have f3 := blk_frozen (o := 3) zB; have b4 := blk_cell (o := 4) zB; have f4 := blk_frozen (o := 4) zB; have hzB := Nat.le_refl wr.heap.size; have n3 := blk_lt zB; have n1 := Nat.ne_of_lt (blk_lt zB); have n2 := Nat.ne_of_gt (blk_lt zB))
                | (go_at_call 57; (with_reducible refine Calls.mono (RU.out _ (((Pr.alloc wr (.cells #[.string ⟨#[]⟩, .slice none 0 0] 24)).alloc' (.cells #[.int .i64 0, .slice none 0 0, .int .i64 0, .int .i64 0, .string ⟨#[]⟩] 45)).drew')) ?_); rintro e w4 ⟨l4, k4, o4, c4, kk, pp, aa, mm, ss, bp4, bc4, cc, hr4, hl4, rfl, hk4, hi4, hb4⟩; have hp4 := (((Pr.alloc wr (.cells #[.string ⟨#[]⟩, .slice none 0 0] 24)).alloc' (.cells #[.int .i64 0, .slice none 0 0, .int .i64 0, .int .i64 0, .string ⟨#[]⟩] 45)).drew').trans hb4; have zA := hb4.blk ((Pr.drew _).blk ((Pr.alloc _ _).blk (heap_alloc_new wr (.cells #[.string ⟨#[]⟩, .slice none 0 0] 24)))); have zB := hb4.blk ((Pr.drew _).blk (alloc_secondD wr (.cells #[.string ⟨#[]⟩, .slice none 0 0] 24) (.cells #[.int .i64 0, .slice none 0 0, .int .i64 0, .int .i64 0, .string ⟨#[]⟩] 45))); have a0 := blk_cell (o := 0) zA; have a1 := blk_cell (o := 1) zA; have a2 := blk_frozen (o := 0) zA; have a3 := blk_frozen (o := 1) zA; have b0 := blk_cell (o := 0) zB; have f0 := blk_frozen (o := 0) zB; have b1 := blk_cell (o := 1) zB; have f1 := blk_frozen (o := 1) zB; have b2 := blk_cell (o := 2) zB; have f2 := blk_frozen (o := 2) zB; have b3 := blk_cell (o := 3) zB; have f3 := blk_frozen (o := 3) zB; have b4 := blk_cell (o := 4) zB; have f4 := blk_frozen (o := 4) zB; have hzA := Nat.le_refl wr.heap.size; have hzB := Nat.le_succ wr.heap.size)
                | (go_at_call 57; (with_reducible refine Calls.mono (RU.out _ (((Pr.alloc wr (.cells #[.int .i64 0, .slice none 0 0, .int .i64 0, .int .i64 0, .string ⟨#[]⟩] 45)).alloc' (.cells #[.string ⟨#[]⟩, .slice none 0 0] 24)).drew')) ?_); rintro e w4 ⟨l4, k4, o4, c4, kk, pp, aa, mm, ss, bp4, bc4, cc, hr4, hl4, rfl, hk4, hi4, hb4⟩; have hp4 := (((Pr.alloc wr (.cells #[.int .i64 0, .slice none 0 0, .int .i64 0, .int .i64 0, .string ⟨#[]⟩] 45)).alloc' (.cells #[.string ⟨#[]⟩, .slice none 0 0] 24)).drew').trans hb4; have zB := hb4.blk ((Pr.drew _).blk ((Pr.alloc _ _).blk (heap_alloc_new wr (.cells #[.int .i64 0, .slice none 0 0, .int .i64 0, .int .i64 0, .string ⟨#[]⟩] 45)))); have zA := hb4.blk ((Pr.drew _).blk (alloc_secondD wr (.cells #[.int .i64 0, .slice none 0 0, .int .i64 0, .int .i64 0, .string ⟨#[]⟩] 45) (.cells #[.string ⟨#[]⟩, .slice none 0 0] 24))); have a0 := blk_cell (o := 0) zA; have a1 := blk_cell (o := 1) zA; have a2 := blk_frozen (o := 0) zA; have a3 := blk_frozen (o := 1) zA; have b0 := blk_cell (o := 0) zB; have f0 := blk_frozen (o := 0) zB; have b1 := blk_cell (o := 1) zB; have f1 := blk_frozen (o := 1) zB; have b2 := blk_cell (o := 2) zB; have f2 := blk_frozen (o := 2) zB; have b3 := blk_cell (o := 3) zB; have f3 := blk_frozen (o := 3) zB; have b4 := blk_cell (o := 4) zB; have f4 := blk_frozen (o := 4) zB; have hzB := Nat.le_refl wr.heap.size; have hzA := Nat.le_succ wr.heap.size))
            all_goals
              go_wp2_with fail
              go_meet
              have hz4 := Below.size hp4
            all_goals first
              | exact DoVars.mkb w4.heap.size (w4.heap.size + 1) hr4 hl4 hk4 hi4 hp4 hB0 (by simp) hz4 (by omega) (((Pr.alloc _ _).alloc' _).chg _) (.inr (Nat.le_refl _)) (.inr (by omega)) ((Pr.alloc _ _).blk (heap_alloc_new w4 _)) (alloc_secondD w4 _ _)
              | exact DoVars.mkb (w4.heap.size + 1) w4.heap.size hr4 hl4 hk4 hi4 hp4 hB0 (by simp) (by omega) hz4 (((Pr.alloc _ _).alloc' _).chg _) (.inr (by omega)) (.inr (Nat.le_refl _)) (alloc_secondD w4 _ _) ((Pr.alloc _ _).blk (heap_alloc_new w4 _))
              | (obtain ⟨g1, g2, g3⟩ := setA_both (.string l4) (.slice o4 k4.length c4) (.cells #[.int .i64 kk, .slice bp4 pp.length bc4, .int .i64 aa, .int .i64 mm, .string ss] 45) zA
                 exact DoVars.mkb wr.heap.size w4.heap.size hr4 hl4 hk4 hi4 hp4 hB0 (by simp) (Nat.le_refl _) hz4 g1 (.inl (by simp)) (.inr (Nat.le_refl _)) g2 g3)
              | (obtain ⟨g1, g2, g3⟩ := set25_both (.string l4) (.slice o4 k4.length c4) (.int .i64 kk) (.slice bp4 pp.length bc4) (.int .i64 aa) (.int .i64 mm) (.string ss) (Pr.refl w4) zA zB (show wr.heap.size ≠ wr.heap.size + 1 by omega)
                 exact DoVars.mkb wr.heap.size (wr.heap.size + 1) hr4 hl4 hk4 hi4 hp4 hB0 (by simp; omega) (Nat.le_refl _) (by omega) g1 (.inl (by simp; omega)) (.inl (by simp)) g2 g3)
              | (obtain ⟨g1, g2, g3⟩ := set25_both (.string l4) (.slice o4 k4.length c4) (.int .i64 kk) (.slice bp4 pp.length bc4) (.int .i64 aa) (.int .i64 mm) (.string ss) (Pr.refl w4) zA zB (show wr.heap.size + 1 ≠ wr.heap.size by omega)
                 exact DoVars.mkb (wr.heap.size + 1) wr.heap.size hr4 hl4 hk4 hi4 hp4 hB0 (by simp; omega) (by omega) (Nat.le_refl _) g1 (.inl (by simp)) (.inl (by simp; omega)) g2 g3)
              | (obtain ⟨g1, g2, g3⟩ := setB_both (.int .i64 kk) (.slice bp4 pp.length bc4) (.int .i64 aa) (.int .i64 mm) (.string ss) (.cells #[.string l4, .slice o4 k4.length c4] 24) zB
                 exact DoVars.mkb w4.heap.size wr.heap.size hr4 hl4 hk4 hi4 hp4 hB0 (by simp) hz4 (Nat.le_refl _) g1 (.inr (Nat.le_refl _)) (.inl (by simp)) g2 g3)
          case rest =>
            obtain ⟨B1, B2, l2, ks2, o2, c2, kb, pb, ab, mb, sb, bp, bc, c, rfl, rfl, rfl, hdo, hl2, hA, hF, hzA, hzB, hk2, hi2, hp2⟩ := hcut
            obtain ⟨V, hV⟩ : ∃ V, V = wc := ⟨_, rfl⟩
            subst hV
            have hdrop : ds.drop i = ⟨k, p, a, m, s⟩ :: ds.drop (i + 1) := by rw [List.drop_eq_getElem_cons hlt, Hd.out]
            have hc2 : Chg (fun k => k = w.heap.size) W V := Hc.out.pr hp2
            have hq3 := Hc.out.size; have hq4 := Below.size hp2; have hws := HWs.out
            obtain ⟨r1, r2⟩ := HR.out V ⟨hc2.os, hc2.tape, hc2.output, hc2.size, fun j hj hn => hc2.block j hj (fun e => hn ⟨by omega, by omega⟩)⟩
            have hpw : Pr w V := ((HW.out.chg (fun k => k = w.heap.size)).trans hc2 (fun _ h => .inl h)).to_pr (fun k hk => by omega)
            clear RU hB0 k0 k1 k2 k3 k4
            by_cases hz : c = 0
            case neg =>
              have Hno := Lib.hid (runT_err (l := ds) (e := (c, i)) ft (by omega) (by rw [Hrun.out, hdrop, runGo_no (by rw [hdo]; exact hz), hdo]))
              have e3 : ((c : Int) != 0) = true := by simp [bne_iff_ne]; omega
              have Hr1 := Lib.hid r1; have Hr2 := Lib.hid r2
              clear hdrop hdo hz hA hF hk2 hi2 r1 r2
              go_wp2_with (go_at_call 56; (with_reducible refine Calls.mono (rF_any _ _ _) ?_); rintro e w5 ⟨rfl, hb5⟩; have r1 := hb5.blk Hr1.out; have r2 := hb5.blk Hr2.out; have q0 := blk_cell (o := 0) r1; have q1 := blk_cell (o := 1) r1; have q2 := blk_frozen (o := 0) r1; have q3 := blk_frozen (o := 1) r1; have q4 := blk_cell (o := 0) r2; have q5 := blk_cell (o := 1) r2; have q6 := blk_frozen (o := 0) r2; have q7 := blk_frozen (o := 1) r2; have hp := hpw.trans hb5; clear r1 r2)
              exact bodyPost_ret (v := .tuple #[.agg #[.string ⟨#[]⟩, .slice none 0 0], .slice none 0 0, .agg #[.int .i64 c, .int .i64 i]]) (by simp [results, Try.results23, go_sem, q0, q1, q4, q5]) rfl (RRunPost.no Hno.out ((((hp.setCell (by simp <;> omega) _).setCell (by simp <;> omega) _).setCell (by simp <;> omega) _).setCell (by simp <;> omega) _))
            case pos =>
              subst hz
              have hrn : runGo 0 (.node l ks) ds = match runGo (i + 1) (.node l2 ks2) (ds.drop (i + 1)) with | .error e => .error e | .ok r => .ok (r.1, r.2 ++ ((⟨kb, pb, ab, mb, sb⟩ : Dee) :: bs)) := by
                rw [Hrun.out, hdrop]
                cases hx : runGo (i + 1) (.node l2 ks2) (ds.drop (i + 1)) with
                | error e => rw [runGo_err (e := e) (by rw [hdo]) (by rw [hdo]; exact hx)]
                | ok r => rw [runGo_ok (r := r) (by rw [hdo]) (by rw [hdo]; exact hx), hdo]; simp
              have Hrn := Lib.hid hrn
              have Hls2 : Hid (sb.size ≤ maxLen) := Lib.hid (by have := doD_backLab (t := .node l' ks') (d := ⟨k, p, a, m, s⟩) (by rw [hdo]); rw [hdo] at this; exact this)
              have hTw := hp2.blk HTr.out
              have t0 := blk_cell (o := 0) hTw; have t1 := blk_cell (o := 1) hTw; have f0 := blk_frozen (o := 0) hTw; have f1 := blk_frozen (o := 1) hTw
              have n0 := blk_cell (o := 0) hA; have n1 := blk_cell (o := 1) hA
              clear hrn hdrop r1 r2
              go_upto_region 14 with fail
              obtain ⟨V3, hV3⟩ : ∃ V3, V3 = (V.setCell ⟨w.heap.size, 0, none⟩ (.string l2)).setCell ⟨w.heap.size, 1, none⟩ (.slice o2 ks2.length c2) := ⟨_, rfl⟩
              have hc3 : Chg (fun k => k = w.heap.size) V V3 := by rw [hV3]; exact Chg.setCell (Chg.setCell (Chg.refl (fun k => k = w.heap.size) V) _ _ (.inl rfl)) _ _ (.inl rfl)
              have hT3 : V3.heap[w.heap.size]? = some (.cells #[.string l2, .slice o2 ks2.length c2] 24 (0, 0)) := by rw [hV3]; exact blk_set (o := 1) (blk_set (o := 0) hTw _) _
              have hF3 := hc3.blk hF (by omega)
              have hZ2 : ∀ j, ((Z j ∧ j < wr.heap.size) ∨ wr.heap.size ≤ j) → Z j := fun j h => by rcases h with h | h; exact h.1; exact HZn.out j (by omega)
              have hk3 : Kids Z V3 ks2 o2 c2 := hk2.carry fun j hj hl => ⟨hc3.block j hl (HZb.out j (hZ2 j hj)), hZ2 j hj⟩
              have hi3 : Ints Z V3 pb bp bc := Flat.carry (fun j hj hl => ⟨hc3.block j hl (HZb.out j (hZ2 j hj)), hZ2 j hj⟩) hi2
              have hd3 : Dees Z V3 bs ob cb := (Hdz.out.pr hp2).carry fun j hj hl => ⟨hc3.block j hl (HZb.out j hj), hj⟩
              have hz3 := hc3.size
              rw [← hV3]
              clear hV3 t0 t1 f0 f1 n0 n1
              have b0 := blk_cell (o := 0) hF3; have b1 := blk_cell (o := 1) hF3; have b2 := blk_cell (o := 2) hF3; have b3 := blk_cell (o := 3) hF3; have b4 := blk_cell (o := 4) hF3
              have HO : Hid (OwnsDX Z V3 V3.heap.size (V3.alloc (.cells #[.int .i64 kb, .slice bp pb.length bc, .int .i64 ab, .int .i64 mb, .string sb] 45)) (.slice (some ⟨V3.heap.size, 0, none⟩) 1 1) [⟨kb, pb, ab, mb, sb⟩]) := Lib.hid
                ⟨[.int .i64 kb, .slice bp pb.length bc, .int .i64 ab, .int .i64 mb, .string sb], ⟨rfl, .inr ⟨V3.heap.size, 1, _, rfl, Nat.le_refl _, heap_alloc_new V3 _, Nat.le_refl _, by unfold maxLen; omega, rfl, rfl⟩⟩, _, [], rfl, ⟨bp, bc, rfl, hi3, Hls2.out⟩, rfl⟩
              have HU := Lib.hid hd3; have HT3 := Lib.hid hT3; have HK3 := Lib.hid hk3; have HC3 := Lib.hid (hc2.trans hc3 (fun _ h => .inl h))
              have hbl : bs.length ≤ 100000 := by have := Hbs.out; omega
              clear hd3 hT3 hk3 hc3 hi3 hF hF3 hA hk2 hi2 hTw hc2 hZ2 hpw
              go_upto_region 15 with (at_builtin; go_must (refine app_deeds rfl _ _ rfl Z V3 V3.heap.size (.slice (some ⟨V3.heap.size, 0, none⟩) 1 1) [⟨kb, pb, ab, mb, sb⟩] rfl HO.out bs ob cb rfl HU.out (Pr.alloc _ _) (by simp; omega) (by simp) ?_); intro v5 w5 ho5 hg5 hd5)
              have hp5 : Pr V3 w5 := Below.grown (Pr.alloc _ _) hg5 (by simp) (fun k hk => by cases hk; simp)
              obtain ⟨o6, c6, rfl, hd6⟩ := ho5.dees hp5
              refine ⟨⟨i + 1, ⟨kb, pb, ab, mb, sb⟩ :: bs, l2, ks2, o2, c2, o6, c6, by omega, by rw [List.length_cons, Hbs.out], by go_num, rfl, hd6.mono (fun j hj _ => by rcases hj with h | h; exact h; exact HZn.out j (by omega)), hp5.blk HT3.out, hl2, HK3.out.pr hp5, HC3.out.pr hp5, Hrn.out⟩, ?_⟩
              simp [intOf]; omega
        case neg =>
          have hie : i = ds.length := by omega
          have hrun1 : runGo 0 (.node l ks) ds = .ok (.node l' ks', bs) := by rw [Hrun.out, hie, List.drop_length]; rfl
          have Hok := Lib.hid (runT_ok ft (by omega) hrun1)
          have hws := HWs.out
          have hc1 := Hc.out
          have hpw : Pr w wr := ((HW.out.chg (fun k => k = w.heap.size)).trans hc1 (fun _ h => .inl h)).to_pr (fun k hk => by omega)
          obtain ⟨r1, r2⟩ := HR.out wr ⟨hc1.os, hc1.tape, hc1.output, hc1.size, fun j hj hn => hc1.block j hj (fun e => hn ⟨by omega, by omega⟩)⟩
          have t0 := blk_cell (o := 0) HTr.out; have t1 := blk_cell (o := 1) HTr.out
          have q0 := blk_cell (o := 0) r1; have q1 := blk_cell (o := 1) r1; have q2 := blk_frozen (o := 0) r1; have q3 := blk_frozen (o := 1) r1; have q4 := blk_cell (o := 0) r2; have q5 := blk_cell (o := 1) r2; have q6 := blk_frozen (o := 0) r2; have q7 := blk_frozen (o := 1) r2
          have key : ∀ W4, Chg (fun k => k = w.heap.size + 1 ∨ k = w.heap.size + 1 + 1) wr W4 → RRunPost w (.node l ks) ds (.returned (.tuple #[.agg #[.string l', .slice oa' ks'.length cap'], .slice ob bs.length cb, .agg #[.int .i64 0, .int .i64 0]])) W4 := fun W4 h4 =>
            ⟨l', ks', oa', cap', bs, ob, cb, 0, 0, Hok.out, hl', rfl, Hk.out.carry fun j hj hl => ⟨h4.block j hl (fun e => by have := HZ9.out j hj; rcases e with e | e <;> omega), trivial⟩,
              Hdz.out.carry fun j hj hl => ⟨h4.block j hl (fun e => by have := HZ9.out j hj; rcases e with e | e <;> omega), trivial⟩, ((hpw.chg (fun k => k = w.heap.size + 1 ∨ k = w.heap.size + 1 + 1)).trans h4 (fun _ h => .inl h)).to_pr (fun k hk => by omega)⟩
          have Key := Lib.hid key
          clear key hrun1 r1 r2 hc1 hpw X0 X1
          subst hie
          go_wp2_with fail
          exact bodyPost_ret (v := .tuple #[.agg #[.string l', .slice oa' ks'.length cap'], .slice ob bs.length cb, .agg #[.int .i64 0, .int .i64 0]]) (by simp [results, Try.results23, go_sem, q0, q1, q4, q5]) rfl (Key.out _ (Chg.setCell (Chg.setCell (Chg.setCell (Chg.setCell (Chg.refl (fun k => k = w.heap.size + 1 ∨ k = w.heap.size + 1 + 1) wr) _ _ (.inl (.inl rfl))) _ _ (.inl (.inl rfl))) _ _ (.inl (.inr rfl))) _ _ (.inl (.inr rfl))))
end Go.Proofs.Ytdbnfhpgmcjngac
