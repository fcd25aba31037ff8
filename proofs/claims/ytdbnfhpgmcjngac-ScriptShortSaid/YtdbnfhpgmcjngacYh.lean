/- How the laws on scripts begin. -/
import Derived.Test.YtdbnfhpgmcjngacYf
import Derived.Test.YtdbnfhpgmcjngacYg
import Derived.Test.YtdbnfhpgmcjngacBwa
import Derived.Test.YtdbnfhpgmcjngacBdf
namespace Go.Proofs.Ytdbnfhpgmcjngac
open Go Go.RowKit

theorem at?_len {p : List Int} {t u : Tr} (h : t.at? p = some u) : p.length + u.sz ≤ t.sz := by
  induction p generalizing t with
  | nil => cases h; simp
  | cons k p ih =>
    simp only [Tr.at?] at h
    cases hk : t.kid? k with
    | none => rw [hk] at h; cases h
    | some v => rw [hk] at h; have := ih h; have := Tr.kid?_sz hk; simp only [List.length_cons]; omega
/-- A deed that can be done has a short path. -/
theorem doD_path {t : Tr} {d : Dee} (h : (doD t d).2.2 = 0) : d.path.length ≤ 40 := by
  obtain ⟨h1, h2, h3, _⟩ := doD_ok.1 h
  obtain ⟨_, _, e2, _, _, hp, _⟩ := dfault_zero.1 h2
  have hs := (fault_zero.1 h1).1
  cases hat : t.at? d.path with
  | some u => have := at?_len hat; omega
  | none =>
    by_cases hk : d.kind = 2
    · rw [doneD_none d hk d.path t (e2 hk).2 hp hat] at h3; cases h3
    · rw [doneT_none d hk d.path t hp hat] at h3; cases h3
theorem runGo_paths : ∀ {l : List Dee} {i : Nat} {t : Tr} {r : Tr × List Dee}, runGo i t l = .ok r → ∀ d ∈ l, d.path.length ≤ 40
  | [], i, t, r, h, d, hd => by cases hd
  | d' :: l, i, t, r, h, d, hd => by
    by_cases h0 : (doD t d').2.2 = 0
    · rcases List.mem_cons.1 hd with rfl | hd
      · exact doD_path h0
      · cases hx : runGo (i + 1) (doD t d').1 l with
        | error e => rw [runGo_err h0 hx] at h; cases h
        | ok y => exact runGo_paths hx d hd
    · rw [runGo_no h0] at h; cases h
/-- script.Run, where it is known what it makes. -/
theorem run_is (l : ByteArray) (ks : List Tr) (oa cap) (ds : List Dee) (da dc) (w : World) (hl : l.size ≤ maxLen) (hk : Kids Any w ks oa cap) (hd : Dees Any w ds da dc) (hpl : ∀ d ∈ ds, d.path.length ≤ 100000)
    (l2 : ByteArray) (ks2 : List Tr) (bs : List Dee) (c i : Int) (h : runT (.node l ks) ds = (.node l2 ks2, bs, c, i)) :
    Calls Try.prog 22 #[.agg #[.string l, .slice oa ks.length cap], .slice da ds.length dc] w fun e w' =>
      ((∃ oa cap ob cb, e = .returned (.tuple #[.agg #[.string l2, .slice oa ks2.length cap], .slice ob bs.length cb, .agg #[.int .i64 c, .int .i64 i]]) ∧ Kids Any w' ks2 oa cap ∧ Dees Any w' bs ob cb ∧ OwnsDs w.heap.size w' (.slice ob bs.length cb) bs) ∧ l2.size ≤ maxLen) ∧ Pr w w' := by
  refine (run_any l ks oa cap ds da dc w hl hk hd hpl).mono ?_
  rintro e w' ⟨l', ks', oa', cap', bs', ob, cb, c', i', hr, hl', rfl, hk2, hd2, ho2, hp⟩
  have hr2 := hr.symm.trans h
  simp only [Prod.mk.injEq, Tr.node.injEq] at hr2
  obtain ⟨⟨rfl, rfl⟩, rfl, rfl, rfl⟩ := hr2
  exact ⟨⟨⟨oa', cap', ob, cb, rfl, hk2.any, hd2.any, ho2⟩, hl'⟩, hp⟩

set_option maxRecDepth 100000 in
set_option maxHeartbeats 6400000 in
theorem scriptBegun_any (w : World) : Calls Try.prog 19 #[] w fun e w' => e = .returned (.bool true) ∧ Pr w w' := by
  obtain ⟨⟨back, hgo⟩, hlen⟩ := diff_ok dA_fault dB_fault
  rw [dAB_cost] at hlen
  have hpth := runGo_paths hgo
  have hrun := runT_ok dA_fault (by omega) hgo
  have hbk := runT_back (t := dA) (l := diffP dA dB (bestT dA dB)) (by rw [hrun])
  rw [hrun] at hbk
  have hbl := hbk.2
  have hrun2 := hbk.1
  simp only at hbl hrun2
  have hgo2 := runGo_back 0 hgo
  simp only at hgo2
  have hpth2 := runGo_paths hgo2
  obtain ⟨W, hW⟩ : ∃ W, W = ((((w.alloc (.cells #[.string ⟨#[99]⟩, .slice none 0 0] 24)).alloc (.cells #[.string ⟨#[98]⟩, .slice (some ⟨w.heap.size, 0, none⟩) 1 1] 24)).alloc (.cells #[.string ⟨#[97]⟩, .slice (some ⟨w.heap.size + 1, 0, none⟩) 1 1] 24)).alloc
    (.cells #[.string ⟨#[99]⟩, .slice none 0 0, .string ⟨#[100]⟩, .slice none 0 0] 24)).alloc (.cells #[.string ⟨#[97]⟩, .slice (some ⟨w.heap.size + 1 + 1 + 1, 0, none⟩) 2 2] 24) := ⟨_, rfl⟩
  have hwW : Pr w W := by rw [hW]; exact ((((Pr.alloc _ _).alloc' _).alloc' _).alloc' _).alloc' _
  have hkA : Kids Any W kA (some ⟨w.heap.size + 1, 0, none⟩) 1 := by
    rw [hW]
    exact Kids.mk (by decide) (by decide) trivial (KidsAt.cons (cap := 1) (oa := some ⟨w.heap.size, 0, none⟩) (by simp [go_sem]) (by simp [go_sem]) (by decide) (Kids.mk (by decide) (by decide) trivial (KidsAt.cons (cap := 0) (oa := none) (by simp [go_sem]) (by simp [go_sem]) (by decide) (Kids.nil0 _ _) trivial)) trivial)
  have hkB : Kids Any W kB (some ⟨w.heap.size + 1 + 1 + 1, 0, none⟩) 2 := by
    rw [hW]
    exact Kids.mk (by decide) (by decide) trivial (KidsAt.cons (cap := 0) (oa := none) (by simp [go_sem]) (by simp [go_sem]) (by decide) (Kids.nil0 _ _) (KidsAt.cons (cap := 0) (oa := none) (by simp [go_sem]) (by simp [go_sem]) (by decide) (Kids.nil0 _ _) trivial))
  have s0 := stays (show W.cell? ⟨w.heap.size + 1 + 1, 0, none⟩ = some (.string ⟨#[97]⟩) by rw [hW]; simp [go_sem])
  have s1 := stays (show W.cell? ⟨w.heap.size + 1 + 1, 1, none⟩ = some (.slice (some ⟨w.heap.size + 1, 0, none⟩) 1 1) by rw [hW]; simp [go_sem])
  have s2 := stays (show W.cell? ⟨w.heap.size + 1 + 1 + 1 + 1, 0, none⟩ = some (.string ⟨#[97]⟩) by rw [hW]; simp [go_sem])
  have s3 := stays (show W.cell? ⟨w.heap.size + 1 + 1 + 1 + 1, 1, none⟩ = some (.slice (some ⟨w.heap.size + 1 + 1 + 1, 0, none⟩) 2 2) by rw [hW]; simp [go_sem])
  have D1 : Hid (Calls Try.prog 27 #[.agg #[.string ⟨#[97]⟩, .slice (some ⟨w.heap.size + 1, 0, none⟩) 1 1], .agg #[.string ⟨#[97]⟩, .slice (some ⟨w.heap.size + 1 + 1 + 1, 0, none⟩) 2 2]] W (DiffPost W dA dB)) :=
    Lib.hid (diff_yes ⟨#[97]⟩ kA _ 1 ⟨#[97]⟩ kB _ 2 W (by decide) hkA (by decide) hkB dA_fault dB_fault)
  unfold DiffPost at D1
  generalize diffP dA dB (bestT dA dB) = D at *
  rw [hlen] at D1
  have R1 : Hid (∀ W' oD cD, Pr W W' → Dees Any W' D oD cD → Calls Try.prog 22 #[.agg #[.string ⟨#[97]⟩, .slice (some ⟨w.heap.size + 1, 0, none⟩) 1 1], .slice oD 2 cD] W' fun e w' => (∃ oa cap ob cb, e = .returned (.tuple #[.agg #[.string ⟨#[97]⟩, .slice oa 2 cap], .slice ob 2 cb, .agg #[.int .i64 0, .int .i64 0]]) ∧ Kids Any w' kB oa cap ∧ Dees Any w' back ob cb) ∧ Pr W' w') := Lib.hid fun W' oD cD h hd => by
    have h1 := run_is ⟨#[97]⟩ kA _ 1 D oD cD W' (by decide) (hkA.pr h) hd (fun d hd => by have := hpth d hd; omega) ⟨#[97]⟩ kB back 0 0 hrun
    rw [hlen, hbl, hlen] at h1
    exact h1.mono fun e w' ⟨⟨⟨o, c, o2, c2, h1, h2, h3, _⟩, _⟩, hp⟩ => ⟨⟨o, c, o2, c2, h1, h2, h3⟩, hp⟩
  have R2 : Hid (∀ W' oB cB ob cb, Kids Any W' kB oB cB → Dees Any W' back ob cb → Calls Try.prog 22 #[.agg #[.string ⟨#[97]⟩, .slice oB 2 cB], .slice ob 2 cb] W' fun e w' => (∃ oa cap ob cb, e = .returned (.tuple #[.agg #[.string ⟨#[97]⟩, .slice oa 1 cap], .slice ob 2 cb, .agg #[.int .i64 0, .int .i64 0]]) ∧ Kids Any w' kA oa cap) ∧ Pr W' w') := Lib.hid fun W' oB cB ob cb hk hd => by
    have h1 := run_is ⟨#[97]⟩ kB oB cB back ob cb W' (by decide) hk hd (fun d hd => by have := hpth2 d hd; omega) ⟨#[97]⟩ kA D 0 0 hrun2
    rw [hbl, hlen] at h1
    exact h1.mono fun e w' ⟨⟨⟨o, c, o2, c2, h1, h2, _⟩, _⟩, hp⟩ => ⟨⟨o, c, o2, c2, h1, h2⟩, hp⟩
  have S1 : Hid (∀ W' oa cap, Pr W W' → Kids Any W' kB oa cap → Calls Try.prog 16 #[.agg #[.string ⟨#[97]⟩, .slice oa 2 cap], .agg #[.string ⟨#[97]⟩, .slice (some ⟨w.heap.size + 1 + 1 + 1, 0, none⟩) 2 2]] W' fun e w' => e = .returned (.bool true) ∧ Pr W' w') := Lib.hid fun W' oa cap h hk => by
    have := sameTree_any ⟨#[97]⟩ ⟨#[97]⟩ kB kB oa cap _ 2 W' hk (hkB.pr h); rw [Tr.beq_self] at this; exact this
  have S2 : Hid (∀ W' oa cap, Pr W W' → Kids Any W' kA oa cap → Calls Try.prog 16 #[.agg #[.string ⟨#[97]⟩, .slice oa 1 cap], .agg #[.string ⟨#[97]⟩, .slice (some ⟨w.heap.size + 1, 0, none⟩) 1 1]] W' fun e w' => e = .returned (.bool true) ∧ Pr W' w') := Lib.hid fun W' oa cap h hk => by
    have := sameTree_any ⟨#[97]⟩ ⟨#[97]⟩ kA kA oa cap _ 1 W' hk (hkA.pr h); rw [Tr.beq_self] at this; exact this
  have HW := Lib.hid hwW
  clear hwW hkA hkB hrun hrun2 hgo hgo2 hpth hpth2 hbk hbl hlen
  go_enter Try.func19, Try.ntmps19
  go_upto_region 3 with fail
  rw [← hW]; clear hW
  have x0 := s0 _ (Pr.refl _); have x1 := s1 _ (Pr.refl _); have x2 := s2 _ (Pr.refl _); have x3 := s3 _ (Pr.refl _)
  go_upto_region 5 with (first
    | (go_at_call 27; (with_reducible refine Calls.mono D1.out ?_); rintro e w1 ⟨oD, cD, rfl, hD, hb1⟩; have x0 := s0 _ hb1; have x1 := s1 _ hb1)
    | (go_at_call 22; (with_reducible refine Calls.mono (R1.out _ _ _ hb1 hD.any) ?_); rintro e w2 ⟨⟨o2, c2, ob, cb, rfl, hk2, hd2⟩, hb2⟩))
  obtain ⟨V, hV⟩ : ∃ V, V = (w2.alloc (.cells #[.string ⟨#[97]⟩, .slice o2 2 c2] 24)).alloc (.cells #[.int .i64 0, .int .i64 0] 39) := ⟨_, rfl⟩
  have hpV : Pr w2 V := by rw [hV]; exact (Pr.alloc _ _).alloc' _
  have y0 := stays (show V.cell? ⟨w2.heap.size, 0, none⟩ = some (.string ⟨#[97]⟩) by rw [hV]; simp [go_sem])
  have y1 := stays (show V.cell? ⟨w2.heap.size, 1, none⟩ = some (.slice o2 2 c2) by rw [hV]; simp [go_sem])
  have y2 := stays (show V.cell? ⟨w2.heap.size + 1, 0, none⟩ = some (.int .i64 0) by rw [hV]; simp [go_sem])
  rw [← hV]
  have hk2 := hk2.pr hpV; have hd2 := hd2.pr hpV
  have hWV := (hb1.trans hb2).trans hpV
  have Hk2 := Lib.hid hk2; have HWV := Lib.hid hWV
  have z0 := y0 _ (Pr.refl _); have z1 := y1 _ (Pr.refl _)
  clear hV hpV x0 x1 x2 x3
  go_upto_region 6 with (first
    | (go_at_call 22; (with_reducible refine Calls.mono (R2.out _ _ _ _ _ hk2 hd2) ?_); rintro e w3 ⟨⟨o3, c3, ob3, cb3, rfl, hk3⟩, hb3⟩))
  obtain ⟨U, hU⟩ : ∃ U, U = (w3.alloc (.cells #[.string ⟨#[97]⟩, .slice o3 1 c3] 24)).alloc (.cells #[.int .i64 0, .int .i64 0] 39) := ⟨_, rfl⟩
  have hpU : Pr w3 U := by rw [hU]; exact (Pr.alloc _ _).alloc' _
  have u0 := stays (show U.cell? ⟨w3.heap.size, 0, none⟩ = some (.string ⟨#[97]⟩) by rw [hU]; simp [go_sem])
  have u1 := stays (show U.cell? ⟨w3.heap.size, 1, none⟩ = some (.slice o3 1 c3) by rw [hU]; simp [go_sem])
  have u2 := stays (show U.cell? ⟨w3.heap.size + 1, 0, none⟩ = some (.int .i64 0) by rw [hU]; simp [go_sem])
  have hVU := hb3.trans hpU
  have hWU := HWV.out.trans hVU
  rw [← hU]
  have a0 := u2 _ (Pr.refl _); have a1 := y2 _ hVU; have a2 := y0 _ hVU; have a3 := y1 _ hVU; have a4 := s2 _ hWU; have a5 := s3 _ hWU
  have hk3 := hk3.pr hpU
  have hk2 := Hk2.out.pr hVU
  clear hU hpU hb3 z0 z1 hd2
  go_wp2_with (first
    | (go_at_call 16; (with_reducible refine Calls.mono (S1.out _ _ _ hWU hk2) ?_); rintro e w4 ⟨rfl, hb4⟩; have b0 := u0 _ hb4; have b1 := u1 _ hb4; have b2 := s0 _ (hWU.trans hb4); have b3 := s1 _ (hWU.trans hb4))
    | (go_at_call 16; (with_reducible refine Calls.mono (S2.out _ _ _ (hWU.trans hb4) (hk3.pr hb4)) ?_); rintro e w5 ⟨rfl, hb5⟩))
  go_ret
  exact ⟨rfl, HW.out.trans ((hWU.trans hb4).trans hb5)⟩
end Go.Proofs.Ytdbnfhpgmcjngac
