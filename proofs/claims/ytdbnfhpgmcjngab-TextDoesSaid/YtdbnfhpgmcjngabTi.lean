/- The law TextApart: its walk. -/
import Derived.Test.YtdbnfhpgmcjngabTh
namespace Go.Proofs.Ytdbnfhpgmcjngab
open Go Go.RowKit

/-- A text with other blanks. -/
def wideL (l : List UInt8) : List UInt8 := l.flatMap fun c => if c = 40 then [32, 10, 40, 10] else if c = 41 then [32, 10, 41, 10] else if c = 32 then [10, 32, 32] else [c]
theorem wideL_append (a b : List UInt8) : wideL (a ++ b) = wideL a ++ wideL b := by simp [wideL]
theorem wideL_lab : ∀ l : List UInt8, l.all okC = true → wideL l = l
  | [], _ => rfl
  | c :: l, h => by
    rw [List.all_cons, Bool.and_eq_true] at h
    have h1 := okC_no h.1
    have h2 : c ≠ 32 := fun e => by have := h1.1; rw [e] at this; revert this; decide
    have h3 := wideL_lab l h.2
    have h4 : wideL (c :: l) = [c] ++ wideL l := by
      simp only [wideL, List.flatMap_cons]; rw [if_neg h1.2.1, if_neg h1.2.2, if_neg h2]
    rw [h4, h3]; rfl
mutual
theorem wide_txt : ∀ t : Tr, t.named = true → wideL (txt [40] [41] [32] t) = txt [32, 10, 40, 10] [32, 10, 41, 10] [10, 32, 32] t
  | .node l ks, h => by
    have hl : isLab l = true ∧ Tr.namedL ks = true := by simpa [Tr.named] using h
    rw [txt, txt, wideL_append, wideL_lab _ (lab_front hl.1).1]
    cases ks with
    | nil => simp [wideL]
    | cons k ks =>
      have := wide_txtL (k :: ks) hl.2
      simp only [List.isEmpty_cons, Bool.false_eq_true, if_false, wideL_append, this]
      rfl
theorem wide_txtL : ∀ ks : List Tr, Tr.namedL ks = true → wideL (txtL [40] [41] [32] ks) = txtL [32, 10, 40, 10] [32, 10, 41, 10] [10, 32, 32] ks
  | [], _ => rfl
  | k :: ks, h => by
    have hl : k.named = true ∧ Tr.namedL ks = true := by simpa [Tr.namedL] using h
    rw [txtL, txtL, wideL_append, wide_txt k hl.1]
    cases ks with
    | nil => simp [wideL]
    | cons j ks =>
      have := wide_txtL (j :: ks) hl.2
      simp only [List.isEmpty_cons, Bool.false_eq_true, if_false, wideL_append, this]
      rfl
end
theorem wideL_length (l : List UInt8) : (wideL l).length ≤ 4 * l.length := by
  induction l with
  | nil => simp [wideL]
  | cons c l ih =>
    have : (wideL (c :: l)).length = (if c = 40 then [32, 10, 40, 10] else if c = 41 then [32, 10, 41, 10] else if c = 32 then [10, 32, 32] else [c] : List UInt8).length + (wideL l).length := by simp [wideL]
    rw [this, List.length_cons]
    split
    · simp; omega
    · split
      · simp; omega
      · split
        · simp; omega
        · simp; omega
theorem ba_list (a b : ByteArray) : (a ++ b).data.toList = a.data.toList ++ b.data.toList := by simp [ByteArray.data_append]
theorem byte_ne {c : UInt8} {z : Int} {d : UInt8} (hz : (d.toNat : Int) = z) (h : ¬ c = d) : ((c.toNat : Int) == z) = false := by
  rw [beq_eq_false_iff_ne]; intro e; apply h; rw [← hz] at e; apply UInt8.toNat_inj.1; omega
theorem wide_step {b x : ByteArray} {l m : List UInt8} {c : UInt8} (hb : b.data.toList = wideL l) (hm : m = l ++ [c]) (hx : x.data.toList = wideL [c]) : (b ++ x).data.toList = wideL m := by
  rw [hm, wideL_append, ba_list, hb, hx]
theorem wide_size {b x : ByteArray} {c : UInt8} {i : Nat} (hb : b.size ≤ 4 * i) (hx : x.data.toList = wideL [c]) : (b ++ x).size ≤ 4 * (i + 1) := by
  have h1 := wideL_length [c]
  have h2 := size_list x
  rw [hx] at h2
  rw [ByteArray.size_append]; simp only [List.length_singleton] at h1; omega
theorem parse_wide {t : Tr} (h : fault t = 0) : parseP ([10, 32] ++ (wideL (textT t) ++ [32])) = (t, 0, 0) := by
  have hp := fault_parts h
  have hl := wideL_length (textT t)
  have ht := txt_length t hp.2.2
  have h40 : Around 40 [32, 10, 40, 10] := ⟨[32, 10], [10], rfl, rfl, rfl⟩
  have h41 : Around 41 [32, 10, 41, 10] := ⟨[32, 10], [10], rfl, rfl, rfl⟩
  have e : wideL (textT t) = txt [32, 10, 40, 10] [32, 10, 41, 10] [10, 32, 32] t := wide_txt t hp.2.2
  rw [e] at hl ⊢
  exact parse_back h40 h41 (by rfl) (by simp) (by rfl) (by rfl) h (by simp only [List.length_append, List.length_cons, List.length_nil]; omega)
set_option maxRecDepth 100000 in
set_option maxHeartbeats 6400000 in
theorem textApart_walk (l0 : ByteArray) (k0 : List Tr) (o0 : Option Addr) (c0 : Nat) (l1 : ByteArray) (k1 : List Tr) (o1 : Option Addr) (c1 : Nat) (w : World) (hl0 : l0.size ≤ maxLen) (hk0 : Kids Any w k0 o0 c0) (hl1 : l1.size ≤ maxLen) (hk1 : Kids Any w k1 o1 c1) :
    Calls Try.prog 5 #[.agg #[.string l0, .slice o0 k0.length c0], .agg #[.string l1, .slice o1 k1.length c1]] w fun e w' => e = .returned (.bool true) ∧ Pr w w' := by
  obtain ⟨W, hW⟩ : ∃ W, W = (w.alloc (.cells #[.string l0, .slice o0 k0.length c0] 24)).alloc (.cells #[.string l1, .slice o1 k1.length c1] 24) := ⟨_, rfl⟩
  have hwW : Pr w W := by rw [hW]; exact (Pr.alloc _ _).alloc' _
  have s0 := stays (show W.cell? ⟨w.heap.size, 0, none⟩ = some (.string l0) by rw [hW]; simp [go_sem])
  have s1 := stays (show W.cell? ⟨w.heap.size, 1, none⟩ = some (.slice o0 k0.length c0) by rw [hW]; simp [go_sem])
  have s2 := stays (show W.cell? ⟨w.heap.size + 1, 0, none⟩ = some (.string l1) by rw [hW]; simp [go_sem])
  have s3 := stays (show W.cell? ⟨w.heap.size + 1, 1, none⟩ = some (.slice o1 k1.length c1) by rw [hW]; simp [go_sem])
  have hk0 := hk0.pr hwW
  have hk1 := hk1.pr hwW
  obtain ⟨ga, hga⟩ : ∃ b, b = great (.node l0 k0) := ⟨_, rfl⟩
  obtain ⟨gb, hgb⟩ : ∃ b, b = great (.node l1 k1) := ⟨_, rfl⟩
  obtain ⟨n1, hn1⟩ : ∃ n, n = fault (.node l0 k0) := ⟨_, rfl⟩
  obtain ⟨n2, hn2⟩ : ∃ n, n = fault (.node l1 k1) := ⟨_, rfl⟩
  obtain ⟨a0, ha0⟩ : ∃ a, a = prT (.node l0 k0) := ⟨_, rfl⟩
  obtain ⟨a1, ha1⟩ : ∃ a, a = prT (.node l1 k1) := ⟨_, rfl⟩
  have B : Hid (∀ W', Calls Try.prog 14 #[] W' fun e w' => e = .returned (.bool true) ∧ Pr W' w') := Lib.hid fun W' => textBegun_any W'
  have G1 : Hid (∀ W', Pr W W' → Calls Try.prog 15 #[.agg #[.string l0, .slice o0 k0.length c0]] W' fun e w' => e = .returned (.bool ga) ∧ Pr W' w') := Lib.hid fun W' h => by rw [hga]; exact great_any l0 k0 _ _ _ (hk0.pr h)
  have G2 : Hid (∀ W', Pr W W' → Calls Try.prog 15 #[.agg #[.string l1, .slice o1 k1.length c1]] W' fun e w' => e = .returned (.bool gb) ∧ Pr W' w') := Lib.hid fun W' h => by rw [hgb]; exact great_any l1 k1 _ _ _ (hk1.pr h)
  have P1 : Hid (∀ W', Pr W W' → Calls Try.prog 17 #[.agg #[.string l0, .slice o0 k0.length c0]] W' fun e w' => e = .returned (.tuple #[.string a0, .int .i64 n1]) ∧ Pr W' w') := Lib.hid fun W' h => by rw [hn1, ha0]; exact print_any l0 k0 _ _ _ hl0 (hk0.pr h)
  have P2 : Hid (∀ W', Pr W W' → Calls Try.prog 17 #[.agg #[.string l1, .slice o1 k1.length c1]] W' fun e w' => e = .returned (.tuple #[.string a1, .int .i64 n2]) ∧ Pr W' w') := Lib.hid fun W' h => by rw [hn2, ha1]; exact print_any l1 k1 _ _ _ hl1 (hk1.pr h)
  obtain ⟨be, hbe⟩ : ∃ b, b = (Tr.node l0 k0).beq (.node l1 k1) := ⟨_, rfl⟩
  have S12 : Hid (∀ W', Pr W W' → Calls Try.prog 22 #[.agg #[.string l0, .slice o0 k0.length c0], .agg #[.string l1, .slice o1 k1.length c1]] W' fun e w' => e = .returned (.bool be) ∧ Pr W' w') := Lib.hid fun W' h => by
    rw [hbe]; exact sameTree_any l0 l1 k0 k1 o0 c0 o1 c1 W' (hk0.pr h) (hk1.pr h)
  have S0 : Hid (∀ W' oa cap, Pr W W' → Kids Any W' k0 oa cap → Calls Try.prog 22 #[.agg #[.string l0, .slice oa k0.length cap], .agg #[.string l0, .slice o0 k0.length c0]] W' fun e w' => e = .returned (.bool true) ∧ Pr W' w') := Lib.hid fun W' oa cap h hk => by
    have := sameTree_any l0 l0 k0 k0 oa cap o0 c0 W' hk (hk0.pr h)
    rw [Tr.beq_self] at this; exact this
  have hsame : n1 = 0 → n2 = 0 → ((a0.toList == a1.toList) = true ∧ be = true) ∨ ((a0.toList == a1.toList) = false ∧ ¬ a0.toList = a1.toList ∧ be = false) := fun h1 h2 => by
    have p0 : a0 = ⟨⟨textT (.node l0 k0)⟩⟩ := by rw [ha0]; unfold prT; rw [if_pos (by omega)]
    have p1 : a1 = ⟨⟨textT (.node l1 k1)⟩⟩ := by rw [ha1]; unfold prT; rw [if_pos (by omega)]
    by_cases he : a0 = a1
    · left
      have : textT (.node l0 k0) = textT (.node l1 k1) := by rw [p0, p1] at he; simpa using he
      have h3 := text_inj (by omega) (by omega) this
      exact ⟨by rw [he]; simp, by rw [hbe, h3]; exact Tr.beq_self _⟩
    · right
      refine ⟨by simpa using toList_ne he, toList_ne he, ?_⟩
      rw [hbe]
      cases hb : (Tr.node l0 k0).beq (.node l1 k1) with
      | false => rfl
      | true => exact absurd (by rw [p0, p1, (Tr.beq_iff _ _).1 hb]) he
  have hempty : n1 ≠ 0 → a0 = ⟨#[]⟩ := fun h => by rw [ha0]; unfold prT; rw [if_neg (by omega)]
  have hfull : n1 = 0 → a0.data.toList = textT (.node l0 k0) ∧ a0.size ≤ 320 := fun h => ⟨by rw [ha0]; unfold prT; rw [if_pos (by omega)], by rw [ha0]; exact prT_size (by omega)⟩
  have PW : Hid (n1 = 0 → ∀ (b : ByteArray) W', b.data.toList = [10, 32] ++ (wideL a0.data.toList ++ [32]) → Calls Try.prog 20 #[.string b] W' fun e w' => ∃ oa cap, (e = .returned (.tuple #[.agg #[.string l0, .slice oa k0.length cap], .agg #[.int .i64 0, .int .i64 0]]) ∧ Kids Any w' k0 oa cap) ∧ Pr W' w') := Lib.hid fun h b W' hb => by
    have hsz : b.size ≤ maxLen := by
      rw [← size_list, hb]
      have := wideL_length a0.data.toList
      have h2 := (hfull h).2
      rw [size_list] at this
      simp only [List.length_append, List.length_cons, List.length_nil]; unfold maxLen; omega
    have h3 := parse_any b W' hsz
    rw [hb, (hfull h).1, parse_wide (by omega)] at h3
    refine h3.mono ?_
    rintro e w' ⟨l', ks', oa, cap, h1, h2, rfl, h3, h4⟩
    cases h1
    exact ⟨oa, cap, ⟨rfl, h3.any⟩, h4⟩
  have hn320 : n1 = 0 → a0.size ≤ 320 := fun h => (hfull h).2
  have Hsame := Lib.hid hsame; have Hempty := Lib.hid hempty; have H320 := Lib.hid hn320; have HW := Lib.hid hwW
  clear hsame hempty hfull hn320 hga hgb hn1 hn2 ha0 ha1 hbe hk0 hk1 hwW hl0 hl1
  go_enter Try.func5, Try.ntmps5
  go_upto_region 1 with fail
  rw [← hW]; clear hW
  go_upto_region 3 with (go_at_call 14; (with_reducible refine Calls.mono (B.out _) ?_); rintro e w1 ⟨rfl, hp⟩)
  have x0 := s0 _ hp; have x1 := s1 _ hp; have x2 := s2 _ hp; have x3 := s3 _ hp
  cases ga
  case true =>
    go_wp2_with (go_at_call 15; (with_reducible refine Calls.mono (G1.out _ hp) ?_); rintro e w2 ⟨rfl, hb⟩; have hp := hp.trans hb)
    go_ret
    exact ⟨rfl, HW.out.trans hp⟩
  case false =>
    cases gb
    case true =>
      go_wp2_with (first
        | (go_at_call 15; (with_reducible refine Calls.mono (G1.out _ hp) ?_); rintro e w2 ⟨rfl, hb⟩; have hp := hp.trans hb; have x2 := s2 _ hp; have x3 := s3 _ hp)
        | (go_at_call 15; (with_reducible refine Calls.mono (G2.out _ hp) ?_); rintro e w2 ⟨rfl, hb⟩; have hp := hp.trans hb))
      go_ret
      exact ⟨rfl, HW.out.trans hp⟩
    case false =>
      go_upto_region 7 with (first
        | (go_at_call 15; (with_reducible refine Calls.mono (G1.out _ hp) ?_); rintro e w2 ⟨rfl, hb⟩; have hp := hp.trans hb; have x2 := s2 _ hp; have x3 := s3 _ hp)
        | (go_at_call 15; (with_reducible refine Calls.mono (G2.out _ hp) ?_); rintro e w3 ⟨rfl, hb⟩; have hp := hp.trans hb; have x0 := s0 _ hp; have x1 := s1 _ hp)
        | (go_at_call 17; (with_reducible refine Calls.mono (P1.out _ hp) ?_); rintro e w4 ⟨rfl, hb⟩; have hp := hp.trans hb; have x2 := s2 _ hp; have x3 := s3 _ hp)
        | (go_at_call 17; (with_reducible refine Calls.mono (P2.out _ hp) ?_); rintro e w5 ⟨rfl, hb⟩; have hp := hp.trans hb; have x0 := s0 _ hp; have x1 := s1 _ hp))
      by_cases hz1 : n1 = 0
      case neg =>
        have e0 : ((n1 : Int) == 0) = false := by simp [hz1]
        have e1 : ((n1 : Int) != 0) = true := by simp [bne_iff_ne, hz1]
        have he := Hempty.out hz1
        subst he
        clear hz1
        go_wp2_with fail
        go_ret
        exact ⟨rfl, HW.out.trans hp⟩
      case pos =>
        have e0 : ((n1 : Int) == 0) = true := by simp [hz1]
        have hs320 := H320.out hz1
        by_cases hz2 : n2 = 0
        case neg =>
          have f0 : ((n2 : Int) == 0) = false := by simp [hz2]
          clear hz2
          go_upto_region 9 with fail
          have Hn1 := Lib.hid hz1
          have e1 : ((n1 : Int) != 0) = false := by simp [hz1]
          clear hz1
          go_wp2_with fail
          go_loop [9, 10] (fun v x => ∃ (i : Nat) (b : ByteArray), i ≤ a0.size ∧ x = .int .i64 i ∧ v = .string b ∧ b.data.toList = wideL (a0.data.toList.take i) ∧ b.size ≤ 4 * i) (fun _ x => a0.size - (intOf x).toNat)
          case atStart => exact ⟨0, ⟨#[]⟩, by omega, rfl, rfl, by simp [wideL], by simp [ByteArray.size]⟩
          case round =>
            obtain ⟨i, b, hi, rfl, rfl, hb, hbs⟩ := hrel
            by_cases hlt : i < a0.size
            · have hsn : a0.data.toList.take (i + 1) = a0.data.toList.take i ++ [a0[i]] := by
                rw [List.take_succ_eq_append_getElem (by rw [size_list]; exact hlt)]; rfl
              have hex : a0.extract i (i + 1) = ⟨#[a0[i]]⟩ := by
                rw [extract_list, sl_cons hlt]; simp
              have hexs : (a0.extract i (i + 1)).size = 1 := by rw [hex]; rfl
              have Hsn := Lib.hid hsn; have Hex := Lib.hid hex; have Hb := Lib.hid hb
              have l0 : (0 : Int) ≤ (i : Int) := by omega
              have l1 : (i : Int) < (a0.size : Int) := by omega
              have l2 : (i : Int) + 1 ≤ (a0.size : Int) := by omega
              clear hsn hex hb
              by_cases h40 : a0[i] = 40
              · have d1 : ((a0[i].toNat : Int) == 40) = true := by rw [h40]; rfl
                have hx : ((⟨#[32, 10]⟩ ++ a0.extract i (i + 1) ++ ⟨#[10]⟩ : ByteArray)).data.toList = wideL [a0[i]] := by rw [Hex.out, h40]; rfl
                have Hx := Lib.hid hx
                clear h40 hx
                go_wp2_with fail
                exact ⟨⟨i + 1, _, by omega, by go_num, rfl, wide_step Hb.out Hsn.out Hx.out, wide_size hbs Hx.out⟩, by simp [intOf]; omega⟩
              · have d1 : ((a0[i].toNat : Int) == 40) = false := byte_ne (by rfl) h40
                by_cases h41 : a0[i] = 41
                · have d2 : ((a0[i].toNat : Int) == 41) = true := by rw [h41]; rfl
                  have hx : ((⟨#[32, 10]⟩ ++ a0.extract i (i + 1) ++ ⟨#[10]⟩ : ByteArray)).data.toList = wideL [a0[i]] := by rw [Hex.out, h41]; rfl
                  have Hx := Lib.hid hx
                  clear h40 h41 hx
                  go_wp2_with fail
                  exact ⟨⟨i + 1, _, by omega, by go_num, rfl, wide_step Hb.out Hsn.out Hx.out, wide_size hbs Hx.out⟩, by simp [intOf]; omega⟩
                · have d2 : ((a0[i].toNat : Int) == 41) = false := byte_ne (by rfl) h41
                  by_cases h32 : a0[i] = 32
                  · have d3 : ((a0[i].toNat : Int) == 32) = true := by rw [h32]; rfl
                    have hx : (⟨#[10, 32, 32]⟩ : ByteArray).data.toList = wideL [a0[i]] := by rw [h32]; rfl
                    have Hx := Lib.hid hx
                    clear h40 h41 h32 hx
                    go_wp2_with fail
                    exact ⟨⟨i + 1, _, by omega, by go_num, rfl, wide_step Hb.out Hsn.out Hx.out, wide_size hbs Hx.out⟩, by simp [intOf]; omega⟩
                  · have d3 : ((a0[i].toNat : Int) == 32) = false := byte_ne (by rfl) h32
                    have hx : (a0.extract i (i + 1)).data.toList = wideL [a0[i]] := by rw [Hex.out]; simp [wideL, h40, h41, h32]
                    have Hx := Lib.hid hx
                    clear h40 h41 h32 hx
                    go_wp2_with fail
                    exact ⟨⟨i + 1, _, by omega, by go_num, rfl, wide_step Hb.out Hsn.out Hx.out, wide_size hbs Hx.out⟩, by simp [intOf]; omega⟩
            · have hin : i = a0.size := by omega
              have hlist : ((⟨#[10, 32]⟩ ++ b ++ ⟨#[32]⟩ : ByteArray)).data.toList = [10, 32] ++ (wideL a0.data.toList ++ [32]) := by
                rw [ba_list, ba_list, hb, hin, ← size_list, List.take_length, List.append_assoc]
              have d4 : decide ((i : Int) < (a0.size : Int)) = false := by simp; omega
              have d5 : decide (i < a0.size) = false := by simp; omega
              have PW2 := Lib.hid (fun W' => PW.out Hn1.out _ W' hlist)
              clear hlist hb hin
              go_wp2_with (first
                | (go_at_call 20; (with_reducible refine Calls.mono (PW2.out _) ?_); rintro e w7 ⟨oa7, ca7, ⟨rfl, hk7⟩, hb⟩; have hp := ((hp.trans hb).alloc' (.cells #[.string l0, .slice oa7 k0.length ca7] 24)).alloc' (.cells #[.int .i64 0, .int .i64 0] 33); have x0 := s0 _ hp; have x1 := s1 _ hp; have hk7 := (hk7.pr (Pr.alloc _ (.cells #[.string l0, .slice oa7 k0.length ca7] 24))).pr (Pr.alloc _ (.cells #[.int .i64 0, .int .i64 0] 33)))
                | (go_at_call 22; (with_reducible refine Calls.mono (S0.out _ _ _ hp hk7) ?_); rintro e w8 ⟨rfl, hb⟩; have hp := hp.trans hb))
              go_ret
              exact ⟨rfl, HW.out.trans hp⟩
        case pos =>
          have f0 : ((n2 : Int) == 0) = true := by simp [hz2]
          rcases Hsame.out hz1 hz2 with ⟨q1, q2⟩ | ⟨q1, q3, q2⟩
          · subst q2
            clear hz2
            go_upto_region 9 with (go_at_call 22; (with_reducible refine Calls.mono (S12.out _ hp) ?_); rintro e w6 ⟨rfl, hb⟩; have hp := hp.trans hb)
            have Hn1 := Lib.hid hz1
            have e1 : ((n1 : Int) != 0) = false := by simp [hz1]
            clear hz1
            go_wp2_with fail
            go_loop [9, 10] (fun v x => ∃ (i : Nat) (b : ByteArray), i ≤ a0.size ∧ x = .int .i64 i ∧ v = .string b ∧ b.data.toList = wideL (a0.data.toList.take i) ∧ b.size ≤ 4 * i) (fun _ x => a0.size - (intOf x).toNat)
            case atStart => exact ⟨0, ⟨#[]⟩, by omega, rfl, rfl, by simp [wideL], by simp [ByteArray.size]⟩
            case round =>
              obtain ⟨i, b, hi, rfl, rfl, hb, hbs⟩ := hrel
              by_cases hlt : i < a0.size
              · have hsn : a0.data.toList.take (i + 1) = a0.data.toList.take i ++ [a0[i]] := by
                  rw [List.take_succ_eq_append_getElem (by rw [size_list]; exact hlt)]; rfl
                have hex : a0.extract i (i + 1) = ⟨#[a0[i]]⟩ := by
                  rw [extract_list, sl_cons hlt]; simp
                have hexs : (a0.extract i (i + 1)).size = 1 := by rw [hex]; rfl
                have Hsn := Lib.hid hsn; have Hex := Lib.hid hex; have Hb := Lib.hid hb
                have l0 : (0 : Int) ≤ (i : Int) := by omega
                have l1 : (i : Int) < (a0.size : Int) := by omega
                have l2 : (i : Int) + 1 ≤ (a0.size : Int) := by omega
                clear hsn hex hb
                by_cases h40 : a0[i] = 40
                · have d1 : ((a0[i].toNat : Int) == 40) = true := by rw [h40]; rfl
                  have hx : ((⟨#[32, 10]⟩ ++ a0.extract i (i + 1) ++ ⟨#[10]⟩ : ByteArray)).data.toList = wideL [a0[i]] := by rw [Hex.out, h40]; rfl
                  have Hx := Lib.hid hx
                  clear h40 hx
                  go_wp2_with fail
                  exact ⟨⟨i + 1, _, by omega, by go_num, rfl, wide_step Hb.out Hsn.out Hx.out, wide_size hbs Hx.out⟩, by simp [intOf]; omega⟩
                · have d1 : ((a0[i].toNat : Int) == 40) = false := byte_ne (by rfl) h40
                  by_cases h41 : a0[i] = 41
                  · have d2 : ((a0[i].toNat : Int) == 41) = true := by rw [h41]; rfl
                    have hx : ((⟨#[32, 10]⟩ ++ a0.extract i (i + 1) ++ ⟨#[10]⟩ : ByteArray)).data.toList = wideL [a0[i]] := by rw [Hex.out, h41]; rfl
                    have Hx := Lib.hid hx
                    clear h40 h41 hx
                    go_wp2_with fail
                    exact ⟨⟨i + 1, _, by omega, by go_num, rfl, wide_step Hb.out Hsn.out Hx.out, wide_size hbs Hx.out⟩, by simp [intOf]; omega⟩
                  · have d2 : ((a0[i].toNat : Int) == 41) = false := byte_ne (by rfl) h41
                    by_cases h32 : a0[i] = 32
                    · have d3 : ((a0[i].toNat : Int) == 32) = true := by rw [h32]; rfl
                      have hx : (⟨#[10, 32, 32]⟩ : ByteArray).data.toList = wideL [a0[i]] := by rw [h32]; rfl
                      have Hx := Lib.hid hx
                      clear h40 h41 h32 hx
                      go_wp2_with fail
                      exact ⟨⟨i + 1, _, by omega, by go_num, rfl, wide_step Hb.out Hsn.out Hx.out, wide_size hbs Hx.out⟩, by simp [intOf]; omega⟩
                    · have d3 : ((a0[i].toNat : Int) == 32) = false := byte_ne (by rfl) h32
                      have hx : (a0.extract i (i + 1)).data.toList = wideL [a0[i]] := by rw [Hex.out]; simp [wideL, h40, h41, h32]
                      have Hx := Lib.hid hx
                      clear h40 h41 h32 hx
                      go_wp2_with fail
                      exact ⟨⟨i + 1, _, by omega, by go_num, rfl, wide_step Hb.out Hsn.out Hx.out, wide_size hbs Hx.out⟩, by simp [intOf]; omega⟩
              · have hin : i = a0.size := by omega
                have hlist : ((⟨#[10, 32]⟩ ++ b ++ ⟨#[32]⟩ : ByteArray)).data.toList = [10, 32] ++ (wideL a0.data.toList ++ [32]) := by
                  rw [ba_list, ba_list, hb, hin, ← size_list, List.take_length, List.append_assoc]
                have d4 : decide ((i : Int) < (a0.size : Int)) = false := by simp; omega
                have d5 : decide (i < a0.size) = false := by simp; omega
                have PW2 := Lib.hid (fun W' => PW.out Hn1.out _ W' hlist)
                clear hlist hb hin
                go_wp2_with (first
                  | (go_at_call 20; (with_reducible refine Calls.mono (PW2.out _) ?_); rintro e w7 ⟨oa7, ca7, ⟨rfl, hk7⟩, hb⟩; have hp := ((hp.trans hb).alloc' (.cells #[.string l0, .slice oa7 k0.length ca7] 24)).alloc' (.cells #[.int .i64 0, .int .i64 0] 33); have x0 := s0 _ hp; have x1 := s1 _ hp; have hk7 := (hk7.pr (Pr.alloc _ (.cells #[.string l0, .slice oa7 k0.length ca7] 24))).pr (Pr.alloc _ (.cells #[.int .i64 0, .int .i64 0] 33)))
                  | (go_at_call 22; (with_reducible refine Calls.mono (S0.out _ _ _ hp hk7) ?_); rintro e w8 ⟨rfl, hb⟩; have hp := hp.trans hb))
                go_ret
                exact ⟨rfl, HW.out.trans hp⟩
          · subst q2
            clear hz2
            go_upto_region 9 with (go_at_call 22; (with_reducible refine Calls.mono (S12.out _ hp) ?_); rintro e w6 ⟨rfl, hb⟩; have hp := hp.trans hb)
            have Hn1 := Lib.hid hz1
            have e1 : ((n1 : Int) != 0) = false := by simp [hz1]
            clear hz1
            go_wp2_with fail
            go_loop [9, 10] (fun v x => ∃ (i : Nat) (b : ByteArray), i ≤ a0.size ∧ x = .int .i64 i ∧ v = .string b ∧ b.data.toList = wideL (a0.data.toList.take i) ∧ b.size ≤ 4 * i) (fun _ x => a0.size - (intOf x).toNat)
            case atStart => exact ⟨0, ⟨#[]⟩, by omega, rfl, rfl, by simp [wideL], by simp [ByteArray.size]⟩
            case round =>
              obtain ⟨i, b, hi, rfl, rfl, hb, hbs⟩ := hrel
              by_cases hlt : i < a0.size
              · have hsn : a0.data.toList.take (i + 1) = a0.data.toList.take i ++ [a0[i]] := by
                  rw [List.take_succ_eq_append_getElem (by rw [size_list]; exact hlt)]; rfl
                have hex : a0.extract i (i + 1) = ⟨#[a0[i]]⟩ := by
                  rw [extract_list, sl_cons hlt]; simp
                have hexs : (a0.extract i (i + 1)).size = 1 := by rw [hex]; rfl
                have Hsn := Lib.hid hsn; have Hex := Lib.hid hex; have Hb := Lib.hid hb
                have l0 : (0 : Int) ≤ (i : Int) := by omega
                have l1 : (i : Int) < (a0.size : Int) := by omega
                have l2 : (i : Int) + 1 ≤ (a0.size : Int) := by omega
                clear hsn hex hb
                by_cases h40 : a0[i] = 40
                · have d1 : ((a0[i].toNat : Int) == 40) = true := by rw [h40]; rfl
                  have hx : ((⟨#[32, 10]⟩ ++ a0.extract i (i + 1) ++ ⟨#[10]⟩ : ByteArray)).data.toList = wideL [a0[i]] := by rw [Hex.out, h40]; rfl
                  have Hx := Lib.hid hx
                  clear h40 hx
                  go_wp2_with fail
                  exact ⟨⟨i + 1, _, by omega, by go_num, rfl, wide_step Hb.out Hsn.out Hx.out, wide_size hbs Hx.out⟩, by simp [intOf]; omega⟩
                · have d1 : ((a0[i].toNat : Int) == 40) = false := byte_ne (by rfl) h40
                  by_cases h41 : a0[i] = 41
                  · have d2 : ((a0[i].toNat : Int) == 41) = true := by rw [h41]; rfl
                    have hx : ((⟨#[32, 10]⟩ ++ a0.extract i (i + 1) ++ ⟨#[10]⟩ : ByteArray)).data.toList = wideL [a0[i]] := by rw [Hex.out, h41]; rfl
                    have Hx := Lib.hid hx
                    clear h40 h41 hx
                    go_wp2_with fail
                    exact ⟨⟨i + 1, _, by omega, by go_num, rfl, wide_step Hb.out Hsn.out Hx.out, wide_size hbs Hx.out⟩, by simp [intOf]; omega⟩
                  · have d2 : ((a0[i].toNat : Int) == 41) = false := byte_ne (by rfl) h41
                    by_cases h32 : a0[i] = 32
                    · have d3 : ((a0[i].toNat : Int) == 32) = true := by rw [h32]; rfl
                      have hx : (⟨#[10, 32, 32]⟩ : ByteArray).data.toList = wideL [a0[i]] := by rw [h32]; rfl
                      have Hx := Lib.hid hx
                      clear h40 h41 h32 hx
                      go_wp2_with fail
                      exact ⟨⟨i + 1, _, by omega, by go_num, rfl, wide_step Hb.out Hsn.out Hx.out, wide_size hbs Hx.out⟩, by simp [intOf]; omega⟩
                    · have d3 : ((a0[i].toNat : Int) == 32) = false := byte_ne (by rfl) h32
                      have hx : (a0.extract i (i + 1)).data.toList = wideL [a0[i]] := by rw [Hex.out]; simp [wideL, h40, h41, h32]
                      have Hx := Lib.hid hx
                      clear h40 h41 h32 hx
                      go_wp2_with fail
                      exact ⟨⟨i + 1, _, by omega, by go_num, rfl, wide_step Hb.out Hsn.out Hx.out, wide_size hbs Hx.out⟩, by simp [intOf]; omega⟩
              · have hin : i = a0.size := by omega
                have hlist : ((⟨#[10, 32]⟩ ++ b ++ ⟨#[32]⟩ : ByteArray)).data.toList = [10, 32] ++ (wideL a0.data.toList ++ [32]) := by
                  rw [ba_list, ba_list, hb, hin, ← size_list, List.take_length, List.append_assoc]
                have d4 : decide ((i : Int) < (a0.size : Int)) = false := by simp; omega
                have d5 : decide (i < a0.size) = false := by simp; omega
                have PW2 := Lib.hid (fun W' => PW.out Hn1.out _ W' hlist)
                clear hlist hb hin
                go_wp2_with (first
                  | (go_at_call 20; (with_reducible refine Calls.mono (PW2.out _) ?_); rintro e w7 ⟨oa7, ca7, ⟨rfl, hk7⟩, hb⟩; have hp := ((hp.trans hb).alloc' (.cells #[.string l0, .slice oa7 k0.length ca7] 24)).alloc' (.cells #[.int .i64 0, .int .i64 0] 33); have x0 := s0 _ hp; have x1 := s1 _ hp; have hk7 := (hk7.pr (Pr.alloc _ (.cells #[.string l0, .slice oa7 k0.length ca7] 24))).pr (Pr.alloc _ (.cells #[.int .i64 0, .int .i64 0] 33)))
                  | (go_at_call 22; (with_reducible refine Calls.mono (S0.out _ _ _ hp hk7) ?_); rintro e w8 ⟨rfl, hb⟩; have hp := hp.trans hb))
                go_ret
                exact ⟨rfl, HW.out.trans hp⟩
end Go.Proofs.Ytdbnfhpgmcjngab
