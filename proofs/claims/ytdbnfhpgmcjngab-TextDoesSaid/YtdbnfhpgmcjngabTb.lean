/- Walks: the parser of texts: a tree. -/
import Derived.Test.YtdbnfhpgmcjngabTa
import Derived.Test.YtdbnfhpgmcjngabWe
import Derived.Deep.RegionWith
namespace Go.Proofs.Ytdbnfhpgmcjngab
open Go Go.RowKit

/-- A tree was read, or it gave up. -/
def PTPost (M : Nat) (s : ByteArray) (x : Rd (Tr × List UInt8)) (w : World) (e : Ending) (w' : World) : Prop :=
  match x with
  | .error q => PFail M s q.1 q.2 w e w'
  | .ok y => ∃ l ks oa cap k, y.1 = .node l ks ∧ l.size ≤ maxLen ∧ Tr.szL ks + 1 + y.2.length ≤ 1000000 ∧ e = .returned (.agg #[.string l, .slice oa ks.length cap]) ∧ Kids (From w.heap.size) w' ks oa cap ∧ sl s k = y.2 ∧ PRs w' M s k ∧ Chg (fun j => j = M) w w'
theorem PTPost.err {M : Nat} {s : ByteArray} {q : Nat × List UInt8} {w : World} {e : Ending} {w' : World} (h : PFail M s q.1 q.2 w e w') {x : Rd (Tr × List UInt8)} (hx : x = .error q) : PTPost M s x w e w' := by rw [hx]; exact h
theorem PFail.after {M : Nat} {s : ByteArray} {c : Nat} {r : List UInt8} {w w1 w' : World} {e : Ending} (h : PFail M s c r w1 e w') (hc : Chg (fun j => j = M) w w1) : PFail M s c r w e w' := ⟨h.1, hc.trans h.2 (fun _ h => .inl h)⟩
theorem labOf_size (s : ByteArray) (k : Nat) : (labOf (sl s k)).size ≤ s.size := by
  unfold labOf
  have h1 : ((skip (sl s k)).takeWhile okC).length ≤ (sl s k).length := by
    have h2 := takeDrop_length okC (skip (sl s k)); have h3 := skip_length (sl s k); omega
  have h4 := sl_length s k
  show ((skip (sl s k)).takeWhile okC).length ≤ s.size
  omega
/-- A tree that was read is no longer than what was read. -/
theorem read_size : ∀ (N : Nat) (s : List UInt8) (d : Nat), (∀ x, readT N s d = .ok x → x.1.sz + x.2.length ≤ s.length) ∧ (∀ x, readK N s d = .ok x → Tr.szL x.1 + x.2.length ≤ s.length)
  | 0, s, d => ⟨fun x h => (by simp [readT] at h), fun x h => (by simp [readK] at h)⟩
  | N + 1, s, d => by
    constructor
    · intro x h
      rw [readT] at h
      split at h
      · cases h
      · split at h
        · cases h
        · rename_i hb
          have hl := behind_length hb
          split at h
          · split at h
            · cases h
            · rename_i y hy
              have := (read_size N (behind s).tail d).2 y hy
              rw [List.length_tail] at this
              cases h
              simp only [Tr.sz_node]; omega
          · cases h; simp only [Tr.sz_node, Tr.szL_nil]; omega
    · intro x h
      rw [readK] at h
      split at h
      · cases h
      · rename_i y hy
        have h1 := (read_size N s (d + 1)).1 y hy
        have h2 := skip_length y.2
        split at h
        · cases h; simp only [Tr.szL_cons, Tr.szL_nil, List.length_tail]; omega
        · split at h
          · cases h
          · rename_i z hz
            have h3 := (read_size N (skip y.2) d).2 z hz
            cases h; simp only [Tr.szL_cons]; omega
theorem parseT_size {s : List UInt8} {d : Nat} {x : Tr × List UInt8} (h : parseT s d = .ok x) : x.1.sz + x.2.length ≤ s.length := (read_size _ s d).1 x h
set_option maxRecDepth 100000 in
set_option maxHeartbeats 6400000 in
theorem ptree_step (N : Nat) : ∀ (w : World) (M : Nat) (s : ByteArray) (k d : Nat), (sl s k).length < N → d ≤ 11 → PRs w M s k →
    Calls Try.prog 50 #[.pointer (some ⟨M, 0, none⟩), .int .i64 (d : Int)] w (PTPost M s (parseT (sl s k) d) w) := by
  induction N with
  | zero => intro w M s k d hN; omega
  | succ N ih =>
    intro w M s k d hN hd hP
    have Ih := Lib.hid ih
    clear ih
    have hfew := hP.few
    have hMw : M < w.heap.size := blk_lt hP.blk
    obtain ⟨X, hX⟩ : ∃ X, X = parseT (sl s k) d := ⟨_, rfl⟩
    have heq := parseT_eq (sl s k) d
    rw [← hX] at heq ⊢
    clear hX
    have hpr0 : Pr w (w.alloc (.cells #[.string ⟨#[]⟩, .slice none 0 0] 24)) := Pr.alloc _ _
    by_cases hdeep : 10 < d
    · rw [if_pos hdeep] at heq
      have F := Lib.hid (pfail_any _ M s k 3 (hP.pr hpr0))
      have H := Lib.hid heq
      have hd1 : (10 : Int) < d := by omega
      clear heq hP
      go_enter Try.func50, Try.ntmps50
      go_wp2_with (go_at_call 52; (with_reducible refine Calls.mono F.out ?_); rintro e w2 hF; have he := hF.1; subst he)
      refine ⟨by trivial, PTPost.err (q := (3, sl s k)) (hF.after (hpr0.chg _)) H.out⟩
    · rw [if_neg hdeep] at heq
      have hd1 : decide ((10 : Int) < d) = false := by simp; omega
      have L := plabel_any _ M s k (hP.pr hpr0)
      by_cases ht : (skip (sl s k)).takeWhile okC = []
      · rw [if_pos ht] at heq
        have L2 := L.mono (R' := PFail M s (if skip (sl s k) = [] then 5 else 4) (skip (sl s k)) (w.alloc (.cells #[.string ⟨#[]⟩, .slice none 0 0] 24))) (fun e w' h => by
          rcases h with ⟨_, h⟩ | ⟨h, _⟩
          · exact h
          · exact absurd ht h)
        obtain ⟨c5, hc5⟩ : ∃ c, c = if skip (sl s k) = [] then 5 else 4 := ⟨_, rfl⟩
        obtain ⟨q5, hq5⟩ : ∃ q, q = skip (sl s k) := ⟨_, rfl⟩
        rw [← hc5, ← hq5] at L2 heq
        have F := Lib.hid L2
        have H := Lib.hid heq
        clear heq hP L L2 ht hc5 hq5
        go_enter Try.func50, Try.ntmps50
        go_wp2_with (go_at_call 77; (with_reducible refine Calls.mono F.out ?_); rintro e w2 hF; have he := hF.1; subst he)
        refine ⟨by trivial, PTPost.err (q := (c5, q5)) (hF.after (hpr0.chg _)) H.out⟩
      rw [if_neg ht] at heq
      obtain ⟨l, hl⟩ : ∃ l, l = labOf (sl s k) := ⟨_, rfl⟩
      have hlsz : l.size ≤ s.size := by rw [hl]; exact labOf_size s k
      rw [← hl] at heq
      have L2 := L.mono (R' := fun e w' => e = .returned (.string l) ∧ ∃ k', sl s k' = (skip (sl s k)).dropWhile okC ∧ PRs w' M s k' ∧ Chg (fun j => j = M) (w.alloc (.cells #[.string ⟨#[]⟩, .slice none 0 0] 24)) w') (fun e w' h => by
          rcases h with ⟨h, _⟩ | ⟨_, h⟩
          · exact absurd h ht
          · rw [hl]; exact h)
      have hbl := behind_length ht
      have F := Lib.hid L2
      have Heq := Lib.hid heq; have HP := Lib.hid hP
      have Hbl := Lib.hid hbl
      clear heq hP L L2 ht hl hbl
      go_enter Try.func50, Try.ntmps50
      go_upto_region 4 with (go_at_call 77; (with_reducible refine Calls.mono F.out ?_); rintro e w1 ⟨rfl, k1, hk1, hP1, hc1⟩)
      have hs1 := hc1.size
      simp at hs1
      obtain ⟨V, hV⟩ : ∃ V, V = w1.alloc (.cells #[.string l, .slice none 0 0] 24) := ⟨_, rfl⟩
      have hwV : Pr w1 V := by rw [hV]; exact Pr.alloc _ _
      have hT : V.heap[w1.heap.size]? = some (.cells #[.string l, .slice none 0 0] 24 (0, 0)) := by rw [hV]; exact heap_alloc_new _ _
      have hR : V.heap[w.heap.size]? = some (.cells #[.string ⟨#[]⟩, .slice none 0 0] 24 (0, 0)) := hwV.blk (hc1.blk (heap_alloc_new w _) (by omega))
      have hVs : V.heap.size = w1.heap.size + 1 := by rw [hV]; simp
      have hcV : Chg (fun j => j = M) w V := ((hpr0.chg (fun j => j = M)).trans hc1 (fun _ h => .inl h)).pr hwV
      have hbe : skip (sl s k1) = behind (sl s k) := by rw [hk1]; rfl
      have I1 := pis_any V M s k1 40 40 rfl (hP1.pr hwV)
      rw [hbe] at I1
      rw [← hV]
      have I2 := Lib.hid I1
      have HT := Lib.hid hT; have HR := Lib.hid hR; have HcV := Lib.hid hcV
      clear hV hwV hT hR hcV hbe I1 hk1 hP1 hc1 hpr0
      by_cases h40 : (behind (sl s k)).head? = some 40
      case neg =>
        have he := Heq.out
        rw [if_neg h40] at he
        have H := Lib.hid he
        clear he
        go_upto_region 5 with (go_at_call 78; (with_reducible refine Calls.mono I2.out ?_); rintro e w2 ⟨b, rfl, hb, k2, hk2, hP2, hc2⟩; obtain rfl : b = false := (by cases b with | false => rfl | true => exact absurd (hb.1 rfl) h40))
        have hT2 := hc2.blk HT.out (by omega)
        have hR2 := hc2.blk HR.out (by omega)
        have t0 : w2.cell? ⟨w1.heap.size, 0, none⟩ = some (.string l) := blk_cell hT2
        have t1 : w2.cell? ⟨w1.heap.size, 1, none⟩ = some (.slice none 0 0) := blk_cell hT2
        have r0 : w2.cell? ⟨w.heap.size, 0, none⟩ = some (.string ⟨#[]⟩) := blk_cell hR2
        have r1 : w2.cell? ⟨w.heap.size, 1, none⟩ = some (.slice none 0 0) := blk_cell hR2
        have f0 : w2.frozen? ⟨w.heap.size, 0, none⟩ = false := blk_frozen hR2
        have f1 : w2.frozen? ⟨w.heap.size, 1, none⟩ = false := blk_frozen hR2
        have hcw : Chg (fun j => j = M) w ((w2.setCell ⟨w.heap.size, 0, none⟩ (.string l)).setCell ⟨w.heap.size, 1, none⟩ (.slice none 0 0)) := ((HcV.out.trans hc2 (fun _ h => .inl h)).setCell _ _ (.inr (Nat.le_refl _))).setCell _ _ (.inr (Nat.le_refl _))
        have hPw : PRs ((w2.setCell ⟨w.heap.size, 0, none⟩ (.string l)).setCell ⟨w.heap.size, 1, none⟩ (.slice none 0 0)) M s k2 := (hP2.chg ((Chg.refl (fun j => j = w.heap.size) w2).setCell _ _ (.inl rfl)) (by omega)).chg ((Chg.refl (fun j => j = w.heap.size) _).setCell _ _ (.inl rfl)) (by omega)
        simp only [Bool.false_eq_true, if_false] at hk2
        have HK := Lib.hid hk2; have HPW := Lib.hid hPw; have HCW := Lib.hid hcw
        clear hb hk2 hP2 hc2 hT2 hR2 hPw hcw
        go_wp2_with fail
        refine bodyPost_ret (v := .agg #[.string l, .slice none 0 0]) (by simp [results, Try.results50, go_sem, r0, r1]) rfl ?_
        rw [H.out]
        have hsl := sl_length s k
        exact ⟨l, [], none, 0, k2, rfl, by unfold maxLen; omega, by have := Hbl.out; simp only [Tr.szL_nil]; omega, rfl, Kids.nil _ _ _ _ (Nat.zero_le _), HK.out, HPW.out, HCW.out⟩
      case pos =>
        have he := Heq.out
        rw [if_pos h40] at he
        obtain ⟨r1, hr1⟩ : ∃ r, r = (behind (sl s k)).tail := ⟨_, rfl⟩
        rw [← hr1] at he
        have hr1l : r1.length + 2 ≤ (sl s k).length := by
          have := Hbl.out
          cases hbb : behind (sl s k) with
          | nil => rw [hbb] at h40; cases h40
          | cons c cs => rw [hbb, List.length_cons] at this; rw [hbb, List.tail_cons] at hr1; rw [hr1]; omega
        have H := Lib.hid he
        have Hr1 := Lib.hid hr1
        clear he hr1
        go_wp2_with (go_at_call 78; (with_reducible refine Calls.mono I2.out ?_); rintro e w2 ⟨b, rfl, hb, k2, hk2, hP2, hc2⟩; obtain rfl : b = true := hb.2 h40)
        simp only [if_true] at hk2
        rw [← Hr1.out] at hk2
        have HT2 := Lib.hid (hc2.blk HT.out (by omega))
        have HR2 := Lib.hid (hc2.blk HR.out (by omega))
        have Hc2 := Lib.hid (HcV.out.trans hc2 (fun _ h => .inl h))
        have hs2 := hc2.size
        have Hstart := Lib.hid (And.intro hk2 hP2)
        clear hb hk2 hP2 hc2 HT HR
        go_loopw [17] (fun _ wr => ∃ (acc : List Tr) (v : Value) (k3 : Nat), PRs wr M s k3 ∧ (parseK r1 d = match parseK (sl s k3) d with | .error e => .error e | .ok y => .ok (acc ++ y.1, y.2)) ∧ OwnsTs w2.heap.size wr v acc ∧
          wr.heap[w1.heap.size]? = some (.cells #[.string l, v] 24 (0, 0)) ∧ Chg (fun j => j = M ∨ j = w1.heap.size) w2 wr ∧ ((sl s k3).length + Tr.szL acc ≤ r1.length ∧ acc.length ≤ Tr.szL acc)) (fun _ wr => s.size - placeOf wr M)
        case atStart => exact ⟨[], .slice none 0 0, k2, Hstart.out.2, by rw [Hstart.out.1]; simp only [List.nil_append]; cases parseK r1 d <;> rfl, OwnsTs.nil _ _, HT2.out, Chg.refl _ _, by rw [Hstart.out.1]; simp⟩
        case round =>
          obtain ⟨acc, v, k3, hP3, hrel, hown, hblk, hc3, hlen⟩ := hrel
          have g1 : wr.cell? ⟨w1.heap.size, 1, none⟩ = some v := blk_cell hblk
          have g3 := blk_lt hblk
          have hpk := parseK_eq (sl s k3) d
          have u1 : IntKind.i64.wrap ((d : Int) + 1) = (d : Int) + 1 := IntWalk.i64_in _ (by omega)
          have u2 : ((d + 1 : Nat) : Int) = (d : Int) + 1 := by omega
          have hMT : M < w1.heap.size := by omega
          have C := fun W' (h : Pr wr W') => Ih.out W' M s k3 (d + 1) (by omega) (by omega) (hP3.pr h)
          rw [u2] at C
          have hsz3 := fun (y : Tr × List UInt8) (h : parseT (sl s k3) (d + 1) = .ok y) => parseT_size h
          have hpl3 := hP3.place
          have hsl3 := sl_length s k3
          have hle3 := hP3.le
          generalize parseT (sl s k3) (d + 1) = Y at *
          have HXY : Hid (∀ q, Y = .error q → X = .error q) := Lib.hid fun q e => by rw [H.out, hrel, hpk, e]
          have HXK : Hid (∀ y, Y = .ok y → ((skip y.2).head? = some 41 → X = .ok (.node l (acc ++ [y.1]), (skip y.2).tail)) ∧
              (¬ (skip y.2).head? = some 41 → parseK r1 d = match parseK (skip y.2) d with | .error e => .error e | .ok z => .ok ((acc ++ [y.1]) ++ z.1, z.2))) := Lib.hid fun y e => by
            rw [e] at hpk
            simp only [] at hpk
            constructor
            · intro h; rw [if_pos h] at hpk; rw [H.out, hrel, hpk]
            · intro h
              rw [if_neg h] at hpk
              rw [hrel, hpk]
              cases parseK (skip y.2) d with
              | error e => rfl
              | ok z => simp
          have Hc5 : Hid (∀ W', Pr wr W' → Chg (fun j => j = M) w W') := Lib.hid fun W' (h : Pr wr W') => ((Hc2.out.trans (Y := fun j => j = M ∨ j = w1.heap.size) hc3 (fun j hj => hj.imp id (fun e => by omega))).pr h)
          have C1 : Hid (∀ W', Pr wr W' → Calls Try.prog 50 #[.pointer (some ⟨M, 0, none⟩), .int .i64 ((d : Int) + 1)] W' (PTPost M s Y W')) := Lib.hid C
          have Hsz3 := Lib.hid hsz3
          have hd0 := Pr.drew wr
          have Hbk := Lib.hid hblk
          have Hc3 := Lib.hid hc3
          have HPL := Lib.hid hpl3
          have hslk := sl_length s k
          have hacc : acc.length ≤ 1000000 := by omega
          have hs3 := hc3.size
          clear hpk hrel C hsz3 hblk hc3 hpl3 u2 hP3
          go_upto_region 6 with fail
          go_region_law (first
            | (go_simp; go_at_call 50; (with_reducible refine Calls.mono (C1.out _ hd0) ?_); rintro e w5 hF
               rcases Y with q | y
               · (have he := hF.1; subst he; exact ⟨rfl, PTPost.err (hF.after (Hc5.out _ hd0)) (HXY.out q rfl)⟩)
               obtain ⟨l', ks', oa', cap', k4, hy, hl', hsz', rfl, hk', hk4, hP4, hc4⟩ := hF
               have s1 : w5.cell? ⟨w1.heap.size, 1, none⟩ = some v := blk_cell (o := 1) (hc4.blk (hd0.blk Hbk.out) (by omega)); have s1' := fun o => (Pr.alloc w5 o).cell s1)
            | (refine step_tree rfl _ _ rfl w2.heap.size v acc rfl (((hown.pr hd0).kept (fun j hj hl => hc4.block j hl (by have hj' : w2.heap.size ≤ j := hj; omega))).pr (Pr.alloc _ _)) w5.heap.size rfl (.node l' ks') _ _ (heap_alloc_new w5 _) (treeV_mk cap' hl' ((hk'.pr (Pr.alloc _ _)).mono (apart_new (hown.pr hd0) (by simp; omega)))) (by omega) (by have := hc4.size; simp at this ⊢; omega) ?_; intro g cap3 w6 ho6 hg6 hat6
               have n1 : v.ownBlock ≠ some w1.heap.size := fun e => by have := (hown.block _ e).1; omega
               have B6 := Lib.hid (grown_blk hg6 ((Pr.alloc w5 _).blk (hc4.blk (hd0.blk Hbk.out) (by omega))) n1)
               have t1 : w6.cell? ⟨w1.heap.size, 1, none⟩ = some v := blk_cell (o := 1) B6.out; have t4 := blk_frozen (o := 1) B6.out))
          all_goals
            have hc4s := hc4.size
            have hg6s := hg6.size
            simp at hc4s hg6s
            obtain ⟨wz, hwz⟩ : ∃ wz, wz = w6.setCell ⟨w1.heap.size, 1, none⟩ (.slice (some ⟨g, 0, none⟩) (acc.length + 1) cap3) := ⟨_, rfl⟩
            have nM : v.ownBlock ≠ some M := fun e => by have := (hown.block _ e).1; omega
            have hPz : PRs wz M s k4 := by
              rw [hwz]
              exact ⟨by rw [Below.heap_setCell _ _ _ _ (by simp; omega)]; exact grown_blk hg6 ((Pr.alloc w5 _).blk hP4.blk) nM, hP4.le, hP4.few⟩
            have hownz : OwnsTs w2.heap.size wz (.slice (some ⟨g, 0, none⟩) (acc.length + 1) cap3) (acc ++ [.node l' ks']) := by rw [hwz]; exact ho6.setCell _ _ (by simp; omega)
            have hblkz : wz.heap[w1.heap.size]? = some (.cells #[.string l, .slice (some ⟨g, 0, none⟩) (acc.length + 1) cap3] 24 (0, 0)) := by rw [hwz]; exact blk_set B6.out _
            have hcz : Chg (fun j => j = M ∨ j = w1.heap.size) w2 wz := by
              rw [hwz]
              have h1 : Chg (fun j => j = M ∨ j = w1.heap.size) w2 (w5.alloc _) := ((Hc3.out.pr hd0).trans hc4 (fun _ h => .inl (.inl h))).pr (Pr.alloc w5 (.cells #[.string l', .slice oa' ks'.length cap'] 24))
              exact (h1.trans (chg_grown hg6) (fun j hj => .inr (hown.block j hj).1)).setCell _ _ (.inl (.inr rfl))
            have hsz5 := Hsz3.out y rfl
            have hyp := y.1.sz_pos
            rw [← hwz]
            have I3 := pis_any wz M s k4 41 41 rfl hPz
            rw [hk4] at I3
            have I4 := Lib.hid I3
            have Hown := Lib.hid hownz; have Hblk := Lib.hid hblkz; have Hcz := Lib.hid hcz; have Hy := Lib.hid hy; have Hk4 := Lib.hid hk4
            have hR7 := hcz.blk HR2.out (by omega)
            have HR7 := Lib.hid hR7
            have hwzs := hcz.size
            clear hwz hPz hownz hblkz hcz I3 hy hk4 ho6 hg6 hat6 B6 t1 t4 s1 s1' hk' hP4 hc4 n1 hR7 hown g1
            by_cases h41 : (skip y.2).head? = some 41
            · have hX := (HXK.out y rfl).1 h41
              have HX := Lib.hid hX
              clear hX
              go_wp2_with (go_at_call 78; (with_reducible refine Calls.mono I4.out ?_); rintro e w7 ⟨b, rfl, hb, k7, hk7, hP7, hc7⟩; obtain rfl : b = true := hb.2 h41
                           have hT7 := Lib.hid (hc7.blk Hblk.out (by omega)); have hR8 := Lib.hid (hc7.blk HR7.out (by omega)); simp only [if_true] at hk7; have HK7 := Lib.hid hk7; clear hb hk7
                           have t0 : w7.cell? ⟨w1.heap.size, 0, none⟩ = some (.string l) := blk_cell hT7.out; have t1 : w7.cell? ⟨w1.heap.size, 1, none⟩ = some (.slice (some ⟨g, 0, none⟩) (acc.length + 1) cap3) := blk_cell hT7.out
                           have r0 : w7.cell? ⟨w.heap.size, 0, none⟩ = some (.string ⟨#[]⟩) := blk_cell hR8.out; have r1 : w7.cell? ⟨w.heap.size, 1, none⟩ = some (.slice none 0 0) := blk_cell hR8.out
                           have f0 : w7.frozen? ⟨w.heap.size, 0, none⟩ = false := blk_frozen hR8.out; have f1 : w7.frozen? ⟨w.heap.size, 1, none⟩ = false := blk_frozen hR8.out)
              refine bodyPost_ret (v := .agg #[.string l, .slice (some ⟨g, 0, none⟩) (acc.length + 1) cap3]) (by simp [results, Try.results50, go_sem, r0, r1]) rfl ?_
              rw [HX.out]
              obtain ⟨oz, cz, hez, hkz⟩ := Hown.out.kids
              simp only [List.length_append, List.length_singleton, Value.slice.injEq] at hez
              obtain ⟨rfl, -, rfl⟩ := hez
              have hkz7 : Kids (From w2.heap.size) w7 (acc ++ [.node l' ks']) (some ⟨g, 0, none⟩) cap3 := hkz.carry fun j hj hl => ⟨hc7.block j hl (by have hj' : w2.heap.size ≤ j := hj; omega), hj⟩
              have hkw := ((hkz7.setCell ⟨w.heap.size, 0, none⟩ (.string l) (by show ¬ w2.heap.size ≤ _; simp; omega)).setCell ⟨w.heap.size, 1, none⟩ (.slice (some ⟨g, 0, none⟩) (acc.length + 1) cap3) (by show ¬ w2.heap.size ≤ _; simp; omega)).from (m := w.heap.size) (by omega)
              have hcw : Chg (fun j => j = M) w ((w7.setCell ⟨w.heap.size, 0, none⟩ (.string l)).setCell ⟨w.heap.size, 1, none⟩ (.slice (some ⟨g, 0, none⟩) (acc.length + 1) cap3)) :=
                ((((Hc2.out.trans (Y := fun j => j = M ∨ j = w1.heap.size) Hcz.out (fun j hj => hj.imp id (fun e => by omega)))).trans hc7 (fun _ h => .inl h)).setCell _ _ (.inr (Nat.le_refl _))).setCell _ _ (.inr (Nat.le_refl _))
              have hPw : PRs ((w7.setCell ⟨w.heap.size, 0, none⟩ (.string l)).setCell ⟨w.heap.size, 1, none⟩ (.slice (some ⟨g, 0, none⟩) (acc.length + 1) cap3)) M s k7 := (hP7.chg ((Chg.refl (fun j => j = w.heap.size) w7).setCell _ _ (.inl rfl)) (by omega)).chg ((Chg.refl (fun j => j = w.heap.size) _).setCell _ _ (.inl rfl)) (by omega)
              refine ⟨l, acc ++ [y.1], some ⟨g, 0, none⟩, cap3, k7, rfl, by unfold maxLen; omega, ?_, ?_, ?_, HK7.out, hPw, hcw⟩
              · have hl7 := skip_length y.2
                rw [Tr.szL_append, Tr.szL_cons, Tr.szL_nil, List.length_tail]; omega
              · simp
              · rw [Hy.out]; exact hkw
            · have hrel := (HXK.out y rfl).2 h41
              have HREL := Lib.hid hrel
              clear hrel
              go_wp2_with (go_at_call 78; (with_reducible refine Calls.mono I4.out ?_); rintro e w7 ⟨b, rfl, hb, k7, hk7, hP7, hc7⟩; obtain rfl : b = false := (by cases b with | false => rfl | true => exact absurd (hb.1 rfl) h41))
              simp only [Bool.false_eq_true, if_false] at hk7
              have hl7 := skip_length y.2
              refine ⟨⟨acc ++ [.node l' ks'], .slice (some ⟨g, 0, none⟩) (acc.length + 1) cap3, k7, hP7, ?_, ?_, hc7.blk Hblk.out (by omega), Hcz.out.trans hc7 (fun _ h => .inl (.inl h)), ?_⟩, ?_⟩
              · rw [hk7, HREL.out, Hy.out]
              · exact Hown.out.kept (fun j hj hl => hc7.block j hl (by have hj' : w2.heap.size ≤ j := hj; omega))
              · have h2 : (Tr.node l' ks').sz = y.1.sz := by rw [Hy.out]
                rw [hk7, Tr.szL_append, Tr.szL_cons, Tr.szL_nil, h2, List.length_append, List.length_singleton]; omega
              · rw [hP7.place, HPL.out]
                have h1 := sl_length s k7; rw [hk7] at h1
                have := hP7.le
                omega
theorem ptree_any (w : World) (M : Nat) (s : ByteArray) (k d : Nat) (hd : d ≤ 11) (h : PRs w M s k) :
    Calls Try.prog 50 #[.pointer (some ⟨M, 0, none⟩), .int .i64 (d : Int)] w (PTPost M s (parseT (sl s k) d) w) := ptree_step _ w M s k d (Nat.lt_succ_self _) hd h
end Go.Proofs.Ytdbnfhpgmcjngab
