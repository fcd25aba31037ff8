/- Walks: kids between two that all have, where no kid is merged. -/
import Derived.Test.YtdbnfhpgmcjngabGreatDoorBmf
import Derived.Test.YtdbnfhpgmcjngabGreatDoorBpl
namespace Go.Proofs.YtdbnfhpgmcjngabGreatDoor
open Go Go.RowKit
section
variable {M:Nat} {pv:Value} {p:List Int} {w:World} {o a b:List Tr} {oo oa ob:Option Addr} {co ca cb:Nat}
theorem ListPost.own {v:Value} {ts:List Tr} {e:Ending} {w':World} (he:e=.returned v) (ho:OwnsTs w.heap.size w' v ts) (hm:MOk w M pv p) (hp:Pr w w'):ListPost M pv p w (.ok ts) e w' :=
  ⟨v,pv,he,ho.away (fun k hk=>(hm.own.block k hk).2),hm.pr hp,⟨hp.chg _,fun _ h=>.inl h⟩⟩
set_option maxHeartbeats 1600000 in
theorem part_b (n:Int) (hm:MOk w M pv p) (hko:Kids Any w o oo co) (hka:Kids Any w a oa ca) (hkb:Kids Any w b ob cb) (hs:Tr.szL b≤1000) (h:(Tr.beqL a o || Tr.beqL a b)=true) :
    Calls Tryz.prog 172 #[.pointer (some ⟨M,0,none⟩),.slice oo o.length co,.slice oa a.length ca,.slice ob b.length cb,.int .i64 n] w (ListPost M pv p w (.ok b)):=by
  have S1:=Lib.hid (fun W' (h:Pr w W')=>sameList_any a o oa ca oo co W' (hka.pr h) (hko.pr h))
  have S2:=Lib.hid (fun W' (h:Pr w W')=>sameList_any a b oa ca ob cb W' (hka.pr h) (hkb.pr h))
  have hlen:=hkb.len
  have hlb:=Tr.length_le b
  have HM:=Lib.hid hm
  have HB:=Lib.hid hkb
  clear hm hko hka hkb
  generalize Tr.beqL a o=t1 at *
  generalize Tr.beqL a b=t2 at *
  have main:t1=true∨(t1=false∧t2=true):=by cases t1 <;> cases t2 <;> simp at h ⊢
  clear h
  have hp:=Pr.refl w
  go_enter Tryz.func172,Tryz.ntmps172
  rcases main with rfl | ⟨rfl,rfl⟩
  all_goals
    go_wp2_with (first
      | (go_at_call 176;(with_reducible refine Calls.mono (S1.out _ hp) ?_);rintro e w1 ⟨rfl,hb1⟩;have hp:=hp.trans hb1)
      | (go_at_call 176;(with_reducible refine Calls.mono (S2.out _ hp) ?_);rintro e w2 ⟨rfl,hb2⟩;have hp:=hp.trans hb2))
    have Hp:=Lib.hid hp
    go_loopw [11,28] (fun v i wr=>∃ k:Nat,k≤b.length∧i=.int .i64 k∧OwnsTs w.heap.size wr v (b.take k)∧Pr w wr) (fun _ i _=>b.length - (intOf i).toNat)
    case atStart=>exact ⟨0,by omega,rfl,by simpa using OwnsTs.nil _ _,Hp.out⟩
    case round =>
      obtain ⟨k,hkl,rfl,hown,hb⟩:=hrel
      by_cases hlt:k < b.length
      · obtain ⟨b5,o5,l',ks',oa',cap',e1,hl',rfl,c0,c1,hk'⟩:=(HB.out.pr hb).get k hlt
        have hsz:=Tr.szL_get b k hlt
        have hsn:=List.take_succ_eq_append_getElem hlt
        rw [e1] at hsz hsn
        have Hsn:=Lib.hid hsn
        clear e1 hsn
        simp only [Tr.sz] at hsz
        have htl:(b.take k).length≤1000:=by rw [List.length_take];omega
        have z1:(k:Int) < b.length:=by omega
        have z2:(0:Int)≤k:=by omega
        go_wp2_with (first
          | (go_at_call 83;refine (own_any _ _ _ _ _ (by omega) (hk'.pr (Pr.alloc _ _))).mono ?_;rintro e w3 ⟨oa2,cap2,rfl,hk2,hb3⟩)
          | (at_builtin;go_must (refine app_tree rfl _ _ rfl w.heap.size _ _ rfl (((hown.pr (Pr.alloc _ _)).pr hb3).pr (Pr.alloc _ _)) w3.heap.size rfl (.node l' ks') _ _ (heap_alloc_new w3 _) (treeV_mk cap2 hl' ((hk2.pr (Pr.alloc _ _)).mono (apart_new (hown.pr (Pr.alloc _ _)) (by have:=hb.size;simp;omega)))) (by omega) (by have:=hb.size;have:=hb3.size;simp at this ⊢;omega) ?_);intro g cap3 w4 ho4 hg4 hat4))
        refine ⟨⟨k+1,by omega,by go_num,?_,?_⟩,?_⟩
        · have hl2:(b.take k).length=k:=by simp;omega
          rw [hl2] at ho4;rw [Hsn.out];exact ho4
        · exact Pr.grown (((hb.alloc' _).trans hb3).alloc' _) (((hown.pr (Pr.alloc _ _)).pr hb3).pr (Pr.alloc _ _)) hg4
        · simp [intOf];omega
      · have hkv:k=b.length:=by omega
        go_wp2_with fail
        go_ret
        subst hkv
        rw [List.take_length] at hown
        exact ListPost.own rfl hown HM.out hb
set_option maxHeartbeats 1600000 in
theorem part_a (n:Int) (hm:MOk w M pv p) (hko:Kids Any w o oo co) (hka:Kids Any w a oa ca) (hkb:Kids Any w b ob cb) (hs:Tr.szL a≤1000) (h:¬ (Tr.beqL a o || Tr.beqL a b)=true) (h1:Tr.beqL b o=true) :
    Calls Tryz.prog 172 #[.pointer (some ⟨M,0,none⟩),.slice oo o.length co,.slice oa a.length ca,.slice ob b.length cb,.int .i64 n] w (ListPost M pv p w (.ok a)):=by
  have S1:=Lib.hid (fun W' (h:Pr w W')=>sameList_any a o oa ca oo co W' (hka.pr h) (hko.pr h))
  have S2:=Lib.hid (fun W' (h:Pr w W')=>sameList_any a b oa ca ob cb W' (hka.pr h) (hkb.pr h))
  have S3:=Lib.hid (fun W' (h:Pr w W')=>sameList_any b o ob cb oo co W' (hkb.pr h) (hko.pr h))
  have hlen:=hka.len
  have hlb:=Tr.length_le a
  have HM:=Lib.hid hm
  have HB:=Lib.hid hka
  clear hm hko hka hkb
  generalize Tr.beqL a o=t1 at *
  generalize Tr.beqL a b=t2 at *
  rw [h1] at S3
  have main:t1=false∧t2=false:=by cases t1 <;> cases t2 <;> simp at h ⊢
  clear h h1
  have hp:=Pr.refl w
  obtain ⟨rfl,rfl⟩:=main
  go_enter Tryz.func172,Tryz.ntmps172
  go_wp2_with (first
    | (go_at_call 176;(with_reducible refine Calls.mono (S1.out _ hp) ?_);rintro e w1 ⟨rfl,hb1⟩;have hp:=hp.trans hb1)
    | (go_at_call 176;(with_reducible refine Calls.mono (S2.out _ hp) ?_);rintro e w2 ⟨rfl,hb2⟩;have hp:=hp.trans hb2)
    | (go_at_call 176;(with_reducible refine Calls.mono (S3.out _ hp) ?_);rintro e w2 ⟨rfl,hb3⟩;have hp:=hp.trans hb3))
  have Hp:=Lib.hid hp
  go_loopw [11,45] (fun v i wr=>∃ k:Nat,k≤a.length∧i=.int .i64 k∧OwnsTs w.heap.size wr v (a.take k)∧Pr w wr) (fun _ i _=>a.length - (intOf i).toNat)
  case atStart=>exact ⟨0,by omega,rfl,by simpa using OwnsTs.nil _ _,Hp.out⟩
  case round =>
    obtain ⟨k,hkl,rfl,hown,hb⟩:=hrel
    by_cases hlt:k < a.length
    · obtain ⟨b5,o5,l',ks',oa',cap',e1,hl',rfl,c0,c1,hk'⟩:=(HB.out.pr hb).get k hlt
      have hsz:=Tr.szL_get a k hlt
      have hsn:=List.take_succ_eq_append_getElem hlt
      rw [e1] at hsz hsn
      have Hsn:=Lib.hid hsn
      clear e1 hsn
      simp only [Tr.sz] at hsz
      have htl:(a.take k).length≤1000:=by rw [List.length_take];omega
      have z1:(k:Int) < a.length:=by omega
      have z2:(0:Int)≤k:=by omega
      go_wp2_with (first
        | (go_at_call 83;refine (own_any _ _ _ _ _ (by omega) (hk'.pr (Pr.alloc _ _))).mono ?_;rintro e w3 ⟨oa2,cap2,rfl,hk2,hb3⟩)
        | (at_builtin;go_must (refine app_tree rfl _ _ rfl w.heap.size _ _ rfl (((hown.pr (Pr.alloc _ _)).pr hb3).pr (Pr.alloc _ _)) w3.heap.size rfl (.node l' ks') _ _ (heap_alloc_new w3 _) (treeV_mk cap2 hl' ((hk2.pr (Pr.alloc _ _)).mono (apart_new (hown.pr (Pr.alloc _ _)) (by have:=hb.size;simp;omega)))) (by omega) (by have:=hb.size;have:=hb3.size;simp at this ⊢;omega) ?_);intro g cap3 w4 ho4 hg4 hat4))
      refine ⟨⟨k+1,by omega,by go_num,?_,?_⟩,?_⟩
      · have hl2:(a.take k).length=k:=by simp;omega
        rw [hl2] at ho4;rw [Hsn.out];exact ho4
      · exact Pr.grown (((hb.alloc' _).trans hb3).alloc' _) (((hown.pr (Pr.alloc _ _)).pr hb3).pr (Pr.alloc _ _)) hg4
      · simp [intOf];omega
    · have hkv:k=a.length:=by omega
      go_wp2_with fail
      go_ret
      subst hkv
      rw [List.take_length] at hown
      exact ListPost.own rfl hown HM.out hb
set_option maxHeartbeats 1600000 in
theorem part_no (n:Int) (hm:MOk w M pv p) (hko:Kids Any w o oo co) (hka:Kids Any w a oa ca) (hkb:Kids Any w b ob cb) (h:¬ (Tr.beqL a o || Tr.beqL a b)=true) (h1:¬ Tr.beqL b o=true) (h2:a.length≠o.length∨b.length≠o.length) :
    Calls Tryz.prog 172 #[.pointer (some ⟨M,0,none⟩),.slice oo o.length co,.slice oa a.length ca,.slice ob b.length cb,.int .i64 n] w (ListPost M pv p w (.error [])):=by
  have S1:=Lib.hid (fun W' (h:Pr w W')=>sameList_any a o oa ca oo co W' (hka.pr h) (hko.pr h))
  have S2:=Lib.hid (fun W' (h:Pr w W')=>sameList_any a b oa ca ob cb W' (hka.pr h) (hkb.pr h))
  have S3:=Lib.hid (fun W' (h:Pr w W')=>sameList_any b o ob cb oo co W' (hkb.pr h) (hko.pr h))
  have HM:=Lib.hid hm
  have F1:=Lib.hid (fun W' (h:Pr w W')=>mfail_any W' M pv p (hm.pr h))
  clear hm hko hka hkb
  generalize Tr.beqL a o=t1 at *
  generalize Tr.beqL a b=t2 at *
  generalize Tr.beqL b o=t3 at *
  have main:t1=false∧t2=false:=by cases t1 <;> cases t2 <;> simp at h ⊢
  have main3:t3=false:=by cases t3 <;> simp at h1 ⊢
  clear h h1
  have hp:=Pr.refl w
  obtain ⟨rfl,rfl⟩:=main
  subst main3
  have hends:∀ (e:Ending) (W:World),FailPost w p e W→ListPost M pv p w (.error []) e W:=by
    rintro e W ⟨oa,cap,rfl,hi,hb⟩
    refine ⟨oa,cap,by rw [List.append_nil],by rw [List.append_nil];exact hi.mono (fun k hk _=>by have:=blk_lt HM.out.blk;have hk':w.heap.size≤k:=hk;show M≤k;omega),hb.chg _⟩
  have He:=Lib.hid hends
  clear hends
  go_enter Tryz.func172,Tryz.ntmps172
  by_cases hlen:a.length=o.length
  · have hlb:b.length≠o.length:=by rcases h2 with h2 | h2;exact absurd hlen h2;exact h2
    have e1:((a.length:Int) != o.length)=false:=by simp [hlen]
    have e2:((b.length:Int) != o.length)=true:=by simp [bne_iff_ne];omega
    clear hlen hlb h2
    go_wp2_with (first
      | (go_at_call 176;(with_reducible refine Calls.mono (S1.out _ hp) ?_);rintro e w1 ⟨rfl,hb1⟩;have hp:=hp.trans hb1)
      | (go_at_call 176;(with_reducible refine Calls.mono (S2.out _ hp) ?_);rintro e w2 ⟨rfl,hb2⟩;have hp:=hp.trans hb2)
      | (go_at_call 176;(with_reducible refine Calls.mono (S3.out _ hp) ?_);rintro e w2 ⟨rfl,hb3⟩;have hp:=hp.trans hb3)
      | (go_at_call 169;(with_reducible refine Calls.mono (F1.out _ hp) ?_);rintro e w4 ⟨oa4,cap4,rfl,hi4,hb4⟩))
    exact ⟨rfl,He.out _ _ ⟨oa4,cap4,rfl,hi4.mono (fun k hk _=>Nat.le_trans hp.size hk),hp.trans hb4⟩⟩
  · have e1:((a.length:Int) != o.length)=true:=by simp [bne_iff_ne];omega
    clear hlen h2
    go_wp2_with (first
      | (go_at_call 176;(with_reducible refine Calls.mono (S1.out _ hp) ?_);rintro e w1 ⟨rfl,hb1⟩;have hp:=hp.trans hb1)
      | (go_at_call 176;(with_reducible refine Calls.mono (S2.out _ hp) ?_);rintro e w2 ⟨rfl,hb2⟩;have hp:=hp.trans hb2)
      | (go_at_call 176;(with_reducible refine Calls.mono (S3.out _ hp) ?_);rintro e w2 ⟨rfl,hb3⟩;have hp:=hp.trans hb3)
      | (go_at_call 169;(with_reducible refine Calls.mono (F1.out _ hp) ?_);rintro e w4 ⟨oa4,cap4,rfl,hi4,hb4⟩))
    exact ⟨rfl,He.out _ _ ⟨oa4,cap4,rfl,hi4.mono (fun k hk _=>Nat.le_trans hp.size hk),hp.trans hb4⟩⟩
end
end Go.Proofs.YtdbnfhpgmcjngabGreatDoor
/- Walks: kids between two that all have, merged one by one. -/
namespace Go.Proofs.YtdbnfhpgmcjngabGreatDoor
open Go Go.RowKit
def TreeC (N:Nat):Prop:=∀ (l1 l2 l3:ByteArray) (k1 k2 k3:List Tr) (o1 o2 o3:Option Addr) (c1 c2 c3 M:Nat) (pv:Value) (p:List Int) (w:World),
  (Tr.node l1 k1).sz≤N→Tr.szL k1≤1000→Tr.szL k2≤1000→Tr.szL k3≤1000→p.length+(Tr.node l1 k1).sz≤900→l2.size≤maxLen→l3.size≤maxLen→MOk w M pv p →
  Kids (fun k=>k < M) w k1 o1 c1→Kids (fun k=>k < M) w k2 o2 c2→Kids (fun k=>k < M) w k3 o3 c3 →
  Calls Tryz.prog 145 #[.pointer (some ⟨M,0,none⟩),.agg #[.string l1,.slice o1 k1.length c1],.agg #[.string l2,.slice o2 k2.length c2],.agg #[.string l3,.slice o3 k3.length c3]] w (MixPost M pv p w (mixT N (.node l1 k1) (.node l2 k2) (.node l3 k3)))
theorem zipM_cons (f:Tr→Tr→Tr→Ex Tr) (o a b:Tr) (os xs ys:List Tr) (n:Nat):zipM f (o :: os) (a :: xs) (b :: ys) n=match f o a b with
    | .error p=>.error ((n:Int) :: p)
    | .ok t=>exMap (fun ts=>t :: ts) (zipM f os xs ys (n+1)):=by
  simp only [zipM]
  cases f o a b with
  | error p=>rfl
  | ok t=>simp only [];cases zipM f os xs ys (n+1) <;> rfl
theorem zipM_nil (f:Tr→Tr→Tr→Ex Tr) (a b:List Tr) (n:Nat):zipM f [] a b n=.ok []:=by simp [zipM]
section
variable {M:Nat} {pv:Value} {p:List Int} {w:World} {o a b:List Tr} {oo oa ob:Option Addr} {co ca cb:Nat}
set_option maxRecDepth 100000 in
set_option maxHeartbeats 3200000 in
theorem part_zip (N:Nat) (TC:TreeC N) (n:Nat) (hn:n≤1000) (hm:MOk w M pv p) (hko:Kids (fun k=>k < M) w o oo co) (hka:Kids (fun k=>k < M) w a oa ca) (hkb:Kids (fun k=>k < M) w b ob cb) (so:Tr.szL o≤N) (s1:Tr.szL o≤1000) (s2:Tr.szL a≤1000) (s3:Tr.szL b≤1000)
    (hpl:p.length+Tr.szL o≤899) (h:¬ (Tr.beqL a o || Tr.beqL a b)=true) (h1:¬ Tr.beqL b o=true) (ha:a.length=o.length) (hbl:b.length=o.length) :
    Calls Tryz.prog 172 #[.pointer (some ⟨M,0,none⟩),.slice oo o.length co,.slice oa a.length ca,.slice ob b.length cb,.int .i64 n] w (ListPost M pv p w (zipM (mixT N) o a b n)):=by
  have S1:=Lib.hid (fun W' (h:Pr w W')=>sameList_any a o oa ca oo co W' (hka.any.pr h) (hko.any.pr h))
  have S2:=Lib.hid (fun W' (h:Pr w W')=>sameList_any a b oa ca ob cb W' (hka.any.pr h) (hkb.any.pr h))
  have S3:=Lib.hid (fun W' (h:Pr w W')=>sameList_any b o ob cb oo co W' (hkb.any.pr h) (hko.any.pr h))
  have TC:=Lib.hid TC
  have hlo:=Tr.length_le o
  have hMw:M+1≤w.heap.size:=blk_lt hm.blk
  have HM:=Lib.hid hm
  have HO:=Lib.hid hko;have HA:=Lib.hid hka;have HB:=Lib.hid hkb
  obtain ⟨r,hr⟩:∃ r,r=zipM (mixT N) o a b n:=⟨_,rfl⟩
  rw [← hr]
  have HR:=Lib.hid hr
  have e1:((a.length:Int) != o.length)=false:=by simp [ha]
  have e2:((b.length:Int) != o.length)=false:=by simp [hbl]
  have Ha:=Lib.hid ha;have Hbl:=Lib.hid hbl
  clear hm hko hka hkb hr ha hbl
  generalize Tr.beqL a o=t1 at *
  generalize Tr.beqL a b=t2 at *
  generalize Tr.beqL b o=t3 at *
  have main:t1=false∧t2=false:=by cases t1 <;> cases t2 <;> simp at h ⊢
  have main3:t3=false:=by cases t3 <;> simp at h1 ⊢
  clear h h1
  have hp:=Pr.refl w
  obtain ⟨rfl,rfl⟩:=main
  subst main3
  go_enter Tryz.func172,Tryz.ntmps172
  go_wp2_with (first
    | (go_at_call 176;(with_reducible refine Calls.mono (S1.out _ hp) ?_);rintro e w1 ⟨rfl,hb1⟩;have hp:=hp.trans hb1)
    | (go_at_call 176;(with_reducible refine Calls.mono (S2.out _ hp) ?_);rintro e w2 ⟨rfl,hb2⟩;have hp:=hp.trans hb2)
    | (go_at_call 176;(with_reducible refine Calls.mono (S3.out _ hp) ?_);rintro e w2 ⟨rfl,hb3⟩;have hp:=hp.trans hb3))
  have Hp:=Lib.hid hp
  clear hp hb1 hb2 hb3 S1 S2 S3 e1 e2
  go_loopw [11,73] (fun v i wr=>∃ (k:Nat) (pq:Value) (ts:List Tr),k≤o.length∧i=.int .i64 k∧OwnsA w.heap.size wr v pq ts∧ts.length=k∧MOk wr M pq p∧Step M pv pq w wr ∧
    r=exMap (fun rs=>ts ++ rs) (zipM (mixT N) (o.drop k) (a.drop k) (b.drop k) (n+k))) (fun _ i _=>o.length - (intOf i).toNat)
  case atStart=>exact ⟨0,pv,[],by omega,rfl,OwnsA.nil _ _ _,rfl,HM.out.pr Hp.out,(Step.refl _ _ _).pr Hp.out,by rw [HR.out];simp only [List.drop_zero,Nat.add_zero];cases zipM (mixT N) o a b n <;> rfl⟩
  case round =>
    obtain ⟨k,pq,ts,hkl,rfl,hown,hts,hmr,hst,hrel⟩:=hrel
    have Hrel:=Lib.hid hrel
    clear hrel
    by_cases hlt:k < o.length
    · have hla:k < a.length:=by have:=Ha.out;omega
      have hlb:k < b.length:=by have:=Hbl.out;omega
      obtain ⟨po,pc,rfl,hpi⟩:=hmr.own.ints
      have c0:wr.cell? ⟨M,0,none⟩=some (.slice po p.length pc):=blk_cell hmr.blk
      have f0:wr.frozen? ⟨M,0,none⟩=false:=blk_frozen hmr.blk
      have hMr:M < wr.heap.size:=blk_lt hmr.blk
      have c0':=fun o1=>(Pr.alloc wr o1).cell c0
      have Hmr:=Lib.hid hmr
      have Hown:=Lib.hid hown
      have Hst:=Lib.hid hst
      have hpl2:=hmr.len
      have hro:=hmr.own
      have z1:(k:Int) < o.length:=by omega
      have z2:(k:Int) < a.length:=by omega
      have z3:(k:Int) < b.length:=by omega
      clear hmr hown hst hpi
      go_upto_region 22 with (at_builtin;go_must (refine app_int rfl _ _ rfl (M+1) _ p rfl (hro.pr (Pr.alloc _ _)) wr.heap.size rfl ((n:Int)+(k:Int)) (heap_alloc_new wr _) (by omega) (by simp;omega) ?_);intro g cap w5 ho5 hg5 hd5;have hb5:=grown_blk hg5 ((Pr.alloc _ _).blk Hmr.out.blk) (fun e=>by have:=(hro.block M e).1;omega);have c5:=blk_cell (o:=0) hb5;have f5:=blk_frozen (o:=0) hb5)
      obtain ⟨hm6,hs6⟩:=push_path Hmr.out hg5 ho5 (by simp;omega) (fun k' hk'=>by cases hk';exact hd5)
      have hst6:=Hst.out.trans hs6
      have hown6:=Hown.out.step hs6 hMw
      have hlow:=hst6.low HM.out
      have hko6:=HO.out.low hlow
      have hka6:=HA.out.low hlow
      have hkb6:=HB.out.low hlow
      generalize w5.setCell ⟨M,0,none⟩ (Value.slice (some ⟨g,0,none⟩) (p.length+1) cap)=w6 at *
      obtain ⟨b1,o1,l1,k1,oa1,cap1,e1,hl1,rfl,x0,x1,hk1⟩:=hko6.getLow k hlt
      obtain ⟨b2,o2,l2,k2,oa2,cap2,e2,hl2,rfl,y0,y1,hk2⟩:=hka6.getLow k hla
      obtain ⟨b3,o3,l3,k3,oa3,cap3,e3,hl3,rfl,q0,q1,hk3⟩:=hkb6.getLow k hlb
      have hr2:=Hrel.out
      rw [List.drop_eq_getElem_cons hlt,List.drop_eq_getElem_cons hla,List.drop_eq_getElem_cons hlb,zipM_cons,e1,e2,e3] at hr2
      have z4:=Tr.szL_get o k hlt;have z5:=Tr.szL_get a k hla;have z6:=Tr.szL_get b k hlb
      rw [e1] at z4;rw [e2] at z5;rw [e3] at z6
      simp only [Tr.sz] at z4 z5 z6
      have T1:=Lib.hid (fun (W':World) (h:Pr w6 W')=>TC.out l1 l2 l3 k1 k2 k3 oa1 oa2 oa3 cap1 cap2 cap3 M _ _ W' (by simp only [Tr.sz];omega) (by omega) (by omega) (by omega) (by simp only [Tr.sz,List.length_append,List.length_singleton];omega) hl2 hl3 (hm6.pr h) (hk1.pr h) (hk2.pr h) (hk3.pr h))
      have z7:(0:Int)≤k:=by omega
      have Hst6:=Lib.hid hst6;have Hown6:=Lib.hid hown6
      clear e1 e2 e3 hm6 hs6 hst6 hown6 hlow hko6 hka6 hkb6 hk1 hk2 hk3 hg5 ho5 hd5 hb5 c5 f5 c0 f0 c0' hro hl1 hl2 hl3
      generalize mixT N (Tr.node l1 k1) (Tr.node l2 k2) (Tr.node l3 k3)=rt at *
      have x0:=x0 _ (Chg.refl _ w6);have x1:=x1 _ (Chg.refl _ w6);have y0:=y0 _ (Chg.refl _ w6);have y1:=y1 _ (Chg.refl _ w6);have q0:=q0 _ (Chg.refl _ w6);have q1:=q1 _ (Chg.refl _ w6)
      refine wp_region_move_tail 14 _ (by kernel_rfl) (by kernel_rfl) (fun _ _ _ h=>h) rfl (fun _=>rfl) ?_
      simp only [List.take_succ_cons,List.take_zero,List.drop_succ_cons,List.drop_zero,Nat.reduceSub,Act.put,List.setIfInBounds_toArray,List.set_cons_zero,List.set_cons_succ]
      repeat (go_big_quiet_step (fail))
      refine wpQuiet_nil ?_
      rintro _ ⟨nq,rfl⟩
      have hq:=Pr.drewN w6 nq
      cases rt with
      | error e =>
        have Hr2:=Lib.hid hr2
        clear hr2
        go_wp2_with (go_at_call 145;(with_reducible refine Calls.mono (T1.out _ hq) ?_);rintro e w7 ⟨oa7,cap7,rfl,hi7,hc7⟩)
        have hr3:r=.error (((n:Int)+(k:Int)) :: e):=Hr2.out.trans (by simp only [exMap];rw [show ((n+k:Nat):Int)=(n:Int)+(k:Int) by omega])
        rw [hr3]
        have he:p ++ [(n:Int)+(k:Int)] ++ e=p ++ ((n:Int)+(k:Int)) :: e:=by simp
        rw [he] at hi7
        exact ⟨rfl,oa7,cap7,by simp,hi7,((Hst6.out.pr hq).low HM.out).trans hc7 (fun _ h=>.inl h)⟩
      | ok t =>
        have Hr2:=Lib.hid hr2
        have hvb:∀ k',Value.ownBlock _=some k'→w.heap.size≤k'∧k' < w6.heap.size:=Hown6.out.block
        clear hr2
        go_upto_region 23 with (first
          | (go_at_call 145;(with_reducible refine Calls.mono (T1.out _ hq) ?_);rintro e w7 ⟨l7,ks7,oa7,cap7,pv7,rfl,hl7,rfl,hk7,hm7,hs7⟩)
          | (at_builtin;go_must (refine appA1 rfl _ _ rfl w.heap.size _ pv7 ts rfl (((Hown6.out.pr hq).step hs7 hMw).pr (Pr.alloc _ _)) w7.heap.size rfl (.node l7 ks7) _ _ (heap_alloc_new w7 _) (treeV_mk cap7 hl7 ((hk7.pr (Pr.alloc _ _)).mono (fun k' hS _=>⟨by have:=(Hst6.out.chg.size);have:=hq.size;have:=hS.1;omega,fun e=>by have:=(hvb k' e).2;have:=hq.size;have:=hS.1;omega,hS.2⟩))) (by omega) (by have:=Hst6.out.chg.size;have:=hq.size;have:=hs7.chg.size;simp;omega) (fun k' e=>by have:=(hm7.own.block k' e).2;simp;omega) ?_);intro v8 w8 ho8 hg8))
        have hst7:=(Hst6.out.pr hq).trans hs7
        have hm8:=(hm7.pr (Pr.alloc w7 _)).grown hg8 (fun e=>by have:=(hvb M e).1;omega) (fun k' e=>(((Hown6.out.pr hq).step hs7 hMw).ne k' e))
        have hst8:=(hst7.pr (Pr.alloc w7 _)).grown hg8 (fun k' e=>(hvb k' e).1)
        obtain ⟨po8,pc8,rfl,_,hcm,hg8'⟩:=ownsRow_slice hm8.own
        obtain ⟨g8,rfl,_⟩:=hg8' (by simp)
        have hlen1:(p ++ [(n:Int)+(k:Int)]).length=p.length+1:=by simp
        have hcp:p.length+1≤pc8:=by omega
        rw [hlen1] at hm8 ho8 hst8
        have c8:w8.cell? ⟨M,0,none⟩=some (.slice (some ⟨g8,0,none⟩) (p.length+1) pc8):=blk_cell hm8.blk
        have f8:w8.frozen? ⟨M,0,none⟩=false:=blk_frozen hm8.blk
        have hpl3:=hm8.len
        rw [hlen1] at hpl3
        have u1:IntKind.i64.wrap (p.length:Int)=(p.length:Int):=IntWalk.i64_in _ (by omega)
        have u2:IntKind.i64.wrap ((p.length:Int)+1)=(p.length:Int)+1:=IntWalk.i64_in _ (by omega)
        have u3:(p.length:Int)+1 - 1=(p.length:Int):=by omega
        have Hm8:=Lib.hid hm8;have Ho8:=Lib.hid ho8;have Hst8:=Lib.hid hst8
        clear hm7 hs7 hst7 hm8 ho8 hst8 hk7 hg8 hcm hlen1 hl7 hg8'
        refine wp_region_quiet_tail 14 (by kernel_rfl) (by kernel_rfl) ?_
        simp only [List.take_succ_cons,List.take_zero,List.drop_succ_cons,List.drop_zero]
        repeat (go_big_quiet_step (fail))
        refine wpQuiet_nil ?_
        rintro _ ⟨nq2,rfl⟩
        go_wp2_with fail
        have hn9:∀ k',(Value.slice (some ⟨g8,0,none⟩) p.length pc8).ownBlock=some k'→(Value.slice (some ⟨g8,0,none⟩) (p.length+1) pc8).ownBlock=some k'∨(w8.drewN nq2).heap.size≤k':=fun k' e=>.inl e
        have hs9:=Step.setPath (M:=M) hn9
        have hm9:=Hm8.out.pr (Pr.drewN w8 nq2)
        refine ⟨⟨k+1,_,ts ++ [.node l7 ks7],by omega,by go_num,(Ho8.out.pr (Pr.drewN w8 nq2)).step hs9 hMw,by simp;omega,MOk.mkPath hm9.blk (popInts hm9.own rfl) (by omega),(Hst8.out.pr (Pr.drewN w8 nq2)).trans hs9,?_⟩,?_⟩
        · rw [Hr2.out]
          rw [exMap_map,show n+(k+1)=n+k+1 by omega]
          congr 1
          funext rs
          simp
        · simp [intOf];omega
    · have hkv:k=o.length:=by omega
      have hr3:r=.ok ts:=by
        have:=Hrel.out
        rw [hkv,List.drop_of_length_le (Nat.le_refl _),zipM_nil] at this
        simpa [exMap] using this
      have Hr3:=Lib.hid hr3
      clear hr3 Hrel
      go_wp2_with fail
      go_ret
      rw [Hr3.out]
      exact ⟨_,pq,rfl,hown,hmr,hst⟩
end
end Go.Proofs.YtdbnfhpgmcjngabGreatDoor
