/- Walks: what two made of the kids of one. -/
import Derived.Test.YtdbnfhpgmcjngabGreatDoorBmh
import Derived.Test.YtdbnfhpgmcjngabGreatDoorBwa
import Derived.Recover
namespace Go.Proofs.YtdbnfhpgmcjngabGreatDoor
open Go Go.RowKit
section
variable {M:Nat} {pv:Value} {p:List Int} {w:World} {o a b:List Tr} {oo oa ob:Option Addr} {co ca cb:Nat}
theorem part_any (N:Nat) (TC:TreeC N) (n:Nat) (hn:n≤1000) (hm:MOk w M pv p) (hko:Kids (fun k=>k < M) w o oo co) (hka:Kids (fun k=>k < M) w a oa ca) (hkb:Kids (fun k=>k < M) w b ob cb) (so:Tr.szL o≤N) (s1:Tr.szL o≤1000) (s2:Tr.szL a≤1000) (s3:Tr.szL b≤1000)
    (hpl:p.length+Tr.szL o≤899) :
    Calls Tryz.prog 172 #[.pointer (some ⟨M,0,none⟩),.slice oo o.length co,.slice oa a.length ca,.slice ob b.length cb,.int .i64 n] w (ListPost M pv p w (partM (mixT N) o a b n)):=by
  unfold partM
  by_cases h:(Tr.beqL a o || Tr.beqL a b)=true
  · rw [if_pos h];exact part_b n hm hko.any hka.any hkb.any s3 h
  · rw [if_neg h]
    by_cases h1:Tr.beqL b o=true
    · rw [if_pos h1];exact part_a n hm hko.any hka.any hkb.any s2 h h1
    · rw [if_neg h1]
      by_cases h2:a.length≠o.length∨b.length≠o.length
      · rw [if_pos h2];exact part_no n hm hko.any hka.any hkb.any h h1 h2
      · rw [if_neg h2];exact part_zip N TC n hn hm hko hka hkb so s1 s2 s3 hpl h h1 (by omega) (by omega)
end
theorem Prs.keep {S:Nat→Prop} {w w':World} {ps:List (Int × Int)} {oa cap} (h:Prs S w ps oa cap) (hk:∀ k,S k→k < w.heap.size→w'.heap[k]? = w.heap[k]?):Prs Any w' ps oa cap:=by
  obtain ⟨hc,b,o,h1,h2⟩:=h
  refine ⟨hc,b,o,fun hn=>⟨(h1 hn).1,trivial⟩,fun i hi=>?_⟩
  have hS:=(h1 (by intro e;subst e;simp at hi)).2
  obtain ⟨g1,g2⟩:=h2 i hi
  have e:=hk b hS (lt_of_cell g1)
  exact ⟨by rw [World.cell?_of_block e];exact g1,by rw [World.cell?_of_block e];exact g2⟩
theorem atZ_yes {x:List (Nat × Nat)} (hx:Rise x) {n q:Nat} (h:(n,q)∈x):atZ (pz x) n=(q:Int):=by
  unfold atZ
  have:∃ z,(pz x).find? (fun p=>p.1==(n:Int))=some z∧z.2=(q:Int):=by
    cases hf:(pz x).find? (fun p=>p.1==(n:Int)) with
    | none =>
      have:=List.find?_eq_none.1 hf ((n:Int),(q:Int)) (List.mem_map.2 ⟨(n,q),h,rfl⟩)
      simp at this
    | some z =>
      have h1:=List.find?_some hf
      obtain ⟨⟨a,b⟩,hm,rfl⟩:=List.mem_map.1 (List.mem_of_find?_eq_some hf)
      simp only [beq_iff_eq] at h1
      have ha:a=n:=by omega
      subst ha
      exact ⟨_,rfl,by rw [hx.one hm h]⟩
  obtain ⟨z,h1,h2⟩:=this
  rw [h1];exact h2
theorem atZ_no {x:List (Nat × Nat)} {n:Nat} (h:∀ q,(n,q) ∉ x):atZ (pz x) n=-1:=by
  unfold atZ
  have:(pz x).find? (fun p=>p.1==(n:Int))=none:=by
    rw [List.find?_eq_none]
    rintro z hz
    obtain ⟨⟨a,b⟩,hm,rfl⟩:=List.mem_map.1 hz
    simp only [beq_iff_eq]
    intro e
    have ha:a=n:=by omega
    subst ha
    exact h b hm
  rw [this]
def SegRel (f:Tr→Tr→Tr→Ex Tr) (o a b:List Tr) (H:List (Nat × Nat × Nat)) (r:Ex (List Tr)) (n i j k:Nat) (ts:List Tr):Prop :=
  (n≤o.length∧HeldOk o a b i j k (H.filter fun x=>decide (n≤x.1))∧i≤n∧j≤a.length∧k≤b.length∧Tr.szL ts+Tr.szL (o.drop i)+Tr.szL (a.drop j)+Tr.szL (b.drop k)≤3000 ∧
    r=exMap (fun rs=>ts ++ rs) (segM f o a b (H.filter fun x=>decide (n≤x.1)) i j k))∨(n=o.length+1∧r=.ok ts)
theorem exMap_nil (x:Ex (List Tr)):exMap (fun rs=>[] ++ rs) x=x:=by cases x <;> rfl
section
variable {f:Tr→Tr→Tr→Ex Tr} {o a b:List Tr} {H:List (Nat × Nat × Nat)} {r:Ex (List Tr)} {n i j k:Nat} {ts:List Tr}
theorem SegRel.start (hH:HeldOk o a b 0 0 0 H) (hr:r=segM f o a b H 0 0 0) (hs:Tr.szL o+Tr.szL a+Tr.szL b≤3000):SegRel f o a b H r 0 0 0 0 []:=by
  have e:(H.filter fun x=>decide (0≤x.1))=H:=by rw [List.filter_eq_self];simp
  refine .inl ⟨by omega,by rw [e];exact hH,by omega,by omega,by omega,by simp [Tr.szL];omega,?_⟩
  rw [e,hr,exMap_nil]
theorem SegRel.skip (h:SegRel f o a b H r n i j k ts) (hn:n < o.length) (hno:∀ p q,(n,p,q) ∉ H):SegRel f o a b H r (n+1) i j k ts:=by
  rcases h with ⟨h1,h2,h3,h4,h5,h6,h7⟩ | ⟨h1,_⟩
  · rw [rise_skip hno] at h2 h7
    exact .inl ⟨hn,h2,by omega,h4,h5,h6,h7⟩
  · omega
theorem SegRel.hit (h:SegRel f o a b H r n i j k ts) (hn:n < o.length) (hH:H.Pairwise fun p q=>p.1 < q.1∧p.2.1 < q.2.1∧p.2.2 < q.2.2) {p q:Nat} (hin:(n,p,q)∈H) :
    (i≤n∧j≤p∧k≤q∧p < a.length∧q < b.length)∧(Tr.szL ts+Tr.szL (o.drop i)+Tr.szL (a.drop j)+Tr.szL (b.drop k)≤3000) ∧
      (∀ e,partM f ((o.drop i).take (n - i)) ((a.drop j).take (p - j)) ((b.drop k).take (q - k)) i=.error e→r=.error e) ∧
      ((∀ o a b t,f o a b=.ok t→t.sz≤o.sz+a.sz+b.sz)→∀ s,partM f ((o.drop i).take (n - i)) ((a.drop j).take (p - j)) ((b.drop k).take (q - k)) i=.ok s →
        Tr.szL (ts ++ s)≤3000∧SegRel f o a b H r (n+1) (n+1) (p+1) (q+1) (ts ++ s ++ [kidN o n])):=by
  rcases h with ⟨h1,h2,h3,h4,h5,h6,h7⟩ | ⟨h1,_⟩
  · have hr:=rise_next hH hin
    rw [hr] at h2 h7
    have hm:=h2.2 (n,p,q) (by simp)
    simp only [] at hm
    refine ⟨⟨h3,hm.2.1.1,hm.2.2.1,hm.2.1.2,hm.2.2.2⟩,h6,fun e he=>?_,fun hf s hs=>?_⟩
    · rw [h7,segM];simp only [he];rfl
    · have z:=partM_sz hf _ _ _ _ _ hs
      have z1:=szL_seg o h3 hn
      have z2:=szL_seg a hm.2.1.1 hm.2.1.2
      have z3:=szL_seg b hm.2.2.1 hm.2.2.2
      refine ⟨by rw [Tr.szL_append];omega,.inl ⟨hn,h2.tail,Nat.le_refl _,by omega,by omega,?_,?_⟩⟩
      · rw [Tr.szL_append,Tr.szL_append]
        simp only [Tr.szL];omega
      · rw [h7,segM]
        simp only [hs]
        cases segM f o a b (H.filter fun x=>decide (n+1≤x.1)) (n+1) (p+1) (q+1) with
        | error e=>rfl
        | ok rs=>simp [exMap]
  · omega
theorem SegRel.last (h:SegRel f o a b H r n i j k ts) (hn:n=o.length) (hH:∀ x∈H,x.1 < o.length) :
    (i≤n∧j≤a.length∧k≤b.length)∧(Tr.szL ts+Tr.szL (o.drop i)+Tr.szL (a.drop j)+Tr.szL (b.drop k)≤3000) ∧
      (∀ e,partM f ((o.drop i).take (n - i)) ((a.drop j).take (a.length - j)) ((b.drop k).take (b.length - k)) i=.error e→r=.error e) ∧
      ((∀ o a b t,f o a b=.ok t→t.sz≤o.sz+a.sz+b.sz)→∀ s,partM f ((o.drop i).take (n - i)) ((a.drop j).take (a.length - j)) ((b.drop k).take (b.length - k)) i=.ok s →
        Tr.szL (ts ++ s)≤3000∧r=.ok (ts ++ s)):=by
  rcases h with ⟨h1,h2,h3,h4,h5,h6,h7⟩ | ⟨h1,_⟩
  · have e:(H.filter fun x=>decide (n≤x.1))=[]:=by
      rw [List.filter_eq_nil_iff];intro x hx;have:=hH x hx;simp;omega
    rw [e,segM] at h7
    have t1:(o.drop i).take (n - i)=o.drop i:=by rw [List.take_of_length_le];rw [List.length_drop];omega
    have t2:(a.drop j).take (a.length - j)=a.drop j:=by rw [List.take_of_length_le];rw [List.length_drop];omega
    have t3:(b.drop k).take (b.length - k)=b.drop k:=by rw [List.take_of_length_le];rw [List.length_drop];omega
    rw [t1,t2,t3]
    refine ⟨⟨h3,h4,h5⟩,h6,fun e he=>by rw [h7,he];rfl,fun hf s hs=>?_⟩
    have z:=partM_sz hf _ _ _ _ _ hs
    exact ⟨by rw [Tr.szL_append];omega,by rw [h7,hs];rfl⟩
  · omega
end
def ListsC (N:Nat):Prop:=∀ (k1 k2 k3:List Tr) (o1 o2 o3:Option Addr) (c1 c2 c3 M:Nat) (pv:Value) (p:List Int) (w:World),
  Tr.szL k1≤N→Tr.szL k1≤1000→Tr.szL k2≤1000→Tr.szL k3≤1000→p.length+Tr.szL k1≤899→MOk w M pv p →
  Kids (fun k=>k < M) w k1 o1 c1→Kids (fun k=>k < M) w k2 o2 c2→Kids (fun k=>k < M) w k3 o3 c3 →
  Calls Tryz.prog 160 #[.pointer (some ⟨M,0,none⟩),.slice o1 k1.length c1,.slice o2 k2.length c2,.slice o3 k3.length c3] w (ListPost M pv p w (segM (mixT N) k1 k2 k3 (held (common k1 k2) (common k1 k3)) 0 0 0))
set_option maxRecDepth 100000 in
set_option maxHeartbeats 6400000 in
theorem lists_any (N:Nat) (TC:TreeC N):ListsC N:=by
  intro o a b oo oa ob co ca cb M pv p w so s1 s2 s3 hpl hm hko hka hkb
  have TC:=Lib.hid TC
  have hlo:=Tr.length_le o;have hla:=Tr.length_le a;have hlb:=Tr.length_le b
  have hMw:M+1≤w.heap.size:=blk_lt hm.blk
  have hpb:=fun k h=>(hm.own.block k h).2
  have hx:=common_rise o a;have hy:=common_rise o b
  have hH:HeldOk o a b 0 0 0 (held (common o a) (common o b)):=held_ok (.node ⟨#[]⟩ o) (.node ⟨#[]⟩ a) (.node ⟨#[]⟩ b)
  have hmem:=fun n p q=>@mem_held (common o a) (common o b) n p q
  have C1:=Lib.hid (fun (W':World) (h:Pr w W')=>common_any o a oo co oa ca W' (hko.any.pr h) (hka.any.pr h) (by omega) (by omega))
  have C2:=Lib.hid (fun (W':World) (h:Pr w W')=>common_any o b oo co ob cb W' (hko.any.pr h) (hkb.any.pr h) (by omega) (by omega))
  obtain ⟨r,hr⟩:∃ r,r=segM (mixT N) o a b (held (common o a) (common o b)) 0 0 0:=⟨_,rfl⟩
  rw [← hr]
  generalize held (common o a) (common o b)=H at *
  generalize common o a=X at *
  generalize common o b=Y at *
  have HR:=Lib.hid hr;have HM:=Lib.hid hm;have HO:=Lib.hid hko;have HA:=Lib.hid hka;have HB:=Lib.hid hkb
  have HH:=Lib.hid hH;have Hmem:=Lib.hid hmem;have HX:=Lib.hid hx;have HY:=Lib.hid hy;have Hpb:=Lib.hid hpb
  clear hr hm hko hka hkb hH hmem hx hy hpb
  have hp:=Pr.refl w
  go_enter Tryz.func160,Tryz.ntmps160
  go_wp2_with (first
    | (go_at_call 170;(with_reducible refine Calls.mono (C1.out _ hp) ?_);rintro e w1 ⟨v1,rfl,ho1,hb1⟩;obtain ⟨xo,xc,rfl,hx1⟩:=ho1.prs;have hp:=hp.trans hb1)
    | (go_at_call 170;(with_reducible refine Calls.mono (C2.out _ hp) ?_);rintro e w2 ⟨v2,rfl,ho2,hb2⟩;obtain ⟨yo,yc,rfl,hy1⟩:=ho2.prs;have hp:=hp.trans hb2))
  have hx2:=hx1.pr hb2
  have hy2:Prs (From w.heap.size) w2 (pz Y) yo yc:=by
    obtain ⟨hc,b',o',g1,g2⟩:=hy1
    exact ⟨hc,b',o',fun hn=>⟨(g1 hn).1,Nat.le_trans hb1.size (g1 hn).2⟩,g2⟩
  have HX2:=Lib.hid hx2;have HY2:=Lib.hid hy2
  have Hp:=Lib.hid hp
  have hkeep:∀ (pq:Value) (W:World),Step M pv pq w2 W→∀ k,From w.heap.size k→k < w2.heap.size→W.heap[k]? = w2.heap[k]? := fun pq W hs k hk hl=>hs.chg.block k hl (by
    have hk':w.heap.size≤k:=hk
    rintro (rfl | e)
    · omega
    · have:=Hpb.out k e;omega)
  have Hkeep:=Lib.hid hkeep
  have hp2:=hp
  clear hp hx1 hy1 hx2 hy2 ho1 ho2 hb1 hb2 C1 C2 hkeep
  have hws:=hp2.size
  clear hp2
  go_loopw [11,12,13,14,15] (fun v v12 v13 v14 v15 wr=>∃ (n i j k:Nat) (pq:Value) (ts:List Tr),n≤o.length+1∧v12=.int .i64 i∧v13=.int .i64 j∧v14=.int .i64 k∧v15=.int .i64 n∧OwnsA w2.heap.size wr v pq ts∧MOk wr M pq p∧Step M pv pq w2 wr ∧
    SegRel (mixT N) o a b H r n i j k ts) (fun _ _ _ _ v15 _=>o.length+1 - (intOf v15).toNat)
  case atStart=>exact ⟨0,0,0,0,pv,[],by omega,rfl,rfl,rfl,rfl,OwnsA.nil _ _ _,HM.out.pr Hp.out,Step.refl _ _ _,SegRel.start HH.out HR.out (by omega)⟩
  case round =>
    obtain ⟨n,i,j,k,pq,ts,hn1,rfl,rfl,rfl,rfl,hown,hmr,hst,hrel⟩:=hrel
    by_cases hnl:n < o.length
    · have d1:decide ((n:Int)≤o.length)=true:=by simp;omega
      have d2:decide ((n:Int) < o.length)=true:=by simp;omega
      have hxr:=HX2.out.keep (Hkeep.out pq wr hst)
      have hyr:=HY2.out.keep (Hkeep.out pq wr hst)
      have A1:=Lib.hid (fun (W':World) (h:Pr wr W')=>pairAt_any (pz X) xo xc n W' (hxr.pr h))
      have A2:=Lib.hid (fun (W':World) (h:Pr wr W')=>pairAt_any (pz Y) yo yc n W' (hyr.pr h))
      clear hxr hyr
      by_cases hin:∃ q1 q2,(n,q1)∈X∧(n,q2)∈Y
      · obtain ⟨q1,q2,hq1,hq2⟩:=hin
        rw [atZ_yes HX.out hq1] at A1
        rw [atZ_yes HY.out hq2] at A2
        obtain ⟨⟨hi,hj1,hk1',hq1l,hq2l⟩,hs,he,hok⟩:=hrel.hit hnl HH.out.1 ((Hmem.out n q1 q2).2 ⟨hq1,hq2⟩)
        have d3:decide ((q1:Int) < 0)=false:=by simp
        have d4:decide ((q2:Int) < 0)=false:=by simp
        have hlow2:Chg (fun k=>M≤k) w w2:=Hp.out.chg _
        have hlowr:=hlow2.trans (hst.low (HM.out.pr Hp.out)) (fun _ h=>.inl h)
        obtain ⟨b1,o1,l1,ks1,oa1,cap1,e1,hl1,rfl,X0,X1,hkn⟩:=HO.out.getLow n hnl
        have hkN:kidN o n=.node l1 ks1:=by rw [kidN_in o n hnl,e1]
        rw [hkN] at hok
        have hszn:=Tr.szL_get o n hnl
        rw [e1] at hszn
        simp only [Tr.sz] at hszn
        obtain ⟨so1,hsl1,hk1⟩:=slice_trees (HO.out.low hlowr) i n hi (by omega)
        obtain ⟨so2,hsl2,hk2⟩:=slice_trees (HA.out.low hlowr) j q1 hj1 (by omega)
        obtain ⟨so3,hsl3,hk3⟩:=slice_trees (HB.out.low hlowr) k q2 hk1' (by omega)
        have z1:Tr.szL ((o.drop i).take (n - i))≤Tr.szL o:=Nat.le_trans (Tr.szL_take_le _ _) (szL_drop_le _ _)
        have z2:Tr.szL ((a.drop j).take (q1 - j))≤Tr.szL a:=Nat.le_trans (Tr.szL_take_le _ _) (szL_drop_le _ _)
        have z3:Tr.szL ((b.drop k).take (q2 - k))≤Tr.szL b:=Nat.le_trans (Tr.szL_take_le _ _) (szL_drop_le _ _)
        generalize (o.drop i).take (n - i)=g1 at *
        generalize (a.drop j).take (q1 - j)=g2 at *
        generalize (b.drop k).take (q2 - k)=g3 at *
        have P1:=Lib.hid (fun (W':World) (h:Pr wr W')=>part_any N TC.out i (by omega) (hmr.pr h) (hk1.pr h) (hk2.pr h) (hk3.pr h) (by omega) (by omega) (by omega) (by omega) (by omega))
        have htl:=Tr.length_le ts
        have Hlow:=Lib.hid hlowr;have Hst:=Lib.hid hst;have Hown:=Lib.hid hown;have Hkn:=Lib.hid hkn
        have y1:(0:Int)≤i:=by omega
        have y2:(0:Int)≤j:=by omega
        have y3:(0:Int)≤k:=by omega
        have Hl1:=Lib.hid hl1
        clear hrel hown hmr hst hlow2 hlowr hk1 hk2 hk3 e1 hkN hkn hq1 hq2 hl1
        generalize partM (mixT N) g1 g2 g3 i=rt at *
        have hp:=Pr.refl wr
        go_upto_region 11 with (first
          | (go_at_call 171;(with_reducible refine Calls.mono (A1.out _ hp) ?_);rintro e w3 ⟨rfl,hb3⟩;have hp:=hp.trans hb3)
          | (go_at_call 171;(with_reducible refine Calls.mono (A2.out _ hp) ?_);rintro e w4 ⟨rfl,hb4⟩;have hp:=hp.trans hb4))
        have hp4:=hp
        clear hp A1 A2
        refine wp_region_move_tail 15 _ (by kernel_rfl) (by kernel_rfl) (fun _ _ _ h=>h) rfl (fun _=>rfl) ?_
        simp only [List.take_succ_cons,List.take_zero,List.drop_succ_cons,List.drop_zero,Nat.reduceSub,Act.put,List.setIfInBounds_toArray,List.set_cons_zero,List.set_cons_succ]
        repeat (go_big_quiet_step (fail))
        refine wpQuiet_nil ?_
        rintro _ ⟨nq,rfl⟩
        have hq:=hp4.trans (Pr.drewN w4 nq)
        cases rt with
        | error e =>
          have Hr:=Lib.hid (he e rfl)
          clear he hok
          go_wp2_with (go_at_call 172;(with_reducible refine Calls.mono (P1.out _ hq) ?_);rintro e5 w5 ⟨oa5,cap5,rfl,hi5,hc5⟩)
          rw [Hr.out]
          exact ⟨rfl,oa5,cap5,by simp,hi5,(Hlow.out.pr hq).trans hc5 (fun _ h=>.inl h)⟩
        | ok s =>
          obtain ⟨hsz,hrel2⟩:=hok (fun o a b t=>mixT_sz N o a b t) s rfl
          have Hrel2:=Lib.hid hrel2
          have hll:=Tr.length_le (ts ++ s)
          rw [List.length_append] at hll
          have hvb:∀ k',Value.ownBlock _=some k'→w2.heap.size≤k'∧k' < wr.heap.size:=Hown.out.block
          have hwr:=Hst.out.chg.size
          have hqs:=hq.size
          clear he hok hrel2
          go_upto_region 12 with (first
            | (go_at_call 172;(with_reducible refine Calls.mono (P1.out _ hq) ?_);rintro e5 w5 ⟨v5,pv5,rfl,ho5,hm5,hs5⟩;obtain ⟨o5,c5,rfl,hk5⟩:=ho5.kids)
            | (at_builtin;go_must (refine appAs rfl _ _ rfl w2.heap.size _ pv5 ts rfl ((Hown.out.pr hq).step hs5 (by omega)) s _ rfl _ _ rfl (hk5.mono (fun k' hS _=>⟨by have:=hS.1;omega,fun e=>by have:=(hvb k' e).2;have:=hS.1;omega,hS.2⟩)) (by omega) (by have:=hs5.chg.size;omega) (fun k' e=>(hm5.own.block k' e).2) ?_);intro v6 w6 ho6 hg6))
          have hs6:=(((Hst.out.pr hq).trans hs5)).grown hg6 (fun k' e=>(hvb k' e).1)
          have hm6:=hm5.grown hg6 (fun e=>by have:=(hvb M e).1;omega) (fun k' e=>((Hown.out.pr hq).step hs5 (by omega)).ne k' e)
          have hl6:Chg (fun k=>M≤k) w w6:=(Hp.out.chg _).trans (hs6.low (HM.out.pr Hp.out)) (fun _ h=>.inl h)
          have x0:=X0 _ hl6;have x1:=X1 _ hl6
          go_wp2_with (first
            | (go_at_call 83;refine (own_any _ _ _ _ _ (by omega) (Hkn.out.low hl6).any).mono ?_;rintro e w7 ⟨oa7,cap7,rfl,hk7,hb7⟩)
            | (at_builtin;go_must (refine appA1 rfl _ _ rfl w2.heap.size _ pv5 (ts ++ s) rfl ((ho6.pr hb7).pr (Pr.alloc _ _)) w7.heap.size rfl (.node l1 ks1) _ _ (heap_alloc_new w7 _) (treeV_mk cap7 Hl1.out ((hk7.pr (Pr.alloc _ _)).mono (fun k' hS _=>⟨by have hS':w6.heap.size≤k':=hS;have:=hs6.chg.size;omega,fun e=>by have hS':w6.heap.size≤k':=hS;have:=(ho6.block k' e).2;omega,fun e=>by have hS':w6.heap.size≤k':=hS;have:=(hm6.own.block k' e).2;omega⟩))) (by rw [List.length_append];omega) (by have:=hs6.chg.size;have:=hb7.size;simp;omega) (fun k' e=>by have:=(hm6.own.block k' e).2;have:=hb7.size;simp;omega) ?_);intro v8 w8 ho8 hg8))
          refine ⟨⟨n+1,n+1,q1+1,q2+1,pv5,ts ++ s ++ [.node l1 ks1],by omega,by go_num,by go_num,by go_num,by go_num,ho8,((hm6.pr hb7).pr (Pr.alloc w7 _)).grown hg8 (fun e=>by have:=(ho6.block M e).1;omega) (fun k' e=>ho6.ne k' e),((hs6.pr hb7).pr (Pr.alloc w7 _)).grown hg8 (fun k' e=>(ho6.block k' e).1),Hrel2.out⟩,?_⟩
          simp [intOf];omega
      · have hno:∀ q1 q2,(n,q1,q2) ∉ H:=fun q1 q2 h=>hin ⟨q1,q2,((Hmem.out n q1 q2).1 h).1,((Hmem.out n q1 q2).1 h).2⟩
        have hrel2:=hrel.skip hnl hno
        have Hrel2:=Lib.hid hrel2
        clear hrel hno hrel2
        have hp:=Pr.refl wr
        by_cases hix:∃ q1,(n,q1)∈X
        · obtain ⟨q1,hq1⟩:=hix
          have hny:∀ q2,(n,q2) ∉ Y:=fun q2 h=>hin ⟨q1,q2,hq1,h⟩
          rw [atZ_yes HX.out hq1] at A1
          rw [atZ_no hny] at A2
          have d3:decide ((q1:Int) < 0)=false:=by simp
          clear hin hny hq1
          go_wp2_with (first
            | (go_at_call 171;(with_reducible refine Calls.mono (A1.out _ hp) ?_);rintro e w3 ⟨rfl,hb3⟩;have hp:=hp.trans hb3)
            | (go_at_call 171;(with_reducible refine Calls.mono (A2.out _ hp) ?_);rintro e w4 ⟨rfl,hb4⟩;have hp:=hp.trans hb4))
          refine ⟨⟨n+1,i,j,k,pq,ts,by omega,rfl,rfl,rfl,by go_num,hown.pr hp,hmr.pr hp,hst.pr hp,Hrel2.out⟩,?_⟩
          simp [intOf];omega
        · rw [atZ_no (fun q h=>hix ⟨q,h⟩)] at A1
          generalize atZ (pz Y) n=z2 at A2
          clear hin hix
          go_wp2_with (first
            | (go_at_call 171;(with_reducible refine Calls.mono (A1.out _ hp) ?_);rintro e w3 ⟨rfl,hb3⟩;have hp:=hp.trans hb3)
            | (go_at_call 171;(with_reducible refine Calls.mono (A2.out _ hp) ?_);rintro e w4 ⟨rfl,hb4⟩;have hp:=hp.trans hb4))
          refine ⟨⟨n+1,i,j,k,pq,ts,by omega,rfl,rfl,rfl,by go_num,hown.pr hp,hmr.pr hp,hst.pr hp,Hrel2.out⟩,?_⟩
          simp [intOf];omega
    · by_cases hne:n=o.length
      · obtain ⟨⟨hi,hj1,hk1'⟩,hs,he,hok⟩:=hrel.last hne (fun x hx=>(HH.out.2 x hx).1.2)
        have d1:decide ((n:Int)≤o.length)=true:=by simp;omega
        have d2:decide ((n:Int) < o.length)=false:=by simp;omega
        have d3:decide (n≤o.length)=true:=by simp;omega
        have d4:decide (n < o.length)=false:=by simp;omega
        have hlow2:Chg (fun k=>M≤k) w w2:=Hp.out.chg _
        have hlowr:=hlow2.trans (hst.low (HM.out.pr Hp.out)) (fun _ h=>.inl h)
        obtain ⟨so1,hsl1,hk1⟩:=slice_trees (HO.out.low hlowr) i n hi (by omega)
        obtain ⟨so2,hsl2,hk2⟩:=slice_trees (HA.out.low hlowr) j a.length hj1 (Nat.le_refl _)
        obtain ⟨so3,hsl3,hk3⟩:=slice_trees (HB.out.low hlowr) k b.length hk1' (Nat.le_refl _)
        have z1:Tr.szL ((o.drop i).take (n - i))≤Tr.szL o:=Nat.le_trans (Tr.szL_take_le _ _) (szL_drop_le _ _)
        have z2:Tr.szL ((a.drop j).take (a.length - j))≤Tr.szL a:=Nat.le_trans (Tr.szL_take_le _ _) (szL_drop_le _ _)
        have z3:Tr.szL ((b.drop k).take (b.length - k))≤Tr.szL b:=Nat.le_trans (Tr.szL_take_le _ _) (szL_drop_le _ _)
        generalize (o.drop i).take (n - i)=g1 at *
        generalize (a.drop j).take (a.length - j)=g2 at *
        generalize (b.drop k).take (b.length - k)=g3 at *
        have P1:=Lib.hid (fun (W':World) (h:Pr wr W')=>part_any N TC.out i (by omega) (hmr.pr h) (hk1.pr h) (hk2.pr h) (hk3.pr h) (by omega) (by omega) (by omega) (by omega) (by omega))
        have htl:=Tr.length_le ts
        have Hlow:=Lib.hid hlowr;have Hst:=Lib.hid hst;have Hown:=Lib.hid hown
        have y1:(0:Int)≤i:=by omega
        have y2:(0:Int)≤j:=by omega
        have y3:(0:Int)≤k:=by omega
        clear hrel hown hmr hst hlow2 hlowr hk1 hk2 hk3
        generalize partM (mixT N) g1 g2 g3 i=rt at *
        have hp:=Pr.refl wr
        have Hne:=Lib.hid hne
        clear hne
        go_upto_region 11 with fail
        obtain ⟨w4,hw4⟩:∃ w4,w4=wr:=⟨_,rfl⟩
        subst hw4
        have hp4:=hp
        clear hp
        refine wp_region_move_tail 15 _ (by kernel_rfl) (by kernel_rfl) (fun _ _ _ h=>h) rfl (fun _=>rfl) ?_
        simp only [List.take_succ_cons,List.take_zero,List.drop_succ_cons,List.drop_zero,Nat.reduceSub,Act.put,List.setIfInBounds_toArray,List.set_cons_zero,List.set_cons_succ]
        repeat (go_big_quiet_step (fail))
        refine wpQuiet_nil ?_
        rintro _ ⟨nq,rfl⟩
        have hq:=hp4.trans (Pr.drewN w4 nq)
        cases rt with
        | error e =>
          have Hr:=Lib.hid (he e rfl)
          clear he hok
          go_wp2_with (go_at_call 172;(with_reducible refine Calls.mono (P1.out _ hq) ?_);rintro e5 w5 ⟨oa5,cap5,rfl,hi5,hc5⟩)
          rw [Hr.out]
          exact ⟨rfl,oa5,cap5,by simp,hi5,(Hlow.out.pr hq).trans hc5 (fun _ h=>.inl h)⟩
        | ok s =>
          obtain ⟨hsz,hrel2⟩:=hok (fun o a b t=>mixT_sz N o a b t) s rfl
          have Hrel2:=Lib.hid hrel2
          have hll:=Tr.length_le (ts ++ s)
          rw [List.length_append] at hll
          have hvb:∀ k',Value.ownBlock _=some k'→w2.heap.size≤k'∧k' < w4.heap.size:=Hown.out.block
          have hwr:=Hst.out.chg.size
          have hqs:=hq.size
          clear he hok hrel2
          go_wp2_with (first
            | (go_at_call 172;(with_reducible refine Calls.mono (P1.out _ hq) ?_);rintro e5 w5 ⟨v5,pv5,rfl,ho5,hm5,hs5⟩;obtain ⟨o5,c5,rfl,hk5⟩:=ho5.kids)
            | (at_builtin;go_must (refine appAs rfl _ _ rfl w2.heap.size _ pv5 ts rfl ((Hown.out.pr hq).step hs5 (by omega)) s _ rfl _ _ rfl (hk5.mono (fun k' hS _=>⟨by have:=hS.1;omega,fun e=>by have:=(hvb k' e).2;have:=hS.1;omega,hS.2⟩)) (by omega) (by have:=hs5.chg.size;omega) (fun k' e=>(hm5.own.block k' e).2) ?_);intro v6 w6 ho6 hg6))
          have hs6:=(((Hst.out.pr hq).trans hs5)).grown hg6 (fun k' e=>(hvb k' e).1)
          have hm6:=hm5.grown hg6 (fun e=>by have:=(hvb M e).1;omega) (fun k' e=>((Hown.out.pr hq).step hs5 (by omega)).ne k' e)
          refine ⟨⟨n+1,n+1,a.length+1,b.length+1,pv5,ts ++ s,by have:=Hne.out;omega,by go_num,by go_num,by go_num,by go_num,ho6,hm6,hs6,.inr ⟨by have:=Hne.out;omega,Hrel2.out⟩⟩,?_⟩
          have:=Hne.out;simp [intOf];omega
      · have hr:r=.ok ts:=by rcases hrel with ⟨h1,_⟩ | ⟨_,h1⟩;omega;exact h1
        have Hr:=Lib.hid hr
        have d1:decide ((n:Int)≤o.length)=false:=by simp;omega
        clear hrel hr
        go_wp2_with fail
        go_ret
        rw [Hr.out]
        exact ⟨_,pq,rfl,hown.mono hws,hmr,⟨(Hp.out.chg _).trans hst.chg (fun _ h=>.inl h),fun k' e=>(hst.new k' e).imp id (fun h=>Nat.le_trans hws h)⟩⟩
end Go.Proofs.YtdbnfhpgmcjngabGreatDoor
/- Walks: what two made of one tree. -/
namespace Go.Proofs.YtdbnfhpgmcjngabGreatDoor
open Go Go.RowKit
theorem listAt0 {α:Type} {x0:α} {l:List α}:(x0 :: l).toArray[0]? = some x0:=by simp
theorem listAt1 {α:Type} {x0 x1:α} {l:List α}:(x0 :: x1 :: l).toArray[1]? = some x1:=by simp
theorem listAt2 {α:Type} {x0 x1 x2:α} {l:List α}:(x0 :: x1 :: x2 :: l).toArray[2]? = some x2:=by simp
theorem listAt3 {α:Type} {x0 x1 x2 x3:α} {l:List α}:(x0 :: x1 :: x2 :: x3 :: l).toArray[3]? = some x3:=by simp
theorem listAt4 {α:Type} {x0 x1 x2 x3 x4:α} {l:List α}:(x0 :: x1 :: x2 :: x3 :: x4 :: l).toArray[4]? = some x4:=by simp
theorem listAt5 {α:Type} {x0 x1 x2 x3 x4 x5:α} {l:List α}:(x0 :: x1 :: x2 :: x3 :: x4 :: x5 :: l).toArray[5]? = some x5:=by simp
theorem listAt6 {α:Type} {x0 x1 x2 x3 x4 x5 x6:α} {l:List α}:(x0 :: x1 :: x2 :: x3 :: x4 :: x5 :: x6 :: l).toArray[6]? = some x6:=by simp
theorem listAt7 {α:Type} {x0 x1 x2 x3 x4 x5 x6 x7:α} {l:List α}:(x0 :: x1 :: x2 :: x3 :: x4 :: x5 :: x6 :: x7 :: l).toArray[7]? = some x7:=by simp
theorem listAt8 {α:Type} {x0 x1 x2 x3 x4 x5 x6 x7 x8:α} {l:List α}:(x0 :: x1 :: x2 :: x3 :: x4 :: x5 :: x6 :: x7 :: x8 :: l).toArray[8]? = some x8:=by simp
theorem listAt9 {α:Type} {x0 x1 x2 x3 x4 x5 x6 x7 x8 x9:α} {l:List α}:(x0 :: x1 :: x2 :: x3 :: x4 :: x5 :: x6 :: x7 :: x8 :: x9 :: l).toArray[9]? = some x9:=by simp
theorem listAt10 {α:Type} {x0 x1 x2 x3 x4 x5 x6 x7 x8 x9 x10:α} {l:List α}:(x0 :: x1 :: x2 :: x3 :: x4 :: x5 :: x6 :: x7 :: x8 :: x9 :: x10 :: l).toArray[10]? = some x10:=by simp
theorem listAt11 {α:Type} {x0 x1 x2 x3 x4 x5 x6 x7 x8 x9 x10 x11:α} {l:List α}:(x0 :: x1 :: x2 :: x3 :: x4 :: x5 :: x6 :: x7 :: x8 :: x9 :: x10 :: x11 :: l).toArray[11]? = some x11:=by simp
theorem listAt12 {α:Type} {x0 x1 x2 x3 x4 x5 x6 x7 x8 x9 x10 x11 x12:α} {l:List α}:(x0 :: x1 :: x2 :: x3 :: x4 :: x5 :: x6 :: x7 :: x8 :: x9 :: x10 :: x11 :: x12 :: l).toArray[12]? = some x12:=by simp
theorem listAt13 {α:Type} {x0 x1 x2 x3 x4 x5 x6 x7 x8 x9 x10 x11 x12 x13:α} {l:List α}:(x0 :: x1 :: x2 :: x3 :: x4 :: x5 :: x6 :: x7 :: x8 :: x9 :: x10 :: x11 :: x12 :: x13 :: l).toArray[13]? = some x13:=by simp
theorem listAt14 {α:Type} {x0 x1 x2 x3 x4 x5 x6 x7 x8 x9 x10 x11 x12 x13 x14:α} {l:List α}:(x0 :: x1 :: x2 :: x3 :: x4 :: x5 :: x6 :: x7 :: x8 :: x9 :: x10 :: x11 :: x12 :: x13 :: x14 :: l).toArray[14]? = some x14:=by simp
theorem MOk.setCell {w:World} {M:Nat} {pv:Value} {p:List Int} (h:MOk w M pv p) (a:Addr) (u:Value) (h1:a.block≠M) (h2:∀ k,pv.ownBlock=some k→a.block≠k):MOk (w.setCell a u) M pv p :=
  ⟨by rw [Below.heap_setCell _ _ _ _ (fun e=>h1 e.symm)];exact h.blk,h.own.kept (fun k hk=>Below.heap_setCell _ _ _ _ (fun e=>h2 k hk e.symm)),h.len⟩
section
variable {M:Nat} {pv:Value} {p:List Int} {w:World} {l1 l2 l3:ByteArray} {k1 k2 k3:List Tr} {o1 o2 o3:Option Addr} {c1 c2 c3:Nat}
theorem MixPost.own {l:ByteArray} {ks:List Tr} {oa:Option Addr} {cap:Nat} {w':World} (hl:l.size≤maxLen) (hk:Kids (From w.heap.size) w' ks oa cap) (hm:MOk w M pv p) (hp:Pr w w') :
    MixPost M pv p w (.ok (.node l ks)) (.returned (.agg #[.string l,.slice oa ks.length cap])) w' :=
  ⟨l,ks,oa,cap,pv,rfl,hl,rfl,hk.mono (fun k hk _=>⟨hk,fun e=>by have:=(hm.own.block k e).2;have hk':w.heap.size≤k:=hk;omega⟩),hm.pr hp,⟨hp.chg _,fun _ h=>.inl h⟩⟩
set_option maxRecDepth 100000 in
set_option maxHeartbeats 1600000 in
theorem mtree_a (s2:Tr.szL k2≤1000) (hl2:l2.size≤maxLen) (hm:MOk w M pv p) (hk1:Kids Any w k1 o1 c1) (hk2:Kids Any w k2 o2 c2) (hk3:Kids Any w k3 o3 c3) (h:((Tr.node l2 k2).beq (.node l3 k3) || (Tr.node l3 k3).beq (.node l1 k1))=true) :
    Calls Tryz.prog 145 #[.pointer (some ⟨M,0,none⟩),.agg #[.string l1,.slice o1 k1.length c1],.agg #[.string l2,.slice o2 k2.length c2],.agg #[.string l3,.slice o3 k3.length c3]] w (MixPost M pv p w (.ok (.node l2 k2))):=by
  obtain ⟨W,hW⟩:∃ W,W=(((w.alloc (.cells #[.string l1,.slice o1 k1.length c1] 46)).alloc (.cells #[.string l2,.slice o2 k2.length c2] 46)).alloc (.cells #[.string l3,.slice o3 k3.length c3] 46)).alloc (.cells #[.string ⟨#[]⟩,.slice none 0 0] 46):=⟨_,rfl⟩
  have hwW:Pr w W:=by rw [hW];exact (((Pr.alloc _ _).alloc' _).alloc' _).alloc' _
  have hWs:W.heap.size=w.heap.size+4:=by rw [hW];simp
  have x0:=stays (show W.cell? ⟨w.heap.size,0,none⟩=some (.string l1) by rw [hW];simp [go_sem])
  have x1:=stays (show W.cell? ⟨w.heap.size,1,none⟩=some (.slice o1 k1.length c1) by rw [hW];simp [go_sem])
  have y0:=stays (show W.cell? ⟨w.heap.size+1,0,none⟩=some (.string l2) by rw [hW];simp [go_sem])
  have y1:=stays (show W.cell? ⟨w.heap.size+1,1,none⟩=some (.slice o2 k2.length c2) by rw [hW];simp [go_sem])
  have z0:=stays (show W.cell? ⟨w.heap.size+1+1,0,none⟩=some (.string l3) by rw [hW];simp [go_sem])
  have z1:=stays (show W.cell? ⟨w.heap.size+1+1,1,none⟩=some (.slice o3 k3.length c3) by rw [hW];simp [go_sem])
  have r0:=stays (show W.cell? ⟨w.heap.size+1+1+1,0,none⟩=some (.string ⟨#[]⟩) by rw [hW];simp [go_sem])
  have r1:=stays (show W.cell? ⟨w.heap.size+1+1+1,1,none⟩=some (.slice none 0 0) by rw [hW];simp [go_sem])
  have f0:W.frozen? ⟨w.heap.size+1+1+1,0,none⟩=false:=by rw [hW];simp [go_sem]
  have f1:W.frozen? ⟨w.heap.size+1+1+1,1,none⟩=false:=by rw [hW];simp [go_sem]
  have hk1:=hk1.pr hwW;have hk2:=hk2.pr hwW;have hk3:=hk3.pr hwW
  have S1:=Lib.hid (fun W' (h:Pr W W')=>psame_any l2 l3 k2 k3 o2 c2 o3 c3 W' (hk2.pr h) (hk3.pr h))
  have S2:=Lib.hid (fun W' (h:Pr W W')=>psame_any l3 l1 k3 k1 o3 c3 o1 c1 W' (hk3.pr h) (hk1.pr h))
  have O1:=Lib.hid (fun W' (h:Pr W W')=>own_any l2 k2 o2 c2 W' (by omega) (hk2.pr h))
  generalize (Tr.node l2 k2).beq (.node l3 k3)=t1 at *
  generalize (Tr.node l3 k3).beq (.node l1 k1)=t2 at *
  have main:t1=true∨(t1=false∧t2=true):=by cases t1 <;> cases t2 <;> simp at h ⊢
  have HM:=Lib.hid hm;have HW:=Lib.hid hwW;have HWs:=Lib.hid hWs;have F0:=Lib.hid f0;have F1:=Lib.hid f1
  clear h hm hk1 hk2 hk3 hwW hWs f0 f1
  go_enter Tryz.func145,Tryz.ntmps145
  go_upto_region 1 with fail
  rw [← hW]
  clear hW
  have hp:=Pr.refl W
  have y0':=y0 _ hp;have y1':=y1 _ hp;have z0':=z0 _ hp;have z1':=z1 _ hp
  rcases main with rfl | ⟨rfl,rfl⟩
  all_goals
    go_wp2_with (first
      | (go_at_call 158;(with_reducible refine Calls.mono (S1.out _ hp) ?_);rintro e w1 ⟨rfl,hb1⟩;have hp:=hp.trans hb1;have y0':=y0 _ hp;have y1':=y1 _ hp;have z0':=z0 _ hp;have z1':=z1 _ hp;have x0':=x0 _ hp;have x1':=x1 _ hp)
      | (go_at_call 158;(with_reducible refine Calls.mono (S2.out _ hp) ?_);rintro e w2 ⟨rfl,hb2⟩;have hp:=hp.trans hb2;have y0':=y0 _ hp;have y1':=y1 _ hp)
      | (go_at_call 83;(with_reducible refine Calls.mono (O1.out _ hp) ?_);rintro e w3 ⟨oa2,cap2,rfl,hkk,hb3⟩;have hcs:=hp.size;have hp:=hp.trans hb3;have r0':=r0 _ hp;have r1':=r1 _ hp;have f0':w3.frozen? ⟨w.heap.size+1+1+1,0,none⟩=false:=(by rw [hp.frozen (by have:=HWs.out;omega)];exact F0.out);have f1':w3.frozen? ⟨w.heap.size+1+1+1,1,none⟩=false:=(by rw [hp.frozen (by have:=HWs.out;omega)];exact F1.out)))
    refine bodyPost_ret (v:=.agg #[.string l2,.slice oa2 k2.length cap2]) (by simp [results,Tryz.results145,go_sem,r0',r1']) rfl (MixPost.own hl2 ?_ HM.out ?_)
    · exact ((hkk.setCell _ _ (by have:=HWs.out;simp;omega)).setCell _ _ (by have:=HWs.out;simp;omega)).from (by have:=HWs.out;omega)
    · exact ((HW.out.trans hp).setCell (by simp;omega) _).setCell (by simp;omega) _
set_option maxRecDepth 100000 in
set_option maxHeartbeats 1600000 in
theorem mtree_b (s3:Tr.szL k3≤1000) (hl3:l3.size≤maxLen) (hm:MOk w M pv p) (hk1:Kids Any w k1 o1 c1) (hk2:Kids Any w k2 o2 c2) (hk3:Kids Any w k3 o3 c3) (h:¬ ((Tr.node l2 k2).beq (.node l3 k3) || (Tr.node l3 k3).beq (.node l1 k1))=true) (h1:(Tr.node l2 k2).beq (.node l1 k1)=true) :
    Calls Tryz.prog 145 #[.pointer (some ⟨M,0,none⟩),.agg #[.string l1,.slice o1 k1.length c1],.agg #[.string l2,.slice o2 k2.length c2],.agg #[.string l3,.slice o3 k3.length c3]] w (MixPost M pv p w (.ok (.node l3 k3))):=by
  obtain ⟨W,hW⟩:∃ W,W=(((w.alloc (.cells #[.string l1,.slice o1 k1.length c1] 46)).alloc (.cells #[.string l2,.slice o2 k2.length c2] 46)).alloc (.cells #[.string l3,.slice o3 k3.length c3] 46)).alloc (.cells #[.string ⟨#[]⟩,.slice none 0 0] 46):=⟨_,rfl⟩
  have hwW:Pr w W:=by rw [hW];exact (((Pr.alloc _ _).alloc' _).alloc' _).alloc' _
  have hWs:W.heap.size=w.heap.size+4:=by rw [hW];simp
  have x0:=stays (show W.cell? ⟨w.heap.size,0,none⟩=some (.string l1) by rw [hW];simp [go_sem])
  have x1:=stays (show W.cell? ⟨w.heap.size,1,none⟩=some (.slice o1 k1.length c1) by rw [hW];simp [go_sem])
  have y0:=stays (show W.cell? ⟨w.heap.size+1,0,none⟩=some (.string l2) by rw [hW];simp [go_sem])
  have y1:=stays (show W.cell? ⟨w.heap.size+1,1,none⟩=some (.slice o2 k2.length c2) by rw [hW];simp [go_sem])
  have z0:=stays (show W.cell? ⟨w.heap.size+1+1,0,none⟩=some (.string l3) by rw [hW];simp [go_sem])
  have z1:=stays (show W.cell? ⟨w.heap.size+1+1,1,none⟩=some (.slice o3 k3.length c3) by rw [hW];simp [go_sem])
  have r0:=stays (show W.cell? ⟨w.heap.size+1+1+1,0,none⟩=some (.string ⟨#[]⟩) by rw [hW];simp [go_sem])
  have r1:=stays (show W.cell? ⟨w.heap.size+1+1+1,1,none⟩=some (.slice none 0 0) by rw [hW];simp [go_sem])
  have f0:W.frozen? ⟨w.heap.size+1+1+1,0,none⟩=false:=by rw [hW];simp [go_sem]
  have f1:W.frozen? ⟨w.heap.size+1+1+1,1,none⟩=false:=by rw [hW];simp [go_sem]
  have hk1:=hk1.pr hwW;have hk2:=hk2.pr hwW;have hk3:=hk3.pr hwW
  have S1:=Lib.hid (fun W' (h:Pr W W')=>psame_any l2 l3 k2 k3 o2 c2 o3 c3 W' (hk2.pr h) (hk3.pr h))
  have S2:=Lib.hid (fun W' (h:Pr W W')=>psame_any l3 l1 k3 k1 o3 c3 o1 c1 W' (hk3.pr h) (hk1.pr h))
  have S3:=Lib.hid (fun W' (h:Pr W W')=>psame_any l2 l1 k2 k1 o2 c2 o1 c1 W' (hk2.pr h) (hk1.pr h))
  have O1:=Lib.hid (fun W' (h:Pr W W')=>own_any l3 k3 o3 c3 W' (by omega) (hk3.pr h))
  generalize (Tr.node l2 k2).beq (.node l3 k3)=t1 at *
  generalize (Tr.node l3 k3).beq (.node l1 k1)=t2 at *
  rw [h1] at S3
  have main:t1=false∧t2=false:=by cases t1 <;> cases t2 <;> simp at h ⊢
  have HM:=Lib.hid hm;have HW:=Lib.hid hwW;have HWs:=Lib.hid hWs;have F0:=Lib.hid f0;have F1:=Lib.hid f1
  clear h h1 hm hk1 hk2 hk3 hwW hWs f0 f1
  go_enter Tryz.func145,Tryz.ntmps145
  go_upto_region 1 with fail
  rw [← hW]
  clear hW
  have hp:=Pr.refl W
  have y0':=y0 _ hp;have y1':=y1 _ hp;have z0':=z0 _ hp;have z1':=z1 _ hp
  obtain ⟨rfl,rfl⟩:=main
  all_goals
    go_wp2_with (first
      | (go_at_call 158;(with_reducible refine Calls.mono (S1.out _ hp) ?_);rintro e w1 ⟨rfl,hb1⟩;have hp:=hp.trans hb1;have y0':=y0 _ hp;have y1':=y1 _ hp;have z0':=z0 _ hp;have z1':=z1 _ hp;have x0':=x0 _ hp;have x1':=x1 _ hp)
      | (go_at_call 158;(with_reducible refine Calls.mono (S2.out _ hp) ?_);rintro e w2 ⟨rfl,hb2⟩;have hp:=hp.trans hb2;have y0':=y0 _ hp;have y1':=y1 _ hp;have z0':=z0 _ hp;have z1':=z1 _ hp;have x0':=x0 _ hp;have x1':=x1 _ hp)
      | (go_at_call 158;(with_reducible refine Calls.mono (S3.out _ hp) ?_);rintro e w2 ⟨rfl,hb4⟩;have hp:=hp.trans hb4;have y0':=y0 _ hp;have y1':=y1 _ hp;have z0':=z0 _ hp;have z1':=z1 _ hp;have x0':=x0 _ hp;have x1':=x1 _ hp)
      | (go_at_call 83;(with_reducible refine Calls.mono (O1.out _ hp) ?_);rintro e w3 ⟨oa2,cap2,rfl,hkk,hb3⟩;have hcs:=hp.size;have hp:=hp.trans hb3;have r0':=r0 _ hp;have r1':=r1 _ hp;have f0':w3.frozen? ⟨w.heap.size+1+1+1,0,none⟩=false:=(by rw [hp.frozen (by have:=HWs.out;omega)];exact F0.out);have f1':w3.frozen? ⟨w.heap.size+1+1+1,1,none⟩=false:=(by rw [hp.frozen (by have:=HWs.out;omega)];exact F1.out)))
    refine bodyPost_ret (v:=.agg #[.string l3,.slice oa2 k3.length cap2]) (by simp [results,Tryz.results145,go_sem,r0',r1']) rfl (MixPost.own hl3 ?_ HM.out ?_)
    · exact ((hkk.setCell _ _ (by have:=HWs.out;simp;omega)).setCell _ _ (by have:=HWs.out;simp;omega)).from (by have:=HWs.out;omega)
    · exact ((HW.out.trans hp).setCell (by simp;omega) _).setCell (by simp;omega) _
set_option maxRecDepth 100000 in
set_option maxHeartbeats 3200000 in
theorem mtree_c (N:Nat) (LC:ListsC N) (hsz:Tr.szL k1≤N) (s1:Tr.szL k1≤1000) (s2:Tr.szL k2≤1000) (s3:Tr.szL k3≤1000) (hpl:p.length+Tr.szL k1≤899) (hl2:l2.size≤maxLen) (hl3:l3.size≤maxLen) (hm:MOk w M pv p)
    (r:Ex Tr) (hr:r=match mixL l1 l2 l3 with
      | none=>.error []
      | some l=>exMap (Tr.node l) (segM (mixT N) k1 k2 k3 (held (common k1 k2) (common k1 k3)) 0 0 0))
    (hk1:Kids (fun k=>k < M) w k1 o1 c1) (hk2:Kids (fun k=>k < M) w k2 o2 c2) (hk3:Kids (fun k=>k < M) w k3 o3 c3) (h:¬ ((Tr.node l2 k2).beq (.node l3 k3) || (Tr.node l3 k3).beq (.node l1 k1))=true) (h1:¬ (Tr.node l2 k2).beq (.node l1 k1)=true) :
    Calls Tryz.prog 145 #[.pointer (some ⟨M,0,none⟩),.agg #[.string l1,.slice o1 k1.length c1],.agg #[.string l2,.slice o2 k2.length c2],.agg #[.string l3,.slice o3 k3.length c3]] w (MixPost M pv p w r):=by
  have Hr:=Lib.hid hr
  clear hr
  obtain ⟨W,hW⟩:∃ W,W=(((w.alloc (.cells #[.string l1,.slice o1 k1.length c1] 46)).alloc (.cells #[.string l2,.slice o2 k2.length c2] 46)).alloc (.cells #[.string l3,.slice o3 k3.length c3] 46)).alloc (.cells #[.string ⟨#[]⟩,.slice none 0 0] 46):=⟨_,rfl⟩
  have hwW:Pr w W:=by rw [hW];exact (((Pr.alloc _ _).alloc' _).alloc' _).alloc' _
  have hWs:W.heap.size=w.heap.size+4:=by rw [hW];simp
  have x0:=stays (show W.cell? ⟨w.heap.size,0,none⟩=some (.string l1) by rw [hW];simp [go_sem])
  have x1:=stays (show W.cell? ⟨w.heap.size,1,none⟩=some (.slice o1 k1.length c1) by rw [hW];simp [go_sem])
  have y0:=stays (show W.cell? ⟨w.heap.size+1,0,none⟩=some (.string l2) by rw [hW];simp [go_sem])
  have y1:=stays (show W.cell? ⟨w.heap.size+1,1,none⟩=some (.slice o2 k2.length c2) by rw [hW];simp [go_sem])
  have z0:=stays (show W.cell? ⟨w.heap.size+1+1,0,none⟩=some (.string l3) by rw [hW];simp [go_sem])
  have z1:=stays (show W.cell? ⟨w.heap.size+1+1,1,none⟩=some (.slice o3 k3.length c3) by rw [hW];simp [go_sem])
  have r0:=stays (show W.cell? ⟨w.heap.size+1+1+1,0,none⟩=some (.string ⟨#[]⟩) by rw [hW];simp [go_sem])
  have r1:=stays (show W.cell? ⟨w.heap.size+1+1+1,1,none⟩=some (.slice none 0 0) by rw [hW];simp [go_sem])
  have f0:W.frozen? ⟨w.heap.size+1+1+1,0,none⟩=false:=by rw [hW];simp [go_sem]
  have f1:W.frozen? ⟨w.heap.size+1+1+1,1,none⟩=false:=by rw [hW];simp [go_sem]
  have hk1:=hk1.pr hwW;have hk2:=hk2.pr hwW;have hk3:=hk3.pr hwW
  have S1:=Lib.hid (fun W' (h:Pr W W')=>psame_any l2 l3 k2 k3 o2 c2 o3 c3 W' (hk2.any.pr h) (hk3.any.pr h))
  have S2:=Lib.hid (fun W' (h:Pr W W')=>psame_any l3 l1 k3 k1 o3 c3 o1 c1 W' (hk3.any.pr h) (hk1.any.pr h))
  have S3:=Lib.hid (fun W' (h:Pr W W')=>psame_any l2 l1 k2 k1 o2 c2 o1 c1 W' (hk2.any.pr h) (hk1.any.pr h))
  generalize (Tr.node l2 k2).beq (.node l3 k3)=t1 at *
  generalize (Tr.node l3 k3).beq (.node l1 k1)=t2 at *
  generalize (Tr.node l2 k2).beq (.node l1 k1)=t3 at *
  have main:t1=false∧t2=false:=by cases t1 <;> cases t2 <;> simp at h ⊢
  have main3:t3=false:=by cases t3 <;> simp at h1 ⊢
  have hmW:=hm.pr hwW
  have L1:=Lib.hid (fun W' (h:Pr W W')=>LC k1 k2 k3 o1 o2 o3 c1 c2 c3 M pv p W' hsz s1 s2 s3 hpl (hmW.pr h) (hk1.pr h) (hk2.pr h) (hk3.pr h))
  have HM:=Lib.hid hm;have HmW:=Lib.hid hmW;have HW:=Lib.hid hwW;have HWs:=Lib.hid hWs;have F0:=Lib.hid f0;have F1:=Lib.hid f1
  clear h h1 hm hk1 hk2 hk3 hwW hWs f0 f1 LC hmW
  obtain ⟨rfl,rfl⟩:=main
  subst main3
  go_enter Tryz.func145,Tryz.ntmps145
  go_upto_region 1 with fail
  rw [← hW]
  clear hW
  have hp:=Pr.refl W
  have y0':=y0 _ hp;have y1':=y1 _ hp;have z0':=z0 _ hp;have z1':=z1 _ hp
  go_upto_region 5 with (first
    | (go_at_call 158;(with_reducible refine Calls.mono (S1.out _ hp) ?_);rintro e w1 ⟨rfl,hb1⟩;have hp:=hp.trans hb1;have y0':=y0 _ hp;have y1':=y1 _ hp;have z0':=z0 _ hp;have z1':=z1 _ hp;have x0':=x0 _ hp;have x1':=x1 _ hp)
    | (go_at_call 158;(with_reducible refine Calls.mono (S2.out _ hp) ?_);rintro e w2 ⟨rfl,hb2⟩;have hp:=hp.trans hb2;have y0':=y0 _ hp;have y1':=y1 _ hp;have z0':=z0 _ hp;have z1':=z1 _ hp;have x0':=x0 _ hp;have x1':=x1 _ hp)
    | (go_at_call 158;(with_reducible refine Calls.mono (S3.out _ hp) ?_);rintro e w3 ⟨rfl,hb3⟩;have hp:=hp.trans hb3))
  have hp3:=hp
  have x0:=stays (x0 _ hp3);have x1:=stays (x1 _ hp3);have y0:=stays (y0 _ hp3);have y1:=stays (y1 _ hp3);have z0:=stays (z0 _ hp3);have z1:=stays (z1 _ hp3)
  clear hp hb1 hb2 hb3 S1 S2 S3 y0' y1' z0' z1'
  cases hml:mixL l1 l2 l3 with
  | none =>
    have hq:=Pr.drew w3
    have F2:=Lib.hid (fun W' (h:Pr w3 W')=>mlabel_no W' M pv p l1 l2 l3 (HmW.out.pr (hp3.trans h)) hml)
    refine wp_region_held_drew (S:=fun W'=>Pr w3 W') (by kernel_rfl) hq (fun hHeld=>?_)
    refine wpAnyH_take (v:=?_) listAt0 (by kernel_rfl) (by kernel_rfl) (by kernel_rfl) (fun _ _ _ h=>h) (Or.inl ⟨by rfl,?_⟩) hHeld ?_
    rotate_left
    · (intro wz hSw;(try dsimp only at hSw);go_simp;first | done | with_reducible rfl)
    simp only [Act.put,List.setIfInBounds_toArray,List.set_cons_zero,List.set_cons_succ]
    refine wpAnyH_take (v:=?_) listAt1 (by kernel_rfl) (by kernel_rfl) (by kernel_rfl) (fun _ _ _ h=>h) (Or.inl ⟨by rfl,?_⟩) hHeld ?_
    rotate_left
    · (intro wz hSw;(try dsimp only at hSw);go_simp;first | done | with_reducible rfl)
    simp only [Act.put,List.setIfInBounds_toArray,List.set_cons_zero,List.set_cons_succ]
    refine wpAnyH_take (v:=?_) listAt2 (by kernel_rfl) (by kernel_rfl) (by kernel_rfl) (fun _ _ _ h=>h) (Or.inl ⟨by rfl,?_⟩) hHeld ?_
    rotate_left
    · (intro wz hSw;(try dsimp only at hSw);go_simp;first | done | with_reducible rfl)
    simp only [Act.put,List.setIfInBounds_toArray,List.set_cons_zero,List.set_cons_succ]
    refine wpAnyH_take (v:=?_) listAt3 (by kernel_rfl) (by kernel_rfl) (by kernel_rfl) (fun _ _ _ h=>h) (Or.inl ⟨by rfl,?_⟩) hHeld ?_
    rotate_left
    · (intro wz hSw;(try dsimp only at hSw);go_simp;first | done | with_reducible rfl)
    simp only [Act.put,List.setIfInBounds_toArray,List.set_cons_zero,List.set_cons_succ]
    refine wpAnyH_take (v:=?_) listAt4 (by kernel_rfl) (by kernel_rfl) (by kernel_rfl) (fun _ _ _ h=>h) (Or.inl ⟨by rfl,?_⟩) hHeld ?_
    rotate_left
    · (intro wz hSw;(try dsimp only at hSw);go_simp;first | done | with_reducible rfl)
    simp only [Act.put,List.setIfInBounds_toArray,List.set_cons_zero,List.set_cons_succ]
    refine wpAnyH_take (v:=?_) listAt5 (by kernel_rfl) (by kernel_rfl) (by kernel_rfl) (fun _ _ _ h=>h) (Or.inl ⟨by rfl,?_⟩) hHeld ?_
    rotate_left
    · (intro wz hSw;(try dsimp only at hSw);go_simp;first | done | with_reducible rfl)
    simp only [Act.put,List.setIfInBounds_toArray,List.set_cons_zero,List.set_cons_succ]
    refine wpAnyH_take (v:=?_) listAt6 (by kernel_rfl) (by kernel_rfl) (by kernel_rfl) (fun _ _ _ h=>h) (Or.inl ⟨by rfl,?_⟩) hHeld ?_
    rotate_left
    · (intro wz hSw;(try dsimp only at hSw);go_simp;first | done | with_reducible rfl)
    simp only [Act.put,List.setIfInBounds_toArray,List.set_cons_zero,List.set_cons_succ]
    refine wpAnyH_take (v:=?_) listAt8 (by kernel_rfl) (by kernel_rfl) (by kernel_rfl) (fun _ _ _ h=>h) (Or.inl ⟨by rfl,?_⟩) hHeld ?_
    rotate_left
    · (intro wz hSw;(try dsimp only at hSw);go_simp;first | done | with_reducible rfl)
    simp only [Act.put,List.setIfInBounds_toArray,List.set_cons_zero,List.set_cons_succ]
    refine wpAnyH_take (v:=?_) listAt9 (by kernel_rfl) (by kernel_rfl) (by kernel_rfl) (fun _ _ _ h=>h) (Or.inl ⟨by rfl,?_⟩) hHeld ?_
    rotate_left
    · (intro wz hSw;(try dsimp only at hSw);go_simp;first | done | with_reducible rfl)
    simp only [Act.put,List.setIfInBounds_toArray,List.set_cons_zero,List.set_cons_succ]
    refine wpAnyH_take (v:=?_) listAt10 (by kernel_rfl) (by kernel_rfl) (by kernel_rfl) (fun _ _ _ h=>h) (Or.inl ⟨by rfl,?_⟩) hHeld ?_
    rotate_left
    · (intro wz hSw;(try dsimp only at hSw);go_simp;first | done | with_reducible rfl)
    simp only [Act.put,List.setIfInBounds_toArray,List.set_cons_zero,List.set_cons_succ]
    refine wpAnyH_take (v:=?_) listAt11 (by kernel_rfl) (by kernel_rfl) (by kernel_rfl) (fun _ _ _ h=>h) (Or.inl ⟨by rfl,?_⟩) hHeld ?_
    rotate_left
    · (intro wz hSw;(try dsimp only at hSw);go_simp;first | done | with_reducible rfl)
    simp only [Act.put,List.setIfInBounds_toArray,List.set_cons_zero,List.set_cons_succ]
    refine wpAnyH_take (v:=?_) listAt12 (by kernel_rfl) (by kernel_rfl) (by kernel_rfl) (fun _ _ _ h=>h) (Or.inl ⟨by rfl,?_⟩) hHeld ?_
    rotate_left
    · (intro wz hSw;(try dsimp only at hSw);go_simp;first | done | with_reducible rfl)
    simp only [Act.put,List.setIfInBounds_toArray,List.set_cons_zero,List.set_cons_succ]
    refine wpAnyH_take (v:=?_) listAt13 (by kernel_rfl) (by kernel_rfl) (by kernel_rfl) (fun _ _ _ h=>h) (Or.inl ⟨by rfl,?_⟩) hHeld ?_
    rotate_left
    · (intro wz hSw;(try dsimp only at hSw);go_simp;first | done | with_reducible rfl)
    simp only [Act.put,List.setIfInBounds_toArray,List.set_cons_zero,List.set_cons_succ]
    refine wpAnyH_take (v:=?_) listAt14 (by kernel_rfl) (by kernel_rfl) (by kernel_rfl) (fun _ _ _ h=>h) (Or.inl ⟨by rfl,?_⟩) hHeld ?_
    rotate_left
    · (intro wz hSw;(try dsimp only at hSw);go_simp;first | done | with_reducible rfl)
    simp only [Act.put,List.setIfInBounds_toArray,List.set_cons_zero,List.set_cons_succ]
    refine wpAnyH_ready (rs:=[7]) (by kernel_rfl) (by simp) ?_
    refine AllReadyH.cons listAt7 (fun K hK=>?_) AllReadyH.nil
    go_simp
    go_wp2_with (go_at_call 159;(with_reducible refine Calls.mono (F2.out _ hq) ?_);rintro e w5 ⟨oa5,cap5,rfl,hi5,hb5⟩)
    have hr2:=Hr.out
    rw [hml] at hr2
    rw [hr2]
    exact ⟨rfl,oa5,cap5,by simp,by rw [List.append_nil];exact hi5.mono (fun k hk _=>by have:=blk_lt HM.out.blk;have:=(HW.out.trans (hp3.trans hq)).size;have hk':w3.drew.heap.size≤k:=hk;show M≤k;omega),(HW.out.trans (hp3.trans (hq.trans hb5))).chg _⟩
  | some l =>
    have hml2:=hml
    have hll:l.size≤maxLen:=by
      unfold mixL at hml2
      split at hml2
      · cases hml2;exact hl2
      · split at hml2
        · cases hml2;exact hl3
        · cases hml2
    have F2:=Lib.hid (fun (W':World)=>mlabel_yes W' M l1 l2 l3 l hml)
    have Hll:=Lib.hid hll
    have hr2:=Hr.out
    rw [hml] at hr2
    simp only [] at hr2
    have r0:=stays (r0 _ hp3);have r1:=stays (r1 _ hp3)
    clear hml hml2 hl2 hl3 hll
    have x0:=x0 _ (Pr.refl _);have x1:=x1 _ (Pr.refl _);have y0:=y0 _ (Pr.refl _);have y1:=y1 _ (Pr.refl _);have z0:=z0 _ (Pr.refl _);have z1:=z1 _ (Pr.refl _)
    generalize segM (mixT N) k1 k2 k3 (held (common k1 k2) (common k1 k3)) 0 0 0=rt at *
    have Hr2:=Lib.hid hr2
    clear hr2
    refine wp_region_quiet_tail 15 (by kernel_rfl) (by kernel_rfl) ?_
    simp only [List.take_succ_cons,List.take_zero,List.drop_succ_cons,List.drop_zero]
    repeat (go_big_quiet_step ((go_at_call 159;exact Calls.quiet_of_same (F2.out _))))
    refine wpQuiet_nil ?_
    rintro _ ⟨nq,rfl⟩
    have hq:=Pr.drewN w3 nq
    cases rt with
    | error e =>
      go_wp2_with (go_at_call 160;(with_reducible refine Calls.mono (L1.out _ (hp3.trans hq)) ?_);rintro e5 w5 ⟨oa5,cap5,rfl,hi5,hc5⟩)
      rw [Hr2.out]
      exact ⟨rfl,oa5,cap5,by simp,hi5,((HW.out.trans (hp3.trans hq)).chg _).trans hc5 (fun _ h=>.inl h)⟩
    | ok ks =>
      have hMw:M < w.heap.size:=blk_lt HM.out.blk
      have hpb:∀ k',pv.ownBlock=some k'→k' < w.heap.size:=fun k' e=>(HM.out.own.block k' e).2
      have hs3:=(hp3.trans hq).size
      go_wp2_with (go_at_call 160; (with_reducible refine Calls.mono (L1.out _ (hp3.trans hq)) ?_); rintro e5 w5 ⟨v5, pv5, rfl, ho5, hm5, hs5⟩; obtain ⟨o5, c5, rfl, hk5⟩ := ho5.kids
                   have hkp:∀ (k':Nat),k'=w.heap.size+1+1+1→w5.heap[k']? = (w3.drewN nq).heap[k']? := (fun k' e=>hs5.chg.block k' (by rw [e];have:=HWs.out;omega) (by rintro (e2 | e2);omega;have:=hpb k' e2;omega))
                   have r0':w5.cell? ⟨w.heap.size+1+1+1,0,none⟩=some (.string ⟨#[]⟩):=(by rw [World.cell?_of_block (hkp _ rfl)];exact r0 _ hq)
                   have r1':w5.cell? ⟨w.heap.size+1+1+1,1,none⟩=some (.slice none 0 0):=(by rw [World.cell?_of_block (hkp _ rfl)];exact r1 _ hq)
                   have f0':w5.frozen? ⟨w.heap.size+1+1+1,0,none⟩=false:=(by rw [World.frozen?_of_block (hkp _ rfl),(hp3.trans hq).frozen (by have:=HWs.out;omega)];exact F0.out)
                   have f1':w5.frozen? ⟨w.heap.size+1+1+1,1,none⟩=false:=(by rw [World.frozen?_of_block (hkp _ rfl),(hp3.trans hq).frozen (by have:=HWs.out;omega)];exact F1.out))
      have hst:Step M pv pv5 w w5:=(⟨(HW.out.trans (hp3.trans hq)).chg _,fun _ e=>.inl e⟩:Step M pv pv w (w3.drewN nq)).trans hs5
      have hWs:=HWs.out
      rw [Hr2.out]
      refine bodyPost_ret (v:=.agg #[.string l,.slice o5 ks.length c5]) (by simp [results,Tryz.results145,go_sem,r0',r1']) rfl ⟨l,ks,o5,c5,pv5,rfl,Hll.out,rfl,?_,?_,?_⟩
      · refine ((hk5.setCell _ _ ?_).setCell _ _ ?_).mono (fun k' hS _=>⟨by have:=hS.1;omega,hS.2⟩)
        · rintro ⟨hx,_⟩
          have hx':(w3.drewN nq).heap.size≤w.heap.size+1+1+1:=hx
          omega
        · rintro ⟨hx,_⟩
          have hx':(w3.drewN nq).heap.size≤w.heap.size+1+1+1:=hx
          omega
      · have hne:∀ k',pv5.ownBlock=some k'→w.heap.size+1+1+1≠k':=fun k' e=>by
          rcases hs5.new k' e with e2 | e2
          · have:=hpb k' e2;omega
          · omega
        exact (hm5.setCell _ _ (by show w.heap.size+1+1+1≠M;omega) hne).setCell _ _ (by show w.heap.size+1+1+1≠M;omega) hne
      · exact ⟨(hst.chg.setCell _ _ (.inr (by show w.heap.size≤w.heap.size+1+1+1;omega))).setCell _ _ (.inr (by show w.heap.size≤w.heap.size+1+1+1;omega)),hst.new⟩
end
theorem mtree_step (N:Nat) (LC:ListsC N):TreeC (N+1):=by
  intro l1 l2 l3 k1 k2 k3 o1 o2 o3 c1 c2 c3 M pv p w hsz s1 s2 s3 hpl hl2 hl3 hm hk1 hk2 hk3
  simp only [Tr.sz] at hsz hpl
  by_cases h:((Tr.node l2 k2).beq (.node l3 k3) || (Tr.node l3 k3).beq (.node l1 k1))=true
  · rw [mixT_same N _ _ _ h];exact mtree_a s2 hl2 hm hk1.any hk2.any hk3.any h
  · by_cases h1:(Tr.node l2 k2).beq (.node l1 k1)=true
    · rw [mixT_left N _ _ _ h h1];exact mtree_b s3 hl3 hm hk1.any hk2.any hk3.any h h1
    · have:=mtree_c N LC (by omega) s1 s2 s3 (by omega) hl2 hl3 hm _ rfl hk1 hk2 hk3 h h1
      have e:mixT (N+1) (.node l1 k1) (.node l2 k2) (.node l3 k3)=(match mixL l1 l2 l3 with
        | none=>.error []
        | some l=>exMap (Tr.node l) (segM (mixT N) k1 k2 k3 (held (common k1 k2) (common k1 k3)) 0 0 0)):=by
        rw [mixT,if_neg h,if_neg h1]
        simp only [Tr.kids_node,Tr.label_node,heldT]
        cases mixL l1 l2 l3 with
        | none=>rfl
        | some l=>simp only [];cases segM (mixT N) k1 k2 k3 (held (common k1 k2) (common k1 k3)) 0 0 0 <;> rfl
      rw [e];exact this
theorem mtree_any:∀ N,TreeC N
  | 0=>fun l1 l2 l3 k1 k2 k3 o1 o2 o3 c1 c2 c3 M pv p w hsz=>by simp only [Tr.sz] at hsz;omega
  | N+1=>mtree_step N (lists_any N (mtree_any N))
end Go.Proofs.YtdbnfhpgmcjngabGreatDoor
/- Walks: merge.Merge; what it gives up by is caught. -/
namespace Go.Proofs.YtdbnfhpgmcjngabGreatDoor
open Go Go.RowKit
theorem under_gone:Tryz.prog.underlying 208=some (.slice 3):=by kernel_rfl
theorem assert_gone (x:Value) (T:TypeId) (W:World):(Instr.typeAssert (.iface 208 x) T 208 true).run Tryz.prog W=.ok (.tuple #[x,.bool true]) W:=by
  simp [Instr.typeAssert,run_underlying under_gone]
theorem Chg.to_pr' {X:Nat→Prop} {w w1 w2:World} (h:Chg X w1 w2) (hp:Pr w w1) (hX:∀ k,X k→w.heap.size≤k):Pr w w2 :=
  ((hp.chg X).trans h (fun _ h=>.inl h)).to_pr hX
theorem mcatch_clash (A B C:Nat) (oa:Option Addr) (n cap:Nat) (older:List PanicEntry) (w:World) (a0 a1 b0 c0:Value)
    (h0:w.cell? ⟨A,0,none⟩=some a0) (h1:w.cell? ⟨A,1,none⟩=some a1) (h2:w.cell? ⟨B,0,none⟩=some b0) (h3:w.cell? ⟨C,0,none⟩=some c0)
    (f0:w.frozen? ⟨A,0,none⟩=false) (f1:w.frozen? ⟨A,1,none⟩=false) (f2:w.frozen? ⟨B,0,none⟩=false) (f3:w.frozen? ⟨C,0,none⟩=false) (ne1:A≠B) (ne2:A≠C) (ne3:B≠C) :
    CallsD Tryz.prog 144 #[.pointer (some ⟨A,0,none⟩),.pointer (some ⟨B,0,none⟩),.pointer (some ⟨C,0,none⟩)] (.panicking ({ v:=.iface 208 (.slice oa n cap),recovered:=false } :: older)) w fun e u' w' =>
      e=.returned (.tuple #[])∧u'=.panicking ({ v:=.iface 208 (.slice oa n cap),recovered:=true } :: older) ∧
        w'=(((w.setCell ⟨A,0,none⟩ (.string ⟨#[]⟩)).setCell ⟨A,1,none⟩ (.slice none 0 0)).setCell ⟨B,0,none⟩ (.slice oa n cap)).setCell ⟨C,0,none⟩ (.int .i64 12):=by
  refine callsD_of_wpS Tryz.func144 rfl fun c₀ cs hu=>?_
  apply wpS_seq
  apply wpS_region
  simp [wpOpsS,go_sem,recoverD,hu,Tryz.ntmps144,Exit.thenS]
  apply wpS_seq
  apply wpS_region
  simp [wpOpsS,go_sem,Exit.thenS]
  refine wpS_cond (t:=true) (by simp [Act.eval]) ?_
  simp only [if_true]
  apply wpS_seq
  apply wpS_region
  simp [wpOpsS,go_sem,Exit.thenS,assert_gone]
  apply wpS_seq
  apply wpS_seq
  apply wpS_region
  simp [wpOpsS,go_sem,Exit.thenS]
  refine wpS_cond (t:=false) (by simp [Act.eval]) ?_
  simp only [Bool.false_eq_true,if_false]
  refine wpS_of_wp (wp_skip ?_)
  simp only [Exit.thenS]
  have e1:∀ x,(w.setCell ⟨A,0,none⟩ x).cell? ⟨A,1,none⟩=some a1:=fun x=>by simp [go_sem,h1]
  have e2:∀ x y,((w.setCell ⟨A,0,none⟩ x).setCell ⟨A,1,none⟩ y).cell? ⟨B,0,none⟩=some b0:=fun x y=>cell_far (cell_far h2 ne1) ne1
  have e3:∀ x y z,(((w.setCell ⟨A,0,none⟩ x).setCell ⟨A,1,none⟩ y).setCell ⟨B,0,none⟩ z).cell? ⟨C,0,none⟩=some c0:=fun x y z=>cell_far (cell_far (cell_far h3 ne2) ne2) ne3
  apply wpS_region
  simp [wpOpsS,go_sem,h0,f0,f1,f2,f3,e1,e2,e3,bodyPostS,results,Tryz.results144]
theorem mcatch_idle (A B C:Nat) (w:World) :
    CallsD Tryz.prog 144 #[.pointer (some ⟨A,0,none⟩),.pointer (some ⟨B,0,none⟩),.pointer (some ⟨C,0,none⟩)] .returning w fun e u' w'=>e=.returned (.tuple #[])∧u'=.returning∧w'=w:=by
  refine callsD_of_wpS Tryz.func144 rfl fun c₀ cs hu=>?_
  apply wpS_seq
  apply wpS_region
  simp [wpOpsS,go_sem,recoverD,hu,Tryz.ntmps144,Exit.thenS]
  apply wpS_seq
  apply wpS_region
  simp [wpOpsS,go_sem,Exit.thenS]
  refine wpS_cond (t:=false) (by simp [Act.eval]) ?_
  simp only [Bool.false_eq_true,if_false]
  refine wpS_of_wp (wp_skip ?_)
  cases c₀
  simp_all [bodyPostS,results,Tryz.results144]
theorem MOk.made (wr:World):MOk (wr.alloc (.cells #[.slice none 0 0] 212)) wr.heap.size (.slice none 0 0) []:=⟨heap_alloc_new _ _,OwnsIs.nil _ _,by simp⟩
def mergeT (o a b:Tr):Tr × List Int × Nat :=
  if fault o≠0 then (Tr.zero,[],fault o) else if fault a≠0 then (Tr.zero,[],fault a) else if fault b≠0 then (Tr.zero,[],fault b)
  else match mixT 100 o a b with
    | .error p=>(Tr.zero,p,12)
    | .ok t=>if fault t≠0 then (Tr.zero,[],fault t) else (t,[],0)
def MergePostF (r:Tr × List Int × Nat) (w:World) (e:Ending) (w':World):Prop:=∃ l ks oa cap pa pc,r.1=.node l ks∧l.size≤maxLen ∧
  e=.returned (.tuple #[.agg #[.string l,.slice oa ks.length cap],.slice pa r.2.1.length pc,.int .i64 r.2.2])∧Kids (From w.heap.size) w' ks oa cap∧Ints (From w.heap.size) w' r.2.1 pa pc∧Pr w w'
section
variable {w:World} {l1 l2 l3:ByteArray} {k1 k2 k3:List Tr} {o1 o2 o3:Option Addr} {c1 c2 c3:Nat}
set_option maxRecDepth 100000 in
set_option maxHeartbeats 3200000 in
theorem merge_anyF (hl1:l1.size≤maxLen) (hl2:l2.size≤maxLen) (hl3:l3.size≤maxLen) (hk1:Kids Any w k1 o1 c1) (hk2:Kids Any w k2 o2 c2) (hk3:Kids Any w k3 o3 c3) :
    Calls Tryz.prog 116 #[.agg #[.string l1,.slice o1 k1.length c1],.agg #[.string l2,.slice o2 k2.length c2],.agg #[.string l3,.slice o3 k3.length c3]] w (MergePostF (mergeT (.node l1 k1) (.node l2 k2) (.node l3 k3)) w):=by
  have hmf:∀ (fn:Fn) (first cap:Array Value) (w:World),(Instr.makeFunc fn first cap).run Tryz.prog w=.ok (.func fn first cap) w:=fun _ _ _ _=>rfl
  obtain ⟨r,hr⟩:∃ r,r=mergeT (.node l1 k1) (.node l2 k2) (.node l3 k3):=⟨_,rfl⟩
  rw [← hr]
  obtain ⟨W,hW⟩:∃ W,W=(((((w.alloc (.cells #[.string l1,.slice o1 k1.length c1] 46)).alloc (.cells #[.string l2,.slice o2 k2.length c2] 46)).alloc (.cells #[.string l3,.slice o3 k3.length c3] 46)).alloc (.cells #[.string ⟨#[]⟩,.slice none 0 0] 46)).alloc (.cells #[.slice none 0 0] 53)).alloc (.cells #[.int .i64 0] 3):=⟨_,rfl⟩
  have hwW:Pr w W:=by rw [hW];exact (((((Pr.alloc _ _).alloc' _).alloc' _).alloc' _).alloc' _).alloc' _
  have hWs:W.heap.size=w.heap.size+6:=by rw [hW];simp
  have x0:=stays (show W.cell? ⟨w.heap.size,0,none⟩=some (.string l1) by rw [hW];simp [go_sem])
  have x1:=stays (show W.cell? ⟨w.heap.size,1,none⟩=some (.slice o1 k1.length c1) by rw [hW];simp [go_sem])
  have y0:=stays (show W.cell? ⟨w.heap.size+1,0,none⟩=some (.string l2) by rw [hW];simp [go_sem])
  have y1:=stays (show W.cell? ⟨w.heap.size+1,1,none⟩=some (.slice o2 k2.length c2) by rw [hW];simp [go_sem])
  have z0:=stays (show W.cell? ⟨w.heap.size+1+1,0,none⟩=some (.string l3) by rw [hW];simp [go_sem])
  have z1:=stays (show W.cell? ⟨w.heap.size+1+1,1,none⟩=some (.slice o3 k3.length c3) by rw [hW];simp [go_sem])
  have r0:=stays (show W.cell? ⟨w.heap.size+1+1+1,0,none⟩=some (.string ⟨#[]⟩) by rw [hW];simp [go_sem])
  have r1:=stays (show W.cell? ⟨w.heap.size+1+1+1,1,none⟩=some (.slice none 0 0) by rw [hW];simp [go_sem])
  have r2:=stays (show W.cell? ⟨w.heap.size+1+1+1+1,0,none⟩=some (.slice none 0 0) by rw [hW];simp [go_sem])
  have r3:=stays (show W.cell? ⟨w.heap.size+1+1+1+1+1,0,none⟩=some (.int .i64 0) by rw [hW];simp [go_sem])
  have f0:W.frozen? ⟨w.heap.size+1+1+1,0,none⟩=false:=by rw [hW];simp [go_sem]
  have f1:W.frozen? ⟨w.heap.size+1+1+1,1,none⟩=false:=by rw [hW];simp [go_sem]
  have f2:W.frozen? ⟨w.heap.size+1+1+1+1,0,none⟩=false:=by rw [hW];simp [go_sem]
  have f3:W.frozen? ⟨w.heap.size+1+1+1+1+1,0,none⟩=false:=by rw [hW];simp [go_sem]
  have hk1:=(hk1.mono (S':=fun k=>k < w.heap.size) (fun k _ h=>h)).pr hwW
  have hk2:=(hk2.mono (S':=fun k=>k < w.heap.size) (fun k _ h=>h)).pr hwW
  have hk3:=(hk3.mono (S':=fun k=>k < w.heap.size) (fun k _ h=>h)).pr hwW
  have C1:=Lib.hid (fun W' (h:Pr W W')=>check_any l1 k1 o1 c1 W' hl1 (hk1.any.pr h))
  have C2:=Lib.hid (fun W' (h:Pr W W')=>check_any l2 k2 o2 c2 W' hl2 (hk2.any.pr h))
  have C3:=Lib.hid (fun W' (h:Pr W W')=>check_any l3 k3 o3 c3 W' hl3 (hk3.any.pr h))
  have HR:=Lib.hid hr;have K1:=Lib.hid hk1;have K2:=Lib.hid hk2;have K3:=Lib.hid hk3;have HW:=Lib.hid hwW;have HWs:=Lib.hid hWs
  have F0:=Lib.hid f0;have F1:=Lib.hid f1;have F2:=Lib.hid f2;have F3:=Lib.hid f3
  clear hr hk1 hk2 hk3 hwW hWs f0 f1 f2 f3
  go_enter_defers Tryz.func116,Tryz.ntmps116
  go_upto_region 1 with fail
  rw [← hW]
  clear hW
  have x0':=x0 _ (Pr.refl _);have x1':=x1 _ (Pr.refl _);have y0':=y0 _ (Pr.refl _);have y1':=y1 _ (Pr.refl _);have z0':=z0 _ (Pr.refl _);have z1':=z1 _ (Pr.refl _)
  obtain ⟨W7,hW7⟩:∃ W7,W7=W.alloc (.cells #[.string l1,.slice o1 k1.length c1,.string l2,.slice o2 k2.length c2,.string l3,.slice o3 k3.length c3] 46):=⟨_,rfl⟩
  have h7:Pr W W7:=by rw [hW7];exact Pr.alloc _ _
  have a0:=stays (show W7.cell? ⟨W.heap.size,0,none⟩=some (.string l1) by rw [hW7];simp [go_sem])
  have a1:=stays (show W7.cell? ⟨W.heap.size,1,none⟩=some (.slice o1 k1.length c1) by rw [hW7];simp [go_sem])
  have a2:=stays (show W7.cell? ⟨W.heap.size,2,none⟩=some (.string l2) by rw [hW7];simp [go_sem])
  have a3:=stays (show W7.cell? ⟨W.heap.size,3,none⟩=some (.slice o2 k2.length c2) by rw [hW7];simp [go_sem])
  have a4:=stays (show W7.cell? ⟨W.heap.size,4,none⟩=some (.string l3) by rw [hW7];simp [go_sem])
  have a5:=stays (show W7.cell? ⟨W.heap.size,5,none⟩=some (.slice o3 k3.length c3) by rw [hW7];simp [go_sem])
  have H7:=Lib.hid h7
  go_wp2_with fail
  rw [← hW7]
  clear hW7 h7 x0' x1' y0' y1' z0' z1'
  obtain ⟨n1,hn1⟩:∃ n,n=fault (.node l1 k1):=⟨_,rfl⟩
  obtain ⟨n2,hn2⟩:∃ n,n=fault (.node l2 k2):=⟨_,rfl⟩
  obtain ⟨n3,hn3⟩:∃ n,n=fault (.node l3 k3):=⟨_,rfl⟩
  rw [← hn1] at C1;rw [← hn2] at C2;rw [← hn3] at C3
  have N1:=Lib.hid hn1;have N2:=Lib.hid hn2;have N3:=Lib.hid hn3
  clear hn1 hn2 hn3
  have hbad:∀ (W' W'':World) (n:Nat),Pr w W''→r=(Tr.zero,[],n)→MergePostF r w (.returned (.tuple #[.agg #[.string ⟨#[]⟩,.slice none 0 0],.slice none 0 0,.int .i64 n])) W'':=fun W' W'' n hp e=>by
    rw [e]
    exact ⟨⟨#[]⟩,[],none,0,none,0,rfl,by simp [ByteArray.size,maxLen],rfl,Kids.nil _ _ _ _ (Nat.zero_le _),Flat.nil _ _ _ _ (Nat.zero_le _),hp⟩
  have Hbad:=Lib.hid hbad
  clear hbad
  go_loopw [18] (fun v wr=>∃ k:Nat,k≤3∧v=.int .i64 k∧(1≤k→n1=0)∧(2≤k→n2=0)∧(3≤k→n3=0)∧Pr W7 wr) (fun v _=>3 - (intOf v).toNat)
  case atStart=>exact ⟨0,by omega,rfl,by omega,by omega,by omega,Pr.refl _⟩
  case round =>
    obtain ⟨k,hk,rfl,g1,g2,g3,hb⟩:=hrel
    have hbW:=H7.out.trans hb
    have hk4:k=0∨k=1∨k=2∨k=3:=by omega
    have a0:=stays (a0 _ hb);have a1:=stays (a1 _ hb);have a2:=stays (a2 _ hb);have a3:=stays (a3 _ hb);have a4:=stays (a4 _ hb);have a5:=stays (a5 _ hb)
    rcases hk4 with rfl | rfl | rfl | rfl
    · by_cases hz:n1=0
      · subst hz
        have aa:=a0 _ (Pr.refl _);have ab:=a1 _ (Pr.refl _)
        clear g1 g2 g3
        go_wp2_with (first
          | (go_at_call 51;(with_reducible refine Calls.mono (C1.out _ (hbW.alloc' _)) ?_);rintro e w1 ⟨rfl,hb1⟩))
        refine ⟨⟨1,by omega,by go_num,by intros;trivial,by omega,by omega,(hb.alloc' _).trans hb1⟩,?_⟩
        simp [intOf]
      · have e1:((n1:Int) != 0)=true:=by simp [bne_iff_ne];omega
        have hr2:=HR.out
        unfold mergeT at hr2
        rw [← N1.out,if_pos hz] at hr2
        have Hr2:=Lib.hid hr2
        clear hz hr2 g1 g2 g3
        have aa:=a0 _ (Pr.refl _);have ab:=a1 _ (Pr.refl _)
        go_wp2_with (first
          | (go_at_call 51;(with_reducible refine Calls.mono (C1.out _ (hbW.alloc' _)) ?_);rintro e w1 ⟨rfl,hb1⟩;have hp1:=(hbW.alloc' _).trans hb1;have q0:=r0 _ hp1;have q1:=r1 _ hp1;have q2:=r2 _ hp1;have q3:=r3 _ hp1
             have p0:w1.frozen? ⟨w.heap.size+1+1+1,0,none⟩=false:=(by rw [hp1.frozen (by have:=HWs.out;omega)];exact F0.out);have p1:w1.frozen? ⟨w.heap.size+1+1+1,1,none⟩=false:=(by rw [hp1.frozen (by have:=HWs.out;omega)];exact F1.out)
             have p2:w1.frozen? ⟨w.heap.size+1+1+1+1,0,none⟩=false:=(by rw [hp1.frozen (by have:=HWs.out;omega)];exact F2.out);have p3:w1.frozen? ⟨w.heap.size+1+1+1+1+1,0,none⟩=false:=(by rw [hp1.frozen (by have:=HWs.out;omega)];exact F3.out)))
        refine ⟨.tuple #[.agg #[.string ⟨#[]⟩,.slice none 0 0],.slice none 0 0,.int .i64 n1],by simp [results,Tryz.results116,go_sem,q0,q1,q2,q3],Hbad.out w _ _ ?_ Hr2.out⟩
        exact ((((HW.out.trans hp1).setCell (by simp;omega) _).setCell (by simp;omega) _).setCell (by simp;omega) _).setCell (by simp;omega) _
    · have z1:=g1 (by omega)
      subst z1
      by_cases hz:n2=0
      · subst hz
        have aa:=a2 _ (Pr.refl _);have ab:=a3 _ (Pr.refl _)
        clear g1 g2 g3
        go_wp2_with (first
          | (go_at_call 51;(with_reducible refine Calls.mono (C2.out _ (hbW.alloc' _)) ?_);rintro e w1 ⟨rfl,hb1⟩))
        refine ⟨⟨2,by omega,by go_num,by intros;trivial,by intros;trivial,by omega,(hb.alloc' _).trans hb1⟩,?_⟩
        simp [intOf]
      · have e1:((n2:Int) != 0)=true:=by simp [bne_iff_ne];omega
        have hr2:=HR.out
        unfold mergeT at hr2
        rw [← N1.out,← N2.out,if_neg (by simp),if_pos hz] at hr2
        have Hr2:=Lib.hid hr2
        clear hz hr2 g1 g2 g3
        have aa:=a2 _ (Pr.refl _);have ab:=a3 _ (Pr.refl _)
        go_wp2_with (first
          | (go_at_call 51;(with_reducible refine Calls.mono (C2.out _ (hbW.alloc' _)) ?_);rintro e w1 ⟨rfl,hb1⟩;have hp1:=(hbW.alloc' _).trans hb1;have q0:=r0 _ hp1;have q1:=r1 _ hp1;have q2:=r2 _ hp1;have q3:=r3 _ hp1
             have p0:w1.frozen? ⟨w.heap.size+1+1+1,0,none⟩=false:=(by rw [hp1.frozen (by have:=HWs.out;omega)];exact F0.out);have p1:w1.frozen? ⟨w.heap.size+1+1+1,1,none⟩=false:=(by rw [hp1.frozen (by have:=HWs.out;omega)];exact F1.out)
             have p2:w1.frozen? ⟨w.heap.size+1+1+1+1,0,none⟩=false:=(by rw [hp1.frozen (by have:=HWs.out;omega)];exact F2.out);have p3:w1.frozen? ⟨w.heap.size+1+1+1+1+1,0,none⟩=false:=(by rw [hp1.frozen (by have:=HWs.out;omega)];exact F3.out)))
        refine ⟨.tuple #[.agg #[.string ⟨#[]⟩,.slice none 0 0],.slice none 0 0,.int .i64 n2],by simp [results,Tryz.results116,go_sem,q0,q1,q2,q3],Hbad.out w _ _ ?_ Hr2.out⟩
        exact ((((HW.out.trans hp1).setCell (by simp;omega) _).setCell (by simp;omega) _).setCell (by simp;omega) _).setCell (by simp;omega) _
    · have z1:=g1 (by omega)
      have z2:=g2 (by omega)
      subst z1
      subst z2
      by_cases hz:n3=0
      · subst hz
        have aa:=a4 _ (Pr.refl _);have ab:=a5 _ (Pr.refl _)
        clear g1 g2 g3
        go_wp2_with (first
          | (go_at_call 51;(with_reducible refine Calls.mono (C3.out _ (hbW.alloc' _)) ?_);rintro e w1 ⟨rfl,hb1⟩))
        refine ⟨⟨3,by omega,by go_num,by intros;trivial,by intros;trivial,by intros;trivial,(hb.alloc' _).trans hb1⟩,?_⟩
        simp [intOf]
      · have e1:((n3:Int) != 0)=true:=by simp [bne_iff_ne];omega
        have hr2:=HR.out
        unfold mergeT at hr2
        rw [← N1.out,← N2.out,← N3.out,if_neg (by simp),if_neg (by simp),if_pos hz] at hr2
        have Hr2:=Lib.hid hr2
        clear hz hr2 g1 g2 g3
        have aa:=a4 _ (Pr.refl _);have ab:=a5 _ (Pr.refl _)
        go_wp2_with (first
          | (go_at_call 51;(with_reducible refine Calls.mono (C3.out _ (hbW.alloc' _)) ?_);rintro e w1 ⟨rfl,hb1⟩;have hp1:=(hbW.alloc' _).trans hb1;have q0:=r0 _ hp1;have q1:=r1 _ hp1;have q2:=r2 _ hp1;have q3:=r3 _ hp1
             have p0:w1.frozen? ⟨w.heap.size+1+1+1,0,none⟩=false:=(by rw [hp1.frozen (by have:=HWs.out;omega)];exact F0.out);have p1:w1.frozen? ⟨w.heap.size+1+1+1,1,none⟩=false:=(by rw [hp1.frozen (by have:=HWs.out;omega)];exact F1.out)
             have p2:w1.frozen? ⟨w.heap.size+1+1+1+1,0,none⟩=false:=(by rw [hp1.frozen (by have:=HWs.out;omega)];exact F2.out);have p3:w1.frozen? ⟨w.heap.size+1+1+1+1+1,0,none⟩=false:=(by rw [hp1.frozen (by have:=HWs.out;omega)];exact F3.out)))
        refine ⟨.tuple #[.agg #[.string ⟨#[]⟩,.slice none 0 0],.slice none 0 0,.int .i64 n3],by simp [results,Tryz.results116,go_sem,q0,q1,q2,q3],Hbad.out w _ _ ?_ Hr2.out⟩
        exact ((((HW.out.trans hp1).setCell (by simp;omega) _).setCell (by simp;omega) _).setCell (by simp;omega) _).setCell (by simp;omega) _
    · have z1:=g1 (by omega)
      have z2:=g2 (by omega)
      have z3:=g3 (by omega)
      subst z1
      subst z2
      subst z3
      have hr2:=HR.out
      unfold mergeT at hr2
      rw [← N1.out,← N2.out,← N3.out,if_neg (by simp),if_neg (by simp),if_neg (by simp)] at hr2
      have hf1:=(fault_zero.1 N1.out.symm).1
      have hf2:=(fault_zero.1 N2.out.symm).1
      have hf3:=(fault_zero.1 N3.out.symm).1
      simp only [Tr.sz] at hf1 hf2 hf3
      obtain ⟨V,hV⟩:∃ V,V=wr.alloc (.cells #[.slice none 0 0] 212):=⟨_,rfl⟩
      have hwV:Pr wr V:=by rw [hV];exact Pr.alloc _ _
      have hmV:MOk V wr.heap.size (.slice none 0 0) []:=⟨by rw [hV];exact heap_alloc_new _ _,OwnsIs.nil _ _,by simp⟩
      have hWV:=hbW.trans hwV
      have hws:=HW.out.size
      have hwr:=hbW.size
      have low:∀ {ks:List Tr} {oa:Option Addr} {cap:Nat},Kids (fun k=>k < w.heap.size) W ks oa cap→Kids (fun k=>k < wr.heap.size) V ks oa cap:=fun h=>(h.pr hWV).mono (fun k hk _=>by have hk':k < w.heap.size:=hk;show k < wr.heap.size;omega)
      have T1:=Lib.hid (mtree_any 100 l1 l2 l3 k1 k2 k3 o1 o2 o3 c1 c2 c3 wr.heap.size (.slice none 0 0) [] V (by simp only [Tr.sz];omega) (by omega) (by omega) (by omega) (by simp only [Tr.sz,List.length_nil];omega) hl2 hl3 hmV (low K1.out) (low K2.out) (low K3.out))
      have x0':=x0 _ hWV;have x1':=x1 _ hWV;have y0':=y0 _ hWV;have y1':=y1 _ hWV;have z0':=z0 _ hWV;have z1':=z1 _ hWV
      have HwV:=Lib.hid hWV
      clear g1 g2 g3 low hmV hwV hWV
      subst hV
      generalize mixT 100 (Tr.node l1 k1) (Tr.node l2 k2) (Tr.node l3 k3)=rt at *
      have q0:=r0 _ HwV.out;have q1:=r1 _ HwV.out;have q2:=r2 _ HwV.out;have q3:=r3 _ HwV.out
      have p0:(wr.alloc (.cells #[.slice none 0 0] 212)).frozen? ⟨w.heap.size+1+1+1,0,none⟩=false:=(by rw [HwV.out.frozen (by have:=HWs.out;omega)];exact F0.out)
      have p1:(wr.alloc (.cells #[.slice none 0 0] 212)).frozen? ⟨w.heap.size+1+1+1,1,none⟩=false:=(by rw [HwV.out.frozen (by have:=HWs.out;omega)];exact F1.out)
      have p2:(wr.alloc (.cells #[.slice none 0 0] 212)).frozen? ⟨w.heap.size+1+1+1+1,0,none⟩=false:=(by rw [HwV.out.frozen (by have:=HWs.out;omega)];exact F2.out)
      have p3:(wr.alloc (.cells #[.slice none 0 0] 212)).frozen? ⟨w.heap.size+1+1+1+1+1,0,none⟩=false:=(by rw [HwV.out.frozen (by have:=HWs.out;omega)];exact F3.out)
      have hW6:=HWs.out
      have hsame:∀ (w5:World),Chg (fun k=>wr.heap.size≤k) (wr.alloc (.cells #[.slice none 0 0] 212)) w5→∀ b o,b < w.heap.size+6→w5.cell? ⟨b,o,none⟩=(wr.alloc (.cells #[.slice none 0 0] 212)).cell? ⟨b,o,none⟩∧w5.frozen? ⟨b,o,none⟩=(wr.alloc (.cells #[.slice none 0 0] 212)).frozen? ⟨b,o,none⟩:=fun w5 h b o hb=>by
        have hb2:=h.block b (by simp;omega) (by show ¬ wr.heap.size≤b;omega)
        exact ⟨World.cell?_of_block hb2,World.frozen?_of_block hb2⟩
      have Q0:=Lib.hid q0;have Q1:=Lib.hid q1;have Q2:=Lib.hid q2;have Q3:=Lib.hid q3
      have P0:=Lib.hid p0;have P1:=Lib.hid p1;have P2:=Lib.hid p2;have P3:=Lib.hid p3
      have Hs:=Lib.hid hsame
      clear q0 q1 q2 q3 p0 p1 p2 p3 hsame r0 r1 r2 r3 x0 x1 y0 y1 z0 z1 a0 a1 a2 a3 a4 a5
      cases rt with
      | error e =>
        simp only [] at hr2
        have Hr2:=Lib.hid hr2
        clear hr2
        go_wp2_with (go_at_call 145;(with_reducible refine Calls.mono T1.out ?_);rintro e5 w5 ⟨oa5,cap5,rfl,hi5,hc5⟩)
        have s0:=(Hs.out w5 hc5 (w.heap.size+1+1+1) 0 (by omega));have s1:=(Hs.out w5 hc5 (w.heap.size+1+1+1) 1 (by omega))
        have s2:=(Hs.out w5 hc5 (w.heap.size+1+1+1+1) 0 (by omega));have s3:=(Hs.out w5 hc5 (w.heap.size+1+1+1+1+1) 0 (by omega))
        rw [Q0.out,P0.out] at s0;rw [Q1.out,P1.out] at s1;rw [Q2.out,P2.out] at s2;rw [Q3.out,P3.out] at s3
        refine leaves_cons (f:=144) (args:=#[.pointer (some ⟨w.heap.size+1+1+1,0,none⟩),.pointer (some ⟨w.heap.size+1+1+1+1,0,none⟩),.pointer (some ⟨w.heap.size+1+1+1+1+1,0,none⟩)]) (by simp) (by simp [go_sem]) ?_
        refine (mcatch_clash _ _ _ oa5 _ cap5 [] w5 _ _ _ _ s0.1 s1.1 s2.1 s3.1 s0.2 s1.2 s2.2 s3.2 (by omega) (by omega) (by omega)).mono ?_
        rintro e u' w'' ⟨rfl,rfl,rfl⟩
        show ∃ v,(results Tryz.f116 _).run Tryz.prog _=.ok v _∧MergePostF r w (.returned v) _
        refine ⟨.tuple #[.agg #[.string ⟨#[]⟩,.slice none 0 0],.slice oa5 e.length cap5,.int .i64 12],by simp [results,Tryz.results116,go_sem,s0.1,s1.1,s2.1,s3.1],?_⟩
        rw [Hr2.out]
        rw [List.nil_append] at hi5
        have hi6:Ints (From wr.heap.size) ((((w5.setCell ⟨w.heap.size+1+1+1,0,none⟩ (.string ⟨#[]⟩)).setCell ⟨w.heap.size+1+1+1,1,none⟩ (.slice none 0 0)).setCell ⟨w.heap.size+1+1+1+1,0,none⟩ (.slice oa5 e.length cap5)).setCell ⟨w.heap.size+1+1+1+1+1,0,none⟩ (.int .i64 12)) e oa5 cap5 :=
          Flat.kept (kept_setCell _ _ _ _ (by show ¬ wr.heap.size≤_;simp;omega)) (Flat.kept (kept_setCell _ _ _ _ (by show ¬ wr.heap.size≤_;simp;omega)) (Flat.kept (kept_setCell _ _ _ _ (by show ¬ wr.heap.size≤_;simp;omega)) (Flat.kept (kept_setCell _ _ _ _ (by show ¬ wr.heap.size≤_;simp;omega)) hi5)))
        have hpr:Pr w w5:=(hc5.to_pr' (HW.out.trans HwV.out) (fun k hk=>by show w.heap.size≤k;have hk':wr.heap.size≤k:=hk;omega))
        exact ⟨⟨#[]⟩,[],none,0,oa5,cap5,rfl,by simp [ByteArray.size,maxLen],rfl,Kids.nil _ _ _ _ (Nat.zero_le _),hi6.mono (fun k hk _=>by have h1:=HwV.out.size;have h2:=HWs.out;have hk':wr.heap.size≤k:=hk;simp at h1;show w.heap.size≤k;omega),(((hpr.setCell (by simp;omega) _).setCell (by simp;omega) _).setCell (by simp;omega) _).setCell (by simp;omega) _⟩
      | ok t =>
        obtain ⟨l5,ks5⟩:=t
        simp only [] at hr2
        have Hr2:=Lib.hid hr2
        clear hr2
        go_upto_region 10 with (go_at_call 145; (with_reducible refine Calls.mono T1.out ?_); rintro e5 w5 ⟨l6, ks6, oa5, cap5, pv5, het, hl5, rfl, hk5, hm5, hs5⟩
                                have hc5:=hs5.low (MOk.made wr);have s0:=(Hs.out w5 hc5 (w.heap.size+1+1+1) 0 (by omega));have s1:=(Hs.out w5 hc5 (w.heap.size+1+1+1) 1 (by omega))
                                have s2:=(Hs.out w5 hc5 (w.heap.size+1+1+1+1) 0 (by omega));have s3:=(Hs.out w5 hc5 (w.heap.size+1+1+1+1+1) 0 (by omega))
                                rw [Q0.out,P0.out] at s0;rw [Q1.out,P1.out] at s1;rw [Q2.out,P2.out] at s2;rw [Q3.out,P3.out] at s3
                                have s00:=s0.1;have s01:=s0.2;have s10:=s1.1;have s11:=s1.2)
        cases het
        obtain ⟨w6,hw6⟩:∃ w6,w6=(w5.setCell ⟨w.heap.size+1+1+1,0,none⟩ (.string l5)).setCell ⟨w.heap.size+1+1+1,1,none⟩ (.slice oa5 ks5.length cap5):=⟨_,rfl⟩
        have m0:w6.cell? ⟨w.heap.size+1+1+1,0,none⟩=some (.string l5):=by rw [hw6];simp [go_sem,s00]
        have m1:w6.cell? ⟨w.heap.size+1+1+1,1,none⟩=some (.slice oa5 ks5.length cap5):=by rw [hw6];simp [go_sem,s10]
        have m2:w6.cell? ⟨w.heap.size+1+1+1+1,0,none⟩=some (.slice none 0 0):=by rw [hw6];exact cell_far (cell_far s2.1 (by simp)) (by simp)
        have m3:w6.cell? ⟨w.heap.size+1+1+1+1+1,0,none⟩=some (.int .i64 0):=by rw [hw6];exact cell_far (cell_far s3.1 (by simp)) (by simp)
        have n0:w6.frozen? ⟨w.heap.size+1+1+1,0,none⟩=false:=by rw [hw6];simp [go_sem,s01]
        have n1:w6.frozen? ⟨w.heap.size+1+1+1,1,none⟩=false:=by rw [hw6];simp [go_sem,s11]
        have n2:w6.frozen? ⟨w.heap.size+1+1+1+1,0,none⟩=false:=by rw [hw6];simp [go_sem,s2.2]
        have n3:w6.frozen? ⟨w.heap.size+1+1+1+1+1,0,none⟩=false:=by rw [hw6];simp [go_sem,s3.2]
        have hk6:Kids (From wr.heap.size) w6 ks5 oa5 cap5:=by
          rw [hw6]
          have:=hk5.mono (S':=From wr.heap.size) (fun k hk _=>by have:=hk.1;simp at this;show wr.heap.size≤k;omega)
          exact (this.setCell _ _ (by show ¬ wr.heap.size≤_;simp;omega)).setCell _ _ (by show ¬ wr.heap.size≤_;simp;omega)
        have hpr:Pr w w6:=by
          rw [hw6]
          have:Pr w w5:=hc5.to_pr' (HW.out.trans HwV.out) (fun k hk=>by show w.heap.size≤k;have hk':wr.heap.size≤k:=hk;omega)
          exact (this.setCell (by simp;omega) _).setCell (by simp;omega) _
        have hsz:w.heap.size+6≤w6.heap.size:=by rw [hw6];have:=hc5.size;simp [World.setCell] at this ⊢;omega
        rw [← hw6]
        obtain ⟨n5,hn5⟩:∃ n,n=fault (.node l5 ks5):=⟨_,rfl⟩
        have hcc:=fun W' (h:Pr w6 W')=>check_any l5 ks5 oa5 cap5 W' hl5 (hk6.any.pr h)
        rw [← hn5] at hcc
        have C6:=Lib.hid hcc
        have m2:=stays m2;have m3:=stays m3
        have HK6:=Lib.hid hk6;have Hpr:=Lib.hid hpr;have Hl5:=Lib.hid hl5
        have m0s:=stays m0;have m1s:=stays m1
        clear hw6 s0 s1 s2 s3 s00 s01 s10 s11 hk5 hm5 hs5 hc5 hcc hk6 hpr hl5
        have arm:∀ w7,Pr w6 w7→w7.frozen? ⟨w.heap.size+1+1+1,0,none⟩=false∧w7.frozen? ⟨w.heap.size+1+1+1,1,none⟩=false∧w7.frozen? ⟨w.heap.size+1+1+1+1,0,none⟩=false∧w7.frozen? ⟨w.heap.size+1+1+1+1+1,0,none⟩=false:=fun w7 h =>
          ⟨by rw [h.frozen (by omega)];exact n0,by rw [h.frozen (by omega)];exact n1,by rw [h.frozen (by omega)];exact n2,by rw [h.frozen (by omega)];exact n3⟩
        have Arm:=Lib.hid arm
        clear arm n0 n1 n2 n3
        by_cases hz:n5=0
        · have e1:((n5:Int) != 0)=false:=by simp [hz]
          have hr3:r=(.node l5 ks5,[],0):=by
            rw [Hr2.out,if_neg (by rw [← hn5];simpa using hz)]
          have Hr3:=Lib.hid hr3
          clear hr3 hz hn5
          go_wp2_with (go_at_call 51;(with_reducible refine Calls.mono (C6.out _ (Pr.refl _)) ?_);rintro e w7 ⟨rfl,hb7⟩;obtain ⟨i0,i1,i2,i3⟩:=Arm.out _ hb7;have j0:=m0s _ hb7;have j1:=m1s _ hb7;have j2:=m2 _ hb7;have j3:=m3 _ hb7)
          refine leaves_cons (f:=144) (args:=#[.pointer (some ⟨w.heap.size+1+1+1,0,none⟩),.pointer (some ⟨w.heap.size+1+1+1+1,0,none⟩),.pointer (some ⟨w.heap.size+1+1+1+1+1,0,none⟩)]) (by simp) (by simp [go_sem]) ?_
          refine (mcatch_idle _ _ _ _).mono ?_
          rintro e u' w'' ⟨rfl,rfl,rfl⟩
          show ∃ v,(results Tryz.f116 _).run Tryz.prog _=.ok v _∧MergePostF r w (.returned v) _
          refine ⟨.tuple #[.agg #[.string l5,.slice oa5 ks5.length cap5],.slice none 0 0,.int .i64 0],by simp [results,Tryz.results116,go_sem,j0,j1,j2,j3],?_⟩
          rw [Hr3.out]
          refine ⟨l5,ks5,oa5,cap5,none,0,rfl,Hl5.out,rfl,?_,Flat.nil _ _ _ _ (Nat.zero_le _),((((Hpr.out.trans hb7).setCell (by simp;omega) _).setCell (by simp;omega) _).setCell (by simp;omega) _).setCell (by simp;omega) _⟩
          exact (((((HK6.out.pr hb7).setCell _ _ (by show ¬ wr.heap.size≤_;simp;omega)).setCell _ _ (by show ¬ wr.heap.size≤_;simp;omega)).setCell _ _ (by show ¬ wr.heap.size≤_;simp;omega)).setCell _ _ (by show ¬ wr.heap.size≤_;simp;omega)).mono (fun k hk _=>by have h1:=HwV.out.size;have h2:=HWs.out;have hk':wr.heap.size≤k:=hk;simp at h1;show w.heap.size≤k;omega)
        · have e1:((n5:Int) != 0)=true:=by simp [bne_iff_ne];omega
          have hr3:r=(Tr.zero,[],n5):=by
            rw [Hr2.out,if_pos (by rw [← hn5];exact hz),hn5]
          have Hr3:=Lib.hid hr3
          clear hr3 hz hn5
          go_wp2_with (go_at_call 51;(with_reducible refine Calls.mono (C6.out _ (Pr.refl _)) ?_);rintro e w7 ⟨rfl,hb7⟩;obtain ⟨i0,i1,i2,i3⟩:=Arm.out _ hb7;have j0:=m0s _ hb7;have j1:=m1s _ hb7;have j2:=m2 _ hb7;have j3:=m3 _ hb7)
          refine leaves_cons (f:=144) (args:=#[.pointer (some ⟨w.heap.size+1+1+1,0,none⟩),.pointer (some ⟨w.heap.size+1+1+1+1,0,none⟩),.pointer (some ⟨w.heap.size+1+1+1+1+1,0,none⟩)]) (by simp) (by simp [go_sem]) ?_
          refine (mcatch_idle _ _ _ _).mono ?_
          rintro e u' w'' ⟨rfl,rfl,rfl⟩
          show ∃ v,(results Tryz.f116 _).run Tryz.prog _=.ok v _∧MergePostF r w (.returned v) _
          refine ⟨.tuple #[.agg #[.string ⟨#[]⟩,.slice none 0 0],.slice none 0 0,.int .i64 n5],by simp [results,Tryz.results116,go_sem,j0,j1,j2,j3],?_⟩
          exact Hbad.out w _ _ (((((Hpr.out.trans hb7).setCell (by simp;omega) _).setCell (by simp;omega) _).setCell (by simp;omega) _).setCell (by simp;omega) _) Hr3.out
end
end Go.Proofs.YtdbnfhpgmcjngabGreatDoor
