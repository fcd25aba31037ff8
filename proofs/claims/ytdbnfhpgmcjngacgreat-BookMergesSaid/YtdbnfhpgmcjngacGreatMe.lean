/- Walks: what two lists have in common, the program's. -/
import Derived.Test.YtdbnfhpgmcjngacGreatBpl
import Derived.Test.YtdbnfhpgmcjngacGreatBda
import Derived.Test.YtdbnfhpgmcjngacGreatBma
import Derived.Test.YtdbnfhpgmcjngacGreatBqt
import Derived.Test.YtdbnfhpgmcjngacGreatBwa
import Derived.Deep.CutBlock
import Derived.Deep.DeepCutAuto
import Derived.Outline
namespace Go.Proofs.YtdbnfhpgmcjngacGreat
open Go Go.RowKit
def pz (ps:List (Nat × Nat)):List (Int × Int):=ps.map fun p=>((p.1:Int),(p.2:Int))
theorem pz_append (a b:List (Nat × Nat)):pz (a ++ b)=pz a ++ pz b:=by simp [pz]
theorem pz_length (a:List (Nat × Nat)):(pz a).length=a.length:=by simp [pz]
def ComPost (w:World) (ps:List (Int × Int)) (e:Ending) (w':World):Prop:=∃ v,e=.returned v∧OwnsPs w.heap.size w' v ps∧Pr w w'
def tab (xs ys:List Tr) (v u:Int) (x y:Nat):Int:=if v < x∨(v=x∧u < y) then (lcs (xs.drop x) (ys.drop y):Int) else 0
theorem tab_yes {xs ys:List Tr} {v u:Int} {x y:Nat} (h:v < x∨(v=x∧u < y)):tab xs ys v u x y=(lcs (xs.drop x) (ys.drop y):Int):=if_pos h
theorem tab_start {xs ys:List Tr} {x y:Nat} (hy:y < ys.length+1):(0:Int)=tab xs ys ((xs.length:Int) - 1) (ys.length:Int) x y:=by
  unfold tab
  split
  · rw [List.drop_of_length_le (by omega),lcs_nil];rfl
  · rfl
theorem tab_row {xs ys:List Tr} {i:Int} {x y:Nat} (_:y < ys.length+1):tab xs ys i (ys.length:Int) x y=tab xs ys i ((ys.length:Int) - 1) x y:=by
  unfold tab
  by_cases h:i < x∨(i=x∧(ys.length:Int) < y)
  · rw [if_pos h,if_pos (by omega)]
  · rw [if_neg h]
    by_cases h2:i < x∨(i=x∧(ys.length:Int) - 1 < y)
    · rw [if_pos h2,List.drop_of_length_le (by omega:ys.length≤y),lcs_nil_right];rfl
    · rw [if_neg h2]
theorem tab_step {xs ys:List Tr} {i j:Nat} {x y:Nat} (v:Int) (hv:v=lcs (xs.drop i) (ys.drop j)):(if x=i∧y=j then v else tab xs ys i j x y)=tab xs ys i ((j:Int) - 1) x y:=by
  unfold tab
  by_cases h:x=i∧y=j
  · obtain ⟨rfl,rfl⟩:=h;rw [if_pos ⟨rfl,rfl⟩,if_pos (by omega),hv]
  · rw [if_neg h]
    by_cases h1:(i:Int) < x∨((i:Int)=x∧(j:Int) < y)
    · rw [if_pos h1,if_pos (by omega)]
    · rw [if_neg h1,if_neg (by omega)]
theorem tab_next {xs ys:List Tr} {i:Nat} {x y:Nat} (hy:y < ys.length+1):tab xs ys i (-1) x y=tab xs ys ((i:Int) - 1) (ys.length:Int) x y:=by
  unfold tab
  by_cases h1:(i:Int) < x∨((i:Int)=x∧(-1:Int) < y)
  · rw [if_pos h1,if_pos (by omega)]
  · rw [if_neg h1,if_neg (by omega)]
theorem lcs_at {xs ys:List Tr} {i j:Nat} (hi:i < xs.length) (hj:j < ys.length):lcs (xs.drop i) (ys.drop j)=if xs[i].beq ys[j]=true then lcs (xs.drop (i+1)) (ys.drop (j+1))+1 else max (lcs (xs.drop (i+1)) (ys.drop j)) (lcs (xs.drop i) (ys.drop (j+1))):=by
  rw [List.drop_eq_getElem_cons hi,List.drop_eq_getElem_cons hj,lcs_cons]
theorem com_at {xs ys:List Tr} {i j:Nat} (hi:i < xs.length) (hj:j < ys.length):com (xs.drop i) (ys.drop j) i j=if xs[i].beq ys[j]=true then (i,j) :: com (xs.drop (i+1)) (ys.drop (j+1)) (i+1) (j+1) else if lcs (xs.drop i) (ys.drop (j+1))≤lcs (xs.drop (i+1)) (ys.drop j) then com (xs.drop (i+1)) (ys.drop j) (i+1) j else com (xs.drop i) (ys.drop (j+1)) i (j+1):=by
  rw [List.drop_eq_getElem_cons hi,List.drop_eq_getElem_cons hj,com_cons]
theorem lcs_drop_le (xs ys:List Tr) (i j:Nat):lcs (xs.drop i) (ys.drop j)≤xs.length:=by
  have:=(lcs_le (xs.drop i) (ys.drop j)).1
  rw [List.length_drop] at this;omega
set_option maxRecDepth 100000 in
set_option maxHeartbeats 3200000 in
theorem common_any (xs ys:List Tr) (oa cap ob cbp) (w:World) (ha:Kids Any w xs oa cap) (hb:Kids Any w ys ob cbp) (hal:xs.length≤1000) (hbl:ys.length≤1000) :
    Calls Tryz.prog 94 #[.slice oa xs.length cap,.slice ob ys.length cbp] w (ComPost w (pz (common xs ys))):=by
  obtain ⟨n,hn⟩:∃ n,n=xs.length+1:=⟨_,rfl⟩
  obtain ⟨m,hm⟩:∃ m,m=ys.length+1:=⟨_,rfl⟩
  have hn':(xs.length:Int)+1=(n:Int):=by omega
  have hm':(ys.length:Int)+1=(m:Int):=by omega
  have hmk1:=fun W=>make_rows n m (fun _=>0) (by omega) W
  have hmk2:=fun W=>make_ints m (by omega) W
  have Hn:=Lib.hid hn
  have Hm:=Lib.hid hm
  have HA:=Lib.hid ha
  have HB:=Lib.hid hb
  clear hn hm ha hb
  go_enter Tryz.func94,Tryz.ntmps94
  go_wp2_with fail
  go_loopw [18] (fun v wr=>∃ (k:Nat) (bf:Nat→Nat),k≤n∧v=.int .i64 k∧Mat wr w.heap.size n k m bf (fun _ _=>0)∧Pr w wr∧∀ x,x < k→w.heap.size≤bf x) (fun v _=>n - (intOf v).toNat)
  case atStart=>exact ⟨0,fun _=>0,by omega,rfl,⟨heap_alloc_new w _,fun x hx=>absurd hx (Nat.not_lt_zero _),fun x y hx=>absurd hx (Nat.not_lt_zero _),fun x hx=>absurd hx (Nat.not_lt_zero _)⟩,Pr.alloc _ _,fun x hx=>absurd hx (Nat.not_lt_zero _)⟩
  case round =>
    obtain ⟨k,bf,hk,rfl,hM,hb,hbf⟩:=hrel
    by_cases hkn:k < n
    · have hkn':(k:Int) < n:=by omega
      have hk0:(0:Int)≤k:=by omega
      have hM2:=hM.grow hkn
      have g1:∀ o1,(wr.alloc o1).cell? ⟨w.heap.size,k,none⟩=some (.slice none 0 0):=fun o1=>(Pr.alloc _ o1).cell (by rw [blk_cell hM.out];exact outV_nil bf hkn (Nat.lt_irrefl _))
      have g2:∀ o1,(wr.alloc o1).frozen? ⟨w.heap.size,k,none⟩=false:=fun o1=>by rw [(Pr.alloc _ o1).frozen (blk_lt hM.out)];exact hM.frozenOut k
      have hgl:=blk_lt hM.out
      have hp5:Pr w ((wr.setCell ⟨w.heap.size,k,none⟩ (.slice (some ⟨wr.heap.size,0,none⟩) m m)).alloc (.cells (rowV m (fun _=>0)) 3)):=(hb.setCell (Nat.le_refl _) _).alloc' _
      have hs5:=hb.size
      have hM4:=Lib.hid hM2
      clear hM2 hM
      go_wp2_with fail
      refine ⟨⟨k+1,_,by omega,by go_num,hM4.out.ext fun x y hx hy=>?_,hp5,fun x hx=>?_⟩,?_⟩
      · by_cases hxk:x=k
        · simp [hxk]
        · simp [hxk]
      · by_cases hxk:x=k
        · simp only [if_pos hxk];exact hs5
        · simp only [if_neg hxk];exact hbf x (by omega)
      · simp [intOf];omega
    · have hkv:n=k:=by omega
      subst hkv
      have hM1:=Lib.hid hM
      have Hbf:=Lib.hid hbf
      obtain ⟨wa,hwa⟩:∃ wa,wa=wr:=⟨_,rfl⟩
      subst hwa
      have Hb:=Lib.hid hb
      clear hM hbf hb hkn hn' hm' hmk1 hmk2
      go_wp2_with fail
      go_loopw [7] (fun v wr=>∃ r:Int,-1≤r∧r≤(xs.length:Int) - 1∧v=.int .i64 r∧Mat wr w.heap.size n n m bf (tab xs ys r ys.length)∧Pr w wr) (fun v _=>(intOf v+1).toNat)
      case atStart=>exact ⟨_,by omega,by omega,rfl,hM1.out.ext fun x y hx hy=>tab_start (by have:=Hm.out;omega),Hb.out⟩
      case round =>
        obtain ⟨r,hr0,hr1,rfl,hM,hb⟩:=hrel
        by_cases hrz:0≤r
        · obtain ⟨i,rfl⟩:=Int.eq_ofNat_of_zero_le hrz
          have HM2:=Lib.hid hM
          have Hb2:=Lib.hid hb
          clear hM hb
          go_wp2_with fail
          go_loopw [8] (fun v wr=>∃ r:Int,-1≤r∧r≤(ys.length:Int) - 1∧v=.int .i64 r∧Mat wr w.heap.size n n m bf (tab xs ys i r)∧Pr w wr) (fun v _=>(intOf v+1).toNat)
          case atStart=>exact ⟨_,by omega,by omega,rfl,HM2.out.ext fun x y hx hy=>tab_row (by have:=Hm.out;omega),Hb2.out⟩
          case round =>
            obtain ⟨r,hs0,hs1,rfl,hM,hb⟩:=hrel
            by_cases hsz:0≤r
            · obtain ⟨j,rfl⟩:=Int.eq_ofNat_of_zero_le hsz
              have hnn:=Hn.out
              have hmm:=Hm.out
              have hi:i < xs.length:=by omega
              have hj:j < ys.length:=by omega
              have s1:=hM.slice (x:=i+1) (by omega) (by omega)
              have s2:=hM.slice (x:=i) (by omega) (by omega)
              have v1:=hM.cell (x:=i+1) (y:=j) (by omega) (by omega)
              have v2:=hM.cell (x:=i) (y:=j+1) (by omega) (by omega)
              have v4:=hM.cell (x:=i) (y:=j) (by omega) (by omega)
              have f4:=hM.frozen (x:=i) (by omega) j
              rw [tab_yes (by omega)] at v1 v2
              have k1:=lcs_drop_le xs ys (i+1) j
              have k2:=lcs_drop_le xs ys i (j+1)
              have k3:=lcs_drop_le xs ys (i+1) (j+1)
              have hlc:=lcs_at hi hj
              obtain ⟨b1,o1,l1,ks1,oa1,cap1,e1,hl1,rfl,x0,x1,hk1⟩:=HA.out.get i hi
              obtain ⟨b2,o2,l2,ks2,oa2,cap2,e2,hl2,rfl,y0,y1,hk2⟩:=HB.out.get j hj
              rw [e1,e2] at hlc
              have X0:=stays x0;have X1:=stays x1;have Y0:=stays y0;have Y1:=stays y1
              have S1:=Lib.hid (fun W' (h:Pr w W')=>psame_any l1 l2 ks1 ks2 oa1 cap1 oa2 cap2 W' (hk1.pr h) (hk2.pr h))
              generalize (Tr.node l1 ks1).beq (.node l2 ks2)=bl at *
              generalize hp3:lcs (xs.drop (i+1)) (ys.drop (j+1))=p3 at *
              have v3:=fun (W:World) (D:Nat→Nat→Int) (h:Mat W w.heap.size n n m bf D)=>h.cell (x:=i+1) (y:=j+1) (by omega) (by omega)
              have Hp3:=Lib.hid hp3
              generalize lcs (xs.drop (i+1)) (ys.drop j)=p1 at *
              generalize lcs (xs.drop i) (ys.drop (j+1))=p2 at *
              have z1:(i:Int)+1 < n:=by omega
              have z2:(i:Int) < n:=by omega
              have z3:(j:Int)+1 < m:=by omega
              have z4:(j:Int) < m:=by omega
              have z7:(i:Int) < xs.length:=by omega
              have z8:(j:Int) < ys.length:=by omega
              have w2:(0:Int)≤(i:Int)+1:=by omega
              have w3:(0:Int)≤(j:Int)+1:=by omega
              have w9:((i:Int)+1).toNat=i+1:=by omega
              have w10:((j:Int)+1).toNat=j+1:=by omega
              have u1:IntKind.i64.wrap ((i:Int)+1)=(i:Int)+1:=IntWalk.i64_in _ (by omega)
              have u2:IntKind.i64.wrap ((j:Int)+1)=(j:Int)+1:=IntWalk.i64_in _ (by omega)
              have HM3:=Lib.hid hM
              have Hlc:=Lib.hid hlc
              have Hv3:=Lib.hid v3
              clear hM hlc e1 e2 hnn hmm hl1 hl2 x0 x1 y0 y1 hk1 hk2 hp3 v3
              go_upto_region 13 with fail
              refine wp_region_quiet_tail 23 (by kernel_rfl) (by kernel_rfl) ?_
              simp only [List.take_succ_cons,List.take_zero,List.drop_succ_cons,List.drop_zero]
              repeat (go_big_quiet_step (fail))
              refine wpQuiet_nil ?_
              rintro _ ⟨nq,rfl⟩
              go_upto_region 14 with fail
              have hbi:=Hbf.out i (by omega)
              have hM4:=(HM3.out.pr (Pr.drewN wr nq)).store (x:=i) (y:=j) (by omega) (if p1 < p2 then (p2:Int) else (p1:Int))
              have hp4:Pr w ((wr.drewN nq).setCell ⟨bf i,j,none⟩ (.int .i64 (if p1 < p2 then (p2:Int) else (p1:Int)))):=(hb.drewN' _).setCell hbi _
              generalize (wr.drewN nq).setCell ⟨bf i,j,none⟩ (.int .i64 (if p1 < p2 then (p2:Int) else (p1:Int)))=w4 at *
              have x0:=X0 _ hp4;have x1:=X1 _ hp4;have y0:=Y0 _ hp4;have y1:=Y1 _ hp4
              have HM4:=Lib.hid hM4
              have Hp4:=Lib.hid hp4
              clear hM4 hp4 s1 s2 v1 v2 v4 f4 X0 X1 Y0 Y1
              cases bl
              case false =>
                refine wp_region_quiet_tail 8 (by kernel_rfl) (by kernel_rfl) ?_
                simp only [List.take_succ_cons,List.take_zero,List.drop_succ_cons,List.drop_zero]
                repeat (go_big_quiet_step (fail))
                refine wpQuiet_nil ?_
                rintro _ ⟨nq2,rfl⟩
                have hq:=Pr.drewN w4 nq2
                go_upto_region 12 with (first | (go_at_call 70;(with_reducible refine Calls.mono (S1.out _ (Hp4.out.trans hq)) ?_);rintro e w5 ⟨rfl,hb5⟩))
                have hq5:Pr w4 w5:=hq.trans hb5
                have hM5:=HM4.out.pr hq5
                have hp5:=Hp4.out.trans hq5
                clear hq hq5 hb5 x0 x1 y0 y1 HM4 HM3
                have hlc:=Hlc.out
                rw [if_neg (by simp)] at hlc
                have HM6:Hid (Mat w5 w.heap.size n n m bf (tab xs ys i ((j:Int) - 1))):=Lib.hid (hM5.ext fun x y _ _=>by
                  rw [← tab_step (lcs (xs.drop i) (ys.drop j):Int) rfl,hlc]
                  by_cases h:x=i∧y=j
                  · rw [if_pos h,if_pos h];by_cases h2:p1 < p2
                    · rw [if_pos h2];omega
                    · rw [if_neg h2];omega
                  · rw [if_neg h,if_neg h])
                clear hM5 hlc Hlc
                go_wp2_with fail
                refine ⟨⟨(j:Int) - 1,by omega,by omega,rfl,HM6.out,hp5⟩,?_⟩
                simp [intOf]
              case true =>
                refine wp_region_quiet_tail 8 (by kernel_rfl) (by kernel_rfl) ?_
                simp only [List.take_succ_cons,List.take_zero,List.drop_succ_cons,List.drop_zero]
                repeat (go_big_quiet_step (fail))
                refine wpQuiet_nil ?_
                rintro _ ⟨nq2,rfl⟩
                have hq:=Pr.drewN w4 nq2
                go_upto_region 15 with (first | (go_at_call 70;(with_reducible refine Calls.mono (S1.out _ (Hp4.out.trans hq)) ?_);rintro e w5 ⟨rfl,hb5⟩))
                have hq5:Pr w4 w5:=hq.trans hb5
                have hM5:=HM4.out.pr hq5
                have hp5:=Hp4.out.trans hq5
                clear hq hq5 hb5 x0 x1 y0 y1 HM4 HM3
                have s1:=hM5.slice (x:=i+1) (by have:=Hn.out;omega) (by have:=Hn.out;omega)
                have s2:=hM5.slice (x:=i) (by have:=Hn.out;omega) (by have:=Hn.out;omega)
                have v3:=Hv3.out _ _ hM5
                rw [if_neg (by omega),tab_yes (by omega),Hp3.out] at v3
                have v4:=hM5.cell (x:=i) (y:=j) (by have:=Hn.out;omega) (by have:=Hm.out;omega)
                have f4:=hM5.frozen (x:=i) (by have:=Hn.out;omega) j
                have u3:IntKind.i64.wrap ((p3:Int)+1)=(p3:Int)+1:=IntWalk.i64_in _ (by omega)
                have HM5:=Lib.hid hM5
                clear hM5
                refine wp_region_quiet_tail 16 (by kernel_rfl) (by kernel_rfl) ?_
                simp only [List.take_succ_cons,List.take_zero,List.drop_succ_cons,List.drop_zero]
                repeat (go_big_quiet_step (fail))
                refine wpQuiet_nil ?_
                rintro _ ⟨nq2,rfl⟩
                go_wp2_with fail
                have hlc:=Hlc.out
                simp only [if_true] at hlc
                refine ⟨⟨(j:Int) - 1,by omega,by omega,rfl,?_,(hp5.drewN' _).setCell hbi _⟩,?_⟩
                · refine ((HM5.out.pr (Pr.drewN w5 nq2)).store (x:=i) (y:=j) (by have:=Hn.out;omega) ((p3:Int)+1)).ext fun x y _ _=>?_
                  rw [← tab_step (lcs (xs.drop i) (ys.drop j):Int) rfl,hlc]
                  by_cases h:x=i∧y=j
                  · rw [if_pos h,if_pos h];omega
                  · rw [if_neg h,if_neg h,if_neg h]
                · simp [intOf]
            · have hrv:r=-1:=by omega
              have HM6:=Lib.hid (hM.ext fun x y _ hy=>show _=tab xs ys ((i:Int) - 1) ys.length x y by rw [hrv];exact tab_next (by have:=Hm.out;omega))
              have e1:decide (0≤r)=false:=by simp;omega
              clear hM hrv
              go_wp2_with fail
              refine ⟨⟨(i:Int) - 1,by omega,by omega,rfl,HM6.out,hb⟩,?_⟩
              simp [intOf]
        · have hrv:r=-1:=by omega
          have HM6:=Lib.hid (hM.ext fun x y hx hy=>show _=(lcs (xs.drop x) (ys.drop y):Int) by rw [tab_yes (by omega)])
          have e1:decide (0≤r)=false:=by simp;omega
          have Hb0:=Lib.hid hb
          obtain ⟨w2,hw2⟩:∃ w2,w2=wr:=⟨_,rfl⟩
          subst hw2
          clear hM hrv hb hM1 Hb
          go_wp2_with fail
          go_loopw [9,10,11] (fun v9 v10 v11 wr=>∃ (i j:Nat) (L:List (Nat × Nat)),i≤xs.length∧j≤ys.length∧v10=.int .i64 i∧v11=.int .i64 j∧common xs ys=L ++ com (xs.drop i) (ys.drop j) i j∧OwnsPs w2.heap.size wr v9 (pz L)∧L.length≤i∧Pr w2 wr) (fun _ v10 v11 _=>(xs.length - (intOf v10).toNat)+(ys.length - (intOf v11).toNat))
          case atStart=>exact ⟨0,0,[],by omega,by omega,rfl,rfl,by simp [common],OwnsPs.nil _ _,by simp,Pr.refl _⟩
          case round =>
            obtain ⟨i,j,L,hi,hj,rfl,rfl,hL,hown,hLl,hb⟩:=hrel
            have HL:=Lib.hid hL
            clear hL
            by_cases hi2:i < xs.length
            · by_cases hj2:j < ys.length
              · have hnn:=Hn.out
                have hmm:=Hm.out
                obtain ⟨b1,o1,l1,ks1,oa1,cap1,e1,hl1,rfl,x0,x1,hk1⟩:=HA.out.get i hi2
                obtain ⟨b2,o2,l2,ks2,oa2,cap2,e2,hl2,rfl,y0,y1,hk2⟩:=HB.out.get j hj2
                have hcm:=com_at hi2 hj2
                rw [e1,e2] at hcm
                have hp4:=Hb0.out.trans hb
                have S1:=Lib.hid (fun W' (h:Pr w W')=>psame_any l1 l2 ks1 ks2 oa1 cap1 oa2 cap2 W' (hk1.pr h) (hk2.pr h))
                generalize (Tr.node l1 ks1).beq (.node l2 ks2)=bl at *
                have x0:=stays x0 _ hp4;have x1:=stays x1 _ hp4;have y0:=stays y0 _ hp4;have y1:=stays y1 _ hp4
                have Hcm:=Lib.hid hcm
                have Hp4:=Lib.hid hp4
                have z7:(i:Int) < xs.length:=by omega
                have z8:(j:Int) < ys.length:=by omega
                clear hcm hp4 e1 e2 hl1 hl2 hk1 hk2
                cases bl
                case false =>
                  have hM:=HM6.out.pr hb
                  have s1:=stays (hM.slice (x:=i+1) (by omega) (by omega))
                  have s2:=stays (hM.slice (x:=i) (by omega) (by omega))
                  have v1:=stays (hM.cell (x:=i+1) (y:=j) (by omega) (by omega))
                  have v2:=stays (hM.cell (x:=i) (y:=j+1) (by omega) (by omega))
                  have hcm:=Hcm.out
                  rw [if_neg (by simp)] at hcm
                  have k1:=lcs_drop_le xs ys (i+1) j
                  have k2:=lcs_drop_le xs ys i (j+1)
                  generalize lcs (xs.drop (i+1)) (ys.drop j)=p1 at *
                  generalize lcs (xs.drop i) (ys.drop (j+1))=p2 at *
                  have Hcm2:=Lib.hid hcm
                  have z1:(i:Int)+1 < n:=by omega
                  have z2:(i:Int) < n:=by omega
                  have z3:(j:Int)+1 < m:=by omega
                  have z4:(j:Int) < m:=by omega
                  have w2':(0:Int)≤(i:Int)+1:=by omega
                  have w3:(0:Int)≤(j:Int)+1:=by omega
                  have w9:((i:Int)+1).toNat=i+1:=by omega
                  have w10:((j:Int)+1).toNat=j+1:=by omega
                  have u1:IntKind.i64.wrap ((i:Int)+1)=(i:Int)+1:=IntWalk.i64_in _ (by omega)
                  have u2:IntKind.i64.wrap ((j:Int)+1)=(j:Int)+1:=IntWalk.i64_in _ (by omega)
                  clear hM Hcm hcm hnn hmm
                  go_upto_region 20 with fail
                  refine wp_region_quiet_tail 8 (by kernel_rfl) (by kernel_rfl) ?_
                  simp only [List.take_succ_cons,List.take_zero,List.drop_succ_cons,List.drop_zero]
                  repeat (go_big_quiet_step (fail))
                  refine wpQuiet_nil ?_
                  rintro _ ⟨nq,rfl⟩
                  have hq:=Pr.drewN wr nq
                  go_upto_region 23 with (first | (go_at_call 70;(with_reducible refine Calls.mono (S1.out _ (Hp4.out.trans hq)) ?_);rintro e w5 ⟨rfl,hb5⟩))
                  have hq5:Pr wr w5:=hq.trans hb5
                  have s1:=s1 _ hq5;have s2:=s2 _ hq5;have v1:=v1 _ hq5;have v2:=v2 _ hq5
                  have hown5:=hown.pr hq5
                  have hp5:=hb.trans hq5
                  clear hq hq5 hb5 x0 x1 y0 y1 hown hb
                  by_cases hle:p2≤p1
                  · have d1:decide ((p2:Int)≤p1)=true:=by simp;omega
                    have d2:decide (p2≤p1)=true:=by simp;omega
                    have HC:=Lib.hid (Hcm2.out.trans (if_pos hle))
                    clear hle Hcm2
                    go_quiet (fail)
                    go_wp2_with fail
                    refine ⟨⟨i+1,j,L,by omega,hj,by go_num,rfl,by rw [HL.out,HC.out],hown5.pr (Pr.drewN _ _),by omega,hp5.drewN' _⟩,?_⟩
                    simp [intOf];omega
                  · have d1:decide ((p2:Int)≤p1)=false:=by simp;omega
                    have d2:decide (p2≤p1)=false:=by simp;omega
                    have HC:=Lib.hid (Hcm2.out.trans (if_neg hle))
                    clear hle Hcm2
                    go_quiet (fail)
                    go_wp2_with fail
                    refine ⟨⟨i,j+1,L,hi,by omega,rfl,by go_num,by rw [HL.out,HC.out],hown5.pr (Pr.drewN _ _),hLl,hp5.drewN' _⟩,?_⟩
                    simp [intOf];omega
                case true =>
                  have hcm:=Hcm.out
                  rw [if_pos rfl] at hcm
                  have HC:=Lib.hid hcm
                  have hll:=pz_length L
                  clear hcm Hcm hnn hmm
                  go_upto_region 20 with fail
                  refine wp_region_quiet_tail 8 (by kernel_rfl) (by kernel_rfl) ?_
                  simp only [List.take_succ_cons,List.take_zero,List.drop_succ_cons,List.drop_zero]
                  repeat (go_big_quiet_step (fail))
                  refine wpQuiet_nil ?_
                  rintro _ ⟨nq,rfl⟩
                  have hq:=Pr.drewN wr nq
                  go_wp2_with (first
                    | (go_at_call 70;(with_reducible refine Calls.mono (S1.out _ (Hp4.out.trans hq)) ?_);rintro e w5 ⟨rfl,hb5⟩)
                    | (at_builtin;go_must (refine app_pair rfl _ _ rfl w2.heap.size _ _ rfl ((hown.pr (hq.trans hb5)).pr (Pr.alloc _ _)) w5.heap.size rfl ((i:Int),(j:Int)) (heap_alloc_new w5 _) (by omega) (by have:=hb.size;have:=hq.size;have:=hb5.size;simp;omega) ?_);intro v6 w6 ho6 hg6 hd6))
                  refine ⟨⟨i+1,j+1,L ++ [(i,j)],by omega,by omega,by go_num,by go_num,by rw [HL.out,HC.out];simp,by rw [pz_append];exact ho6,by simp;omega,?_⟩,?_⟩
                  · refine Below.grown ((hb.trans (hq.trans hb5)).alloc' _) hg6 ?_ ?_
                    · have:=hb.size;have:=hq.size;have:=hb5.size;simp;omega
                    · intro k hk;exact (hown.block k hk).1
                  · simp [intOf];omega
              · have hc:=HL.out
                rw [List.drop_of_length_le (by omega:ys.length≤j),com_nil_right,List.append_nil] at hc
                have HC:=Lib.hid hc
                clear hc
                go_wp2_with fail
                go_ret
                exact ⟨_,rfl,by rw [HC.out];exact hown.mono Hb0.out.size,Hb0.out.trans hb⟩
            · have hc:=HL.out
              rw [List.drop_of_length_le (by omega:xs.length≤i),com_nil,List.append_nil] at hc
              have HC:=Lib.hid hc
              clear hc
              go_wp2_with fail
              go_ret
              exact ⟨_,rfl,by rw [HC.out];exact hown.mono Hb0.out.size,Hb0.out.trans hb⟩
end Go.Proofs.YtdbnfhpgmcjngacGreat
