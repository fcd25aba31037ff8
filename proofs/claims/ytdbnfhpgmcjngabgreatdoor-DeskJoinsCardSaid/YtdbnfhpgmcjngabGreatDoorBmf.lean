/- Walks: what two lists have in common, the program's. -/
import Derived.Test.YtdbnfhpgmcjngabGreatDoorBpl
import Derived.Test.YtdbnfhpgmcjngabGreatDoorBda
import Derived.Test.YtdbnfhpgmcjngabGreatDoorBma
import Derived.Test.YtdbnfhpgmcjngabGreatDoorBqt
import Derived.Test.YtdbnfhpgmcjngabGreatDoorBwa
import Derived.Deep.CutBlock
import Derived.Deep.DeepCutAuto
import Derived.Outline
import Derived.Test.YtdbnfhpgmcjngabGreatDoorBcl
import Derived.WalkLawsBesides
namespace Go.Proofs.YtdbnfhpgmcjngabGreatDoor
open Go Go.RowKit
def pz (ps:List (Nat × Nat)):List (Int × Int):=ps.map fun p=>((p.1:Int),(p.2:Int))
theorem pz_append (a b:List (Nat × Nat)):pz (a ++ b)=pz a ++ pz b:=by simp [pz]
theorem pz_length (a:List (Nat × Nat)):(pz a).length=a.length:=by simp [pz]
def ComPost (w:World) (ps:List (Int × Int)) (e:Ending) (w':World):Prop:=∃ v,e=.returned v∧OwnsPs w.heap.size w' v ps∧Pr w w'
def tab (xs ys:List Tr) (v u:Int) (x y:Nat):Int:=if v < x∨(v=x∧u < y) then (lcs (xs.drop x) (ys.drop y):Int) else 0
theorem tab_yes {xs ys:List Tr} {v u:Int} {x y:Nat} (h:v < x∨(v=x∧u < y)):tab xs ys v u x y=(lcs (xs.drop x) (ys.drop y):Int):=if_pos h
theorem tab_start {xs ys:List Tr} {x y:Nat} (hy:y < ys.length+1):(0:Int)=tab xs ys ((xs.length:Int) - 1) (ys.length:Int) x y:=by
  unfold tab
  split
  · rw [List.drop_of_length_le (by omega),lcs_nil];rfl
  · rfl
theorem tab_row {xs ys:List Tr} {i:Int} {x y:Nat} (_:y < ys.length+1):tab xs ys i (ys.length:Int) x y=tab xs ys i ((ys.length:Int) - 1) x y:=by
  unfold tab
  by_cases h:i < x∨(i=x∧(ys.length:Int) < y)
  · rw [if_pos h,if_pos (by omega)]
  · rw [if_neg h]
    by_cases h2:i < x∨(i=x∧(ys.length:Int) - 1 < y)
    · rw [if_pos h2,List.drop_of_length_le (by omega:ys.length≤y),lcs_nil_right];rfl
    · rw [if_neg h2]
theorem tab_step {xs ys:List Tr} {i j:Nat} {x y:Nat} (v:Int) (hv:v=lcs (xs.drop i) (ys.drop j)):(if x=i∧y=j then v else tab xs ys i j x y)=tab xs ys i ((j:Int) - 1) x y:=by
  unfold tab
  by_cases h:x=i∧y=j
  · obtain ⟨rfl,rfl⟩:=h;rw [if_pos ⟨rfl,rfl⟩,if_pos (by omega),hv]
  · rw [if_neg h]
    by_cases h1:(i:Int) < x∨((i:Int)=x∧(j:Int) < y)
    · rw [if_pos h1,if_pos (by omega)]
    · rw [if_neg h1,if_neg (by omega)]
theorem tab_next {xs ys:List Tr} {i:Nat} {x y:Nat} (hy:y < ys.length+1):tab xs ys i (-1) x y=tab xs ys ((i:Int) - 1) (ys.length:Int) x y:=by
  unfold tab
  by_cases h1:(i:Int) < x∨((i:Int)=x∧(-1:Int) < y)
  · rw [if_pos h1,if_pos (by omega)]
  · rw [if_neg h1,if_neg (by omega)]
theorem lcs_at {xs ys:List Tr} {i j:Nat} (hi:i < xs.length) (hj:j < ys.length):lcs (xs.drop i) (ys.drop j)=if xs[i].beq ys[j]=true then lcs (xs.drop (i+1)) (ys.drop (j+1))+1 else max (lcs (xs.drop (i+1)) (ys.drop j)) (lcs (xs.drop i) (ys.drop (j+1))):=by
  rw [List.drop_eq_getElem_cons hi,List.drop_eq_getElem_cons hj,lcs_cons]
theorem com_at {xs ys:List Tr} {i j:Nat} (hi:i < xs.length) (hj:j < ys.length):com (xs.drop i) (ys.drop j) i j=if xs[i].beq ys[j]=true then (i,j) :: com (xs.drop (i+1)) (ys.drop (j+1)) (i+1) (j+1) else if lcs (xs.drop i) (ys.drop (j+1))≤lcs (xs.drop (i+1)) (ys.drop j) then com (xs.drop (i+1)) (ys.drop j) (i+1) j else com (xs.drop i) (ys.drop (j+1)) i (j+1):=by
  rw [List.drop_eq_getElem_cons hi,List.drop_eq_getElem_cons hj,com_cons]
theorem lcs_drop_le (xs ys:List Tr) (i j:Nat):lcs (xs.drop i) (ys.drop j)≤xs.length:=by
  have:=(lcs_le (xs.drop i) (ys.drop j)).1
  rw [List.length_drop] at this;omega
set_option maxRecDepth 100000 in
set_option maxHeartbeats 3200000 in
theorem common_any (xs ys:List Tr) (oa cap ob cbp) (w:World) (ha:Kids Any w xs oa cap) (hb:Kids Any w ys ob cbp) (hal:xs.length≤1000) (hbl:ys.length≤1000) :
    Calls Tryz.prog 170 #[.slice oa xs.length cap,.slice ob ys.length cbp] w (ComPost w (pz (common xs ys))):=by
  obtain ⟨n,hn⟩:∃ n,n=xs.length+1:=⟨_,rfl⟩
  obtain ⟨m,hm⟩:∃ m,m=ys.length+1:=⟨_,rfl⟩
  have hn':(xs.length:Int)+1=(n:Int):=by omega
  have hm':(ys.length:Int)+1=(m:Int):=by omega
  have hmk1:=fun W=>make_rows n m (fun _=>0) (by omega) W
  have hmk2:=fun W=>make_ints m (by omega) W
  have Hn:=Lib.hid hn
  have Hm:=Lib.hid hm
  have HA:=Lib.hid ha
  have HB:=Lib.hid hb
  clear hn hm ha hb
  go_enter Tryz.func170,Tryz.ntmps170
  go_wp2_with fail
  go_loopw [18] (fun v wr=>∃ (k:Nat) (bf:Nat→Nat),k≤n∧v=.int .i64 k∧Mat wr w.heap.size n k m bf (fun _ _=>0)∧Pr w wr∧∀ x,x < k→w.heap.size≤bf x) (fun v _=>n - (intOf v).toNat)
  case atStart=>exact ⟨0,fun _=>0,by omega,rfl,⟨heap_alloc_new w _,fun x hx=>absurd hx (Nat.not_lt_zero _),fun x y hx=>absurd hx (Nat.not_lt_zero _),fun x hx=>absurd hx (Nat.not_lt_zero _)⟩,Pr.alloc _ _,fun x hx=>absurd hx (Nat.not_lt_zero _)⟩
  case round =>
    obtain ⟨k,bf,hk,rfl,hM,hb,hbf⟩:=hrel
    by_cases hkn:k < n
    · have hkn':(k:Int) < n:=by omega
      have hk0:(0:Int)≤k:=by omega
      have hM2:=hM.grow hkn
      have g1:∀ o1,(wr.alloc o1).cell? ⟨w.heap.size,k,none⟩=some (.slice none 0 0):=fun o1=>(Pr.alloc _ o1).cell (by rw [blk_cell hM.out];exact outV_nil bf hkn (Nat.lt_irrefl _))
      have g2:∀ o1,(wr.alloc o1).frozen? ⟨w.heap.size,k,none⟩=false:=fun o1=>by rw [(Pr.alloc _ o1).frozen (blk_lt hM.out)];exact hM.frozenOut k
      have hgl:=blk_lt hM.out
      have hp5:Pr w ((wr.setCell ⟨w.heap.size,k,none⟩ (.slice (some ⟨wr.heap.size,0,none⟩) m m)).alloc (.cells (rowV m (fun _=>0)) 3)):=(hb.setCell (Nat.le_refl _) _).alloc' _
      have hs5:=hb.size
      have hM4:=Lib.hid hM2
      clear hM2 hM
      go_wp2_with fail
      refine ⟨⟨k+1,_,by omega,by go_num,hM4.out.ext fun x y hx hy=>?_,hp5,fun x hx=>?_⟩,?_⟩
      · by_cases hxk:x=k
        · simp [hxk]
        · simp [hxk]
      · by_cases hxk:x=k
        · simp only [if_pos hxk];exact hs5
        · simp only [if_neg hxk];exact hbf x (by omega)
      · simp [intOf];omega
    · have hkv:n=k:=by omega
      subst hkv
      have hM1:=Lib.hid hM
      have Hbf:=Lib.hid hbf
      obtain ⟨wa,hwa⟩:∃ wa,wa=wr:=⟨_,rfl⟩
      subst hwa
      have Hb:=Lib.hid hb
      clear hM hbf hb hkn hn' hm' hmk1 hmk2
      go_wp2_with fail
      go_loopw [7] (fun v wr=>∃ r:Int,-1≤r∧r≤(xs.length:Int) - 1∧v=.int .i64 r∧Mat wr w.heap.size n n m bf (tab xs ys r ys.length)∧Pr w wr) (fun v _=>(intOf v+1).toNat)
      case atStart=>exact ⟨_,by omega,by omega,rfl,hM1.out.ext fun x y hx hy=>tab_start (by have:=Hm.out;omega),Hb.out⟩
      case round =>
        obtain ⟨r,hr0,hr1,rfl,hM,hb⟩:=hrel
        by_cases hrz:0≤r
        · obtain ⟨i,rfl⟩:=Int.eq_ofNat_of_zero_le hrz
          have HM2:=Lib.hid hM
          have Hb2:=Lib.hid hb
          clear hM hb
          go_wp2_with fail
          go_loopw [8] (fun v wr=>∃ r:Int,-1≤r∧r≤(ys.length:Int) - 1∧v=.int .i64 r∧Mat wr w.heap.size n n m bf (tab xs ys i r)∧Pr w wr) (fun v _=>(intOf v+1).toNat)
          case atStart=>exact ⟨_,by omega,by omega,rfl,HM2.out.ext fun x y hx hy=>tab_row (by have:=Hm.out;omega),Hb2.out⟩
          case round =>
            obtain ⟨r,hs0,hs1,rfl,hM,hb⟩:=hrel
            by_cases hsz:0≤r
            · obtain ⟨j,rfl⟩:=Int.eq_ofNat_of_zero_le hsz
              have hnn:=Hn.out
              have hmm:=Hm.out
              have hi:i < xs.length:=by omega
              have hj:j < ys.length:=by omega
              have s1:=hM.slice (x:=i+1) (by omega) (by omega)
              have s2:=hM.slice (x:=i) (by omega) (by omega)
              have v1:=hM.cell (x:=i+1) (y:=j) (by omega) (by omega)
              have v2:=hM.cell (x:=i) (y:=j+1) (by omega) (by omega)
              have v4:=hM.cell (x:=i) (y:=j) (by omega) (by omega)
              have f4:=hM.frozen (x:=i) (by omega) j
              rw [tab_yes (by omega)] at v1 v2
              have k1:=lcs_drop_le xs ys (i+1) j
              have k2:=lcs_drop_le xs ys i (j+1)
              have k3:=lcs_drop_le xs ys (i+1) (j+1)
              have hlc:=lcs_at hi hj
              obtain ⟨b1,o1,l1,ks1,oa1,cap1,e1,hl1,rfl,x0,x1,hk1⟩:=HA.out.get i hi
              obtain ⟨b2,o2,l2,ks2,oa2,cap2,e2,hl2,rfl,y0,y1,hk2⟩:=HB.out.get j hj
              rw [e1,e2] at hlc
              have X0:=stays x0;have X1:=stays x1;have Y0:=stays y0;have Y1:=stays y1
              have S1:=Lib.hid (fun W' (h:Pr w W')=>psame_any l1 l2 ks1 ks2 oa1 cap1 oa2 cap2 W' (hk1.pr h) (hk2.pr h))
              generalize (Tr.node l1 ks1).beq (.node l2 ks2)=bl at *
              generalize hp3:lcs (xs.drop (i+1)) (ys.drop (j+1))=p3 at *
              have v3:=fun (W:World) (D:Nat→Nat→Int) (h:Mat W w.heap.size n n m bf D)=>h.cell (x:=i+1) (y:=j+1) (by omega) (by omega)
              have Hp3:=Lib.hid hp3
              generalize lcs (xs.drop (i+1)) (ys.drop j)=p1 at *
              generalize lcs (xs.drop i) (ys.drop (j+1))=p2 at *
              have z1:(i:Int)+1 < n:=by omega
              have z2:(i:Int) < n:=by omega
              have z3:(j:Int)+1 < m:=by omega
              have z4:(j:Int) < m:=by omega
              have z7:(i:Int) < xs.length:=by omega
              have z8:(j:Int) < ys.length:=by omega
              have w2:(0:Int)≤(i:Int)+1:=by omega
              have w3:(0:Int)≤(j:Int)+1:=by omega
              have w9:((i:Int)+1).toNat=i+1:=by omega
              have w10:((j:Int)+1).toNat=j+1:=by omega
              have u1:IntKind.i64.wrap ((i:Int)+1)=(i:Int)+1:=IntWalk.i64_in _ (by omega)
              have u2:IntKind.i64.wrap ((j:Int)+1)=(j:Int)+1:=IntWalk.i64_in _ (by omega)
              have HM3:=Lib.hid hM
              have Hlc:=Lib.hid hlc
              have Hv3:=Lib.hid v3
              clear hM hlc e1 e2 hnn hmm hl1 hl2 x0 x1 y0 y1 hk1 hk2 hp3 v3
              go_upto_region 13 with fail
              refine wp_region_quiet_tail 23 (by kernel_rfl) (by kernel_rfl) ?_
              simp only [List.take_succ_cons,List.take_zero,List.drop_succ_cons,List.drop_zero]
              repeat (go_big_quiet_step (fail))
              refine wpQuiet_nil ?_
              rintro _ ⟨nq,rfl⟩
              go_upto_region 14 with fail
              have hbi:=Hbf.out i (by omega)
              have hM4:=(HM3.out.pr (Pr.drewN wr nq)).store (x:=i) (y:=j) (by omega) (if p1 < p2 then (p2:Int) else (p1:Int))
              have hp4:Pr w ((wr.drewN nq).setCell ⟨bf i,j,none⟩ (.int .i64 (if p1 < p2 then (p2:Int) else (p1:Int)))):=(hb.drewN' _).setCell hbi _
              generalize (wr.drewN nq).setCell ⟨bf i,j,none⟩ (.int .i64 (if p1 < p2 then (p2:Int) else (p1:Int)))=w4 at *
              have x0:=X0 _ hp4;have x1:=X1 _ hp4;have y0:=Y0 _ hp4;have y1:=Y1 _ hp4
              have HM4:=Lib.hid hM4
              have Hp4:=Lib.hid hp4
              clear hM4 hp4 s1 s2 v1 v2 v4 f4 X0 X1 Y0 Y1
              cases bl
              case false =>
                refine wp_region_quiet_tail 8 (by kernel_rfl) (by kernel_rfl) ?_
                simp only [List.take_succ_cons,List.take_zero,List.drop_succ_cons,List.drop_zero]
                repeat (go_big_quiet_step (fail))
                refine wpQuiet_nil ?_
                rintro _ ⟨nq2,rfl⟩
                have hq:=Pr.drewN w4 nq2
                go_upto_region 12 with (first | (go_at_call 158;(with_reducible refine Calls.mono (S1.out _ (Hp4.out.trans hq)) ?_);rintro e w5 ⟨rfl,hb5⟩))
                have hq5:Pr w4 w5:=hq.trans hb5
                have hM5:=HM4.out.pr hq5
                have hp5:=Hp4.out.trans hq5
                clear hq hq5 hb5 x0 x1 y0 y1 HM4 HM3
                have hlc:=Hlc.out
                rw [if_neg (by simp)] at hlc
                have HM6:Hid (Mat w5 w.heap.size n n m bf (tab xs ys i ((j:Int) - 1))):=Lib.hid (hM5.ext fun x y _ _=>by
                  rw [← tab_step (lcs (xs.drop i) (ys.drop j):Int) rfl,hlc]
                  by_cases h:x=i∧y=j
                  · rw [if_pos h,if_pos h];by_cases h2:p1 < p2
                    · rw [if_pos h2];omega
                    · rw [if_neg h2];omega
                  · rw [if_neg h,if_neg h])
                clear hM5 hlc Hlc
                go_wp2_with fail
                refine ⟨⟨(j:Int) - 1,by omega,by omega,rfl,HM6.out,hp5⟩,?_⟩
                simp [intOf]
              case true =>
                refine wp_region_quiet_tail 8 (by kernel_rfl) (by kernel_rfl) ?_
                simp only [List.take_succ_cons,List.take_zero,List.drop_succ_cons,List.drop_zero]
                repeat (go_big_quiet_step (fail))
                refine wpQuiet_nil ?_
                rintro _ ⟨nq2,rfl⟩
                have hq:=Pr.drewN w4 nq2
                go_upto_region 15 with (first | (go_at_call 158;(with_reducible refine Calls.mono (S1.out _ (Hp4.out.trans hq)) ?_);rintro e w5 ⟨rfl,hb5⟩))
                have hq5:Pr w4 w5:=hq.trans hb5
                have hM5:=HM4.out.pr hq5
                have hp5:=Hp4.out.trans hq5
                clear hq hq5 hb5 x0 x1 y0 y1 HM4 HM3
                have s1:=hM5.slice (x:=i+1) (by have:=Hn.out;omega) (by have:=Hn.out;omega)
                have s2:=hM5.slice (x:=i) (by have:=Hn.out;omega) (by have:=Hn.out;omega)
                have v3:=Hv3.out _ _ hM5
                rw [if_neg (by omega),tab_yes (by omega),Hp3.out] at v3
                have v4:=hM5.cell (x:=i) (y:=j) (by have:=Hn.out;omega) (by have:=Hm.out;omega)
                have f4:=hM5.frozen (x:=i) (by have:=Hn.out;omega) j
                have u3:IntKind.i64.wrap ((p3:Int)+1)=(p3:Int)+1:=IntWalk.i64_in _ (by omega)
                have HM5:=Lib.hid hM5
                clear hM5
                refine wp_region_quiet_tail 16 (by kernel_rfl) (by kernel_rfl) ?_
                simp only [List.take_succ_cons,List.take_zero,List.drop_succ_cons,List.drop_zero]
                repeat (go_big_quiet_step (fail))
                refine wpQuiet_nil ?_
                rintro _ ⟨nq2,rfl⟩
                go_wp2_with fail
                have hlc:=Hlc.out
                simp only [if_true] at hlc
                refine ⟨⟨(j:Int) - 1,by omega,by omega,rfl,?_,(hp5.drewN' _).setCell hbi _⟩,?_⟩
                · refine ((HM5.out.pr (Pr.drewN w5 nq2)).store (x:=i) (y:=j) (by have:=Hn.out;omega) ((p3:Int)+1)).ext fun x y _ _=>?_
                  rw [← tab_step (lcs (xs.drop i) (ys.drop j):Int) rfl,hlc]
                  by_cases h:x=i∧y=j
                  · rw [if_pos h,if_pos h];omega
                  · rw [if_neg h,if_neg h,if_neg h]
                · simp [intOf]
            · have hrv:r=-1:=by omega
              have HM6:=Lib.hid (hM.ext fun x y _ hy=>show _=tab xs ys ((i:Int) - 1) ys.length x y by rw [hrv];exact tab_next (by have:=Hm.out;omega))
              have e1:decide (0≤r)=false:=by simp;omega
              clear hM hrv
              go_wp2_with fail
              refine ⟨⟨(i:Int) - 1,by omega,by omega,rfl,HM6.out,hb⟩,?_⟩
              simp [intOf]
        · have hrv:r=-1:=by omega
          have HM6:=Lib.hid (hM.ext fun x y hx hy=>show _=(lcs (xs.drop x) (ys.drop y):Int) by rw [tab_yes (by omega)])
          have e1:decide (0≤r)=false:=by simp;omega
          have Hb0:=Lib.hid hb
          obtain ⟨w2,hw2⟩:∃ w2,w2=wr:=⟨_,rfl⟩
          subst hw2
          clear hM hrv hb hM1 Hb
          go_wp2_with fail
          go_loopw [9,10,11] (fun v9 v10 v11 wr=>∃ (i j:Nat) (L:List (Nat × Nat)),i≤xs.length∧j≤ys.length∧v10=.int .i64 i∧v11=.int .i64 j∧common xs ys=L ++ com (xs.drop i) (ys.drop j) i j∧OwnsPs w2.heap.size wr v9 (pz L)∧L.length≤i∧Pr w2 wr) (fun _ v10 v11 _=>(xs.length - (intOf v10).toNat)+(ys.length - (intOf v11).toNat))
          case atStart=>exact ⟨0,0,[],by omega,by omega,rfl,rfl,by simp [common],OwnsPs.nil _ _,by simp,Pr.refl _⟩
          case round =>
            obtain ⟨i,j,L,hi,hj,rfl,rfl,hL,hown,hLl,hb⟩:=hrel
            have HL:=Lib.hid hL
            clear hL
            by_cases hi2:i < xs.length
            · by_cases hj2:j < ys.length
              · have hnn:=Hn.out
                have hmm:=Hm.out
                obtain ⟨b1,o1,l1,ks1,oa1,cap1,e1,hl1,rfl,x0,x1,hk1⟩:=HA.out.get i hi2
                obtain ⟨b2,o2,l2,ks2,oa2,cap2,e2,hl2,rfl,y0,y1,hk2⟩:=HB.out.get j hj2
                have hcm:=com_at hi2 hj2
                rw [e1,e2] at hcm
                have hp4:=Hb0.out.trans hb
                have S1:=Lib.hid (fun W' (h:Pr w W')=>psame_any l1 l2 ks1 ks2 oa1 cap1 oa2 cap2 W' (hk1.pr h) (hk2.pr h))
                generalize (Tr.node l1 ks1).beq (.node l2 ks2)=bl at *
                have x0:=stays x0 _ hp4;have x1:=stays x1 _ hp4;have y0:=stays y0 _ hp4;have y1:=stays y1 _ hp4
                have Hcm:=Lib.hid hcm
                have Hp4:=Lib.hid hp4
                have z7:(i:Int) < xs.length:=by omega
                have z8:(j:Int) < ys.length:=by omega
                clear hcm hp4 e1 e2 hl1 hl2 hk1 hk2
                cases bl
                case false =>
                  have hM:=HM6.out.pr hb
                  have s1:=stays (hM.slice (x:=i+1) (by omega) (by omega))
                  have s2:=stays (hM.slice (x:=i) (by omega) (by omega))
                  have v1:=stays (hM.cell (x:=i+1) (y:=j) (by omega) (by omega))
                  have v2:=stays (hM.cell (x:=i) (y:=j+1) (by omega) (by omega))
                  have hcm:=Hcm.out
                  rw [if_neg (by simp)] at hcm
                  have k1:=lcs_drop_le xs ys (i+1) j
                  have k2:=lcs_drop_le xs ys i (j+1)
                  generalize lcs (xs.drop (i+1)) (ys.drop j)=p1 at *
                  generalize lcs (xs.drop i) (ys.drop (j+1))=p2 at *
                  have Hcm2:=Lib.hid hcm
                  have z1:(i:Int)+1 < n:=by omega
                  have z2:(i:Int) < n:=by omega
                  have z3:(j:Int)+1 < m:=by omega
                  have z4:(j:Int) < m:=by omega
                  have w2':(0:Int)≤(i:Int)+1:=by omega
                  have w3:(0:Int)≤(j:Int)+1:=by omega
                  have w9:((i:Int)+1).toNat=i+1:=by omega
                  have w10:((j:Int)+1).toNat=j+1:=by omega
                  have u1:IntKind.i64.wrap ((i:Int)+1)=(i:Int)+1:=IntWalk.i64_in _ (by omega)
                  have u2:IntKind.i64.wrap ((j:Int)+1)=(j:Int)+1:=IntWalk.i64_in _ (by omega)
                  clear hM Hcm hcm hnn hmm
                  go_upto_region 20 with fail
                  refine wp_region_quiet_tail 8 (by kernel_rfl) (by kernel_rfl) ?_
                  simp only [List.take_succ_cons,List.take_zero,List.drop_succ_cons,List.drop_zero]
                  repeat (go_big_quiet_step (fail))
                  refine wpQuiet_nil ?_
                  rintro _ ⟨nq,rfl⟩
                  have hq:=Pr.drewN wr nq
                  go_upto_region 23 with (first | (go_at_call 158;(with_reducible refine Calls.mono (S1.out _ (Hp4.out.trans hq)) ?_);rintro e w5 ⟨rfl,hb5⟩))
                  have hq5:Pr wr w5:=hq.trans hb5
                  have s1:=s1 _ hq5;have s2:=s2 _ hq5;have v1:=v1 _ hq5;have v2:=v2 _ hq5
                  have hown5:=hown.pr hq5
                  have hp5:=hb.trans hq5
                  clear hq hq5 hb5 x0 x1 y0 y1 hown hb
                  by_cases hle:p2≤p1
                  · have d1:decide ((p2:Int)≤p1)=true:=by simp;omega
                    have d2:decide (p2≤p1)=true:=by simp;omega
                    have HC:=Lib.hid (Hcm2.out.trans (if_pos hle))
                    clear hle Hcm2
                    go_quiet (fail)
                    go_wp2_with fail
                    refine ⟨⟨i+1,j,L,by omega,hj,by go_num,rfl,by rw [HL.out,HC.out],hown5.pr (Pr.drewN _ _),by omega,hp5.drewN' _⟩,?_⟩
                    simp [intOf];omega
                  · have d1:decide ((p2:Int)≤p1)=false:=by simp;omega
                    have d2:decide (p2≤p1)=false:=by simp;omega
                    have HC:=Lib.hid (Hcm2.out.trans (if_neg hle))
                    clear hle Hcm2
                    go_quiet (fail)
                    go_wp2_with fail
                    refine ⟨⟨i,j+1,L,hi,by omega,rfl,by go_num,by rw [HL.out,HC.out],hown5.pr (Pr.drewN _ _),hLl,hp5.drewN' _⟩,?_⟩
                    simp [intOf];omega
                case true =>
                  have hcm:=Hcm.out
                  rw [if_pos rfl] at hcm
                  have HC:=Lib.hid hcm
                  have hll:=pz_length L
                  clear hcm Hcm hnn hmm
                  go_upto_region 20 with fail
                  refine wp_region_quiet_tail 8 (by kernel_rfl) (by kernel_rfl) ?_
                  simp only [List.take_succ_cons,List.take_zero,List.drop_succ_cons,List.drop_zero]
                  repeat (go_big_quiet_step (fail))
                  refine wpQuiet_nil ?_
                  rintro _ ⟨nq,rfl⟩
                  have hq:=Pr.drewN wr nq
                  go_wp2_with (first
                    | (go_at_call 158;(with_reducible refine Calls.mono (S1.out _ (Hp4.out.trans hq)) ?_);rintro e w5 ⟨rfl,hb5⟩)
                    | (at_builtin;go_must (refine app_pair rfl _ _ rfl w2.heap.size _ _ rfl ((hown.pr (hq.trans hb5)).pr (Pr.alloc _ _)) w5.heap.size rfl ((i:Int),(j:Int)) (heap_alloc_new w5 _) (by omega) (by have:=hb.size;have:=hq.size;have:=hb5.size;simp;omega) ?_);intro v6 w6 ho6 hg6 hd6))
                  refine ⟨⟨i+1,j+1,L ++ [(i,j)],by omega,by omega,by go_num,by go_num,by rw [HL.out,HC.out];simp,by rw [pz_append];exact ho6,by simp;omega,?_⟩,?_⟩
                  · refine Below.grown ((hb.trans (hq.trans hb5)).alloc' _) hg6 ?_ ?_
                    · have:=hb.size;have:=hq.size;have:=hb5.size;simp;omega
                    · intro k hk;exact (hown.block k hk).1
                  · simp [intOf];omega
              · have hc:=HL.out
                rw [List.drop_of_length_le (by omega:ys.length≤j),com_nil_right,List.append_nil] at hc
                have HC:=Lib.hid hc
                clear hc
                go_wp2_with fail
                go_ret
                exact ⟨_,rfl,by rw [HC.out];exact hown.mono Hb0.out.size,Hb0.out.trans hb⟩
            · have hc:=HL.out
              rw [List.drop_of_length_le (by omega:xs.length≤i),com_nil,List.append_nil] at hc
              have HC:=Lib.hid hc
              clear hc
              go_wp2_with fail
              go_ret
              exact ⟨_,rfl,by rw [HC.out];exact hown.mono Hb0.out.size,Hb0.out.trans hb⟩
end Go.Proofs.YtdbnfhpgmcjngabGreatDoor
/- Walks: what merge's lists ask: the same lists, where a place stands, a label; and how it gives up. -/
namespace Go.Proofs.YtdbnfhpgmcjngabGreatDoor
open Go Go.RowKit
theorem sameList_any (ks js:List Tr) (oa cap ob cbp) (w:World) (hk:Kids Any w ks oa cap) (hj:Kids Any w js ob cbp) :
    Calls Tryz.prog 176 #[.slice oa ks.length cap,.slice ob js.length cbp] w fun e w'=>e=.returned (.bool (Tr.beqL ks js))∧Pr w w':=by
  have h:=Lib.hid ((psame_both _).2 ks js oa cap ob cbp w (Nat.lt_succ_self _) hk hj)
  go_enter Tryz.func176,Tryz.ntmps176
  go_wp2_with (go_at_call 168;(with_reducible refine Calls.mono h.out ?_);rintro e w' ⟨rfl,hb⟩)
  go_ret
  exact ⟨rfl,hb⟩
theorem at1_run:∀ args w,(callFunc 175 args).run Tryz.prog w=.ok (.enter 175 args) w:=fun _ _=>by kernel_rfl
theorem at1_any (a b k:Int) (B:Nat) (w:World) (hc:w.cell? ⟨B,0,none⟩=some (.int .i64 k)) :
    Calls Tryz.prog 175 #[.agg #[.int .i64 a,.int .i64 b],.pointer (some ⟨B,0,none⟩)] w fun e w'=>e=.returned (.bool (a==k))∧Pr w w':=by
  have h2:=fun o=>(Pr.alloc w o).cell hc
  go_enter Tryz.func175,Tryz.ntmps175
  go_wp2_with fail
  go_ret
  exact ⟨rfl,Pr.alloc _ _⟩
def atZ (l:List (Int × Int)) (k:Int):Int:=match l.find? (fun p=>p.1==k) with | some p=>p.2 | none=>-1
def IdxOk (l:List (Int × Int)) (k r:Int):Prop:=(r=-1∧l.find? (fun p=>p.1==k)=none)∨∃ i,∃ h:i < l.length,r=(i:Int)∧l.find? (fun p=>p.1==k)=some l[i]
def IdxPost (l:List (Int × Int)) (k:Int) (w:World) (e:Ending) (w':World):Prop:=(∃ r,e=.returned (.int .i64 r)∧IdxOk l k r)∧Pr w w'
set_option maxHeartbeats 800000 in
theorem indexPair_any (l:List (Int × Int)) (oa cap) (k:Int) (B:Nat) (w:World) (hp:Prs Any w l oa cap) (hc:w.cell? ⟨B,0,none⟩=some (.int .i64 k)) :
    Calls Tryz.prog 135 #[.slice oa l.length cap,.func (.func 175) #[] #[.pointer (some ⟨B,0,none⟩)]] w (IdxPost l k w):=by
  have hm:=hp.len
  have hg:=at1_run
  have Hc:=stays hc
  clear hc
  go_enter Tryz.func135,Tryz.ntmps135
  go_wp2_with fail
  go_loopw [8] (fun i wr=>∃ (n:Nat),n≤l.length∧i=.int .i64 n∧(l.take n).find? (fun p=>p.1==k)=none∧Pr w wr) (fun i _=>l.length - (intOf i).toNat)
  case atStart=>exact ⟨0,by omega,rfl,by simp,Pr.refl _⟩
  case round =>
    obtain ⟨n,hkl,rfl,hr,hb⟩:=hrel
    have Hr:=Lib.hid hr;clear hr
    by_cases hlt:n < l.length
    · obtain ⟨b,o,rfl,hcs⟩:=(hp.pr hb).get (by omega)
      obtain ⟨c0,c1⟩:=hcs n hlt
      have ht:l.take (n+1)=l.take n ++ [l[n]]:=List.take_succ_eq_append_getElem hlt
      have hd:l=l.take n ++ l[n] :: l.drop (n+1):=by rw [← List.drop_eq_getElem_cons hlt,List.take_append_drop]
      have hyes:(l[n].1==k)=true→l.find? (fun p=>p.1==k)=some l[n]:=fun h=>by
        have h2:(l.take n ++ l[n] :: l.drop (n+1)).find? (fun p=>p.1==k)=some l[n]:=by
          rw [List.find?_append,Hr.out]
          simp only [Option.none_or]
          rw [List.find?_cons_of_pos (by simpa using h)]
        rw [← hd] at h2
        exact h2
      have hno:(l[n].1==k)=false→(l.take (n+1)).find? (fun p=>p.1==k)=none:=fun h=>by
        rw [ht,List.find?_append,Hr.out];simp [h]
      have Hyes:=Lib.hid hyes;have Hno:=Lib.hid hno
      have A1:=Lib.hid (at1_any l[n].1 l[n].2 k B wr (Hc _ hb))
      clear hyes hno ht hd hcs
      generalize hx:l[n].1=x at *
      generalize hy:l[n].2=y at *
      have Hx:=Lib.hid hx;have Hy:=Lib.hid hy
      clear hx hy
      cases hxk:(x==k)
      all_goals
        have Hxk:=Lib.hid hxk
        clear hxk
        go_wp2_with (first | (go_at_call 175;(with_reducible refine Calls.mono A1.out ?_);rintro e w' ⟨rfl,hb1⟩;simp only [Hxk.out]))
      · refine ⟨⟨n+1,by omega,by go_num,Hno.out Hxk.out,hb.trans hb1⟩,?_⟩
        simp [intOf];omega
      · go_ret
        exact ⟨⟨n,rfl,.inr ⟨n,hlt,rfl,Hyes.out Hxk.out⟩⟩,hb.trans hb1⟩
    · have hkv:n=l.length:=by omega
      go_wp2_with fail
      go_ret
      exact ⟨⟨-1,rfl,.inl ⟨rfl,by subst hkv;have:=Hr.out;rw [List.take_length] at this;exact this⟩⟩,hb⟩
set_option maxHeartbeats 800000 in
theorem pairAt_any (l:List (Int × Int)) (oa cap) (k:Int) (w:World) (hp:Prs Any w l oa cap) :
    Calls Tryz.prog 171 #[.slice oa l.length cap,.int .i64 k] w fun e w'=>e=.returned (.int .i64 (atZ l k))∧Pr w w':=by
  have hmf:∀ (fn:Fn) (first cap:Array Value) (w:World),(Instr.makeFunc fn first cap).run Tryz.prog w=.ok (.func fn first cap) w:=fun _ _ _ _=>rfl
  have hm:=hp.len
  have hw:=Pr.alloc w (.cells #[.int .i64 k] 3)
  have h1:=Lib.hid (indexPair_any l oa cap k w.heap.size (w.alloc (.cells #[.int .i64 k] 3)) (hp.pr hw) (by simp [go_sem]))
  have hp2:=hp.pr hw
  obtain ⟨z,hz⟩:∃ z,z=atZ l k:=⟨_,rfl⟩
  rw [← hz]
  have Hz:=Lib.hid hz
  have Hw:=Lib.hid hw
  have HP:=Lib.hid hp2
  clear hz hw hp2 hp
  go_enter Tryz.func171,Tryz.ntmps171
  go_upto_region 2 with (go_at_call 135;(with_reducible refine Calls.mono h1.out ?_);rintro e w1 ⟨⟨r,rfl,hr⟩,hb1⟩)
  rcases hr with ⟨rfl,hf⟩ | ⟨i,hi,rfl,hf⟩
  · have hz1:z=-1:=by rw [Hz.out];unfold atZ;rw [hf]
    have Hz1:=Lib.hid hz1
    clear hf hz1
    go_wp2_with fail
    go_ret
    exact ⟨by rw [Hz1.out];rfl,Hw.out.trans hb1⟩
  · obtain ⟨b,o,rfl,hcs⟩:=(HP.out.pr hb1).get (by omega)
    have c1:=(hcs i hi).2
    have e1:z=l[i].2:=by rw [Hz.out];unfold atZ;rw [hf]
    rw [← e1] at c1
    have z1:decide ((i:Int) < 0)=false:=by simp
    have z2:(0:Int)≤i:=by omega
    have z3:(i:Int) < l.length:=by omega
    clear hcs hf e1
    go_wp2_with fail
    go_ret
    exact ⟨rfl,Hw.out.trans hb1⟩
def FailPost (w:World) (p:List Int) (e:Ending) (w':World):Prop:=∃ oa cap,e=.panicked [{ v:=.iface 208 (.slice oa p.length cap),recovered:=false }]∧Ints (From w.heap.size) w' p oa cap∧Pr w w'
structure MOk (w:World) (M:Nat) (pv:Value) (p:List Int):Prop where
  blk:w.heap[M]? = some (.cells #[pv] 212 (0,0))
  own:OwnsIs (M+1) w pv p
  len:p.length≤1000
theorem MOk.pr {w w':World} {M:Nat} {pv:Value} {p:List Int} (h:MOk w M pv p) (hp:Pr w w'):MOk w' M pv p:=⟨hp.blk h.blk,h.own.pr hp,h.len⟩
set_option maxHeartbeats 800000 in
theorem mfail_any (w:World) (M:Nat) (pv:Value) (p:List Int) (h:MOk w M pv p) :
    Calls Tryz.prog 169 #[.pointer (some ⟨M,0,none⟩)] w (FailPost w p):=by
  obtain ⟨oa,cap,rfl,hi⟩:=h.own.ints
  have c0:w.cell? ⟨M,0,none⟩=some (.slice oa p.length cap):=blk_cell h.blk
  have hl:=h.len
  have C1:=Lib.hid (cloneInts_any p oa cap w hi.any (by omega))
  clear h hi
  go_enter Tryz.func169,Tryz.ntmps169
  go_wp2_with (go_at_call 129;(with_reducible refine Calls.mono C1.out ?_);rintro e w1 ⟨⟨v,rfl,ho⟩,hb⟩;obtain ⟨o1,c1,rfl,hi1⟩:=ho.ints)
  exact ⟨rfl,o1,c1,rfl,hi1,hb⟩
theorem mlabel_yes (w:World) (M:Nat) (o a b l:ByteArray) (h:mixL o a b=some l) :
    Calls Tryz.prog 159 #[.pointer (some ⟨M,0,none⟩),.string o,.string a,.string b] w fun e w'=>e=.returned (.string l)∧w'=w:=by
  unfold mixL at h
  by_cases h1:a=b
  · subst h1
    rw [if_pos (Or.inl rfl)] at h
    cases h
    have e1:(a.toList==a.toList)=true:=by simp
    go_enter Tryz.func159,Tryz.ntmps159
    go_wp2_with fail
    go_ret
    exact ⟨rfl,rfl⟩
  · have e1:(a.toList==b.toList)=false:=by simpa using toList_ne h1
    by_cases h2:b=o
    · subst h2
      rw [if_pos (Or.inr rfl)] at h
      cases h
      have e2:(b.toList==b.toList)=true:=by simp
      clear h1
      go_enter Tryz.func159,Tryz.ntmps159
      go_wp2_with fail
      go_ret
      exact ⟨rfl,rfl⟩
    · have e2:(b.toList==o.toList)=false:=by simpa using toList_ne h2
      rw [if_neg (by rintro (e | e);exact h1 e;exact h2 e)] at h
      by_cases h3:a=o
      · subst h3
        rw [if_pos rfl] at h
        cases h
        have e3:(a.toList==a.toList)=true:=by simp
        clear h1 h2
        go_enter Tryz.func159,Tryz.ntmps159
        go_wp2_with fail
        go_ret
        exact ⟨rfl,rfl⟩
      · rw [if_neg h3] at h;cases h
theorem mlabel_no (w:World) (M:Nat) (pv:Value) (p:List Int) (o a b:ByteArray) (hm:MOk w M pv p) (h:mixL o a b=none) :
    Calls Tryz.prog 159 #[.pointer (some ⟨M,0,none⟩),.string o,.string a,.string b] w (FailPost w p):=by
  unfold mixL at h
  have h1:¬ (a=b∨b=o):=fun e=>by rw [if_pos e] at h;cases h
  rw [if_neg h1] at h
  have h3:¬ a=o:=fun e=>by rw [if_pos e] at h;cases h
  have e1:(a.toList==b.toList)=false:=by simpa using toList_ne (fun e=>h1 (.inl e))
  have e2:(b.toList==o.toList)=false:=by simpa using toList_ne (fun e=>h1 (.inr e))
  have e3:(a.toList==o.toList)=false:=by simpa using toList_ne h3
  have F1:=Lib.hid (mfail_any w M pv p hm)
  clear h h1 h3 hm
  go_enter Tryz.func159,Tryz.ntmps159
  go_wp2_with (go_at_call 169;(with_reducible refine Calls.mono F1.out ?_);rintro e w1 ⟨oa,cap,rfl,hi,hb⟩)
  exact ⟨rfl,oa,cap,rfl,hi,hb⟩
end Go.Proofs.YtdbnfhpgmcjngabGreatDoor
/- Slices of trees of one's own that keep off a second block; what merge's functions leave. -/
namespace Go.Proofs.YtdbnfhpgmcjngabGreatDoor
open Go Go.RowKit
abbrev Away (base:Nat) (v pv:Value):Nat→Prop:=fun k=>base≤k∧v.ownBlock≠some k∧pv.ownBlock≠some k
structure OwnsA (base:Nat) (w:World) (v pv:Value) (ts:List Tr):Prop where
  row:∃ xs,w.ownsRow base 46 2 v ts.length xs∧Tvals (Away base v pv) w ts xs
  ne:∀ k,v.ownBlock=some k→pv.ownBlock≠some k
theorem OwnsA.nil (base:Nat) (w:World) (pv:Value):OwnsA base w (.slice none 0 0) pv []:=⟨⟨[],World.ownsRow_nil _ _ _ _,rfl⟩,fun k h=>by cases h⟩
theorem OwnsA.block {base:Nat} {w:World} {v pv:Value} {ts:List Tr} (h:OwnsA base w v pv ts):∀ k,v.ownBlock=some k→base≤k∧k < w.heap.size:=by
  obtain ⟨xs,h1,_⟩:=h.row;exact h1.lt
theorem OwnsA.chg {base:Nat} {w w':World} {v pv pv':Value} {ts:List Tr} {X:Nat→Prop} (h:OwnsA base w v pv ts) (hg:Chg X w w') (hX:∀ k,X k→base≤k→pv.ownBlock=some k) (hp:∀ k,pv'.ownBlock=some k→pv.ownBlock=some k∨w.heap.size≤k) :
    OwnsA base w' v pv' ts:=by
  obtain ⟨xs,h1,h2⟩:=h.row
  have k1:∀ k,Away base v pv k→k < w.heap.size→Away base v pv' k:=fun k hS hl=>⟨hS.1,hS.2.1,fun e=>by
    rcases hp k e with e2 | e2
    · exact hS.2.2 e2
    · omega⟩
  have k2:∀ k,v.ownBlock=some k→pv'.ownBlock≠some k:=fun k hk e=>by
    rcases hp k e with e2 | e2
    · exact h.ne k hk e2
    · have:=(h1.lt k hk).2;omega
  exact ⟨⟨xs,ownsRow_kept h1 (fun k hk=>hg.block k (h1.lt k hk).2 (fun hx=>h.ne k hk (hX k hx (h1.lt k hk).1))),h2.carry fun k hS hl=>⟨hg.block k hl (fun hx=>hS.2.2 (hX k hx hS.1)),k1 k hS hl⟩⟩,k2⟩
theorem OwnsA.pr {base:Nat} {w w':World} {v pv:Value} {ts:List Tr} (h:OwnsA base w v pv ts) (hp:Pr w w'):OwnsA base w' v pv ts:=h.chg (hp.chg (fun _=>False)) (fun _ h=>h.elim) (fun _ h=>.inl h)
theorem OwnsA.mono {base b':Nat} {w:World} {v pv:Value} {ts:List Tr} (h:OwnsA base w v pv ts) (hb:b'≤base):OwnsA b' w v pv ts:=by
  obtain ⟨xs,h1,h2⟩:=h.row
  exact ⟨⟨xs,ownsRow_mono h1 hb,h2.carry fun k hk _=>⟨rfl,by omega,hk.2⟩⟩,h.ne⟩
theorem OwnsA.kids {base:Nat} {w:World} {v pv:Value} {ts:List Tr} (h:OwnsA base w v pv ts):∃ oa cap,v=.slice oa ts.length cap∧Kids (fun k=>base≤k∧pv.ownBlock≠some k) w ts oa cap:=by
  obtain ⟨xs,h1,h2⟩:=h.row
  exact Tvals.kids (h2.carry fun k hS _=>⟨rfl,hS.1,hS.2.2⟩) h1 fun k hk=>⟨(h1.lt k hk).1,h.ne k hk⟩
theorem OwnsTs.away {base:Nat} {w:World} {v pv:Value} {ts:List Tr} (h:OwnsTs base w v ts) (hp:∀ k,pv.ownBlock=some k→k < base):OwnsA base w v pv ts:=by
  obtain ⟨xs,h1,h2⟩:=h
  exact ⟨⟨xs,h1,h2.carry fun k hS _=>⟨rfl,hS.1,hS.2,fun e=>by have:=hp k e;have:=hS.1;omega⟩⟩,fun k hk e=>by have:=hp k e;have:=(h1.lt k hk).1;omega⟩
section
variable {ops:Array Oper} {o:Oper} {a:Act} {w:World} {rest:List Oper} {Q:Exit→Act→World→Prop}
theorem appA (hgd:o.guard=none) (s x:Operand) (ho:o.op=.call { callee:=.builtin .append,args:=#[s,x],argTypes:=#[44,44] })
    (b:Nat) (v pv:Value) (ts:List Tr) (hs:a.eval s=v) (hown:OwnsA b w v pv ts) (us:List Tr) (m:Nat) (hm:us.length=m) (ao:Option Addr) (c:Nat) (hx:a.eval x=.slice ao m c) (ys:List Value) (hy:Tvals (Away b v pv) w us ys)
    (hc:0 < us.length→∃ ad,ao=some ad∧∀ j u,ys[j]? = some u→w.cell? (ad.add j)=some u)
    (hlen:ts.length+us.length≤1000000000) (hbase:b≤w.heap.size) (hpv:∀ k,pv.ownBlock=some k→k < w.heap.size)
    (h:∀ v' w',OwnsA b w' v' pv (ts ++ us)→w.grownBy w' v.ownBlock→wpList Tryz.prog ops Q rest (a.put o.dst v') w') :
    wpList Tryz.prog ops Q (o :: rest) a w:=by
  subst hm
  obtain ⟨i0,hi,hz0,hz1,hz2⟩:=info_parts info_tree
  obtain ⟨xs,h1,h2⟩:=hown.row
  refine wp_app_rows hgd s x _ ho b _ i0 _ 2 40 under_trees hi hz0 hz1 hz2 rfl (by omega) v ts.length xs hs h1 ao us.length c ys hx hy.length hc
    hy.one (by unfold maxLen;omega) (by omega) hbase ?_
  intro v' w' k1 k2 k3
  refine h v' w' ⟨⟨xs ++ ys,by rw [List.length_append];exact k1,?_⟩,fun k hk e=>?_⟩ k2
  · refine (Tvals.append hy h2).carry fun k hS hl=>⟨k2.block k hl (fun e=>hS.2.1 e.symm),hS.1,fun e=>?_,hS.2.2⟩
    rcases k3 k e with e2 | e2
    · exact hS.2.1 e2
    · omega
  · rcases k3 k hk with e2 | e2
    · exact hown.ne k e2 e
    · have:=hpv k e;omega
theorem appA1 (hgd:o.guard=none) (s x:Operand) (ho:o.op=.call { callee:=.builtin .append,args:=#[s,x],argTypes:=#[44,44] })
    (b:Nat) (v pv:Value) (ts:List Tr) (hs:a.eval s=v) (hown:OwnsA b w v pv ts) (B:Nat) (hx:a.eval x=.slice (some ⟨B,0,none⟩) 1 1) (t:Tr) (vl vk:Value)
    (hB:w.heap[B]? = some (.cells #[vl,vk] 46 (0,0))) (ht:TreeV (Away b v pv) w t vl vk)
    (hlen:ts.length≤100000000) (hbase:b≤w.heap.size) (hpv:∀ k,pv.ownBlock=some k→k < w.heap.size)
    (h:∀ v' w',OwnsA b w' v' pv (ts ++ [t])→w.grownBy w' v.ownBlock→wpList Tryz.prog ops Q rest (a.put o.dst v') w') :
    wpList Tryz.prog ops Q (o :: rest) a w :=
  appA hgd s x ho b v pv ts hs hown [t] 1 rfl _ 1 hx [vl,vk] ⟨vl,vk,[],rfl,ht,rfl⟩ (fun _=>⟨_,rfl,World.news_of_block (cs:=#[vl,vk]) hB⟩) (by simp;omega) hbase hpv h
theorem appAs (hgd:o.guard=none) (s x:Operand) (ho:o.op=.call { callee:=.builtin .append,args:=#[s,x],argTypes:=#[44,44] })
    (b:Nat) (v pv:Value) (ts:List Tr) (hs:a.eval s=v) (hown:OwnsA b w v pv ts) (us:List Tr) (m:Nat) (hm:us.length=m) (ao:Option Addr) (c:Nat) (hx:a.eval x=.slice ao m c) (hk:Kids (Away b v pv) w us ao c)
    (hlen:ts.length+us.length≤1000000000) (hbase:b≤w.heap.size) (hpv:∀ k,pv.ownBlock=some k→k < w.heap.size)
    (h:∀ v' w',OwnsA b w' v' pv (ts ++ us)→w.grownBy w' v.ownBlock→wpList Tryz.prog ops Q rest (a.put o.dst v') w') :
    wpList Tryz.prog ops Q (o :: rest) a w:=by
  obtain ⟨ys,g1,g2⟩:=hk.vals
  exact appA hgd s x ho b v pv ts hs hown us m hm ao c hx ys g1 g2 hlen hbase hpv h
end
theorem popInts {b:Nat} {w:World} {oa:Option Addr} {n cap:Nat} {xs:List Int} {x:Int} (h:OwnsIs b w (.slice oa n cap) (xs ++ [x])) (hn:n=xs.length+1):OwnsIs b w (.slice oa xs.length cap) xs:=by
  subst hn
  unfold OwnsIs at h ⊢
  refine ⟨by simp,?_⟩
  rcases h.2 with ⟨h1,h2⟩ | ⟨g,cp,cur,h1,h2,h3,h4,h5,h6,h7⟩
  · simp at h2
  · simp only [Value.slice.injEq] at h1
    obtain ⟨rfl,_,rfl⟩:=h1
    refine .inr ⟨g,cap,cur,rfl,h2,h3,?_,h5,h6,?_⟩
    · simp only [List.length_append,List.length_singleton] at h4;omega
    · have e:ints (xs ++ [x])=ints xs ++ [.int .i64 x]:=by simp
      rw [e] at h7
      have:=congrArg (List.take (ints xs).length) h7
      rw [List.take_append_of_le_length (Nat.le_refl _),List.take_length,List.take_take] at this
      rw [← this];congr 1;simp
structure Step (M:Nat) (pv pv':Value) (w w':World):Prop where
  chg:Chg (fun k=>k=M∨pv.ownBlock=some k) w w'
  new:∀ k,pv'.ownBlock=some k→pv.ownBlock=some k∨w.heap.size≤k
theorem Step.refl (M:Nat) (pv:Value) (w:World):Step M pv pv w w:=⟨Chg.refl _ _,fun _ h=>.inl h⟩
theorem Step.trans {M:Nat} {pv p1 p2:Value} {w w1 w2:World} (h:Step M pv p1 w w1) (h1:Step M p1 p2 w1 w2):Step M pv p2 w w2:=by
  refine ⟨h.chg.trans h1.chg fun k hk=>?_,fun k hk=>?_⟩
  · rcases hk with rfl | hk
    · exact .inl (.inl rfl)
    · rcases h.new k hk with e | e
      · exact .inl (.inr e)
      · exact .inr e
  · rcases h1.new k hk with e | e
    · exact h.new k e
    · have:=h.chg.size;exact .inr (by omega)
theorem Step.pr {M:Nat} {pv p1:Value} {w w1 w2:World} (h:Step M pv p1 w w1) (h1:Pr w1 w2):Step M pv p1 w w2:=h.trans ⟨h1.chg _,fun _ e=>.inl e⟩
theorem Step.low {M:Nat} {pv p1:Value} {w w1:World} {p:List Int} (h:Step M pv p1 w w1) (hm:MOk w M pv p):Chg (fun k=>M≤k) w w1:=by
  refine ⟨h.chg.os,h.chg.tape,h.chg.output,h.chg.size,fun k hk hX=>h.chg.block k hk ?_⟩
  rintro (rfl | e)
  · exact hX (Nat.le_refl _)
  · have:=(hm.own.block k e).1;exact hX (by omega)
theorem Kids.low {M:Nat} {w w':World} {ks:List Tr} {oa cap} (h:Kids (fun k=>k < M) w ks oa cap) (hg:Chg (fun k=>M≤k) w w'):Kids (fun k=>k < M) w' ks oa cap :=
  h.carry fun k hk hl=>⟨hg.block k hl (by show ¬ M≤k;have hk':k < M:=hk;omega),hk⟩
theorem Kids.getLow {M:Nat} {w:World} {ks:List Tr} {oa cap} (h:Kids (fun k=>k < M) w ks oa cap) (i:Nat) (hi:i < ks.length):∃ b o l ks' oa' cap',ks[i]=.node l ks'∧l.size≤maxLen∧oa=some ⟨b,o,none⟩ ∧
    (∀ W,Chg (fun k=>M≤k) w W→W.cell? ⟨b,o+i * 2,none⟩=some (.string l))∧(∀ W,Chg (fun k=>M≤k) w W→W.cell? ⟨b,o+i * 2+1,none⟩=some (.slice oa' ks'.length cap'))∧Kids (fun k=>k < M) w ks' oa' cap':=by
  obtain ⟨b,o,l,ks',oa',cap',e1,e2,rfl,c0,c1,hk⟩:=h.get i hi
  have hb:b < M:=by
    obtain ⟨_,b',o',g1,_⟩:=h
    have:=g1 (by intro e;subst e;simp at hi)
    cases this.1;exact this.2
  refine ⟨b,o,l,ks',oa',cap',e1,e2,rfl,fun W hW=>?_,fun W hW=>?_,hk⟩
  · rw [World.cell?_of_block (hW.block b (lt_of_cell c0) (by show ¬ M≤b;omega))];exact c0
  · rw [World.cell?_of_block (hW.block b (lt_of_cell c1) (by show ¬ M≤b;omega))];exact c1
theorem OwnsA.step {M base:Nat} {pv p1 v:Value} {w w1:World} {ts:List Tr} (h:OwnsA base w v pv ts) (hs:Step M pv p1 w w1) (hb:M+1≤base):OwnsA base w1 v p1 ts:=by
  refine h.chg hs.chg (fun k hk hb=>?_) hs.new
  rcases hk with rfl | e
  · omega
  · exact e
theorem MOk.setPath {w:World} {M:Nat} {pv pv2:Value} {p p2:List Int} (h:MOk w M pv p) (ho:OwnsIs (M+1) w pv2 p2) (hl:p2.length≤1000):MOk (w.setCell ⟨M,0,none⟩ pv2) M pv2 p2:=by
  refine ⟨?_,ho.kept (fun k hk=>Below.heap_setCell _ _ _ _ (by have:=(ho.block k hk).1;show k≠M;omega)),hl⟩
  have:=blk_set (o:=0) h.blk pv2
  simpa using this
theorem MOk.mkPath {w:World} {M:Nat} {pv pv2:Value} {p2:List Int} (h:w.heap[M]? = some (.cells #[pv] 212 (0,0))) (ho:OwnsIs (M+1) w pv2 p2) (hl:p2.length≤1000):MOk (w.setCell ⟨M,0,none⟩ pv2) M pv2 p2:=by
  refine ⟨?_,ho.kept (fun k hk=>Below.heap_setCell _ _ _ _ (by have:=(ho.block k hk).1;show k≠M;omega)),hl⟩
  have:=blk_set (o:=0) h pv2
  simpa using this
theorem push_path {wr w5:World} {M:Nat} {pq p1:Value} {p p2:List Int} {o:Obj} (hm:MOk wr M pq p) (hg:(wr.alloc o).grownBy w5 pq.ownBlock) (ho:OwnsIs (M+1) w5 p1 p2) (hl:p2.length≤1000) (hat:∀ k,p1.ownBlock=some k→pq.ownBlock=some k∨k=(wr.alloc o).heap.size) :
    MOk (w5.setCell ⟨M,0,none⟩ p1) M p1 p2∧Step M pq p1 wr (w5.setCell ⟨M,0,none⟩ p1):=by
  have hb:=grown_blk hg ((Pr.alloc _ _).blk hm.blk) (fun e=>by have:=(hm.own.block M e).1;omega)
  refine ⟨MOk.mkPath hb ho hl,?_,fun k hk=>?_⟩
  · refine (((Pr.alloc wr o).chg _).trans (chg_grown hg) (fun k hk=>.inl (.inr hk))).setCell _ _ (.inl (.inl rfl))
  · rcases hat k hk with e | e
    · exact .inl e
    · right;rw [e];simp
theorem Step.setPath {w:World} {M:Nat} {pv pv2:Value} (hn:∀ k,pv2.ownBlock=some k→pv.ownBlock=some k∨w.heap.size≤k):Step M pv pv2 w (w.setCell ⟨M,0,none⟩ pv2) :=
  ⟨(Chg.refl _ _).setCell _ _ (.inl (.inl rfl)),hn⟩
theorem MOk.grown {w w1:World} {M:Nat} {pv:Value} {p:List Int} {r:Option Nat} (h:MOk w M pv p) (hg:w.grownBy w1 r) (h1:r≠some M) (h2:∀ k,r=some k→pv.ownBlock≠some k):MOk w1 M pv p :=
  ⟨grown_blk hg h.blk h1,h.own.grown hg (fun k hk e=>h2 k e hk),h.len⟩
theorem OwnsA.grown {base:Nat} {v pv:Value} {w w1 w2:World} {ts:List Tr} (h:OwnsA base w1 v pv ts) (hb:w.heap.size≤base) (hp:Pr w w1) (hg:w1.grownBy w2 v.ownBlock):Pr w w2 :=
  Below.grown hp hg hp.size fun k hk=>by have:=(h.block k hk).1;omega
theorem Step.grown {M:Nat} {pv p1 v:Value} {w w1 w2:World} (h:Step M pv p1 w w1) (hg:w1.grownBy w2 v.ownBlock) (hv:∀ k,v.ownBlock=some k→w.heap.size≤k):Step M pv p1 w w2 :=
  ⟨h.chg.trans (chg_grown hg) (fun k hk=>.inr (hv k hk)),h.new⟩
def ListPost (M:Nat) (pv:Value) (p:List Int) (w:World):Ex (List Tr)→Ending→World→Prop
  | .ok ts,e,w'=>∃ v pv',e=.returned v∧OwnsA w.heap.size w' v pv' ts∧MOk w' M pv' p∧Step M pv pv' w w'
  | .error q,e,w'=>∃ oa cap,e=.panicked [{ v:=.iface 208 (.slice oa (p ++ q).length cap),recovered:=false }]∧Ints (From M) w' (p ++ q) oa cap∧Chg (fun k=>M≤k) w w'
def MixPost (M:Nat) (pv:Value) (p:List Int) (w:World):Ex Tr→Ending→World→Prop
  | .ok t,e,w'=>∃ l ks oa cap pv',t=.node l ks∧l.size≤maxLen∧e=.returned (.agg #[.string l,.slice oa ks.length cap])∧Kids (fun k=>w.heap.size≤k∧pv'.ownBlock≠some k) w' ks oa cap∧MOk w' M pv' p∧Step M pv pv' w w'
  | .error q,e,w'=>∃ oa cap,e=.panicked [{ v:=.iface 208 (.slice oa (p ++ q).length cap),recovered:=false }]∧Ints (From M) w' (p ++ q) oa cap∧Chg (fun k=>M≤k) w w'
theorem elem_trees:Tryz.prog.elem 44=46:=by kernel_rfl
theorem slice_trees {S:Nat→Prop} {w:World} {ts:List Tr} {oa:Option Addr} {cap:Nat} (hk:Kids S w ts oa cap) (i n:Nat) (h1:i≤n) (h2:n≤ts.length) :
    ∃ oo,(∀ W,(Instr.slice 44 (.slice oa ts.length cap) (some (.int .i64 i)) (some (.int .i64 n)) none).run Tryz.prog W=.ok (.slice oo ((ts.drop i).take (n - i)).length (cap - i)) W)∧Kids S w ((ts.drop i).take (n - i)) oo (cap - i):=by
  have hc:=hk.1
  have hl:((ts.drop i).take (n - i)).length=n - i:=by simp;omega
  have hs:∀ W,(sizeOf 46).run Tryz.prog W=.ok 2 W:=fun W=>by
    obtain ⟨i0,hi,hz0,hz1,hz2⟩:=info_parts info_tree
    simp [sizeOf,typeInfo,hi,hz1,go_sem]
  refine ⟨if cap=i then oa else oa.map (·.add (i * 2)),fun W=>?_,?_⟩
  · rw [run_slice_lh (P:=Tryz.prog) W 44 oa ts.length cap (by rw [elem_trees];exact under_trees) .i64 .i64 (i:Int) (n:Int) (by omega) (by omega) (by omega)]
    rw [elem_trees,hs]
    simp [Result.andThen,sliced,hl]
  · by_cases he:cap=i
    · have:(ts.drop i).take (n - i)=[]:=List.eq_nil_of_length_eq_zero (by omega)
      rw [this];exact Kids.nil _ _ _ _ (by omega)
    · rw [if_neg he]
      have:=hk.cutL i (by omega)
      obtain ⟨⟨c1,c2⟩,b,o,g1,g2⟩:=this
      refine ⟨⟨by omega,by omega⟩,b,o,fun hne=>g1 (fun e=>hne (by rw [e];simp)),g2.take _⟩
end Go.Proofs.YtdbnfhpgmcjngabGreatDoor
