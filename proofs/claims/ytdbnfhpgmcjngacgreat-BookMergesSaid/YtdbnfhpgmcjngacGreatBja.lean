/- Walks: pleachingref.most: the table of what two lists have in common. -/
import Derived.Test.YtdbnfhpgmcjngacGreatMe
import Derived.Test.YtdbnfhpgmcjngacGreatBgl
import Derived.Test.YtdbnfhpgmcjngacGreatBmf
namespace Go.Proofs.YtdbnfhpgmcjngacGreat
open Go Go.RowKit
def outD (n k m:Nat) (bs:Nat→Nat):Array Value:=((List.range n).map fun x=>if k≤x then Value.slice (some ⟨bs x,0,none⟩) m m else .slice none 0 0).toArray
structure Mad (w:World) (g n k m:Nat) (bs:Nat→Nat) (D:Nat→Nat→Int):Prop where
  out:w.heap[g]? = some (.cells (outD n k m bs) 23 (0,0))
  row:∀ x,k≤x→x < n→w.heap[bs x]? = some (.cells (rowV m (D x)) 3 (0,0))
  inj:∀ x y,k≤x→x < n→k≤y→y < n→bs x=bs y→x=y
  ne:∀ x,k≤x→x < n→bs x≠g
theorem outD_get {n k m x:Nat} (bs:Nat→Nat) (h:x < n) (hk:k≤x):(outD n k m bs)[x]? = some (.slice (some ⟨bs x,0,none⟩) m m):=by simp [outD,h,hk]
theorem outD_nil {n k m x:Nat} (bs:Nat→Nat) (h:x < n) (hk:¬ k≤x):(outD n k m bs)[x]? = some (.slice none 0 0):=by simp [outD,h];omega
theorem outD_all (n m:Nat) (bs:Nat→Nat):outD n n m bs=outV n 0 m bs:=by
  unfold outD outV
  congr 1
  refine List.map_congr_left fun x hx=>?_
  rw [List.mem_range] at hx
  rw [if_neg (by omega),if_neg (by omega)]
theorem outD_zero (n m:Nat) (bs:Nat→Nat):outD n 0 m bs=outV n n m bs:=by
  unfold outD outV
  congr 1
  refine List.map_congr_left fun x hx=>?_
  rw [List.mem_range] at hx
  rw [if_pos (by omega),if_pos (by omega)]
theorem outD_set {n k m:Nat} (bs:Nat→Nat) (b:Nat) (hk:k < n):(outD n (k+1) m bs).setIfInBounds k (.slice (some ⟨b,0,none⟩) m m)=outD n k m (fun x=>if x=k then b else bs x):=by
  unfold outD
  rw [List.setIfInBounds_toArray]
  congr 1
  refine List.ext_getElem? fun i=>?_
  rw [List.getElem?_set]
  by_cases h:k=i
  · subst h
    simp [*]
  · rw [if_neg h]
    by_cases hm:i < n
    · have h1:(k+1≤i)↔k≤i:=by omega
      have h2:¬ i=k:=fun e=>h e.symm
      simp [hm,h1,h2]
    · simp [hm]
section
variable {w:World} {g n k m:Nat} {bs:Nat→Nat} {D:Nat→Nat→Int}
theorem Mad.slice (h:Mad w g n k m bs D) {x:Nat} (hx:k≤x) (hn:x < n):w.cell? ⟨g,x,none⟩=some (.slice (some ⟨bs x,0,none⟩) m m):=by
  rw [blk_cell h.out];exact outD_get bs hn hx
theorem Mad.cell (h:Mad w g n k m bs D) {x y:Nat} (hx:k≤x) (hn:x < n) (hy:y < m):w.cell? ⟨bs x,y,none⟩=some (.int .i64 (D x y)):=by
  rw [blk_cell (h.row x hx hn)];exact rowV_get (D x) hy
theorem Mad.frozen (h:Mad w g n k m bs D) {x:Nat} (hx:k≤x) (hn:x < n) (y:Nat):w.frozen? ⟨bs x,y,none⟩=false:=blk_frozen (h.row x hx hn)
theorem Mad.frozenOut (h:Mad w g n k m bs D) (x:Nat):w.frozen? ⟨g,x,none⟩=false:=blk_frozen h.out
theorem Mad.pr {w':World} (h:Mad w g n k m bs D) (hp:Pr w w'):Mad w' g n k m bs D:=⟨hp.blk h.out,fun x hx hn=>hp.blk (h.row x hx hn),h.inj,h.ne⟩
theorem Mad.store (h:Mad w g n k m bs D) {x y:Nat} (hx:k≤x) (hn:x < n) (v:Int):Mad (w.setCell ⟨bs x,y,none⟩ (.int .i64 v)) g n k m bs (fun x' y'=>if x'=x∧y'=y then v else D x' y'):=by
  refine ⟨?_,fun x' hx' hn'=>?_,h.inj,h.ne⟩
  · rw [Below.heap_setCell _ _ _ _ (fun e=>h.ne x hx hn e.symm)];exact h.out
  · by_cases he:x'=x
    · subst he
      have:=blk_set (o:=y) (h.row x' hx hn) (.int .i64 v)
      rw [rowV_set] at this
      rw [this]
      simp
    · rw [Below.heap_setCell _ _ _ _ (fun e=>he (h.inj _ _ hx' hn' hx hn e))]
      rw [h.row x' hx' hn']
      simp [he]
theorem Mad.grow (h:Mad w g n (k+1) m bs D) (hk:k < n) :
    Mad ((w.setCell ⟨g,k,none⟩ (.slice (some ⟨w.heap.size,0,none⟩) m m)).alloc (.cells (rowV m (fun _=>0)) 3)) g n k m (fun x=>if x=k then w.heap.size else bs x) (fun x y=>if x=k then 0 else D x y):=by
  have hgl:=blk_lt h.out
  have hbl:∀ x,k+1≤x→x < n→bs x < w.heap.size:=fun x hx hn=>blk_lt (h.row x hx hn)
  have hsz:(w.setCell ⟨g,k,none⟩ (.slice (some ⟨w.heap.size,0,none⟩) m m)).heap.size=w.heap.size:=by simp [World.setCell]
  refine ⟨?_,fun x hx hn=>?_,fun x y hx hxn hy hyn e=>?_,fun x hx hn=>?_⟩
  · have:=(Pr.alloc _ (.cells (rowV m (fun _=>0)) 3)).blk (blk_set (o:=k) h.out (.slice (some ⟨w.heap.size,0,none⟩) m m))
    rw [outD_set bs _ hk] at this
    exact this
  · by_cases he:x=k
    · subst he
      simp only [if_true]
      have:=heap_alloc_new (w.setCell ⟨g,x,none⟩ (.slice (some ⟨w.heap.size,0,none⟩) m m)) (.cells (rowV m (fun _=>0)) 3)
      rw [hsz] at this
      exact this
    · simp only [if_neg he]
      refine (Pr.alloc _ _).blk ?_
      rw [Below.heap_setCell _ _ _ _ (h.ne x (by omega) hn)]
      exact h.row x (by omega) hn
  · by_cases h1:x=k
    · by_cases h2:y=k
      · omega
      · have:=hbl y (by omega) hyn
        rw [if_pos h1,if_neg h2] at e;omega
    · by_cases h2:y=k
      · have:=hbl x (by omega) hxn
        rw [if_neg h1,if_pos h2] at e;omega
      · rw [if_neg h1,if_neg h2] at e
        exact h.inj x y (by omega) hxn (by omega) hyn e
  · by_cases h1:x=k
    · simp only [if_pos h1];omega
    · simp only [if_neg h1];exact h.ne x (by omega) hn
theorem Mad.ext {D':Nat→Nat→Int} (h:Mad w g n k m bs D) (he:∀ x y,k≤x→x < n→y < m→D x y=D' x y):Mad w g n k m bs D':=by
  refine ⟨h.out,fun x hx hn=>?_,h.inj,h.ne⟩
  rw [h.row x hx hn]
  congr 2
  unfold rowV
  congr 1
  refine List.map_congr_left fun y hy=>?_
  rw [he x y hx hn (by simpa using hy)]
theorem Mad.mat (h:Mad w g n 0 m bs D):Mat w g n n m bs D :=
  ⟨by rw [← outD_zero];exact h.out,fun x hx=>h.row x (Nat.zero_le _) hx,fun x y hx hy e=>h.inj x y (Nat.zero_le _) hx (Nat.zero_le _) hy e,fun x hx=>h.ne x (Nat.zero_le _) hx⟩
end
theorem tab_nil {xs ys:List Tr} {i j:Nat} (h:i=xs.length∨j=ys.length) {x y:Nat}:tab xs ys i j x y=tab xs ys i ((j:Int) - 1) x y:=by
  rw [← tab_step (lcs (xs.drop i) (ys.drop j):Int) rfl]
  by_cases he:x=i∧y=j
  · rw [if_pos he]
    obtain ⟨rfl,rfl⟩:=he
    unfold tab
    rw [if_neg (by omega)]
    rcases h with h | h
    · rw [h,List.drop_length,lcs_nil];rfl
    · rw [h,List.drop_length,lcs_nil_right];rfl
  · rw [if_neg he]
theorem lcs_max_at {xs ys:List Tr} {i j:Nat} (hi:i < xs.length) (hj:j < ys.length):lcs (xs.drop i) (ys.drop j)=if xs[i].beq ys[j]=true∧max (lcs (xs.drop (i+1)) (ys.drop j)) (lcs (xs.drop i) (ys.drop (j+1))) < lcs (xs.drop (i+1)) (ys.drop (j+1))+1 then lcs (xs.drop (i+1)) (ys.drop (j+1))+1 else max (lcs (xs.drop (i+1)) (ys.drop j)) (lcs (xs.drop i) (ys.drop (j+1))):=by
  rw [List.drop_eq_getElem_cons hi,List.drop_eq_getElem_cons hj,lcs_max]
def MostPost (xs ys:List Tr) (w:World) (e:Ending) (w':World):Prop:=∃ g bf,e=.returned (.slice (some ⟨g,0,none⟩) (xs.length+1) (xs.length+1)) ∧
  Mat w' g (xs.length+1) (xs.length+1) (ys.length+1) bf (fun x y=>(lcs (xs.drop x) (ys.drop y):Int))∧Pr w w'
set_option maxRecDepth 100000 in
set_option maxHeartbeats 6400000 in
theorem most_any (xs ys:List Tr) (oa cap ob cbp) (w:World) (ha:Kids Any w xs oa cap) (hb:Kids Any w ys ob cbp) (hal:xs.length≤1000) (hbl:ys.length≤1000) :
    Calls Tryz.prog 73 #[.slice oa xs.length cap,.slice ob ys.length cbp] w (MostPost xs ys w):=by
  obtain ⟨n,hn⟩:∃ n,n=xs.length+1:=⟨_,rfl⟩
  obtain ⟨m,hm⟩:∃ m,m=ys.length+1:=⟨_,rfl⟩
  have hn':(xs.length:Int)+1=(n:Int):=by omega
  have hm':(ys.length:Int)+1=(m:Int):=by omega
  have hmk1:=fun W=>make_rows n m (fun _=>0) (by omega) W
  have hmk2:=fun W=>make_ints m (by omega) W
  have Hn:=Lib.hid hn
  have Hm:=Lib.hid hm
  have HA:=Lib.hid ha
  have HB:=Lib.hid hb
  have HP:Hid (∀ g bf w',Mat w' g n n m bf (fun x y=>(lcs (xs.drop x) (ys.drop y):Int))→Pr w w'→MostPost xs ys w (.returned (.slice (some ⟨g,0,none⟩) n n)) w'):=Lib.hid fun g bf w' h1 h2=>⟨g,bf,by rw [← hn],by rw [← hn,← hm];exact h1,h2⟩
  clear hn hm ha hb
  go_enter Tryz.func73,Tryz.ntmps73
  go_wp2_with fail
  go_loopw [6] (fun v wr=>∃ (r:Int) (bf:Nat→Nat),-1≤r∧r≤(xs.length:Int)∧v=.int .i64 r∧Mad wr w.heap.size n (r+1).toNat m bf (tab xs ys r ys.length)∧Pr w wr∧∀ x,(r+1).toNat≤x→x < n→w.heap.size≤bf x) (fun v _=>(intOf v+1).toNat)
  case atStart =>
    have h1:((xs.length:Int)+1).toNat=n:=by have:=Hn.out;omega
    refine ⟨_,fun _=>0,by omega,by omega,rfl,?_,Pr.alloc _ _,fun x hx=>by rw [h1] at hx;omega⟩
    rw [h1]
    exact ⟨by rw [outD_all];exact heap_alloc_new w _,fun x hx=>by omega,fun x y hx=>by omega,fun x hx=>by omega⟩
  case round =>
    obtain ⟨r,bf,hr0,hr1,rfl,hM,hb,hbf⟩:=hrel
    by_cases hrz:0≤r
    · obtain ⟨k,rfl⟩:=Int.eq_ofNat_of_zero_le hrz
      have hk1:((k:Int)+1).toNat=k+1:=by omega
      rw [hk1] at hM hbf
      have hkn:k < n:=by have:=Hn.out;omega
      have hkn':(k:Int) < n:=by omega
      have hk0:(0:Int)≤k:=by omega
      have hM2:=hM.grow hkn
      have g1:∀ o1,(wr.alloc o1).cell? ⟨w.heap.size,k,none⟩=some (.slice none 0 0):=fun o1=>(Pr.alloc _ o1).cell (by rw [blk_cell hM.out];exact outD_nil bf hkn (by omega))
      have g2:∀ o1,(wr.alloc o1).frozen? ⟨w.heap.size,k,none⟩=false:=fun o1=>by rw [(Pr.alloc _ o1).frozen (blk_lt hM.out)];exact hM.frozenOut k
      have hgl:=blk_lt hM.out
      have hp5:Pr w ((wr.setCell ⟨w.heap.size,k,none⟩ (.slice (some ⟨wr.heap.size,0,none⟩) m m)).alloc (.cells (rowV m (fun _=>0)) 3)):=(hb.setCell (Nat.le_refl _) _).alloc' _
      have hs5:=hb.size
      have hM4:=Lib.hid hM2
      have Hp5:=Lib.hid hp5
      have Hbf:=Lib.hid hbf
      clear hM2 hM hp5 hbf
      go_upto_region 6 with fail
      obtain ⟨bf2,hbf2⟩:∃ b2:Nat→Nat,b2=fun x=>if x=k then wr.heap.size else bf x:=⟨_,rfl⟩
      have HM5:Hid (Mad ((wr.setCell ⟨w.heap.size,k,none⟩ (.slice (some ⟨wr.heap.size,0,none⟩) m m)).alloc (.cells (rowV m (fun _=>0)) 3)) w.heap.size n k m bf2 (tab xs ys k ys.length)):=Lib.hid (by
        rw [hbf2]
        refine hM4.out.ext fun x y hx hn hy=>?_
        by_cases hxk:x=k
        · rw [if_pos hxk,hxk];unfold tab;rw [if_neg (by have:=Hm.out;omega)]
        · rw [if_neg hxk])
      have HB2:Hid (∀ x,k≤x→x < n→w.heap.size≤bf2 x):=Lib.hid fun x hx hn=>by
        rw [hbf2]
        by_cases hxk:x=k
        · simp only [if_pos hxk];exact hs5
        · simp only [if_neg hxk];exact Hbf.out x (by omega) hn
      clear hM4 hbf2 g1 g2 hgl hs5
      generalize (wr.setCell ⟨w.heap.size,k,none⟩ (.slice (some ⟨wr.heap.size,0,none⟩) m m)).alloc (.cells (rowV m (fun _=>0)) 3)=w1 at *
      go_wp2_with fail
      go_loopw [7] (fun v wr=>∃ u:Int,-1≤u∧u≤(ys.length:Int)∧v=.int .i64 u∧Mad wr w.heap.size n k m bf2 (tab xs ys k u)∧Pr w wr) (fun v _=>(intOf v+1).toNat)
      case atStart=>exact ⟨_,by omega,by omega,rfl,HM5.out,Hp5.out⟩
      case round =>
        obtain ⟨u,hs0,hs1,rfl,hM,hb⟩:=hrel
        by_cases hsz:0≤u
        · obtain ⟨j,rfl⟩:=Int.eq_ofNat_of_zero_le hsz
          by_cases hends:k=xs.length∨j=ys.length
          · have HM6:Hid (Mad wr w.heap.size n k m bf2 (tab xs ys k ((j:Int) - 1))):=Lib.hid (hM.ext fun x y _ _ _=>tab_nil hends)
            clear hM
            by_cases hke:k=xs.length
            · have e1:((k:Int)==(xs.length:Int))=true:=by simp [hke]
              clear hends hke
              go_wp2_with fail
              refine ⟨⟨(j:Int) - 1,by omega,by omega,rfl,HM6.out,hb⟩,?_⟩
              simp [intOf]
            · have e1:((k:Int)==(xs.length:Int))=false:=by rw [beq_eq_false_iff_ne];omega
              have e2:((j:Int)==(ys.length:Int))=true:=by rw [beq_iff_eq];omega
              clear hends hke
              go_wp2_with fail
              refine ⟨⟨(j:Int) - 1,by omega,by omega,rfl,HM6.out,hb⟩,?_⟩
              simp [intOf]
          · have hnn:=Hn.out
            have hmm:=Hm.out
            have hi:k < xs.length:=by omega
            have hj:j < ys.length:=by omega
            have e1:((k:Int)==(xs.length:Int))=false:=by rw [beq_eq_false_iff_ne];omega
            have e2:((j:Int)==(ys.length:Int))=false:=by rw [beq_eq_false_iff_ne];omega
            have s1:=hM.slice (x:=k+1) (by omega) (by omega)
            have s2:=hM.slice (x:=k) (by omega) (by omega)
            have v1:=hM.cell (x:=k+1) (y:=j) (by omega) (by omega) (by omega)
            have v2:=hM.cell (x:=k) (y:=j+1) (by omega) (by omega) (by omega)
            have v3:=hM.cell (x:=k+1) (y:=j+1) (by omega) (by omega) (by omega)
            have v4:=hM.cell (x:=k) (y:=j) (by omega) (by omega) (by omega)
            have f4:=hM.frozen (x:=k) (by omega) (by omega) j
            have lb4:=blk_lt (hM.row k (by omega) (by omega))
            rw [tab_yes (by omega)] at v1 v2 v3
            have k1:=lcs_drop_le xs ys (k+1) j
            have k2:=lcs_drop_le xs ys k (j+1)
            have k3:=lcs_drop_le xs ys (k+1) (j+1)
            have hlc:=lcs_max_at hi hj
            have hbi:=HB2.out k (by omega) (by omega)
            obtain ⟨b1,o1,l1,ks1,oa1,cap1,t1,hl1,rfl,x0,x1,hk1⟩:=(HA.out.pr hb).get k hi
            obtain ⟨b2,o2,l2,ks2,oa2,cap2,t2,hl2,rfl,y0,y1,hk2⟩:=(HB.out.pr hb).get j hj
            rw [t1,t2] at hlc
            have X0:=After.cell x0;have X1:=After.cell x1;have Y0:=After.cell y0;have Y1:=After.cell y1
            have A1:=After.cell s1;have A2:=After.cell s2;have A3:=After.cell v3
            have S1:=Lib.hid (After.call (P:=Tryz.prog) fun W' (h:Pr wr W')=>sameTree_any l1 l2 ks1 ks2 oa1 cap1 oa2 cap2 W' (hk1.pr h) (hk2.pr h))
            obtain ⟨V,hV⟩:∃ V,V=lcs (xs.drop k) (ys.drop j):=⟨_,rfl⟩
            rw [← hV] at hlc
            generalize (Tr.node l1 ks1).beq (.node l2 ks2)=bl at *
            generalize lcs (xs.drop (k+1)) (ys.drop (j+1))=p3 at *
            generalize lcs (xs.drop (k+1)) (ys.drop j)=p1 at *
            generalize lcs (xs.drop k) (ys.drop (j+1))=p2 at *
            have z1:(k:Int)+1 < n:=by omega
            have z2:(k:Int) < n:=by omega
            have z3:(j:Int)+1 < m:=by omega
            have z4:(j:Int) < m:=by omega
            have z7:(k:Int) < xs.length:=by omega
            have z8:(j:Int) < ys.length:=by omega
            have q1:(0:Int)≤(k:Int):=by omega
            have q2:(0:Int)≤(k:Int)+1:=by omega
            have q3:(0:Int)≤(j:Int)+1:=by omega
            have q4:(0:Int)≤(j:Int):=by omega
            have w9:((k:Int)+1).toNat=k+1:=by omega
            have w10:((j:Int)+1).toNat=j+1:=by omega
            have u1:IntKind.i64.wrap ((k:Int)+1)=(k:Int)+1:=IntWalk.i64_in _ (by omega)
            have u2:IntKind.i64.wrap ((j:Int)+1)=(j:Int)+1:=IntWalk.i64_in _ (by omega)
            have u3:IntKind.i64.wrap ((p3:Int)+1)=(p3:Int)+1:=IntWalk.i64_in _ (by omega)
            have HM3:=Lib.hid hM
            have HV:=Lib.hid hV
            have Hb:=Lib.hid hb
            have FIN:Hid (∀ w4,Pr wr w4→(Mad (w4.setCell ⟨bf2 k,j,none⟩ (.int .i64 (V:Int))) w.heap.size n k m bf2 (tab xs ys k ((j:Int) - 1))∧Pr w (w4.setCell ⟨bf2 k,j,none⟩ (.int .i64 (V:Int))))):=Lib.hid fun w4 hq=>by
              refine ⟨((HM3.out.pr hq).store (x:=k) (y:=j) (by omega) (by omega) (V:Int)).ext fun x y _ _ _=>?_,(Hb.out.trans hq).setCell hbi _⟩
              rw [← tab_step (lcs (xs.drop k) (ys.drop j):Int) rfl,← HV.out]
            clear hM hnn hmm hl1 hl2 x0 x1 y0 y1 hk1 hk2 hV hends t1 t2 hb
            by_cases h12:p1 < p2
            case pos =>
              have d1:decide ((p1:Int) < (p2:Int))=true:=decide_eq_true (by omega)
              have d2:decide (p1 < p2)=true:=decide_eq_true h12
              cases bl
              case false =>
                rw [if_neg (by simp)] at hlc
                have eV:(V:Int)=(p2:Int):=by omega
                rw [eV] at FIN
                have h3:True:=trivial
                clear hlc eV h12 h3
                go_upto_region 13 with fail
                refine wp_region_after (by kernel_rfl) (by kernel_rfl) ?_
                repeat (go_big_quiet_step (first | (go_at_call 11;with_reducible exact S1.out _)))
                refine wpQuiet_nil ?_
                rintro wq ⟨⟨_,hq⟩,rfl⟩
                have s1:=hq.cell s1;have s2:=hq.cell s2;have v3:=hq.cell v3;have v4:=hq.cell v4
                have f4:wq.frozen? ⟨bf2 k,j,none⟩=false:=by rw [hq.frozen lb4];exact f4
                obtain ⟨g1,g2⟩:=FIN.out _ hq
                have G1:=Lib.hid g1;have G2:=Lib.hid g2
                clear g1 g2 FIN X0 X1 Y0 Y1 A1 A2 A3
                go_wp2_with fail
                refine ⟨⟨(j:Int) - 1,by omega,by omega,rfl,G1.out,G2.out⟩,?_⟩
                simp [intOf]
              case true =>
                by_cases h3:p2 < p3+1
                · have d3:decide ((p2:Int) < (p3:Int)+1)=true:=decide_eq_true (by omega)
                  rw [if_pos ⟨rfl,by omega⟩] at hlc
                  have eV:(V:Int)=(p3:Int)+1:=by omega
                  rw [eV] at FIN
                  clear hlc eV h12 h3
                  go_upto_region 13 with fail
                  refine wp_region_after (by kernel_rfl) (by kernel_rfl) ?_
                  repeat (go_big_quiet_step (first | (go_at_call 11;with_reducible exact S1.out _)))
                  refine wpQuiet_nil ?_
                  rintro wq ⟨⟨_,hq⟩,rfl⟩
                  have s1:=hq.cell s1;have s2:=hq.cell s2;have v3:=hq.cell v3;have v4:=hq.cell v4
                  have f4:wq.frozen? ⟨bf2 k,j,none⟩=false:=by rw [hq.frozen lb4];exact f4
                  obtain ⟨g1,g2⟩:=FIN.out _ hq
                  have G1:=Lib.hid g1;have G2:=Lib.hid g2
                  clear g1 g2 FIN X0 X1 Y0 Y1 A1 A2 A3
                  go_wp2_with fail
                  refine ⟨⟨(j:Int) - 1,by omega,by omega,rfl,G1.out,G2.out⟩,?_⟩
                  simp [intOf]
                · have d3:decide ((p2:Int) < (p3:Int)+1)=false:=decide_eq_false (by omega)
                  rw [if_neg (by omega)] at hlc
                  have eV:(V:Int)=(p2:Int):=by omega
                  rw [eV] at FIN
                  clear hlc eV h12 h3
                  go_upto_region 13 with fail
                  refine wp_region_after (by kernel_rfl) (by kernel_rfl) ?_
                  repeat (go_big_quiet_step (first | (go_at_call 11;with_reducible exact S1.out _)))
                  refine wpQuiet_nil ?_
                  rintro wq ⟨⟨_,hq⟩,rfl⟩
                  have s1:=hq.cell s1;have s2:=hq.cell s2;have v3:=hq.cell v3;have v4:=hq.cell v4
                  have f4:wq.frozen? ⟨bf2 k,j,none⟩=false:=by rw [hq.frozen lb4];exact f4
                  obtain ⟨g1,g2⟩:=FIN.out _ hq
                  have G1:=Lib.hid g1;have G2:=Lib.hid g2
                  clear g1 g2 FIN X0 X1 Y0 Y1 A1 A2 A3
                  go_wp2_with fail
                  refine ⟨⟨(j:Int) - 1,by omega,by omega,rfl,G1.out,G2.out⟩,?_⟩
                  simp [intOf]
            case neg =>
              have d1:decide ((p1:Int) < (p2:Int))=false:=decide_eq_false (by omega)
              have d2:decide (p1 < p2)=false:=decide_eq_false h12
              cases bl
              case false =>
                rw [if_neg (by simp)] at hlc
                have eV:(V:Int)=(p1:Int):=by omega
                rw [eV] at FIN
                have h3:True:=trivial
                clear hlc eV h12 h3
                go_upto_region 13 with fail
                refine wp_region_after (by kernel_rfl) (by kernel_rfl) ?_
                repeat (go_big_quiet_step (first | (go_at_call 11;with_reducible exact S1.out _)))
                refine wpQuiet_nil ?_
                rintro wq ⟨⟨_,hq⟩,rfl⟩
                have s1:=hq.cell s1;have s2:=hq.cell s2;have v3:=hq.cell v3;have v4:=hq.cell v4
                have f4:wq.frozen? ⟨bf2 k,j,none⟩=false:=by rw [hq.frozen lb4];exact f4
                obtain ⟨g1,g2⟩:=FIN.out _ hq
                have G1:=Lib.hid g1;have G2:=Lib.hid g2
                clear g1 g2 FIN X0 X1 Y0 Y1 A1 A2 A3
                go_wp2_with fail
                refine ⟨⟨(j:Int) - 1,by omega,by omega,rfl,G1.out,G2.out⟩,?_⟩
                simp [intOf]
              case true =>
                by_cases h3:p1 < p3+1
                · have d3:decide ((p1:Int) < (p3:Int)+1)=true:=decide_eq_true (by omega)
                  rw [if_pos ⟨rfl,by omega⟩] at hlc
                  have eV:(V:Int)=(p3:Int)+1:=by omega
                  rw [eV] at FIN
                  clear hlc eV h12 h3
                  go_upto_region 13 with fail
                  refine wp_region_after (by kernel_rfl) (by kernel_rfl) ?_
                  repeat (go_big_quiet_step (first | (go_at_call 11;with_reducible exact S1.out _)))
                  refine wpQuiet_nil ?_
                  rintro wq ⟨⟨_,hq⟩,rfl⟩
                  have s1:=hq.cell s1;have s2:=hq.cell s2;have v3:=hq.cell v3;have v4:=hq.cell v4
                  have f4:wq.frozen? ⟨bf2 k,j,none⟩=false:=by rw [hq.frozen lb4];exact f4
                  obtain ⟨g1,g2⟩:=FIN.out _ hq
                  have G1:=Lib.hid g1;have G2:=Lib.hid g2
                  clear g1 g2 FIN X0 X1 Y0 Y1 A1 A2 A3
                  go_wp2_with fail
                  refine ⟨⟨(j:Int) - 1,by omega,by omega,rfl,G1.out,G2.out⟩,?_⟩
                  simp [intOf]
                · have d3:decide ((p1:Int) < (p3:Int)+1)=false:=decide_eq_false (by omega)
                  rw [if_neg (by omega)] at hlc
                  have eV:(V:Int)=(p1:Int):=by omega
                  rw [eV] at FIN
                  clear hlc eV h12 h3
                  go_upto_region 13 with fail
                  refine wp_region_after (by kernel_rfl) (by kernel_rfl) ?_
                  repeat (go_big_quiet_step (first | (go_at_call 11;with_reducible exact S1.out _)))
                  refine wpQuiet_nil ?_
                  rintro wq ⟨⟨_,hq⟩,rfl⟩
                  have s1:=hq.cell s1;have s2:=hq.cell s2;have v3:=hq.cell v3;have v4:=hq.cell v4
                  have f4:wq.frozen? ⟨bf2 k,j,none⟩=false:=by rw [hq.frozen lb4];exact f4
                  obtain ⟨g1,g2⟩:=FIN.out _ hq
                  have G1:=Lib.hid g1;have G2:=Lib.hid g2
                  clear g1 g2 FIN X0 X1 Y0 Y1 A1 A2 A3
                  go_wp2_with fail
                  refine ⟨⟨(j:Int) - 1,by omega,by omega,rfl,G1.out,G2.out⟩,?_⟩
                  simp [intOf]
        · have hrv:u=-1:=by omega
          have HM6:=Lib.hid (hM.ext fun x y _ _ hy=>show _=tab xs ys ((k:Int) - 1) ys.length x y by rw [hrv];exact tab_next (by have:=Hm.out;omega))
          have e1:decide (0≤u)=false:=by simp;omega
          have hk2:((k:Int) - 1+1).toNat=k:=by omega
          clear hM hrv
          go_wp2_with fail
          refine ⟨⟨(k:Int) - 1,bf2,by omega,by omega,rfl,by rw [hk2];exact HM6.out,hb,fun x hx hn=>HB2.out x (by omega) hn⟩,?_⟩
          simp [intOf]
    · have hrv:r=-1:=by omega
      subst hrv
      have HM6:=Lib.hid ((show Mad wr w.heap.size n 0 m bf (tab xs ys (-1) ys.length) from hM).mat.ext fun x y hx hy=>show _=(lcs (xs.drop x) (ys.drop y):Int) by rw [tab_yes (by omega)])
      have Hb:=Lib.hid hb
      clear hM hb hbf
      go_wp2_with fail
      go_ret
      exact HP.out _ _ _ HM6.out Hb.out
end Go.Proofs.YtdbnfhpgmcjngacGreat
/- Walks: pleachingref.Common. -/
namespace Go.Proofs.YtdbnfhpgmcjngacGreat
open Go Go.RowKit
set_option maxRecDepth 100000 in
set_option maxHeartbeats 6400000 in
theorem rcommon_any (xs ys:List Tr) (oa cap ob cbp) (w:World) (ha:Kids Any w xs oa cap) (hb:Kids Any w ys ob cbp) (hal:xs.length≤1000) (hbl:ys.length≤1000) :
    Calls Tryz.prog 47 #[.slice oa xs.length cap,.slice ob ys.length cbp] w (ComPost w (pz (common xs ys))):=by
  have MS:=Lib.hid (most_any xs ys oa cap ob cbp w ha hb hal hbl)
  obtain ⟨n,hn⟩:∃ n,n=xs.length+1:=⟨_,rfl⟩
  obtain ⟨m,hm⟩:∃ m,m=ys.length+1:=⟨_,rfl⟩
  unfold MostPost at MS
  rw [← hn,← hm] at MS
  have Hn:=Lib.hid hn
  have Hm:=Lib.hid hm
  have HA:=Lib.hid ha
  have HB:=Lib.hid hb
  clear hn hm ha hb
  go_enter Tryz.func47,Tryz.ntmps47
  go_wp2_with (go_at_call 73;(with_reducible refine Calls.mono MS.out ?_);rintro e w2 ⟨g,bf,rfl,hM,hb⟩)
  have Hb0:=Lib.hid hb;have HM6:=Lib.hid hM
  clear hb hM MS
  go_loopw [6,7,8] (fun v9 v10 v11 wr=>∃ (i j:Nat) (L:List (Nat × Nat)),i≤xs.length∧j≤ys.length∧v10=.int .i64 i∧v11=.int .i64 j∧common xs ys=L ++ com (xs.drop i) (ys.drop j) i j∧OwnsPs w2.heap.size wr v9 (pz L)∧L.length≤i∧Pr w2 wr) (fun _ v10 v11 _=>(xs.length - (intOf v10).toNat)+(ys.length - (intOf v11).toNat))
  case atStart=>exact ⟨0,0,[],by omega,by omega,rfl,rfl,by simp [common],OwnsPs.nil _ _,by simp,Pr.refl _⟩
  case round =>
    obtain ⟨i,j,L,hi,hj,rfl,rfl,hL,hown,hLl,hb⟩:=hrel
    have HL:=Lib.hid hL
    clear hL
    by_cases hi2:i < xs.length
    · by_cases hj2:j < ys.length
      · have hnn:=Hn.out
        have hmm:=Hm.out
        obtain ⟨b1,o1,l1,ks1,oa1,cap1,e1,hl1,rfl,x0,x1,hk1⟩:=HA.out.get i hi2
        obtain ⟨b2,o2,l2,ks2,oa2,cap2,e2,hl2,rfl,y0,y1,hk2⟩:=HB.out.get j hj2
        have hcm:=com_at hi2 hj2
        rw [e1,e2] at hcm
        have hp4:=Hb0.out.trans hb
        have S1:=Lib.hid (fun W' (h:Pr w W')=>sameTree_any l1 l2 ks1 ks2 oa1 cap1 oa2 cap2 W' (hk1.pr h) (hk2.pr h))
        generalize (Tr.node l1 ks1).beq (.node l2 ks2)=bl at *
        have x0:=stays x0 _ hp4;have x1:=stays x1 _ hp4;have y0:=stays y0 _ hp4;have y1:=stays y1 _ hp4
        have Hcm:=Lib.hid hcm
        have Hp4:=Lib.hid hp4
        have z7:(i:Int) < xs.length:=by omega
        have z8:(j:Int) < ys.length:=by omega
        clear hcm hp4 e1 e2 hl1 hl2 hk1 hk2
        cases bl
        case false =>
          have hM:=HM6.out.pr hb
          have s1:=stays (hM.slice (x:=i+1) (by omega) (by omega))
          have s2:=stays (hM.slice (x:=i) (by omega) (by omega))
          have v1:=stays (hM.cell (x:=i+1) (y:=j) (by omega) (by omega))
          have v2:=stays (hM.cell (x:=i) (y:=j+1) (by omega) (by omega))
          have hcm:=Hcm.out
          rw [if_neg (by simp)] at hcm
          have k1:=lcs_drop_le xs ys (i+1) j
          have k2:=lcs_drop_le xs ys i (j+1)
          generalize lcs (xs.drop (i+1)) (ys.drop j)=p1 at *
          generalize lcs (xs.drop i) (ys.drop (j+1))=p2 at *
          have Hcm2:=Lib.hid hcm
          have z1:(i:Int)+1 < n:=by omega
          have z2:(i:Int) < n:=by omega
          have z3:(j:Int)+1 < m:=by omega
          have z4:(j:Int) < m:=by omega
          have q1:(0:Int)≤(i:Int)+1:=by omega
          have q3:(0:Int)≤(j:Int)+1:=by omega
          have q9:((i:Int)+1).toNat=i+1:=by omega
          have q10:((j:Int)+1).toNat=j+1:=by omega
          have u1:IntKind.i64.wrap ((i:Int)+1)=(i:Int)+1:=IntWalk.i64_in _ (by omega)
          have u2:IntKind.i64.wrap ((j:Int)+1)=(j:Int)+1:=IntWalk.i64_in _ (by omega)
          clear hM Hcm hcm hnn hmm
          go_upto_region 5 with fail
          refine wp_region_quiet_tail 8 (by kernel_rfl) (by kernel_rfl) ?_
          simp only [List.take_succ_cons,List.take_zero,List.drop_succ_cons,List.drop_zero]
          repeat (go_big_quiet_step (fail))
          refine wpQuiet_nil ?_
          rintro _ ⟨nq,rfl⟩
          have hq:=Pr.drewN wr nq
          go_upto_region 9 with (first | (go_at_call 11;(with_reducible refine Calls.mono (S1.out _ (Hp4.out.trans hq)) ?_);rintro e w5 ⟨rfl,hb5⟩))
          have hq5:Pr wr w5:=hq.trans hb5
          have s1:=s1 _ hq5;have s2:=s2 _ hq5;have v1:=v1 _ hq5;have v2:=v2 _ hq5
          have hown5:=hown.pr hq5
          have hp5:=hb.trans hq5
          clear hq hq5 hb5 x0 x1 y0 y1 hown hb
          by_cases hle:p2≤p1
          · have d1:decide ((p2:Int)≤p1)=true:=by simp;omega
            have d2:decide (p2≤p1)=true:=by simp;omega
            have HC:=Lib.hid (Hcm2.out.trans (if_pos hle))
            clear hle Hcm2
            go_quiet (fail)
            go_wp2_with fail
            refine ⟨⟨i+1,j,L,by omega,hj,by go_num,rfl,by rw [HL.out,HC.out],hown5.pr (Pr.drewN _ _),by omega,hp5.drewN' _⟩,?_⟩
            simp [intOf];omega
          · have d1:decide ((p2:Int)≤p1)=false:=by simp;omega
            have d2:decide (p2≤p1)=false:=by simp;omega
            have HC:=Lib.hid (Hcm2.out.trans (if_neg hle))
            clear hle Hcm2
            go_quiet (fail)
            go_wp2_with fail
            refine ⟨⟨i,j+1,L,hi,by omega,rfl,by go_num,by rw [HL.out,HC.out],hown5.pr (Pr.drewN _ _),hLl,hp5.drewN' _⟩,?_⟩
            simp [intOf];omega
        case true =>
          have hcm:=Hcm.out
          rw [if_pos rfl] at hcm
          have HC:=Lib.hid hcm
          have hll:=pz_length L
          clear hcm Hcm hnn hmm
          go_upto_region 5 with fail
          refine wp_region_quiet_tail 8 (by kernel_rfl) (by kernel_rfl) ?_
          simp only [List.take_succ_cons,List.take_zero,List.drop_succ_cons,List.drop_zero]
          repeat (go_big_quiet_step (fail))
          refine wpQuiet_nil ?_
          rintro _ ⟨nq,rfl⟩
          have hq:=Pr.drewN wr nq
          go_wp2_with (first
            | (go_at_call 11;(with_reducible refine Calls.mono (S1.out _ (Hp4.out.trans hq)) ?_);rintro e w5 ⟨rfl,hb5⟩)
            | (at_builtin;go_must (refine app_pair rfl _ _ rfl w2.heap.size _ _ rfl ((hown.pr (hq.trans hb5)).pr (Pr.alloc _ _)) w5.heap.size rfl ((i:Int),(j:Int)) (heap_alloc_new w5 _) (by omega) (by have:=hb.size;have:=hq.size;have:=hb5.size;simp;omega) ?_);intro v6 w6 ho6 hg6 hd6))
          refine ⟨⟨i+1,j+1,L ++ [(i,j)],by omega,by omega,by go_num,by go_num,by rw [HL.out,HC.out];simp,by rw [pz_append];exact ho6,by simp;omega,?_⟩,?_⟩
          · refine Below.grown ((hb.trans (hq.trans hb5)).alloc' _) hg6 ?_ ?_
            · have:=hb.size;have:=hq.size;have:=hb5.size;simp;omega
            · intro k hk;exact (hown.block k hk).1
          · simp [intOf];omega
      · have hc:=HL.out
        rw [List.drop_of_length_le (by omega:ys.length≤j),com_nil_right,List.append_nil] at hc
        have HC:=Lib.hid hc
        clear hc
        go_wp2_with fail
        go_ret
        exact ⟨_,rfl,by rw [HC.out];exact hown.mono Hb0.out.size,Hb0.out.trans hb⟩
    · have hc:=HL.out
      rw [List.drop_of_length_le (by omega:xs.length≤i),com_nil,List.append_nil] at hc
      have HC:=Lib.hid hc
      clear hc
      go_wp2_with fail
      go_ret
      exact ⟨_,rfl,by rw [HC.out];exact hown.mono Hb0.out.size,Hb0.out.trans hb⟩
end Go.Proofs.YtdbnfhpgmcjngacGreat
/- Triples of numbers in memory: slices of one's own; and what stands in front of pleachingref.mixed. -/
namespace Go.Proofs.YtdbnfhpgmcjngacGreat
open Go Go.RowKit
abbrev T3:=Int × Int × Int
def trCells (ps:List T3):List Value:=ps.flatMap fun p=>[.int .i64 p.1,.int .i64 p.2.1,.int .i64 p.2.2]
theorem trCells_append (a b:List T3):trCells (a ++ b)=trCells a ++ trCells b:=by simp [trCells]
theorem trCells_length (l:List T3):(trCells l).length=l.length * 3:=by
  induction l with
  | nil=>rfl
  | cons x l ih=>simp [trCells] at ih ⊢;omega
theorem trCells_get:∀ (l:List T3) (i:Nat) (h:i < l.length),(trCells l)[i * 3]? = some (.int .i64 l[i].1)∧(trCells l)[i * 3+1]? = some (.int .i64 l[i].2.1)∧(trCells l)[i * 3+2]? = some (.int .i64 l[i].2.2)
  | x :: l,0,_=>by simp [trCells]
  | x :: l,i+1,h=>by
    have:=trCells_get l i (by simpa using h)
    rw [show (i+1) * 3=i * 3+3 by omega]
    simpa [trCells] using this
theorem trCells_one (l:List T3):∀ u∈trCells l,u.oneCell'=true:=by
  intro u hu
  simp only [trCells,List.mem_flatMap] at hu
  obtain ⟨p,_,hu⟩:=hu
  simp at hu
  rcases hu with rfl | rfl | rfl <;> rfl
theorem under_tris:Tryz.prog.underlying 95=some (.slice 94):=by kernel_rfl
theorem info_tri:(Tryz.prog.info? 94).map (fun i=>(i.zero,i.size,i.bytes))=some (some (.agg #[.int .i64 0,.int .i64 0,.int .i64 0]),3,24):=by kernel_rfl
def OwnsQs (base:Nat) (w:World) (v:Value) (ps:List T3):Prop:=w.ownsRow base 94 3 v ps.length (trCells ps)
theorem OwnsQs.block {b:Nat} {w:World} {v:Value} {xs:List T3} (h:OwnsQs b w v xs):∀ k,v.ownBlock=some k→b≤k∧k < w.heap.size:=World.ownsRow.lt h
theorem OwnsQs.kept {b:Nat} {w w':World} {v:Value} {xs:List T3} (h:OwnsQs b w v xs) (hk:∀ k,v.ownBlock=some k→w'.heap[k]? = w.heap[k]?):OwnsQs b w' v xs:=ownsRow_kept h hk
theorem OwnsQs.pr {b:Nat} {w w':World} {v:Value} {xs:List T3} (h:OwnsQs b w v xs) (hp:Pr w w'):OwnsQs b w' v xs:=h.kept fun k hk=>Below.block hp k (h.block k hk).2
theorem OwnsQs.mono {b b':Nat} {w:World} {v:Value} {xs:List T3} (h:OwnsQs b w v xs) (hb:b'≤b):OwnsQs b' w v xs:=ownsRow_mono h hb
theorem OwnsQs.made (w:World) (x:T3):OwnsQs w.heap.size (w.alloc (.cells #[.int .i64 x.1,.int .i64 x.2.1,.int .i64 x.2.2] 94)) (.slice (some ⟨w.heap.size,0,none⟩) 1 1) [x] :=
  ⟨by simp [trCells],.inr ⟨w.heap.size,1,#[.int .i64 x.1,.int .i64 x.2.1,.int .i64 x.2.2],rfl,Nat.le_refl _,heap_alloc_new w _,Nat.le_refl _,by unfold maxLen;omega,rfl,by simp [trCells]⟩⟩
theorem OwnsQs.get {b:Nat} {w:World} {v:Value} {xs:List T3} (h:OwnsQs b w v xs) (hne:xs≠[]):∃ g cap,v=.slice (some ⟨g,0,none⟩) xs.length cap∧(xs.length≤cap∧cap≤maxLen)∧b≤g∧g < w.heap.size ∧
    ∀ (i:Nat) (_:i < xs.length),w.cell? ⟨g,i * 3,none⟩=some (.int .i64 xs[i].1)∧w.cell? ⟨g,i * 3+1,none⟩=some (.int .i64 xs[i].2.1)∧w.cell? ⟨g,i * 3+2,none⟩=some (.int .i64 xs[i].2.2):=by
  rcases h.2 with ⟨rfl,hn⟩ | ⟨g,cap,cur,rfl,hb,hg,hnc,hcm,_⟩
  · exact absurd (List.eq_nil_of_length_eq_zero hn) hne
  · have hc:∀ j u,(trCells xs)[j]? = some u→w.cell? ⟨g,j,none⟩=some u:=fun j u hu=>by
      have:=World.ownsRow.cells h (g:=g) rfl j u hu
      simpa [Addr.add_lit] using this
    refine ⟨g,cap,rfl,⟨hnc,hcm⟩,hb,blk_lt hg,fun i hi=>?_⟩
    obtain ⟨g1,g2,g3⟩:=trCells_get xs i hi
    exact ⟨hc _ _ g1,hc _ _ g2,hc _ _ g3⟩
section
variable {ops:Array Oper} {o:Oper} {a:Act} {w:World} {rest:List Oper} {Q:Exit→Act→World→Prop}
theorem app_tri (hgd:o.guard=none) (s x:Operand) (ho:o.op=.call { callee:=.builtin .append,args:=#[s,x],argTypes:=#[95,95] })
    (b:Nat) (v:Value) (xs:List T3) (hs:a.eval s=v) (hown:OwnsQs b w v xs) (B:Nat) (hx:a.eval x=.slice (some ⟨B,0,none⟩) 1 1) (y:T3)
    (hB:w.heap[B]? = some (.cells #[.int .i64 y.1,.int .i64 y.2.1,.int .i64 y.2.2] 94 (0,0))) (hlen:xs.length≤1000000000) (hbase:b≤w.heap.size)
    (h:∀ v' w',OwnsQs b w' v' (xs ++ [y])→w.grownBy w' v.ownBlock→(∀ k,v'.ownBlock=some k→v.ownBlock=some k∨k=w.heap.size)→wpList Tryz.prog ops Q rest (a.put o.dst v') w') :
    wpList Tryz.prog ops Q (o :: rest) a w:=by
  obtain ⟨i0,hi,hz0,hz1,hz2⟩:=info_parts info_tri
  refine wp_app_rows hgd s x _ ho b _ i0 _ 3 24 under_tris hi hz0 hz1 hz2 rfl (by omega) v xs.length (trCells xs) hs hown _ 1 1 (trCells [y]) hx (by simp [trCells_length]) (fun _=>⟨_,rfl,World.news_of_block (cs:=#[.int .i64 y.1,.int .i64 y.2.1,.int .i64 y.2.2]) hB⟩)
    (trCells_one _) (by unfold maxLen;omega) (by omega) hbase ?_
  intro v' w' g1 g2 g3
  refine h v' w' ?_ g2 g3
  unfold OwnsQs
  rw [List.length_append,trCells_append];exact g1
end
def tz (H:List (Nat × Nat × Nat)):List T3:=H.map fun h=>((h.1:Int),(h.2.1:Int),(h.2.2:Int))
theorem tz_append (a b:List (Nat × Nat × Nat)):tz (a ++ b)=tz a ++ tz b:=by simp [tz]
theorem tz_length (a:List (Nat × Nat × Nat)):(tz a).length=a.length:=by simp [tz]
theorem held_take_succ (x y:List (Nat × Nat)) (i:Nat) (h:i < x.length):held (x.take (i+1)) y=held (x.take i) y ++ held [x[i]] y:=by
  unfold held;rw [List.take_succ_eq_append_getElem h,List.flatMap_append]
theorem held_one_nil (p:Nat × Nat):held [p] []=[]:=by simp [held]
theorem held_snoc_hit (p q:Nat × Nat) (z:List (Nat × Nat)) (he:p.1=q.1):held [p] (z ++ [q])=held [p] z ++ [(p.1,p.2,q.2)]:=by
  simp [held,he]
theorem held_snoc_miss (p q:Nat × Nat) (z:List (Nat × Nat)) (he:p.1≠q.1):held [p] (z ++ [q])=held [p] z:=by
  have e:(p.1==q.1)=false:=by rw [beq_eq_false_iff_ne];exact he
  simp [held,e]
theorem held_one_hit (p:Nat × Nat) (y:List (Nat × Nat)) (k:Nat) (h:k < y.length) (he:p.1=y[k].1):held [p] (y.take (k+1))=held [p] (y.take k) ++ [(p.1,p.2,y[k].2)]:=by
  rw [List.take_succ_eq_append_getElem h];exact held_snoc_hit _ _ _ he
theorem held_one_miss (p:Nat × Nat) (y:List (Nat × Nat)) (k:Nat) (h:k < y.length) (he:p.1≠y[k].1):held [p] (y.take (k+1))=held [p] (y.take k):=by
  rw [List.take_succ_eq_append_getElem h];exact held_snoc_miss _ _ _ he
theorem held_length {x y:List (Nat × Nat)} (hx:Rise x) (hy:Rise y) (n:Nat) (h:∀ p∈x,p.1 < n):(held x y).length≤n:=by
  have h1:((held x y).map (·.1)).Pairwise (fun a b=>a < b):=by rw [List.pairwise_map];exact (held_rise hx hy).imp fun h=>h.1
  have h2:∀ a∈(held x y).map (·.1),a < n:=by
    intro a ha
    obtain ⟨⟨p,q,r⟩,hm,rfl⟩:=List.mem_map.1 ha
    exact h _ (mem_held.1 hm).1
  have h3:∀ (l:List Nat) (m:Nat),l.Pairwise (fun a b=>a < b)→(∀ a∈l,m≤a∧a < n)→l.length≤n - m:=by
    intro l
    induction l with
    | nil=>intro m _ _;simp
    | cons a l ih =>
      intro m hp hm
      rw [List.pairwise_cons] at hp
      have h4:=hm a (by simp)
      have:=ih (a+1) hp.2 (fun b hb=>⟨hp.1 b hb,(hm b (by simp [hb])).2⟩)
      simp only [List.length_cons];omega
  have:=h3 _ 0 h1 (fun a ha=>⟨Nat.zero_le _,h2 a ha⟩)
  simpa using this
theorem held_mul (x y:List (Nat × Nat)):(held x y).length≤x.length * y.length:=by
  induction x with
  | nil=>simp [held]
  | cons p x ih =>
    have:held (p :: x) y=held [p] y ++ held x y:=by simp [held]
    rw [this,List.length_append,List.length_cons]
    have h1:(held [p] y).length≤y.length:=by
      simp only [held,List.flatMap_cons,List.flatMap_nil,List.append_nil,List.length_map]
      exact List.length_filter_le _ _
    have:(x.length+1) * y.length=x.length * y.length+y.length:=by rw [Nat.add_mul];simp
    omega
def MixedPost (M:Nat) (r:Ex Tr) (w:World) (e:Ending) (w':World):Prop:=Pr w w'∧match r with
  | .ok t=>∃ l ks oa cap,t=.node l ks∧l.size≤maxLen∧e=.returned (.tuple #[.agg #[.string l,.slice oa ks.length cap],.slice none 0 0,.bool true])∧Kids (fun k=>k < M∨w.heap.size≤k) w' ks oa cap
  | .error p=>∃ l kv kn kc oa cap,e=.returned (.tuple #[.agg #[.string l,.slice kv kn kc],.slice oa p.length cap,.bool false])∧Ints (From w.heap.size) w' p oa cap
def RMixC (N:Nat):Prop:=∀ (l1 l2 l3:ByteArray) (k1 k2 k3:List Tr) (o1 o2 o3:Option Addr) (c1 c2 c3 M:Nat) (w:World),
  Tr.szL k1 < N→Tr.szL k1≤1000→Tr.szL k2≤1000→Tr.szL k3≤1000→l1.size≤maxLen→l2.size≤maxLen→l3.size≤maxLen→M≤w.heap.size →
  Kids (fun k=>k < M) w k1 o1 c1→Kids (fun k=>k < M) w k2 o2 c2→Kids (fun k=>k < M) w k3 o3 c3 →
  Calls Tryz.prog 27 #[.agg #[.string l1,.slice o1 k1.length c1],.agg #[.string l2,.slice o2 k2.length c2],.agg #[.string l3,.slice o3 k3.length c3]] w (MixedPost M (mixT N (.node l1 k1) (.node l2 k2) (.node l3 k3)) w)
end Go.Proofs.YtdbnfhpgmcjngacGreat
