/- Walks: a book's Blame. -/
import Derived.Test.YtdbnfhpgmcjngacGreatBzr
import Derived.Test.YtdbnfhpgmcjngacGreatBwn
namespace Go.Proofs.YtdbnfhpgmcjngacGreat
open Go Go.RowKit
variable {X:Nat→Prop}
theorem fault_sz {t:Tr} (h:fault t=0):t.sz≤1000:=by
  have:=(fault_zero.1 h).1
  omega
theorem form_go (now:Int):∀ (ds:List Dee) (t:Tr) (m:Mk) (i:Nat) (t':Tr) (back:List Dee),runGo i t ds=.ok (t',back)→Form t m→Form t' (doMs now ds m)∧∀ (j:Nat) (h:j < ds.length),okM ds[j] ds[j].path (doMs now (ds.take j) m)
  | [],t,m,i,t',back,h,hf=>by
    cases h
    exact ⟨hf,fun j h=>absurd h (Nat.not_lt_zero _)⟩
  | d :: ds,t,m,i,t',back,h,hf=>by
    by_cases h0:(doD t d).2.2=0
    · cases hx:runGo (i+1) (doD t d).1 ds with
      | error e=>rw [runGo_err h0 hx] at h;cases h
      | ok y =>
        rw [runGo_ok h0 hx] at h
        cases h
        obtain ⟨h1,h2,h3,h4⟩:=doD_ok.1 h0
        obtain ⟨k1,_,k2,k3,k4,k5,_⟩:=dfault_zero.1 h2
        obtain ⟨g1,g2⟩:=form_do d now k3 k4 k1 d.path t m k5 (fun e=>(k2 e).2) (fault_sz h1) hf h3
        rw [doD_is h0] at hx
        obtain ⟨g3,g4⟩:=form_go now ds _ (doM d now d.path m) (i+1) y.1 y.2 hx g2
        refine ⟨g3,fun j hj=>?_⟩
        cases j with
        | zero=>exact g1
        | succ j=>exact g4 j (by simpa using hj)
    · rw [runGo_no h0] at h;cases h
def blM (ts:List Tr):Nat→Mk
  | 0=>markP 0 (ts.getD 0 Tr.zero)
  | n+1=>doMs ((n:Int)+1) (stepD ts ((n:Int)+1)) (blM ts n)
theorem stepD_get (ts:List Tr) (n:Nat) (h:n+1 < ts.length):stepD ts ((n:Int)+1)=(stepP ts[n] ts[n+1]).1:=by
  unfold stepD
  rw [if_pos (by omega)]
  have h1:((n:Int)+1).toNat=n+1:=by omega
  have hlt:n < ts.length:=by omega
  rw [h1,Nat.add_sub_cancel];simp [List.getD,hlt,h]
theorem stepP_go {a b:Tr} (ha:fault a=0) (hb:fault b=0):∃ back,runGo 0 a (stepP a b).1=.ok (b,back):=(diff_ok ha hb).1
theorem blM_form {ts:List Tr} (hf:∀ t∈ts,fault t=0):∀ (n:Nat) (h:n < ts.length),Form ts[n] (blM ts n)
  | 0, h => by simp only [blM]; have : ts.getD 0 Tr.zero = ts[0] := by simp [List.getD, h]
               rw [this];exact markP_form 0 _
  | n+1,h=>by
    simp only [blM]
    rw [stepD_get ts n h]
    obtain ⟨back,hgo⟩:=stepP_go (hf _ (List.getElem_mem (by omega:n < ts.length))) (hf _ (List.getElem_mem h))
    exact (form_go _ _ _ _ _ _ _ hgo (blM_form hf n (by omega))).1
theorem blM_ok {ts:List Tr} (hf:∀ t∈ts,fault t=0) (n:Nat) (h:n+1 < ts.length) (j:Nat) (hj:j < (stepD ts ((n:Int)+1)).length) :
    okM (stepD ts ((n:Int)+1))[j] (stepD ts ((n:Int)+1))[j].path (doMs ((n:Int)+1) ((stepD ts ((n:Int)+1)).take j) (blM ts n)):=by
  obtain ⟨back,hgo⟩:=stepP_go (hf _ (List.getElem_mem (by omega:n < ts.length))) (hf _ (List.getElem_mem h))
  have h1:=stepD_get ts n h
  rw [← h1] at hgo
  exact (form_go _ _ _ _ _ _ _ hgo (blM_form hf n (by omega))).2 j hj
def hasB (ts:List Tr) (z:Int):Prop:=0≤z∧z < ts.length
instance (ts:List Tr) (z:Int):Decidable (hasB ts z):=inferInstanceAs (Decidable (_∧_))
def blameP (ts:List Tr) (z:Int):List Int:=if hasB ts z then listM (blM ts z.toNat) else []
def blameC (ts:List Tr) (z:Int):Int:=if hasB ts z then 0 else 7
def BlamePost (ts:List Tr) (z:Int) (w:World) (e:Ending) (w':World):Prop :=
  ∃ o c,e=.returned (.tuple #[.slice o (blameP ts z).length c,.int .i64 (blameC ts z)])∧Ints (From w.heap.size) w' (blameP ts z) o c∧Pr w w'
theorem BlamePost.no {ts:List Tr} {z:Int} {w w':World} (h:¬ hasB ts z) (hp:Pr w w'):BlamePost ts z w (.returned (.tuple #[.slice none 0 0,.int .i64 7])) w':=by
  have h1:blameP ts z=[]:=by unfold blameP;rw [if_neg h]
  have h2:blameC ts z=7:=by unfold blameC;rw [if_neg h]
  unfold BlamePost
  rw [h1,h2]
  exact ⟨none,0,rfl,Flat.nil _ _ _ _ (Nat.zero_le _),hp⟩
set_option maxRecDepth 100000 in
set_option maxHeartbeats 6400000 in
theorem blame_any (B:Nat) (v:Value) (ts:List Tr) (z:Int) (w:World) (hb:BookOk X w B v ts) :
    Calls Tryz.prog 20 #[.pointer (some ⟨B,0,none⟩),.int .i64 z] w (BlamePost ts z w):=by
  have LN:=Lib.hid fun u (h:Pr w u)=>len_any B v ts u (hb.pr h)
  have GT:=Lib.hid (get_any B v ts 0 w hb)
  by_cases hts:ts=[]
  · subst hts
    have Hno:=Lib.hid (show ¬ hasB [] z by unfold hasB;simp)
    have GT2:Hid (Calls Tryz.prog 15 #[.pointer (some ⟨B,0,none⟩),.int .i64 0] w fun e w'=>∃ l ks o c,e=.returned (.tuple #[.agg #[.string l,.slice o (List.length (α:=Tr) ks) c],.bool false])∧Pr w w'):=Lib.hid (GT.out.mono fun e w' ⟨l,ks,o,c,_,_,h,_,hp⟩=>⟨l,ks,o,c,h,hp⟩)
    clear hb GT
    go_enter Tryz.func20,Tryz.ntmps20
    go_wp2_with (go_at_call 15;(with_reducible refine Calls.mono GT2.out ?_);rintro e w1 ⟨l1,k1,o1,c1,rfl,hp1⟩)
    go_ret2
    exact BlamePost.no Hno.out (hp1.alloc' _)
  have hlen:0 < ts.length:=List.length_pos_iff.2 hts
  obtain ⟨t0,hl0⟩:∃ t0,t0=ts.getD 0 Tr.zero:=⟨_,rfl⟩
  have ht0:ts[0]=t0:=by rw [hl0];simp [List.getD,hlen]
  have hg0:getT ts 0=t0:=by unfold getT;rw [if_pos (by omega)];exact hl0.symm
  have hh0:hasT ts 0=true:=by unfold hasT;simp;omega
  have GT2:Hid (Calls Tryz.prog 15 #[.pointer (some ⟨B,0,none⟩),.int .i64 0] w fun e w'=>∃ l ks o c,t0=.node l ks∧l.size≤maxLen∧e=.returned (.tuple #[.agg #[.string l,.slice o ks.length c],.bool true])∧Kids (From w.heap.size) w' ks o c∧Pr w w'):=Lib.hid (by
    have:=GT.out;unfold GetPost at this;rw [hg0,hh0] at this;exact this)
  clear GT
  by_cases hz:z < 0
  · have Hno:=Lib.hid (show ¬ hasB ts z by unfold hasB;omega)
    have e1:decide (z < 0)=true:=decide_eq_true hz
    clear hb hz LN
    go_enter Tryz.func20,Tryz.ntmps20
    go_wp2_with (go_at_call 15;(with_reducible refine Calls.mono GT2.out ?_);rintro e w1 ⟨l1,k1,o1,c1,_,_,rfl,_,hp1⟩)
    go_ret2
    exact BlamePost.no Hno.out (hp1.alloc' _)
  obtain ⟨n,rfl⟩:=Int.eq_ofNat_of_zero_le (by omega:0≤z)
  have e1:decide ((n:Int) < 0)=false:=by simp
  by_cases hn:n < ts.length
  case neg =>
    have Hno:=Lib.hid (show ¬ hasB ts (n:Int) by unfold hasB;omega)
    have e2:decide ((ts.length:Int)≤(n:Int))=true:=by simp;omega
    have e3:decide (ts.length≤n)=true:=by simp;omega
    clear hb hz hn
    go_enter Tryz.func20,Tryz.ntmps20
    go_wp2_with (first
      | (go_at_call 15;(with_reducible refine Calls.mono GT2.out ?_);rintro e w1 ⟨l1,k1,o1,c1,_,_,rfl,_,hp1⟩)
      | (go_at_call 16;(with_reducible refine Calls.mono (LN.out _ (hp1.alloc' _)) ?_);rintro e w2 ⟨rfl,rfl⟩))
    go_ret2
    exact BlamePost.no Hno.out (hp1.alloc' _)
  have e2:decide ((ts.length:Int)≤(n:Int))=false:=by simp;omega
  have e3:decide (ts.length≤n)=false:=by simp;omega
  have hB:hasB ts (n:Int):=by unfold hasB;omega
  have hbp:blameP ts (n:Int)=listM (blM ts n):=by unfold blameP;rw [if_pos hB,Int.toNat_natCast]
  have hbc:blameC ts (n:Int)=0:=by unfold blameC;rw [if_pos hB]
  have hfew:=hb.few
  have Hbp:=Lib.hid hbp;have Hbc:=Lib.hid hbc;have HB:=Lib.hid hb;have Ht0:=Lib.hid ht0;have Hl0:=Lib.hid hl0
  clear hbp hbc hb hB hz hts ht0 hl0 hg0 hh0
  go_enter Tryz.func20,Tryz.ntmps20
  go_upto_region 2 with (go_at_call 15;(with_reducible refine Calls.mono GT2.out ?_);rintro e w1 ⟨l1,k1,o1,c1,hT1,hl1,rfl,hk1,hp1⟩)
  obtain ⟨W,hW⟩:∃ W,W=w1.alloc (.cells #[.string l1,.slice o1 k1.length c1] 34):=⟨_,rfl⟩
  have hpW:Pr w1 W:=by rw [hW];exact Pr.alloc _ _
  have hTW:W.heap[w1.heap.size]? = some (.cells #[.string l1,.slice o1 k1.length c1] 34 (0,0)):=by rw [hW];exact heap_alloc_new w1 _
  rw [← hW]
  have hwW:=hp1.trans hpW
  have HwW:=Lib.hid hwW
  have MK:=Lib.hid (marked_any 0 l1 k1 o1 c1 W (by
    have h:=HB.out.flt _ (List.getElem_mem hlen)
    have h2:=(fault_zero.1 h).1
    rw [Ht0.out,hT1,Tr.sz_node] at h2;omega) ((hk1.any).pr hpW))
  have x0:=blk_cell (o:=0) hTW;have x1:=blk_cell (o:=1) hTW
  have HT1:=Lib.hid hT1
  clear hW hpW hTW hwW hk1 hp1 hT1 hl1
  go_upto_region 5 with (first
    | (go_at_call 16;(with_reducible refine Calls.mono (LN.out _ HwW.out) ?_);rintro e w2 ⟨rfl,rfl⟩)
    | (go_at_call 38;(with_reducible refine Calls.mono MK.out ?_);rintro e w3 ⟨om,cm,rfl,hk3,hp3⟩))
  obtain ⟨V,hV⟩:∃ V,V=w3.alloc (.cells #[.int .i64 0,.slice om (markL 0 k1).length cm] 80):=⟨_,rfl⟩
  have hpV:Pr w3 V:=by rw [hV];exact Pr.alloc _ _
  have hMV:V.heap[w3.heap.size]? = some (.cells #[.int .i64 0,.slice om (markL 0 k1).length cm] 80 (0,0)):=by rw [hV];exact heap_alloc_new w3 _
  have hVs:V.heap.size=w3.heap.size+1:=by rw [hV];simp
  rw [← hV]
  have hbl0:blM ts 0=.node 0 (markL 0 k1):=by simp only [blM];rw [← Hl0.out,HT1.out];simp only [markP]
  have HkV:Hid (Mrk.Kids (fun j=>j≠w3.heap.size) V (markL 0 k1) om cm):=Lib.hid (hk3.carry fun j _ hl=>⟨Below.block hpV j hl,by omega⟩)
  have HwV:=Lib.hid (HwW.out.trans (hp3.trans hpV))
  have HMV:=Lib.hid hMV;have Hbl0:=Lib.hid hbl0;have HVs:=Lib.hid hVs
  have hz3:=Below.size (HwW.out.trans hp3)
  clear hV hpV hMV hVs hbl0 hk3 hp3 x0 x1
  go_upto_region 6 with fail
  go_loopw [9] (fun vi wr=>∃ (k:Nat) (s:Int) (ms:List Mk) (oa:Option Addr) (cap:Nat),k≤n∧vi=.int .i64 ((k:Int)+1)∧blM ts k=.node s ms∧wr.heap[w3.heap.size]? = some (.cells #[.int .i64 s,.slice oa ms.length cap] 80 (0,0))∧Mrk.Kids (fun j=>j≠w3.heap.size) wr ms oa cap∧Chg (fun j=>j=w3.heap.size) V wr) (fun vi _=>(n:Nat)+1 - (intOf vi).toNat)
  case atStart=>exact ⟨0,0,markL 0 k1,om,cm,by omega,by go_num,Hbl0.out,HMV.out,HkV.out,Chg.refl _ _⟩
  case round =>
    obtain ⟨k,s,ms,oa,cap,hkn,rfl,hbk,hM,hkm,hc⟩:=hrel
    by_cases hlt:k < n
    case pos =>
      have hk1l:k+1 < ts.length:=by omega
      obtain ⟨g,cv,o1,d1,o2,d2,hve,hcv,hBg,g1,g2,g3,_⟩:=HB.out.rd k hk1l
      obtain ⟨⟨la,ka,oA,cA,hbb,_⟩,_,hflt,_,_⟩:=HB.out
      have hBw:=blk_lt hbb
      have hsd:=stepD_get ts k hk1l
      have hok:=blM_ok hflt k hk1l
      obtain ⟨back,hgo⟩:=stepP_go (hflt _ (List.getElem_mem (by omega:k < ts.length))) (hflt _ (List.getElem_mem hk1l))
      have hpth:∀ d∈stepD ts ((k:Int)+1),d.path.length≤40:=by rw [hsd];exact runGo_paths hgo
      rw [← hsd] at g1 g3
      have hblk1:blM ts (k+1)=doMs ((k:Int)+1) (stepD ts ((k:Int)+1)) (blM ts k):=rfl
      rw [hbk] at hok hblk1
      obtain ⟨D,hD⟩:∃ D,D=stepD ts ((k:Int)+1):=⟨_,rfl⟩
      rw [← hD] at g1 g3 hok hpth hblk1
      have hcw:=(HwV.out.chg (fun j=>j=w3.heap.size)).trans hc (fun _ h=>.inl h)
      have hgw:=lt_of_cell g1
      have hd3:Dees (fun j=>j < w.heap.size) wr D o1 d1:=g3.carry fun j _ hl=>⟨hcw.block j hl (by omega),hl⟩
      have hDl:=hd3.len
      have c2:wr.cell? ⟨B,2,none⟩=some (.slice (some ⟨g,0,none⟩) (ts.length - 1) cv):=by
        rw [World.cell?_of_block (hcw.block B hBw (by omega)),blk_cell (o:=2) hbb,hve];rfl
      have c3:wr.cell? ⟨g,k * 2,none⟩=some (.slice o1 D.length d1):=by rw [World.cell?_of_block (hcw.block g hgw (by omega))];exact g1
      obtain ⟨m,hm⟩:∃ m,m=ts.length - 1:=⟨_,rfl⟩
      rw [← hm] at c2
      have v1:(0:Int)≤(k:Int):=by omega
      have v2:(k:Int) < (m:Int):=by omega
      have v3:(k:Int)+1≤(n:Int):=by omega
      have Hd3:=Lib.hid hd3;have Hok:=Lib.hid hok;have Hpth:=Lib.hid hpth;have Hblk1:=Lib.hid hblk1;have Hc:=Lib.hid hc;have Hkm:=Lib.hid hkm;have HM:=Lib.hid hM
      clear hve hcv hbb hflt hsd hok hgo hpth g1 g2 g3 hblk1 hD hcw hd3 hm hc hkm hM hbk
      go_upto_region 9 with fail
      clear c2 c3
      obtain ⟨wz,hwz⟩:∃ wz,wz=wr:=⟨_,rfl⟩
      subst hwz
      go_loopw [46] (fun vi wq=>∃ (i:Nat) (s':Int) (ms':List Mk) (oa':Option Addr) (cap':Nat),i≤D.length∧vi=.int .i64 i∧doMs ((k:Int)+1) (D.take i) (.node s ms)=.node s' ms'∧wq.heap[w3.heap.size]? = some (.cells #[.int .i64 s',.slice oa' ms'.length cap'] 80 (0,0))∧Mrk.Kids (fun j=>j≠w3.heap.size) wq ms' oa' cap'∧Chg (fun j=>j=w3.heap.size) wz wq) (fun vi _=>D.length - (intOf vi).toNat)
      case atStart=>exact ⟨0,s,ms,oa,cap,by omega,by go_num,by rw [List.take_zero];rfl,HM.out,Hkm.out,Chg.refl _ _⟩
      case round =>
        obtain ⟨i,s',ms',oa',cap',hi,rfl,hdo,hM',hkm',hc'⟩:=hrel
        by_cases hlt2:i < D.length
        case pos =>
          have hdq:Dees (fun j=>j < w.heap.size) wr D o1 d1:=Hd3.out.carry fun j hj hl=>⟨hc'.block j hl (by have hj':j < w.heap.size:=hj;omega),hj⟩
          obtain ⟨b9,o9,pa,pc,e9,q0,q1,q2,q3,q4,hpi,hls⟩:=hdq.get i hlt2
          subst e9
          have hok:=Hok.out i hlt2
          rw [hdo] at hok
          have hsn:doMs ((k:Int)+1) (D.take (i+1)) (.node s ms)=doM D[i] ((k:Int)+1) D[i].path (.node s' ms'):=by
            rw [List.take_succ_eq_append_getElem hlt2,doMs_snoc,hdo]
          obtain ⟨d,hd⟩:∃ d,d=D[i]:=⟨_,rfl⟩
          rw [← hd] at q0 q1 q2 q3 q4 hpi hls hok hsn
          obtain ⟨V1,hV1⟩:∃ V1,V1=wr.alloc (.cells #[.int .i64 d.kind,.slice pa d.path.length pc,.int .i64 d.pos,.int .i64 d.many,.string d.lab] 25):=⟨_,rfl⟩
          have hpV1:Pr wr V1:=by rw [hV1];exact Pr.alloc _ _
          have hbox:V1.heap[wr.heap.size]? = some (.cells #[.int .i64 d.kind,.slice pa d.path.length pc,.int .i64 d.pos,.int .i64 d.many,.string d.lab] 25 (0,0)):=by rw [hV1];exact heap_alloc_new wr _
          have MD:=Lib.hid (mdo_any d ((k:Int)+1) d.path (fun j=>j≠w3.heap.size) s' ms' oa' cap' pa pc V1 hok (hkm'.pr hpV1) (Flat.any (Flat.pr hpV1 hpi)))
          have Hsn:=Lib.hid hsn;have HM':=Lib.hid (hpV1.blk hM');have Hc':=Lib.hid (hc'.pr hpV1);have HV1:=Lib.hid hpV1
          have hMw:=blk_lt hM'
          clear hdq hpi hls hok hsn hd hdo hkm' hc' hM'
          go_upto_region 11 with fail
          rw [← hV1]
          have x0:=blk_cell (o:=0) HM'.out;have x1:=blk_cell (o:=1) HM'.out
          have b0:=blk_cell (o:=0) hbox;have b1:=blk_cell (o:=1) hbox;have b2:=blk_cell (o:=2) hbox;have b3:=blk_cell (o:=3) hbox;have b4:=blk_cell (o:=4) hbox
          clear hV1 hbox hpV1 q0 q1 q2 q3 q4
          go_wp2_with (go_at_call 39;(with_reducible refine Calls.mono MD.out ?_);rintro e w5 ⟨s5,m5,o5,c5,hr5,rfl,hk5,hp5⟩;have z:=hp5.blk HM'.out;have z0:=blk_cell (o:=0) z;have z1:=blk_cell (o:=1) z;have f0:=blk_frozen (o:=0) z;have f1:=blk_frozen (o:=1) z;have Hz:=Lib.hid z;have Hr5:=Lib.hid hr5;clear z hr5)
          have hzq:=Below.size HV1.out
          refine ⟨⟨i+1,s5,m5,o5,c5,by omega,by go_num,by rw [Hsn.out,Hr5.out],blk_set (o:=1) (blk_set (o:=0) Hz.out _) _,?_,Chg.setCell (Chg.setCell (Hc'.out.pr hp5) _ _ (.inl rfl)) _ _ (.inl rfl)⟩,?_⟩
          · refine ((hk5.mono (S':=fun j=>j≠w3.heap.size) fun j hj _=>?_).setCell _ _ (by simp)).setCell _ _ (by simp)
            rcases hj with h | h
            · exact h
            · omega
          · simp [intOf];omega
        case neg =>
          have hie:i=D.length:=by omega
          subst hie
          rw [List.take_length,← Hblk1.out] at hdo
          go_wp2_with fail
          refine ⟨⟨k+1,s',ms',oa',cap',by omega,by go_num,hdo,hM',hkm',Hc.out.trans hc' (fun _ h=>.inl h)⟩,?_⟩
          simp [intOf];omega
    case neg =>
      have hke:k=n:=by omega
      subst hke
      have hform:=blM_form HB.out.flt k hn
      have hll:=hform.list
      have hsz:=fault_sz (HB.out.flt _ (List.getElem_mem hn))
      rw [hbk,listM_node,List.length_append,List.length_singleton] at hll
      have LI:=Lib.hid (list_any s ms oa cap wr (by omega) hkm.any)
      have x0:=blk_cell (o:=0) hM;have x1:=blk_cell (o:=1) hM
      have hbk':=Hbp.out
      rw [hbk] at hbk'
      have Hbk:=Lib.hid hbk'
      have hcw:Pr w wr:=((HwV.out.chg (fun j=>j=w3.heap.size)).trans hc (fun _ h=>.inl h)).to_pr (fun j hj=>by omega)
      have Hcw:=Lib.hid hcw
      clear hform hll hsz hbk hbk' hkm hM hc hcw
      go_wp2_with (go_at_call 40;(with_reducible refine Calls.mono LI.out ?_);rintro e w9 ⟨o9,c9,rfl,hi9,hp9⟩)
      go_ret2
      have hz:=Below.size Hcw.out
      exact ⟨o9,c9,by rw [Hbk.out,Hbc.out];rfl,by rw [Hbk.out];exact Flat.mono (fun j (hj:wr.heap.size≤j) _=>by show w.heap.size≤j;omega) hi9,Hcw.out.trans hp9⟩
end Go.Proofs.YtdbnfhpgmcjngacGreat
/- Walks: a new book; the laws' bookBegun. -/
namespace Go.Proofs.YtdbnfhpgmcjngacGreat
open Go Go.RowKit
theorem BookOk.new {X:Nat→Prop} {w:World} {B:Nat} (hX:¬ X B) (h:w.heap[B]? = some (.cells #[.string ⟨#[]⟩,.slice none 0 0,.slice none 0 0,.bool false] 68 (0,0))):BookOk X w B (.slice none 0 0) [] :=
  ⟨⟨⟨#[]⟩,[],none,0,h,rfl,by simp [ByteArray.size],Kids.nil _ _ _ _ (Nat.zero_le _)⟩,⟨[],World.ownsRow_nil _ _ _ _,rfl⟩,fun _ ht=>(by cases ht),by decide,hX,fun _ h=>(by cases h)⟩
theorem new_any (X:Nat→Prop) (w:World) (hX:¬ X w.heap.size):Calls Tryz.prog 17 #[] w fun e w'=>(e=.returned (.pointer (some ⟨w.heap.size,0,none⟩))∧BookOk X w' w.heap.size (.slice none 0 0) [])∧Pr w w':=by
  go_enter Tryz.func17,Tryz.ntmps17
  go_wp2_with fail
  go_ret
  exact ⟨⟨rfl,BookOk.new hX (heap_alloc_new w _)⟩,Pr.alloc _ _⟩
theorem ints_two9 (w:World) (a b:Int):Ints Any (w.alloc (.cells #[.int .i64 a,.int .i64 b] 3)) [a,b] (some ⟨w.heap.size,0,none⟩) 2:=by
  refine Flat.mk (by simp) (by decide) trivial fun i hi=>?_
  match i,hi with
  | 0,_=>simp [go_sem]
  | 1,_=>simp [go_sem]
def bA:Tr:=.node ⟨#[97]⟩ []
def bB:Tr:=.node ⟨#[97]⟩ [.node ⟨#[98]⟩ []]
theorem bA_fault:fault bA=0:=by decide
theorem bB_fault:fault bB=0:=by decide
theorem bAB_cost:costT bA bB=1:=by
  unfold bA bB costT
  simp [Tr.kids,Tr.label,fd,fdr,lc]
theorem leaf_at {l:ByteArray} {p:List Int} {x:Tr} (h:(Tr.node l []).at? p=some x):p=[]∧x=.node l []:=by
  cases p with
  | nil=>cases h;exact ⟨rfl,rfl⟩
  | cons k p=>simp [Tr.at?,Tr.kid?] at h
theorem begun_deed:∃ d,(stepP bA bB).1=[d]∧d.kind=3∧d.path=[]∧d.pos=0∧d.many=0:=by
  obtain ⟨⟨back,hgo⟩,hlen⟩:=diff_ok bA_fault bB_fault
  rw [bAB_cost] at hlen
  obtain ⟨d,hd⟩:=List.length_eq_one_iff.1 hlen
  refine ⟨d,hd,?_⟩
  rw [hd] at hgo
  by_cases h0:(doD bA d).2.2=0
  · rw [runGo_ok h0 (runGo_nil _ _)] at hgo
    have hb:(doD bA d).1=bB:=by simp at hgo;exact hgo.1
    rw [doD_is h0] at hb
    simp only at hb
    obtain ⟨h1,h2,h3,h4⟩:=doD_ok.1 h0
    obtain ⟨k1,_,k2,k3,k4,k5,_⟩:=dfault_zero.1 h2
    rcases done_cases h2 h3 with ⟨_,x,hx,he⟩ | ⟨h5,x,hx,h6,h7,he⟩ | ⟨_,up,k,u,x,_,hu,hk,_⟩
    · obtain ⟨h8,rfl⟩:=leaf_at hx
      rw [he,h8] at hb
      simp [Tr.setAt,Tr.kids,bB] at hb
    · obtain ⟨h8,rfl⟩:=leaf_at hx
      simp only [Tr.kids,List.length_nil] at h6 h7
      exact ⟨h5,h8,by omega,by omega⟩
    · obtain ⟨_,rfl⟩:=leaf_at hu
      simp [Tr.kid?] at hk
  · rw [runGo_no h0] at hgo;cases hgo
theorem begun_cnt:cntD [bA,bB]=1:=by
  obtain ⟨d,hd,_⟩:=begun_deed
  simp [cntD,stepsP,cntS9,hd]
theorem begun_step:(stepD [bA,bB] 1).length=1:=by
  obtain ⟨d,hd,_⟩:=begun_deed
  rw [show (1:Int)=((0:Nat):Int)+1 from rfl,stepD_get [bA,bB] 0 (by simp)]
  simp [hd]
theorem begun_blame:blameP [bA,bB] 1=[1,0]:=by
  obtain ⟨d,hd,h1,h2,h3,h4⟩:=begun_deed
  have hs:stepD [bA,bB] (((0:Nat):Int)+1)=[d]:=by rw [stepD_get [bA,bB] 0 (by simp)];simpa using hd
  have hb:blM [bA,bB] 1=.node 0 [.node 1 []]:=by
    rw [show (1:Nat)=0+1 from rfl]
    simp only [blM]
    rw [hs]
    simp [doMs,h2,doM,h1,h3,h4,List.getD,bA,markP,markL]
  unfold blameP
  rw [if_pos (by unfold hasB;simp)]
  have:(1:Int).toNat=1:=rfl
  rw [this,hb]
  simp [listM,listL]
set_option maxRecDepth 100000 in
set_option maxHeartbeats 6400000 in
theorem bookBegun_any (w:World):Calls Tryz.prog 4 #[] w fun e w'=>e=.returned (.bool true)∧Pr w w':=by
  obtain ⟨B,hB⟩:∃ B,B=w.heap.size:=⟨_,rfl⟩
  have NW:=new_any NoX w (fun h=>h)
  rw [← hB] at NW
  have HB:=Lib.hid hB
  have AD1:Hid (∀ u,BookOk NoX u B (.slice none 0 0) []→Calls Tryz.prog 18 #[.pointer (some ⟨B,0,none⟩),.agg #[.string ⟨#[97]⟩,.slice none 0 0]] u fun e w'=>e=.returned (.tuple #[.int .i64 0,.int .i64 0])∧∃ v',BookOk NoX w' B v' [bA]∧Chg (fun k=>k=B) u w'∧∀ k,v'.ownBlock=some k→u.heap.size≤k):=Lib.hid fun u h=>by
    have hc:addC [] (.node ⟨#[97]⟩ [])=0:=by decide
    have:=add_any B _ [] ⟨#[97]⟩ [] none 0 u h (by decide) (Kids.nil _ _ _ _ (Nat.zero_le _)) (fun _ h=>h.elim)
    refine this.mono ?_
    rintro e w' ⟨he,v',h1,h2,h3⟩
    rw [hc] at he h1
    refine ⟨he,v',h1,⟨h2.os,h2.tape,h2.output,h2.size,fun k hk hn=>h2.block k hk (by rintro (h | h);exact hn h;cases h)⟩,fun k hk=>?_⟩
    rcases h3 k hk with h | h
    · cases h
    · exact h
  have AD2:Hid (∀ u v' ob,BookOk NoX u B v' [bA]→Kids (BS NoX B v') u [.node ⟨#[98]⟩ []] ob 1→Calls Tryz.prog 18 #[.pointer (some ⟨B,0,none⟩),.agg #[.string ⟨#[97]⟩,.slice ob 1 1]] u fun e w'=>e=.returned (.tuple #[.int .i64 1,.int .i64 0])∧∃ v2,BookOk NoX w' B v2 [bA,bB]∧Chg (fun k=>k=B∨v'.ownBlock=some k) u w'):=Lib.hid fun u v' ob h hk=>by
    have hc:addC [bA] (.node ⟨#[97]⟩ [.node ⟨#[98]⟩ []])=0:=by decide
    have:=add_any B _ [bA] ⟨#[97]⟩ [.node ⟨#[98]⟩ []] ob 1 u h (by decide) hk (fun _ h=>h.elim)
    refine this.mono ?_
    rintro e w' ⟨he,v2,h1,h2,_⟩
    rw [hc] at he h1
    exact ⟨he,v2,h1,h2⟩
  have GT:Hid (∀ u v,BookOk NoX u B v [bA,bB]→Calls Tryz.prog 15 #[.pointer (some ⟨B,0,none⟩),.int .i64 0] u fun e w'=>(∃ o c,e=.returned (.tuple #[.agg #[.string ⟨#[97]⟩,.slice o 0 c],.bool true]))∧Pr u w'):=Lib.hid fun u v h=>by
    refine (get_any B v _ 0 u h).mono ?_
    rintro e w' ⟨l,ks,o,c,hg,_,rfl,_,hp⟩
    have h2:getT [bA,bB] 0=.node ⟨#[97]⟩ []:=by decide
    have h3:hasT [bA,bB] 0=true:=by decide
    rw [h2] at hg
    cases hg
    rw [h3]
    exact ⟨⟨o,c,rfl⟩,hp⟩
  have ST:Hid (∀ u v,BookOk NoX u B v [bA,bB]→Calls Tryz.prog 19 #[.pointer (some ⟨B,0,none⟩),.int .i64 1] u fun e w'=>(∃ o c,e=.returned (.tuple #[.slice o 1 c,.bool true]))∧Pr u w'):=Lib.hid fun u v h=>by
    refine (stepB_any B v _ 1 u h).mono ?_
    rintro e w' ⟨o,c,rfl,_,hp⟩
    have h3:hasS [bA,bB] 1=true:=by decide
    rw [begun_step,h3]
    exact ⟨⟨o,c,rfl⟩,hp⟩
  have BL:Hid (∀ u v,BookOk NoX u B v [bA,bB]→Calls Tryz.prog 20 #[.pointer (some ⟨B,0,none⟩),.int .i64 1] u fun e w'=>(∃ o c,e=.returned (.tuple #[.slice o 2 c,.int .i64 0])∧Ints Any w' [1,0] o c)∧Pr u w'):=Lib.hid fun u v h=>by
    refine (blame_any B v _ 1 u h).mono ?_
    rintro e w' ⟨o,c,rfl,hi,hp⟩
    have h3:blameC [bA,bB] 1=0:=by decide
    rw [begun_blame] at hi ⊢
    rw [h3]
    exact ⟨⟨o,c,rfl,hi.any⟩,hp⟩
  have LN:Hid (∀ u v,BookOk NoX u B v [bA,bB]→Calls Tryz.prog 16 #[.pointer (some ⟨B,0,none⟩)] u fun e w'=>e=.returned (.int .i64 2)∧w'=u):=Lib.hid fun u v h=>len_any B v _ u h
  have DS:Hid (∀ u v,BookOk NoX u B v [bA,bB]→Calls Tryz.prog 21 #[.pointer (some ⟨B,0,none⟩)] u fun e w'=>e=.returned (.int .i64 1)∧Pr u w'):=Lib.hid fun u v h=>by
    have:=deeds_any B v _ u h;rw [begun_cnt] at this;exact this
  clear hB
  go_enter Tryz.func4,Tryz.ntmps4
  go_upto_region 3 with (first
    | (go_at_call 17;(with_reducible refine Calls.mono NW ?_);rintro e w1 ⟨⟨rfl,hb1⟩,hp1⟩)
    | (go_at_call 18;(with_reducible refine Calls.mono (AD1.out _ hb1) ?_);rintro e w2 ⟨rfl,v2,hb2,hc2,hv2⟩))
  have hBk1:=blk_lt hb1.blk.choose_spec.choose_spec.choose_spec.choose_spec.1
  have hp2:Pr w w2:=⟨hc2.os.trans hp1.os,hc2.tape.trans hp1.tape,hc2.output.trans hp1.output,by have:=hp1.size;have:=hc2.size;omega,fun k hk=>(hc2.block k (by have:=hp1.size;omega) (by have:=HB.out;omega)).trans (hp1.block k hk)⟩
  have Hb2:=Lib.hid hb2;have Hp2:=Lib.hid hp2;have Hv2:=Lib.hid hv2;have Hc2:=Lib.hid hc2
  have hw1:=Below.size hp1
  clear hb1 hb2 hc2 hv2 hp2 hp1
  have hBk2:=blk_lt Hb2.out.blk.choose_spec.choose_spec.choose_spec.choose_spec.1
  have KB:Hid (Kids (BS NoX B v2) (w2.alloc (.cells #[.string ⟨#[98]⟩,.slice none 0 0] 34)) [.node ⟨#[98]⟩ []] (some ⟨w2.heap.size,0,none⟩) 1):=Lib.hid (by
    have hS:BS NoX B v2 w2.heap.size:=⟨⟨by omega,fun e=>by
      obtain ⟨ys,hrow,_⟩:=Hb2.out.row
      have:=(hrow.lt _ e).2;omega⟩,fun h=>h⟩
    exact Kids.mk (by decide) (by decide) hS (KidsAt.cons (cap:=0) (oa:=none) (by simp [go_sem]) (by simp [go_sem]) (by decide) (Kids.nil0 _ _) trivial))
  go_upto_region 4 with (go_at_call 18;(with_reducible refine Calls.mono (AD2.out _ v2 _ (Hb2.out.pr (Pr.alloc _ _)) KB.out) ?_);rintro e w3 ⟨rfl,v3,hb3,hc3⟩)
  have Hp3:=Lib.hid (show Pr w w3 from ((Hp2.out.alloc' _).chg (fun k=>k=B∨v2.ownBlock=some k)).trans hc3 (fun _ h=>.inl h) |>.to_pr (fun k hk=>by
    rcases hk with h | h
    · have:=HB.out;omega
    · have:=Hv2.out k h;have:=HB.out;omega))
  have Hb3:=Lib.hid hb3
  clear hb3 hc3
  go_upto_region 5 with (go_at_call 15;(with_reducible refine Calls.mono (GT.out _ _ Hb3.out) ?_);rintro e w4 ⟨⟨o4,c4,rfl⟩,hp4⟩)
  obtain ⟨U,hU⟩:∃ U,U=w4.alloc (.cells #[.string ⟨#[97]⟩,.slice o4 0 c4] 34):=⟨_,rfl⟩
  have hpU:Pr w3 U:=by rw [hU];exact hp4.alloc' _
  have s1:=stays (show U.cell? ⟨w4.heap.size,1,none⟩=some (.slice o4 0 c4) by rw [hU];simp [go_sem])
  rw [← hU]
  clear hU
  go_upto_region 7 with (first
    | (go_at_call 19;(with_reducible refine Calls.mono (ST.out _ _ (Hb3.out.pr hpU)) ?_);rintro e w5 ⟨⟨o5,c5,rfl⟩,hp5⟩)
    | (go_at_call 20;(with_reducible refine Calls.mono (BL.out _ _ (Hb3.out.pr (hpU.trans hp5))) ?_);rintro e w6 ⟨⟨o6,c6,rfl,hi6⟩,hp6⟩))
  have x1:=s1 _ (hp5.trans hp6)
  have SI:Hid (∀ u oB cB,Pr w6 u→Ints Any u [1,0] oB cB→Calls Tryz.prog 12 #[.slice o6 2 c6,.slice oB 2 cB] u fun e w'=>e=.returned (.bool true)∧Pr u w'):=Lib.hid fun u oB cB h hi=>by
    have:=sameInts_any [1,0] [1,0] o6 c6 oB cB u (Flat.pr h hi6) hi;simpa using this
  have H36:=Lib.hid (hpU.trans (hp5.trans hp6))
  clear hp5 hp6 hp4 hpU
  go_wp2_with (first
    | (go_at_call 12;(with_reducible refine Calls.mono (SI.out _ _ _ (Pr.alloc _ _) (ints_two9 _ 1 0)) ?_);rintro e w7 ⟨rfl,hb7⟩;have hp7:=H36.out.trans ((Pr.alloc _ _).trans hb7))
    | (go_at_call 16;(with_reducible refine Calls.mono (LN.out _ _ (Hb3.out.pr hp7)) ?_);rintro e w8 ⟨rfl,rfl⟩)
    | (go_at_call 21;(with_reducible refine Calls.mono (DS.out _ _ (Hb3.out.pr hp7)) ?_);rintro e w9 ⟨rfl,hp9⟩))
  go_ret
  exact ⟨rfl,Hp3.out.trans (hp7.trans hp9)⟩
end Go.Proofs.YtdbnfhpgmcjngacGreat
