/- Walks: a book's Blame. -/
import Derived.Test.YtdbnfhpgmcjngabGreatDoorBzr
import Derived.Test.YtdbnfhpgmcjngabGreatDoorBwn
namespace Go.Proofs.YtdbnfhpgmcjngabGreatDoor
open Go Go.RowKit
variable {X:Nat→Prop}
theorem fault_sz {t:Tr} (h:fault t=0):t.sz≤1000:=by
  have:=(fault_zero.1 h).1
  omega
theorem form_go (now:Int):∀ (ds:List Dee) (t:Tr) (m:Mk) (i:Nat) (t':Tr) (back:List Dee),runGo i t ds=.ok (t',back)→Form t m→Form t' (doMs now ds m)∧∀ (j:Nat) (h:j < ds.length),okM ds[j] ds[j].path (doMs now (ds.take j) m)
  | [],t,m,i,t',back,h,hf=>by
    cases h
    exact ⟨hf,fun j h=>absurd h (Nat.not_lt_zero _)⟩
  | d :: ds,t,m,i,t',back,h,hf=>by
    by_cases h0:(doD t d).2.2=0
    · cases hx:runGo (i+1) (doD t d).1 ds with
      | error e=>rw [runGo_err h0 hx] at h;cases h
      | ok y =>
        rw [runGo_ok h0 hx] at h
        cases h
        obtain ⟨h1,h2,h3,h4⟩:=doD_ok.1 h0
        obtain ⟨k1,_,k2,k3,k4,k5,_⟩:=dfault_zero.1 h2
        obtain ⟨g1,g2⟩:=form_do d now k3 k4 k1 d.path t m k5 (fun e=>(k2 e).2) (fault_sz h1) hf h3
        rw [doD_is h0] at hx
        obtain ⟨g3,g4⟩:=form_go now ds _ (doM d now d.path m) (i+1) y.1 y.2 hx g2
        refine ⟨g3,fun j hj=>?_⟩
        cases j with
        | zero=>exact g1
        | succ j=>exact g4 j (by simpa using hj)
    · rw [runGo_no h0] at h;cases h
def blM (ts:List Tr):Nat→Mk
  | 0=>markP 0 (ts.getD 0 Tr.zero)
  | n+1=>doMs ((n:Int)+1) (stepD ts ((n:Int)+1)) (blM ts n)
theorem stepD_get (ts:List Tr) (n:Nat) (h:n+1 < ts.length):stepD ts ((n:Int)+1)=(stepP ts[n] ts[n+1]).1:=by
  unfold stepD
  rw [if_pos (by omega)]
  have h1:((n:Int)+1).toNat=n+1:=by omega
  have hlt:n < ts.length:=by omega
  rw [h1,Nat.add_sub_cancel];simp [List.getD,hlt,h]
theorem stepP_go {a b:Tr} (ha:fault a=0) (hb:fault b=0):∃ back,runGo 0 a (stepP a b).1=.ok (b,back):=(diff_ok ha hb).1
theorem blM_form {ts:List Tr} (hf:∀ t∈ts,fault t=0):∀ (n:Nat) (h:n < ts.length),Form ts[n] (blM ts n)
  | 0, h => by simp only [blM]; have : ts.getD 0 Tr.zero = ts[0] := by simp [List.getD, h]
               rw [this];exact markP_form 0 _
  | n+1,h=>by
    simp only [blM]
    rw [stepD_get ts n h]
    obtain ⟨back,hgo⟩:=stepP_go (hf _ (List.getElem_mem (by omega:n < ts.length))) (hf _ (List.getElem_mem h))
    exact (form_go _ _ _ _ _ _ _ hgo (blM_form hf n (by omega))).1
theorem blM_ok {ts:List Tr} (hf:∀ t∈ts,fault t=0) (n:Nat) (h:n+1 < ts.length) (j:Nat) (hj:j < (stepD ts ((n:Int)+1)).length) :
    okM (stepD ts ((n:Int)+1))[j] (stepD ts ((n:Int)+1))[j].path (doMs ((n:Int)+1) ((stepD ts ((n:Int)+1)).take j) (blM ts n)):=by
  obtain ⟨back,hgo⟩:=stepP_go (hf _ (List.getElem_mem (by omega:n < ts.length))) (hf _ (List.getElem_mem h))
  have h1:=stepD_get ts n h
  rw [← h1] at hgo
  exact (form_go _ _ _ _ _ _ _ hgo (blM_form hf n (by omega))).2 j hj
def hasB (ts:List Tr) (z:Int):Prop:=0≤z∧z < ts.length
instance (ts:List Tr) (z:Int):Decidable (hasB ts z):=inferInstanceAs (Decidable (_∧_))
def blameP (ts:List Tr) (z:Int):List Int:=if hasB ts z then listM (blM ts z.toNat) else []
def blameC (ts:List Tr) (z:Int):Int:=if hasB ts z then 0 else 7
def BlamePost (ts:List Tr) (z:Int) (w:World) (e:Ending) (w':World):Prop :=
  ∃ o c,e=.returned (.tuple #[.slice o (blameP ts z).length c,.int .i64 (blameC ts z)])∧Ints (From w.heap.size) w' (blameP ts z) o c∧Pr w w'
theorem BlamePost.no {ts:List Tr} {z:Int} {w w':World} (h:¬ hasB ts z) (hp:Pr w w'):BlamePost ts z w (.returned (.tuple #[.slice none 0 0,.int .i64 7])) w':=by
  have h1:blameP ts z=[]:=by unfold blameP;rw [if_neg h]
  have h2:blameC ts z=7:=by unfold blameC;rw [if_neg h]
  unfold BlamePost
  rw [h1,h2]
  exact ⟨none,0,rfl,Flat.nil _ _ _ _ (Nat.zero_le _),hp⟩
set_option maxRecDepth 100000 in
set_option maxHeartbeats 6400000 in
theorem blame_any (B:Nat) (v:Value) (ts:List Tr) (z:Int) (w:World) (hb:BookOk X w B v ts) :
    Calls Tryz.prog 69 #[.pointer (some ⟨B,0,none⟩),.int .i64 z] w (BlamePost ts z w):=by
  have LN:=Lib.hid fun u (h:Pr w u)=>len_any B v ts u (hb.pr h)
  have GT:=Lib.hid (get_any B v ts 0 w hb)
  by_cases hts:ts=[]
  · subst hts
    have Hno:=Lib.hid (show ¬ hasB [] z by unfold hasB;simp)
    have GT2:Hid (Calls Tryz.prog 59 #[.pointer (some ⟨B,0,none⟩),.int .i64 0] w fun e w'=>∃ l ks o c,e=.returned (.tuple #[.agg #[.string l,.slice o (List.length (α:=Tr) ks) c],.bool false])∧Pr w w'):=Lib.hid (GT.out.mono fun e w' ⟨l,ks,o,c,_,_,h,_,hp⟩=>⟨l,ks,o,c,h,hp⟩)
    clear hb GT
    go_enter Tryz.func69,Tryz.ntmps69
    go_wp2_with (go_at_call 59;(with_reducible refine Calls.mono GT2.out ?_);rintro e w1 ⟨l1,k1,o1,c1,rfl,hp1⟩)
    go_ret2
    exact BlamePost.no Hno.out (hp1.alloc' _)
  have hlen:0 < ts.length:=List.length_pos_iff.2 hts
  obtain ⟨t0,hl0⟩:∃ t0,t0=ts.getD 0 Tr.zero:=⟨_,rfl⟩
  have ht0:ts[0]=t0:=by rw [hl0];simp [List.getD,hlen]
  have hg0:getT ts 0=t0:=by unfold getT;rw [if_pos (by omega)];exact hl0.symm
  have hh0:hasT ts 0=true:=by unfold hasT;simp;omega
  have GT2:Hid (Calls Tryz.prog 59 #[.pointer (some ⟨B,0,none⟩),.int .i64 0] w fun e w'=>∃ l ks o c,t0=.node l ks∧l.size≤maxLen∧e=.returned (.tuple #[.agg #[.string l,.slice o ks.length c],.bool true])∧Kids (From w.heap.size) w' ks o c∧Pr w w'):=Lib.hid (by
    have:=GT.out;unfold GetPost at this;rw [hg0,hh0] at this;exact this)
  clear GT
  by_cases hz:z < 0
  · have Hno:=Lib.hid (show ¬ hasB ts z by unfold hasB;omega)
    have e1:decide (z < 0)=true:=decide_eq_true hz
    clear hb hz LN
    go_enter Tryz.func69,Tryz.ntmps69
    go_wp2_with (go_at_call 59;(with_reducible refine Calls.mono GT2.out ?_);rintro e w1 ⟨l1,k1,o1,c1,_,_,rfl,_,hp1⟩)
    go_ret2
    exact BlamePost.no Hno.out (hp1.alloc' _)
  obtain ⟨n,rfl⟩:=Int.eq_ofNat_of_zero_le (by omega:0≤z)
  have e1:decide ((n:Int) < 0)=false:=by simp
  by_cases hn:n < ts.length
  case neg =>
    have Hno:=Lib.hid (show ¬ hasB ts (n:Int) by unfold hasB;omega)
    have e2:decide ((ts.length:Int)≤(n:Int))=true:=by simp;omega
    have e3:decide (ts.length≤n)=true:=by simp;omega
    clear hb hz hn
    go_enter Tryz.func69,Tryz.ntmps69
    go_wp2_with (first
      | (go_at_call 59;(with_reducible refine Calls.mono GT2.out ?_);rintro e w1 ⟨l1,k1,o1,c1,_,_,rfl,_,hp1⟩)
      | (go_at_call 39;(with_reducible refine Calls.mono (LN.out _ (hp1.alloc' _)) ?_);rintro e w2 ⟨rfl,rfl⟩))
    go_ret2
    exact BlamePost.no Hno.out (hp1.alloc' _)
  have e2:decide ((ts.length:Int)≤(n:Int))=false:=by simp;omega
  have e3:decide (ts.length≤n)=false:=by simp;omega
  have hB:hasB ts (n:Int):=by unfold hasB;omega
  have hbp:blameP ts (n:Int)=listM (blM ts n):=by unfold blameP;rw [if_pos hB,Int.toNat_natCast]
  have hbc:blameC ts (n:Int)=0:=by unfold blameC;rw [if_pos hB]
  have hfew:=hb.few
  have Hbp:=Lib.hid hbp;have Hbc:=Lib.hid hbc;have HB:=Lib.hid hb;have Ht0:=Lib.hid ht0;have Hl0:=Lib.hid hl0
  clear hbp hbc hb hB hz hts ht0 hl0 hg0 hh0
  go_enter Tryz.func69,Tryz.ntmps69
  go_upto_region 2 with (go_at_call 59;(with_reducible refine Calls.mono GT2.out ?_);rintro e w1 ⟨l1,k1,o1,c1,hT1,hl1,rfl,hk1,hp1⟩)
  obtain ⟨W,hW⟩:∃ W,W=w1.alloc (.cells #[.string l1,.slice o1 k1.length c1] 46):=⟨_,rfl⟩
  have hpW:Pr w1 W:=by rw [hW];exact Pr.alloc _ _
  have hTW:W.heap[w1.heap.size]? = some (.cells #[.string l1,.slice o1 k1.length c1] 46 (0,0)):=by rw [hW];exact heap_alloc_new w1 _
  rw [← hW]
  have hwW:=hp1.trans hpW
  have HwW:=Lib.hid hwW
  have MK:=Lib.hid (marked_any 0 l1 k1 o1 c1 W (by
    have h:=HB.out.flt _ (List.getElem_mem hlen)
    have h2:=(fault_zero.1 h).1
    rw [Ht0.out,hT1,Tr.sz_node] at h2;omega) ((hk1.any).pr hpW))
  have x0:=blk_cell (o:=0) hTW;have x1:=blk_cell (o:=1) hTW
  have HT1:=Lib.hid hT1
  clear hW hpW hTW hwW hk1 hp1 hT1 hl1
  go_upto_region 5 with (first
    | (go_at_call 39;(with_reducible refine Calls.mono (LN.out _ HwW.out) ?_);rintro e w2 ⟨rfl,rfl⟩)
    | (go_at_call 113;(with_reducible refine Calls.mono MK.out ?_);rintro e w3 ⟨om,cm,rfl,hk3,hp3⟩))
  obtain ⟨V,hV⟩:∃ V,V=w3.alloc (.cells #[.int .i64 0,.slice om (markL 0 k1).length cm] 173):=⟨_,rfl⟩
  have hpV:Pr w3 V:=by rw [hV];exact Pr.alloc _ _
  have hMV:V.heap[w3.heap.size]? = some (.cells #[.int .i64 0,.slice om (markL 0 k1).length cm] 173 (0,0)):=by rw [hV];exact heap_alloc_new w3 _
  have hVs:V.heap.size=w3.heap.size+1:=by rw [hV];simp
  rw [← hV]
  have hbl0:blM ts 0=.node 0 (markL 0 k1):=by simp only [blM];rw [← Hl0.out,HT1.out];simp only [markP]
  have HkV:Hid (Mrk.Kids (fun j=>j≠w3.heap.size) V (markL 0 k1) om cm):=Lib.hid (hk3.carry fun j _ hl=>⟨Below.block hpV j hl,by omega⟩)
  have HwV:=Lib.hid (HwW.out.trans (hp3.trans hpV))
  have HMV:=Lib.hid hMV;have Hbl0:=Lib.hid hbl0;have HVs:=Lib.hid hVs
  have hz3:=Below.size (HwW.out.trans hp3)
  clear hV hpV hMV hVs hbl0 hk3 hp3 x0 x1
  go_upto_region 6 with fail
  go_loopw [9] (fun vi wr=>∃ (k:Nat) (s:Int) (ms:List Mk) (oa:Option Addr) (cap:Nat),k≤n∧vi=.int .i64 ((k:Int)+1)∧blM ts k=.node s ms∧wr.heap[w3.heap.size]? = some (.cells #[.int .i64 s,.slice oa ms.length cap] 173 (0,0))∧Mrk.Kids (fun j=>j≠w3.heap.size) wr ms oa cap∧Chg (fun j=>j=w3.heap.size) V wr) (fun vi _=>(n:Nat)+1 - (intOf vi).toNat)
  case atStart=>exact ⟨0,0,markL 0 k1,om,cm,by omega,by go_num,Hbl0.out,HMV.out,HkV.out,Chg.refl _ _⟩
  case round =>
    obtain ⟨k,s,ms,oa,cap,hkn,rfl,hbk,hM,hkm,hc⟩:=hrel
    by_cases hlt:k < n
    case pos =>
      have hk1l:k+1 < ts.length:=by omega
      obtain ⟨g,cv,o1,d1,o2,d2,hve,hcv,hBg,g1,g2,g3,_⟩:=HB.out.rd k hk1l
      obtain ⟨⟨la,ka,oA,cA,hbb,_⟩,_,hflt,_,_⟩:=HB.out
      have hBw:=blk_lt hbb
      have hsd:=stepD_get ts k hk1l
      have hok:=blM_ok hflt k hk1l
      obtain ⟨back,hgo⟩:=stepP_go (hflt _ (List.getElem_mem (by omega:k < ts.length))) (hflt _ (List.getElem_mem hk1l))
      have hpth:∀ d∈stepD ts ((k:Int)+1),d.path.length≤40:=by rw [hsd];exact runGo_paths hgo
      rw [← hsd] at g1 g3
      have hblk1:blM ts (k+1)=doMs ((k:Int)+1) (stepD ts ((k:Int)+1)) (blM ts k):=rfl
      rw [hbk] at hok hblk1
      obtain ⟨D,hD⟩:∃ D,D=stepD ts ((k:Int)+1):=⟨_,rfl⟩
      rw [← hD] at g1 g3 hok hpth hblk1
      have hcw:=(HwV.out.chg (fun j=>j=w3.heap.size)).trans hc (fun _ h=>.inl h)
      have hgw:=lt_of_cell g1
      have hd3:Dees (fun j=>j < w.heap.size) wr D o1 d1:=g3.carry fun j _ hl=>⟨hcw.block j hl (by omega),hl⟩
      have hDl:=hd3.len
      have c2:wr.cell? ⟨B,2,none⟩=some (.slice (some ⟨g,0,none⟩) (ts.length - 1) cv):=by
        rw [World.cell?_of_block (hcw.block B hBw (by omega)),blk_cell (o:=2) hbb,hve];rfl
      have c3:wr.cell? ⟨g,k * 2,none⟩=some (.slice o1 D.length d1):=by rw [World.cell?_of_block (hcw.block g hgw (by omega))];exact g1
      obtain ⟨m,hm⟩:∃ m,m=ts.length - 1:=⟨_,rfl⟩
      rw [← hm] at c2
      have v1:(0:Int)≤(k:Int):=by omega
      have v2:(k:Int) < (m:Int):=by omega
      have v3:(k:Int)+1≤(n:Int):=by omega
      have Hd3:=Lib.hid hd3;have Hok:=Lib.hid hok;have Hpth:=Lib.hid hpth;have Hblk1:=Lib.hid hblk1;have Hc:=Lib.hid hc;have Hkm:=Lib.hid hkm;have HM:=Lib.hid hM
      clear hve hcv hbb hflt hsd hok hgo hpth g1 g2 g3 hblk1 hD hcw hd3 hm hc hkm hM hbk
      go_upto_region 9 with fail
      clear c2 c3
      obtain ⟨wz,hwz⟩:∃ wz,wz=wr:=⟨_,rfl⟩
      subst hwz
      go_loopw [46] (fun vi wq=>∃ (i:Nat) (s':Int) (ms':List Mk) (oa':Option Addr) (cap':Nat),i≤D.length∧vi=.int .i64 i∧doMs ((k:Int)+1) (D.take i) (.node s ms)=.node s' ms'∧wq.heap[w3.heap.size]? = some (.cells #[.int .i64 s',.slice oa' ms'.length cap'] 173 (0,0))∧Mrk.Kids (fun j=>j≠w3.heap.size) wq ms' oa' cap'∧Chg (fun j=>j=w3.heap.size) wz wq) (fun vi _=>D.length - (intOf vi).toNat)
      case atStart=>exact ⟨0,s,ms,oa,cap,by omega,by go_num,by rw [List.take_zero];rfl,HM.out,Hkm.out,Chg.refl _ _⟩
      case round =>
        obtain ⟨i,s',ms',oa',cap',hi,rfl,hdo,hM',hkm',hc'⟩:=hrel
        by_cases hlt2:i < D.length
        case pos =>
          have hdq:Dees (fun j=>j < w.heap.size) wr D o1 d1:=Hd3.out.carry fun j hj hl=>⟨hc'.block j hl (by have hj':j < w.heap.size:=hj;omega),hj⟩
          obtain ⟨b9,o9,pa,pc,e9,q0,q1,q2,q3,q4,hpi,hls⟩:=hdq.get i hlt2
          subst e9
          have hok:=Hok.out i hlt2
          rw [hdo] at hok
          have hsn:doMs ((k:Int)+1) (D.take (i+1)) (.node s ms)=doM D[i] ((k:Int)+1) D[i].path (.node s' ms'):=by
            rw [List.take_succ_eq_append_getElem hlt2,doMs_snoc,hdo]
          obtain ⟨d,hd⟩:∃ d,d=D[i]:=⟨_,rfl⟩
          rw [← hd] at q0 q1 q2 q3 q4 hpi hls hok hsn
          obtain ⟨V1,hV1⟩:∃ V1,V1=wr.alloc (.cells #[.int .i64 d.kind,.slice pa d.path.length pc,.int .i64 d.pos,.int .i64 d.many,.string d.lab] 72):=⟨_,rfl⟩
          have hpV1:Pr wr V1:=by rw [hV1];exact Pr.alloc _ _
          have hbox:V1.heap[wr.heap.size]? = some (.cells #[.int .i64 d.kind,.slice pa d.path.length pc,.int .i64 d.pos,.int .i64 d.many,.string d.lab] 72 (0,0)):=by rw [hV1];exact heap_alloc_new wr _
          have MD:=Lib.hid (mdo_any d ((k:Int)+1) d.path (fun j=>j≠w3.heap.size) s' ms' oa' cap' pa pc V1 hok (hkm'.pr hpV1) (Flat.any (Flat.pr hpV1 hpi)))
          have Hsn:=Lib.hid hsn;have HM':=Lib.hid (hpV1.blk hM');have Hc':=Lib.hid (hc'.pr hpV1);have HV1:=Lib.hid hpV1
          have hMw:=blk_lt hM'
          clear hdq hpi hls hok hsn hd hdo hkm' hc' hM'
          go_upto_region 11 with fail
          rw [← hV1]
          have x0:=blk_cell (o:=0) HM'.out;have x1:=blk_cell (o:=1) HM'.out
          have b0:=blk_cell (o:=0) hbox;have b1:=blk_cell (o:=1) hbox;have b2:=blk_cell (o:=2) hbox;have b3:=blk_cell (o:=3) hbox;have b4:=blk_cell (o:=4) hbox
          clear hV1 hbox hpV1 q0 q1 q2 q3 q4
          go_wp2_with (go_at_call 114;(with_reducible refine Calls.mono MD.out ?_);rintro e w5 ⟨s5,m5,o5,c5,hr5,rfl,hk5,hp5⟩;have z:=hp5.blk HM'.out;have z0:=blk_cell (o:=0) z;have z1:=blk_cell (o:=1) z;have f0:=blk_frozen (o:=0) z;have f1:=blk_frozen (o:=1) z;have Hz:=Lib.hid z;have Hr5:=Lib.hid hr5;clear z hr5)
          have hzq:=Below.size HV1.out
          refine ⟨⟨i+1,s5,m5,o5,c5,by omega,by go_num,by rw [Hsn.out,Hr5.out],blk_set (o:=1) (blk_set (o:=0) Hz.out _) _,?_,Chg.setCell (Chg.setCell (Hc'.out.pr hp5) _ _ (.inl rfl)) _ _ (.inl rfl)⟩,?_⟩
          · refine ((hk5.mono (S':=fun j=>j≠w3.heap.size) fun j hj _=>?_).setCell _ _ (by simp)).setCell _ _ (by simp)
            rcases hj with h | h
            · exact h
            · omega
          · simp [intOf];omega
        case neg =>
          have hie:i=D.length:=by omega
          subst hie
          rw [List.take_length,← Hblk1.out] at hdo
          go_wp2_with fail
          refine ⟨⟨k+1,s',ms',oa',cap',by omega,by go_num,hdo,hM',hkm',Hc.out.trans hc' (fun _ h=>.inl h)⟩,?_⟩
          simp [intOf];omega
    case neg =>
      have hke:k=n:=by omega
      subst hke
      have hform:=blM_form HB.out.flt k hn
      have hll:=hform.list
      have hsz:=fault_sz (HB.out.flt _ (List.getElem_mem hn))
      rw [hbk,listM_node,List.length_append,List.length_singleton] at hll
      have LI:=Lib.hid (list_any s ms oa cap wr (by omega) hkm.any)
      have x0:=blk_cell (o:=0) hM;have x1:=blk_cell (o:=1) hM
      have hbk':=Hbp.out
      rw [hbk] at hbk'
      have Hbk:=Lib.hid hbk'
      have hcw:Pr w wr:=((HwV.out.chg (fun j=>j=w3.heap.size)).trans hc (fun _ h=>.inl h)).to_pr (fun j hj=>by omega)
      have Hcw:=Lib.hid hcw
      clear hform hll hsz hbk hbk' hkm hM hc hcw
      go_wp2_with (go_at_call 115;(with_reducible refine Calls.mono LI.out ?_);rintro e w9 ⟨o9,c9,rfl,hi9,hp9⟩)
      go_ret2
      have hz:=Below.size Hcw.out
      exact ⟨o9,c9,by rw [Hbk.out,Hbc.out];rfl,by rw [Hbk.out];exact Flat.mono (fun j (hj:wr.heap.size≤j) _=>by show w.heap.size≤j;omega) hi9,Hcw.out.trans hp9⟩
end Go.Proofs.YtdbnfhpgmcjngabGreatDoor
/- Walks: a new book; the laws' bookBegun. -/
namespace Go.Proofs.YtdbnfhpgmcjngabGreatDoor
open Go Go.RowKit
theorem BookOk.new {X:Nat→Prop} {w:World} {B:Nat} (hX:¬ X B) (h:w.heap[B]? = some (.cells #[.string ⟨#[]⟩,.slice none 0 0,.slice none 0 0,.bool false] 49 (0,0))):BookOk X w B (.slice none 0 0) [] :=
  ⟨⟨⟨#[]⟩,[],none,0,h,rfl,by simp [ByteArray.size],Kids.nil _ _ _ _ (Nat.zero_le _)⟩,⟨[],World.ownsRow_nil _ _ _ _,rfl⟩,fun _ ht=>(by cases ht),by decide,hX,fun _ h=>(by cases h)⟩
theorem new_any (X:Nat→Prop) (w:World) (hX:¬ X w.heap.size):Calls Tryz.prog 8 #[] w fun e w'=>(e=.returned (.pointer (some ⟨w.heap.size,0,none⟩))∧BookOk X w' w.heap.size (.slice none 0 0) [])∧Pr w w':=by
  go_enter Tryz.func8,Tryz.ntmps8
  go_wp2_with fail
  go_ret
  exact ⟨⟨rfl,BookOk.new hX (heap_alloc_new w _)⟩,Pr.alloc _ _⟩
def bA:Tr:=.node ⟨#[97]⟩ []
def bB:Tr:=.node ⟨#[97]⟩ [.node ⟨#[98]⟩ []]
end Go.Proofs.YtdbnfhpgmcjngabGreatDoor
