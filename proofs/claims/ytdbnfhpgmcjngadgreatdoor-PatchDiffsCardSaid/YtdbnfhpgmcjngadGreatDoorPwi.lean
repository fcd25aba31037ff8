/- Walks: deeds as lines; the program's. -/
import Derived.Test.YtdbnfhpgmcjngadGreatDoorPwh
import Derived.Test.YtdbnfhpgmcjngadGreatDoorBw
import Derived.Test.YtdbnfhpgmcjngadGreatDoorBds
namespace Go.Proofs.YtdbnfhpgmcjngadGreatDoor
open Go Go.RowKit
theorem Bdr.pr {T:TypeId} {rest:Array Value} {B M:Nat} {w w':World} {l:List UInt8} (h:Bdr T rest B M w l) (hp:Pr w w'):Bdr T rest B M w' l:=by
  obtain ⟨hB,p,v,h1,h2,h3,h4⟩:=h
  exact ⟨hB,p,v,h1,hp.blk h2,ownsRow_kept h3 (fun k hk=>Below.block hp k (h3.lt k hk).2),h4⟩
theorem builder_has:HasB 106 #[]:=⟨by kernel_rfl,by decide⟩
def PrintPost (ds:List Dee) (w:World) (e:Ending) (w':World):Prop:=e=.returned (.tuple #[.string ⟨⟨(printP ds).1⟩⟩,.agg #[.int .i64 (printP ds).2.1,.int .i64 (printP ds).2.2]])∧Pr w w'
theorem set2 {w:World} {b:Nat} {x0 x1:Value} {T:TypeId} (v0 v1:Value) (h:w.heap[b]? = some (.cells #[x0,x1] T (0,0))) :
    ((w.setCell ⟨b,0,none⟩ v0).setCell ⟨b,1,none⟩ v1).heap[b]? = some (.cells #[v0,v1] T (0,0)):=by
  have:=blk_set (o:=1) (blk_set (o:=0) h v0) v1
  simpa using this
def FewD (ds:List Dee):Prop:=∀ d∈ds,d.path.length≤100000∧d.lab.size≤100000
theorem line_le {d:Dee} (h:lineC d=0) (hf:d.path.length≤100000∧d.lab.size≤100000):(lineT d).length≤2500000:=by
  obtain ⟨h0,hp,ha,hm0,hm1⟩:=lineC_zero h
  have hk:=(dfault_zero.1 h0).1
  have h1:=pathT_le d.path (fun x hx=>by have:=hp x hx;omega)
  have h2:=Lib.itoa_length_le d.pos (by omega) (by omega)
  have h3:=Lib.itoa_length_le d.many (by omega) (by omega)
  have h4:d.lab.data.toList.length=d.lab.size:=sizeL _
  rcases (show d.kind=1∨d.kind=2∨d.kind=3 by omega) with h | h | h
  · rw [line1 h];simp only [List.length_append,List.length_cons,List.length_nil];omega
  · rw [line2 h];simp only [List.length_append,List.length_cons,List.length_nil];omega
  · rw [line3 h];simp only [List.length_append,List.length_cons,List.length_nil];omega
theorem ended_snoc (x:List UInt8):∀ l:List (List UInt8),ended (l ++ [x])=ended l ++ (x ++ [10])
  | []=>by simp [ended]
  | y :: l=>by rw [List.cons_append,ended,ended_snoc x l,ended];simp
theorem ended_len {ds:List Dee} (hc:∀ d∈ds,lineC d=0) (hf:FewD ds):(ended (ds.map lineT)).length≤2500001 * ds.length:=by
  induction ds with
  | nil=>simp [ended]
  | cons d r ih =>
    have h1:=line_le (hc d (by simp)) (hf d (by simp))
    have h2:=ih (fun x hx=>hc x (by simp [hx])) (fun x hx=>hf x (by simp [hx]))
    simp only [List.map_cons,ended,List.length_append,List.length_cons];omega
theorem lines_first:∀ (ds:List Dee) (j i:Nat) (h:i < ds.length),(∀ d∈ds.take i,lineC d=0)→lineC ds[i]≠0→lines j ds=.error (lineC ds[i],j+i)
  | [],_,_,h,_,_=>absurd h (Nat.not_lt_zero _)
  | d :: r,j,0,_,_,hb=>by rw [lines,if_pos (by simpa using hb)];rfl
  | d :: r,j,i+1,h,hc,hb=>by
    have h0:=hc d (by simp)
    rw [lines,if_neg (by simpa using h0),lines_first r (j+1) i (by simpa using h) (fun x hx=>hc x (by simp [hx])) (by simpa using hb)]
    simp;omega
theorem print_first {ds:List Dee} (hn:ds.length≤80) {i:Nat} (h:i < ds.length) (hc:∀ d∈ds.take i,lineC d=0) (hb:lineC ds[i]≠0):printP ds=([],(lineC ds[i]:Int),(i:Int)):=by
  unfold printP
  rw [if_neg (by omega),lines_first ds 0 i h hc hb];simp
theorem print_many {ds:List Dee} (hn:80 < ds.length):printP ds=([],2,-1):=by unfold printP;rw [if_pos hn]
theorem lineP_first {d:Dee} (h:lineC d≠0):lineP d=([],lineC d):=by unfold lineP;rw [if_pos h]
set_option maxRecDepth 100000 in
set_option maxHeartbeats 6400000 in
theorem print_any (ds:List Dee) (oa cap) (w:World) (hds:Dees Any w ds oa cap) (hF:FewD ds) (hw:Lv w) :
    Calls Tryz.prog 17 #[.slice oa ds.length cap] w (PrintPost ds w):=by
  have hlen:=hds.len
  have HDS:=Lib.hid hds;have HF:=Lib.hid hF;have HW:=Lib.hid hw
  clear hds hF hw
  by_cases hn:80 < ds.length
  · have Hp:=Lib.hid (print_many hn)
    have n0:(80:Int) < ds.length:=by omega
    clear hn
    go_enter Tryz.func17,Tryz.ntmps17
    go_wp2_with fail
    refine bodyPost_ret (v:=.tuple #[.string ⟨#[]⟩,.agg #[.int .i64 2,.int .i64 (-1)]]) (by simp [results,Tryz.results17,go_sem]) rfl ?_
    exact ⟨by rw [Hp.out],Pr.alloc _ _⟩
  · have hn80:ds.length≤80:=by omega
    have n0:decide ((80:Int) < ds.length)=false:=by simp;omega
    have n1:decide (80 < ds.length)=false:=by simp;omega
    have HN:=Lib.hid hn80
    obtain ⟨W,hW⟩:∃ W,W=(w.alloc (.cells #[.int .i64 0,.int .i64 0] 44)).alloc (.cells (#[.pointer none,.slice none 0 0] ++ #[]) 106):=⟨_,rfl⟩
    have hwW:Pr w W:=by rw [hW];exact (Pr.alloc _ _).alloc' _
    have hbW:W.heap[w.heap.size]? = some (.cells #[.int .i64 0,.int .i64 0] 44 (0,0)):=by rw [hW];exact (Pr.alloc _ _).blk (heap_alloc_new w _)
    have hbB:W.heap[w.heap.size+1]? = some (.cells (#[.pointer none,.slice none 0 0] ++ #[]) 106 (0,0)):=by rw [hW];have:=heap_alloc_new (w.alloc (.cells #[.int .i64 0,.int .i64 0] 44)) (.cells (#[.pointer none,.slice none 0 0] ++ #[]) 106);simpa using this
    have hsW:W.heap.size=w.heap.size+1+1:=by rw [hW];simp
    have HwW:=Lib.hid hwW;have HbW:=Lib.hid hbW;have HbB:=Lib.hid hbB;have HsW:=Lib.hid hsW
    clear hn hwW hbW hbB hsW hn80
    go_enter Tryz.func17,Tryz.ntmps17
    go_upto_region 4 with fail
    simp only [Array.append_empty] at hW
    rw [← hW];clear hW
    go_wp2_with fail
    go_loopw [15] (fun x wr=>∃ i:Nat,i≤ds.length∧x=.int .i64 i∧(∀ d∈ds.take i,lineC d=0)∧Bdr 106 #[] (w.heap.size+1) (w.heap.size+1) wr (ended ((ds.take i).map lineT))∧(i=0→wr=W)∧Below (w.heap.size+1) W wr) (fun x _=>ds.length - (intOf x).toNat)
    case atStart=>exact ⟨0,by omega,rfl,by simp,bfresh _ _ _ _ _ (Nat.le_refl _) HbB.out,fun _=>rfl,Below.refl _ _⟩
    case round =>
      obtain ⟨i,hi,rfl,hall,hbd,hzero,hbel⟩:=hrel
      have hwr:Pr w wr:=Below.trans HwW.out (hbel.mono (by omega))
      have hWr:W.heap.size≤wr.heap.size:=hbel.size
      have hb3:wr.heap[w.heap.size]? = some (.cells #[.int .i64 0,.int .i64 0] 44 (0,0)):=by rw [hbel.block _ (by omega)];exact HbW.out
      have Hall:=Lib.hid hall;have Hbd:=Lib.hid hbd;have Hzero:=Lib.hid hzero;have Hbel:=Lib.hid hbel;have Hb3:=Lib.hid hb3
      clear hall hbd hzero hbel hb3
      by_cases hlt:i < ds.length
      · obtain ⟨bk,o,pa,pc,rfl,c0,c1,c2,c3,c4,hints,hlab⟩:=(HDS.out.pr hwr).get i hlt
        have hfd:=HF.out ds[i] (List.getElem_mem _)
        have L:∀ W',Pr wr W'→Calls Tryz.prog 50 #[.agg #[.int .i64 ds[i].kind,.slice pa ds[i].path.length pc,.int .i64 ds[i].pos,.int .i64 ds[i].many,.string ds[i].lab]] W' (LinePost ds[i] W'):=fun W' h =>
          line_any ds[i].kind ds[i].path ds[i].pos ds[i].many ds[i].lab pa pc W' hfd.2 (Flat.pr h hints) hfd.1 (HW.out.pr (hwr.trans h))
        unfold LinePost at L
        by_cases hc:lineC ds[i]=0
        · obtain ⟨b,hb⟩:∃ b:ByteArray,b=⟨⟨lineT ds[i]⟩⟩:=⟨_,rfl⟩
          have hbl:b.data.toList=lineT ds[i]:=by rw [hb]
          have hbs:b.size≤2500000:=by rw [← sizeL,hbl];exact line_le hc hfd
          rw [lineP_ok hc] at L
          simp only [← hb] at L
          have hel:=ended_len Hall.out (fun d hd=>HF.out d (List.mem_of_mem_take hd))
          rw [List.length_take] at hel
          have L:=Lib.hid L;have Hbl:=Lib.hid hbl;have Hc:=Lib.hid hc
          have hel2:(ended ((ds.take i).map lineT)).length≤2500001 * 80:=Nat.le_trans hel (Nat.mul_le_mul_left _ (by have:=HN.out;omega))
          have Hel:=Lib.hid hel2
          clear hb hbl hc hel hel2 hints
          go_wp2_with (go_at_call 50;(with_reducible refine Calls.mono (L.out _ (Pr.alloc _ _)) ?_);rintro e w5 ⟨rfl,hp5⟩;refine Hid.out ?_)
          refine Lib.hid ?_
          have hp5':=(Pr.alloc wr _).trans hp5
          have hsz5:=hp5'.size
          have hbw:b.size+1≤3000000:=by omega
          have K:=bstring_any 106 #[] builder_has (w.heap.size+1) (w.heap.size+1) w5 (ended ((ds.take i).map lineT)) (b ++ ⟨#[10]⟩) (Hbd.out.pr hp5') (by rw [ByteArray.size_append];have:=Hel.out;show _+(b.size+1)≤_;omega) (by have:=HsW.out;omega)
          have K:=Lib.hid K
          go_wp2_with (go_at_call 51;(with_reducible refine Calls.mono K.out ?_);rintro e w6 ⟨rfl,hbd6,hb6,hk6⟩)
          refine ⟨⟨i+1,by omega,by go_num,?_,?_,fun h=>absurd h (by omega),?_⟩,by simp [intOf];omega⟩
          · intro d hd
            rw [List.take_succ_eq_append_getElem hlt] at hd
            rcases List.mem_append.1 hd with hd | hd
            · exact Hall.out d hd
            · rw [List.mem_singleton] at hd;subst hd;exact Hc.out
          · rw [List.take_succ_eq_append_getElem hlt,List.map_append,List.map_singleton,ended_snoc]
            rw [baL,Hbl.out] at hbd6;exact hbd6
          · exact Below.trans Hbel.out (Below.trans (hp5'.mono (by have:=HsW.out;omega)) hb6)
        · have hb:=lineP_first (d:=ds[i]) hc
          have hpf:=print_first HN.out hlt Hall.out hc
          obtain ⟨c,hcc⟩:∃ c,c=lineC ds[i]:=⟨_,rfl⟩
          rw [← hcc] at hb hpf hc
          rw [hb] at L
          have L:=Lib.hid L;have Hpf:=Lib.hid hpf
          have m0:((c:Int) != 0)=true:=by simp [bne_iff_ne];omega
          have m1:(c != 0)=true:=by simp [bne_iff_ne];omega
          clear hcc hb hpf hc hints
          go_wp2_with (go_at_call 50;(with_reducible refine Calls.mono (L.out _ (Pr.alloc _ _)) ?_);rintro e w5 ⟨rfl,hp5⟩;have hp5':=(Pr.alloc wr _).trans hp5;have hb3:=hp5'.blk Hb3.out;have z0:=blk_cell (o:=0) hb3;have z1:=blk_cell (o:=1) hb3;have y0:w5.frozen? ⟨w.heap.size,0,none⟩=false:=blk_frozen hb3;have y1:w5.frozen? ⟨w.heap.size,1,none⟩=false:=blk_frozen hb3;simp only [List.getElem?_toArray,List.getElem?_cons_zero,List.getElem?_cons_succ] at z0 z1)
          have hq5:=set2 (.int .i64 (c:Int)) (.int .i64 (i:Int)) hb3
          have q0:=blk_cell (o:=0) hq5;have q1:=blk_cell (o:=1) hq5
          simp only [List.getElem?_toArray,List.getElem?_cons_zero,List.getElem?_cons_succ] at q0 q1
          refine bodyPost_ret (v:=.tuple #[.string ⟨⟨[]⟩⟩,.agg #[.int .i64 (c:Int),.int .i64 (i:Int)]]) (by simp [results,Tryz.results17,go_sem,q0,q1]) rfl ?_
          exact ⟨by rw [Hpf.out],((hwr.trans hp5').setCell (Nat.le_refl _) _).setCell (Nat.le_refl _) _⟩
      · obtain rfl:i=ds.length:=by omega
        have hta:=Hall.out
        rw [List.take_length] at hta
        have hpp:=ok_print HN.out hta
        have hbd:=Hbd.out
        rw [List.take_length] at hbd
        have Hpp:=Lib.hid hpp
        have d1:decide ((ds.length:Int) < ds.length)=false:=by simp
        have S:∃ b:ByteArray,b=⟨⟨ended (ds.map lineT)⟩⟩∧Calls Tryz.prog 52 #[.pointer (some ⟨w.heap.size+1,0,none⟩)] wr fun e w'=>e=.returned (.string b)∧Below (w.heap.size+1) wr w':=by
          refine ⟨_,rfl,?_⟩
          by_cases hz:ds.length=0
          · have e:=Hzero.out hz
            have hnil:ds=[]:=List.eq_nil_of_length_eq_zero hz
            subst hnil
            rw [e]
            refine (bread_none 106 #[] (w.heap.size+1) W _ HbB.out).mono ?_
            rintro e w' ⟨rfl,hp⟩
            exact ⟨rfl,hp.mono (by have:=HsW.out;omega)⟩
          · refine bread_any 106 #[] (w.heap.size+1) (w.heap.size+1) wr _ hbd (ended_ne ?_)
            intro e
            have:=congrArg List.length e
            simp at this;rw [this] at hz;exact hz rfl
        obtain ⟨b,hb,S⟩:=S
        have S:=Lib.hid S;have Hb:=Lib.hid hb
        clear hta hpp hbd hb
        go_wp2_with (go_at_call 52;(with_reducible refine Calls.mono S.out ?_);rintro e w7 ⟨rfl,hb7⟩;have hb3:w7.heap[w.heap.size]? = some (.cells #[.int .i64 0,.int .i64 0] 44 (0,0)):=(by rw [hb7.block _ (by omega)];exact Hb3.out);have z0:=blk_cell (o:=0) hb3;have z1:=blk_cell (o:=1) hb3;have y0:w7.frozen? ⟨w.heap.size,0,none⟩=false:=blk_frozen hb3;have y1:w7.frozen? ⟨w.heap.size,1,none⟩=false:=blk_frozen hb3;simp only [List.getElem?_toArray,List.getElem?_cons_zero,List.getElem?_cons_succ] at z0 z1)
        have hq5:=set2 (.int .i64 0) (.int .i64 0) hb3
        have q0:=blk_cell (o:=0) hq5;have q1:=blk_cell (o:=1) hq5
        simp only [List.getElem?_toArray,List.getElem?_cons_zero,List.getElem?_cons_succ] at q0 q1
        refine bodyPost_ret (v:=.tuple #[.string b,.agg #[.int .i64 0,.int .i64 0]]) (by simp [results,Tryz.results17,go_sem,q0,q1]) rfl ?_
        exact ⟨by rw [Hpp.out,Hb.out],((Below.trans hwr (hb7.mono (by omega))).setCell (Nat.le_refl _) _).setCell (Nat.le_refl _) _⟩
end Go.Proofs.YtdbnfhpgmcjngadGreatDoor
