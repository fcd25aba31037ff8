/- Walks: lines' deeds; the program's. -/
import Derived.Test.YtdbnfhpgmcjngadGreatDoorPwi
import Derived.Test.YtdbnfhpgmcjngadGreatDoorShd
namespace Go.Proofs.YtdbnfhpgmcjngadGreatDoor
open Go Go.RowKit
def bodyOf (s:List UInt8):List UInt8 × Bool:=if s.getLast? = some 10 then (s.dropLast,true) else (s,false)
theorem suffix_one (s:List UInt8):Lib.hasSuffix s [10]=(bodyOf s).2∧Lib.trimSuffix s [10]=(bodyOf s).1:=by
  have h:Lib.hasSuffix s [10]=true↔s.getLast? = some 10:=by
    unfold Lib.hasSuffix
    rw [List.isSuffixOf_iff_suffix]
    constructor
    · rintro ⟨r,rfl⟩;simp
    · intro e
      obtain ⟨r,rfl⟩:=List.getLast?_eq_some_iff.1 e
      exact ⟨r,rfl⟩
  unfold Lib.trimSuffix bodyOf
  by_cases e:s.getLast? = some 10
  · rw [if_pos e,if_pos (h.2 e),h.2 e]
    exact ⟨rfl,by simp [List.dropLast_eq_take]⟩
  · have h':Lib.hasSuffix s [10]=false:=by rw [Bool.eq_false_iff];exact fun x=>e (h.1 x)
    rw [if_neg e,h'];simp
theorem cutsuf_any (s:ByteArray) (w:World) (hs:s.size≤1000000) :
    Calls Tryz.prog 53 #[.string s,.string ⟨#[10]⟩] w fun e w'=>e=.returned (.tuple #[.string ⟨⟨(bodyOf s.data.toList).1⟩⟩,.bool (bodyOf s.data.toList).2])∧Pr w w':=by
  refine Calls.mono (Any.strings_CutSuffix lays104 s ⟨#[10]⟩ w (by omega)) ?_
  rintro e w' ⟨rfl,rfl⟩
  obtain ⟨h1,h2⟩:=suffix_one s.data.toList
  refine ⟨?_,Pr.refl _⟩
  rw [← h1,← h2]
theorem read_body {s:List UInt8} (h:s≠[]):readP s=if (bodyOf s).2=false then ([],5,((cutC 10 (bodyOf s).1).length:Int) - 1)
    else if 80 < (cutC 10 (bodyOf s).1).length then ([],2,-1)
    else match deedsW 0 (cutC 10 (bodyOf s).1) with
      | .error (c,i)=>([],(c:Int),(i:Int))
      | .ok ds=>(ds,0,0):=by
  unfold readP
  rw [if_neg h]
  by_cases e:s.getLast? = some 10
  · obtain ⟨r,rfl⟩:=List.getLast?_eq_some_iff.1 e
    have hc:cutC 10 (r ++ [10])=cutC 10 r ++ [[]]:=by rw [cut_snoc,if_pos rfl]
    have hb:bodyOf (r ++ [10])=(r,true):=by unfold bodyOf;rw [if_pos e];simp
    rw [hc,hb,if_neg (by simp),List.dropLast_concat,if_neg (show ¬ (r,true).2=false by simp)]
    by_cases h8:80 < (cutC 10 r).length
    · rw [if_pos h8,if_pos h8]
    · rw [if_neg h8,if_neg h8];cases deedsW 0 (cutC 10 r) <;> rfl
  · have hb:bodyOf s=(s,false):=by unfold bodyOf;rw [if_neg e]
    obtain ⟨r,b,rfl⟩:∃ r b,s=r ++ [b]:=⟨s.dropLast,s.getLast h,(List.dropLast_concat_getLast h).symm⟩
    have hbn:b≠10:=by intro hb;subst hb;simp at e
    have hc:cutC 10 (r ++ [b])=(cutC 10 r).dropLast ++ [(cutC 10 r).getLastD [] ++ [b]]:=by rw [cut_snoc,if_neg hbn]
    rw [hb,if_pos (by rw [hc];simp),if_pos rfl]
def ReadPost (l:List UInt8) (w:World) (e:Ending) (w':World):Prop:=∃ oa cap,e=.returned (.tuple #[.slice oa (readP l).1.length cap,.agg #[.int .i64 (readP l).2.1,.int .i64 (readP l).2.2]])∧Dees (From w.heap.size) w' (readP l).1 oa cap∧Pr w w'
def withD (q:List Dee):Except (Nat × Nat) (List Dee)→Except (Nat × Nat) (List Dee) | .error e=>.error e | .ok r=>.ok (q ++ r)
theorem deedsW_one {l:List (List UInt8)} {i j:Nat} (hi:i < l.length) (q:List Dee) (h:(deedIn l[i]).2=0):withD q (deedsW j (l.drop i))=withD (q ++ [(deedIn l[i]).1]) (deedsW (j+1) (l.drop (i+1))):=by
  rw [List.drop_eq_getElem_cons hi,deedsW,if_neg (by simpa using h)]
  cases deedsW (j+1) (l.drop (i+1)) <;> simp [withD]
theorem deedsW_no {l:List (List UInt8)} {i j:Nat} (hi:i < l.length) (q:List Dee) (h:(deedIn l[i]).2≠0):withD q (deedsW j (l.drop i))=.error ((deedIn l[i]).2,j):=by
  rw [List.drop_eq_getElem_cons hi,deedsW,if_pos h];rfl
set_option maxRecDepth 100000 in
set_option maxHeartbeats 6400000 in
theorem parse_any2 (s:ByteArray) (hs:s.size≤1000000) (w:World) (hw:Lv w) :
    Calls Tryz.prog 18 #[.string s] w (ReadPost s.data.toList w):=by
  obtain ⟨W,hW⟩:∃ W,W=w.alloc (.cells #[.int .i64 0,.int .i64 0] 44):=⟨_,rfl⟩
  have hwW:Pr w W:=by rw [hW];exact Pr.alloc _ _
  have hbW:W.heap[w.heap.size]? = some (.cells #[.int .i64 0,.int .i64 0] 44 (0,0)):=by rw [hW];exact heap_alloc_new w _
  have hsW:W.heap.size=w.heap.size+1:=by rw [hW];simp
  have HwW:=Lib.hid hwW;have HbW:=Lib.hid hbW;have HW:=Lib.hid hw;have HsW:=Lib.hid hsW
  clear hwW hbW hw hsW
  by_cases hnil:s.data.toList=[]
  · have hp:readP s.data.toList=([],0,0):=by unfold readP;rw [if_pos hnil]
    have Hp:=Lib.hid hp
    have hl:s.toList=[]:=by rw [ByteArray.toList_eq];exact hnil
    have hb3:=HbW.out
    have z0:=blk_cell (o:=0) hb3;have z1:=blk_cell (o:=1) hb3;have y0:W.frozen? ⟨w.heap.size,0,none⟩=false:=blk_frozen hb3;have y1:W.frozen? ⟨w.heap.size,1,none⟩=false:=blk_frozen hb3;simp only [List.getElem?_toArray,List.getElem?_cons_zero,List.getElem?_cons_succ] at z0 z1
    clear hnil hp
    go_enter Tryz.func18,Tryz.ntmps18
    go_upto_region 1 with fail
    rw [← hW];clear hW
    go_wp2_with fail
    have hq5:=set2 (.int .i64 0) (.int .i64 0) hb3
    have q0:=blk_cell (o:=0) hq5;have q1:=blk_cell (o:=1) hq5
    simp only [List.getElem?_toArray,List.getElem?_cons_zero,List.getElem?_cons_succ] at q0 q1
    refine bodyPost_ret (v:=.tuple #[.slice none 0 0,.agg #[.int .i64 0,.int .i64 0]]) (by simp [results,Tryz.results18,go_sem,q0,q1]) rfl ?_
    exact ⟨none,0,by rw [Hp.out];rfl,by rw [Hp.out];exact Dees.nil _ _ _ _ (Nat.zero_le _),(HwW.out.setCell (Nat.le_refl _) _).setCell (Nat.le_refl _) _⟩
  · obtain ⟨q1,q2,q3⟩:=str_no hnil
    have hrd:=read_body hnil
    obtain ⟨bo,hbo⟩:∃ x:ByteArray,x=⟨⟨(bodyOf s.data.toList).1⟩⟩:=⟨_,rfl⟩
    obtain ⟨en,hen⟩:∃ x,x=(bodyOf s.data.toList).2:=⟨_,rfl⟩
    have hbl:bo.data.toList=(bodyOf s.data.toList).1:=by rw [hbo]
    have hbs:bo.size≤1000000:=by
      rw [← sizeL,hbl]
      have h1:(bodyOf s.data.toList).1.length≤s.data.toList.length:=by unfold bodyOf;split <;> simp
      rw [sizeL] at h1;omega
    have A:∀ W',Calls Tryz.prog 53 #[.string s,.string ⟨#[10]⟩] W' fun e w'=>e=.returned (.tuple #[.string bo,.bool en])∧Pr W' w':=fun W'=>by
      rw [hbo,hen];exact cutsuf_any s W' hs
    obtain ⟨ps,hps⟩:∃ x,x=cutC 10 bo.data.toList:=⟨_,rfl⟩
    have B:∀ W',Pr W W'→Calls Tryz.prog 54 #[.string bo,.string ⟨#[10]⟩] W' (PartsPost ps W'):=fun W' h=>by
      rw [hps];exact split_parts bo 10 hbs W' (HW.out.pr (HwW.out.trans h))
    have hcl:=cut_le 10 bo.data.toList
    rw [← hps] at hcl
    have hcc:ps.length≤1000001:=by
      rw [hps,cut_length];have:=List.count_le_length (a:=(10:UInt8)) (l:=bo.data.toList);rw [sizeL] at this;omega
    have h0n:0 < ps.length:=by rw [hps];exact List.length_pos_iff.2 (cutC_ne _ _)
    rw [← hbl,← hen,← hps] at hrd
    have A:=Lib.hid A;have B:=Lib.hid B;have Hcl:=Lib.hid hcl;have Hrd:=Lib.hid hrd;have Hbs:=Lib.hid hbs
    clear hnil hrd hbo hen hbl hps hcl hbs
    cases en with
    | false =>
      have hp:readP s.data.toList=([],5,(ps.length:Int) - 1):=by rw [Hrd.out,if_pos rfl]
      have Hp:=Lib.hid hp
      clear hp
      go_enter Tryz.func18,Tryz.ntmps18
      go_upto_region 1 with fail
      rw [← hW];clear hW
      go_wp2_with (first
        | (go_at_call 53;(with_reducible refine Calls.mono (A.out _) ?_);rintro e w1 ⟨rfl,hp1⟩)
        | (go_at_call 54;(with_reducible refine Calls.mono (B.out _ hp1) ?_);rintro e w2 ⟨oa,cap,rfl,hst,hp2⟩;have hb3:=(hp1.trans hp2).blk HbW.out;have z0:=blk_cell (o:=0) hb3;have z1:=blk_cell (o:=1) hb3;have y0:w2.frozen? ⟨w.heap.size,0,none⟩=false:=blk_frozen hb3;have y1:w2.frozen? ⟨w.heap.size,1,none⟩=false:=blk_frozen hb3;simp only [List.getElem?_toArray,List.getElem?_cons_zero,List.getElem?_cons_succ] at z0 z1))
      have hq5:=set2 (.int .i64 5) (.int .i64 ((ps.length:Int) - 1)) hb3
      have q0:=blk_cell (o:=0) hq5;have q1:=blk_cell (o:=1) hq5
      simp only [List.getElem?_toArray,List.getElem?_cons_zero,List.getElem?_cons_succ] at q0 q1
      refine bodyPost_ret (v:=.tuple #[.slice none 0 0,.agg #[.int .i64 5,.int .i64 ((ps.length:Int) - 1)]]) (by simp [results,Tryz.results18,go_sem,q0,q1]) rfl ?_
      exact ⟨none,0,by rw [Hp.out];rfl,by rw [Hp.out];exact Dees.nil _ _ _ _ (Nat.zero_le _),((HwW.out.trans (hp1.trans hp2)).setCell (Nat.le_refl _) _).setCell (Nat.le_refl _) _⟩
    | true =>
      by_cases h8:80 < ps.length
      · have hp:readP s.data.toList=([],2,-1):=by rw [Hrd.out,if_neg (by simp),if_pos h8]
        have Hp:=Lib.hid hp
        have n0:(80:Int) < ps.length:=by omega
        clear hp h8
        go_enter Tryz.func18,Tryz.ntmps18
        go_upto_region 1 with fail
        rw [← hW];clear hW
        go_wp2_with (first
          | (go_at_call 53;(with_reducible refine Calls.mono (A.out _) ?_);rintro e w1 ⟨rfl,hp1⟩)
          | (go_at_call 54;(with_reducible refine Calls.mono (B.out _ hp1) ?_);rintro e w2 ⟨oa,cap,rfl,hst,hp2⟩;have hb3:=(hp1.trans hp2).blk HbW.out;have z0:=blk_cell (o:=0) hb3;have z1:=blk_cell (o:=1) hb3;have y0:w2.frozen? ⟨w.heap.size,0,none⟩=false:=blk_frozen hb3;have y1:w2.frozen? ⟨w.heap.size,1,none⟩=false:=blk_frozen hb3;simp only [List.getElem?_toArray,List.getElem?_cons_zero,List.getElem?_cons_succ] at z0 z1))
        have hq5:=set2 (.int .i64 2) (.int .i64 (-1)) hb3
        have q0:=blk_cell (o:=0) hq5;have q1:=blk_cell (o:=1) hq5
        simp only [List.getElem?_toArray,List.getElem?_cons_zero,List.getElem?_cons_succ] at q0 q1
        refine bodyPost_ret (v:=.tuple #[.slice none 0 0,.agg #[.int .i64 2,.int .i64 (-1)]]) (by simp [results,Tryz.results18,go_sem,q0,q1]) rfl ?_
        exact ⟨none,0,by rw [Hp.out];rfl,by rw [Hp.out];exact Dees.nil _ _ _ _ (Nat.zero_le _),((HwW.out.trans (hp1.trans hp2)).setCell (Nat.le_refl _) _).setCell (Nat.le_refl _) _⟩
      · have hp0:readP s.data.toList=match deedsW 0 ps with | .error (c,i)=>([],(c:Int),(i:Int)) | .ok ds=>(ds,0,0):=by rw [Hrd.out,if_neg (by simp),if_neg h8]
        have Hp0:=Lib.hid hp0
        have n0:decide ((80:Int) < ps.length)=false:=by simp;omega
        have n1:decide (80 < ps.length)=false:=by simp;omega
        have h80:ps.length≤80:=by omega
        clear hp0 h8
        go_enter Tryz.func18,Tryz.ntmps18
        go_upto_region 1 with fail
        rw [← hW];clear hW
        go_wp2_with (first
          | (go_at_call 53;(with_reducible refine Calls.mono (A.out _) ?_);rintro e w1 ⟨rfl,hp1⟩)
          | (go_at_call 54;(with_reducible refine Calls.mono (B.out _ hp1) ?_);rintro e w2 ⟨oa,cap,rfl,hst,hp2⟩))
        have hp12:=hp1.trans hp2
        have HST:=Lib.hid hst;have HP12:=Lib.hid hp12
        have hV:=hp12.size
        clear hst hp12
        go_loopw [7,34] (fun v x wr=>∃ (i:Nat) (q:List Dee),i≤ps.length∧x=.int .i64 i∧OwnsDs w2.heap.size wr v q∧q.length≤i∧deedsW 0 ps=withD q (deedsW i (ps.drop i))∧Pr w2 wr) (fun _ x _=>ps.length - (intOf x).toNat)
        case atStart=>exact ⟨0,[],by omega,rfl,OwnsDs.nil _ _,by simp,by rw [List.drop_zero];cases deedsW 0 ps <;> rfl,Pr.refl _⟩
        case round =>
          obtain ⟨i,q,hi,rfl,ho,hq,hf,hp⟩:=hrel
          by_cases hlt:i < ps.length
          · obtain ⟨bk,o,rfl,c0⟩:=Strs.get (Flat.pr hp HST.out) i hlt
            have hsz:(⟨⟨ps[i]⟩⟩:ByteArray).size≤1000000:=by
              have h1:=Hcl.out ps[i] (List.getElem_mem _)
              rw [sizeL] at h1
              have h2:(⟨⟨ps[i]⟩⟩:ByteArray).size=ps[i].length:=rfl
              have:=Hbs.out
              omega
            have D:Calls Tryz.prog 55 #[.string ⟨⟨ps[i]⟩⟩] wr (PDeedPost (deedIn ps[i]) wr):=deed_any ⟨⟨ps[i]⟩⟩ hsz wr (HW.out.pr (HwW.out.trans (HP12.out.trans hp)))
            obtain ⟨dr,hdr⟩:∃ x,x=deedIn ps[i]:=⟨_,rfl⟩
            rw [← hdr] at D
            obtain ⟨d,c⟩:=dr
            have D:=Lib.hid D
            by_cases hc:c=0
            · obtain rfl:=hc
              have hst:=deedsW_one (j:=i) hlt q (by rw [← hdr])
              rw [← hf,← hdr] at hst
              have Hst:=Lib.hid hst
              clear hst hf hdr
              go_upto_region 14 with (go_at_call 55;(with_reducible refine Calls.mono D.out ?_);rintro e w5 ⟨pa,pc,rfl,hpi,hlab,hp5⟩)
              obtain ⟨w6,hw6⟩:∃ w6,w6=w5.alloc (.cells #[.int .i64 d.kind,.slice pa d.path.length pc,.int .i64 d.pos,.int .i64 d.many,.string d.lab] 69):=⟨_,rfl⟩
              rw [← hw6]
              have hB:w6.heap[w5.heap.size]? = some (.cells #[.int .i64 d.kind,.slice pa d.path.length pc,.int .i64 d.pos,.int .i64 d.many,.string d.lab] 69 (0,0)):=by rw [hw6];exact heap_alloc_new w5 _
              have h56:Pr w5 w6:=by rw [hw6];exact Pr.alloc _ _
              have hp56:=hp5.trans h56
              have hb3:=(HP12.out.trans (hp.trans hp56)).blk HbW.out
              clear hw6
              have e0:=blk_cell (o:=0) hB;have e1:=blk_cell (o:=1) hB;have e2:=blk_cell (o:=2) hB;have e3:=blk_cell (o:=3) hB;have e4:=blk_cell (o:=4) hB
              simp only [List.getElem?_toArray,List.getElem?_cons_zero,List.getElem?_cons_succ] at e0 e1 e2 e3 e4
              have ho6:=ho.pr hp56
              have hV2:=hp.size
              have hsz6:=hp56.size
              have hints:Ints (Apart w2.heap.size u7) w6 d.path pa pc:=Flat.pr h56 (hpi.mono (fun k hk _=>⟨Nat.le_trans hV2 hk,fun e=>by have:=(ho.block k e).2;have hk':wr.heap.size≤k:=hk;omega⟩))
              have Hints:=Lib.hid hints;have Ho6:=Lib.hid ho6
              have hlab':d.lab.size≤maxLen:=by unfold maxLen;omega
              have hq9:q.length≤1000000000:=by omega
              clear hints ho6
              go_wp2_with (at_builtin;go_must (refine app_deed rfl _ _ rfl w2.heap.size u7 q rfl (Ho6.out.pr (Pr.alloc _ _)) w6.heap.size rfl d pa pc (heap_alloc_new w6 _) (Flat.pr (Pr.alloc _ _) Hints.out) hlab' hq9 (by simp;omega) ?_);intro g4 c4 w7 ho7 hg7 hd7)
              refine ⟨⟨i+1,q ++ [d],by omega,by go_num,ho7,by simp;omega,Hst.out,?_⟩,by simp [intOf];omega⟩
              exact Below.grown ((hp.trans hp56).alloc' _) hg7 (by simp;omega) (fun k hk=>(Ho6.out.block k hk).1)
            · have hno:=deedsW_no (j:=i) hlt q (by rw [← hdr];exact hc)
              rw [← hf,← hdr] at hno
              have hp9:readP s.data.toList=([],(c:Int),(i:Int)):=by rw [Hp0.out,hno]
              have Hp:=Lib.hid hp9
              have m0:((c:Int) != 0)=true:=by simp [bne_iff_ne];omega
              have m1:(c != 0)=true:=by simp [bne_iff_ne];omega
              clear hno hf hdr hp9 hc
              go_upto_region 14 with (go_at_call 55;(with_reducible refine Calls.mono D.out ?_);rintro e w5 ⟨pa,pc,rfl,hpi,hlab,hp5⟩)
              obtain ⟨w6,hw6⟩:∃ w6,w6=w5.alloc (.cells #[.int .i64 d.kind,.slice pa d.path.length pc,.int .i64 d.pos,.int .i64 d.many,.string d.lab] 69):=⟨_,rfl⟩
              rw [← hw6]
              have hB:w6.heap[w5.heap.size]? = some (.cells #[.int .i64 d.kind,.slice pa d.path.length pc,.int .i64 d.pos,.int .i64 d.many,.string d.lab] 69 (0,0)):=by rw [hw6];exact heap_alloc_new w5 _
              have h56:Pr w5 w6:=by rw [hw6];exact Pr.alloc _ _
              have hp56:=hp5.trans h56
              have hb3:=(HP12.out.trans (hp.trans hp56)).blk HbW.out
              clear hw6
              have z0:=blk_cell (o:=0) hb3;have z1:=blk_cell (o:=1) hb3;have y0:w6.frozen? ⟨w.heap.size,0,none⟩=false:=blk_frozen hb3;have y1:w6.frozen? ⟨w.heap.size,1,none⟩=false:=blk_frozen hb3;simp only [List.getElem?_toArray,List.getElem?_cons_zero,List.getElem?_cons_succ] at z0 z1
              go_wp2_with fail
              have hq5:=set2 (.int .i64 (c:Int)) (.int .i64 (i:Int)) hb3
              have q0:=blk_cell (o:=0) hq5;have q1:=blk_cell (o:=1) hq5
              simp only [List.getElem?_toArray,List.getElem?_cons_zero,List.getElem?_cons_succ] at q0 q1
              refine bodyPost_ret (v:=.tuple #[.slice none 0 0,.agg #[.int .i64 (c:Int),.int .i64 (i:Int)]]) (by simp [results,Tryz.results18,go_sem,q0,q1]) rfl ?_
              exact ⟨none,0,by rw [Hp.out];rfl,by rw [Hp.out];exact Dees.nil _ _ _ _ (Nat.zero_le _),((HwW.out.trans (HP12.out.trans (hp.trans hp56))).setCell (Nat.le_refl _) _).setCell (Nat.le_refl _) _⟩
          · have hks:i=ps.length:=by omega
            have hdr:ps.drop i=[]:=by rw [List.drop_eq_nil_iff];omega
            have hend:deedsW 0 ps=.ok q:=by rw [hf,hdr];simp [deedsW,withD]
            have hp9:readP s.data.toList=(q,0,0):=by rw [Hp0.out,hend]
            have Hp:=Lib.hid hp9
            have d1:decide ((i:Int) < ps.length)=false:=by simp;omega
            have d3:decide (i < ps.length)=false:=by simp;omega
            obtain ⟨oa5,cap5,rfl,h5⟩:=ho.dees
            have H5:=Lib.hid h5
            have hb3:=(HP12.out.trans hp).blk HbW.out
            have z0:=blk_cell (o:=0) hb3;have z1:=blk_cell (o:=1) hb3;have y0:wr.frozen? ⟨w.heap.size,0,none⟩=false:=blk_frozen hb3;have y1:wr.frozen? ⟨w.heap.size,1,none⟩=false:=blk_frozen hb3;simp only [List.getElem?_toArray,List.getElem?_cons_zero,List.getElem?_cons_succ] at z0 z1
            clear hks hdr hend hf h5 hp9
            go_wp2_with fail
            have hq5:=set2 (.int .i64 0) (.int .i64 0) hb3
            have q0:=blk_cell (o:=0) hq5;have q1:=blk_cell (o:=1) hq5
            simp only [List.getElem?_toArray,List.getElem?_cons_zero,List.getElem?_cons_succ] at q0 q1
            refine bodyPost_ret (v:=.tuple #[.slice oa5 q.length cap5,.agg #[.int .i64 0,.int .i64 0]]) (by simp [results,Tryz.results18,go_sem,q0,q1]) rfl ?_
            exact ⟨oa5,cap5,by rw [Hp.out],by rw [Hp.out];exact ((H5.out.carry (S':=fun k=>w2.heap.size≤k) (fun k hk _=>⟨rfl,hk⟩)).carry (S':=From w.heap.size) (fun k hk _=>⟨by have hk':w2.heap.size≤k:=hk;rw [Below.heap_setCell _ _ _ _ (fun e=>by have e':k=w.heap.size:=e;have:=HsW.out;omega),Below.heap_setCell _ _ _ _ (fun e=>by have e':k=w.heap.size:=e;have:=HsW.out;omega)],by have hk':w2.heap.size≤k:=hk;have:=HsW.out;show w.heap.size≤k;omega⟩)),((HwW.out.trans (HP12.out.trans hp)).setCell (Nat.le_refl _) _).setCell (Nat.le_refl _) _⟩
end Go.Proofs.YtdbnfhpgmcjngadGreatDoor
