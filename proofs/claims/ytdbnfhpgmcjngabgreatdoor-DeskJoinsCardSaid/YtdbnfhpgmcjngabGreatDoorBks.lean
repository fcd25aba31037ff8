/- Plain: how long a line's answer is at most. No program here. -/
import Derived.Test.YtdbnfhpgmcjngabGreatDoorKo
import Derived.Deep.DeepCutAuto
import Derived.Test.YtdbnfhpgmcjngabGreatDoorBzt
import Derived.Test.YtdbnfhpgmcjngabGreatDoorBlc
namespace Go.Proofs.YtdbnfhpgmcjngabGreatDoor
theorem say1_len (a:List UInt8):(sayP [a]).length=a.length+1:=by simp [sayP,joinC]
theorem say2_len (a b:List UInt8):(sayP [a,b]).length=a.length+b.length+2:=by simp [sayP,joinC];omega
theorem say3_len (a b c:List UInt8):(sayP [a,b,c]).length=a.length+b.length+c.length+3:=by simp [sayP,joinC];omega
theorem codeP_len {c:Int} (h0:0≤c) (h1:c≤1000000):(codeP c).length≤100:=by
  unfold codeP
  split
  · simp
  · have:=Lib.itoa_length_le c (by omega) (by omega)
    rw [say2_len];simp only [wNo,List.length_cons,List.length_nil];omega
theorem addC_few (ts:List Tr) (t:Tr):addC ts t≤13:=by
  unfold addC
  have:=fault_few t
  split
  · omega
  · split <;> omega
section
variable {ts:List Tr}
theorem keepP_len (hn:ts.length≤30) (t:Tr):(keepP ts t).2.length≤100:=by
  have hc:=addC_few ts t
  unfold keepP
  simp only []
  split
  · have:=Lib.itoa_length_le (ts.length:Int) (by omega) (by omega)
    rw [say2_len];simp only [wKept,List.length_cons,List.length_nil];omega
  · exact codeP_len (by omega) (by omega)
theorem addP_len (hn:ts.length≤30) (s:List UInt8) (hs:s.length≤100000):(addP ts s).2.length≤100:=by
  obtain ⟨⟨p0,p1⟩,q0,q1⟩:=parse_range s (by omega)
  unfold addP
  split
  · have h1:=Lib.itoa_length_le (parseP s).2.1 (by omega) (by omega)
    have h2:=Lib.itoa_length_le (parseP s).2.2 (by omega) (by omega)
    simp only []
    rw [say3_len];simp only [wNo,List.length_cons,List.length_nil];omega
  · exact keepP_len hn _
theorem showP_len (hf:∀ t∈ts,fault t=0) (n:Int):(showP ts n).length≤1000:=by
  unfold showP
  split
  · rename_i hh
    have hft:=getT_fault hf hh
    have h1:=txt_length _ (fault_parts hft).2.2
    have h2:=(fault_parts hft).1
    rw [say2_len];simp only [wTree,List.length_cons,List.length_nil];omega
  · have:=codeP_len (c:=7) (by decide) (by decide);omega
theorem deedsP_len {ds:List Dee} (h:∀ d∈ds,lineC d=0∧d.path.length≤60∧d.lab.size≤100):(deedsP ds).length≤200100:=by
  have:=lines_short h
  unfold deedsP
  rw [List.length_append,say1_len];simp only [wEnd,List.length_cons,List.length_nil];omega
theorem diffDP_len (hf:∀ t∈ts,fault t=0) (m n:Int):(diffDP ts m n).length≤201000:=by
  unfold diffDP
  split
  · rename_i hh
    simp only [Bool.and_eq_true] at hh
    have fa:=getT_fault hf hh.1
    have fb:=getT_fault hf hh.2
    have hc:=cost_few fa fb
    have h1:=deedsP_len (diff_few fa fb).1
    have h2:=Lib.itoa_length_le ((costT (getT ts m) (getT ts n):Nat):Int) (by omega) (by omega)
    rw [List.length_append,say2_len];simp only [wCost,List.length_cons,List.length_nil];omega
  · have:=codeP_len (c:=7) (by decide) (by decide);omega
theorem stepDP_len (hf:∀ t∈ts,fault t=0) (n:Int):(stepDP ts n).length≤200100:=by
  unfold stepDP
  split
  · exact deedsP_len (stepD_short hf n)
  · have:=codeP_len (c:=7) (by decide) (by decide);omega
theorem blameDP_len (hf:∀ t∈ts,fault t=0) (hn:ts.length≤30) (n:Int):(blameDP ts n).length≤2000:=by
  unfold blameDP
  split
  · have h1:=blameP_len (z:=n) hf
    have h2:=numsP_len (xs:=blameP ts n) fun x hx=>blameP_in hn hx
    rw [say1_len,List.length_append];simp only [wSince,List.length_cons,List.length_nil];omega
  · have hc:blameC ts n=0∨blameC ts n=7:=by unfold blameC;split;exact .inl rfl;exact .inr rfl
    have:=codeP_len (c:=blameC ts n) (by omega) (by omega);omega
theorem bmerge_path (hf:∀ t∈ts,fault t=0) (o x y:Int) (h12:(bmergeP ts o x y).2.2=12):(∀ k∈(bmergeP ts o x y).2.1,0≤k∧k < 40)∧(bmergeP ts o x y).2.1.length≤40:=by
  unfold bmergeP at h12 ⊢
  by_cases ha:(hasT ts o && hasT ts x && hasT ts y)=true
  · rw [if_pos ha] at h12 ⊢
    simp only [Bool.and_eq_true] at ha
    obtain ⟨u,hu⟩:=((merge_clash _ _ _).1 h12).2.1
    obtain ⟨h1,h2⟩:=at_short _ _ _ hu
    have hs:=(fault_parts (getT_fault hf ha.1.1)).1
    exact ⟨fun k hk=>by have:=h1 k hk;omega,by omega⟩
  · rw [if_neg ha] at h12;cases h12
theorem bmerge_code (ts:List Tr) (o x y:Int):(bmergeP ts o x y).2.2≤12:=by
  unfold bmergeP
  split
  · unfold mergeT
    have f1:=fault_few (getT ts o);have f2:=fault_few (getT ts x);have f3:=fault_few (getT ts y)
    split
    · simp only [];omega
    · split
      · simp only [];omega
      · split
        · simp only [];omega
        · split
          · exact Nat.le_refl _
          · rename_i t ht
            have f4:=fault_few t
            split
            · simp only [];omega
            · simp
  · decide
theorem mergeDP_len (hf:∀ t∈ts,fault t=0) (hn:ts.length≤30) (o x y:Int):(mergeDP ts o x y).2.length≤2000:=by
  have hc:=bmerge_code ts o x y
  unfold mergeDP
  split
  · rename_i h12
    obtain ⟨h1,h2⟩:=bmerge_path hf o x y (by omega)
    have h3:=pathT_le (bmergeP ts o x y).2.1 (fun k hk=>by have:=h1 k hk;omega)
    simp only []
    rw [say2_len];simp only [wClash,List.length_cons,List.length_nil];omega
  · split
    · have:=codeP_len (c:=((bmergeP ts o x y).2.2:Nat)) (by omega) (by omega);simp only [];omega
    · have:=keepP_len hn (bmergeP ts o x y).1;omega
theorem doP_len (hn:ts.length≤30) (n:Int) (s:List UInt8):(doP ts n s).2.length≤100:=by
  have h1:=deed_code s
  have h2:=bwith_code ts n (deedIn s).1
  unfold doP
  split
  · exact codeP_len (by omega) (by omega)
  · split
    · exact codeP_len (by omega) (by omega)
    · exact keepP_len hn _
theorem manyP_len (hf:∀ t∈ts,fault t=0) (hn:ts.length≤30):(manyP ts).length≤100:=by
  have hc:=cntD_le hf hn ts.length
  rw [List.take_length] at hc
  have h1:=Lib.itoa_length_le (ts.length:Int) (by omega) (by omega)
  have h2:=Lib.itoa_length_le ((cntD ts:Nat):Int) (by omega) (by omega)
  unfold manyP
  rw [say3_len];simp only [wMany,List.length_cons,List.length_nil];omega
theorem askP_len (hf:∀ t∈ts,fault t=0) (hn:ts.length≤30) (word:List UInt8) (ns:List Int):∀ q,askP ts word ns=some q→q.2.length≤300000:=by
  intro q hq
  unfold askP at hq
  split at hq
  · split at hq
    · cases hq;have:=manyP_len hf hn;simp only [];omega
    · cases hq
  · split at hq
    · cases hq;have:=showP_len hf (ts:=ts);simp only [];have:=this ‹Int›;omega
    · split at hq
      · cases hq;have:=stepDP_len hf (ts:=ts);simp only [];have:=this ‹Int›;omega
      · split at hq
        · cases hq;have:=blameDP_len hf hn (ts:=ts);simp only [];have:=this ‹Int›;omega
        · cases hq
  · rename_i a b
    split at hq
    · cases hq;have:=diffDP_len hf a b;simp only [];omega
    · cases hq
  · rename_i a b c
    split at hq
    · cases hq;have:=mergeDP_len hf hn a b c;omega
    · cases hq
  · cases hq
theorem what_len:(sayP [wWhat]).length≤300000:=by rw [say1_len];decide
theorem askLine_len (hf:∀ t∈ts,fault t=0) (hn:ts.length≤30) (s:List UInt8):(askLine ts s).2.length≤300000:=by
  unfold askLine
  split
  · simp
  · split
    · exact what_len
    · split
      · rename_i q hq;exact askP_len hf hn _ _ _ hq
      · exact what_len
theorem lineD_len (hf:∀ t∈ts,fault t=0) (hn:ts.length≤30) (s:List UInt8) (hs:s.length≤100000):(lineD ts s).2.length≤300000:=by
  have h1:=restW_len s
  unfold lineD
  split
  · have:=addP_len hn (restW s) (by omega);omega
  · split
    · split
      · have:=doP_len hn ‹Int› (restW (restW s));omega
      · exact askLine_len hf hn s
    · exact askLine_len hf hn s
end
end Go.Proofs.YtdbnfhpgmcjngabGreatDoor
/- Walks: a desk at rest; how its text begins anew, and how it is told. -/
namespace Go.Proofs.YtdbnfhpgmcjngabGreatDoor
open Go Go.RowKit
structure DeskRest (X:Nat→Prop) (base:Nat) (w:World) (M B:Nat) (vb:Value) (ts:List Tr):Prop where
  hdr:∃ p v,w.heap[M]? = some (.cells (#[p,v] ++ #[.pointer (some ⟨B,0,none⟩)]) 40 (0,0))
  book:BookOk (fun k=>k=M∨X k) w B vb ts
  le:base≤M
  out:¬ X M
  lt:∀ k,X k→k < w.heap.size
  le2:base≤B
  lv:∃ w0,Lv w0∧w0.heap.size≤base∧Pr w0 w
abbrev RX (M B:Nat) (vb:Value):Nat→Prop:=fun k=>k=M∨(k=B∨vb.ownBlock=some k)
section
variable {X:Nat→Prop} {base:Nat} {w w':World} {M B:Nat} {vb vr:Value} {l:List UInt8} {ts:List Tr}
theorem DeskRest.pr (h:DeskRest X base w M B vb ts) (hp:Pr w w'):DeskRest X base w' M B vb ts:=by
  obtain ⟨p,v,hM⟩:=h.hdr
  exact ⟨⟨p,v,hp.blk hM⟩,h.book.pr hp,h.le,h.out,fun k hk=>Nat.lt_of_lt_of_le (h.lt k hk) hp.size,h.le2,h.lv.imp fun _ h=>⟨h.1,h.2.1,h.2.2.trans hp⟩⟩
theorem DeskRest.chg {Y:Nat→Prop} (h:DeskRest X base w M B vb ts) (hc:Chg Y w w') (hY:∀ k,Y k→X k∨w.heap.size≤k) (hb:∀ k,Y k→base≤k):DeskRest X base w' M B vb ts:=by
  obtain ⟨p,v,hM⟩:=h.hdr
  obtain ⟨w0,g1,g2,g3⟩:=h.lv
  have hm:=blk_lt hM
  refine ⟨⟨p,v,hc.blk hM (fun hy=>by rcases hY M hy with e | e;exact h.out e;omega)⟩,h.book.chg hc (fun k hk=>(hY k hk).imp .inr id) (fun k hk=>.inl hk),h.le,h.out,fun k hk=>Nat.lt_of_lt_of_le (h.lt k hk) hc.size,h.le2,w0,g1,g2,hc.over g3 fun k hk=>?_⟩
  have:=hb k hk;omega
theorem DeskRest.tab (h:DeskRest X base w M B vb ts):Lv w:=by
  obtain ⟨w0,h1,_,h3⟩:=h.lv
  exact h1.pr h3
set_option maxRecDepth 100000 in
theorem reset_any (h:DeskRest X base w M B vb ts) :
    Calls Tryz.prog 10 #[.pointer (some ⟨M,0,none⟩)] w fun e w'=>e=.returned (.tuple #[])∧DeskOk X base w' M B vb (.slice none 0 0) [] ts∧Chg (fun k=>k=M) w w':=by
  obtain ⟨p,v,hM⟩:=h.hdr
  have c0:w.cell? ⟨M,0,none⟩=some p:=blk_cell (o:=0) hM
  have c1:w.cell? ⟨M,1,none⟩=some v:=bcell1 hM
  have f0:w.frozen? ⟨M,0,none⟩=false:=blk_frozen hM
  have f1:w.frozen? ⟨M,1,none⟩=false:=blk_frozen hM
  obtain ⟨w',hw'⟩:∃ w',w'=(w.setCell ⟨M,0,none⟩ (.pointer none)).setCell ⟨M,1,none⟩ (.slice none 0 0):=⟨_,rfl⟩
  have hc:Chg (fun k=>k=M) w w':=by rw [hw'];exact Chg.setCell (Chg.setCell (Chg.refl (fun k=>k=M) w) _ _ (.inl rfl)) _ _ (.inl rfl)
  have hM':w'.heap[M]? = some (.cells (#[.pointer none,.slice none 0 0] ++ #[.pointer (some ⟨B,0,none⟩)]) 40 (0,0)):=by rw [hw'];exact bset1 (bset0 hM _) _
  have D:Hid (DeskOk X base w' M B vb (.slice none 0 0) [] ts):=Lib.hid (by
    obtain ⟨w0,g1,g2,g3⟩:=h.lv
    refine ⟨⟨_,.inl rfl,hM'⟩,World.ownsRow_nil _ _ _ _,by simp [Value.ownBlock],h.book.chg hc (fun k hk=>.inl (.inl hk)) (fun k hk=>?_),h.le,⟨h.out,fun k hk=>by cases hk⟩,fun k hk=>Nat.lt_of_lt_of_le (h.lt k hk) hc.size,h.le2,⟨w0,g1,g2,hc.over g3 fun k hk=>?_⟩,fun _=>rfl⟩
    · rcases hk with (hk | hk) | hk
      · exact .inl (.inl hk)
      · cases hk
      · exact .inl (.inr hk)
    · have e:k=M:=hk
      have:=h.le;omega)
  have HC:=Lib.hid hc
  clear h hM hc hM'
  go_enter Tryz.func10,Tryz.ntmps10
  go_wp2
  go_end0
  rw [← hw']
  exact ⟨rfl,D.out,HC.out⟩
theorem chg_freeze {Y:Nat→Prop} {a u:World} (h:Chg Y a u) {p:Addr} (hp:Y p.block) (n:Nat):Chg Y a (u.freeze p n):=by
  refine h.trans (Y:=Y) ?_ (fun _ h=>.inl h)
  unfold World.freeze
  split
  · exact Chg.refl _ _
  · exact ⟨rfl,rfl,rfl,by simp,fun k hk hn=>by
      simp only [Array.getElem?_modify]
      rw [if_neg (fun e:p.block=k=>hn (e ▸ hp))]⟩
set_option maxRecDepth 100000 in
set_option maxHeartbeats 2000000 in
theorem dread_any (h:DeskOk X base w M B vb vr l ts) :
    Calls Tryz.prog 12 #[.pointer (some ⟨M,0,none⟩)] w fun e w'=>e=.returned (.string ⟨⟨l⟩⟩)∧Chg (fun k=>vr.ownBlock=some k) w w':=by
  obtain ⟨p,hpp,hb⟩:=h.hdr
  by_cases h0:l=[]
  · have hv:=h.nil h0
    rw [h0]
    rw [hv] at hb
    exact (bread_none 40 #[.pointer (some ⟨B,0,none⟩)] M w p hb).mono fun e w' ⟨h1,h2⟩=>⟨h1,h2.chg _⟩
  have hl0:l.length≠0:=by simpa using h0
  obtain ⟨g,cap,cur,rfl,hbg,hg,hnc,hcm,hcs,htake⟩:∃ g cap cur,vr=.slice (some ⟨g,0,none⟩) l.length cap∧base≤g∧w.heap[g]? = some (.cells cur 5 (0,0))∧l.length≤cap∧cap≤maxLen∧cur.size=cap * 1∧cur.toList.take (l.length * 1)=Lib.byteCells l:=by
    rcases h.row.2 with ⟨_,hz⟩ | ⟨g,cap,cur,hv,r⟩
    · exact absurd hz hl0
    · exact ⟨g,cap,cur,hv,r⟩
  have c1:w.drew.cell? ⟨M,1,none⟩=some (.slice (some ⟨g,0,none⟩) l.length cap):=bcell1 hb
  have hSD:(Builtin.unsafeSliceData_ #[36] 62 #[.slice (some ⟨g,0,none⟩) l.length cap]).run Tryz.prog w.drew=.ok (.pointer (some ⟨g,0,none⟩)) w.drew :=
    Lib.run_unsafeSliceData_row _ _ _ _ _ _ (by omega)
  have hUS:(Builtin.unsafeString_ #[62,3] 9 #[.pointer (some ⟨g,0,none⟩),.int .i64 l.length]).run Tryz.prog w.drew=.ok (.string ⟨⟨l⟩⟩) (w.drew.freeze ⟨g,0,none⟩ l.length):=by
    refine Lib.run_unsafeString_row w.drew 62 3 9 5 bu_ptrByte bc_byte g cur.size (by have hg':w.drew.heap[g]? = some (.cells cur 5 (0,0)):=hg;simp [World.shape?,hg']) l h0 (by omega) (by unfold maxLen at hcm;omega) ?_
    intro j x hx
    obtain ⟨hj,rfl⟩:=List.getElem?_eq_some_iff.1 hx
    rw [Addr.add_lit,Nat.zero_add]
    have h1:cur[j]? = some (.int .u8 l[j].toNat):=by
      have h2:(cur.toList.take (l.length * 1))[j]? = some (.int .u8 l[j].toNat):=by rw [htake];simp [Lib.byteCells,hj]
      rw [List.getElem?_take] at h2
      split at h2
      · simpa using h2
      · cases h2
    show w.cell? ⟨g,j,none⟩=_
    rw [blk_cell hg];exact h1
  have hfin:Chg (fun k=>(Value.slice (some ⟨g,0,none⟩) l.length cap).ownBlock=some k) w (w.drew.freeze ⟨g,0,none⟩ l.length):=chg_freeze ((Pr.drew w).chg _) (by rfl) _
  have Hfin:=Lib.hid hfin
  clear hfin hb hg htake hnc hcm hcs h
  go_enter Tryz.func12,Tryz.ntmps12
  go_wp2
  go_region
  all_goals (go_wp2;go_ret;exact ⟨rfl,Hfin.out⟩)
theorem DeskOk.rest (h:DeskOk X base w M B vb vr l ts) (hc:Chg (fun k=>vr.ownBlock=some k) w w'):DeskRest X base w' M B vb ts:=by
  obtain ⟨p,_,hM⟩:=h.hdr
  obtain ⟨w0,g1,g2,g3⟩:=h.lv
  exact ⟨⟨p,vr,hc.blk hM h.ne⟩,h.book.chg hc (fun k hk=>.inl (.inl (.inr hk))) (fun k hk=>.inl (hk.imp .inl id)),h.le,h.out.1,fun k hk=>Nat.lt_of_lt_of_le (h.lt k hk) hc.size,h.le2,w0,g1,g2,hc.over g3 fun k hk=>by have:=(h.row.lt k hk).1;omega⟩
end
end Go.Proofs.YtdbnfhpgmcjngabGreatDoor
/- Walks: a desk's Do. -/
namespace Go.Proofs.YtdbnfhpgmcjngabGreatDoor
open Go Go.RowKit
section
variable {X:Nat→Prop} {base:Nat} {w w':World} {M B:Nat} {vb vr:Value} {l:List UInt8} {ts:List Tr}
theorem DeskRest.more {X':Nat→Prop} (h:DeskRest X base w M B vb ts) (hp:Pr w w') (hX:∀ k,X' k→X k∨w.heap.size≤k) (hl:∀ k,X' k→k < w'.heap.size):DeskRest X' base w' M B vb ts:=by
  obtain ⟨p,v,hM⟩:=h.hdr
  have hm:=blk_lt hM
  exact ⟨⟨p,v,hp.blk hM⟩,h.book.chg (hp.chg (fun _=>False)) (fun _ hk=>hk.elim) (fun k hk=>by
    rcases hk with e | e
    · exact .inl (.inl e)
    · exact (hX k e).imp .inr id),h.le,fun hx=>by rcases hX M hx with e | e;exact h.out e;omega,hl,h.le2,h.lv.imp fun _ h=>⟨h.1,h.2.1,h.2.2.trans hp⟩⟩
theorem DeskRest.less {X':Nat→Prop} (h:DeskRest X base w M B vb ts) (hX:∀ k,X' k→X k):DeskRest X' base w M B vb ts :=
  ⟨h.hdr,h.book.chg (Chg.refl (fun _=>False) w) (fun _ hk=>hk.elim) (fun k hk=>.inl (hk.imp id (hX k))),h.le,fun hx=>h.out (hX M hx),fun k hk=>h.lt k (hX k hk),h.le2,h.lv⟩
def DDoPost (X:Nat→Prop) (base:Nat) (w:World) (M B:Nat) (vb:Value) (r:Told) (e:Ending) (w':World):Prop :=
  e=.returned (.tuple #[.string ⟨⟨r.2⟩⟩,.agg #[.int .i64 0,.int .i64 0]])∧r.2.length≤45000000∧∃ vb',DeskRest X base w' M B vb' r.1∧Chg (RX M B vb) w w'∧∀ k,vb'.ownBlock=some k→vb.ownBlock=some k∨w.heap.size≤k
set_option maxRecDepth 100000 in
set_option maxHeartbeats 6400000 in
theorem do_good (h:DeskRest X base w M B vb ts) (xs:List (List UInt8)) (oa cap) (hst:Strs (fun k=>k < w.heap.size∧¬ RX M B vb k) w xs oa cap) (hsz:∀ x∈xs,x.length≤100000) (hn:xs.length≤150) (hnl:∀ x∈xs,(10:UInt8) ∉ x) :
    Calls Tryz.prog 7 #[.pointer (some ⟨M,0,none⟩),.slice oa xs.length cap] w (DDoPost X base w M B vb (linesD ts xs)):=by
  obtain ⟨W,hW⟩:∃ W,W=w.alloc (.cells #[.int .i64 0,.int .i64 0] 29):=⟨_,rfl⟩
  have hwW:Pr w W:=by rw [hW];exact Pr.alloc _ _
  have hWs:W.heap.size=w.heap.size+1:=by rw [hW];simp
  have hbox:W.heap[w.heap.size]? = some (.cells #[.int .i64 0,.int .i64 0] 29 (0,0)):=by rw [hW];exact heap_alloc_new w _
  obtain ⟨p9,v9,hM⟩:=h.hdr
  have hMl:=blk_lt hM
  have hBl:=h.book.lt
  have D0:DeskRest (fun k=>X k∨k=w.heap.size) base W M B vb ts:=h.more hwW (fun k hk=>hk.imp id (fun e=>by omega)) (fun k hk=>by rcases hk with e | e;have:=h.lt k e;omega;omega)
  have hstW:=Flat.pr hwW hst
  have NL:Hid (∀ u,Pr W u→∀ i (hi:i < xs.length),Calls Tryz.prog 9 #[.string ⟨⟨xs[i]⟩⟩,.string ⟨#[10]⟩] u fun e w'=>e=.returned (.bool false)∧Pr u w'):=Lib.hid fun u hp i hi=>by
    have hx:=hsz xs[i] (List.getElem_mem hi)
    have:=newline_any ⟨⟨xs[i]⟩⟩ u (by rw [← sizeL];show (xs[i]).length < _;omega) (D0.tab.pr hp)
    rw [decide_eq_false (hnl _ (List.getElem_mem hi))] at this
    exact this
  have RS:=Lib.hid fun u (hp:Pr W u)=>reset_any (D0.pr hp)
  have hd0:decide ((150:Int) < (xs.length:Int))=false:=by simp;omega
  have hxl:xs.length≤9223372036854775807:=by omega
  have HS:=Lib.hid hstW;have HW:=Lib.hid hwW;have HWs:=Lib.hid hWs;have Hbox:=Lib.hid hbox;have Hsz:=Lib.hid hsz
  have HMl:=Lib.hid hMl;have HBl:=Lib.hid hBl;have HD0:=Lib.hid D0
  clear hst hwW hWs hbox D0 h hM hnl hstW hsz
  go_enter Tryz.func7,Tryz.ntmps7
  go_upto_region 1 with fail
  rw [← hW];clear hW
  go_wp2_with fail
  go_loopw [16] (fun v16 wr=>∃ i:Nat,i≤xs.length∧v16=.int .i64 i∧Pr W wr) (fun v16 _=>xs.length - (intOf v16).toNat)
  case atStart=>exact ⟨0,by omega,rfl,Pr.refl _⟩
  case round =>
    obtain ⟨i,hi,rfl,hb⟩:=hrel
    have Hb:=Lib.hid hb
    by_cases hlt:i < xs.length
    case pos =>
      obtain ⟨bk,o,e1,c0⟩:=Strs.get (Flat.pr hb HS.out) i hlt
      subst e1
      have N1:=Lib.hid (NL.out wr hb i hlt)
      generalize (⟨⟨xs[i]⟩⟩:ByteArray)=s at *
      clear hb
      go_wp2_with (go_at_call 9;(with_reducible refine Calls.mono N1.out ?_);rintro e w3 ⟨rfl,hp3⟩)
      refine ⟨⟨i+1,by omega,by go_num,Hb.out.trans hp3⟩,?_⟩
      simp [intOf];omega
    case neg =>
      have hie:i=xs.length:=by omega
      have R1:=Lib.hid (RS.out wr hb)
      have hboxr:=hb.blk Hbox.out
      have hsr:=hb.size
      clear hb NL RS
      go_upto_region 10 with (go_at_call 10;(with_reducible refine Calls.mono R1.out ?_);rintro e w2 ⟨rfl,hD2,hc2⟩)
      have hboxw:w.heap.size≠M:=by have:=HMl.out;omega
      have hbox2:=hc2.blk hboxr hboxw
      have hs2:=hc2.size
      have hst2:Strs (fun k=>¬ DX M B vb (.slice none 0 0) k) w2 xs oa cap:=(Flat.pr Hb.out HS.out).carry fun k hk hl=>⟨hc2.block k hl (fun e=>hk.2 (.inl e)),by
        rintro ((e | e) | e)
        · exact hk.2 (.inl e)
        · cases e
        · exact hk.2 (.inr e)⟩
      have hbM:¬ DX M B vb (.slice none 0 0) w.heap.size:=by
        rintro ((e | e) | (e | e))
        · exact hboxw e
        · cases e
        · have:=HBl.out.1;omega
        · have:=(HBl.out.2 _ e).2;omega
      have R2:=Lib.hid (DeskPost.refl hD2)
      have HST:=Lib.hid hst2
      have LN:Hid (∀ u i (hi:i < xs.length),DeskPost (fun k=>X k∨k=w.heap.size) base w2 M B vb (.slice none 0 0) (linesD ts (xs.take i)).2 (linesD ts (xs.take i)).1 u→(linesD ts (xs.take i)).2.length≤300000 * i→Calls Tryz.prog 11 #[.pointer (some ⟨M,0,none⟩),.string ⟨⟨xs[i]⟩⟩] u fun e w'=>e=.returned (.tuple #[])∧(DeskPost (fun k=>X k∨k=w.heap.size) base w2 M B vb (.slice none 0 0) (linesD ts (xs.take (i+1))).2 (linesD ts (xs.take (i+1))).1 w'∧(linesD ts (xs.take (i+1))).2.length≤300000 * (i+1))):=Lib.hid fun u i hi hd hlen=>by
        have hx:=Hsz.out xs[i] (List.getElem_mem hi)
        obtain ⟨v1,v2,hdd,_⟩:=id hd
        have hl1:=lineD_len hdd.book.flt hdd.book.few xs[i] hx
        have h3:linesD ts (xs.take (i+1))=((lineD (linesD ts (xs.take i)).1 xs[i]).1,(linesD ts (xs.take i)).2 ++ (lineD (linesD ts (xs.take i)).1 xs[i]).2):=by rw [List.take_succ_eq_append_getElem hi,linesD_snoc]
        have h4:=congrArg Prod.fst h3
        have h5:=congrArg Prod.snd h3
        simp only [] at h4 h5
        rw [h4,h5]
        clear h3 h4 h5 hdd
        obtain ⟨s,hs⟩:∃ s:ByteArray,s=⟨⟨xs[i]⟩⟩:=⟨_,rfl⟩
        have hsd:s.data.toList=xs[i]:=by rw [hs]
        rw [← hs]
        rw [← hsd] at hl1 hx ⊢
        clear hs hsd
        generalize (linesD ts (xs.take i)).1=T at *
        generalize (linesD ts (xs.take i)).2=L at *
        have hK:Calls Tryz.prog 11 #[.pointer (some ⟨M,0,none⟩),.string s] u fun e w'=>e=.returned (.tuple #[])∧DeskPost (fun k=>X k∨k=w.heap.size) base w2 M B vb (.slice none 0 0) (L ++ (lineD T s.data.toList).2) (lineD T s.data.toList).1 w' :=
          hd.call fun vb' vr' hd'=>dline_any hd' s (by rw [← sizeL];exact hx) (by omega)
        exact hK.mono fun e w' ⟨h1,h2⟩=>⟨h1,h2,by rw [List.length_append];omega⟩
      have HC:Hid (Chg (RX M B vb) w w2):=Lib.hid (((HW.out.trans Hb.out).chg _).trans hc2 (fun k hk=>.inl (.inl hk)))
      clear R1 hst2 HS hboxr
      have Hc2:=Lib.hid hc2;have Hs2:=Lib.hid hs2;have Hbox2:=Lib.hid hbox2;have HbM:=Lib.hid hbM;have Hsr:=Lib.hid hsr
      clear hc2 hs2 hbox2 hbM hsr hboxw hD2 Hbox
      go_wp2_with fail
      go_loopw [32] (fun v32 wr=>∃ i:Nat,i≤xs.length∧v32=.int .i64 i∧DeskPost (fun k=>X k∨k=w.heap.size) base w2 M B vb (.slice none 0 0) (linesD ts (xs.take i)).2 (linesD ts (xs.take i)).1 wr∧(linesD ts (xs.take i)).2.length≤300000 * i) (fun v32 _=>xs.length - (intOf v32).toNat)
      case atStart=>exact ⟨0,by omega,rfl,R2.out,by simp [linesD]⟩
      case round =>
        obtain ⟨j,hj,rfl,hd,hdl⟩:=hrel
        have Hd:=Lib.hid hd;have Hdl:=Lib.hid hdl
        by_cases hlt:j < xs.length
        case pos =>
          have hcd:Strs Any wr xs oa cap:=by
            obtain ⟨_,_,_,hc,_⟩:=hd
            exact HST.out.carry fun k hk hl=>⟨hc.block k hl hk,trivial⟩
          obtain ⟨bk,o,e1,c0⟩:=Strs.get hcd j hlt
          subst e1
          have L1:=Lib.hid (LN.out wr j hlt hd hdl)
          generalize (⟨⟨xs[j]⟩⟩:ByteArray)=s at *
          clear hd hdl hcd
          go_wp2_with (go_at_call 11;(with_reducible refine Calls.mono L1.out ?_);rintro e w3 ⟨rfl,hd3,hl3⟩)
          refine ⟨⟨j+1,by omega,by go_num,hd3,hl3⟩,?_⟩
          simp [intOf];omega
        case neg =>
          have hje:j=xs.length:=by omega
          rw [hje,List.take_length] at hd
          obtain ⟨vb',vr',hdd,hc,ho1,ho2⟩:=hd
          have ST:=Lib.hid (dread_any hdd)
          have hboxe:=hc.blk Hbox2.out HbM.out
          have hne:vr'.ownBlock≠some w.heap.size:=fun e=>hdd.out.2 _ e (.inr rfl)
          have FIN:Hid (∀ u u',Chg (fun k=>vr'.ownBlock=some k) wr u→u'=(u.setCell ⟨w.heap.size,0,none⟩ (.int .i64 0)).setCell ⟨w.heap.size,1,none⟩ (.int .i64 0)→∃ vb',DeskRest X base u' M B vb' (linesD ts xs).1∧Chg (RX M B vb) w u'∧∀ k,vb'.ownBlock=some k→vb.ownBlock=some k∨w.heap.size≤k):=Lib.hid fun u u' hu hu'=>by
            have g1:=hdd.rest hu
            have hss:=Hs2.out;have hsr:=Hsr.out;have hws:=HWs.out
            have hc5:Chg (fun k=>k=w.heap.size) u u':=by rw [hu'];exact Chg.setCell (Chg.setCell (Chg.refl (fun k=>k=w.heap.size) u) _ _ (.inl rfl)) _ _ (.inl rfl)
            have g2:=g1.chg hc5 (fun k hk=>.inl (.inr hk)) (fun k hk=>by
              have e:k=w.heap.size:=hk
              have:=g1.le;have:=HMl.out;omega)
            refine ⟨vb',g2.less fun k hk=>.inl hk,?_,fun k hk=>(ho2 k hk).imp id (fun h=>by omega)⟩
            refine ((HC.out.trans hc fun k hk=>?_).trans hu fun k hk=>?_).trans hc5 fun k hk=>.inr (by have e:k=w.heap.size:=hk;omega)
            · rcases hk with (e | e) | e
              · exact .inl (.inl e)
              · cases e
              · exact .inl (.inr e)
            · rcases ho1 k hk with e | e
              · cases e
              · exact .inr (by omega)
          clear hdd hc ho1 ho2 LN
          have b0:wr.cell? ⟨w.heap.size,0,none⟩=some (.int .i64 0):=blk_cell (o:=0) hboxe
          have b1:wr.cell? ⟨w.heap.size,1,none⟩=some (.int .i64 0):=blk_cell (o:=1) hboxe
          go_wp2_with (go_at_call 12;(with_reducible refine Calls.mono ST.out ?_);rintro e w5 ⟨rfl,hc5⟩;have hbox5:=hc5.blk hboxe hne;have b0:=blk_cell (o:=0) hbox5;have b1:=blk_cell (o:=1) hbox5;have f0:=blk_frozen (o:=0) hbox5;have f1:=blk_frozen (o:=1) hbox5)
          have fb:=set2 (.int .i64 0) (.int .i64 0) hbox5
          have r0:=blk_cell (o:=0) fb;have r1:=blk_cell (o:=1) fb
          refine bodyPost_ret (v:=.tuple #[.string ⟨⟨(linesD ts xs).2⟩⟩,.agg #[.int .i64 0,.int .i64 0]]) (by simp [results,Tryz.results7,go_sem,r0,r1]) rfl ?_
          exact ⟨rfl,by have:=Hdl.out;rw [hje,List.take_length] at this;omega,FIN.out _ _ hc5 rfl⟩
set_option maxRecDepth 100000 in
set_option maxHeartbeats 6400000 in
theorem do_bad (hw:Lv w) (xs:List (List UInt8)) (oa cap) (hst:Strs Any w xs oa cap) (hsz:∀ x∈xs,x.length≤100000) (hn:xs.length≤150) (hnl:¬ ∀ x∈xs,(10:UInt8) ∉ x) :
    Calls Tryz.prog 7 #[.pointer (some ⟨M,0,none⟩),.slice oa xs.length cap] w fun e w'=>(∃ i:Int,e=.returned (.tuple #[.string ⟨#[]⟩,.agg #[.int .i64 14,.int .i64 i]]))∧Pr w w':=by
  obtain ⟨W,hW⟩:∃ W,W=w.alloc (.cells #[.int .i64 0,.int .i64 0] 29):=⟨_,rfl⟩
  have hwW:Pr w W:=by rw [hW];exact Pr.alloc _ _
  have hbox:W.heap[w.heap.size]? = some (.cells #[.int .i64 0,.int .i64 0] 29 (0,0)):=by rw [hW];exact heap_alloc_new w _
  have hstW:=Flat.pr hwW hst
  have NL:Hid (∀ u,Pr W u→∀ i (hi:i < xs.length),Calls Tryz.prog 9 #[.string ⟨⟨xs[i]⟩⟩,.string ⟨#[10]⟩] u fun e w'=>e=.returned (.bool (decide ((10:UInt8)∈xs[i])))∧Pr u w'):=Lib.hid fun u hp i hi=>by
    have hx:=hsz xs[i] (List.getElem_mem hi)
    exact newline_any ⟨⟨xs[i]⟩⟩ u (by rw [← sizeL];show (xs[i]).length < _;omega) (hw.pr (hwW.trans hp))
  have hd0:decide ((150:Int) < (xs.length:Int))=false:=by simp;omega
  have hxl:xs.length≤9223372036854775807:=by omega
  have HS:=Lib.hid hstW;have HW:=Lib.hid hwW;have Hbox:=Lib.hid hbox;have Hnl:=Lib.hid hnl
  clear hst hwW hbox hnl hstW hsz hw
  go_enter Tryz.func7,Tryz.ntmps7
  go_upto_region 1 with fail
  rw [← hW];clear hW
  go_wp2_with fail
  go_loopw [16] (fun v16 wr=>∃ i:Nat,i≤xs.length∧v16=.int .i64 i∧(∀ j (hj:j < xs.length),j < i→(10:UInt8) ∉ xs[j])∧Pr W wr) (fun v16 _=>xs.length - (intOf v16).toNat)
  case atStart=>exact ⟨0,by omega,rfl,fun _ _ h=>by omega,Pr.refl _⟩
  case round =>
    obtain ⟨i,hi,rfl,hbe,hb⟩:=hrel
    have Hb:=Lib.hid hb;have Hbe:=Lib.hid hbe
    by_cases hlt:i < xs.length
    case neg =>
      exfalso
      refine Hnl.out fun x hx=>?_
      obtain ⟨j,hj,rfl⟩:=List.getElem_of_mem hx
      exact hbe j hj (by omega)
    case pos =>
      obtain ⟨bk,o,e1,c0⟩:=Strs.get (Flat.pr hb HS.out) i hlt
      subst e1
      have N1:=NL.out wr hb i hlt
      have hboxr:=hb.blk Hbox.out
      have b0:=blk_cell (o:=0) hboxr;have b1:=blk_cell (o:=1) hboxr;have f0:=blk_frozen (o:=0) hboxr;have f1:=blk_frozen (o:=1) hboxr
      by_cases hm:(10:UInt8)∈xs[i]
      · rw [decide_eq_true hm] at N1
        have N1:=Lib.hid N1
        generalize (⟨⟨xs[i]⟩⟩:ByteArray)=s at *
        have stay:=Lib.hid hboxr
        clear hb hbe hm hboxr b0 b1 f0 f1
        go_wp2_with (go_at_call 9;(with_reducible refine Calls.mono N1.out ?_);rintro e w3 ⟨rfl,hp3⟩;have hbox3:=hp3.blk stay.out;have b0:=blk_cell (o:=0) hbox3;have b1:=blk_cell (o:=1) hbox3;have f0:=blk_frozen (o:=0) hbox3;have f1:=blk_frozen (o:=1) hbox3)
        have fb:=set2 (.int .i64 14) (.int .i64 (i:Int)) hbox3
        have r0:=blk_cell (o:=0) fb;have r1:=blk_cell (o:=1) fb
        refine bodyPost_ret (v:=.tuple #[.string ⟨#[]⟩,.agg #[.int .i64 14,.int .i64 (i:Int)]]) (by simp [results,Tryz.results7,go_sem,r0,r1]) rfl ?_
        exact ⟨⟨_,rfl⟩,((HW.out.trans (Hb.out.trans hp3)).setCell (Nat.le_refl _) _).setCell (Nat.le_refl _) _⟩
      · rw [decide_eq_false hm] at N1
        have N1:=Lib.hid N1
        have Hm:Hid (∀ j (hj:j < xs.length),j < i+1→(10:UInt8) ∉ xs[j]):=Lib.hid fun j hj h=>by
          by_cases hji:j=i
          · subst hji;exact hm
          · exact hbe j hj (by omega)
        generalize (⟨⟨xs[i]⟩⟩:ByteArray)=s at *
        clear hb hbe hm hboxr b0 b1 f0 f1
        go_wp2_with (go_at_call 9;(with_reducible refine Calls.mono N1.out ?_);rintro e w3 ⟨rfl,hp3⟩)
        refine ⟨⟨i+1,by omega,by go_num,Hm.out,Hb.out.trans hp3⟩,?_⟩
        simp [intOf];omega
end
end Go.Proofs.YtdbnfhpgmcjngabGreatDoor
/- Plain: what a desk that has just begun tells. No program here. -/
namespace Go.Proofs.YtdbnfhpgmcjngabGreatDoor
def begunL:List (List UInt8):=[[116,114,101,101,32,97,40,98,41],[100,111,32,48,32,110,97,109,101,32,48,32,99],[100,105,102,102,32,48,32,49],[98,108,97,109,101,32,49],[109,101,114,103,101,32,48,32,48,32,49],[115,104,111,119,32,50],[109,97,110,121],[120]]
def begunS:List UInt8:=[107,101,112,116,32,48,10,107,101,112,116,32,49,10,99,111,115,116,32,49,10,110,97,109,101,32,48,32,99,10,101,110,100,10,115,105,110] ++ [99,101,32,48,32,48,10,107,101,112,116,32,50,10,116,114,101,101,32,97,40,99,41,10,109,97,110,121,32,51,32,49,10,119,104,97,116,10]
set_option maxRecDepth 1000000 in
theorem begun_tells:(linesD [] begunL).2=begunS:=by decide +kernel
end Go.Proofs.YtdbnfhpgmcjngabGreatDoor
/- Walks: a new desk; deskBegun; slow. -/
namespace Go.Proofs.YtdbnfhpgmcjngabGreatDoor
open Go Go.RowKit
def NewPost (X:Nat→Prop) (w:World) (e:Ending) (w':World):Prop :=
  ∃ M B,e=.returned (.pointer (some ⟨M,0,none⟩))∧((w.heap.size≤M∧w.heap.size≤B)∧(M≠B∧M < w'.heap.size∧B < w'.heap.size))∧DeskRest X w.heap.size w' M B (.slice none 0 0) []∧Pr w w'
set_option maxRecDepth 100000 in
theorem dnew_any (X:Nat→Prop) (w:World) (hw:Lv w) (hX:∀ k,X k→k < w.heap.size):Calls Tryz.prog 6 #[] w (NewPost X w):=by
  have N1:=Lib.hid (new_any (fun k=>w.heap.size < k∨X k) w (by rintro (h | h);omega;have:=hX _ h;omega))
  have Hw:=Lib.hid hw;have HX:=Lib.hid hX
  clear hw hX
  go_enter Tryz.func6,Tryz.ntmps6
  go_wp2_with (go_at_call 8;(with_reducible refine Calls.mono N1.out ?_);rintro e w1 ⟨⟨rfl,hb⟩,hp⟩)
  go_ret
  have hB:=hb.lt.1
  obtain ⟨w2,hw2⟩:∃ w2,w2=w1.alloc (.cells #[.pointer none,.slice none 0 0,.pointer (some ⟨w.heap.size,0,none⟩)] 40):=⟨_,rfl⟩
  have hq:Pr w1 w2:=by rw [hw2];exact Pr.alloc _ _
  have hs2:w2.heap.size=w1.heap.size+1:=by rw [hw2];simp
  have hb2:w2.heap[w1.heap.size]? = some (.cells #[.pointer none,.slice none 0 0,.pointer (some ⟨w.heap.size,0,none⟩)] 40 (0,0)):=by rw [hw2];exact heap_alloc_new w1 _
  rw [← hw2]
  exact ⟨w1.heap.size,w.heap.size,rfl,⟨⟨by omega,Nat.le_refl _⟩,by omega,by omega,by omega⟩,⟨⟨_,_,hb2⟩,(hb.pr hq).chg (Chg.refl (fun _=>False) w2) (fun _ h=>h.elim) (fun k hk=>by rcases hk with e | e;exact .inl (.inl (by omega));exact .inl (.inr e)),by omega,fun h=>by have:=HX.out _ h;omega,fun k h=>by have:=HX.out k h;omega,Nat.le_refl _,w,Hw.out,Nat.le_refl _,hp.trans hq⟩,hp.trans hq⟩
def begunStrs:Array Value:=#[.string ⟨#[116,114,101,101,32,97,40,98,41]⟩,.string ⟨#[100,111,32,48,32,110,97,109,101,32,48,32,99]⟩,.string ⟨#[100,105,102,102,32,48,32,49]⟩,.string ⟨#[98,108,97,109,101,32,49]⟩,.string ⟨#[109,101,114,103,101,32,48,32,48,32,49]⟩,.string ⟨#[115,104,111,119,32,50]⟩,.string ⟨#[109,97,110,121]⟩,.string ⟨#[120]⟩]
set_option maxRecDepth 100000 in
set_option maxHeartbeats 3200000 in
theorem deskBegun_any (w:World) (hw:Lv w):Calls Tryz.prog 4 #[] w fun e w'=>e=.returned (.bool true)∧Pr w w':=by
  have N1:=Lib.hid (dnew_any NoX w hw (fun _ h=>h.elim))
  unfold NewPost at N1
  obtain ⟨s,hs⟩:∃ s:ByteArray,s=⟨⟨begunS⟩⟩:=⟨_,rfl⟩
  have DO:Hid (∀ M B u,((w.heap.size≤M∧w.heap.size≤B)∧(M≠B∧M < u.heap.size∧B < u.heap.size))→DeskRest NoX w.heap.size u M B (.slice none 0 0) []→Pr w u→Calls Tryz.prog 7 #[.pointer (some ⟨M,0,none⟩),.slice (some ⟨u.heap.size,0,none⟩) 8 8] (u.alloc (.cells begunStrs 9)) fun e w'=>e=.returned (.tuple #[.string s,.agg #[.int .i64 0,.int .i64 0]])∧Pr w w'):=Lib.hid fun M B u hMB hr hp=>by
    have hst:Strs (fun k=>k < (u.alloc (.cells begunStrs 9)).heap.size∧¬ RX M B (.slice none 0 0) k) (u.alloc (.cells begunStrs 9)) begunL (some ⟨u.heap.size,0,none⟩) 8:=by
      refine Flat.mk (by decide) (by decide) ⟨by simp,?_⟩ fun i hi=>?_
      · rintro (e | e | e)
        · omega
        · omega
        · cases e
      · match i,hi with
        | 0,_=>simp [go_sem,begunStrs];rfl
        | 1,_=>simp [go_sem,begunStrs];rfl
        | 2,_=>simp [go_sem,begunStrs];rfl
        | 3,_=>simp [go_sem,begunStrs];rfl
        | 4,_=>simp [go_sem,begunStrs];rfl
        | 5,_=>simp [go_sem,begunStrs];rfl
        | 6,_=>simp [go_sem,begunStrs];rfl
        | 7,_=>simp [go_sem,begunStrs];rfl
    have K:=do_good (hr.pr (Pr.alloc u (.cells begunStrs 9))) begunL (some ⟨u.heap.size,0,none⟩) 8 hst (by decide) (by decide) (by decide)
    rw [show begunL.length=8 from rfl] at K
    refine K.mono ?_
    rintro e w' ⟨he,_,vb',_,hc,_⟩
    rw [begun_tells,← hs] at he
    refine ⟨he,hc.over (hp.alloc' _) fun k hk=>?_⟩
    rcases hk with e | e | e
    · omega
    · omega
    · cases e
  have hsl:s.toList=begunS:=by rw [ByteArray.toList_eq,hs]
  have e1:(s.toList==begunS)=true:=by rw [hsl];exact beq_self_eq_true _
  unfold begunS at e1
  unfold begunStrs at DO
  clear hs hsl
  go_enter Tryz.func4,Tryz.ntmps4
  go_wp2_with (first
    | (go_at_call 6;(with_reducible refine Calls.mono N1.out ?_);rintro e w1 ⟨M,B,rfl,hMB,hr,hp⟩)
    | (go_at_call 7;(with_reducible refine Calls.mono (DO.out _ _ _ hMB hr hp) ?_);rintro e w2 ⟨rfl,hp2⟩))
  go_ret
  exact ⟨congrArg (fun b=>Ending.returned (.bool b)) e1,hp2.alloc' _⟩
theorem slow_any (xs:List (List UInt8)) (oa cap) (w:World) (hst:Strs Any w xs oa cap) (hsz:∀ x∈xs,x.length≤1000000000000000) :
    Calls Tryz.prog 5 #[.slice oa xs.length cap] w fun e w'=>(∃ b,e=.returned (.bool b)∧(b=false→∀ x∈xs,x.length≤100000))∧Pr w w':=by
  have hxl:xs.length≤9223372036854775807:=by have h1:=hst.1.1;have h2:=hst.1.2;rw [List.length_map] at h1;unfold maxLen at h2;omega
  have HS:=Lib.hid hst;have Hsz:=Lib.hid hsz
  clear hst hsz
  go_enter Tryz.func5,Tryz.ntmps5
  go_wp2_with fail
  go_loopw [3,4] (fun v3 v4 wr=>∃ (i n:Nat),i≤xs.length∧v3=.int .i64 n∧v4=.int .i64 i∧n≤9000∧(∀ j (hj:j < xs.length),j < i→(xs[j]).length≤9000)∧Pr w wr) (fun _ v4 _=>xs.length - (intOf v4).toNat)
  case atStart=>exact ⟨0,0,by omega,rfl,rfl,by omega,fun _ _ h=>by omega,Pr.refl _⟩
  case round =>
    obtain ⟨i,n,hi,rfl,rfl,hn9,hbe,hb⟩:=hrel
    have Hb:=Lib.hid hb;have Hbe:=Lib.hid hbe
    by_cases hlt:i < xs.length
    case neg =>
      clear hb hbe
      go_wp2_with fail
      go_ret
      refine ⟨⟨false,rfl,fun _ x hx=>?_⟩,Hb.out⟩
      obtain ⟨j,hj,rfl⟩:=List.getElem_of_mem hx
      have:=Hbe.out j hj (by omega)
      omega
    case pos =>
      obtain ⟨bk,o,e1,c0⟩:=Strs.get (Flat.pr hb HS.out) i hlt
      subst e1
      obtain ⟨s,hs⟩:∃ s:ByteArray,s=⟨⟨xs[i]⟩⟩:=⟨_,rfl⟩
      have hss:s.size=(xs[i]).length:=by rw [← sizeL,hs]
      have hx:=Hsz.out xs[i] (List.getElem_mem hlt)
      have hs2:s.size≤1000000000000000:=by omega
      rw [← hs] at c0
      have Hss:=Lib.hid hss
      by_cases hbig:9000 < n+s.size
      · clear hb hbe hs hss hx
        go_wp2_with fail
        go_ret
        exact ⟨⟨true,rfl,fun h=>by cases h⟩,Hb.out⟩
      · have Hm:Hid (∀ j (hj:j < xs.length),j < i+1→(xs[j]).length≤9000):=Lib.hid fun j hj h=>by
          by_cases hji:j=i
          · subst hji;omega
          · exact hbe j hj (by omega)
        clear hb hbe hs hss hx
        go_wp2_with fail
        refine ⟨⟨i+1,n+s.size,by omega,by go_num,by go_num,by omega,Hm.out,Hb.out⟩,?_⟩
        simp [intOf];omega
end Go.Proofs.YtdbnfhpgmcjngabGreatDoor
/- The law DeskJoins: its walk. -/
namespace Go.Proofs.YtdbnfhpgmcjngabGreatDoor
open Go Go.RowKit
def okL (xs:List (List UInt8)):Prop:=∀ x∈xs,(10:UInt8) ∉ x
instance (xs:List (List UInt8)):Decidable (okL xs):=inferInstanceAs (Decidable (∀ x∈xs,(10:UInt8) ∉ x))
def codeL (xs:List (List UInt8)):Int:=if okL xs then 0 else 14
def outL (ts:List Tr) (xs:List (List UInt8)):List UInt8:=if okL xs then (linesD ts xs).2 else []
def restL (ts:List Tr) (xs:List (List UInt8)):List Tr:=if okL xs then (linesD ts xs).1 else ts
section
variable {X:Nat→Prop} {base:Nat} {w w':World} {M B:Nat} {vb vr:Value} {l:List UInt8} {ts:List Tr}
def DoAll (X:Nat→Prop) (base:Nat) (w:World) (M B:Nat) (vb:Value) (ts:List Tr) (xs:List (List UInt8)) (e:Ending) (w':World):Prop :=
  (∃ i:Int,e=.returned (.tuple #[.string ⟨⟨outL ts xs⟩⟩,.agg #[.int .i64 (codeL xs),.int .i64 i]]))∧(outL ts xs).length≤45000000∧∃ vb',DeskRest X base w' M B vb' (restL ts xs)∧Chg (RX M B vb) w w'∧∀ k,vb'.ownBlock=some k→vb.ownBlock=some k∨w.heap.size≤k
theorem do_all (h:DeskRest X base w M B vb ts) (xs:List (List UInt8)) (oa cap) (hst:Strs (fun k=>k < w.heap.size∧¬ RX M B vb k) w xs oa cap) (hsz:∀ x∈xs,x.length≤100000) (hn:xs.length≤150) :
    Calls Tryz.prog 7 #[.pointer (some ⟨M,0,none⟩),.slice oa xs.length cap] w (DoAll X base w M B vb ts xs):=by
  unfold DoAll outL codeL restL
  by_cases hk:okL xs
  · rw [if_pos hk,if_pos hk,if_pos hk]
    refine (do_good h xs oa cap hst hsz hn hk).mono ?_
    rintro e w' ⟨he,hl,hr⟩
    exact ⟨⟨0,he⟩,hl,hr⟩
  · rw [if_neg hk,if_neg hk,if_neg hk]
    refine (do_bad h.tab xs oa cap (Flat.any hst) hsz hn hk).mono ?_
    rintro e w' ⟨he,hp⟩
    exact ⟨he,by simp,vb,h.pr hp,hp.chg _,fun k hk=>.inl hk⟩
end
theorem DeskRest.lower {X:Nat→Prop} {base b:Nat} {w:World} {M B:Nat} {vb:Value} {ts:List Tr} (h:DeskRest X base w M B vb ts) (hb:b≤base) (hlv:∃ w0,Lv w0∧w0.heap.size≤b∧Pr w0 w):DeskRest X b w M B vb ts :=
  ⟨h.hdr,h.book,by have:=h.le;omega,h.out,h.lt,by have:=h.le2;omega,hlv⟩
theorem okL_split (xs:List (List UInt8)) (K:Nat):okL xs↔okL (xs.take K)∧okL (xs.drop K):=by
  conv=>lhs;rw [← List.take_append_drop K xs]
  unfold okL
  simp only [List.mem_append,or_imp,forall_and]
theorem codes_three (xs:List (List UInt8)) (K:Nat):(codeL xs=0∧codeL (xs.take K)=0∧codeL (xs.drop K)=0∧outL [] xs=outL [] (xs.take K) ++ outL (restL [] (xs.take K)) (xs.drop K))∨(codeL xs=14∧codeL (xs.take K)=14)∨(codeL xs=14∧codeL (xs.take K)=0∧codeL (xs.drop K)=14):=by
  have hs:=okL_split xs K
  unfold codeL outL restL
  by_cases h1:okL (xs.take K)
  · by_cases h2:okL (xs.drop K)
    · have h3:=hs.2 ⟨h1,h2⟩
      refine .inl ⟨if_pos h3,if_pos h1,if_pos h2,?_⟩
      rw [if_pos h3,if_pos h1,if_pos h1,if_pos h2]
      conv=>lhs;rw [← List.take_append_drop K xs,linesD_append]
    · have h3:¬ okL xs:=fun h=>h2 (hs.1 h).2
      exact .inr (.inr ⟨if_neg h3,if_pos h1,if_neg h2⟩)
  · have h3:¬ okL xs:=fun h=>h1 (hs.1 h).1
    exact .inr (.inl ⟨if_neg h3,if_neg h1⟩)
theorem Strs.take9 {S:Nat→Prop} {w:World} {xs:List (List UInt8)} {oa:Option Addr} {cap:Nat} (h:Strs S w xs oa cap) (k:Nat):Strs S w (xs.take k) oa cap:=by
  obtain ⟨⟨hc,hm⟩,b,o,h1,h2⟩:=h
  rw [List.length_map] at hc
  refine ⟨⟨by rw [List.length_map,List.length_take];omega,hm⟩,b,o,fun hn=>h1 (by intro e;exact hn (by have e':xs=[]:=List.map_eq_nil_iff.1 e;rw [e',List.take_nil];rfl)),fun i hi=>?_⟩
  rw [List.length_map,List.length_take] at hi
  rw [h2 i (by rw [List.length_map];omega)];simp
theorem Strs.drop9 {S:Nat→Prop} {w:World} {xs:List (List UInt8)} {oa:Option Addr} {cap:Nat} (h:Strs S w xs oa cap) (k:Nat) (hk:k≤xs.length):Strs S w (xs.drop k) (if cap=k then oa else oa.map (·.add k)) (cap - k):=by
  have:=Flat.drop h k (by rw [List.length_map];exact hk)
  rw [← List.map_drop] at this
  exact this
set_option maxRecDepth 100000 in
set_option maxHeartbeats 12800000 in
theorem deskJoins_walk (xs:List (List UInt8)) (oa cap) (cut:Int) (w:World) (hst:Strs Any w xs oa cap) (hsz:∀ x∈xs,x.length≤281474976710656) (_:(Lit.int .i64 cut).wf=true) (hw:Lv w) :
    Calls Tryz.prog 3 #[.slice oa xs.length cap,.int .i64 cut] w fun e w'=>e=.returned (.bool true)∧Pr w w':=by
  have hcap:xs.length≤cap∧cap≤maxLen:=by have h1:=hst.1;simpa using h1
  have hxl:xs.length≤9223372036854775807:=by have:=hcap.1;have:=hcap.2;unfold maxLen at this;omega
  have BG:=Lib.hid (deskBegun_any w hw)
  have SL:=Lib.hid fun u (hp:Pr w u)=>slow_any xs oa cap u (Flat.pr hp hst) (fun x hx=>by have:=hsz x hx;omega)
  have HS:=Lib.hid hst;have HWv:=Lib.hid hw;have Hcap:=Lib.hid hcap
  clear hst hsz hw hcap
  by_cases hbig:150 < xs.length
  · have e1:decide ((150:Int) < (xs.length:Int))=true:=by simp;omega
    go_enter Tryz.func3,Tryz.ntmps3
    go_wp2_with (go_at_call 4;(with_reducible refine Calls.mono BG.out ?_);rintro e w1 ⟨rfl,hp1⟩)
    go_ret
    exact ⟨rfl,hp1⟩
  have e1:decide ((150:Int) < (xs.length:Int))=false:=by simp;omega
  go_enter Tryz.func3,Tryz.ntmps3
  go_upto_region 5 with (first
    | (go_at_call 4;(with_reducible refine Calls.mono BG.out ?_);rintro e w1 ⟨rfl,hp1⟩)
    | (go_at_call 5;(with_reducible refine Calls.mono (SL.out _ hp1) ?_);rintro e w2 ⟨⟨b,rfl,hb⟩,hp2⟩))
  · go_wp2_with fail
    go_ret
    exact ⟨rfl,hp1.trans hp2⟩
  have hbf:b=false:=by first | assumption | (simp_all)
  have hsz:=hb hbf
  subst hbf
  have hn:xs.length≤150:=by omega
  have hq2:=hp1.trans hp2
  clear hb hp1 hp2 SL BG
  obtain ⟨K,hK,hKe⟩:=cutn_ix cut xs.length (by omega)
  have hc1:xs.length≤cap:=Hcap.out.1
  have hc2:(cap:Int)≤9223372036854775807:=by have:=Hcap.out.2;unfold maxLen at this;omega
  have hKn:(K:Int)≤xs.length:=by omega
  have hKc:(K:Int)≤cap:=by omega
  have hK0:(0:Int)≤K:=by omega
  have htk:(xs.take K).length=K:=by rw [List.length_take];omega
  have hdk:(xs.drop K).length=xs.length - K:=List.length_drop
  have hsT:∀ x∈xs.take K,x.length≤100000:=fun x h=>hsz x (List.mem_of_mem_take h)
  have hsD:∀ x∈xs.drop K,x.length≤100000:=fun x h=>hsz x (List.mem_of_mem_drop h)
  have HS2:Hid (∀ u,Pr w u→Strs (fun k=>k < w.heap.size) u xs oa cap):=Lib.hid fun u hp=>Flat.pr hp (HS.out.carry fun k _ hl=>⟨rfl,hl⟩)
  have N1:=Lib.hid (dnew_any NoX w2 (HWv.out.pr hq2) (fun _ h=>h.elim))
  have N2:Hid (∀ u Md Bd,Pr w u→Md < u.heap.size→Bd < u.heap.size→Calls Tryz.prog 6 #[] u (NewPost (fun k=>k=Md∨k=Bd) u)):=Lib.hid fun u Md Bd hp h1 h2=>dnew_any _ u (HWv.out.pr hp) (fun k hk=>by rcases hk with rfl | rfl;exact h1;exact h2)
  have N3:=Lib.hid fun u (hp:Pr w u)=>dnew_any NoX u (HWv.out.pr hp) (fun _ h=>h.elim)
  unfold NewPost at N1 N2 N3
  have DA:Hid (∀ X base u M B vb ts ys oa' cap',DeskRest X base u M B vb ts→Strs (fun k=>k < w.heap.size) u ys oa' cap'→w.heap.size≤M→w.heap.size≤B→(∀ k,vb.ownBlock=some k→w.heap.size≤k)→w.heap.size≤u.heap.size→(∀ x∈ys,x.length≤100000)→ys.length≤150→Calls Tryz.prog 7 #[.pointer (some ⟨M,0,none⟩),.slice oa' ys.length cap'] u (DoAll X base u M B vb ts ys)):=Lib.hid fun X base u M B vb ts ys oa' cap' hr hs hM hB ho hu h1 h2 =>
    do_all hr ys oa' cap' (hs.mono fun k (hk:k < w.heap.size) _=>⟨by omega,by
      rintro (e | e | e)
      · omega
      · omega
      · have:=ho k e;omega⟩) h1 h2
  unfold DoAll at DA
  have D1:Hid (∀ X base u M B vb,DeskRest X base u M B vb []→Pr w u→w.heap.size≤M→w.heap.size≤B→(∀ k,vb.ownBlock=some k→w.heap.size≤k)→Calls Tryz.prog 7 #[.pointer (some ⟨M,0,none⟩),.slice oa K cap] u (DoAll X base u M B vb [] (xs.take K))):=Lib.hid fun X base u M B vb hr hp hM hB ho=>by
    have:=DA.out X base u M B vb [] (xs.take K) oa cap hr ((HS2.out u hp).take9 K) hM hB ho hp.size hsT (by omega)
    rw [htk] at this;exact this
  have E1:Hid (∀ X base u M B vb,DeskRest X base u M B vb []→Pr w u→w.heap.size≤M→w.heap.size≤B→(∀ k,vb.ownBlock=some k→w.heap.size≤k)→Calls Tryz.prog 7 #[.pointer (some ⟨M,0,none⟩),.slice oa xs.length cap] u (DoAll X base u M B vb [] xs)):=Lib.hid fun X base u M B vb hr hp hM hB ho =>
    DA.out X base u M B vb [] xs oa cap hr (HS2.out u hp) hM hB ho hp.size hsz (by omega)
  have D2:Hid (∀ X base u M B vb ts,DeskRest X base u M B vb ts→Pr w u→w.heap.size≤M→w.heap.size≤B→(∀ k,vb.ownBlock=some k→w.heap.size≤k)→Calls Tryz.prog 7 #[.pointer (some ⟨M,0,none⟩),.slice (if cap=K then oa else oa.map (·.add K)) (xs.length - K) (cap - K)] u (DoAll X base u M B vb ts (xs.drop K))):=Lib.hid fun X base u M B vb ts hr hp hM hB ho=>by
    have:=DA.out X base u M B vb ts (xs.drop K) _ _ hr ((HS2.out u hp).drop9 K hK) hM hB ho hp.size hsD (by omega)
    rw [hdk] at this;exact this
  unfold DoAll at D1 E1 D2
  obtain ⟨s1,hs1⟩:∃ s:ByteArray,s=⟨⟨outL [] (xs.take K)⟩⟩:=⟨_,rfl⟩
  obtain ⟨s0,hs0⟩:∃ s:ByteArray,s=⟨⟨outL [] xs⟩⟩:=⟨_,rfl⟩
  obtain ⟨s2,hs2⟩:∃ s:ByteArray,s=⟨⟨outL (restL [] (xs.take K)) (xs.drop K)⟩⟩:=⟨_,rfl⟩
  have hz1:(outL [] (xs.take K)).length=s1.size:=by rw [← sizeL,hs1]
  have hz0:(outL [] xs).length=s0.size:=by rw [← sizeL,hs0]
  have hz2:(outL (restL [] (xs.take K)) (xs.drop K)).length=s2.size:=by rw [← sizeL,hs2]
  have hcs:=codes_three xs K
  have hsum:outL [] xs=outL [] (xs.take K) ++ outL (restL [] (xs.take K)) (xs.drop K)→s0=s1 ++ s2:=fun e=>by
    apply ByteArray.ext;apply Array.ext'
    rw [baL,hs0,hs1,hs2];exact e
  have D2:Hid (∀ X base u M B vb,DeskRest X base u M B vb (restL [] (xs.take K))→Pr w u→w.heap.size≤M→w.heap.size≤B→(∀ k,vb.ownBlock=some k→w.heap.size≤k)→Calls Tryz.prog 7 #[.pointer (some ⟨M,0,none⟩),.slice (if cap=K then oa else oa.map (·.add K)) (xs.length - K) (cap - K)] u fun e w'=>(∃ i:Int,e=.returned (.tuple #[.string s2,.agg #[.int .i64 (codeL (xs.drop K)),.int .i64 i]]))∧s2.size≤45000000∧Chg (RX M B vb) u w'):=Lib.hid fun X base u M B vb hr hp hM hB ho=>by
    have:=D2.out X base u M B vb _ hr hp hM hB ho
    rw [← hs2,hz2] at this
    exact this.mono fun e w' ⟨h1,h2,_,_,h3,_⟩=>⟨h1,h2,h3⟩
  have E1:Hid (∀ X base u M B vb,DeskRest X base u M B vb []→Pr w u→w.heap.size≤M→w.heap.size≤B→(∀ k,vb.ownBlock=some k→w.heap.size≤k)→Calls Tryz.prog 7 #[.pointer (some ⟨M,0,none⟩),.slice oa xs.length cap] u fun e w'=>(∃ i:Int,e=.returned (.tuple #[.string s0,.agg #[.int .i64 (codeL xs),.int .i64 i]]))∧Chg (RX M B vb) u w'):=Lib.hid fun X base u M B vb hr hp hM hB ho=>by
    have:=E1.out X base u M B vb hr hp hM hB ho
    rw [← hs0] at this
    exact this.mono fun e w' ⟨h1,_,_,_,h3,_⟩=>⟨h1,h3⟩
  rw [← hs1,hz1] at D1
  generalize codeL (xs.take K)=c1 at *
  generalize codeL (xs.drop K)=c2 at *
  generalize codeL xs=c0 at *
  generalize restL [] (xs.take K)=ts1 at *
  have Hsum:=Lib.hid hsum;have Hq2:=Lib.hid hq2;have Hcs:=Lib.hid hcs
  clear hsum hs1 hs0 hs2 hz1 hz0 hz2 hcs hsT hsD hsz hdk htk DA HS2 hq2
  go_upto_region 7 with (first
    | (go_at_call 6;(with_reducible refine Calls.mono N1.out ?_);rintro e w3 ⟨Md,Bd,rfl,hMd,hrd,hp3⟩)
    | (go_at_call 6;(with_reducible refine Calls.mono (N2.out _ Md Bd (Hq2.out.trans hp3) hMd.2.2.1 hMd.2.2.2) ?_);rintro e w4 ⟨Me,Be,rfl,hMe,hre,hp4⟩))
  have hsw:=Hq2.out.size
  have hs3:=hp3.size
  have hs4:=hp4.size
  have HRd:=Lib.hid (hrd.more (X':=fun k=>k=Me∨k=Be) hp4 (fun k hk=>.inr (by rcases hk with rfl | rfl;exact hMe.1.1;exact hMe.1.2)) (fun k hk=>by rcases hk with rfl | rfl;exact hMe.2.2.1;exact hMe.2.2.2))
  have HRe:=Lib.hid (hre.lower (b:=w2.heap.size) hs3 ⟨w,HWv.out,hsw,(Hq2.out.trans hp3).trans hp4⟩)
  have HQ4:=Lib.hid ((Hq2.out.trans hp3).trans hp4)
  have HMd:=Lib.hid hMd;have HMe:=Lib.hid hMe
  have DD1:=Lib.hid (D1.out _ _ _ _ _ _ HRd.out HQ4.out (by omega) (by omega) (fun k hk=>by cases hk))
  clear hrd hre hp3 hp4 hMd hMe N1 N2 D1
  go_upto_region 8 with (go_at_call 7;(with_reducible refine Calls.mono DD1.out ?_);rintro e w5 ⟨⟨i1,rfl⟩,hz1,vbd,hrd5,hch5,how5⟩)
  obtain ⟨V5,hV5⟩:∃ V,V=w5.alloc (.cells #[.int .i64 c1,.int .i64 i1] 29):=⟨_,rfl⟩
  have hp5:Pr w5 V5:=by rw [hV5];exact Pr.alloc _ _
  have hs5V:V5.heap.size=w5.heap.size+1:=by rw [hV5];simp
  have hb5:V5.heap[w5.heap.size]? = some (.cells #[.int .i64 c1,.int .i64 i1] 29 (0,0)):=by rw [hV5];exact heap_alloc_new w5 _
  have hs5:=hch5.size
  have hMd:=HMd.out;have hMe:=HMe.out
  have hq5:Pr w V5:=(hch5.over HQ4.out (fun k hk=>by rcases hk with e | e | e;omega;omega;cases e)).trans hp5
  have hrd5V:=hrd5.pr hp5
  have hre5:=(HRe.out.chg hch5 (fun k hk=>by rcases hk with e | e | e;exact .inl (.inl e);exact .inl (.inr e);cases e) (fun k hk=>by rcases hk with e | e | e;omega;omega;cases e)).pr hp5
  have HE:=Lib.hid (E1.out _ _ _ _ _ _ hre5 hq5 (by omega) (by omega) (fun k hk=>by cases hk))
  have hvb5:∀ k,vbd.ownBlock=some k→w4.heap.size≤k∧k < w5.heap.size:=fun k hk=>⟨by rcases how5 k hk with e | e;cases e;exact e,(hrd5.book.lt.2 k hk).2⟩
  have Hrd5:=Lib.hid hrd5V;have Hq5:=Lib.hid hq5;have Hb5:=Lib.hid hb5;have Hvb5:=Lib.hid hvb5
  have Hs:=Lib.hid (show w.heap.size≤w4.heap.size∧w4.heap.size≤w5.heap.size∧V5.heap.size=w5.heap.size+1∧w2.heap.size≤w3.heap.size∧w3.heap.size≤w4.heap.size∧w.heap.size≤w2.heap.size from ⟨by omega,hs5,hs5V,hs3,hs4,hsw⟩)
  rw [← hV5]
  clear hV5 hp5 hs5V hb5 hs5 hMd hMe hq5 hrd5V hre5 hvb5 hrd5 hch5 how5 DD1 HRd HRe hs3 hs4 hsw
  go_upto_region 9 with (go_at_call 7;(with_reducible refine Calls.mono HE.out ?_);rintro e w6 ⟨⟨i0,rfl⟩,hch6⟩)
  obtain ⟨V6,hV6⟩:∃ V,V=w6.alloc (.cells #[.int .i64 c0,.int .i64 i0] 29):=⟨_,rfl⟩
  have hp6:Pr w6 V6:=by rw [hV6];exact Pr.alloc _ _
  have hs6V:V6.heap.size=w6.heap.size+1:=by rw [hV6];simp
  have hb6:V6.heap[w6.heap.size]? = some (.cells #[.int .i64 c0,.int .i64 i0] 29 (0,0)):=by rw [hV6];exact heap_alloc_new w6 _
  have hs6:=hch6.size
  have hMd:=HMd.out;have hMe:=HMe.out;have hs:=Hs.out
  have hq6:Pr w V6:=(hch6.over Hq5.out (fun k hk=>by rcases hk with e | e | e;omega;omega;cases e)).trans hp6
  have hb56:V6.heap[w5.heap.size]? = some (.cells #[.int .i64 c1,.int .i64 i1] 29 (0,0)):=hp6.blk (hch6.blk Hb5.out (by rintro (e | e | e);omega;omega;cases e))
  have hrd6:=(Hrd5.out.chg hch6 (fun k hk=>by rcases hk with e | e | e;exact .inl (.inl e);exact .inl (.inr e);cases e) (fun k hk=>by rcases hk with e | e | e;omega;omega;cases e)).pr hp6
  have HD:=Lib.hid (D2.out _ _ _ _ _ _ hrd6 hq6 (by omega) (by omega) (fun k hk=>by have:=(Hvb5.out k hk).1;omega))
  have Hq6:=Lib.hid hq6;have Hb6:=Lib.hid hb6;have Hb56:=Lib.hid hb56
  have Hs6:=Lib.hid (show w5.heap.size < w6.heap.size∧V6.heap.size=w6.heap.size+1 from ⟨by omega,hs6V⟩)
  rw [← hV6]
  clear hV6 hp6 hs6V hb6 hs6 hMd hMe hs hq6 hb56 hrd6 hch6 Hb5 Hrd5 Hq5 HE D2
  go_upto_region 10 with (go_at_call 7;(with_reducible refine Calls.mono HD.out ?_);rintro e w7 ⟨⟨i2,rfl⟩,hz2,hch7⟩)
  obtain ⟨V7,hV7⟩:∃ V,V=w7.alloc (.cells #[.int .i64 c2,.int .i64 i2] 29):=⟨_,rfl⟩
  have hp7:Pr w7 V7:=by rw [hV7];exact Pr.alloc _ _
  have hb7:V7.heap[w7.heap.size]? = some (.cells #[.int .i64 c2,.int .i64 i2] 29 (0,0)):=by rw [hV7];exact heap_alloc_new w7 _
  have hMd:=HMd.out;have hs:=Hs.out;have hs6:=Hs6.out
  have hq7:Pr w V7:=(hch7.over Hq6.out (fun k hk=>by rcases hk with e | e | e;omega;omega;have:=(Hvb5.out k e).1;omega)).trans hp7
  have hX7:∀ b,w5.heap.size≤b→¬ RX Md Bd vbd b:=fun b hb=>by
    rintro (e | e | e)
    · omega
    · omega
    · have:=(Hvb5.out b e).2;omega
  have hb57:=hp7.blk (hch7.blk Hb56.out (hX7 _ (Nat.le_refl _)))
  have hb67:=hp7.blk (hch7.blk Hb6.out (hX7 _ (by omega)))
  have f5:=stays (blk_cell (o:=0) hb57);have f6:=stays (blk_cell (o:=0) hb67);have f7:=stays (blk_cell (o:=0) hb7)
  have g5:=blk_cell (o:=0) hb57;have g6:=blk_cell (o:=0) hb67;have g7:=blk_cell (o:=0) hb7
  have Hq7:=Lib.hid hq7;have HB5:=Lib.hid hb57;have HB7:=Lib.hid hb7
  rw [← hV7]
  clear hV7 hp7 hb7 hMd hs hs6 hX7 hb57 hb67 hch7 Hb56 Hb6 HD HMd HMe Hvb5 Hs Hs6 hq7
  rcases Hcs.out with ⟨rfl,rfl,rfl,he⟩ | ⟨rfl,rfl⟩ | ⟨rfl,rfl,rfl⟩
  · obtain rfl:=Hsum.out he
    have hsz12:s1.size+s2.size≤90000000:=by omega
    clear he Hsum Hcs
    go_wp2_with (first
      | (go_at_call 6;(with_reducible refine Calls.mono (N3.out _ Hq7.out) ?_);rintro e w8 ⟨Mt,Bt,rfl,hMt,hrt,hp8⟩;have E9:=Lib.hid (E1.out _ _ _ _ _ _ hrt (Hq7.out.trans hp8) (by have:=Hq7.out.size;omega) (by have:=Hq7.out.size;omega) (fun k hk=>by cases hk));have x5:=f5 _ hp8;have x7:=f7 _ hp8)
      | (go_at_call 7;(with_reducible refine Calls.mono E9.out ?_);rintro e w9 ⟨⟨i9,rfl⟩,hch9⟩;have hp9:Pr w w9:=hch9.over (Hq7.out.trans hp8) (fun k hk=>(by have:=Hq7.out.size;rcases hk with e | e | e;omega;omega;cases e));have hX9:∀ b,b < V7.heap.size→¬ RX Mt Bt (.slice none 0 0) b:=(fun b hb=>(by rintro (e | e | e);omega;omega;cases e));have y5:=(hch9.blk (hp8.blk HB5.out) (hX9 _ (blk_lt HB5.out)));have y7:=(hch9.blk (hp8.blk HB7.out) (hX9 _ (blk_lt HB7.out)));have z5:=(Pr.alloc w9 (.cells #[.int .i64 0,.int .i64 i9] 29)).cell (blk_cell (o:=0) y5);have z7:=(Pr.alloc w9 (.cells #[.int .i64 0,.int .i64 i9] 29)).cell (blk_cell (o:=0) y7)))
    all_goals
      go_ret
      first
        | exact ⟨rfl,hp9.alloc' _⟩
        | done
  · clear Hsum Hcs
    go_wp2_with fail
    all_goals
      go_ret
      exact ⟨rfl,Hq7.out⟩
  · clear Hsum Hcs
    go_wp2_with fail
    all_goals
      go_ret
      exact ⟨rfl,Hq7.out⟩
end Go.Proofs.YtdbnfhpgmcjngabGreatDoor
