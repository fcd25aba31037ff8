/- A book beside a list of its trees. -/
import Derived.Test.YtdbnfhpgmcjngacGreatBzt
import Derived.Test.YtdbnfhpgmcjngacGreatBgl
import Derived.Test.YtdbnfhpgmcjngacGreatBwe
namespace Go.Proofs.YtdbnfhpgmcjngacGreat
open Go Go.RowKit
def addT (ts:List Tr) (t:Tr):List Tr:=if addC ts t=0 then ts ++ [t] else ts
def inP (l:List Tr):List Tr:=l.foldl addT []
theorem inP_succ (l:List Tr) (i:Nat) (h:i < l.length):inP (l.take (i+1))=addT (inP (l.take i)) l[i]:=by
  unfold inP;rw [List.take_succ_eq_append_getElem h,List.foldl_append];rfl
theorem BookOk.chg {X X' Y:Nat→Prop} {w w':World} {B:Nat} {v:Value} {ts:List Tr} (h:BookOk X w B v ts) (hc:Chg Y w w') (hY:∀ k,Y k→X k∨w.heap.size≤k) (hX:∀ k,X' k→X k∨w.heap.size≤k):BookOk X' w' B v ts:=by
  obtain ⟨⟨l,ks,oa,cap,h1,h2,h3,h4⟩,⟨ys,g1,g2⟩,hf,hn,ho⟩:=h
  have hB:=blk_lt h1
  have hk:∀ k,k < w.heap.size→¬ X k→w'.heap[k]? = w.heap[k]? ∧ ¬ X' k:=fun k hl hx=>⟨hc.block k hl (fun hy=>by rcases hY k hy with h | h;exact hx h;omega),fun hx'=>by rcases hX k hx' with h | h;exact hx h;omega⟩
  refine ⟨⟨l,ks,oa,cap,by rw [(hk B hB ho.1).1];exact h1,h2,h3,h4.carry fun k hS hl=>⟨(hk k hl hS.2).1,hS.1,(hk k hl hS.2).2⟩⟩,
    ⟨ys,ownsRow_kept g1 (fun k hk'=>(hk k (g1.lt k hk').2 (ho.2 k hk')).1),g2.carry fun k hS hl=>⟨(hk k hl hS.2).1,hS.1,(hk k hl hS.2).2⟩⟩,hf,hn,(hk B hB ho.1).2,fun k hk'=>(hk k (g1.lt k hk').2 (ho.2 k hk')).2⟩
theorem BookOk.lt {X:Nat→Prop} {w:World} {B:Nat} {v:Value} {ts:List Tr} (h:BookOk X w B v ts):B < w.heap.size∧∀ k,v.ownBlock=some k→B+1≤k∧k < w.heap.size:=by
  obtain ⟨⟨l,ks,oa,cap,h1,_⟩,⟨ys,g1,g2⟩,_,_,_⟩:=h
  exact ⟨blk_lt h1,g1.lt⟩
structure BIn (X:Nat→Prop) (base:Nat) (w:World) (B:Nat) (v v4:Value) (tb ti:List Tr):Prop where
  book:BookOk X w B v tb
  row:OwnsX (fun k=>X k∧v4.ownBlock≠some k) w base w v4 ti
  own:∀ k,v4.ownBlock=some k→X k
  top:∀ k,X k→k < w.heap.size
section
variable {X:Nat→Prop} {base:Nat} {w w':World} {B:Nat} {v v4:Value} {tb ti:List Tr}
theorem BIn.row_kept (h:BIn X base w B v v4 tb ti) (hk:∀ k,X k→k < w.heap.size→w'.heap[k]? = w.heap[k]?):OwnsX (fun k=>X k∧v4.ownBlock≠some k) w' base w' v4 ti:=by
  obtain ⟨xs,h1,h2⟩:=h.row
  exact ⟨xs,ownsRow_kept h1 (fun k hk'=>hk k (h.own k hk') (h1.lt k hk').2),h2.carry fun k hS hl=>⟨hk k hS.1 hl,hS⟩⟩
theorem BIn.pr (h:BIn X base w B v v4 tb ti) (hp:Pr w w'):BIn X base w' B v v4 tb ti :=
  ⟨h.book.pr hp,h.row_kept fun k _ hl=>Below.block hp k hl,h.own,fun k hk=>Nat.lt_of_lt_of_le (h.top k hk) (Below.size hp)⟩
theorem BIn.add (h:BIn X base w B v v4 tb ti) {v':Value} {tb':List Tr} (hb:BookOk X w' B v' tb') (hc:Chg (fun k=>k=B∨v.ownBlock=some k) w w'):BIn X base w' B v' v4 tb' ti :=
  ⟨hb,h.row_kept fun k hX hl=>hc.block k hl (by rintro (e | e);exact h.book.out.1 (e ▸ hX);exact h.book.out.2 k e hX),h.own,fun k hk=>Nat.lt_of_lt_of_le (h.top k hk) hc.size⟩
theorem BIn.widen (h:BIn X base w B v v4 tb ti) (hp:Pr w w'):BIn (fun k=>X k∨(w.heap.size≤k∧k < w'.heap.size)) base w' B v v4 tb ti:=by
  have h1:=h.row_kept (w':=w') fun k _ hl=>Below.block hp k hl
  obtain ⟨xs,g1,g2⟩:=h1
  refine ⟨h.book.chg (hp.chg (fun _=>False)) (fun k hk=>hk.elim) (fun k hk=>?_),⟨xs,g1,g2.carry fun k hS _=>⟨rfl,.inl hS.1,hS.2⟩⟩,fun k hk=>.inl (h.own k hk),fun k hk=>?_⟩
  · rcases hk with h | h
    · exact .inl h
    · exact .inr h.1
  · rcases hk with h9 | h9
    · exact Nat.lt_of_lt_of_le (h.top k h9) (Below.size hp)
    · exact h9.2
theorem BIn.app (h:BIn X base w B v v4 tb ti) {v4':Value} {ti':List Tr} (ho:OwnsX (fun k=>X k∧v4.ownBlock≠some k) w base w' v4' ti') (hg:w.grownBy w' v4.ownBlock) (hd:∀ k,v4'.ownBlock=some k→v4.ownBlock=some k∨k=w.heap.size) :
    BIn (fun k=>X k∨v4'.ownBlock=some k) base w' B v v4' tb ti':=by
  obtain ⟨xs,g1,g2⟩:=ho
  have e1:∀ k,(X k∨v4'.ownBlock=some k)→X k∨w.heap.size≤k:=fun k hk=>by
    rcases hk with hk | hk
    · exact .inl hk
    · rcases hd k hk with e | e
      · exact .inl (h.own k e)
      · exact .inr (by omega)
  have e2:∀ k,(X k∧v4.ownBlock≠some k)→k < w.heap.size→v4'.ownBlock≠some k:=fun k hS hl e=>by
    rcases hd k e with e | e
    · exact hS.2 e
    · omega
  have e3:∀ k,(X k∨v4'.ownBlock=some k)→k < w'.heap.size:=fun k hk=>by
    rcases hk with hk | hk
    · exact Nat.lt_of_lt_of_le (h.top k hk) hg.size
    · exact (g1.lt k hk).2
  exact ⟨h.book.chg (chg_grown hg) (fun k hk=>.inl (h.own k hk)) e1,⟨xs,g1,g2.carry fun k hS hl=>⟨hg.block k hl (fun e=>hS.2 e.symm),.inl hS.1,e2 k hS hl⟩⟩,fun k hk=>.inr hk,e3⟩
end
section
variable {ops:Array Oper} {o:Oper} {a:Act} {w:World} {rest:List Oper} {Q:Exit→Act→World→Prop}
theorem app_treeX (hgd:o.guard=none) (s x:Operand) (ho:o.op=.call { callee:=.builtin .append,args:=#[s,x],argTypes:=#[22,22] })
    (S:Nat→Prop) (w0:World) (b:Nat) (v:Value) (ts:List Tr) (hs:a.eval s=v) (hown:OwnsX S w0 b w v ts) (B:Nat) (hx:a.eval x=.slice (some ⟨B,0,none⟩) 1 1) (t:Tr) (vl vk:Value)
    (hB:w.heap[B]? = some (.cells #[vl,vk] 34 (0,0))) (ht:TreeV S w0 t vl vk) (hlen:ts.length≤1000000000) (hbase:b≤w.heap.size)
    (h:∀ g cap w',OwnsX S w0 b w' (.slice (some ⟨g,0,none⟩) (ts.length+1) cap) (ts ++ [t])→w.grownBy w' v.ownBlock→(v.ownBlock=some g∨g=w.heap.size)→wpList Tryz.prog ops Q rest (a.put o.dst (.slice (some ⟨g,0,none⟩) (ts.length+1) cap)) w') :
    wpList Tryz.prog ops Q (o :: rest) a w:=by
  obtain ⟨i0,hi,hz0,hz1,hz2⟩:=info_parts info_tree
  obtain ⟨xs,h1,h2⟩:=hown
  refine wpList_append_lies w hgd s x _ ho b _ i0 _ 2 40 under_trees hi hz0 hz1 hz2 rfl (by omega) v ts.length xs hs h1 ⟨B,0,none⟩ 1 1 [vl,vk] hx rfl (World.news_of_block (cs:=#[vl,vk]) hB)
    (by intro u hu;simp at hu;rcases hu with rfl | rfl;exact ht.one.1;exact ht.one.2) (by omega) (by unfold maxLen;omega) (by omega) hbase w.heap.size rfl ?_
  intro g cap w' g1 g2 g3 _
  refine h g cap w' ⟨xs ++ [vl,vk],?_,h2.snoc ht⟩ g2 g3
  rw [List.length_append,List.length_singleton];exact g1
end
end Go.Proofs.YtdbnfhpgmcjngacGreat
/- A book of the first trees of others; plain. -/
namespace Go.Proofs.YtdbnfhpgmcjngacGreat
section
variable {p t:List Tr}
end
end Go.Proofs.YtdbnfhpgmcjngacGreat
/- Walks: the laws' books. -/
namespace Go.Proofs.YtdbnfhpgmcjngacGreat
open Go Go.RowKit
def BooksPost (tb:List Tr) (w:World) (e:Ending) (w':World):Prop :=
  ∃ X B v o c,e=.returned (.tuple #[.pointer (some ⟨B,0,none⟩),.slice o tb.length c])∧BookOk X w' B v tb∧Kids X w' tb o c∧(∀ k,X k→k < w'.heap.size)∧w.heap.size≤B∧Pr w w'
theorem BIn.kids {X:Nat→Prop} {base:Nat} {w:World} {B:Nat} {v v4:Value} {tb ti:List Tr} (h:BIn X base w B v v4 tb ti):∃ o c,v4=.slice o ti.length c∧Kids X w ti o c:=by
  obtain ⟨xs,h1,h2⟩:=h.row
  have h3:Tvals X w ti xs:=h2.carry fun k hS _=>⟨rfl,hS.1⟩
  exact Tvals.kids h3 h1 h.own
set_option maxRecDepth 100000 in
set_option maxHeartbeats 6400000 in
theorem books_any (ls:List Tr) (oa cap) (w:World) (hk:Kids Any w ls oa cap) :
    Calls Tryz.prog 7 #[.slice oa ls.length cap] w (BooksPost (inP ls) w):=by
  have K0:Hid (Kids (fun k=>k < w.heap.size) w ls oa cap):=Lib.hid (hk.carry fun k _ hl=>⟨rfl,hl⟩)
  have hlen:=hk.len
  obtain ⟨B,hB⟩:∃ B,B=w.heap.size:=⟨_,rfl⟩
  have NW:Hid (Calls Tryz.prog 17 #[] w fun e w'=>(e=.returned (.pointer (some ⟨B,0,none⟩))∧BookOk (fun k=>k < w.heap.size) w' B (.slice none 0 0) [])∧Pr w w'):=Lib.hid (by rw [hB];exact new_any (fun k=>k < w.heap.size) w (by omega))
  have hBw:w.heap.size≤B:=by omega
  clear hk hB
  go_enter Tryz.func7,Tryz.ntmps7
  go_upto_region 2 with (go_at_call 17;(with_reducible refine Calls.mono NW.out ?_);rintro e w3 ⟨⟨rfl,hb3⟩,hpw3⟩)
  have h0:BIn (fun k=>k < w.heap.size) w.heap.size w3 B (.slice none 0 0) (.slice none 0 0) [] [] :=
    ⟨hb3,OwnsX.nil _ _ _ _,fun k h=>(by cases h),fun k hk=>Nat.lt_of_lt_of_le hk (Below.size hpw3)⟩
  have H0:=Lib.hid h0;have Hpw3:=Lib.hid hpw3
  clear hb3 h0 hpw3
  go_upto_region 4 with fail
  go_loopw [5,6] (fun v4 vi wr=>∃ (i:Nat) (v:Value) (X:Nat→Prop),i≤ls.length∧vi=.int .i64 i∧BIn X w.heap.size wr B v v4 (inP (ls.take i)) (inP (ls.take i))∧(∀ k,k < w.heap.size→X k)∧Pr w wr) (fun _ vi _=>ls.length - (intOf vi).toNat)
  case atStart=>exact ⟨0,_,_,by omega,rfl,by rw [List.take_zero];exact H0.out,fun _ h=>h,Hpw3.out⟩
  case round =>
    obtain ⟨i,v,X,hi,rfl,hin,hXl,hpr⟩:=hrel
    have Hin:=Lib.hid hin;have HXl:=Lib.hid hXl;have Hpr:=Lib.hid hpr
    have hfew:=hin.book.few
    by_cases hlt:i < ls.length
    case pos =>
      obtain ⟨b,o,l',ks',oa',cap',e1,hl',rfl,c0,c1,hk'⟩:=(K0.out.pr hpr).get i hlt
      have hns:=inP_succ ls i hlt
      rw [e1] at hns
      obtain ⟨tb,htb⟩:∃ tb,tb=inP (ls.take i):=⟨_,rfl⟩
      rw [← htb] at hns hfew
      have Hns:=Lib.hid hns;have Htb:=Lib.hid htb
      have hin2:=hin
      rw [← htb] at hin2
      obtain ⟨o4,c4,hv4,hv1,hv2,hv3⟩:=ownsRow_slice hin2.row.choose_spec.1
      have Hin2:=Lib.hid hin2
      have hbb:=lt_of_cell c0
      have hkb:Kids (BS NoX B v) wr ks' oa' cap':=hk'.mono fun k (hk:k < w.heap.size) _=>⟨⟨by omega,fun e=>by have:=(hin2.book.lt.2 k e).1;omega⟩,fun h=>h⟩
      have AD:=Lib.hid (add_any B v tb l' ks' oa' cap' wr hin2.book hl' hkb hin2.top)
      have hbw:b < w.heap.size:=by
        obtain ⟨_,b9,o9,hb9,_⟩:=K0.out
        have h9:=hb9 (by intro e;subst e;simp at hlt)
        cases h9.1
        exact h9.2
      have CP:Hid (∀ w4,Chg (fun k=>k=B∨v.ownBlock=some k) wr w4→w4.cell? ⟨b,o+i * 2,none⟩=some (.string l')∧w4.cell? ⟨b,o+i * 2+1,none⟩=some (.slice oa' ks'.length cap')∧Kids (fun k=>k < w.heap.size) w4 ks' oa' cap'):=Lib.hid fun w4 hc=>by
        have hn:∀ k,k < w.heap.size→¬ (k=B∨v.ownBlock=some k):=fun k hk=>by
          rintro (e | e)
          · omega
          · have:=(hin2.book.lt.2 k e).1;omega
        refine ⟨?_,?_,hk'.carry fun k hk hl=>⟨hc.block k hl (hn k hk),hk⟩⟩
        · rw [World.cell?_of_block (hc.block b hbb (hn b hbw))];exact c0
        · rw [World.cell?_of_block (hc.block b hbb (hn b hbw))];exact c1
      have PP:Hid (∀ w4,Chg (fun k=>k=B∨v.ownBlock=some k) wr w4→Pr w w4):=Lib.hid fun w4 hc=>(hpr.chg (fun k=>k=B∨v.ownBlock=some k)).trans hc (fun _ h=>.inl h) |>.to_pr (fun k hk=>by
        rcases hk with e | e
        · omega
        · have:=(hin2.book.lt.2 k e).1;omega)
      clear hin2 hin hXl hpr hns htb hv1 hv2 hv3 hk' hkb e1
      subst hv4
      by_cases hc:addC tb (.node l' ks')=0
      case neg =>
        have hadd:addT tb (.node l' ks')=tb:=by unfold addT;rw [if_neg hc]
        have AD2:Hid (Calls Tryz.prog 18 #[.pointer (some ⟨B,0,none⟩),.agg #[.string l',.slice oa' ks'.length cap']] wr fun e w'=>e=.returned (.tuple #[.int .i64 0,.int .i64 (addC tb (.node l' ks'):Nat)])∧∃ v',BookOk X w' B v' tb∧Chg (fun k=>k=B∨v.ownBlock=some k) wr w'):=Lib.hid (AD.out.mono fun e w' ⟨he,v',h1,h2,_⟩=>by
          rw [if_neg hc] at he h1
          exact ⟨he,v',h1,h2⟩)
        rw [hadd] at Hns
        have e1:((addC tb (.node l' ks'):Int)==0)=false:=by rw [beq_eq_false_iff_ne];omega
        clear AD hc hadd
        generalize addC tb (.node l' ks')=f at *
        go_wp2_with (go_at_call 18;(with_reducible refine Calls.mono AD2.out ?_);rintro e w4 ⟨rfl,v',hb4,hc4⟩;obtain ⟨x0,x1,hk4⟩:=CP.out _ hc4)
        refine ⟨⟨i+1,v',X,by omega,by go_num,?_,HXl.out,PP.out _ hc4⟩,?_⟩
        · rw [Hns.out];exact Hin2.out.add hb4 hc4
        · simp [intOf];omega
      case pos =>
        have hadd:addT tb (.node l' ks')=tb ++ [.node l' ks']:=by unfold addT;rw [if_pos hc]
        have AD2:Hid (Calls Tryz.prog 18 #[.pointer (some ⟨B,0,none⟩),.agg #[.string l',.slice oa' ks'.length cap']] wr fun e w'=>e=.returned (.tuple #[.int .i64 tb.length,.int .i64 0])∧∃ v',BookOk X w' B v' (tb ++ [.node l' ks'])∧Chg (fun k=>k=B∨v.ownBlock=some k) wr w'):=Lib.hid (AD.out.mono fun e w' ⟨he,v',h1,h2,_⟩=>by
          rw [if_pos hc,hc] at he;rw [if_pos hc] at h1
          exact ⟨he,v',h1,h2⟩)
        have hsz:Tr.szL ks'≤1000000:=by
          have hf:fault (.node l' ks')=0:=by
            unfold addC at hc
            by_cases hf:fault (.node l' ks')=0
            · exact hf
            · rw [if_pos hf] at hc;exact hc
          have:=fault_sz hf
          rw [Tr.sz_node] at this;omega
        rw [hadd] at Hns
        have hnb:∀ k,(Value.slice o4 tb.length c4).ownBlock=some k→w.heap.size≤k∧k < wr.heap.size:=fun k hk=>Hin2.out.row.block k hk
        have Hnb:=Lib.hid hnb
        clear AD hc hadd hnb
        go_upto_region 8 with (go_at_call 18;(with_reducible refine Calls.mono AD2.out ?_);rintro e w4 ⟨rfl,v',hb4,hc4⟩;obtain ⟨x0,x1,hk4⟩:=CP.out _ hc4)
        have hin4:=Hin2.out.add hb4 hc4
        have Hin4:=Lib.hid hin4;have Hpw4:=Lib.hid (PP.out _ hc4)
        have hw4:=(PP.out _ hc4).size
        have hnb4:∀ k,(Value.slice o4 tb.length c4).ownBlock=some k→k < w4.heap.size:=fun k hk=>hin4.row.block k hk |>.2
        have Hnb4:=Lib.hid hnb4
        clear hin4 hb4 hc4 AD2 CP PP hnb4
        go_wp2_with (first
          | (go_at_call 24;(with_reducible refine Calls.mono (rown_any l' ks' oa' cap' w4 hsz hk4.any) ?_);rintro e w5 ⟨o5,c5,rfl,hk5,hp5⟩;have Hin5:=Lib.hid (Hin4.out.widen hp5))
          | (at_builtin;go_must (refine app_treeX rfl _ _ rfl (fun k=>(X k∨(w4.heap.size≤k∧k < w5.heap.size))∧(Value.slice o4 tb.length c4).ownBlock≠some k) _ w.heap.size (.slice o4 tb.length c4) tb rfl (Hin5.out.pr (Pr.alloc _ _)).row w5.heap.size rfl (.node l' ks') _ _ (heap_alloc_new w5 _) (treeV_mk c5 hl' ((hk5.carry (S':=fun k=>(X k∨(w4.heap.size≤k∧k < w5.heap.size))∧(Value.slice o4 tb.length c4).ownBlock≠some k) fun k (hk:w4.heap.size≤k) hl=>⟨rfl,.inr ⟨hk,hl⟩,fun e=>by have:=Hnb4.out k e;omega⟩).pr (Pr.alloc _ _))) (by omega) (by have:=hp5.size;simp;omega) ?_);intro g6 c6 w6 ho6 hg6 hd6;have Hin6:=Lib.hid ((Hin5.out.pr (Pr.alloc _ _)).app ho6 hg6 (fun k hk=>by cases hk;exact hd6))))
        refine ⟨⟨i+1,v',(fun k=>(X k∨(w4.heap.size≤k∧k < w5.heap.size))∨(Value.slice (some ⟨g6,0,none⟩) (tb.length+1) c6).ownBlock=some k),by omega,by go_num,?_,fun k hk=>Or.inl (Or.inl (HXl.out k hk)),?_⟩,?_⟩
        · rw [Hns.out];exact Hin6.out
        · exact Below.grown ((Hpw4.out.trans hp5).alloc' _) hg6 (by have:=hp5.size;simp;omega) (fun k hk=>(Hnb.out k hk).1)
        · simp [intOf];omega
    case neg =>
      have hie:i=ls.length:=by omega
      subst hie
      rw [List.take_length] at Hin hfew
      obtain ⟨oi,ci,rfl,hki⟩:=Hin.out.kids
      have Hki:=Lib.hid hki
      clear hin hXl hpr hki
      go_wp2_with fail
      go_ret2
      exact ⟨X,B,v,oi,ci,rfl,Hin.out.book,Hki.out,Hin.out.top,hBw,Hpr.out⟩
end Go.Proofs.YtdbnfhpgmcjngacGreat
