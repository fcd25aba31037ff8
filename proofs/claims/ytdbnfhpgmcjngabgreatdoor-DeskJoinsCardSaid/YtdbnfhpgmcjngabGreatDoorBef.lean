/- Walks: the node at a path, in place; kids that others stand for. -/
import Derived.Test.YtdbnfhpgmcjngabGreatDoorBus
import Derived.Test.YtdbnfhpgmcjngabGreatDoorBcl
import Derived.Test.YtdbnfhpgmcjngabGreatDoorBdw
import Derived.Deep.DeepCutAuto
import Derived.Deep.CutBlock
namespace Go.Proofs.YtdbnfhpgmcjngabGreatDoor
open Go Go.RowKit
def FindPost (w:World) (B o lo hi:Nat) (t:Tr) (p:List Int) (e:Ending) (w':World):Prop :=
  w=w'∧((t.at? p=none∧e=.returned (.pointer none))∨∃ b' o' lo' hi' x,e=.returned (.pointer (some ⟨b',o',none⟩))∧Spot w B o lo hi t p b' o' lo' hi' x∧addrAt w B o p=some (b',o'))
set_option maxHeartbeats 1600000 in
theorem find_any (w:World) (B o lo hi:Nat) (t:Tr) (p:List Int) (pa pc) (hs:Spot w B o lo hi t [] B o lo hi t) (hp:Ints Any w p pa pc) :
    Calls Tryz.prog 128 #[.pointer (some ⟨B,o,none⟩),.slice pa p.length pc] w (FindPost w B o lo hi t p):=by
  have hm:=Ints.len hp
  go_enter Tryz.func128,Tryz.ntmps128
  go_wp2_with fail
  go_loopw [0,9] (fun v i wr=>∃ (k b' o' lo' hi':Nat) (x:Tr),k≤p.length∧i=.int .i64 k∧v=.pointer (some ⟨b',o',none⟩)∧Spot w B o lo hi t (p.take k) b' o' lo' hi' x∧addrAt w B o (p.take k)=some (b',o')∧wr=w) (fun _ i _=>p.length - (intOf i).toNat)
  case atStart=>exact ⟨0,B,o,lo,hi,t,by omega,rfl,rfl,by simpa using hs,rfl,rfl⟩
  case round =>
    obtain ⟨k,b',o',lo',hi',x,hkl,rfl,rfl,hsp,had,rfl⟩:=hrel
    have Had:=Lib.hid had
    clear had
    have Hs:=Lib.hid hsp
    clear hs
    by_cases hlt:k < p.length
    · obtain ⟨b,o2,rfl,c0⟩:=Ints.get hp k hlt
      cases x with
      | node l ks =>
      have Hn:=Lib.hid (t.at?_take p k hlt hsp.at')
      have Hst:=Lib.hid (t.at?_stop p (k+1))
      have Htk:=Lib.hid (List.take_succ_eq_append_getElem hlt)
      obtain ⟨oa,cap,d0,d1,hkk,_⟩:=hsp.cells
      have hkl2:=hkk.len
      generalize hz:p[k]=z at *
      have Hz:=Lib.hid hz
      clear hz hsp hkk
      by_cases hneg:z < 0
      · go_wp2_with fail
        go_ret
        exact ⟨rfl,.inl ⟨Hst.out (by rw [Hn.out];exact Tr.kid?_neg _ hneg),rfl⟩⟩
      · by_cases hge:(ks.length:Int)≤z
        · go_wp2_with fail
          go_ret
          exact ⟨rfl,.inl ⟨Hst.out (by rw [Hn.out];exact Tr.kid?_ge _ _ hge),rfl⟩⟩
        · obtain ⟨n,rfl⟩:=Int.eq_ofNat_of_zero_le (by omega:0≤z)
          have hnl:n < ks.length:=by omega
          obtain ⟨oa',cap',b2,o3,lo2,hi2,e0,e1,e2,hs2,_,_⟩:=Hs.out.step n hnl
          rw [e1] at d1
          obtain ⟨rfl,rfl⟩:oa'=oa∧cap'=cap:=by cases d1;exact ⟨rfl,rfl⟩
          subst e2
          have Hs2:=Lib.hid hs2
          have had2:addrAt wr B o (p.take (k+1))=some (b2,o3+n * 2):=by
            rw [Htk.out,addrAt_append _ _ _ _ _ _ _ Had.out];simp only [addrAt,e1,Int.toNat_natCast]
          have Had2:=Lib.hid had2
          clear hs2 e0 had2
          go_wp2_with fail
          refine ⟨⟨k+1,b2,o3+n * 2,lo2,hi2,ks[n],by omega,by go_num,rfl,by rw [Htk.out];exact Hs2.out,Had2.out,trivial⟩,?_⟩
          simp [intOf];omega
    · have hkv:k=p.length:=by omega
      subst hkv
      rw [List.take_length] at Hs Had
      go_wp2_with fail
      go_ret
      exact ⟨rfl,.inr ⟨b',o',lo',hi',x,rfl,Hs.out,Had.out⟩⟩
theorem Kids.cutP {S:Nat→Prop} {w:World} {ts:List Tr} {oa:Option Addr} {cap:Nat} (h:Kids S w ts oa cap) (n:Nat) (hn:n≤ts.length):Kids S w (ts.take n) oa cap:=by
  obtain ⟨⟨h1,h2⟩,b,o,h3,h4⟩:=h
  refine ⟨⟨by rw [List.length_take];omega,h2⟩,b,o,fun hne=>?_,h4.take n⟩
  exact h3 (by intro e;subst e;simp at hne)
def repl (ks:List Tr) (n m:Nat) (us:List Tr):List Tr:=ks.take n ++ us ++ ks.drop (n+m)
def ReplPost (S:Nat→Prop) (w:World) (b o:Nat) (ks:List Tr) (e:Ending) (w':World):Prop :=
  ∃ w2 oc cc,e=.returned (.tuple #[])∧w'=w2.setCell ⟨b,o+1,none⟩ (.slice oc ks.length cc)∧Pr w w2∧Kids (fun k=>S k∨w.heap.size≤k) w2 ks oc cc
set_option maxHeartbeats 1600000 in
theorem replace_any (S:Nat→Prop) (b o n m:Nat) (ks us:List Tr) (oa cap ub uc) (w:World) (c1:w.cell? ⟨b,o+1,none⟩=some (.slice oa ks.length cap)) (f1:w.frozen? ⟨b,o+1,none⟩=false) (hk:Kids S w ks oa cap) (hu:Kids S w us ub uc)
    (hn:n+m≤ks.length) (hks:ks.length≤100000) (hus:us.length≤100000) :
    Calls Tryz.prog 131 #[.pointer (some ⟨b,o,none⟩),.int .i64 n,.int .i64 m,.slice ub us.length uc] w (ReplPost S w b o (repl ks n m us)):=by
  have hlt:=lt_of_cell c1
  have hcap:=hk.1.1
  have hcm:cap≤9223372036854775807:=by have:=hk.1.2;unfold maxLen at this;omega
  have hl:=hk.len
  have hul:=hu.len
  have hfl:flen [ks.take n,us,ks.drop (n+m)] 3=(repl ks n m us).length:=by simp [flen,repl]
  have hfe:[ks.take n,us,ks.drop (n+m)].flatten=repl ks n m us:=by simp [repl]
  have hrl:(repl ks n m us).length≤1000000:=by simp [repl];omega
  have ht1:(ks.take n).length=n:=by simp;omega
  have ht2:(ks.drop (n+m)).length=ks.length - (n+m):=by simp
  have CC:Hid (∀ W' B ob cb,Pr w W'→W'.cell? ⟨B,0,none⟩=some (.slice oa n cap)→W'.cell? ⟨B,1,none⟩=some (.slice ub us.length uc)→W'.cell? ⟨B,2,none⟩=some (.slice ob (ks.length - (n+m)) cb)→Kids S w (ks.drop (n+m)) ob cb →
      Calls Tryz.prog 154 #[.slice (some ⟨B,0,none⟩) 3 3] W' fun e w'=>(∃ oc cp,e=.returned (.slice oc (repl ks n m us).length cp)∧Kids (fun k=>S k∨w.heap.size≤k) w' (repl ks n m us) oc cp)∧Pr W' w'):=Lib.hid fun W' B ob cb hp d0 d1 d2 hk2=>by
    have hR:Rows2 S W' [ks.take n,us,ks.drop (n+m)] B:=by
      intro i hi
      match i with
      | 0=>exact ⟨oa,cap,by rw [d0];simp [ht1],(hk.cutP n (by omega)).pr hp⟩
      | 1=>exact ⟨ub,uc,by rw [d1];rfl,hu.pr hp⟩
      | 2=>exact ⟨ob,cb,by rw [d2];simp,hk2.pr hp⟩
    refine (concatTrees_any S _ B 3 W' hR (by simp only [List.length_cons,List.length_nil];rw [hfl];exact hrl) (by simp)).mono ?_
    rintro e w' ⟨⟨oc,cp,rfl,hkk⟩,hb⟩
    rw [hfe] at hkk
    refine ⟨⟨oc,cp,by simp only [List.length_cons,List.length_nil];rw [← hfl],hkk.mono (fun k hS _=>?_)⟩,hb⟩
    rcases hS with h | h
    · exact .inl h
    · exact .inr (by have:=hp.size;omega)
  have HK:=Lib.hid hk
  generalize hR:repl ks n m us=R at *
  clear hfl hfe hu ht1 ht2 hk hR
  have a1:(0:Int)≤n:=by omega
  have a2:(n:Int)≤cap:=by omega
  have a3:(n:Int)≤ks.length:=by omega
  have a4:(0:Int)≤(n:Int)+m:=by omega
  have a5:(n:Int)+m≤ks.length:=by omega
  have a6:(n:Int)+m≤cap:=by omega
  have a7:(ks.length:Int)≤cap:=by omega
  have u1:IntKind.i64.wrap ((n:Int)+m)=(n:Int)+m:=IntWalk.i64_in _ (by omega)
  have u2:((n:Int)+m).toNat=n+m:=by omega
  have f1':w.drew.frozen? ⟨b,o+1,none⟩=false:=f1
  by_cases hc:cap=n+m
  · have hz:ks.length - (n+m)=0:=by omega
    have HK2:Hid (Kids S w (ks.drop (n+m)) oa 0):=Lib.hid (by
      have h0:ks.drop (n+m)=[]:=List.drop_eq_nil_of_le (by omega)
      rw [h0];exact Kids.nil _ _ _ _ (Nat.zero_le _))
    have hkn:ks.length=n+m:=by omega
    rw [hz] at CC
    rw [hkn] at c1 a3 a5 a7 hn
    subst hc
    have a8:(n:Int)≤(n:Int)+m:=by omega
    have a9:(0:Int)≤(n:Int)+m:=by omega
    clear hz
    go_enter Tryz.func131,Tryz.ntmps131
    go_wp2_with fail
    go_region_law (first
        | (go_simp;go_at_call 154;(refine Calls.mono (CC.out _ _ oa 0 ((Pr.alloc w _).drew') (by simp [go_sem]) (by simp [go_sem]) (by simp [go_sem]) HK2.out) ?_)
           rintro e w1 ⟨⟨oc,cp,rfl,hkk⟩,hb⟩
           have s1:=hb.cell (((Pr.alloc w _).drew').cell c1)
           have s2:w1.frozen? ⟨b,o+1,none⟩=false:=(by rw [((Pr.drew' (Pr.alloc w _)).trans hb).frozen hlt];exact f1)))
    all_goals
      go_end0
      exact ⟨w1,oc,cp,rfl,rfl,((Pr.alloc w _).drew').trans hb,hkk⟩
  · have hc2:n+m < cap:=by omega
    go_enter Tryz.func131,Tryz.ntmps131
    go_wp2_with fail
    go_region_law (first
        | (go_simp;go_at_call 154;(refine Calls.mono (CC.out _ _ (Option.map (fun x=>x.add ((n+m) * 2)) oa) (cap - (n+m)) ((Pr.alloc w _).drew') (by simp [go_sem]) (by simp [go_sem]) (by simp [go_sem]) (HK.out.cutL (n+m) (by omega))) ?_)
           rintro e w1 ⟨⟨oc,cp,rfl,hkk⟩,hb⟩
           have s1:=hb.cell (((Pr.alloc w _).drew').cell c1)
           have s2:w1.frozen? ⟨b,o+1,none⟩=false:=(by rw [((Pr.drew' (Pr.alloc w _)).trans hb).frozen hlt];exact f1)))
    all_goals
      go_end0
      exact ⟨w1,oc,cp,rfl,rfl,((Pr.alloc w _).drew').trans hb,hkk⟩
end Go.Proofs.YtdbnfhpgmcjngabGreatDoor
/- Walks: a deed done in place. -/
namespace Go.Proofs.YtdbnfhpgmcjngabGreatDoor
open Go Go.RowKit
theorem Spot.move {w W:World} {B o lo hi:Nat} {t:Tr} {p:List Int} {b' o' lo' hi':Nat} {x:Tr} (h:Spot w B o lo hi t p b' o' lo' hi' x) (hk:∀ k,k=B∨lo≤k∧k < hi→W.heap[k]? = w.heap[k]?):Spot W B o lo hi t p b' o' lo' hi' x:=by
  have hlow:=h.low
  have hhigh:=h.high
  have hb:=hk b' h.blk
  obtain ⟨vl,vk,c0,c1,hx⟩:=h.tree
  refine ⟨h.at',⟨vl,vk,by rw [World.cell?_of_block hb];exact c0,by rw [World.cell?_of_block hb];exact c1,hx.carry fun k h1 h2 _=>hk k (.inr (by omega))⟩,h.low,h.high,h.out,h.blk,fun j=>?_,?_⟩
  · have:=h.free j
    unfold World.frozen? at this ⊢;rw [hb];exact this
  · intro w' S nx vl vk h1 h2 h3 h4 h5 h6
    exact h.put w' S nx vl vk (fun k e1 e2=>by rw [h1 k e1 e2];exact hk k e1) (fun j e1 e2=>by rw [h2 j e1 e2];exact World.cell?_of_block hb) h3 h4 h5 h6
theorem Spot.final {w w':World} {B o lo hi:Nat} {t:Tr} {p:List Int} {b' o' lo' hi':Nat} {x:Tr} (h:Spot w B o lo hi t p b' o' lo' hi' x) (hB:B < w.heap.size) (hhi:hi≤w.heap.size) (hch:Chg (fun k=>k=b') w w')
    (hj:∀ j,j≠o'→j≠o'+1→w'.cell? ⟨b',j,none⟩=w.cell? ⟨b',j,none⟩) {S:Nat→Prop} {nx:Tr} {vl vk:Value} (c0:w'.cell? ⟨b',o',none⟩=some vl) (c1:w'.cell? ⟨b',o'+1,none⟩=some vk) (hx:TreeV S w' nx vl vk) (hS:∀ k,lo≤k→k < hi→S k) :
    ∃ l ks oa cap,t.setAt p nx=.node l ks∧w'.cell? ⟨B,o,none⟩=some (.string l)∧w'.cell? ⟨B,o+1,none⟩=some (.slice oa ks.length cap)∧l.size≤maxLen∧Kids S w' ks oa cap:=by
  obtain ⟨vl3,vk3,h1,h2,h3⟩:=h.put w' S nx vl vk (fun k e1 e2=>hch.block k (by omega) (fun e=>e2 (.inl e))) hj c0 c1 hx hS
  cases hq:t.setAt p nx with
  | node l ks =>
    rw [hq] at h3
    obtain ⟨⟨rfl,hl⟩,oa,cap,rfl,hk⟩:=treeV_iff.1 h3
    exact ⟨l,ks,oa,cap,rfl,h1,h2,hl,hk⟩
theorem Spot.blk_lt {w:World} {B o lo hi:Nat} {t:Tr} {p:List Int} {b' o' lo' hi':Nat} {x:Tr} (h:Spot w B o lo hi t p b' o' lo' hi' x):b' < w.heap.size:=by
  obtain ⟨vl,vk,c0,_⟩:=h.tree;exact lt_of_cell c0
theorem cell_off {w:World} {b o j:Nat} {u:Value} (h:j≠o):(w.setCell ⟨b,o,none⟩ u).cell? ⟨b,j,none⟩=w.cell? ⟨b,j,none⟩:=by
  have h':o≠j:=fun e=>h e.symm
  unfold World.cell? World.setCell
  simp only [Array.getElem?_modify]
  cases hh:w.heap[b]? with
  | none=>simp
  | some x=>cases x <;> simp [h']
theorem do_final {w W wf:World} {B lo hi base:Nat} {t:Tr} {q:List Int} {b' o' lo' hi':Nat} {x nx:Tr} {vl vk:Value} (hwW:Pr w W) (hsp:Spot W B 0 lo hi t q b' o' lo' hi' x) (hB:B < w.heap.size) (hhi:hi≤w.heap.size) (hbase:base≤lo)
    (hch:Chg (fun k=>k=b') w wf) (hj:∀ j,j≠o'→j≠o'+1→wf.cell? ⟨b',j,none⟩=w.cell? ⟨b',j,none⟩) (c0:wf.cell? ⟨b',o',none⟩=some vl) (c1:wf.cell? ⟨b',o'+1,none⟩=some vk) (hx:TreeV (From base) wf nx vl vk) :
    ∃ l ks oa cap,t.setAt q nx=.node l ks∧wf.cell? ⟨B,0,none⟩=some (.string l)∧wf.cell? ⟨B,1,none⟩=some (.slice oa ks.length cap)∧l.size≤maxLen∧Kids (From base) wf ks oa cap :=
  (hsp.move (W:=w) (fun k hk=>(Below.block hwW k (by omega)).symm)).final hB hhi hch hj c0 c1 hx (fun k h1 _=>by show base≤k;omega)
theorem do_kids {w W wf:World} {B lo hi base:Nat} {t:Tr} {q:List Int} {b' o' lo' hi':Nat} {x:Tr} {ks:List Tr} {oa cap} (hwW:Pr w W) (hsp:Spot W B 0 lo hi t q b' o' lo' hi' x) (hhi:hi≤w.heap.size) (hbase:base≤lo)
    (hch:Chg (fun k=>k=b') w wf) (hk:Kids (fun k=>lo'≤k∧k < hi') W ks oa cap):Kids (From base) wf ks oa cap:=by
  have h1:=hsp.low
  have h2:=hsp.high
  have h3:=hsp.out
  refine hk.carry fun k hS _=>⟨?_,by show base≤k;omega⟩
  rw [hch.block k (by omega) (fun e=>h3 (by subst e;exact hS)),Below.block hwW k (by omega)]
theorem Chg.only {X:Nat→Prop} {w w':World} {b':Nat} (h:Chg (fun k=>k=b') w w') (hX:X b'):Chg X w w':=⟨h.os,h.tape,h.output,h.size,fun k hk hn=>h.block k hk (fun e=>hn (e ▸ hX))⟩
def DoPost (B lo hi base:Nat) (w:World) (t:Tr) (d:Dee) (e:Ending) (w':World):Prop :=
  Chg (fun k=>k=B∨(lo≤k∧k < hi)) w w' ∧
  (((doneT d d.path t).2≠0∧e=.returned (.tuple #[.agg #[.int .i64 0,.slice none 0 0,.int .i64 0,.int .i64 0,.string ⟨#[]⟩],.int .i64 ((doneT d d.path t).2:Nat)])) ∨
   ((doneT d d.path t).2=0∧∃ bp bc,e=.returned (.tuple #[.agg #[.int .i64 (backD t d).kind,.slice bp (backD t d).path.length bc,.int .i64 (backD t d).pos,.int .i64 (backD t d).many,.string (backD t d).lab],.int .i64 0])∧Ints (From w.heap.size) w' (backD t d).path bp bc ∧
    ∃ l ks oa cap,(doneT d d.path t).1=.node l ks∧w'.cell? ⟨B,0,none⟩=some (.string l)∧w'.cell? ⟨B,1,none⟩=some (.slice oa ks.length cap)∧l.size≤maxLen∧Kids (From base) w' ks oa cap))
section
variable {w:World} {b:Nat} (v0 v1 v2 v3 v4:Value)
abbrev set5 (w:World) (b:Nat) (v0 v1 v2 v3 v4:Value):World:=((((w.setCell ⟨b,0,none⟩ v0).setCell ⟨b,1,none⟩ v1).setCell ⟨b,2,none⟩ v2).setCell ⟨b,3,none⟩ v3).setCell ⟨b,4,none⟩ v4
theorem set5_blk {a0 a1 a2 a3 a4:Value} {T:TypeId} (h:w.heap[b]? = some (.cells #[a0,a1,a2,a3,a4] T (0,0))):(set5 w b v0 v1 v2 v3 v4).heap[b]? = some (.cells #[v0,v1,v2,v3,v4] T (0,0)) :=
  blk_set (o:=4) (blk_set (o:=3) (blk_set (o:=2) (blk_set (o:=1) (blk_set (o:=0) h v0) v1) v2) v3) v4
theorem set5_heap {k:Nat} (h:k≠b):(set5 w b v0 v1 v2 v3 v4).heap[k]? = w.heap[k]? := by
  unfold set5
  rw [Below.heap_setCell _ _ _ _ h,Below.heap_setCell _ _ _ _ h,Below.heap_setCell _ _ _ _ h,Below.heap_setCell _ _ _ _ h,Below.heap_setCell _ _ _ _ h]
theorem set5_kept {S:Nat→Prop} (h:¬ S b):Kept S w (set5 w b v0 v1 v2 v3 v4):=fun _ hk _=>set5_heap v0 v1 v2 v3 v4 (fun e=>h (e ▸ hk))
theorem set5_pr {a:World} (h:Pr a w) (hb:a.heap.size≤b):Pr a (set5 w b v0 v1 v2 v3 v4):=((((h.setCell hb v0).setCell hb v1).setCell hb v2).setCell hb v3).setCell hb v4
end
theorem cloneRead_any (xs:List Int) (oa cap) (w:World) (hx:Ints Any w xs oa cap) (hs:xs.length≤100000) :
    Calls Tryz.prog 129 #[.slice oa xs.length cap] w fun e w'=>(∃ ob cp,e=.returned (.slice ob xs.length cp)∧Ints (From w.heap.size) w' xs ob cp)∧Pr w w':=by
  refine (cloneInts_any xs oa cap w hx hs).mono ?_
  rintro e w' ⟨⟨v,rfl,ho⟩,hp⟩
  obtain ⟨ob,cp,rfl,hi⟩:=ho.ints
  exact ⟨⟨ob,cp,rfl,hi⟩,hp⟩
theorem DoPost.no {B lo hi base:Nat} {w w':World} {t:Tr} {d:Dee} (hp:Pr w w') (c:Nat) (hc:(doneT d d.path t).2=c) (h0:c≠0) :
    DoPost B lo hi base w t d (.returned (.tuple #[.agg #[.int .i64 0,.slice none 0 0,.int .i64 0,.int .i64 0,.string ⟨#[]⟩],.int .i64 (c:Nat)])) w' :=
  ⟨hp.chg _,.inl ⟨by rw [hc];exact h0,by rw [hc]⟩⟩
set_option maxRecDepth 100000 in
set_option maxHeartbeats 3200000 in
theorem doName_any (w:World) (B lo hi base:Nat) (t:Tr) (p:List Int) (s:ByteArray) (pa pc) (vl vk:Value) (c0:w.cell? ⟨B,0,none⟩=some vl) (c1:w.cell? ⟨B,1,none⟩=some vk) (ut:UT w t lo hi vl vk) (hB:¬ (lo≤B∧B < hi)) (hf:∀ j,w.frozen? ⟨B,j,none⟩=false)
    (hhi:hi≤w.heap.size) (hbase:base≤lo) (hp:Ints Any w p pa pc) (hs:s.size≤maxLen) (hp0:∀ x∈p,0≤x) (hpl:p.length≤100000) :
    Calls Tryz.prog 92 #[.pointer (some ⟨B,0,none⟩),.agg #[.int .i64 1,.slice pa p.length pc,.int .i64 0,.int .i64 0,.string s]] w (DoPost B lo hi base w t ⟨1,p,0,0,s⟩):=by
  obtain ⟨W,hW⟩:∃ W,W=(w.alloc (.cells #[.int .i64 1,.slice pa p.length pc,.int .i64 0,.int .i64 0,.string s] 72)).alloc (.cells #[.int .i64 0,.slice none 0 0,.int .i64 0,.int .i64 0,.string ⟨#[]⟩] 72):=⟨_,rfl⟩
  have hwW:Pr w W:=by rw [hW];exact (Pr.alloc _ _).alloc' _
  have hWs:W.heap.size=w.heap.size+2:=by rw [hW];simp
  have hBl:=lt_of_cell c0
  have hF:FindPost W B 0 lo hi t p (.returned (.pointer none)) W→True:=fun _=>trivial
  have CF:=Lib.hid (find_any W B 0 lo hi t p pa pc (Spot.top (hwW.cell c0) (hwW.cell c1) (ut.pr hwW) hB (fun j=>by rw [hwW.frozen hBl];exact hf j)) (hp.pr hwW))
  have CL:=Lib.hid (fun W' (h:Pr W W')=>cloneRead_any p pa pc W' (hp.pr (hwW.trans h)) hpl)
  have s1:W.cell? ⟨w.heap.size,1,none⟩=some (.slice pa p.length pc):=by rw [hW];simp [go_sem]
  have s0:W.cell? ⟨w.heap.size,0,none⟩=some (.int .i64 1):=by rw [hW];simp [go_sem]
  have s4:W.cell? ⟨w.heap.size,4,none⟩=some (.string s):=by rw [hW];simp [go_sem]
  have hblk:W.heap[w.heap.size+1]? = some (.cells #[.int .i64 0,.slice none 0 0,.int .i64 0,.int .i64 0,.string ⟨#[]⟩] 72 (0,0)):=by
    rw [hW];simpa using heap_alloc_new (w.alloc (.cells #[.int .i64 1,.slice pa p.length pc,.int .i64 0,.int .i64 0,.string s] 72)) (.cells #[.int .i64 0,.slice none 0 0,.int .i64 0,.int .i64 0,.string ⟨#[]⟩] 72)
  clear hF
  cases hat:t.at? p with
  | none =>
    have hd:(doneT ⟨1,p,0,0,s⟩ p t).2=7:=doneT_none _ (by simp) p t hp0 hat
    have CF0:Hid (Calls Tryz.prog 128 #[.pointer (some ⟨B,0,none⟩),.slice pa p.length pc] W fun e w'=>W=w'∧e=.returned (.pointer none)):=Lib.hid (CF.out.mono fun e w' ⟨h1,h2⟩=>⟨h1,by
      rcases h2 with h | ⟨b',o',lo',hi',x,_,h,_⟩
      · exact h.2
      · rw [h.at'] at hat;cases hat⟩)
    have Hd:=Lib.hid hd
    have r0:W.cell? ⟨w.heap.size+1,0,none⟩=some (.int .i64 0):=blk_cell hblk
    have r1:W.cell? ⟨w.heap.size+1,1,none⟩=some (.slice none 0 0):=blk_cell hblk
    have r2:W.cell? ⟨w.heap.size+1,2,none⟩=some (.int .i64 0):=blk_cell hblk
    have r3:W.cell? ⟨w.heap.size+1,3,none⟩=some (.int .i64 0):=blk_cell hblk
    have r4:W.cell? ⟨w.heap.size+1,4,none⟩=some (.string ⟨#[]⟩):=blk_cell hblk
    have f0:∀ j,W.frozen? ⟨w.heap.size+1,j,none⟩=false:=fun j=>blk_frozen hblk
    have f1:=f0 0;have f2:=f0 1;have f3:=f0 2;have f4:=f0 3;have f5:=f0 4
    have HW:=Lib.hid hwW
    clear hd hat CF CL hwW hWs hblk f0
    go_enter Tryz.func92,Tryz.ntmps92
    go_upto_region 1 with fail
    rw [← hW]
    have HWe:=Lib.hid hW
    clear hW
    go_wp2_with (first
      | (go_at_call 128;(with_reducible refine Calls.mono CF0.out ?_);rintro e w1 ⟨rfl,rfl⟩))
    refine bodyPost_ret (v:=.tuple #[.agg #[.int .i64 0,.slice none 0 0,.int .i64 0,.int .i64 0,.string ⟨#[]⟩],.int .i64 ((7:Nat):Int)]) (by simp [results,Tryz.results92,go_sem,r0,r1,r2,r3,r4]) rfl (DoPost.no ?_ 7 Hd.out (by decide))
    exact ((((HW.out.setCell (by simp) _).setCell (by simp) _).setCell (by simp) _).setCell (by simp) _).setCell (by simp) _
  | some x =>
    cases x with
    | node xl xks =>
    have CF1:Hid (Calls Tryz.prog 128 #[.pointer (some ⟨B,0,none⟩),.slice pa p.length pc] W fun e w'=>W=w'∧∃ b' o' lo' hi',e=.returned (.pointer (some ⟨b',o',none⟩))∧Spot W B 0 lo hi t p b' o' lo' hi' (.node xl xks)):=Lib.hid (CF.out.mono fun e w' ⟨h1,h2⟩=>⟨h1,by
      rcases h2 with h | ⟨b',o',lo',hi',x,he,h,_⟩
      · rw [h.1] at hat;cases hat
      · have:=h.at';rw [hat] at this;cases this;exact ⟨b',o',lo',hi',he,h⟩⟩)
    have hd:=doneT_some ⟨1,p,0,0,s⟩ (by simp) p t _ hat
    have hb:backD t ⟨1,p,0,0,s⟩=⟨1,p,0,0,xl⟩:=by unfold backD;rw [if_neg (by simp),if_neg (by simp)];simp only [hat];rfl
    have Hd:=Lib.hid hd
    have Hb:=Lib.hid hb
    have HW:=Lib.hid hwW
    have Hblk:=Lib.hid hblk
    have HWs:=Lib.hid hWs
    clear hd hb hat CF hwW hblk hWs
    go_enter Tryz.func92,Tryz.ntmps92
    go_upto_region 1 with fail
    rw [← hW]
    clear hW
    go_upto_region 6 with (first
      | (go_at_call 128;(with_reducible refine Calls.mono CF1.out ?_);rintro e w1 ⟨rfl,b',o',lo',hi',rfl,hsp⟩))
    obtain ⟨oa,cap,d0,d1,hxk,hxl⟩:=hsp.cells
    have Hsp:=Lib.hid hsp
    have hbl:=hsp.blk_lt
    have hfr:=hsp.free o'
    clear hsp
    go_cut [7] from 23 to 30 (fun v7 wx=>∃ Bk ob cb,v7=.pointer (some ⟨Bk,0,none⟩)∧wx.heap[Bk]? = some (.cells #[.int .i64 1,.slice ob p.length cb,.int .i64 0,.int .i64 0,.string xl] 72 (0,0))∧W.heap.size≤Bk∧Ints (From W.heap.size) wx p ob cb∧Pr W wx)
    have e1:W.drew.cell? ⟨w.heap.size,1,none⟩=some (.slice pa p.length pc):=s1
    have e2:W.drew.cell? ⟨b',o',none⟩=some (.string xl):=d0
    have p1:∀ o,(W.alloc o).drew.cell? ⟨w.heap.size,1,none⟩=some (.slice pa p.length pc):=fun o=>(Pr.drew' (Pr.alloc _ _)).cell s1
    have p2:∀ o,(W.alloc o).drew.cell? ⟨b',o',none⟩=some (.string xl):=fun o=>(Pr.drew' (Pr.alloc _ _)).cell d0
    have p3:∀ o,(W.alloc o).cell? ⟨w.heap.size,1,none⟩=some (.slice pa p.length pc):=fun o=>(Pr.alloc _ _).cell s1
    have p4:∀ o,(W.alloc o).cell? ⟨b',o',none⟩=some (.string xl):=fun o=>(Pr.alloc _ _).cell d0
    have hwl:w.heap.size < W.heap.size:=by rw [HWs.out];omega
    case first =>
      go_region_held3 (fun W'=>W'.cell? ⟨w.heap.size,1,none⟩=some (.slice pa p.length pc)∧W'.cell? ⟨b',o',none⟩=some (.string xl)) (first | with_reducible exact ⟨s1,d0⟩ | with_reducible exact ⟨e1,e2⟩ | with_reducible exact ⟨q1,q2⟩ | with_reducible exact ⟨p1 _,p2 _⟩ | with_reducible exact ⟨p3 _,p4 _⟩ | with_reducible exact ⟨q3 _,q4 _⟩ | exact ⟨(cell_far (cell_far (cell_far (cell_far (cell_far q1 (by simp;omega)) (by simp;omega)) (by simp;omega)) (by simp;omega)) (by simp;omega)),(cell_far (cell_far (cell_far (cell_far (cell_far q2 (by simp;omega)) (by simp;omega)) (by simp;omega)) (by simp;omega)) (by simp;omega))⟩)
        (first
          | (go_at_call 129;(with_reducible refine Calls.mono (CL.out _ (Pr.drew W)) ?_);rintro e w2 ⟨⟨ob,cb,rfl,hob⟩,hb⟩;have q1:=hb.cell e1;have q2:=hb.cell e2;have q3:=fun o=>(Pr.alloc w2 o).cell q1;have q4:=fun o=>(Pr.alloc w2 o).cell q2)
          | (go_at_call 129;(with_reducible refine Calls.mono (CL.out _ (Pr.drew' (Pr.alloc _ _))) ?_);rintro e w2 ⟨⟨ob,cb,rfl,hob⟩,hb⟩;have z:=hb.blk ((Pr.drew _).blk (heap_alloc_new W _));have z0:w2.cell? ⟨W.heap.size,0,none⟩=some (.int .i64 0):=blk_cell z;have z1:w2.cell? ⟨W.heap.size,1,none⟩=some (.slice none 0 0):=blk_cell z;have z2:w2.cell? ⟨W.heap.size,2,none⟩=some (.int .i64 0):=blk_cell z;have z3:w2.cell? ⟨W.heap.size,3,none⟩=some (.int .i64 0):=blk_cell z;have z4:w2.cell? ⟨W.heap.size,4,none⟩=some (.string ⟨#[]⟩):=blk_cell z;have y0:w2.frozen? ⟨W.heap.size,0,none⟩=false:=blk_frozen z;have y1:w2.frozen? ⟨W.heap.size,1,none⟩=false:=blk_frozen z;have y2:w2.frozen? ⟨W.heap.size,2,none⟩=false:=blk_frozen z;have y3:w2.frozen? ⟨W.heap.size,3,none⟩=false:=blk_frozen z;have y4:w2.frozen? ⟨W.heap.size,4,none⟩=false:=blk_frozen z;have Hz:=Lib.hid z;clear z;have q1:=hb.cell (p1 _);have q2:=hb.cell (p2 _);have q3:=fun o=>(Pr.alloc w2 o).cell q1;have q4:=fun o=>(Pr.alloc w2 o).cell q2))
      all_goals
        go_wp2_with fail
        go_meet
      case rel=>exact ⟨w2.heap.size,ob,cb,rfl,heap_alloc_new w2 _,by have:=hb.size;simpa using this,Flat.pr (Pr.alloc _ _) hob,((Pr.drew W).trans hb).alloc' _⟩
      case rel=>exact ⟨W.heap.size,ob,cb,rfl,set5_blk _ _ _ _ _ Hz.out,Nat.le_refl _,Flat.mono (fun k h _=>by have:W.heap.size+1≤k:=(by simpa using h);show W.heap.size≤k;omega) (hob.kept (set5_kept _ _ _ _ _ (by simp))),set5_pr _ _ _ _ _ (((Pr.alloc _ _).drew').trans hb) (Nat.le_refl _)⟩
    case rest =>
      obtain ⟨Bk,ob,cb,rfl,hbk,hbw,hob,hpw⟩:=hcut
      obtain ⟨w2,hw2⟩:∃ w2,w2=wc:=⟨_,rfl⟩
      subst hw2
      have z0:w2.cell? ⟨Bk,0,none⟩=some (.int .i64 1):=blk_cell hbk
      have z1:w2.cell? ⟨Bk,1,none⟩=some (.slice ob p.length cb):=blk_cell hbk
      have z2:w2.cell? ⟨Bk,2,none⟩=some (.int .i64 0):=blk_cell hbk
      have z3:w2.cell? ⟨Bk,3,none⟩=some (.int .i64 0):=blk_cell hbk
      have z4:w2.cell? ⟨Bk,4,none⟩=some (.string xl):=blk_cell hbk
      have t4:=hpw.cell s4
      have t5:=hpw.cell d0
      have t6:w2.frozen? ⟨b',o',none⟩=false:=by rw [hpw.frozen hbl];exact hfr
      have hr:=hpw.blk Hblk.out
      have r0:w2.cell? ⟨w.heap.size+1,0,none⟩=some (.int .i64 0):=blk_cell hr
      have r1:w2.cell? ⟨w.heap.size+1,1,none⟩=some (.slice none 0 0):=blk_cell hr
      have r2:w2.cell? ⟨w.heap.size+1,2,none⟩=some (.int .i64 0):=blk_cell hr
      have r3:w2.cell? ⟨w.heap.size+1,3,none⟩=some (.int .i64 0):=blk_cell hr
      have r4:w2.cell? ⟨w.heap.size+1,4,none⟩=some (.string ⟨#[]⟩):=blk_cell hr
      have f0:∀ j,w2.frozen? ⟨w.heap.size+1,j,none⟩=false:=fun j=>blk_frozen hr
      have f1:=f0 0;have f2:=f0 1;have f3:=f0 2;have f4:=f0 3;have f5:=f0 4
      have hbw2:b' < w.heap.size:=by rcases Hsp.out.blk with h | h <;> omega
      have n1:b'≠Bk:=by omega
      have n2:b'≠w.heap.size+1:=by omega
      have n3:Bk≠w.heap.size+1:=by have:=HWs.out;omega
      have Hbk:=Lib.hid hbk;have Hob:=Lib.hid hob;have Hpw:=Lib.hid hpw;have Hr:=Lib.hid hr
      clear f0 hbk hob hpw hr
      go_wp2_with fail
      have hch:Chg (fun k=>k=b') w (set5 (w2.setCell ⟨b',o',none⟩ (.string s)) (w.heap.size+1) (.int .i64 1) (.slice ob p.length cb) (.int .i64 0) (.int .i64 0) (.string xl)):=by
        have h0:=((HW.out.trans Hpw.out).chg (fun k=>k=b')).setCell ⟨b',o',none⟩ (.string s) (.inl rfl)
        exact ((((h0.setCell _ _ (.inr (by simp))).setCell _ _ (.inr (by simp))).setCell _ _ (.inr (by simp))).setCell _ _ (.inr (by simp))).setCell _ _ (.inr (by simp))
      have hcell:∀ j,(set5 (w2.setCell ⟨b',o',none⟩ (.string s)) (w.heap.size+1) (.int .i64 1) (.slice ob p.length cb) (.int .i64 0) (.int .i64 0) (.string xl)).cell? ⟨b',j,none⟩=(w2.setCell ⟨b',o',none⟩ (.string s)).cell? ⟨b',j,none⟩:=fun j=>World.cell?_of_block (set5_heap _ _ _ _ _ n2)
      have hw2:∀ j,w2.cell? ⟨b',j,none⟩=w.cell? ⟨b',j,none⟩:=fun j=>Below.cell (HW.out.trans Hpw.out) (p:=⟨b',j,none⟩) hbw2
      have hI:Ints (From w.heap.size) (set5 (w2.setCell ⟨b',o',none⟩ (.string s)) (w.heap.size+1) (.int .i64 1) (.slice ob p.length cb) (.int .i64 0) (.int .i64 0) (.string xl)) p ob cb:=by
        have h1:Kept (fun k=>k≠b'∧k≠w.heap.size+1) w2 (set5 (w2.setCell ⟨b',o',none⟩ (.string s)) (w.heap.size+1) (.int .i64 1) (.slice ob p.length cb) (.int .i64 0) (.int .i64 0) (.string xl)):=fun k hk _=>by
          rw [set5_heap _ _ _ _ _ hk.2,Below.heap_setCell _ _ _ _ hk.1]
        exact Flat.mono (fun k h _=>h.2) ((Hob.out.mono (S':=fun k=>(k≠b'∧k≠w.heap.size+1)∧w.heap.size≤k) (fun k h _=>by have h2:W.heap.size≤k:=h;have:=HWs.out;omega)).kept (fun k hk hl=>h1 k hk.1 hl))
      refine bodyPost_ret (v:=.tuple #[.agg #[.int .i64 1,.slice ob p.length cb,.int .i64 0,.int .i64 0,.string xl],.int .i64 0]) (by simp [results,Tryz.results92,go_sem,r0,r1,r2,r3,r4]) rfl ⟨hch.only Hsp.out.blk,.inr ⟨by rw [Hd.out];rfl,ob,cb,by rw [Hb.out],by rw [Hb.out];exact hI,?_⟩⟩
      · rw [Hd.out]
        refine do_final HW.out Hsp.out hBl hhi hbase hch (fun j h1 h2=>?_) ?_ ?_ (treeV_mk cap hs (do_kids HW.out Hsp.out hhi hbase hch hxk))
        · rw [hcell,cell_off h1,hw2]
        · rw [hcell];simp [go_sem,t5]
        · rw [hcell,cell_off (by omega),Below.cell Hpw.out (p:=⟨b',o'+1,none⟩) hbl];exact d1
end Go.Proofs.YtdbnfhpgmcjngabGreatDoor
