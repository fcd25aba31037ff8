/- Walks: the document's deed done: a node inserted. -/
import Derived.Test.YtdbnfhpgmcjngacGreatBva
namespace Go.Proofs.YtdbnfhpgmcjngacGreat
open Go Go.RowKit
theorem szL_dropL:∀ (ks:List Tr) (n:Nat),Tr.szL (ks.drop n)≤Tr.szL ks
  | [],n=>by simp
  | _ :: _,0=>by simp
  | k :: ks,n+1=>by have:=szL_dropL ks n;simp only [List.drop_succ_cons,Tr.szL_cons];omega
section
variable {S:Nat→Prop} {l:ByteArray} {ks:List Tr} {oa:Option Addr} {cap:Nat} {k:Int} {n m:Nat} {s:ByteArray} {pa:Option Addr} {np pc:Nat} {qa:Option Addr} {qc:Nat} {w:World}
def insP (ks:List Tr) (s:ByteArray) (n m:Nat):List Tr:=ks.take n ++ [.node s ((ks.drop n).take m)] ++ ks.drop (n+m)
set_option maxRecDepth 100000 in
set_option maxHeartbeats 6400000 in
theorem rdone_ins (hl:l.size≤maxLen) (hs:s.size≤maxLen) (hsz:Tr.szL ks≤1000000) (hk:Kids S w ks oa cap) (hk3:k=3) (hnm:n+m≤ks.length) :
    Calls Tryz.prog 31 #[.agg #[.string l,.slice oa ks.length cap],.agg #[.int .i64 k,.slice pa np pc,.int .i64 (n:Int),.int .i64 (m:Int),.string s],.slice qa 0 qc] w (DonePost S (.node l (insP ks s n m),0) w):=by
  have hm:=hk.len
  have hcap:=hk.1.1
  have hcm:cap≤9223372036854775807:=by have:=hk.1.2;unfold maxLen at this;omega
  obtain ⟨W,hW⟩:∃ W,W=((w.alloc (.cells #[.string l,.slice oa ks.length cap] 34)).alloc (.cells #[.int .i64 k,.slice pa np pc,.int .i64 (n:Int),.int .i64 (m:Int),.string s] 25)).alloc (.cells #[.string ⟨#[]⟩,.slice none 0 0] 34):=⟨_,rfl⟩
  have hwW:Pr w W:=by rw [hW];exact ((Pr.alloc _ _).alloc' _).alloc' _
  have hWs:W.heap.size=w.heap.size+3:=by rw [hW];simp
  have s0:=stays (show W.cell? ⟨w.heap.size,0,none⟩=some (.string l) by rw [hW];simp [go_sem])
  have s1:=stays (show W.cell? ⟨w.heap.size,1,none⟩=some (.slice oa ks.length cap) by rw [hW];simp [go_sem])
  have d0:=stays (show W.cell? ⟨w.heap.size+1,0,none⟩=some (.int .i64 k) by rw [hW];simp [go_sem])
  have d1:=stays (show W.cell? ⟨w.heap.size+1,1,none⟩=some (.slice pa np pc) by rw [hW];simp [go_sem])
  have d2:=stays (show W.cell? ⟨w.heap.size+1,2,none⟩=some (.int .i64 (n:Int)) by rw [hW];simp [go_sem])
  have d3:=stays (show W.cell? ⟨w.heap.size+1,3,none⟩=some (.int .i64 (m:Int)) by rw [hW];simp [go_sem])
  have d4:=stays (show W.cell? ⟨w.heap.size+1,4,none⟩=some (.string s) by rw [hW];simp [go_sem])
  have hR:W.heap[w.heap.size+1+1]? = some (.cells #[.string ⟨#[]⟩,.slice none 0 0] 34 (0,0)):=by
    rw [hW];simpa using heap_alloc_new ((w.alloc (.cells #[.string l,.slice oa ks.length cap] 34)).alloc (.cells #[.int .i64 k,.slice pa np pc,.int .i64 (n:Int),.int .i64 (m:Int),.string s] 25)) (.cells #[.string ⟨#[]⟩,.slice none 0 0] 34)
  have HR:=Lib.hid hR;have HW:=Lib.hid hwW;have HWs:=Lib.hid hWs;have HK:=Lib.hid ((hk.mono (S':=fun j=>S j∧j < w.heap.size) (fun j h1 h2=>⟨h1,h2⟩)).pr hwW)
  clear hR hk
  have hws1:w.heap.size+3≤W.heap.size:=by omega
  have hkl:=Tr.length_le ks
  have e1:decide ((ks.length:Int) < (n:Int))=false:=by simp;omega
  have e1':decide (ks.length < n)=false:=by simp;omega
  have e2:decide ((ks.length:Int) - (n:Int) < (m:Int))=false:=by simp;omega
  have a1:(0:Int)≤n:=by omega
  have a2:(n:Int)≤cap:=by omega
  have a3:(n:Int)≤ks.length:=by omega
  have a4:(0:Int)≤(n:Int)+m:=by omega
  have a5:(n:Int)+m≤ks.length:=by omega
  have a6:(n:Int)+m≤cap:=by omega
  have a7:(ks.length:Int)≤cap:=by omega
  have a8:(n:Int)≤(n:Int)+m:=by omega
  have u1:IntKind.i64.wrap ((n:Int)+m)=(n:Int)+m:=IntWalk.i64_in _ (by omega)
  have u2:((n:Int)+m).toNat=n+m:=by omega
  subst hk3
  clear hwW hWs
  go_enter Tryz.func31,Tryz.ntmps31
  go_upto_region 1 with fail
  rw [← hW];clear hW
  have y0:=d0 _ (Pr.refl _);have y3:=s0 _ (Pr.refl _)
  have y1:=fun o=>d0 _ (Pr.alloc W o)
  go_upto_region 14 with fail
  obtain ⟨V,hV⟩:∃ V,V=W.alloc (.cells #[.string l,.slice none 0 0] 34):=⟨_,rfl⟩
  have hwV:Pr W V:=by rw [hV];exact Pr.alloc _ _
  have hVs:V.heap.size=W.heap.size+1:=by rw [hV];simp
  have hT:V.heap[W.heap.size]? = some (.cells #[.string l,.slice none 0 0] 34 (0,0)):=by rw [hV];exact heap_alloc_new _ _
  rw [← hV]
  clear hV y0 y1 y3
  have s1:=stays (s1 _ hwV);have d2:=stays (d2 _ hwV);have d3:=stays (d3 _ hwV);have d4:=stays (d4 _ hwV)
  have HR2:=Lib.hid (hwV.blk HR.out);have HT:=Lib.hid hT;have HW2:=Lib.hid (HW.out.trans hwV);have HK2:=Lib.hid (HK.out.pr hwV)
  have hvs1:W.heap.size+1≤V.heap.size:=by omega
  clear hVs hT hwV HR HK HW
  have x1:=s1 _ (Pr.refl _);have x2:=d2 _ (Pr.refl _);have x3:=d3 _ (Pr.refl _)
  go_upto_region 16 with fail
  clear x1 x2 x3 e1 e1' e2
  obtain ⟨mid,hmid⟩:∃ mid,mid=(ks.drop n).take m:=⟨_,rfl⟩
  have hslen:mid.length=m:=by rw [hmid];simp;omega
  have hssz:Tr.szL mid≤1000000:=by rw [hmid];exact Nat.le_trans (Nat.le_trans (Tr.szL_take_le _ _) (szL_dropL _ _)) hsz
  have Hslen:=Lib.hid hslen;have Hmid:=Lib.hid hmid
  clear hmid hslen
  go_cut [15] from 84 to 97 (fun v15 wx=>∃ B ob cb,v15=.pointer (some ⟨B,0,none⟩)∧wx.heap[B]? = some (.cells #[.string s,.slice ob mid.length cb] 34 (0,0))∧V.heap.size≤B∧Kids (From V.heap.size) wx mid ob cb∧Pr V wx)
  case first =>
    by_cases hc:cap=n
    case pos =>
      have hm0:m=0:=by omega
      have hn0:ks.length=n:=by omega
      have Hn0:=Lib.hid hn0
      clear hn0
      subst hm0
      subst hc
      clear a4 a5 a6 a8 u1 u2
      have d3:∀ W',Pr V W'→W'.cell? ⟨w.heap.size+1,3,none⟩=some (.int .i64 0):=d3
      have b1:(0:Int)≤cap:=by omega
      have b2:IntKind.i64.wrap (cap:Int)=cap:=IntWalk.i64_in _ (by omega)
      have OL:Hid (∀ W',Pr V W'→Calls Tryz.prog 42 #[.slice oa 0 0] W' (OwnListPost W' mid)):=Lib.hid fun W' _=>by
        have h0:mid=[]:=List.eq_nil_of_length_eq_zero Hslen.out
        rw [h0];exact rownList_any [] oa 0 W' (by simp) (Kids.nil _ _ _ _ (Nat.zero_le _))
      go_region_held3 (fun W'=>Pr V W')
        (first | with_reducible exact Pr.drew V | with_reducible exact (Pr.alloc _ _).drew' | with_reducible exact hp | with_reducible exact hp.alloc' _ | exact (hp.setCell (Nat.le_refl _) _).setCell (Nat.le_refl _) _)
        (first
          | (go_at_call 42;(with_reducible refine Calls.mono (OL.out _ (Pr.drew V)) ?_);rintro e w5 ⟨v5,rfl,hown,hb⟩;obtain ⟨ob,cb,rfl,hkb⟩:=hown.kids;have hp:=(Pr.drew V).trans hb)
          | (go_at_call 42;(with_reducible refine Calls.mono (OL.out _ (Pr.drew' (Pr.alloc _ _))) ?_);rintro e w5 ⟨v5,rfl,hown,hb⟩;obtain ⟨ob,cb,rfl,hkb⟩:=hown.kids;have hp:=((Pr.alloc _ _).drew').trans hb;have z:=hb.blk ((Pr.drew _).blk (heap_alloc_new V _));have z0:w5.cell? ⟨V.heap.size,0,none⟩=some (.string ⟨#[]⟩):=blk_cell z;have z1:w5.cell? ⟨V.heap.size,1,none⟩=some (.slice none 0 0):=blk_cell z;have z2:w5.frozen? ⟨V.heap.size,0,none⟩=false:=blk_frozen z;have z3:w5.frozen? ⟨V.heap.size,1,none⟩=false:=blk_frozen z;have Hz:=Lib.hid z;clear z))
      all_goals
        go_wp2_with fail
        go_meet
      case rel=>exact ⟨w5.heap.size,ob,cb,rfl,heap_alloc_new w5 _,hp.size,(hkb.pr (Pr.alloc _ _)).mono (fun j hj _=>by have hj':V.heap.size≤j:=(by simpa using hj);exact hj'),hp.alloc' _⟩
      case rel=>exact ⟨V.heap.size,ob,cb,rfl,blk_set (o:=1) (blk_set (o:=0) Hz.out _) _,Nat.le_refl _,((hkb.setCell _ _ (by show ¬ _≤_;simp)).setCell _ _ (by show ¬ _≤_;simp)).mono (fun j hj _=>by have hj':V.heap.size+1≤j:=(by simpa using hj);show V.heap.size≤j;omega),(hp.setCell (Nat.le_refl _) _).setCell (Nat.le_refl _) _⟩
    case neg =>
      have a9:¬ cap=n:=hc
      have OL:Hid (∀ W',Pr V W'→Calls Tryz.prog 42 #[.slice (Option.map (fun x=>x.add (n * 2)) oa) m (cap - n)] W' (OwnListPost W' mid)):=Lib.hid fun W' h=>by
        have hk:=((HK2.out.pr h).cutL n (by omega)).cutP m (by simp;omega)
        rw [← Hmid.out] at hk
        have:=rownList_any _ _ (cap - n) W' hssz hk.any
        rw [Hslen.out] at this;exact this
      go_region_held3 (fun W'=>Pr V W')
        (first | with_reducible exact Pr.drew V | with_reducible exact (Pr.alloc _ _).drew' | with_reducible exact hp | with_reducible exact hp.alloc' _ | exact (hp.setCell (Nat.le_refl _) _).setCell (Nat.le_refl _) _)
        (first
          | (go_at_call 42;(with_reducible refine Calls.mono (OL.out _ (Pr.drew V)) ?_);rintro e w5 ⟨v5,rfl,hown,hb⟩;obtain ⟨ob,cb,rfl,hkb⟩:=hown.kids;have hp:=(Pr.drew V).trans hb)
          | (go_at_call 42;(with_reducible refine Calls.mono (OL.out _ (Pr.drew' (Pr.alloc _ _))) ?_);rintro e w5 ⟨v5,rfl,hown,hb⟩;obtain ⟨ob,cb,rfl,hkb⟩:=hown.kids;have hp:=((Pr.alloc _ _).drew').trans hb;have z:=hb.blk ((Pr.drew _).blk (heap_alloc_new V _));have z0:w5.cell? ⟨V.heap.size,0,none⟩=some (.string ⟨#[]⟩):=blk_cell z;have z1:w5.cell? ⟨V.heap.size,1,none⟩=some (.slice none 0 0):=blk_cell z;have z2:w5.frozen? ⟨V.heap.size,0,none⟩=false:=blk_frozen z;have z3:w5.frozen? ⟨V.heap.size,1,none⟩=false:=blk_frozen z;have Hz:=Lib.hid z;clear z))
      all_goals
        go_wp2_with fail
        go_meet
      case rel=>exact ⟨w5.heap.size,ob,cb,rfl,heap_alloc_new w5 _,hp.size,(hkb.pr (Pr.alloc _ _)).mono (fun j hj _=>by have hj':V.heap.size≤j:=(by simpa using hj);exact hj'),hp.alloc' _⟩
      case rel=>exact ⟨V.heap.size,ob,cb,rfl,blk_set (o:=1) (blk_set (o:=0) Hz.out _) _,Nat.le_refl _,((hkb.setCell _ _ (by show ¬ _≤_;simp)).setCell _ _ (by show ¬ _≤_;simp)).mono (fun j hj _=>by have hj':V.heap.size+1≤j:=(by simpa using hj);show V.heap.size≤j;omega),(hp.setCell (Nat.le_refl _) _).setCell (Nat.le_refl _) _⟩
  case rest =>
    obtain ⟨B,ob,cb,rfl,hB,hVB,hkm,hpx⟩:=hcut
    obtain ⟨wx,hwx⟩:∃ wx,wx=wc:=⟨_,rfl⟩
    subst hwx
    have hBx:=blk_lt hB
    have hsx:=hpx.size
    have XV1:∀ W',Chg (fun j=>j=W.heap.size) V W'→W'.cell? ⟨w.heap.size,1,none⟩=some (.slice oa ks.length cap):=fun W' h=>chgC h (s1 _ (Pr.refl _)) (by omega)
    have XV2:∀ W',Chg (fun j=>j=W.heap.size) V W'→W'.cell? ⟨w.heap.size+1,2,none⟩=some (.int .i64 (n:Int)):=fun W' h=>chgC h (d2 _ (Pr.refl _)) (by omega)
    have XV3:∀ W',Chg (fun j=>j=W.heap.size) V W'→W'.cell? ⟨w.heap.size+1,3,none⟩=some (.int .i64 (m:Int)):=fun W' h=>chgC h (d3 _ (Pr.refl _)) (by omega)
    have KV:Hid (∀ W',Chg (fun j=>j=W.heap.size) V W'→Kids (fun j=>S j∧j < w.heap.size) W' ks oa cap):=Lib.hid fun W' h=>HK2.out.carry fun j hj hl=>⟨h.block j hl (by have:=hj.2;omega),hj⟩
    have HVx:=Lib.hid hpx;have HR2':=Lib.hid HR2.out;have HW2':=Lib.hid HW2.out
    have HTx:=Lib.hid (hpx.blk HT.out);have HRx:=Lib.hid (hpx.blk HR2.out);have Hpx:=Lib.hid (HW2.out.trans hpx);have HKx:=Lib.hid (HK2.out.pr hpx);have Hkm:=Lib.hid hkm
    have X1:∀ W',Chg (fun j=>j=W.heap.size) wx W'→W'.cell? ⟨w.heap.size,1,none⟩=some (.slice oa ks.length cap):=fun W' h=>chgC h (s1 _ hpx) (by omega)
    have X2:∀ W',Chg (fun j=>j=W.heap.size) wx W'→W'.cell? ⟨w.heap.size+1,2,none⟩=some (.int .i64 (n:Int)):=fun W' h=>chgC h (d2 _ hpx) (by omega)
    have X3:∀ W',Chg (fun j=>j=W.heap.size) wx W'→W'.cell? ⟨w.heap.size+1,3,none⟩=some (.int .i64 (m:Int)):=fun W' h=>chgC h (d3 _ hpx) (by omega)
    have K0:∀ W',Chg (fun j=>j=W.heap.size) wx W'→W'.cell? ⟨B,0,none⟩=some (.string s):=fun W' h=>chgC h (blk_cell hB) (by omega)
    have K1:∀ W',Chg (fun j=>j=W.heap.size) wx W'→W'.cell? ⟨B,1,none⟩=some (.slice ob mid.length cb):=fun W' h=>chgC h (blk_cell hB) (by omega)
    have KC:Hid (∀ W',Chg (fun j=>j=W.heap.size) wx W'→Kids (fun j=>S j∧j < w.heap.size) W' ks oa cap):=Lib.hid fun W' h=>HKx.out.carry fun j hj hl=>⟨h.block j hl (by have:=hj.2;omega),hj⟩
    have MC:Hid (∀ W',Chg (fun j=>j=W.heap.size) wx W'→Kids (fun j=>V.heap.size≤j∧j < wx.heap.size) W' mid ob cb):=Lib.hid fun W' h =>
      (hkm.mono (S':=fun j=>V.heap.size≤j∧j < wx.heap.size) (fun j h1 h2=>⟨h1,h2⟩)).carry fun j hj hl=>⟨h.block j hl (by have:=hj.1;omega),hj⟩
    obtain ⟨fr,hfr⟩:∃ fr,fr=ks.take n:=⟨_,rfl⟩
    have hfl:fr.length=n:=by rw [hfr,List.length_take];omega
    have OL:Hid (∀ W',Chg (fun j=>j=W.heap.size) wx W'→Calls Tryz.prog 42 #[.slice oa n cap] W' (OwnListPost W' fr)):=Lib.hid fun W' h=>by
      have:=rownList_any (ks.take n) oa cap W' (Nat.le_trans (Tr.szL_take_le _ _) hsz) (((KC.out W' h).cutP n (by omega)).any)
      rw [← hfr,hfl] at this;exact this
    have Hfr:=Lib.hid hfr;have Hfl:=Lib.hid hfl
    have hn9:fr.length≤1000000:=by omega
    clear hfr hfl
    clear hB hkm hpx s1 d2 d3 d4 HT HR2 HW2 HK2
    go_upto_region 17 with fail
    go_cut [17] from 98 to 107 (fun _ wy=>∃ og cg,OwnsTs V.heap.size wy (.slice og (fr.length+1) cg) (fr ++ [.node s mid])∧wy.heap[W.heap.size]? = some (.cells #[.string l,.slice og (fr.length+1) cg] 34 (0,0))∧Chg (fun j=>j=W.heap.size) wx wy)
    case first =>
      go_region_held3 (fun W'=>Chg (fun j=>j=W.heap.size) wx W')
        (first | exact (Pr.drew wx).chg _ | exact hc | exact Chg.pr (by assumption) (Pr.alloc _ _) | exact Chg.setCell hc _ _ (.inl rfl))
        (first
          | (go_at_call 42;(with_reducible refine Calls.mono (OL.out _ (by assumption)) ?_);rintro e w5 ⟨v5,rfl,hown,hb⟩;have hbk:=hb.blk ((Pr.drew _).blk (heap_alloc_new wx _));have hpw:=((Pr.alloc wx _).drew').trans hb;have hc:=hpw.chg (fun j=>j=W.heap.size);have hTw:=Lib.hid (hpw.blk HTx.out);have n1:v5.ownBlock≠some W.heap.size:=fun e=>(by have:=(hown.block _ e).1;simp at this;omega);obtain ⟨o5,c5,rfl,-⟩:=hown.kids)
          | (go_at_call 42;(with_reducible refine Calls.mono (OL.out _ (by assumption)) ?_);rintro e w5 ⟨v5,rfl,hown,hb⟩;have hpw:=(Pr.drew wx).trans hb;have hc:=hpw.chg (fun j=>j=W.heap.size);have hTw:=Lib.hid (hpw.blk HTx.out);have n1:v5.ownBlock≠some W.heap.size:=fun e=>(by have:=(hown.block _ e).1;simp at this;omega);obtain ⟨o5,c5,rfl,-⟩:=hown.kids)
          | (refine step_tree rfl _ _ rfl V.heap.size (.slice o5 fr.length c5) fr rfl ((hown.mono (by simp;omega)).pr (Pr.alloc _ _)) w5.heap.size rfl (.node s mid) _ _ (heap_alloc_new w5 _) (treeV_mk cb hs ((MC.out _ (hc.pr (Pr.alloc _ _))).mono (fun j hj _=>⟨hj.1,fun e=>by have:=(hown.block j e).1;simp at this;omega⟩))) (by omega) (by have:=hpw.size;simp;omega) ?_;intro g6 c6 w6 ho6 hg6 hat6;have B6:=Lib.hid (grown_blk hg6 ((Pr.alloc w5 _).blk hTw.out) n1);have t4:=blk_frozen (o:=1) B6.out;have t5:=blk_cell (o:=1) B6.out;have hc:=(hc.pr (Pr.alloc w5 (.cells #[.string s,.slice ob mid.length cb] 34))).trans (chg_grown hg6) (fun j hj=>.inr (by have:=(hown.block j hj).1;simpa using this)))
          | (refine step_tree rfl _ _ rfl V.heap.size (.slice o5 fr.length c5) fr rfl (hown.mono (by simp;omega)) wx.heap.size rfl (.node s mid) _ _ hbk (treeV_mk cb hs ((MC.out _ hc).mono (fun j hj _=>⟨hj.1,fun e=>by have:=(hown.block j e).1;simp at this;omega⟩))) (by omega) (by have:=hpw.size;omega) ?_;intro g6 c6 w6 ho6 hg6 hat6;have B6:=Lib.hid (grown_blk hg6 hTw.out n1);have t4:=blk_frozen (o:=1) B6.out;have t5:=blk_cell (o:=1) B6.out;have hc:=hc.trans (chg_grown hg6) (fun j hj=>.inr (by have:=(hown.block j hj).1;simp at this;omega))))
      all_goals
        go_wp2_with fail
        go_meet
      case rel=>exact ⟨some ⟨g6,0,none⟩,c6,ho6.setCell _ _ (by simp;omega),blk_set (o:=1) B6.out _,hc.setCell _ _ (.inl rfl)⟩
      case rel=>exact ⟨some ⟨g6,0,none⟩,c6,ho6.setCell _ _ (by simp;omega),blk_set (o:=1) B6.out _,hc.setCell _ _ (.inl rfl)⟩
    case rest =>
      obtain ⟨og,cg,hown,hTb,hcy⟩:=hcut
      obtain ⟨wy,hwy⟩:∃ wy,wy=wc:=⟨_,rfl⟩
      subst hwy
      have hsy:=hcy.size
      have HTy:=Lib.hid hTb;have Hcy:=Lib.hid hcy
      have g1:=blk_cell (o:=1) hTb
      have n1:(Value.slice og (fr.length+1) cg).ownBlock≠some W.heap.size:=fun e=>by have:=(hown.block _ e).1;omega
      obtain ⟨bk,hbk⟩:∃ bk,bk=ks.drop (n+m):=⟨_,rfl⟩
      have hbl:bk.length=ks.length - (n+m):=by rw [hbk,List.length_drop]
      have hbsz:Tr.szL bk≤1000000:=by rw [hbk];exact Nat.le_trans (szL_dropL _ _) hsz
      have hb9:bk.length≤1000000:=by omega
      have Hbk:=Lib.hid hbk;have Hbl:=Lib.hid hbl
      have HcV:=Lib.hid ((HVx.out.chg (fun j=>j=W.heap.size)).trans hcy (fun _ h=>.inl h))
      clear hTb hbk hbl OL K0 K1 X1 X2 X3
      by_cases hc2:cap=n+m
      case pos =>
        have hkn:ks.length=n+m:=by omega
        have X1':∀ W',Chg (fun j=>j=W.heap.size) V W'→W'.cell? ⟨w.heap.size,1,none⟩=some (.slice oa (n+m) (n+m)):=fun W' h=>by rw [XV1 W' h,hkn,hc2]
        have OL2:Hid (∀ W',Chg (fun j=>j=W.heap.size) V W'→Calls Tryz.prog 42 #[.slice oa 0 0] W' (OwnListPost W' bk)):=Lib.hid fun W' _=>by
          have h0:bk=[]:=List.eq_nil_of_length_eq_zero (by rw [Hbl.out];omega)
          rw [h0];exact rownList_any [] oa 0 W' (by simp) (Kids.nil _ _ _ _ (Nat.zero_le _))
        have Hc2:=Lib.hid hc2;have Hkn:=Lib.hid hkn
        clear XV1 hc2 hkn
        go_upto_region 18 with fail
        have tt:=blk_cell (o:=1) HTy.out
        refine wp_region_held_drew (S:=fun W'=>Chg (fun j=>j=W.heap.size) V W') (by kernel_rfl) (HcV.out.pr (Pr.drew wy)) (fun hHeld=>?_)
        refine wpAnyH_take (i:=0) (v:=?_) rfl (by kernel_rfl) (by kernel_rfl) (by kernel_rfl) (fun _ _ _ h=>h) (Or.inl ⟨by rfl,?_⟩) (by assumption) ?_
        rotate_left
        · (intro w hSw;(try dsimp only at hSw);go_simp) <;> with_reducible rfl
        try simp only [Act.put,List.setIfInBounds_toArray]
        refine wpAnyH_take (i:=2) (v:=?_) rfl (by kernel_rfl) (by kernel_rfl) (by kernel_rfl) (fun _ _ _ h=>h) (Or.inl ⟨by rfl,?_⟩) (by assumption) ?_
        rotate_left
        · (intro w hSw;(try dsimp only at hSw);go_simp) <;> with_reducible rfl
        try simp only [Act.put]
        refine wpAnyH_take (i:=3) (v:=?_) rfl (by kernel_rfl) (by kernel_rfl) (by kernel_rfl) (fun _ _ _ h=>h) (Or.inl ⟨by rfl,?_⟩) (by assumption) ?_
        rotate_left
        · (intro w hSw;(try dsimp only at hSw);go_simp) <;> with_reducible rfl
        try simp only [Act.put]
        refine wpAnyH_take (i:=4) (v:=?_) rfl (by kernel_rfl) (by kernel_rfl) (by kernel_rfl) (fun _ _ _ h=>h) (Or.inl ⟨by rfl,?_⟩) (by assumption) ?_
        rotate_left
        · (intro w hSw;(try dsimp only at hSw);go_simp) <;> with_reducible rfl
        try simp only [Act.put]
        refine wpAnyH_take (i:=5) (v:=?_) rfl (by kernel_rfl) (by kernel_rfl) (by kernel_rfl) (fun _ _ _ h=>h) (Or.inl ⟨by rfl,?_⟩) (by assumption) ?_
        rotate_left
        · (intro w hSw;(try dsimp only at hSw);go_simp) <;> with_reducible rfl
        try simp only [Act.put]
        refine wpAnyH_take (i:=6) (v:=?_) rfl (by kernel_rfl) (by kernel_rfl) (by kernel_rfl) (fun _ _ _ h=>h) (Or.inl ⟨by rfl,?_⟩) (by assumption) ?_
        rotate_left
        · (intro w hSw;(try dsimp only at hSw);go_simp) <;> with_reducible rfl
        try simp only [Act.put]
        refine wpAnyH_take (i:=7) (v:=?_) rfl (by kernel_rfl) (by kernel_rfl) (by kernel_rfl) (fun _ _ _ h=>h) (Or.inl ⟨by rfl,?_⟩) (by assumption) ?_
        rotate_left
        · (intro w hSw;(try dsimp only at hSw);go_simp) <;> with_reducible rfl
        try simp only [Act.put]
        refine wpAnyH_take (i:=8) (v:=?_) rfl (by kernel_rfl) (by kernel_rfl) (by kernel_rfl) (fun _ _ _ h=>h) (Or.inl ⟨by rfl,?_⟩) (by assumption) ?_
        rotate_left
        · (intro w hSw;(try dsimp only at hSw);go_simp) <;> with_reducible rfl
        try simp only [Act.put]
        refine wpAnyH_take (i:=9) (v:=?_) rfl (by kernel_rfl) (by kernel_rfl) (by kernel_rfl) (fun _ _ _ h=>h) (Or.inl ⟨by rfl,?_⟩) (by assumption) ?_
        rotate_left
        · (intro w hSw;(try dsimp only at hSw);go_simp) <;> with_reducible rfl
        try simp only [Act.put]
        refine wpAnyH_ready (rs:=[1,10]) (by kernel_rfl) (by simp) ?_
        refine AllReadyH.cons rfl (fun K hK=>?_) (AllReadyH.cons rfl (fun K hK=>?_) AllReadyH.nil)
        all_goals first
          | (
            go_simp
            refine hK.out _ _ (hHeld) (fun hHeld=>?_)
            clear hK K
            try simp only [Act.put,List.setIfInBounds_toArray,List.set_cons_zero,List.set_cons_succ]
            refine wpAnyH_ready (rs:=[10]) (by kernel_rfl) (by simp) ?_
            refine AllReadyH.cons rfl (fun K hK=>?_) AllReadyH.nil
            go_simp
            go_at_call 42;(with_reducible refine Calls.mono (OL2.out _ (HcV.out.pr (Pr.drew wy))) ?_);rintro e w5 ⟨v5,rfl,hown5,hb⟩;have hpw:=(Pr.drew wy).trans hb;have hc:=HcV.out.pr hpw;have hTw:=Lib.hid (hpw.blk HTy.out);have g2:=blk_cell (o:=1) hTw.out;obtain ⟨o5,c5,rfl,hk5⟩:=hown5.kids
            refine hK.out _ _ (hc) (fun hHeld=>?_)
            clear hK K
            try simp only [Act.put,List.setIfInBounds_toArray,List.set_cons_zero,List.set_cons_succ]
            refine wpAnyH_ready (rs:=[11]) (by kernel_rfl) (by simp) ?_
            refine AllReadyH.cons rfl (fun K hK=>?_) AllReadyH.nil
            refine step_trees rfl _ _ rfl V.heap.size (.slice og (fr.length+1) cg) (fr ++ [.node s mid]) rfl (hown.pr hpw) bk _ _ rfl (hk5.mono (fun j hj _=>⟨by have hj':wy.heap.size≤j:=(by simpa using hj);omega,fun e=>by have hj':wy.heap.size≤j:=(by simpa using hj);have:=(hown.block j e).2;omega⟩)) (by rw [List.length_append,List.length_singleton];omega) (by have:=hpw.size;omega) ?_;intro v6 w6 ho6 hg6;obtain ⟨o6,c6,rfl,hk6⟩:=ho6.kids;have B6:=Lib.hid (grown_blk hg6 hTw.out n1);have t4:=blk_frozen (o:=1) B6.out;have t5:=blk_cell (o:=1) B6.out;have hc:=hc.trans (chg_grown hg6) (fun j hj=>.inr (hown.block j hj).1)
            refine hK.out _ _ (hc) (fun hHeld=>?_)
            clear hK K
            try simp only [Act.put,List.setIfInBounds_toArray]
            refine wpAnyH_take (i:=12) (v:=?_) rfl (by kernel_rfl) (by kernel_rfl) (by kernel_rfl) (fun _ _ _ h=>h) (Or.inl ⟨by rfl,?_⟩) (by assumption) ?_
            rotate_left
            · (intro w hSw;(try dsimp only at hSw);go_simp) <;> with_reducible rfl
            try simp only [Act.put]
            refine wpAnyH_ready (rs:=[13]) (by kernel_rfl) (by simp) ?_
            refine AllReadyH.cons rfl (fun K hK=>?_) AllReadyH.nil
            go_simp
            refine hK.out _ _ (Chg.setCell hc _ _ (.inl rfl)) (fun hHeld=>?_)
            clear hK K
            try simp only [Act.put,List.setIfInBounds_toArray,List.set_cons_zero,List.set_cons_succ]
            refine wpAnyH_done (by kernel_rfl) ?_ _
            skip
            )
          | (
            go_simp
            go_at_call 42;(with_reducible refine Calls.mono (OL2.out _ (HcV.out.pr (Pr.drew wy))) ?_);rintro e w5 ⟨v5,rfl,hown5,hb⟩;have hpw:=(Pr.drew wy).trans hb;have hc:=HcV.out.pr hpw;have hTw:=Lib.hid (hpw.blk HTy.out);have g2:=blk_cell (o:=1) hTw.out;obtain ⟨o5,c5,rfl,hk5⟩:=hown5.kids
            refine hK.out _ _ hc (fun hHeld=>?_)
            clear hK K
            try simp only [Act.put,List.setIfInBounds_toArray,List.set_cons_zero,List.set_cons_succ]
            refine wpAnyH_ready (rs:=[1]) (by kernel_rfl) (by simp) ?_
            refine AllReadyH.cons rfl (fun K hK=>?_) AllReadyH.nil
            go_simp
            refine hK.out _ _ (hc) (fun hHeld=>?_)
            clear hK K
            try simp only [Act.put,List.setIfInBounds_toArray,List.set_cons_zero,List.set_cons_succ]
            refine wpAnyH_ready (rs:=[11]) (by kernel_rfl) (by simp) ?_
            refine AllReadyH.cons rfl (fun K hK=>?_) AllReadyH.nil
            refine step_trees rfl _ _ rfl V.heap.size (.slice og (fr.length+1) cg) (fr ++ [.node s mid]) rfl (hown.pr hpw) bk _ _ rfl (hk5.mono (fun j hj _=>⟨by have hj':wy.heap.size≤j:=(by simpa using hj);omega,fun e=>by have hj':wy.heap.size≤j:=(by simpa using hj);have:=(hown.block j e).2;omega⟩)) (by rw [List.length_append,List.length_singleton];omega) (by have:=hpw.size;omega) ?_;intro v6 w6 ho6 hg6;obtain ⟨o6,c6,rfl,hk6⟩:=ho6.kids;have B6:=Lib.hid (grown_blk hg6 hTw.out n1);have t4:=blk_frozen (o:=1) B6.out;have t5:=blk_cell (o:=1) B6.out;have hc:=hc.trans (chg_grown hg6) (fun j hj=>.inr (hown.block j hj).1)
            refine hK.out _ _ (hc) (fun hHeld=>?_)
            clear hK K
            try simp only [Act.put,List.setIfInBounds_toArray]
            refine wpAnyH_take (i:=12) (v:=?_) rfl (by kernel_rfl) (by kernel_rfl) (by kernel_rfl) (fun _ _ _ h=>h) (Or.inl ⟨by rfl,?_⟩) (by assumption) ?_
            rotate_left
            · (intro w hSw;(try dsimp only at hSw);go_simp) <;> with_reducible rfl
            try simp only [Act.put]
            refine wpAnyH_ready (rs:=[13]) (by kernel_rfl) (by simp) ?_
            refine AllReadyH.cons rfl (fun K hK=>?_) AllReadyH.nil
            go_simp
            refine hK.out _ _ (Chg.setCell hc _ _ (.inl rfl)) (fun hHeld=>?_)
            clear hK K
            try simp only [Act.put,List.setIfInBounds_toArray,List.set_cons_zero,List.set_cons_succ]
            refine wpAnyH_done (by kernel_rfl) ?_ _
            skip
            )
        all_goals
          have hs6:=hg6.size
          have hs5:=hpw.size
          obtain ⟨wz,hwz⟩:∃ wz,wz=w6.setCell ⟨W.heap.size,1,none⟩ (.slice o6 (fr.length+(bk.length+1)) c6):=⟨_,rfl⟩
          have hlz:(fr ++ [Tr.node s mid] ++ bk).length=fr.length+(bk.length+1):=by simp
          have hTz:wz.heap[W.heap.size]? = some (.cells #[.string l,.slice o6 (fr.length+(bk.length+1)) c6] 34 (0,0)):=by rw [hwz];exact blk_set (o:=1) B6.out _
          have hkz:Kids (From V.heap.size) wz (fr ++ [Tr.node s mid] ++ bk) o6 c6:=by rw [hwz];exact hk6.setCell _ _ (by show ¬ V.heap.size≤_;simp;omega)
          have hcz:Chg (fun j=>j=W.heap.size) V wz:=by rw [hwz];exact hc.setCell _ _ (.inl rfl)
          have hRz:=hcz.blk HR2'.out (by omega)
          have hVw:=HW2'.out.size
          have hres:Tr.node l (insP ks s n m)=.node l (fr ++ [Tr.node s mid] ++ bk):=by unfold insP;rw [← Hfr.out,← Hmid.out,← Hbk.out]
          rw [← hwz]
          have t0:=blk_cell (o:=0) hTz;have t1:=blk_cell (o:=1) hTz
          have r0:=blk_cell (o:=0) hRz;have r1:=blk_cell (o:=1) hRz;have f0:=blk_frozen (o:=0) hRz;have f1:=blk_frozen (o:=1) hRz
          have hpz:Pr w wz:=chgOver HW2'.out hcz (fun j hj=>by omega)
          have H:=Lib.hid (And.intro hkz (And.intro hpz (And.intro hlz hres)))
          clear hwz hTz hRz hkz hcz hpz hlz hres ho6 hg6 hk6 hk5 hown5 hb hc t4 t5 g2
          go_wp2_with fail
          refine bodyPost_ret (v:=.tuple #[.agg #[.string l,.slice o6 (fr.length+(bk.length+1)) c6],.int .i64 0]) (by simp [results,Tryz.results31,go_sem,r0,r1]) rfl ?_
          have:=done_fin (S:=S) (w:=w) (w9:=wz) (r:=(.node l (insP ks s n m),0)) (c:=0) (by rw [H.out.2.2.2]) hl H.out.2.1 (H.out.1.mono (fun j hj _=>.inr (by have hj':V.heap.size≤j:=hj;omega)))
          rw [H.out.2.2.1] at this
          exact this
      case neg =>
        have hc3:n+m < cap:=by omega
        have OL2:Hid (∀ W',Chg (fun j=>j=W.heap.size) V W'→Calls Tryz.prog 42 #[.slice (Option.map (fun x=>x.add ((n+m) * 2)) oa) (ks.length - (n+m)) (cap - (n+m))] W' (OwnListPost W' bk)):=Lib.hid fun W' h=>by
          have hk:=(KV.out W' h).cutL (n+m) (by omega)
          rw [← Hbk.out] at hk
          have:=rownList_any _ _ _ W' hbsz hk.any
          rw [Hbl.out] at this;exact this
        go_upto_region 18 with fail
        have tt:=blk_cell (o:=1) HTy.out
        refine wp_region_held_drew (S:=fun W'=>Chg (fun j=>j=W.heap.size) V W') (by kernel_rfl) (HcV.out.pr (Pr.drew wy)) (fun hHeld=>?_)
        refine wpAnyH_take (i:=0) (v:=?_) rfl (by kernel_rfl) (by kernel_rfl) (by kernel_rfl) (fun _ _ _ h=>h) (Or.inl ⟨by rfl,?_⟩) (by assumption) ?_
        rotate_left
        · (intro w hSw;(try dsimp only at hSw);go_simp) <;> with_reducible rfl
        try simp only [Act.put,List.setIfInBounds_toArray]
        refine wpAnyH_take (i:=2) (v:=?_) rfl (by kernel_rfl) (by kernel_rfl) (by kernel_rfl) (fun _ _ _ h=>h) (Or.inl ⟨by rfl,?_⟩) (by assumption) ?_
        rotate_left
        · (intro w hSw;(try dsimp only at hSw);go_simp) <;> with_reducible rfl
        try simp only [Act.put]
        refine wpAnyH_take (i:=3) (v:=?_) rfl (by kernel_rfl) (by kernel_rfl) (by kernel_rfl) (fun _ _ _ h=>h) (Or.inl ⟨by rfl,?_⟩) (by assumption) ?_
        rotate_left
        · (intro w hSw;(try dsimp only at hSw);go_simp) <;> with_reducible rfl
        try simp only [Act.put]
        refine wpAnyH_take (i:=4) (v:=?_) rfl (by kernel_rfl) (by kernel_rfl) (by kernel_rfl) (fun _ _ _ h=>h) (Or.inl ⟨by rfl,?_⟩) (by assumption) ?_
        rotate_left
        · (intro w hSw;(try dsimp only at hSw);go_simp) <;> with_reducible rfl
        try simp only [Act.put]
        refine wpAnyH_take (i:=5) (v:=?_) rfl (by kernel_rfl) (by kernel_rfl) (by kernel_rfl) (fun _ _ _ h=>h) (Or.inl ⟨by rfl,?_⟩) (by assumption) ?_
        rotate_left
        · (intro w hSw;(try dsimp only at hSw);go_simp) <;> with_reducible rfl
        try simp only [Act.put]
        refine wpAnyH_take (i:=6) (v:=?_) rfl (by kernel_rfl) (by kernel_rfl) (by kernel_rfl) (fun _ _ _ h=>h) (Or.inl ⟨by rfl,?_⟩) (by assumption) ?_
        rotate_left
        · (intro w hSw;(try dsimp only at hSw);go_simp) <;> with_reducible rfl
        try simp only [Act.put]
        refine wpAnyH_take (i:=7) (v:=?_) rfl (by kernel_rfl) (by kernel_rfl) (by kernel_rfl) (fun _ _ _ h=>h) (Or.inl ⟨by rfl,?_⟩) (by assumption) ?_
        rotate_left
        · (intro w hSw;(try dsimp only at hSw);go_simp) <;> with_reducible rfl
        try simp only [Act.put]
        refine wpAnyH_take (i:=8) (v:=?_) rfl (by kernel_rfl) (by kernel_rfl) (by kernel_rfl) (fun _ _ _ h=>h) (Or.inl ⟨by rfl,?_⟩) (by assumption) ?_
        rotate_left
        · (intro w hSw;(try dsimp only at hSw);go_simp) <;> with_reducible rfl
        try simp only [Act.put]
        refine wpAnyH_take (i:=9) (v:=?_) rfl (by kernel_rfl) (by kernel_rfl) (by kernel_rfl) (fun _ _ _ h=>h) (Or.inl ⟨by rfl,?_⟩) (by assumption) ?_
        rotate_left
        · (intro w hSw;(try dsimp only at hSw);go_simp) <;> with_reducible rfl
        try simp only [Act.put]
        refine wpAnyH_ready (rs:=[1,10]) (by kernel_rfl) (by simp) ?_
        refine AllReadyH.cons rfl (fun K hK=>?_) (AllReadyH.cons rfl (fun K hK=>?_) AllReadyH.nil)
        all_goals first
          | (
            go_simp
            refine hK.out _ _ (hHeld) (fun hHeld=>?_)
            clear hK K
            try simp only [Act.put,List.setIfInBounds_toArray,List.set_cons_zero,List.set_cons_succ]
            refine wpAnyH_ready (rs:=[10]) (by kernel_rfl) (by simp) ?_
            refine AllReadyH.cons rfl (fun K hK=>?_) AllReadyH.nil
            go_simp
            go_at_call 42;(with_reducible refine Calls.mono (OL2.out _ (HcV.out.pr (Pr.drew wy))) ?_);rintro e w5 ⟨v5,rfl,hown5,hb⟩;have hpw:=(Pr.drew wy).trans hb;have hc:=HcV.out.pr hpw;have hTw:=Lib.hid (hpw.blk HTy.out);have g2:=blk_cell (o:=1) hTw.out;obtain ⟨o5,c5,rfl,hk5⟩:=hown5.kids
            refine hK.out _ _ (hc) (fun hHeld=>?_)
            clear hK K
            try simp only [Act.put,List.setIfInBounds_toArray,List.set_cons_zero,List.set_cons_succ]
            refine wpAnyH_ready (rs:=[11]) (by kernel_rfl) (by simp) ?_
            refine AllReadyH.cons rfl (fun K hK=>?_) AllReadyH.nil
            refine step_trees rfl _ _ rfl V.heap.size (.slice og (fr.length+1) cg) (fr ++ [.node s mid]) rfl (hown.pr hpw) bk _ _ rfl (hk5.mono (fun j hj _=>⟨by have hj':wy.heap.size≤j:=(by simpa using hj);omega,fun e=>by have hj':wy.heap.size≤j:=(by simpa using hj);have:=(hown.block j e).2;omega⟩)) (by rw [List.length_append,List.length_singleton];omega) (by have:=hpw.size;omega) ?_;intro v6 w6 ho6 hg6;obtain ⟨o6,c6,rfl,hk6⟩:=ho6.kids;have B6:=Lib.hid (grown_blk hg6 hTw.out n1);have t4:=blk_frozen (o:=1) B6.out;have t5:=blk_cell (o:=1) B6.out;have hc:=hc.trans (chg_grown hg6) (fun j hj=>.inr (hown.block j hj).1)
            refine hK.out _ _ (hc) (fun hHeld=>?_)
            clear hK K
            try simp only [Act.put,List.setIfInBounds_toArray]
            refine wpAnyH_take (i:=12) (v:=?_) rfl (by kernel_rfl) (by kernel_rfl) (by kernel_rfl) (fun _ _ _ h=>h) (Or.inl ⟨by rfl,?_⟩) (by assumption) ?_
            rotate_left
            · (intro w hSw;(try dsimp only at hSw);go_simp) <;> with_reducible rfl
            try simp only [Act.put]
            refine wpAnyH_ready (rs:=[13]) (by kernel_rfl) (by simp) ?_
            refine AllReadyH.cons rfl (fun K hK=>?_) AllReadyH.nil
            go_simp
            refine hK.out _ _ (Chg.setCell hc _ _ (.inl rfl)) (fun hHeld=>?_)
            clear hK K
            try simp only [Act.put,List.setIfInBounds_toArray,List.set_cons_zero,List.set_cons_succ]
            refine wpAnyH_done (by kernel_rfl) ?_ _
            skip
            )
          | (
            go_simp
            go_at_call 42;(with_reducible refine Calls.mono (OL2.out _ (HcV.out.pr (Pr.drew wy))) ?_);rintro e w5 ⟨v5,rfl,hown5,hb⟩;have hpw:=(Pr.drew wy).trans hb;have hc:=HcV.out.pr hpw;have hTw:=Lib.hid (hpw.blk HTy.out);have g2:=blk_cell (o:=1) hTw.out;obtain ⟨o5,c5,rfl,hk5⟩:=hown5.kids
            refine hK.out _ _ hc (fun hHeld=>?_)
            clear hK K
            try simp only [Act.put,List.setIfInBounds_toArray,List.set_cons_zero,List.set_cons_succ]
            refine wpAnyH_ready (rs:=[1]) (by kernel_rfl) (by simp) ?_
            refine AllReadyH.cons rfl (fun K hK=>?_) AllReadyH.nil
            go_simp
            refine hK.out _ _ (hc) (fun hHeld=>?_)
            clear hK K
            try simp only [Act.put,List.setIfInBounds_toArray,List.set_cons_zero,List.set_cons_succ]
            refine wpAnyH_ready (rs:=[11]) (by kernel_rfl) (by simp) ?_
            refine AllReadyH.cons rfl (fun K hK=>?_) AllReadyH.nil
            refine step_trees rfl _ _ rfl V.heap.size (.slice og (fr.length+1) cg) (fr ++ [.node s mid]) rfl (hown.pr hpw) bk _ _ rfl (hk5.mono (fun j hj _=>⟨by have hj':wy.heap.size≤j:=(by simpa using hj);omega,fun e=>by have hj':wy.heap.size≤j:=(by simpa using hj);have:=(hown.block j e).2;omega⟩)) (by rw [List.length_append,List.length_singleton];omega) (by have:=hpw.size;omega) ?_;intro v6 w6 ho6 hg6;obtain ⟨o6,c6,rfl,hk6⟩:=ho6.kids;have B6:=Lib.hid (grown_blk hg6 hTw.out n1);have t4:=blk_frozen (o:=1) B6.out;have t5:=blk_cell (o:=1) B6.out;have hc:=hc.trans (chg_grown hg6) (fun j hj=>.inr (hown.block j hj).1)
            refine hK.out _ _ (hc) (fun hHeld=>?_)
            clear hK K
            try simp only [Act.put,List.setIfInBounds_toArray]
            refine wpAnyH_take (i:=12) (v:=?_) rfl (by kernel_rfl) (by kernel_rfl) (by kernel_rfl) (fun _ _ _ h=>h) (Or.inl ⟨by rfl,?_⟩) (by assumption) ?_
            rotate_left
            · (intro w hSw;(try dsimp only at hSw);go_simp) <;> with_reducible rfl
            try simp only [Act.put]
            refine wpAnyH_ready (rs:=[13]) (by kernel_rfl) (by simp) ?_
            refine AllReadyH.cons rfl (fun K hK=>?_) AllReadyH.nil
            go_simp
            refine hK.out _ _ (Chg.setCell hc _ _ (.inl rfl)) (fun hHeld=>?_)
            clear hK K
            try simp only [Act.put,List.setIfInBounds_toArray,List.set_cons_zero,List.set_cons_succ]
            refine wpAnyH_done (by kernel_rfl) ?_ _
            skip
            )
        all_goals
          have hs6:=hg6.size
          have hs5:=hpw.size
          obtain ⟨wz,hwz⟩:∃ wz,wz=w6.setCell ⟨W.heap.size,1,none⟩ (.slice o6 (fr.length+(bk.length+1)) c6):=⟨_,rfl⟩
          have hlz:(fr ++ [Tr.node s mid] ++ bk).length=fr.length+(bk.length+1):=by simp
          have hTz:wz.heap[W.heap.size]? = some (.cells #[.string l,.slice o6 (fr.length+(bk.length+1)) c6] 34 (0,0)):=by rw [hwz];exact blk_set (o:=1) B6.out _
          have hkz:Kids (From V.heap.size) wz (fr ++ [Tr.node s mid] ++ bk) o6 c6:=by rw [hwz];exact hk6.setCell _ _ (by show ¬ V.heap.size≤_;simp;omega)
          have hcz:Chg (fun j=>j=W.heap.size) V wz:=by rw [hwz];exact hc.setCell _ _ (.inl rfl)
          have hRz:=hcz.blk HR2'.out (by omega)
          have hVw:=HW2'.out.size
          have hres:Tr.node l (insP ks s n m)=.node l (fr ++ [Tr.node s mid] ++ bk):=by unfold insP;rw [← Hfr.out,← Hmid.out,← Hbk.out]
          rw [← hwz]
          have t0:=blk_cell (o:=0) hTz;have t1:=blk_cell (o:=1) hTz
          have r0:=blk_cell (o:=0) hRz;have r1:=blk_cell (o:=1) hRz;have f0:=blk_frozen (o:=0) hRz;have f1:=blk_frozen (o:=1) hRz
          have hpz:Pr w wz:=chgOver HW2'.out hcz (fun j hj=>by omega)
          have H:=Lib.hid (And.intro hkz (And.intro hpz (And.intro hlz hres)))
          clear hwz hTz hRz hkz hcz hpz hlz hres ho6 hg6 hk6 hk5 hown5 hb hc t4 t5 g2
          go_wp2_with fail
          refine bodyPost_ret (v:=.tuple #[.agg #[.string l,.slice o6 (fr.length+(bk.length+1)) c6],.int .i64 0]) (by simp [results,Tryz.results31,go_sem,r0,r1]) rfl ?_
          have:=done_fin (S:=S) (w:=w) (w9:=wz) (r:=(.node l (insP ks s n m),0)) (c:=0) (by rw [H.out.2.2.2]) hl H.out.2.1 (H.out.1.mono (fun j hj _=>.inr (by have hj':V.heap.size≤j:=hj;omega)))
          rw [H.out.2.2.1] at this
          exact this
end
end Go.Proofs.YtdbnfhpgmcjngacGreat
/- Walks: the document's deed done, whichever it is. -/
namespace Go.Proofs.YtdbnfhpgmcjngacGreat
open Go Go.RowKit
theorem rdone_any (k:Int) (p:List Int) (a m:Int) (s:ByteArray) (pa:Option Addr) (np pc:Nat) (hk1:1≤k) (hk3:k≤3) (ha:0≤a) (hm:0≤m) (hs:s.size≤maxLen):∀ (q:List Int),(∀ x∈q,0≤x)→(k=2→q≠[]) →
    ∀ (S:Nat→Prop) (l:ByteArray) (ks:List Tr) (oa:Option Addr) (cap:Nat) (qa:Option Addr) (qc:Nat) (w:World),l.size≤maxLen→Tr.szL ks≤1000000→Kids S w ks oa cap→Ints Any w q qa qc →
      Calls Tryz.prog 31 #[.agg #[.string l,.slice oa ks.length cap],.agg #[.int .i64 k,.slice pa np pc,.int .i64 a,.int .i64 m,.string s],.slice qa q.length qc] w (DonePost S (doneT ⟨k,p,a,m,s⟩ q (.node l ks)) w):=by
  intro q
  induction q with
  | nil =>
    intro _ h2 S l ks oa cap qa qc w hl hsz hk _
    have h2':k≠2:=fun e=>h2 e rfl
    show Calls _ _ _ _ (DonePost S (leafT ⟨k,p,a,m,s⟩ (.node l ks) 0) w)
    rw [leafT_node]
    by_cases e1:k=1
    · rw [if_pos e1];exact rdone_name hs hsz hk e1
    · rw [if_neg e1,if_neg h2']
      obtain ⟨n,rfl⟩:=Int.eq_ofNat_of_zero_le ha
      obtain ⟨m',rfl⟩:=Int.eq_ofNat_of_zero_le hm
      by_cases hf:(ks.length:Int) < (n:Int)∨(ks.length:Int) - (n:Int) < (m':Int)
      · rw [if_pos hf];exact rdone_insfar hl hk (by omega) (by omega) hf
      · rw [if_neg hf]
        have:=rdone_ins (qa:=qa) (qc:=qc) (pa:=pa) (np:=np) (pc:=pc) (S:=S) (k:=k) (n:=n) (m:=m') (s:=s) (w:=w) hl hs hsz hk (by omega) (by omega)
        unfold insP at this
        simpa using this
  | cons x q ih =>
    intro hpos h2 S l ks oa cap qa qc w hl hsz hk hq
    have hx0:0≤x:=hpos x (by simp)
    rw [doneT_node]
    by_cases hlast:k=2∧q=[]
    · rw [if_pos hlast,leafT_node,if_neg (by show ¬ k=1;omega),if_pos hlast.1]
      obtain ⟨hk2,rfl⟩:=hlast
      by_cases hf:(ks.length:Int)≤x
      · rw [if_pos hf];exact rdone_delfar x hl hk hq hk2 hf
      · rw [if_neg hf]
        obtain ⟨n,rfl⟩:=Int.eq_ofNat_of_zero_le hx0
        have:=rdone_del (pa:=pa) (np:=np) (pc:=pc) (a:=a) (m:=m) (s:=s) n hl hsz hk hq hk2 (by omega)
        rw [delP_all ks n (by omega)] at this
        simpa using this
    · rw [if_neg hlast]
      have hne:k=2→q≠[]:=fun e h=>hlast ⟨e,h⟩
      by_cases hf:(ks.length:Int)≤x
      · rw [if_pos hf];exact rdone_far x q hl hk hq hne hf
      · rw [if_neg hf]
        obtain ⟨n,rfl⟩:=Int.eq_ofNat_of_zero_le hx0
        have hn:n < ks.length:=by omega
        have:=rdone_in (k:=k) (a:=a) (m:=m) (s:=s) (pa:=pa) (np:=np) (pc:=pc) n q (doneT ⟨k,p,a,m,s⟩ q (kidN ks (n:Int))) hl hsz hk hq hne hn (fun S' l' ks' oa' cap' qa' qc' W' e1 e2 e3 e4=>by
          have h3:=Tr.szL_get ks n hn
          rw [e1,Tr.sz_node] at h3
          rw [kidN_in ks n hn,e1]
          exact ih (fun y hy=>hpos y (by simp [hy])) hne S' l' ks' oa' cap' qa' qc' W' e2 (by omega) e3 e4)
        simpa using this
end Go.Proofs.YtdbnfhpgmcjngacGreat
