/- Walks: the parser of texts: blanks, a sign, a label; how it gives up. -/
import Derived.Test.YtdbnfhpgmcjngabGreatDoorBpl
import Derived.Test.YtdbnfhpgmcjngabGreatDoorBqt
import Derived.Test.YtdbnfhpgmcjngabGreatDoorBgl
import Derived.Test.YtdbnfhpgmcjngabGreatDoorBmt
import Derived.Deep.CutBlock
import Derived.Deep.DeepCutAuto
import Derived.Outline
import Derived.Test.YtdbnfhpgmcjngabGreatDoorBwe
import Derived.Deep.RegionWith
import Derived.Test.YtdbnfhpgmcjngabGreatDoorBwa
import Derived.Recover
import Derived.WalkLawsBesides
import Derived.Lib.Builder
import Derived.Lib.AppendStr
import Derived.Lib.UnsafeStr
import Derived.Lib.OthersKept
import Derived.Laws.Externs
namespace Go.Proofs.YtdbnfhpgmcjngabGreatDoor
open Go Go.RowKit
def sl (s:ByteArray) (k:Nat):List UInt8:=s.data.toList.drop k
theorem size_list (s:ByteArray):s.data.toList.length=s.size:=Array.length_toList
theorem sl_cons {s:ByteArray} {k:Nat} (h:k < s.size):sl s k=s[k] :: sl s (k+1):=by
  unfold sl
  rw [List.drop_eq_getElem_cons (by rw [size_list];exact h)];rfl
theorem sl_end {s:ByteArray} {k:Nat} (h:s.size≤k):sl s k=[]:=by
  unfold sl;exact List.drop_of_length_le (by rw [size_list];exact h)
theorem sl_length (s:ByteArray) (k:Nat):(sl s k).length=s.size - k:=by unfold sl;rw [List.length_drop,size_list]
theorem sl_zero (s:ByteArray):sl s 0=s.data.toList:=by unfold sl;rfl
structure PRs (w:World) (M:Nat) (s:ByteArray) (k:Nat):Prop where
  blk:w.heap[M]? = some (.cells #[.string s,.int .i64 (k:Int)] 91 (0,0))
  le:k≤s.size
  few:s.size≤100000
theorem PRs.pr {w w':World} {M:Nat} {s:ByteArray} {k:Nat} (h:PRs w M s k) (hp:Pr w w'):PRs w' M s k:=⟨hp.blk h.blk,h.le,h.few⟩
theorem PRs.chg {w w':World} {X:Nat→Prop} {M:Nat} {s:ByteArray} {k:Nat} (h:PRs w M s k) (hp:Chg X w w') (hX:¬ X M):PRs w' M s k:=⟨hp.blk h.blk hX,h.le,h.few⟩
theorem PRs.set {w:World} {M:Nat} {s:ByteArray} {k k':Nat} (h:PRs w M s k) (hk:k'≤s.size):PRs (w.setCell ⟨M,1,none⟩ (.int .i64 (k':Int))) M s k':=⟨blk_set (o:=1) h.blk _,hk,h.few⟩
theorem PRs.c0 {w:World} {M:Nat} {s:ByteArray} {k:Nat} (h:PRs w M s k):w.cell? ⟨M,0,none⟩=some (.string s):=blk_cell h.blk
theorem PRs.c1 {w:World} {M:Nat} {s:ByteArray} {k:Nat} (h:PRs w M s k):w.cell? ⟨M,1,none⟩=some (.int .i64 (k:Int)):=blk_cell h.blk
theorem PRs.f1 {w:World} {M:Nat} {s:ByteArray} {k:Nat} (h:PRs w M s k):w.frozen? ⟨M,1,none⟩=false:=blk_frozen h.blk
theorem Chg.drewN {X:Nat→Prop} {w w1:World} (h:Chg X w w1) (n:Nat):Chg X w (w1.drewN n):=h.pr (Pr.drewN _ _)
def placeOf (wr:World) (M:Nat):Nat:=(intOf ((wr.cell? ⟨M,1,none⟩).getD (.bool false))).toNat
theorem PRs.place {w:World} {M:Nat} {s:ByteArray} {k:Nat} (h:PRs w M s k):placeOf w M=k:=by unfold placeOf;rw [h.c1];simp [intOf]
def BlPost (M:Nat) (s:ByteArray) (r:List UInt8) (w:World) (e:Ending) (w':World):Prop:=e=.returned (.tuple #[])∧∃ k,sl s k=r∧PRs w' M s k∧Chg (fun j=>j=M) w w'
theorem isBl_int (c:UInt8):isBl c=(((c.toNat:Int)==32) || ((c.toNat:Int)==10)):=by
  unfold isBl
  have h1:(c==32)=((c.toNat:Int)==32):=by
    rw [Bool.eq_iff_iff,beq_iff_eq,beq_iff_eq,← UInt8.toNat_inj];simp;omega
  have h2:(c==10)=((c.toNat:Int)==10):=by
    rw [Bool.eq_iff_iff,beq_iff_eq,beq_iff_eq,← UInt8.toNat_inj];simp;omega
  rw [h1,h2]
set_option maxHeartbeats 1600000 in
theorem pblanks_any (w:World) (M:Nat) (s:ByteArray) (k:Nat) (h:PRs w M s k) :
    Calls Tryz.prog 49 #[.pointer (some ⟨M,0,none⟩)] w (BlPost M s (skip (sl s k)) w):=by
  obtain ⟨r0,hr0⟩:∃ r0,r0=skip (sl s k):=⟨_,rfl⟩
  rw [← hr0]
  have H0:=Lib.hid (And.intro h hr0)
  have hfew:=h.few
  clear h hr0
  go_enter Tryz.func49,Tryz.ntmps49
  go_wp2_with fail
  go_loopw [2] (fun _ wr=>∃ k':Nat,r0=skip (sl s k')∧PRs wr M s k'∧Chg (fun j=>j=M) w wr) (fun _ wr=>s.size - placeOf wr M)
  case atStart=>exact ⟨k,H0.out.2,H0.out.1,Chg.refl _ _⟩
  case round =>
    obtain ⟨k',hr,hP,hc⟩:=hrel
    have c0:=hP.c0;have c1:=hP.c1;have f1:=hP.f1
    have hle:=hP.le
    have hpl:=hP.place
    have HP:=Lib.hid hP;have Hr:=Lib.hid hr;have Hpl:=Lib.hid hpl
    clear hP hr hpl
    by_cases hlt:k' < s.size
    · have hl1:(k':Int) < s.size:=by omega
      have hl0:(0:Int)≤(k':Int):=by omega
      obtain ⟨b1,hb1⟩:∃ b,b=((s[k'].toNat:Int)==32):=⟨_,rfl⟩
      obtain ⟨b2,hb2⟩:∃ b,b=((s[k'].toNat:Int)==10):=⟨_,rfl⟩
      have hbl:=isBl_int s[k']
      rw [← hb1,← hb2] at hbl
      have Hbl:=Lib.hid hbl
      have hb1':=hb1.symm
      have hb2':=hb2.symm
      clear hbl hb1 hb2
      have hsk:isBl s[k']=true→skip (sl s k')=skip (sl s (k'+1)):=fun e=>by
        rw [sl_cons hlt];unfold skip;rw [List.dropWhile_cons,if_pos e]
      have hst:isBl s[k']=false→skip (sl s k')=sl s k':=fun e=>by
        rw [sl_cons hlt];exact skip_stop _ e
      have Hsk:=Lib.hid hsk;have Hst:=Lib.hid hst
      clear hsk hst
      have uw:IntKind.i64.wrap ((k':Int)+1)=(k':Int)+1:=IntWalk.i64_in _ (by omega)
      have go:∀ nq:Nat,isBl s[k']=true→(r0=skip (sl s (k'+1))∧PRs ((wr.drewN nq).setCell ⟨M,1,none⟩ (.int .i64 ((k':Int)+1))) M s (k'+1)∧Chg (fun j=>j=M) w ((wr.drewN nq).setCell ⟨M,1,none⟩ (.int .i64 ((k':Int)+1)))):=fun nq e =>
        ⟨Hr.out.trans (Hsk.out e),(HP.out.pr (Pr.drewN _ _)).set (k':=k'+1) (by omega),(hc.drewN nq).setCell _ _ (.inl rfl)⟩
      have Hgo:=Lib.hid go
      clear go
      cases b1
      case true =>
        have e1:isBl s[k']=true:=by rw [Hbl.out];rfl
        have He:=Lib.hid e1
        clear e1
        go_upto_region 0 with fail
        go_quiet (fail)
        go_wp2_with fail
        obtain ⟨g1,g2,g3⟩:=Hgo.out nq He.out
        refine ⟨⟨k'+1,g1,g2,g3⟩,?_⟩
        rw [g2.place,Hpl.out];omega
      case false =>
        cases b2
        case true =>
          have e1:isBl s[k']=true:=by rw [Hbl.out];rfl
          have He:=Lib.hid e1
          clear e1
          go_upto_region 0 with fail
          go_quiet (fail)
          go_wp2_with fail
          obtain ⟨g1,g2,g3⟩:=Hgo.out nq He.out
          refine ⟨⟨k'+1,g1,g2,g3⟩,?_⟩
          rw [g2.place,Hpl.out];omega
        case false =>
          have e1:isBl s[k']=false:=by rw [Hbl.out];rfl
          have He:=Lib.hid e1
          clear e1
          go_upto_region 0 with fail
          go_quiet (fail)
          go_wp2_with fail
          go_end0
          exact ⟨rfl,k',(Hst.out He.out).symm.trans Hr.out.symm,HP.out.pr (Pr.drewN _ _),hc.drewN _⟩
    · have hl1:decide ((k':Int) < s.size)=false:=by simp;omega
      have hl2:decide (k' < s.size)=false:=by simp;omega
      have hend:skip (sl s k')=sl s k':=by rw [sl_end (by omega)];rfl
      have He:=Lib.hid hend
      clear hend
      go_upto_region 0 with fail
      go_quiet (fail)
      go_wp2_with fail
      go_end0
      exact ⟨rfl,k',He.out.symm.trans Hr.out.symm,HP.out.pr (Pr.drewN _ _),hc.drewN _⟩
def IsPost (M:Nat) (s:ByteArray) (r:List UInt8) (c:UInt8) (w:World) (e:Ending) (w':World):Prop :=
  ∃ b:Bool,e=.returned (.bool b)∧(b=true↔r.head? = some c)∧∃ k,sl s k=(if b=true then r.tail else r)∧PRs w' M s k∧Chg (fun j=>j=M) w w'
theorem byte_eq (a b:UInt8):((a.toNat:Int)==(b.toNat:Int))=decide (a=b):=by
  rw [Bool.eq_iff_iff,beq_iff_eq,decide_eq_true_eq,← UInt8.toNat_inj];omega
set_option maxHeartbeats 1600000 in
theorem pis_any (w:World) (M:Nat) (s:ByteArray) (k:Nat) (c:UInt8) (z:Int) (hz:z=(c.toNat:Int)) (h:PRs w M s k) :
    Calls Tryz.prog 77 #[.pointer (some ⟨M,0,none⟩),.int .u8 z] w (IsPost M s (skip (sl s k)) c w):=by
  have B1:=Lib.hid (pblanks_any w M s k h)
  have hfew:=h.few
  have HZ:=Lib.hid hz
  clear h hz
  go_enter Tryz.func77,Tryz.ntmps77
  go_upto_region 2 with (go_at_call 49;(with_reducible refine Calls.mono B1.out ?_);rintro e w1 ⟨rfl,k',hk',hP,hc⟩)
  have c0:=hP.c0;have c1:=hP.c1;have f1:=hP.f1
  have hle:=hP.le
  have HP:=Lib.hid hP;have Hk:=Lib.hid hk'
  clear hP hk'
  by_cases hlt:k' < s.size
  · have hl1:(k':Int) < s.size:=by omega
    have hl0:(0:Int)≤(k':Int):=by omega
    obtain ⟨b,hb⟩:∃ b,b=((s[k'].toNat:Int)==z):=⟨_,rfl⟩
    have hbd:b=decide (s[k']=c):=by rw [hb,HZ.out,byte_eq]
    have hcons:=sl_cons hlt
    rw [Hk.out] at hcons
    have Hcons:=Lib.hid hcons;have Hbd:=Lib.hid hbd
    have hb':=hb.symm
    have uw:IntKind.i64.wrap ((k':Int)+1)=(k':Int)+1:=IntWalk.i64_in _ (by omega)
    clear hcons hbd hb
    cases b
    case true =>
      go_quiet (fail)
      go_wp2_with fail
      go_ret
      refine ⟨true,rfl,⟨fun _=>?_,fun _=>rfl⟩,k'+1,?_,(HP.out.pr (Pr.drewN _ _)).set (k':=k'+1) (by omega),(hc.drewN _).setCell _ _ (.inl rfl)⟩
      · rw [Hcons.out];have:=Hbd.out;simp at this;rw [← this];rfl
      · rw [Hcons.out];rfl
    case false =>
      go_quiet (fail)
      go_wp2_with fail
      go_ret
      refine ⟨false,rfl,⟨fun h=>(by cases h),fun h=>?_⟩,k',by rw [Hk.out];rfl,HP.out.pr (Pr.drewN _ _),hc.drewN _⟩
      rw [Hcons.out] at h;have:=Hbd.out;simp at this h;exact absurd h this
  · have hl1:decide ((k':Int) < s.size)=false:=by simp;omega
    have hl2:decide (k' < s.size)=false:=by simp;omega
    have hnil:skip (sl s k)=[]:=by rw [← Hk.out,sl_end (by omega)]
    have Hnil:=Lib.hid hnil
    clear hnil
    go_quiet (fail)
    go_wp2_with fail
    go_ret
    refine ⟨false,rfl,⟨fun h=>(by cases h),fun h=>?_⟩,k',by rw [Hk.out];rfl,HP.out.pr (Pr.drewN _ _),hc.drewN _⟩
    rw [Hnil.out] at h;cases h
def PFail (M:Nat) (s:ByteArray) (c:Nat) (r:List UInt8) (w:World) (e:Ending) (w':World):Prop :=
  e=.panicked [{ v:=.iface 87 (.agg #[.int .i64 (c:Int),.int .i64 ((s.size:Int) - (r.length:Int))]),recovered:=false }]∧Chg (fun j=>j=M) w w'
theorem pfail_any (w:World) (M:Nat) (s:ByteArray) (k:Nat) (c:Nat) (h:PRs w M s k) :
    Calls Tryz.prog 50 #[.pointer (some ⟨M,0,none⟩),.int .i64 (c:Int)] w (PFail M s c (sl s k) w):=by
  have c1:=h.c1
  have hk:(k:Int)=(s.size:Int) - ((sl s k).length:Int):=by have:=h.le;rw [sl_length];omega
  have Hk:=Lib.hid hk
  clear h hk
  go_enter Tryz.func50,Tryz.ntmps50
  go_wp2_with fail
  exact ⟨rfl,by rw [Hk.out],Chg.refl _ _⟩
theorem extract_list (s:ByteArray) (k n:Nat):s.extract k n=⟨⟨(sl s k).take (n - k)⟩⟩:=by
  apply ByteArray.ext
  apply Array.ext'
  simp [sl]
def LbPost (M:Nat) (s:ByteArray) (r:List UInt8) (w:World) (e:Ending) (w':World):Prop :=
  ((skip r).takeWhile okC=[]∧PFail M s (if skip r=[] then 5 else 4) (skip r) w e w') ∨
  ((skip r).takeWhile okC≠[]∧e=.returned (.string (labOf r))∧∃ k,sl s k=(skip r).dropWhile okC∧PRs w' M s k∧Chg (fun j=>j=M) w w')
set_option maxRecDepth 100000 in
set_option maxHeartbeats 3200000 in
theorem plabel_any (w:World) (M:Nat) (s:ByteArray) (k:Nat) (h:PRs w M s k) :
    Calls Tryz.prog 76 #[.pointer (some ⟨M,0,none⟩)] w (LbPost M s (sl s k) w):=by
  have B1:=Lib.hid (pblanks_any w M s k h)
  have hfew:=h.few
  clear h
  go_enter Tryz.func76,Tryz.ntmps76
  go_upto_region 2 with (go_at_call 49;(with_reducible refine Calls.mono B1.out ?_);rintro e w1 ⟨rfl,k1,hk1,hP,hc1⟩)
  have c0:=hP.c0;have c1:=hP.c1;have f1:=hP.f1
  have hle:=hP.le
  have HP:=Lib.hid hP;have Hk1:=Lib.hid hk1
  clear hP hk1 B1
  go_wp2_with fail
  go_loopw [3] (fun v wr=>∃ n:Nat,k1≤n∧n≤s.size∧v=.int .i64 n∧((sl s k1).takeWhile okC=(sl s k1).take (n - k1) ++ (sl s n).takeWhile okC∧(sl s k1).dropWhile okC=(sl s n).dropWhile okC)∧w1=wr) (fun v _=>s.size - (intOf v).toNat)
  case atStart=>exact ⟨k1,by omega,hle,rfl,by simp,rfl⟩
  case round =>
    obtain ⟨n,hn1,hn2,rfl,hd,rfl⟩:=hrel
    have Hd:=Lib.hid hd
    clear hd
    by_cases hlt:n < s.size
    · have hl1:(n:Int) < s.size:=by omega
      have hl0:(0:Int)≤(n:Int):=by omega
      have hcons:=sl_cons hlt
      have hiff:=okC_iff s[n]
      cases hok:okC s[n]
      case true =>
        rw [hok] at hiff
        obtain ⟨g1,g2⟩:=hiff.1 rfl
        have d1:decide ((97:Int)≤(s[n].toNat:Int))=true:=by simpa using g1
        have d2:decide ((s[n].toNat:Int)≤122)=true:=by simpa using g2
        have hnew:(sl s k1).takeWhile okC=(sl s k1).take (n+1 - k1) ++ (sl s (n+1)).takeWhile okC∧(sl s k1).dropWhile okC=(sl s (n+1)).dropWhile okC:=by
          obtain ⟨e1,e2⟩:=Hd.out
          rw [hcons,List.takeWhile_cons,if_pos hok] at e1
          rw [hcons,List.dropWhile_cons,if_pos hok] at e2
          refine ⟨?_,e2⟩
          have hlen:n - k1 < (sl s k1).length:=by rw [sl_length];omega
          have hget:(sl s k1)[n - k1]=s[n]:=by
            have h0:sl s n=(sl s k1).drop (n - k1):=by unfold sl;rw [List.drop_drop];congr 1;omega
            have h1:((sl s k1).drop (n - k1)).head? = some s[n]:=by rw [← h0,hcons];rfl
            rw [List.head?_drop] at h1
            exact (List.getElem?_eq_some_iff.1 h1).2
          rw [show n+1 - k1=(n - k1)+1 by omega,List.take_succ_eq_append_getElem hlen,hget,List.append_assoc];exact e1
        have Hnew:=Lib.hid hnew
        clear hnew hiff hok hcons g1 g2
        go_wp2_with fail
        refine ⟨⟨n+1,by omega,by omega,by go_num,Hnew.out,trivial⟩,?_⟩
        simp [intOf];omega
      case false =>
        have hstop:(sl s n).takeWhile okC=[]:=by rw [hcons,List.takeWhile_cons,if_neg (by simp [hok])]
        have hstop2:(sl s n).dropWhile okC=sl s n:=by rw [hcons,List.dropWhile_cons,if_neg (by simp [hok])]
        rw [hok] at hiff
        by_cases h97:(97:Int)≤(s[n].toNat:Int)
        · have d1:decide ((97:Int)≤(s[n].toNat:Int))=true:=by simpa using h97
          have d2:decide ((s[n].toNat:Int)≤122)=false:=by
            simp only [decide_eq_false_iff_not];intro h9;have:=hiff.2 ⟨h97,h9⟩;cases this
          clear hiff hok h97 hcons
          by_cases hn:n=k1
          · have h2:(skip (sl s k)).takeWhile okC=[]:=by
              have hs1:(sl s k1).takeWhile okC=[]:=hn ▸ hstop
              rw [← Hk1.out];exact hs1
            have H2:=Lib.hid h2
            have ee:((n:Int)==(k1:Int))=true:=by simp [hn]
            by_cases hz:k1=s.size
            · have ez:((n:Int)==(s.size:Int))=true:=by simp;omega
              have h3:skip (sl s k)=[]:=by rw [← Hk1.out,sl_end (by omega)]
              have H3:=Lib.hid h3
              have F:=Lib.hid (pfail_any w1 M s k1 5 HP.out)
              clear h2 h3 hstop hn hz
              go_wp2_with (go_at_call 50;(with_reducible refine Calls.mono F.out ?_);rintro e w2 ⟨rfl,hc2⟩)
              refine ⟨by trivial,.inl ⟨H2.out,?_,hc1.trans hc2 (fun _ h=>.inl h)⟩⟩
              rw [if_pos H3.out,← Hk1.out];rfl
            · have ez:((n:Int)==(s.size:Int))=false:=by simp;omega
              have h3:¬ skip (sl s k)=[]:=by rw [← Hk1.out,sl_cons (by have:=HP.out.le;omega)];simp
              have H3:=Lib.hid h3
              have F:=Lib.hid (pfail_any w1 M s k1 4 HP.out)
              clear h2 h3 hstop hn hz
              go_wp2_with (go_at_call 50;(with_reducible refine Calls.mono F.out ?_);rintro e w2 ⟨rfl,hc2⟩)
              refine ⟨by trivial,.inl ⟨H2.out,?_,hc1.trans hc2 (fun _ h=>.inl h)⟩⟩
              rw [if_neg H3.out,← Hk1.out];rfl
          · have ee:((n:Int)==(k1:Int))=false:=by simp;omega
            have htk:(skip (sl s k)).takeWhile okC=(sl s k1).take (n - k1):=by rw [← Hk1.out];have:=Hd.out.1;rw [hstop,List.append_nil] at this;exact this
            have hne:(skip (sl s k)).takeWhile okC≠[]:=by
              rw [htk];intro e0;have:=congrArg List.length e0;rw [List.length_take,sl_length] at this;simp only [List.length_nil] at this;omega
            have hdr:(skip (sl s k)).dropWhile okC=sl s n:=by rw [← Hk1.out,Hd.out.2];exact hstop2
            have hlab:s.extract k1 n=labOf (sl s k):=by rw [extract_list,labOf,htk]
            have l0:(0:Int)≤(k1:Int):=by omega
            have l1:(k1:Int)≤(n:Int):=by omega
            have l2:(n:Int)≤(s.size:Int):=by omega
            have H:=Lib.hid (And.intro hne (And.intro hdr hlab))
            have hne2:k1 < n:=by omega
            clear htk hne hdr hlab hstop hn
            go_wp2_with fail
            go_quiet (fail)
            go_wp2_with fail
            go_ret
            exact .inr ⟨H.out.1,congrArg (fun x=>Ending.returned (.string x)) H.out.2.2,n,H.out.2.1.symm,(HP.out.pr (Pr.drewN _ _)).set (k':=n) (by omega),(hc1.drewN _).setCell _ _ (.inl rfl)⟩
        · have d1:decide ((97:Int)≤(s[n].toNat:Int))=false:=by simpa using h97
          clear hiff hok h97 hcons
          by_cases hn:n=k1
          · have h2:(skip (sl s k)).takeWhile okC=[]:=by
              have hs1:(sl s k1).takeWhile okC=[]:=hn ▸ hstop
              rw [← Hk1.out];exact hs1
            have H2:=Lib.hid h2
            have ee:((n:Int)==(k1:Int))=true:=by simp [hn]
            by_cases hz:k1=s.size
            · have ez:((n:Int)==(s.size:Int))=true:=by simp;omega
              have h3:skip (sl s k)=[]:=by rw [← Hk1.out,sl_end (by omega)]
              have H3:=Lib.hid h3
              have F:=Lib.hid (pfail_any w1 M s k1 5 HP.out)
              clear h2 h3 hstop hn hz
              go_wp2_with (go_at_call 50;(with_reducible refine Calls.mono F.out ?_);rintro e w2 ⟨rfl,hc2⟩)
              refine ⟨by trivial,.inl ⟨H2.out,?_,hc1.trans hc2 (fun _ h=>.inl h)⟩⟩
              rw [if_pos H3.out,← Hk1.out];rfl
            · have ez:((n:Int)==(s.size:Int))=false:=by simp;omega
              have h3:¬ skip (sl s k)=[]:=by rw [← Hk1.out,sl_cons (by have:=HP.out.le;omega)];simp
              have H3:=Lib.hid h3
              have F:=Lib.hid (pfail_any w1 M s k1 4 HP.out)
              clear h2 h3 hstop hn hz
              go_wp2_with (go_at_call 50;(with_reducible refine Calls.mono F.out ?_);rintro e w2 ⟨rfl,hc2⟩)
              refine ⟨by trivial,.inl ⟨H2.out,?_,hc1.trans hc2 (fun _ h=>.inl h)⟩⟩
              rw [if_neg H3.out,← Hk1.out];rfl
          · have ee:((n:Int)==(k1:Int))=false:=by simp;omega
            have htk:(skip (sl s k)).takeWhile okC=(sl s k1).take (n - k1):=by rw [← Hk1.out];have:=Hd.out.1;rw [hstop,List.append_nil] at this;exact this
            have hne:(skip (sl s k)).takeWhile okC≠[]:=by
              rw [htk];intro e0;have:=congrArg List.length e0;rw [List.length_take,sl_length] at this;simp only [List.length_nil] at this;omega
            have hdr:(skip (sl s k)).dropWhile okC=sl s n:=by rw [← Hk1.out,Hd.out.2];exact hstop2
            have hlab:s.extract k1 n=labOf (sl s k):=by rw [extract_list,labOf,htk]
            have l0:(0:Int)≤(k1:Int):=by omega
            have l1:(k1:Int)≤(n:Int):=by omega
            have l2:(n:Int)≤(s.size:Int):=by omega
            have H:=Lib.hid (And.intro hne (And.intro hdr hlab))
            have hne2:k1 < n:=by omega
            clear htk hne hdr hlab hstop hn
            go_wp2_with fail
            go_quiet (fail)
            go_wp2_with fail
            go_ret
            exact .inr ⟨H.out.1,congrArg (fun x=>Ending.returned (.string x)) H.out.2.2,n,H.out.2.1.symm,(HP.out.pr (Pr.drewN _ _)).set (k':=n) (by omega),(hc1.drewN _).setCell _ _ (.inl rfl)⟩
    · have hl1:decide ((n:Int) < s.size)=false:=by simp;omega
      have hl2:decide (n < s.size)=false:=by simp;omega
      have hstop:(sl s n).takeWhile okC=[]:=by rw [sl_end (by omega)];rfl
      have hstop2:(sl s n).dropWhile okC=sl s n:=by rw [sl_end (by omega)];rfl
      by_cases hn:n=k1
      · have h2:(skip (sl s k)).takeWhile okC=[]:=by
          have hs1:(sl s k1).takeWhile okC=[]:=hn ▸ hstop
          rw [← Hk1.out];exact hs1
        have H2:=Lib.hid h2
        have ee:((n:Int)==(k1:Int))=true:=by simp [hn]
        by_cases hz:k1=s.size
        · have ez:((n:Int)==(s.size:Int))=true:=by simp;omega
          have h3:skip (sl s k)=[]:=by rw [← Hk1.out,sl_end (by omega)]
          have H3:=Lib.hid h3
          have F:=Lib.hid (pfail_any w1 M s k1 5 HP.out)
          clear h2 h3 hstop hn hz
          go_wp2_with (go_at_call 50;(with_reducible refine Calls.mono F.out ?_);rintro e w2 ⟨rfl,hc2⟩)
          refine ⟨by trivial,.inl ⟨H2.out,?_,hc1.trans hc2 (fun _ h=>.inl h)⟩⟩
          rw [if_pos H3.out,← Hk1.out];rfl
        · have ez:((n:Int)==(s.size:Int))=false:=by simp;omega
          have h3:¬ skip (sl s k)=[]:=by rw [← Hk1.out,sl_cons (by have:=HP.out.le;omega)];simp
          have H3:=Lib.hid h3
          have F:=Lib.hid (pfail_any w1 M s k1 4 HP.out)
          clear h2 h3 hstop hn hz
          go_wp2_with (go_at_call 50;(with_reducible refine Calls.mono F.out ?_);rintro e w2 ⟨rfl,hc2⟩)
          refine ⟨by trivial,.inl ⟨H2.out,?_,hc1.trans hc2 (fun _ h=>.inl h)⟩⟩
          rw [if_neg H3.out,← Hk1.out];rfl
      · have ee:((n:Int)==(k1:Int))=false:=by simp;omega
        have htk:(skip (sl s k)).takeWhile okC=(sl s k1).take (n - k1):=by rw [← Hk1.out];have:=Hd.out.1;rw [hstop,List.append_nil] at this;exact this
        have hne:(skip (sl s k)).takeWhile okC≠[]:=by
          rw [htk];intro e0;have:=congrArg List.length e0;rw [List.length_take,sl_length] at this;simp only [List.length_nil] at this;omega
        have hdr:(skip (sl s k)).dropWhile okC=sl s n:=by rw [← Hk1.out,Hd.out.2];exact hstop2
        have hlab:s.extract k1 n=labOf (sl s k):=by rw [extract_list,labOf,htk]
        have l0:(0:Int)≤(k1:Int):=by omega
        have l1:(k1:Int)≤(n:Int):=by omega
        have l2:(n:Int)≤(s.size:Int):=by omega
        have H:=Lib.hid (And.intro hne (And.intro hdr hlab))
        have hne2:k1 < n:=by omega
        clear htk hne hdr hlab hstop hn
        go_wp2_with fail
        go_quiet (fail)
        go_wp2_with fail
        go_ret
        exact .inr ⟨H.out.1,congrArg (fun x=>Ending.returned (.string x)) H.out.2.2,n,H.out.2.1.symm,(HP.out.pr (Pr.drewN _ _)).set (k':=n) (by omega),(hc1.drewN _).setCell _ _ (.inl rfl)⟩
end Go.Proofs.YtdbnfhpgmcjngabGreatDoor
/- Walks: the parser of texts: a tree. -/
namespace Go.Proofs.YtdbnfhpgmcjngabGreatDoor
open Go Go.RowKit
def PTPost (M:Nat) (s:ByteArray) (x:Rd (Tr × List UInt8)) (w:World) (e:Ending) (w':World):Prop :=
  match x with
  | .error q=>PFail M s q.1 q.2 w e w'
  | .ok y=>∃ l ks oa cap k,y.1=.node l ks∧l.size≤maxLen∧Tr.szL ks+1+y.2.length≤1000000∧e=.returned (.agg #[.string l,.slice oa ks.length cap])∧Kids (From w.heap.size) w' ks oa cap∧sl s k=y.2∧PRs w' M s k∧Chg (fun j=>j=M) w w'
theorem PTPost.err {M:Nat} {s:ByteArray} {q:Nat × List UInt8} {w:World} {e:Ending} {w':World} (h:PFail M s q.1 q.2 w e w') {x:Rd (Tr × List UInt8)} (hx:x=.error q):PTPost M s x w e w':=by rw [hx];exact h
theorem PFail.after {M:Nat} {s:ByteArray} {c:Nat} {r:List UInt8} {w w1 w':World} {e:Ending} (h:PFail M s c r w1 e w') (hc:Chg (fun j=>j=M) w w1):PFail M s c r w e w':=⟨h.1,hc.trans h.2 (fun _ h=>.inl h)⟩
theorem labOf_size (s:ByteArray) (k:Nat):(labOf (sl s k)).size≤s.size:=by
  unfold labOf
  have h1:((skip (sl s k)).takeWhile okC).length≤(sl s k).length:=by
    have h2:=takeDrop_length okC (skip (sl s k));have h3:=skip_length (sl s k);omega
  have h4:=sl_length s k
  show ((skip (sl s k)).takeWhile okC).length≤s.size
  omega
theorem read_size:∀ (N:Nat) (s:List UInt8) (d:Nat),(∀ x,readT N s d=.ok x→x.1.sz+x.2.length≤s.length)∧(∀ x,readK N s d=.ok x→Tr.szL x.1+x.2.length≤s.length)
  | 0,s,d=>⟨fun x h=>(by simp [readT] at h),fun x h=>(by simp [readK] at h)⟩
  | N+1,s,d=>by
    constructor
    · intro x h
      rw [readT] at h
      split at h
      · cases h
      · split at h
        · cases h
        · rename_i hb
          have hl:=behind_length hb
          split at h
          · split at h
            · cases h
            · rename_i y hy
              have:=(read_size N (behind s).tail d).2 y hy
              rw [List.length_tail] at this
              cases h
              simp only [Tr.sz_node];omega
          · cases h;simp only [Tr.sz_node,Tr.szL_nil];omega
    · intro x h
      rw [readK] at h
      split at h
      · cases h
      · rename_i y hy
        have h1:=(read_size N s (d+1)).1 y hy
        have h2:=skip_length y.2
        split at h
        · cases h;simp only [Tr.szL_cons,Tr.szL_nil,List.length_tail];omega
        · split at h
          · cases h
          · rename_i z hz
            have h3:=(read_size N (skip y.2) d).2 z hz
            cases h;simp only [Tr.szL_cons];omega
theorem parseT_size {s:List UInt8} {d:Nat} {x:Tr × List UInt8} (h:parseT s d=.ok x):x.1.sz+x.2.length≤s.length:=(read_size _ s d).1 x h
set_option maxRecDepth 100000 in
set_option maxHeartbeats 6400000 in
theorem ptree_step (N:Nat):∀ (w:World) (M:Nat) (s:ByteArray) (k d:Nat),(sl s k).length < N→d≤11→PRs w M s k →
    Calls Tryz.prog 48 #[.pointer (some ⟨M,0,none⟩),.int .i64 (d:Int)] w (PTPost M s (parseT (sl s k) d) w):=by
  induction N with
  | zero=>intro w M s k d hN;omega
  | succ N ih =>
    intro w M s k d hN hd hP
    have Ih:=Lib.hid ih
    clear ih
    have hfew:=hP.few
    have hMw:M < w.heap.size:=blk_lt hP.blk
    obtain ⟨X,hX⟩:∃ X,X=parseT (sl s k) d:=⟨_,rfl⟩
    have heq:=parseT_eq (sl s k) d
    rw [← hX] at heq ⊢
    clear hX
    have hpr0:Pr w (w.alloc (.cells #[.string ⟨#[]⟩,.slice none 0 0] 46)):=Pr.alloc _ _
    by_cases hdeep:10 < d
    · rw [if_pos hdeep] at heq
      have F:=Lib.hid (pfail_any _ M s k 3 (hP.pr hpr0))
      have H:=Lib.hid heq
      have hd1:(10:Int) < d:=by omega
      clear heq hP
      go_enter Tryz.func48,Tryz.ntmps48
      go_wp2_with (go_at_call 50;(with_reducible refine Calls.mono F.out ?_);rintro e w2 hF;have he:=hF.1;subst he)
      refine ⟨by trivial,PTPost.err (q:=(3,sl s k)) (hF.after (hpr0.chg _)) H.out⟩
    · rw [if_neg hdeep] at heq
      have hd1:decide ((10:Int) < d)=false:=by simp;omega
      have L:=plabel_any _ M s k (hP.pr hpr0)
      by_cases ht:(skip (sl s k)).takeWhile okC=[]
      · rw [if_pos ht] at heq
        have L2:=L.mono (R':=PFail M s (if skip (sl s k)=[] then 5 else 4) (skip (sl s k)) (w.alloc (.cells #[.string ⟨#[]⟩,.slice none 0 0] 46))) (fun e w' h=>by
          rcases h with ⟨_,h⟩ | ⟨h,_⟩
          · exact h
          · exact absurd ht h)
        obtain ⟨c5,hc5⟩:∃ c,c=if skip (sl s k)=[] then 5 else 4:=⟨_,rfl⟩
        obtain ⟨q5,hq5⟩:∃ q,q=skip (sl s k):=⟨_,rfl⟩
        rw [← hc5,← hq5] at L2 heq
        have F:=Lib.hid L2
        have H:=Lib.hid heq
        clear heq hP L L2 ht hc5 hq5
        go_enter Tryz.func48,Tryz.ntmps48
        go_wp2_with (go_at_call 76;(with_reducible refine Calls.mono F.out ?_);rintro e w2 hF;have he:=hF.1;subst he)
        refine ⟨by trivial,PTPost.err (q:=(c5,q5)) (hF.after (hpr0.chg _)) H.out⟩
      rw [if_neg ht] at heq
      obtain ⟨l,hl⟩:∃ l,l=labOf (sl s k):=⟨_,rfl⟩
      have hlsz:l.size≤s.size:=by rw [hl];exact labOf_size s k
      rw [← hl] at heq
      have L2:=L.mono (R':=fun e w'=>e=.returned (.string l)∧∃ k',sl s k'=(skip (sl s k)).dropWhile okC∧PRs w' M s k'∧Chg (fun j=>j=M) (w.alloc (.cells #[.string ⟨#[]⟩,.slice none 0 0] 46)) w') (fun e w' h=>by
          rcases h with ⟨h,_⟩ | ⟨_,h⟩
          · exact absurd h ht
          · rw [hl];exact h)
      have hbl:=behind_length ht
      have F:=Lib.hid L2
      have Heq:=Lib.hid heq;have HP:=Lib.hid hP
      have Hbl:=Lib.hid hbl
      clear heq hP L L2 ht hl hbl
      go_enter Tryz.func48,Tryz.ntmps48
      go_upto_region 4 with (go_at_call 76;(with_reducible refine Calls.mono F.out ?_);rintro e w1 ⟨rfl,k1,hk1,hP1,hc1⟩)
      have hs1:=hc1.size
      simp at hs1
      obtain ⟨V,hV⟩:∃ V,V=w1.alloc (.cells #[.string l,.slice none 0 0] 46):=⟨_,rfl⟩
      have hwV:Pr w1 V:=by rw [hV];exact Pr.alloc _ _
      have hT:V.heap[w1.heap.size]? = some (.cells #[.string l,.slice none 0 0] 46 (0,0)):=by rw [hV];exact heap_alloc_new _ _
      have hR:V.heap[w.heap.size]? = some (.cells #[.string ⟨#[]⟩,.slice none 0 0] 46 (0,0)):=hwV.blk (hc1.blk (heap_alloc_new w _) (by omega))
      have hVs:V.heap.size=w1.heap.size+1:=by rw [hV];simp
      have hcV:Chg (fun j=>j=M) w V:=((hpr0.chg (fun j=>j=M)).trans hc1 (fun _ h=>.inl h)).pr hwV
      have hbe:skip (sl s k1)=behind (sl s k):=by rw [hk1];rfl
      have I1:=pis_any V M s k1 40 40 rfl (hP1.pr hwV)
      rw [hbe] at I1
      rw [← hV]
      have I2:=Lib.hid I1
      have HT:=Lib.hid hT;have HR:=Lib.hid hR;have HcV:=Lib.hid hcV
      clear hV hwV hT hR hcV hbe I1 hk1 hP1 hc1 hpr0
      by_cases h40:(behind (sl s k)).head? = some 40
      case neg =>
        have he:=Heq.out
        rw [if_neg h40] at he
        have H:=Lib.hid he
        clear he
        go_upto_region 5 with (go_at_call 77;(with_reducible refine Calls.mono I2.out ?_);rintro e w2 ⟨b,rfl,hb,k2,hk2,hP2,hc2⟩;obtain rfl:b=false:=(by cases b with | false=>rfl | true=>exact absurd (hb.1 rfl) h40))
        have hT2:=hc2.blk HT.out (by omega)
        have hR2:=hc2.blk HR.out (by omega)
        have t0:w2.cell? ⟨w1.heap.size,0,none⟩=some (.string l):=blk_cell hT2
        have t1:w2.cell? ⟨w1.heap.size,1,none⟩=some (.slice none 0 0):=blk_cell hT2
        have r0:w2.cell? ⟨w.heap.size,0,none⟩=some (.string ⟨#[]⟩):=blk_cell hR2
        have r1:w2.cell? ⟨w.heap.size,1,none⟩=some (.slice none 0 0):=blk_cell hR2
        have f0:w2.frozen? ⟨w.heap.size,0,none⟩=false:=blk_frozen hR2
        have f1:w2.frozen? ⟨w.heap.size,1,none⟩=false:=blk_frozen hR2
        have hcw:Chg (fun j=>j=M) w ((w2.setCell ⟨w.heap.size,0,none⟩ (.string l)).setCell ⟨w.heap.size,1,none⟩ (.slice none 0 0)):=((HcV.out.trans hc2 (fun _ h=>.inl h)).setCell _ _ (.inr (Nat.le_refl _))).setCell _ _ (.inr (Nat.le_refl _))
        have hPw:PRs ((w2.setCell ⟨w.heap.size,0,none⟩ (.string l)).setCell ⟨w.heap.size,1,none⟩ (.slice none 0 0)) M s k2:=(hP2.chg ((Chg.refl (fun j=>j=w.heap.size) w2).setCell _ _ (.inl rfl)) (by omega)).chg ((Chg.refl (fun j=>j=w.heap.size) _).setCell _ _ (.inl rfl)) (by omega)
        simp only [Bool.false_eq_true,if_false] at hk2
        have HK:=Lib.hid hk2;have HPW:=Lib.hid hPw;have HCW:=Lib.hid hcw
        clear hb hk2 hP2 hc2 hT2 hR2 hPw hcw
        go_wp2_with fail
        refine bodyPost_ret (v:=.agg #[.string l,.slice none 0 0]) (by simp [results,Tryz.results48,go_sem,r0,r1]) rfl ?_
        rw [H.out]
        have hsl:=sl_length s k
        exact ⟨l,[],none,0,k2,rfl,by unfold maxLen;omega,by have:=Hbl.out;simp only [Tr.szL_nil];omega,rfl,Kids.nil _ _ _ _ (Nat.zero_le _),HK.out,HPW.out,HCW.out⟩
      case pos =>
        have he:=Heq.out
        rw [if_pos h40] at he
        obtain ⟨r1,hr1⟩:∃ r,r=(behind (sl s k)).tail:=⟨_,rfl⟩
        rw [← hr1] at he
        have hr1l:r1.length+2≤(sl s k).length:=by
          have:=Hbl.out
          cases hbb:behind (sl s k) with
          | nil=>rw [hbb] at h40;cases h40
          | cons c cs=>rw [hbb,List.length_cons] at this;rw [hbb,List.tail_cons] at hr1;rw [hr1];omega
        have H:=Lib.hid he
        have Hr1:=Lib.hid hr1
        clear he hr1
        go_wp2_with (go_at_call 77;(with_reducible refine Calls.mono I2.out ?_);rintro e w2 ⟨b,rfl,hb,k2,hk2,hP2,hc2⟩;obtain rfl:b=true:=hb.2 h40)
        simp only [if_true] at hk2
        rw [← Hr1.out] at hk2
        have HT2:=Lib.hid (hc2.blk HT.out (by omega))
        have HR2:=Lib.hid (hc2.blk HR.out (by omega))
        have Hc2:=Lib.hid (HcV.out.trans hc2 (fun _ h=>.inl h))
        have hs2:=hc2.size
        have Hstart:=Lib.hid (And.intro hk2 hP2)
        clear hb hk2 hP2 hc2 HT HR
        go_loopw [17] (fun _ wr=>∃ (acc:List Tr) (v:Value) (k3:Nat),PRs wr M s k3∧(parseK r1 d=match parseK (sl s k3) d with | .error e=>.error e | .ok y=>.ok (acc ++ y.1,y.2))∧OwnsTs w2.heap.size wr v acc ∧
          wr.heap[w1.heap.size]? = some (.cells #[.string l,v] 46 (0,0))∧Chg (fun j=>j=M∨j=w1.heap.size) w2 wr∧((sl s k3).length+Tr.szL acc≤r1.length∧acc.length≤Tr.szL acc)) (fun _ wr=>s.size - placeOf wr M)
        case atStart=>exact ⟨[],.slice none 0 0,k2,Hstart.out.2,by rw [Hstart.out.1];simp only [List.nil_append];cases parseK r1 d <;> rfl,OwnsTs.nil _ _,HT2.out,Chg.refl _ _,by rw [Hstart.out.1];simp⟩
        case round =>
          obtain ⟨acc,v,k3,hP3,hrel,hown,hblk,hc3,hlen⟩:=hrel
          have g1:wr.cell? ⟨w1.heap.size,1,none⟩=some v:=blk_cell hblk
          have g3:=blk_lt hblk
          have hpk:=parseK_eq (sl s k3) d
          have u1:IntKind.i64.wrap ((d:Int)+1)=(d:Int)+1:=IntWalk.i64_in _ (by omega)
          have u2:((d+1:Nat):Int)=(d:Int)+1:=by omega
          have hMT:M < w1.heap.size:=by omega
          have C:=fun W' (h:Pr wr W')=>Ih.out W' M s k3 (d+1) (by omega) (by omega) (hP3.pr h)
          rw [u2] at C
          have hsz3:=fun (y:Tr × List UInt8) (h:parseT (sl s k3) (d+1)=.ok y)=>parseT_size h
          have hpl3:=hP3.place
          have hsl3:=sl_length s k3
          have hle3:=hP3.le
          generalize parseT (sl s k3) (d+1)=Y at *
          have HXY:Hid (∀ q,Y=.error q→X=.error q):=Lib.hid fun q e=>by rw [H.out,hrel,hpk,e]
          have HXK:Hid (∀ y,Y=.ok y→((skip y.2).head? = some 41→X=.ok (.node l (acc ++ [y.1]),(skip y.2).tail)) ∧
              (¬ (skip y.2).head? = some 41→parseK r1 d=match parseK (skip y.2) d with | .error e=>.error e | .ok z=>.ok ((acc ++ [y.1]) ++ z.1,z.2))):=Lib.hid fun y e=>by
            rw [e] at hpk
            simp only [] at hpk
            constructor
            · intro h;rw [if_pos h] at hpk;rw [H.out,hrel,hpk]
            · intro h
              rw [if_neg h] at hpk
              rw [hrel,hpk]
              cases parseK (skip y.2) d with
              | error e=>rfl
              | ok z=>simp
          have Hc5:Hid (∀ W',Pr wr W'→Chg (fun j=>j=M) w W'):=Lib.hid fun W' (h:Pr wr W')=>((Hc2.out.trans (Y:=fun j=>j=M∨j=w1.heap.size) hc3 (fun j hj=>hj.imp id (fun e=>by omega))).pr h)
          have C1:Hid (∀ W',Pr wr W'→Calls Tryz.prog 48 #[.pointer (some ⟨M,0,none⟩),.int .i64 ((d:Int)+1)] W' (PTPost M s Y W')):=Lib.hid C
          have Hsz3:=Lib.hid hsz3
          have hd0:=Pr.drew wr
          have Hbk:=Lib.hid hblk
          have Hc3:=Lib.hid hc3
          have HPL:=Lib.hid hpl3
          have hslk:=sl_length s k
          have hacc:acc.length≤1000000:=by omega
          have hs3:=hc3.size
          clear hpk hrel C hsz3 hblk hc3 hpl3 u2 hP3
          go_upto_region 6 with fail
          go_region_law (first
            | (go_simp;go_at_call 48;(with_reducible refine Calls.mono (C1.out _ hd0) ?_);rintro e w5 hF
               rcases Y with q | y
               · (have he:=hF.1;subst he;exact ⟨rfl,PTPost.err (hF.after (Hc5.out _ hd0)) (HXY.out q rfl)⟩)
               obtain ⟨l',ks',oa',cap',k4,hy,hl',hsz',rfl,hk',hk4,hP4,hc4⟩:=hF
               have s1:w5.cell? ⟨w1.heap.size,1,none⟩=some v:=blk_cell (o:=1) (hc4.blk (hd0.blk Hbk.out) (by omega));have s1':=fun o=>(Pr.alloc w5 o).cell s1)
            | (refine step_tree rfl _ _ rfl w2.heap.size v acc rfl (((hown.pr hd0).kept (fun j hj hl=>hc4.block j hl (by have hj':w2.heap.size≤j:=hj;omega))).pr (Pr.alloc _ _)) w5.heap.size rfl (.node l' ks') _ _ (heap_alloc_new w5 _) (treeV_mk cap' hl' ((hk'.pr (Pr.alloc _ _)).mono (apart_new (hown.pr hd0) (by simp;omega)))) (by omega) (by have:=hc4.size;simp at this ⊢;omega) ?_;intro g cap3 w6 ho6 hg6 hat6
               have n1:v.ownBlock≠some w1.heap.size:=fun e=>by have:=(hown.block _ e).1;omega
               have B6:=Lib.hid (grown_blk hg6 ((Pr.alloc w5 _).blk (hc4.blk (hd0.blk Hbk.out) (by omega))) n1)
               have t1:w6.cell? ⟨w1.heap.size,1,none⟩=some v:=blk_cell (o:=1) B6.out;have t4:=blk_frozen (o:=1) B6.out))
          all_goals
            have hc4s:=hc4.size
            have hg6s:=hg6.size
            simp at hc4s hg6s
            obtain ⟨wz,hwz⟩:∃ wz,wz=w6.setCell ⟨w1.heap.size,1,none⟩ (.slice (some ⟨g,0,none⟩) (acc.length+1) cap3):=⟨_,rfl⟩
            have nM:v.ownBlock≠some M:=fun e=>by have:=(hown.block _ e).1;omega
            have hPz:PRs wz M s k4:=by
              rw [hwz]
              exact ⟨by rw [Below.heap_setCell _ _ _ _ (by simp;omega)];exact grown_blk hg6 ((Pr.alloc w5 _).blk hP4.blk) nM,hP4.le,hP4.few⟩
            have hownz:OwnsTs w2.heap.size wz (.slice (some ⟨g,0,none⟩) (acc.length+1) cap3) (acc ++ [.node l' ks']):=by rw [hwz];exact ho6.setCell _ _ (by simp;omega)
            have hblkz:wz.heap[w1.heap.size]? = some (.cells #[.string l,.slice (some ⟨g,0,none⟩) (acc.length+1) cap3] 46 (0,0)):=by rw [hwz];exact blk_set B6.out _
            have hcz:Chg (fun j=>j=M∨j=w1.heap.size) w2 wz:=by
              rw [hwz]
              have h1:Chg (fun j=>j=M∨j=w1.heap.size) w2 (w5.alloc _):=((Hc3.out.pr hd0).trans hc4 (fun _ h=>.inl (.inl h))).pr (Pr.alloc w5 (.cells #[.string l',.slice oa' ks'.length cap'] 46))
              exact (h1.trans (chg_grown hg6) (fun j hj=>.inr (hown.block j hj).1)).setCell _ _ (.inl (.inr rfl))
            have hsz5:=Hsz3.out y rfl
            have hyp:=y.1.sz_pos
            rw [← hwz]
            have I3:=pis_any wz M s k4 41 41 rfl hPz
            rw [hk4] at I3
            have I4:=Lib.hid I3
            have Hown:=Lib.hid hownz;have Hblk:=Lib.hid hblkz;have Hcz:=Lib.hid hcz;have Hy:=Lib.hid hy;have Hk4:=Lib.hid hk4
            have hR7:=hcz.blk HR2.out (by omega)
            have HR7:=Lib.hid hR7
            have hwzs:=hcz.size
            clear hwz hPz hownz hblkz hcz I3 hy hk4 ho6 hg6 hat6 B6 t1 t4 s1 s1' hk' hP4 hc4 n1 hR7 hown g1
            by_cases h41:(skip y.2).head? = some 41
            · have hX:=(HXK.out y rfl).1 h41
              have HX:=Lib.hid hX
              clear hX
              go_wp2_with (go_at_call 77; (with_reducible refine Calls.mono I4.out ?_); rintro e w7 ⟨b, rfl, hb, k7, hk7, hP7, hc7⟩; obtain rfl : b = true := hb.2 h41
                           have hT7:=Lib.hid (hc7.blk Hblk.out (by omega));have hR8:=Lib.hid (hc7.blk HR7.out (by omega));simp only [if_true] at hk7;have HK7:=Lib.hid hk7;clear hb hk7
                           have t0:w7.cell? ⟨w1.heap.size,0,none⟩=some (.string l):=blk_cell hT7.out;have t1:w7.cell? ⟨w1.heap.size,1,none⟩=some (.slice (some ⟨g,0,none⟩) (acc.length+1) cap3):=blk_cell hT7.out
                           have r0:w7.cell? ⟨w.heap.size,0,none⟩=some (.string ⟨#[]⟩):=blk_cell hR8.out;have r1:w7.cell? ⟨w.heap.size,1,none⟩=some (.slice none 0 0):=blk_cell hR8.out
                           have f0:w7.frozen? ⟨w.heap.size,0,none⟩=false:=blk_frozen hR8.out;have f1:w7.frozen? ⟨w.heap.size,1,none⟩=false:=blk_frozen hR8.out)
              refine bodyPost_ret (v:=.agg #[.string l,.slice (some ⟨g,0,none⟩) (acc.length+1) cap3]) (by simp [results,Tryz.results48,go_sem,r0,r1]) rfl ?_
              rw [HX.out]
              obtain ⟨oz,cz,hez,hkz⟩:=Hown.out.kids
              simp only [List.length_append,List.length_singleton,Value.slice.injEq] at hez
              obtain ⟨rfl,-,rfl⟩:=hez
              have hkz7:Kids (From w2.heap.size) w7 (acc ++ [.node l' ks']) (some ⟨g,0,none⟩) cap3:=hkz.carry fun j hj hl=>⟨hc7.block j hl (by have hj':w2.heap.size≤j:=hj;omega),hj⟩
              have hkw:=((hkz7.setCell ⟨w.heap.size,0,none⟩ (.string l) (by show ¬ w2.heap.size≤_;simp;omega)).setCell ⟨w.heap.size,1,none⟩ (.slice (some ⟨g,0,none⟩) (acc.length+1) cap3) (by show ¬ w2.heap.size≤_;simp;omega)).from (m:=w.heap.size) (by omega)
              have hcw:Chg (fun j=>j=M) w ((w7.setCell ⟨w.heap.size,0,none⟩ (.string l)).setCell ⟨w.heap.size,1,none⟩ (.slice (some ⟨g,0,none⟩) (acc.length+1) cap3)) :=
                ((((Hc2.out.trans (Y:=fun j=>j=M∨j=w1.heap.size) Hcz.out (fun j hj=>hj.imp id (fun e=>by omega)))).trans hc7 (fun _ h=>.inl h)).setCell _ _ (.inr (Nat.le_refl _))).setCell _ _ (.inr (Nat.le_refl _))
              have hPw:PRs ((w7.setCell ⟨w.heap.size,0,none⟩ (.string l)).setCell ⟨w.heap.size,1,none⟩ (.slice (some ⟨g,0,none⟩) (acc.length+1) cap3)) M s k7:=(hP7.chg ((Chg.refl (fun j=>j=w.heap.size) w7).setCell _ _ (.inl rfl)) (by omega)).chg ((Chg.refl (fun j=>j=w.heap.size) _).setCell _ _ (.inl rfl)) (by omega)
              refine ⟨l,acc ++ [y.1],some ⟨g,0,none⟩,cap3,k7,rfl,by unfold maxLen;omega,?_,?_,?_,HK7.out,hPw,hcw⟩
              · have hl7:=skip_length y.2
                rw [Tr.szL_append,Tr.szL_cons,Tr.szL_nil,List.length_tail];omega
              · simp
              · rw [Hy.out];exact hkw
            · have hrel:=(HXK.out y rfl).2 h41
              have HREL:=Lib.hid hrel
              clear hrel
              go_wp2_with (go_at_call 77;(with_reducible refine Calls.mono I4.out ?_);rintro e w7 ⟨b,rfl,hb,k7,hk7,hP7,hc7⟩;obtain rfl:b=false:=(by cases b with | false=>rfl | true=>exact absurd (hb.1 rfl) h41))
              simp only [Bool.false_eq_true,if_false] at hk7
              have hl7:=skip_length y.2
              refine ⟨⟨acc ++ [.node l' ks'],.slice (some ⟨g,0,none⟩) (acc.length+1) cap3,k7,hP7,?_,?_,hc7.blk Hblk.out (by omega),Hcz.out.trans hc7 (fun _ h=>.inl (.inl h)),?_⟩,?_⟩
              · rw [hk7,HREL.out,Hy.out]
              · exact Hown.out.kept (fun j hj hl=>hc7.block j hl (by have hj':w2.heap.size≤j:=hj;omega))
              · have h2:(Tr.node l' ks').sz=y.1.sz:=by rw [Hy.out]
                rw [hk7,Tr.szL_append,Tr.szL_cons,Tr.szL_nil,h2,List.length_append,List.length_singleton];omega
              · rw [hP7.place,HPL.out]
                have h1:=sl_length s k7;rw [hk7] at h1
                have:=hP7.le
                omega
theorem ptree_any (w:World) (M:Nat) (s:ByteArray) (k d:Nat) (hd:d≤11) (h:PRs w M s k) :
    Calls Tryz.prog 48 #[.pointer (some ⟨M,0,none⟩),.int .i64 (d:Int)] w (PTPost M s (parseT (sl s k) d) w):=ptree_step _ w M s k d (Nat.lt_succ_self _) hd h
end Go.Proofs.YtdbnfhpgmcjngabGreatDoor
/- Walks: text.Parse; what it gives up by is caught. -/
namespace Go.Proofs.YtdbnfhpgmcjngabGreatDoor
open Go Go.RowKit
theorem assert_tgone (x:Value) (T:TypeId) (W:World) (f:Array Field) (hu:Tryz.prog.underlying 87=some (.struct f)):(Instr.typeAssert (.iface 87 x) T 87 true).run Tryz.prog W=.ok (.tuple #[x,.bool true]) W:=by
  simp [Instr.typeAssert,run_underlying hu]
theorem struct_tgone:∃ f,Tryz.prog.underlying 87=some (.struct f):=by
  have h:(Tryz.prog.underlying 87).isSome=true:=by kernel_rfl
  have h2:(match Tryz.prog.underlying 87 with | some (.struct _)=>true | _=>false)=true:=by kernel_rfl
  split at h2
  · rename_i f hf;exact ⟨f,hf⟩
  · cases h2
theorem pcatch_idle (A B:Nat) (w:World) :
    CallsD Tryz.prog 47 #[.pointer (some ⟨A,0,none⟩),.pointer (some ⟨B,0,none⟩)] .returning w fun e u' w'=>e=.returned (.tuple #[])∧u'=.returning∧w'=w:=by
  refine callsD_of_wpS Tryz.func47 rfl fun c₀ cs hu=>?_
  apply wpS_seq
  apply wpS_region
  simp [wpOpsS,go_sem,recoverD,hu,Tryz.ntmps47,Exit.thenS]
  apply wpS_seq
  apply wpS_region
  simp [wpOpsS,go_sem,Exit.thenS]
  refine wpS_cond (t:=false) (by simp [Act.eval]) ?_
  simp only [Bool.false_eq_true,if_false]
  refine wpS_of_wp (wp_skip ?_)
  cases c₀
  simp_all [bodyPostS,results,Tryz.results47]
theorem catch_blocks {W:World} {A B:Nat} {a0 a1 b0 b1:Value} {S T:TypeId} (hA:W.heap[A]? = some (.cells #[a0,a1] S (0,0))) (hB:W.heap[B]? = some (.cells #[b0,b1] T (0,0))) (ne:A≠B) (x y z u:Value) :
    (((((W.setCell ⟨A,0,none⟩ x).setCell ⟨A,1,none⟩ y).setCell ⟨B,0,none⟩ z).setCell ⟨B,1,none⟩ u).drew).heap[A]? = some (.cells #[x,y] S (0,0))∧(((((W.setCell ⟨A,0,none⟩ x).setCell ⟨A,1,none⟩ y).setCell ⟨B,0,none⟩ z).setCell ⟨B,1,none⟩ u).drew).heap[B]? = some (.cells #[z,u] T (0,0)):=by
  have h1:((W.setCell ⟨A,0,none⟩ x).setCell ⟨A,1,none⟩ y).heap[A]? = some (.cells #[x,y] S (0,0)):=blk_set (o:=1) (blk_set (o:=0) hA x) y
  have h2:((W.setCell ⟨A,0,none⟩ x).setCell ⟨A,1,none⟩ y).heap[B]? = some (.cells #[b0,b1] T (0,0)):=by
    rw [Below.heap_setCell _ _ _ _ (fun e=>ne e.symm),Below.heap_setCell _ _ _ _ (fun e=>ne e.symm)];exact hB
  refine ⟨?_,?_⟩
  · show (((W.setCell ⟨A,0,none⟩ x).setCell ⟨A,1,none⟩ y).setCell ⟨B,0,none⟩ z |>.setCell ⟨B,1,none⟩ u).heap[A]? = _
    rw [Below.heap_setCell _ _ _ _ ne,Below.heap_setCell _ _ _ _ ne];exact h1
  · exact blk_set (o:=1) (blk_set (o:=0) h2 z) u
theorem pcatch_fail (A B:Nat) (c k:Int) (older:List PanicEntry) (w:World) (a0 a1 b0 b1:Value)
    (h0:w.heap[A]? = some (.cells #[a0,a1] 46 (0,0))) (h1:w.heap[B]? = some (.cells #[b0,b1] 29 (0,0))) (ne:A≠B) :
    CallsD Tryz.prog 47 #[.pointer (some ⟨A,0,none⟩),.pointer (some ⟨B,0,none⟩)] (.panicking ({ v:=.iface 87 (.agg #[.int .i64 c,.int .i64 k]),recovered:=false } :: older)) w fun e u' w' =>
      e=.returned (.tuple #[])∧u'=.panicking ({ v:=.iface 87 (.agg #[.int .i64 c,.int .i64 k]),recovered:=true } :: older) ∧
        (w'.cell? ⟨A,0,none⟩=some (.string ⟨#[]⟩)∧w'.cell? ⟨A,1,none⟩=some (.slice none 0 0)∧w'.cell? ⟨B,0,none⟩=some (.int .i64 c)∧w'.cell? ⟨B,1,none⟩=some (.int .i64 k))∧Chg (fun j=>j=A∨j=B) w w':=by
  obtain ⟨ft,hft⟩:=struct_tgone
  have hA0:w.cell? ⟨A,0,none⟩=some a0:=blk_cell h0
  have hA1:w.cell? ⟨A,1,none⟩=some a1:=blk_cell h0
  have hB0:w.cell? ⟨B,0,none⟩=some b0:=blk_cell h1
  have hB1:w.cell? ⟨B,1,none⟩=some b1:=blk_cell h1
  refine callsD_of_wpS Tryz.func47 rfl fun c₀ cs hu=>?_
  apply wpS_seq
  apply wpS_region
  simp [wpOpsS,go_sem,recoverD,hu,Tryz.ntmps47,Exit.thenS]
  apply wpS_seq
  apply wpS_region
  simp [wpOpsS,go_sem,Exit.thenS]
  refine wpS_cond (t:=true) (by simp [Act.eval]) ?_
  simp only [if_true]
  apply wpS_seq
  apply wpS_region
  simp [wpOpsS,go_sem,Exit.thenS,assert_tgone _ _ _ _ hft]
  apply wpS_seq
  apply wpS_seq
  apply wpS_region
  simp [wpOpsS,go_sem,Exit.thenS]
  refine wpS_cond (t:=false) (by simp [Act.eval]) ?_
  simp only [Bool.false_eq_true,if_false]
  refine wpS_of_wp (wp_skip ?_)
  simp only [Exit.thenS]
  obtain ⟨W,hW⟩:∃ W,W=w.alloc (.cells #[.int .i64 c,.int .i64 k] 87):=⟨_,rfl⟩
  have hwW:Pr w W:=by rw [hW];exact Pr.alloc _ _
  have g0:=stays (show W.cell? ⟨w.heap.size,0,none⟩=some (.int .i64 c) by rw [hW];simp [go_sem])
  have g1:=stays (show W.cell? ⟨w.heap.size,1,none⟩=some (.int .i64 k) by rw [hW];simp [go_sem])
  have hA:=hwW.blk h0
  have hB:=hwW.blk h1
  have hlA:=blk_lt h0
  have hlB:=blk_lt h1
  refine wpS_of_wp ?_
  generalize hfr:Act.mk _ _=fr
  obtain rfl:fr={ tmps:=#[.pointer (some ⟨A,0,none⟩),.pointer (some ⟨B,0,none⟩),.iface 87 (.agg #[.int .i64 c,.int .i64 k]),.pointer (some ⟨w.heap.size,0,none⟩),.bool true,.iface 87 (.agg #[.int .i64 c,.int .i64 k]),.iface 87 (.agg #[.int .i64 c,.int .i64 k]),.bool true,
     .tuple #[.agg #[.int .i64 c,.int .i64 k],.bool true],.iface 87 (.agg #[.int .i64 c,.int .i64 k]),.tuple #[.agg #[.int .i64 c,.int .i64 k],.bool true],.agg #[.int .i64 c,.int .i64 k],.bool true,.bool true,.bool false,undef,undef,undef],defers:=[] }:=by
    rw [← hfr];kernel_rfl
  clear hfr
  rw [← hW]
  clear hW
  have e0:=hwW.cell hA0;have e1:=hwW.cell hA1;have e2:=hwW.cell hB0;have e3:=hwW.cell hB1
  have f0:W.frozen? ⟨A,0,none⟩=false:=blk_frozen hA
  have f1:W.frozen? ⟨A,1,none⟩=false:=blk_frozen hA
  have f2:W.frozen? ⟨B,0,none⟩=false:=blk_frozen hB
  have f3:W.frozen? ⟨B,1,none⟩=false:=blk_frozen hB
  have g0:=g0 _ (Pr.refl _);have g1:=g1 _ (Pr.refl _)
  have ne2:¬ B=A:=fun e=>ne e.symm
  have hfin:=fun (x y z u:Value)=>catch_blocks hA hB ne x y z u
  clear h0 h1 hA hB hA0 hA1 hB0 hB1
  have hc:=fun (x y z u:Value)=>((((((hwW.chg (fun j=>j=A∨j=B)).setCell ⟨A,0,none⟩ x (.inl (.inl rfl))).setCell ⟨A,1,none⟩ y (.inl (.inl rfl))).setCell ⟨B,0,none⟩ z (.inl (.inr rfl))).setCell ⟨B,1,none⟩ u (.inl (.inr rfl))).pr (Pr.drew _))
  go_region
  all_goals
    refine ⟨rfl,_,rfl,.tuple #[],by simp [results,Tryz.results47],rfl,rfl,?_,hc _ _ _ _⟩
    exact ⟨blk_cell (hfin _ _ _ _).1,blk_cell (hfin _ _ _ _).1,blk_cell (hfin _ _ _ _).2,blk_cell (hfin _ _ _ _).2⟩
end Go.Proofs.YtdbnfhpgmcjngabGreatDoor
/- Walks: text.Parse. -/
namespace Go.Proofs.YtdbnfhpgmcjngabGreatDoor
open Go Go.RowKit
theorem Chg.over {X:Nat→Prop} {w w1 w2:World} (h:Chg X w1 w2) (hp:Pr w w1) (hX:∀ k,X k→w.heap.size≤k):Pr w w2 :=
  ((hp.chg X).trans h (fun _ h=>.inl h)).to_pr hX
def ParsePost (r:Tr × Int × Int) (w:World) (e:Ending) (w':World):Prop:=∃ l ks oa cap,r.1=.node l ks∧l.size≤maxLen ∧
  e=.returned (.tuple #[.agg #[.string l,.slice oa ks.length cap],.agg #[.int .i64 r.2.1,.int .i64 r.2.2]])∧Kids (From w.heap.size) w' ks oa cap∧Pr w w'
theorem ParsePost.no {w w':World} {r:Tr × Int × Int} {c k:Int} (h:r=(Tr.zero,c,k)) (hp:Pr w w') :
    ParsePost r w (.returned (.tuple #[.agg #[.string ⟨#[]⟩,.slice none 0 0],.agg #[.int .i64 c,.int .i64 k]])) w':=by
  rw [h];exact ⟨⟨#[]⟩,[],none,0,rfl,by simp [ByteArray.size],rfl,Kids.nil _ _ _ _ (Nat.zero_le _),hp⟩
theorem parseP_small {l:List UInt8} (h:¬ 2000 < l.length):parseP l=match parseT l 0 with
    | .error e=>(Tr.zero,(e.1:Int),(l.length:Int) - e.2.length)
    | .ok x=>if skip x.2≠[] then (Tr.zero,6,(l.length:Int) - (skip x.2).length) else if fault x.1≠0 then (Tr.zero,(fault x.1:Int),-1) else (x.1,0,0):=by
  unfold parseP;rw [if_neg h]
  cases parseT l 0 <;> rfl
set_option maxRecDepth 100000 in
set_option maxHeartbeats 3200000 in
theorem parse_any (s:ByteArray) (w:World) (hs:s.size≤maxLen) :
    Calls Tryz.prog 25 #[.string s] w (ParsePost (parseP s.data.toList) w):=by
  have hmf:∀ (fn:Fn) (first cap:Array Value) (w:World),(Instr.makeFunc fn first cap).run Tryz.prog w=.ok (.func fn first cap) w:=fun _ _ _ _=>rfl
  unfold maxLen at hs
  obtain ⟨r,hr⟩:∃ r,r=parseP s.data.toList:=⟨_,rfl⟩
  rw [← hr]
  by_cases hbig:2000 < s.size
  · have hno:r=(Tr.zero,2,-1):=by rw [hr];unfold parseP;rw [if_pos (by rw [size_list];exact hbig)]
    have Hno:=Lib.hid hno
    have hb1:(2000:Int) < s.size:=by omega
    clear hr hno
    go_enter_defers Tryz.func25,Tryz.ntmps25
    go_wp2_with fail
    refine ⟨.tuple #[.agg #[.string ⟨#[]⟩,.slice none 0 0],.agg #[.int .i64 2,.int .i64 (-1)]],by simp [results,Tryz.results25,go_sem],?_⟩
    refine ParsePost.no Hno.out ?_
    exact (Pr.alloc _ _).alloc' _
  rw [parseP_small (by rw [size_list];exact hbig),size_list] at hr
  have hfew:s.size≤2000:=by omega
  have hb1:decide ((2000:Int) < s.size)=false:=by simp;omega
  obtain ⟨W,hW⟩:∃ W,W=((w.alloc (.cells #[.string ⟨#[]⟩,.slice none 0 0] 46)).alloc (.cells #[.int .i64 0,.int .i64 0] 29)).alloc (.cells #[.string s,.int .i64 0] 91):=⟨_,rfl⟩
  have hwW:Pr w W:=by rw [hW];exact ((Pr.alloc _ _).alloc' _).alloc' _
  have hWs:W.heap.size=w.heap.size+3:=by rw [hW];simp
  have hA:W.heap[w.heap.size]? = some (.cells #[.string ⟨#[]⟩,.slice none 0 0] 46 (0,0)):=by
    rw [hW];exact ((Pr.alloc _ _).alloc' _).blk (heap_alloc_new _ _)
  have hB:W.heap[w.heap.size+1]? = some (.cells #[.int .i64 0,.int .i64 0] 29 (0,0)):=by
    rw [hW];exact (Pr.alloc _ _).blk (by simpa using heap_alloc_new (w.alloc (.cells #[.string ⟨#[]⟩,.slice none 0 0] 46)) (.cells #[.int .i64 0,.int .i64 0] 29))
  have hM:W.heap[w.heap.size+1+1]? = some (.cells #[.string s,.int .i64 0] 91 (0,0)):=by
    rw [hW];simpa using heap_alloc_new ((w.alloc (.cells #[.string ⟨#[]⟩,.slice none 0 0] 46)).alloc (.cells #[.int .i64 0,.int .i64 0] 29)) (.cells #[.string s,.int .i64 0] 91)
  have hP:PRs W (w.heap.size+1+1) s 0:=⟨hM,Nat.zero_le _,by omega⟩
  have T:=ptree_any W (w.heap.size+1+1) s 0 0 (by omega) hP
  rw [show ((0:Nat):Int)=0 from rfl,sl_zero] at T
  have Hr:=Lib.hid hr;have HA:=Lib.hid hA;have HB:=Lib.hid hB;have HW:=Lib.hid hwW
  clear hr hA hB hwW hM hP
  generalize parseT s.data.toList 0=Y at *
  have T1:=Lib.hid T
  clear T
  go_enter_defers Tryz.func25,Tryz.ntmps25
  go_upto_region 5 with fail
  rw [← hW]
  clear hW
  rcases Y with q | y
  · go_wp2_with (go_at_call 48;(with_reducible refine Calls.mono T1.out ?_);rintro e w5 hF;have he:=hF.1;subst he)
    have hA5:=hF.2.blk HA.out (by omega)
    have hB5:=hF.2.blk HB.out (by omega)
    have hc5:=hF.2
    have hr:r=(Tr.zero,(q.1:Int),(s.size:Int) - (q.2.length:Int)):=Hr.out
    refine leaves_cons (f:=47) (args:=#[.pointer (some ⟨w.heap.size,0,none⟩),.pointer (some ⟨w.heap.size+1,0,none⟩)]) (by simp) (by simp [go_sem]) ?_
    refine (pcatch_fail _ _ _ _ [] w5 _ _ _ _ hA5 hB5 (by omega)).mono ?_
    rintro e u' w'' ⟨rfl,rfl,⟨x0,x1,x2,x3⟩,hc6⟩
    show ∃ v,(results Tryz.f25 _).run Tryz.prog _=.ok v _∧ParsePost r w (.returned v) _
    refine ⟨.tuple #[.agg #[.string ⟨#[]⟩,.slice none 0 0],.agg #[.int .i64 q.1,.int .i64 ((s.size:Int) - (q.2.length:Int))]],by simp [results,Tryz.results25,go_sem,x0,x1,x2,x3],ParsePost.no hr ?_⟩
    exact Chg.over hc6 (Chg.over hc5 HW.out (fun k hk=>by omega)) (fun k hk=>by omega)
  · obtain ⟨t,rest⟩:=y
    have hr:r=if skip rest≠[] then (Tr.zero,6,(s.size:Int) - (skip rest).length) else if fault t≠0 then (Tr.zero,(fault t:Int),-1) else (t,0,0):=Hr.out
    have H2:=Lib.hid hr
    clear Hr hr
    go_upto_region 6 with (go_at_call 48; (with_reducible refine Calls.mono T1.out ?_); rintro e w5 ⟨l, ks, oa, cap, k5, het, hl5, hsz5, rfl, hk5, hk5s, hP5, hc5⟩
                           have hA5:=hc5.blk HA.out (by omega);have hB5:=hc5.blk HB.out (by omega);have s00:=blk_frozen (o:=0) hA5;have s01:=blk_frozen (o:=1) hA5;have s10:=blk_cell (o:=0) hA5;have s11:=blk_cell (o:=1) hA5)
    subst het
    obtain ⟨w6,hw6⟩:∃ w6,w6=(w5.setCell ⟨w.heap.size,0,none⟩ (.string l)).setCell ⟨w.heap.size,1,none⟩ (.slice oa ks.length cap):=⟨_,rfl⟩
    have hA6:w6.heap[w.heap.size]? = some (.cells #[.string l,.slice oa ks.length cap] 46 (0,0)):=by rw [hw6];exact blk_set (o:=1) (blk_set (o:=0) hA5 _) _
    have hB6:w6.heap[w.heap.size+1]? = some (.cells #[.int .i64 0,.int .i64 0] 29 (0,0)):=by
      rw [hw6,Below.heap_setCell _ _ _ _ (by simp),Below.heap_setCell _ _ _ _ (by simp)];exact hB5
    have hP6:PRs w6 (w.heap.size+1+1) s k5:=by
      rw [hw6];exact (hP5.chg ((Chg.refl (fun j=>j=w.heap.size) w5).setCell _ _ (.inl rfl)) (by omega)).chg ((Chg.refl (fun j=>j=w.heap.size) _).setCell _ _ (.inl rfl)) (by omega)
    have hp6:Pr w w6:=by rw [hw6];exact ((Chg.over hc5 HW.out (fun k hk=>by omega)).setCell (by simp) _).setCell (by simp) _
    have hk6:Kids (From W.heap.size) w6 ks oa cap:=by
      rw [hw6];exact (hk5.setCell _ _ (by show ¬ W.heap.size≤_;simp;omega)).setCell _ _ (by show ¬ W.heap.size≤_;simp;omega)
    have hs6:w.heap.size+3≤w6.heap.size:=by have:=hc5.size;rw [hw6];simp [World.setCell];omega
    rw [← hw6]
    have B7:=Lib.hid (pblanks_any w6 (w.heap.size+1+1) s k5 hP6)
    have HA6:=Lib.hid hA6;have HB6:=Lib.hid hB6;have Hp6:=Lib.hid hp6;have Hk6:=Lib.hid hk6;have Hk5s:=Lib.hid hk5s;have Hl5:=Lib.hid hl5
    clear hw6 hA5 hB5 s00 s01 s10 s11 hk5 hP5 hc5 hA6 hB6 hP6 hp6 hk6 hk5s hl5 hsz5 T1
    go_upto_region 7 with (go_at_call 49;(with_reducible refine Calls.mono B7.out ?_);rintro e w7 ⟨rfl,k7,hk7,hP7,hc7⟩)
    have hA7:=hc7.blk HA6.out (by omega)
    have hB7:=hc7.blk HB6.out (by omega)
    have hp7:Pr w w7:=Chg.over hc7 Hp6.out (fun k hk=>by omega)
    have hk7k:Kids (From W.heap.size) w7 ks oa cap:=Hk6.out.carry fun j hj hl=>⟨hc7.block j hl (by have hj':W.heap.size≤j:=hj;omega),hj⟩
    have hle7:=hP7.le
    have c71:=hP7.c1
    rw [show sl s k5=rest from Hk5s.out] at hk7
    have hsz7:=hc7.size
    have hl7:=sl_length s k7
    by_cases hend:k7=s.size
    · have hsk:skip rest=[]:=by rw [← hk7,sl_end (by omega)]
      have hr:r=if fault (.node l ks)≠0 then (Tr.zero,(fault (.node l ks):Int),-1) else (.node l ks,0,0):=by rw [H2.out,if_neg (by simp [hsk])]
      have e0:decide ((k7:Int) < (s.size:Int))=false:=by simp;omega
      have e00:decide (k7 < s.size)=false:=by simp;omega
      have a0:w7.cell? ⟨w.heap.size,0,none⟩=some (.string l):=blk_cell hA7
      have a1:w7.cell? ⟨w.heap.size,1,none⟩=some (.slice oa ks.length cap):=blk_cell hA7
      have hcc:=fun W' (h:Pr w7 W')=>check_any l ks oa cap W' Hl5.out (hk7k.any.pr h)
      obtain ⟨n,hn⟩:∃ n,n=fault (.node l ks):=⟨_,rfl⟩
      rw [← hn] at hcc hr
      have C7:=Lib.hid hcc
      have HA7:=Lib.hid hA7;have HB7:=Lib.hid hB7;have Hp7:=Lib.hid hp7;have Hk7:=Lib.hid hk7k;have Hr:=Lib.hid hr
      clear hA7 hB7 hp7 hk7k hr hcc hn hsk hk7 hc7 H2
      by_cases hz:n=0
      · have e1:((n:Int) != 0)=false:=by simp [hz]
        have hr:r=(.node l ks,0,0):=by rw [Hr.out,if_neg (by simpa using hz)]
        have Hr2:=Lib.hid hr
        clear hz hr Hr
        go_wp2_with (go_at_call 51; (with_reducible refine Calls.mono (C7.out _ (Pr.refl _)) ?_); rintro e w8 ⟨rfl, hb8⟩; have hA8 := Lib.hid (hb8.blk HA7.out); have hB8 := Lib.hid (hb8.blk HB7.out)
                     have s00:=blk_frozen (o:=0) hA8.out;have s01:=blk_frozen (o:=1) hA8.out;have s10:=blk_cell (o:=0) hA8.out;have s11:=blk_cell (o:=1) hA8.out
                     have t00:=blk_frozen (o:=0) hB8.out;have t01:=blk_frozen (o:=1) hB8.out;have t10:=blk_cell (o:=0) hB8.out;have t11:=blk_cell (o:=1) hB8.out)
        obtain ⟨x0,x1⟩:=catch_blocks hA8.out hB8.out (by omega) (.string l) (.slice oa ks.length cap) (.int .i64 0) (.int .i64 0)
        obtain ⟨wz,hwz⟩:∃ wz,wz=(((w8.setCell ⟨w.heap.size,0,none⟩ (.string l)).setCell ⟨w.heap.size,1,none⟩ (.slice oa ks.length cap)).setCell ⟨w.heap.size+1,0,none⟩ (.int .i64 0)).setCell ⟨w.heap.size+1,1,none⟩ (.int .i64 0):=⟨_,rfl⟩
        have y0:wz.cell? ⟨w.heap.size,0,none⟩=some (.string l):=by rw [hwz];exact blk_cell (o:=0) x0
        have y1:wz.cell? ⟨w.heap.size,1,none⟩=some (.slice oa ks.length cap):=by rw [hwz];exact blk_cell (o:=1) x0
        have y2:wz.cell? ⟨w.heap.size+1,0,none⟩=some (.int .i64 0):=by rw [hwz];exact blk_cell (o:=0) x1
        have y3:wz.cell? ⟨w.heap.size+1,1,none⟩=some (.int .i64 0):=by rw [hwz];exact blk_cell (o:=1) x1
        have hpz:Pr w wz:=by rw [hwz];exact ((((Hp7.out.trans hb8).setCell (by simp) _).setCell (by simp) _).setCell (by simp) _).setCell (by simp) _
        have hk8:Kids (From W.heap.size) wz ks oa cap:=by
          rw [hwz];exact ((((Hk7.out.pr hb8).setCell _ _ (by show ¬ W.heap.size≤_;simp;omega)).setCell _ _ (by show ¬ W.heap.size≤_;simp;omega)).setCell _ _ (by show ¬ W.heap.size≤_;simp;omega)).setCell _ _ (by show ¬ W.heap.size≤_;simp;omega)
        rw [← hwz]
        clear hwz
        refine leaves_cons (f:=47) (args:=#[.pointer (some ⟨w.heap.size,0,none⟩),.pointer (some ⟨w.heap.size+1,0,none⟩)]) (by simp) (by simp [go_sem]) ?_
        refine (pcatch_idle _ _ _).mono ?_
        rintro e u' w'' ⟨rfl,rfl,rfl⟩
        show ∃ v,(results Tryz.f25 _).run Tryz.prog _=.ok v _∧ParsePost r w (.returned v) _
        refine ⟨.tuple #[.agg #[.string l,.slice oa ks.length cap],.agg #[.int .i64 0,.int .i64 0]],by simp [results,Tryz.results25,go_sem,y0,y1,y2,y3],?_⟩
        rw [Hr2.out]
        exact ⟨l,ks,oa,cap,rfl,Hl5.out,rfl,hk8.from (by omega),hpz⟩
      · have e1:((n:Int) != 0)=true:=by simp [bne_iff_ne];omega
        have hr:r=(Tr.zero,(n:Int),-1):=by rw [Hr.out,if_pos hz]
        have Hr2:=Lib.hid hr
        clear hz hr Hr
        go_wp2_with (go_at_call 51; (with_reducible refine Calls.mono (C7.out _ (Pr.refl _)) ?_); rintro e w8 ⟨rfl, hb8⟩; have hA8 := Lib.hid (hb8.blk HA7.out); have hB8 := Lib.hid (hb8.blk HB7.out)
                     have s00:=blk_frozen (o:=0) hA8.out;have s01:=blk_frozen (o:=1) hA8.out;have s10:=blk_cell (o:=0) hA8.out;have s11:=blk_cell (o:=1) hA8.out
                     have t00:=blk_frozen (o:=0) hB8.out;have t01:=blk_frozen (o:=1) hB8.out;have t10:=blk_cell (o:=0) hB8.out;have t11:=blk_cell (o:=1) hB8.out)
        obtain ⟨x0,x1⟩:=catch_blocks hA8.out hB8.out (by omega) (.string ⟨#[]⟩) (.slice none 0 0) (.int .i64 n) (.int .i64 (-1))
        obtain ⟨wz,hwz⟩:∃ wz,wz=(((w8.setCell ⟨w.heap.size,0,none⟩ (.string ⟨#[]⟩)).setCell ⟨w.heap.size,1,none⟩ (.slice none 0 0)).setCell ⟨w.heap.size+1,0,none⟩ (.int .i64 n)).setCell ⟨w.heap.size+1,1,none⟩ (.int .i64 (-1)):=⟨_,rfl⟩
        have y0:wz.cell? ⟨w.heap.size,0,none⟩=some (.string ⟨#[]⟩):=by rw [hwz];exact blk_cell (o:=0) x0
        have y1:wz.cell? ⟨w.heap.size,1,none⟩=some (.slice none 0 0):=by rw [hwz];exact blk_cell (o:=1) x0
        have y2:wz.cell? ⟨w.heap.size+1,0,none⟩=some (.int .i64 n):=by rw [hwz];exact blk_cell (o:=0) x1
        have y3:wz.cell? ⟨w.heap.size+1,1,none⟩=some (.int .i64 (-1)):=by rw [hwz];exact blk_cell (o:=1) x1
        have hpz:Pr w wz:=by rw [hwz];exact ((((Hp7.out.trans hb8).setCell (by simp) _).setCell (by simp) _).setCell (by simp) _).setCell (by simp) _
        rw [← hwz]
        clear hwz
        refine leaves_cons (f:=47) (args:=#[.pointer (some ⟨w.heap.size,0,none⟩),.pointer (some ⟨w.heap.size+1,0,none⟩)]) (by simp) (by simp [go_sem]) ?_
        refine (pcatch_idle _ _ _).mono ?_
        rintro e u' w'' ⟨rfl,rfl,rfl⟩
        show ∃ v,(results Tryz.f25 _).run Tryz.prog _=.ok v _∧ParsePost r w (.returned v) _
        refine ⟨.tuple #[.agg #[.string ⟨#[]⟩,.slice none 0 0],.agg #[.int .i64 n,.int .i64 (-1)]],by simp [results,Tryz.results25,go_sem,y0,y1,y2,y3],?_⟩
        exact ParsePost.no Hr2.out hpz
    · have hne:skip rest≠[]:=by rw [← hk7,sl_cons (by omega)];simp
      have hr:r=(Tr.zero,6,(s.size:Int) - (skip rest).length):=by rw [H2.out,if_pos hne]
      have e0:decide ((k7:Int) < (s.size:Int))=true:=by simp;omega
      have e00:decide (k7 < s.size)=true:=by simp;omega
      have F:=pfail_any w7 (w.heap.size+1+1) s k7 6 hP7
      rw [hk7] at F
      have HF:=Lib.hid F;have HA7:=Lib.hid hA7;have HB7:=Lib.hid hB7;have Hp7:=Lib.hid hp7;have Hr:=Lib.hid hr
      clear hA7 hB7 hp7 hk7k hr hne hk7 hc7 H2 F hP7
      go_wp2_with (go_at_call 50;(with_reducible refine Calls.mono HF.out ?_);rintro e w8 hF;have he:=hF.1;subst he)
      have hA8:=hF.2.blk HA7.out (by omega)
      have hB8:=hF.2.blk HB7.out (by omega)
      have hc8:=hF.2
      refine leaves_cons (f:=47) (args:=#[.pointer (some ⟨w.heap.size,0,none⟩),.pointer (some ⟨w.heap.size+1,0,none⟩)]) (by simp) (by simp [go_sem]) ?_
      refine (pcatch_fail _ _ _ _ [] w8 _ _ _ _ hA8 hB8 (by omega)).mono ?_
      rintro e u' w'' ⟨rfl,rfl,⟨x0,x1,x2,x3⟩,hc9⟩
      show ∃ v,(results Tryz.f25 _).run Tryz.prog _=.ok v _∧ParsePost r w (.returned v) _
      refine ⟨.tuple #[.agg #[.string ⟨#[]⟩,.slice none 0 0],.agg #[.int .i64 6,.int .i64 ((s.size:Int) - ((skip rest).length:Int))]],by simp [results,Tryz.results25,go_sem,x0,x1,x2,x3],ParsePost.no Hr.out ?_⟩
      exact Chg.over hc9 (Chg.over hc8 Hp7.out (fun k hk=>by omega)) (fun k hk=>by omega)
end Go.Proofs.YtdbnfhpgmcjngabGreatDoor
/- Walks: a builder of text that lies in a writer. -/
namespace Go.Proofs.YtdbnfhpgmcjngabGreatDoor
open Go Go.RowKit
def Bld (B M:Nat) (w:World) (l:List UInt8):Prop:=B≤M∧∃ p v,(p=.pointer none∨p=.pointer (some ⟨M,0,none⟩))∧w.heap[M]? = some (.cells #[p,v] 195 (0,0))∧w.ownsRow B 5 1 v l.length (Lib.byteCells l)∧v.ownBlock≠some M
abbrev Wrote (B M:Nat) (w w':World):Prop:=Below B w w'∧Lib.OthersKept 5 (some M) w w'
theorem under_ptrBuilder:Tryz.prog.underlying 35=some (.pointer 38):=by kernel_rfl
theorem under_unsafe:Tryz.prog.underlying 178=some .unsafePointer:=by kernel_rfl
theorem under_bytes:Tryz.prog.underlying 36=some (.slice 5):=by kernel_rfl
theorem under_stringT:Tryz.prog.underlying 9=some .string:=by kernel_rfl
theorem under_ptrByte:Tryz.prog.underlying 62=some (.pointer 5):=by kernel_rfl
theorem info_byte:(Tryz.prog.info? 5).map (fun i=>(i.zero,i.size,i.bytes))=some (some (.int .u8 0),1,1):=by kernel_rfl
theorem info_builder:(Tryz.prog.info? 38).map (·.size)=some 2:=by kernel_rfl
theorem cells_byte:Tryz.prog.cellsOf 5=1:=by kernel_rfl
theorem lies_builder:liesAt Tryz.prog Tryz.prog.depth 195 (2 / Tryz.prog.cellsOf 195) 0 38 1=true:=by kernel_rfl
theorem shape_cells {w:World} {M:Nat} {x y:Value} {T:TypeId} {fz:Nat × Nat} (h:w.heap[M]? = some (.cells #[x,y] T fz)):w.shape? M=some (T,2):=by simp [World.shape?,h]
set_option maxRecDepth 100000 in
set_option maxHeartbeats 1000000 in
theorem wcopy_fresh (M:Nat) (w:World) (v:Value) (h:w.heap[M]? = some (.cells #[.pointer none,v] 195 (0,0))) :
    Calls Tryz.prog 72 #[.pointer (some ⟨M,0,none⟩)] w fun e w'=>e=.returned (.tuple #[])∧w'=w.setCell ⟨M,0,none⟩ (.pointer (some ⟨M,0,none⟩)):=by
  obtain ⟨j,hj,hjs⟩:=Option.map_eq_some_iff.1 info_builder
  have h0:w.cell? ⟨M,0,none⟩=some (.pointer none):=blk_cell h
  have hfz:w.frozen? ⟨M,0,none⟩=false:=blk_frozen h
  have hsh:=shape_cells h
  have k1:=Lib.run_to_unsafe w ⟨M,0,none⟩ under_ptrBuilder under_unsafe hj (by rw [hjs];decide) hsh (Nat.zero_lt_succ 1)
  have k2:(callFunc 117 #[.pointer (some ⟨M,0,none⟩)]).run Tryz.prog w=.ok (.value (.pointer (some ⟨M,0,none⟩))) w:=by
    rw [run_callFunc_extern (fn:=Tryz.f117) rfl (by kernel_rfl) (by kernel_rfl) (by kernel_rfl) (e:=Extern.AbiNoEscape.same) (by kernel_rfl),Lib.run_noEscape];rfl
  have k3:=Lib.run_from_unsafe w ⟨M,0,none⟩ under_unsafe under_ptrBuilder hj hsh lies_builder
  go_enter Tryz.func72,Tryz.ntmps72
  go_wp2
  go_end0
  exact ⟨rfl,rfl⟩
set_option maxRecDepth 100000 in
set_option maxHeartbeats 1000000 in
theorem wcopy_used (M:Nat) (w:World) (v:Value) (h:w.heap[M]? = some (.cells #[.pointer (some ⟨M,0,none⟩),v] 195 (0,0))) :
    Calls Tryz.prog 72 #[.pointer (some ⟨M,0,none⟩)] w fun e w'=>e=.returned (.tuple #[])∧w'=w:=by
  obtain ⟨j,hj,_⟩:=Option.map_eq_some_iff.1 info_builder
  have h0:w.cell? ⟨M,0,none⟩=some (.pointer (some ⟨M,0,none⟩)):=blk_cell h
  have k1:=Lib.run_neq_ptr_same (P:=Tryz.prog) (w:=w) ⟨M,0,none⟩ under_ptrBuilder hj
  go_enter Tryz.func72,Tryz.ntmps72
  go_wp2
  go_end0
  exact ⟨rfl,rfl⟩
theorem row_kind {w:World} {B e size:Nat} {v:Value} {n:Nat} {xs:List Value} (h:w.ownsRow B e size v n xs):∀ g,v.ownBlock=some g→∃ c fz,w.heap[g]? = some (.cells c e fz):=by
  intro g hg
  rcases h.2 with ⟨rfl,_⟩ | ⟨g',cap,cur,rfl,_,h3,_⟩
  · cases hg
  · cases hg;exact ⟨_,_,h3⟩
theorem wcopy_any (B M:Nat) (w:World) (l:List UInt8) (h:Bld B M w l) :
    Calls Tryz.prog 72 #[.pointer (some ⟨M,0,none⟩)] w fun e w'=>e=.returned (.tuple #[])∧Bld B M w' l∧Wrote B M w w':=by
  obtain ⟨hB,p,v,rfl | rfl,hb,ho,hn⟩:=h
  · refine (wcopy_fresh M w v hb).mono ?_
    rintro e w' ⟨rfl,rfl⟩
    refine ⟨rfl,⟨hB,_,v,.inr rfl,blk_set (o:=0) hb _,ownsRow_kept ho (fun k hk=>Below.heap_setCell _ _ _ _ (fun e=>hn (by have e':k=M:=e;rw [← e'];exact hk))),hn⟩,(Below.refl B w).setCell (p:=⟨M,0,none⟩) hB _,(Lib.OthersKept.refl _ _ w).setCell ⟨M,0,none⟩ rfl _⟩
  · refine (wcopy_used M w v hb).mono ?_
    rintro e w' ⟨rfl,rfl⟩
    exact ⟨rfl,⟨hB,_,v,.inr rfl,hb,ho,hn⟩,Below.refl B _,Lib.OthersKept.refl _ _ _⟩
set_option maxRecDepth 100000 in
set_option maxHeartbeats 2000000 in
theorem wstring_any (B M:Nat) (w:World) (l:List UInt8) (s:ByteArray) (h:Bld B M w l) (hlen:l.length+s.size≤1000000) (hBw:B≤w.heap.size) :
    Calls Tryz.prog 41 #[.pointer (some ⟨M,0,none⟩),.string s] w fun e w'=>e=.returned (.tuple #[.int .i64 s.size,.nilIface])∧Bld B M w' (l ++ s.data.toList)∧Wrote B M w w':=by
  obtain ⟨i0,hi,hz0,hz1,hz2⟩:=info_parts info_byte
  go_enter Tryz.func41,Tryz.ntmps41
  go_wp2_with (go_at_call 72;(with_reducible refine Calls.mono (wcopy_any B M _ l h) ?_))
  rintro e w1 ⟨rfl,⟨hB,p,v,hpp,hb,ho,hn⟩,hb1,hk1⟩
  have c1:w1.cell? ⟨M,1,none⟩=some v:=blk_cell hb
  go_wp2_with (at_builtin;refine Lib.wpList_append_own_string _ rfl _ _ 36 9 rfl B 5 i0 under_bytes under_stringT hi hz0 hz1 hz2 _ _ _ rfl ho s rfl ?c3 ?c4 ?c5 ?_)
  case c3=>unfold maxLen;omega
  case c4=>omega
  case c5=>have:=hb1.size;omega
  intro v' w2 ho2 hg2 _
  have hb2:w2.heap[M]? = some (.cells #[p,v] 195 (0,0)):=grown_blk hg2 hb hn
  have d1:w2.cell? ⟨M,1,none⟩=some v:=blk_cell hb2
  have f1:w2.frozen? ⟨M,1,none⟩=false:=blk_frozen hb2
  obtain ⟨ao,n',cap,rfl⟩:∃ ao n' cap,v'=.slice ao n' cap:=by
    rcases ho2.2 with ⟨hv,_⟩ | ⟨g,cap,cur,hv,_⟩
    · exact ⟨_,_,_,hv⟩
    · exact ⟨_,_,_,hv⟩
  go_wp2
  go_ret2
  have hne2:(Value.slice ao n' cap).ownBlock≠some M:=by
    intro e
    obtain ⟨c,fz,h3⟩:=row_kind ho2 M e
    rw [hb2] at h3;cases h3
  refine ⟨rfl,⟨hB,p,_,hpp,blk_set (o:=1) hb2 _,?_,hne2⟩,?_,(hk1.grown hg2 (row_kind ho)).setCell ⟨M,1,none⟩ rfl _⟩
  · have:=ownsRow_kept ho2 (w':=w2.setCell ⟨M,1,none⟩ (.slice ao n' cap)) (fun k hk=>Below.heap_setCell _ _ _ _ (fun e=>hne2 (by have e':k=M:=e;rw [← e'];exact hk)))
    rw [Lib.strCells_eq,← Lib.byteCells_append] at this
    rw [List.length_append];exact this
  · exact (hb1.grown hg2 (Nat.le_trans hBw hb1.size) (fun k hk=>(ho.lt k hk).1)).setCell (p:=⟨M,1,none⟩) hB _
set_option maxRecDepth 100000 in
set_option maxHeartbeats 2000000 in
theorem wread_any (B M:Nat) (w:World) (l:List UInt8) (h:Bld B M w l) (h0:l≠[]) :
    Calls Tryz.prog 12 #[.pointer (some ⟨M,0,none⟩)] w fun e w'=>e=.returned (.string ⟨⟨l⟩⟩)∧Below B w w':=by
  obtain ⟨hB,p,v,hpp,hb,ho,hn⟩:=h
  have hl0:l.length≠0:=by simpa using h0
  obtain ⟨g,cap,cur,rfl,hbg,hg,hnc,hcm,hcs,htake⟩:∃ g cap cur,v=.slice (some ⟨g,0,none⟩) l.length cap∧B≤g∧w.heap[g]? = some (.cells cur 5 (0,0))∧l.length≤cap∧cap≤maxLen∧cur.size=cap * 1∧cur.toList.take (l.length * 1)=Lib.byteCells l:=by
    rcases ho.2 with ⟨_,hz⟩ | ⟨g,cap,cur,hv,r⟩
    · exact absurd hz hl0
    · exact ⟨g,cap,cur,hv,r⟩
  have c1:w.drew.cell? ⟨M,1,none⟩=some (.slice (some ⟨g,0,none⟩) l.length cap):=blk_cell (o:=1) hb
  have hSD:(Builtin.unsafeSliceData_ #[36] 62 #[.slice (some ⟨g,0,none⟩) l.length cap]).run Tryz.prog w.drew=.ok (.pointer (some ⟨g,0,none⟩)) w.drew :=
    Lib.run_unsafeSliceData_row _ _ _ _ _ _ (by omega)
  have hUS:(Builtin.unsafeString_ #[62,3] 9 #[.pointer (some ⟨g,0,none⟩),.int .i64 l.length]).run Tryz.prog w.drew=.ok (.string ⟨⟨l⟩⟩) (w.drew.freeze ⟨g,0,none⟩ l.length):=by
    refine Lib.run_unsafeString_row w.drew 62 3 9 5 under_ptrByte cells_byte g cur.size (by have hg':w.drew.heap[g]? = some (.cells cur 5 (0,0)):=hg;simp [World.shape?,hg']) l h0 (by omega) (by unfold maxLen at hcm;omega) ?_
    intro j x hx
    obtain ⟨hj,rfl⟩:=List.getElem?_eq_some_iff.1 hx
    rw [Addr.add_lit,Nat.zero_add]
    have h1:cur[j]? = some (.int .u8 l[j].toNat):=by
      have h2:(cur.toList.take (l.length * 1))[j]? = some (.int .u8 l[j].toNat):=by rw [htake];simp [Lib.byteCells,hj]
      rw [List.getElem?_take] at h2
      split at h2
      · simpa using h2
      · cases h2
    show w.cell? ⟨g,j,none⟩=_
    rw [blk_cell hg];exact h1
  have hfin:=Lib.below_freeze (Below.drew (Below.refl B w)) (p:=⟨g,0,none⟩) hbg l.length
  have Hfin:=Lib.hid hfin
  clear hfin hb ho hg htake hnc hcm hcs
  go_enter Tryz.func12,Tryz.ntmps12
  go_wp2
  go_region
  all_goals (go_wp2;go_ret;exact ⟨rfl,Hfin.out⟩)
end Go.Proofs.YtdbnfhpgmcjngabGreatDoor
/- Walks: a tree is written; text.Print. -/
namespace Go.Proofs.YtdbnfhpgmcjngabGreatDoor
open Go Go.RowKit
theorem Bld.pr {B M:Nat} {w w':World} {l:List UInt8} (h:Bld B M w l) (hp:Pr w w'):Bld B M w' l:=by
  obtain ⟨hB,p,v,hpp,hb,ho,hn⟩:=h
  exact ⟨hB,p,v,hpp,hp.blk hb,ownsRow_kept ho (fun k hk=>Below.block hp k (ho.lt k hk).2),hn⟩
theorem Bld.lt {B M:Nat} {w:World} {l:List UInt8} (h:Bld B M w l):B≤M∧M < w.heap.size:=by
  obtain ⟨hB,p,v,_,hb,_⟩:=h;exact ⟨hB,blk_lt hb⟩
theorem Wrote.blk {B M:Nat} {w w':World} (h:Wrote B M w w') {b:Nat} {c:Array Value} {T:TypeId} {fz:Nat × Nat} (hb:w.heap[b]? = some (.cells c T fz)) (hM:b≠M) (hT:T≠5):w'.heap[b]? = some (.cells c T fz) :=
  h.2 b _ hb (by simpa using hM) (fun c' fz' e=>hT (by cases e;rfl))
theorem Wrote.of_pr {B M:Nat} {w w':World} (h:Pr w w') (hB:B≤w.heap.size):Wrote B M w w' :=
  ⟨h.mono hB,fun _ _ hk _ _=>h.blk hk⟩
theorem Wrote.trans {B M:Nat} {a b c:World} (h:Wrote B M a b) (k:Wrote B M b c):Wrote B M a c:=⟨h.1.trans k.1,h.2.trans k.2⟩
theorem Wrote.kids {B M:Nat} {w w':World} (h:Wrote B M w w') {ks:List Tr} {oa cap} (hk:Kids (fun k=>k < B) w ks oa cap):Kids (fun k=>k < B) w' ks oa cap :=
  hk.carry fun k hS _=>⟨h.1.block k hS,hS⟩
theorem Wrote.size {B M:Nat} {w w':World} (h:Wrote B M w w'):w.heap.size≤w'.heap.size:=h.1.size
theorem txtL_snoc (o c b:List UInt8) (k:Tr):∀ ks:List Tr,txtL o c b (ks ++ [k])=txtL o c b ks ++ ((if ks.isEmpty then [] else b) ++ txt o c b k)
  | []=>by simp [txtL]
  | x :: ks=>by
    have ih:=txtL_snoc o c b k ks
    simp only [List.cons_append,txtL,ih]
    cases ks with
    | nil=>simp [txtL]
    | cons y ks=>simp
theorem txtL_take_le (o c b:List UInt8):∀ (ks:List Tr) (i:Nat),(txtL o c b (ks.take i)).length≤(txtL o c b ks).length
  | [],i=>by simp
  | x :: ks,0=>by simp [txtL]
  | x :: ks,i+1=>by
    have ih:=txtL_take_le o c b ks i
    cases ks with
    | nil=>simp [txtL]
    | cons y ks =>
      cases i with
      | zero=>simp [txtL]
      | succ i=>simp [txtL] at ih ⊢;omega
def WtPost (B M:Nat) (acc:List UInt8) (t:Tr) (w:World) (e:Ending) (w':World):Prop:=e=.returned (.tuple #[])∧Bld B M w' (acc ++ textT t)∧Wrote B M w w'
set_option maxRecDepth 100000 in
set_option maxHeartbeats 6400000 in
theorem wtree_step (N:Nat):∀ (B M:Nat) (l:ByteArray) (ks:List Tr) (oa cap) (acc:List UInt8) (w:World),Tr.szL ks < N→Bld B M w acc→Kids (fun k=>k < B) w ks oa cap→(acc ++ textT (.node l ks)).length≤100000 →
    Calls Tryz.prog 133 #[.pointer (some ⟨M,0,none⟩),.agg #[.string l,.slice oa ks.length cap]] w (WtPost B M acc (.node l ks) w):=by
  induction N with
  | zero=>intro B M l ks oa cap acc w hN;omega
  | succ N ih =>
    intro B M l ks oa cap acc w hN hb hk hlen
    have Ih:=Lib.hid ih
    clear ih
    have hlt:=hb.lt
    have hll:=l.data.toList.length
    have htx:textT (.node l ks)=l.data.toList ++ (if ks.isEmpty then [] else [40] ++ (txtL [40] [41] [32] ks ++ [41])):=by unfold textT;rw [txt]
    rw [htx] at hlen
    have hm:=hk.len
    obtain ⟨W,hW⟩:∃ W,W=w.alloc (.cells #[.string l,.slice oa ks.length cap] 46):=⟨_,rfl⟩
    have hwW:Pr w W:=by rw [hW];exact Pr.alloc _ _
    have hA:W.heap[w.heap.size]? = some (.cells #[.string l,.slice oa ks.length cap] 46 (0,0)):=by rw [hW];exact heap_alloc_new _ _
    have s0:W.cell? ⟨w.heap.size,0,none⟩=some (.string l):=blk_cell hA
    have hbW:=hb.pr hwW
    have C1:=Lib.hid fun (W':World) (h:Pr W W')=>wstring_any B M W' acc l (hbW.pr h) (by rw [List.length_append,List.length_append,size_list] at hlen;omega) (by have:=h.size;have:=hwW.size;omega)
    have HA:=Lib.hid hA;have HW:=Lib.hid hwW;have Hlen:=Lib.hid hlen;have Htx:=Lib.hid htx;have HK:=Lib.hid hk
    clear hA hwW hlen htx hbW hb hk
    go_enter Tryz.func133,Tryz.ntmps133
    go_upto_region 1 with fail
    rw [← hW]
    clear hW
    refine wp_region_quiet_tail 5 (by kernel_rfl) (by kernel_rfl) ?_
    simp only [List.take_succ_cons,List.take_zero,List.drop_succ_cons,List.drop_zero]
    repeat (go_big_quiet_step (fail))
    refine wpQuiet_nil ?_
    rintro _ ⟨nq,rfl⟩
    have hq:=Pr.drewN W nq
    go_upto_region 2 with (go_at_call 41;(with_reducible refine Calls.mono (C1.out _ hq) ?_);rintro e w1 ⟨rfl,hb1,hw1⟩)
    have hW1:Wrote B M w w1:=(Wrote.of_pr (HW.out.trans hq) (by omega)).trans hw1
    have hA1:=Lib.hid (hw1.blk (b:=w.heap.size) (T:=46) ((HW.out.trans hq).size |> fun _=>hq.blk HA.out) (by omega) (by decide))
    have g1:w1.cell? ⟨w.heap.size,1,none⟩=some (.slice oa ks.length cap):=blk_cell (o:=1) hA1.out
    have HW1:=Lib.hid hW1
    have hs1:=hW1.size
    clear hw1 hq hW1 HA HW C1 s0
    by_cases hnil:ks=[]
    · subst hnil
      have hfin:Bld B M w1 (acc ++ textT (.node l [])):=by rw [Htx.out];simpa using hb1
      have Hfin:=Lib.hid hfin
      clear hfin hb1
      go_wp2_with fail
      go_end0
      exact ⟨rfl,Hfin.out,HW1.out⟩
    · have hpos:0 < ks.length:=List.length_pos_iff.2 hnil
      have z1:((ks.length:Int)==0)=false:=by simp;omega
      have htx2:textT (.node l ks)=l.data.toList ++ ([40] ++ (txtL [40] [41] [32] ks ++ [41])):=by
        rw [Htx.out,if_neg (by simpa using hnil)]
      have hlen2:acc.length+(l.data.toList.length+(1+((txtL [40] [41] [32] ks).length+1)))≤100000:=by
        have:=Hlen.out;rw [if_neg (by simpa using hnil)] at this;simp only [List.length_append,List.length_singleton] at this;omega
      have C2:=Lib.hid (wstring_any B M w1 (acc ++ l.data.toList) ⟨#[40]⟩ hb1 (by rw [List.length_append];show acc.length+l.data.toList.length+1≤1000000;omega) (by omega))
      have Htx2:=Lib.hid htx2
      clear htx2 Htx Hlen hb1 hnil
      go_upto_region 4 with (go_at_call 41;(with_reducible refine Calls.mono C2.out ?_);rintro e w2 ⟨rfl,hb2,hw2⟩)
      have hA2:=Lib.hid (hw2.blk (T:=46) hA1.out (by omega) (by decide))
      have g2:w2.cell? ⟨w.heap.size,1,none⟩=some (.slice oa ks.length cap):=blk_cell (o:=1) hA2.out
      have HW2:=Lib.hid (HW1.out.trans hw2)
      have HK2:=Lib.hid ((HW1.out.trans hw2).kids HK.out)
      have hs2:=hw2.size
      have Hb2:=Lib.hid hb2
      clear C2 HK hw2 HW1 hA1 hA2 hb2
      go_wp2_with fail
      go_loopw [23] (fun v wr=>∃ i:Nat,i≤ks.length∧v=.int .i64 i∧Bld B M wr (acc ++ l.data.toList ++ [40] ++ txtL [40] [41] [32] (ks.take i))∧Wrote B M w2 wr) (fun v _=>ks.length - (intOf v).toNat)
      case atStart=>exact ⟨0,by omega,rfl,by have:=Hb2.out;simpa [txtL] using this,Wrote.of_pr (Pr.refl _) (by omega)⟩
      case round =>
        obtain ⟨i,hi,rfl,hbr,hwr⟩:=hrel
        have hsr:=hwr.size
        by_cases hlt:i < ks.length
        · obtain ⟨b,o,l',ks',oa',cap',e1,hl',rfl,c0,c1,hk'⟩:=(hwr.kids HK2.out).get i hlt
          have hsz:=Tr.szL_get ks i hlt
          have hsn:=txtL_snoc [40] [41] [32] ks[i] (ks.take i)
          rw [← List.take_succ_eq_append_getElem hlt] at hsn
          have hle:=txtL_take_le [40] [41] [32] ks (i+1)
          have hkb:=lt_of_cell c0
          rw [e1] at hsz hsn
          simp only [Tr.sz_node] at hsz
          obtain ⟨V,hV⟩:∃ V,V=wr.alloc (.cells #[.string l',.slice oa' ks'.length cap'] 46):=⟨_,rfl⟩
          have hwV:Pr wr V:=by rw [hV];exact Pr.alloc _ _
          have hV5:V.heap[wr.heap.size]? = some (.cells #[.string l',.slice oa' ks'.length cap'] 46 (0,0)):=by rw [hV];exact heap_alloc_new _ _
          have hMr:=hbr.lt
          have hbV:=hbr.pr hwV
          by_cases h0:i=0
          · have hsn0:txtL [40] [41] [32] (ks.take (i+1))=textT (.node l' ks'):=by subst h0;simpa [txtL,textT] using hsn
            have hbV0:Bld B M V (acc ++ l.data.toList ++ [40]):=by subst h0;simpa [txtL] using hbV
            have I:=Ih.out B M l' ks' oa' cap' (acc ++ l.data.toList ++ [40]) V (by omega) hbV0 ((Wrote.of_pr (M:=M) hwV (by omega)).kids hk') (by rw [← hsn0];simp only [List.length_append,List.length_singleton];omega)
            have I2:=Lib.hid I
            have HV5:=Lib.hid hV5;have HwV:=Lib.hid hwV;have Hsn:=Lib.hid hsn0;have Hwr:=Lib.hid hwr
            have x0:V.cell? ⟨wr.heap.size,0,none⟩=some (.string l'):=blk_cell hV5
            have x1:V.cell? ⟨wr.heap.size,1,none⟩=some (.slice oa' ks'.length cap'):=blk_cell hV5
            have t1:decide ((0:Int) < (i:Int))=false:=by simp;omega
            have t2:decide (0 < i)=false:=by simp;omega
            clear hsn hle I hV5 hwV hsn0 hbV hbV0 hbr hwr hk' e1 h0
            go_upto_region 7 with fail
            rw [← hV]
            clear hV
            go_wp2_with (go_at_call 133;(with_reducible refine Calls.mono I2.out ?_);rintro e w5 ⟨rfl,hb5,hw5⟩)
            refine ⟨⟨i+1,by omega,by go_num,?_,Hwr.out.trans ((Wrote.of_pr HwV.out (by omega)).trans hw5)⟩,?_⟩
            · rw [Hsn.out];exact hb5
            · simp [intOf];omega
          · have hsn1:txtL [40] [41] [32] (ks.take (i+1))=txtL [40] [41] [32] (ks.take i) ++ ([32] ++ textT (.node l' ks')):=by
              rw [if_neg (by rw [List.isEmpty_iff,List.take_eq_nil_iff];rintro (h | h);exact h0 h;rw [h] at hlt;simp at hlt)] at hsn
              exact hsn
            have hbl:=hbV
            have C4:=Lib.hid (wstring_any B M V _ ⟨#[32]⟩ hbV (by rw [hsn1] at hle;simp only [List.length_append,List.length_singleton] at hle ⊢;show _+1≤1000000;omega) (by have:=hwV.size;omega))
            have Hsn:=Lib.hid hsn1;have HV5:=Lib.hid hV5;have HwV:=Lib.hid hwV;have Hwr:=Lib.hid hwr
            have I2:Hid (∀ W',Bld B M W' (acc ++ l.data.toList ++ [40] ++ txtL [40] [41] [32] (ks.take i) ++ [32])→Wrote B M V W'→Calls Tryz.prog 133 #[.pointer (some ⟨M,0,none⟩),.agg #[.string l',.slice oa' ks'.length cap']] W' (WtPost B M (acc ++ l.data.toList ++ [40] ++ txtL [40] [41] [32] (ks.take i) ++ [32]) (.node l' ks') W')) :=
              Lib.hid fun W' h1 h2=>Ih.out B M l' ks' oa' cap' _ W' (by omega) h1 (((Wrote.of_pr (M:=M) hwV (by omega)).trans h2).kids hk') (by rw [hsn1] at hle;simp only [List.length_append,List.length_singleton] at hle ⊢;omega)
            have t1:decide ((0:Int) < (i:Int))=true:=by simp;omega
            have t2:decide (0 < i)=true:=by simp;omega
            have hVs:V.heap.size=wr.heap.size+1:=by rw [hV];simp
            clear hsn hle hV5 hwV hsn1 hbV hbl hbr hwr hk' e1 h0
            go_upto_region 7 with fail
            rw [← hV]
            clear hV
            go_upto_region 9 with (go_at_call 41;(with_reducible refine Calls.mono C4.out ?_);rintro e w4 ⟨rfl,hb4,hw4⟩)
            have hA4:=hw4.blk HV5.out (by omega) (by decide)
            have x0:w4.cell? ⟨wr.heap.size,0,none⟩=some (.string l'):=blk_cell hA4
            have x1:w4.cell? ⟨wr.heap.size,1,none⟩=some (.slice oa' ks'.length cap'):=blk_cell hA4
            have I3:=Lib.hid (I2.out w4 hb4 hw4)
            have Hw4:=Lib.hid hw4
            clear I2 hb4 hw4 hA4
            go_wp2_with (go_at_call 133;(with_reducible refine Calls.mono I3.out ?_);rintro e w5 ⟨rfl,hb5,hw5⟩)
            refine ⟨⟨i+1,by omega,by go_num,?_,Hwr.out.trans ((Wrote.of_pr HwV.out (by omega)).trans (Hw4.out.trans hw5))⟩,?_⟩
            · rw [Hsn.out];simpa only [List.append_assoc] using hb5
            · simp [intOf];omega
        · have hin:i=ks.length:=by omega
          have C3:=Lib.hid (wstring_any B M wr _ ⟨#[41]⟩ hbr (by rw [hin,List.take_length];simp only [List.length_append,List.length_singleton];show _+1≤1000000;omega) (by have:=hbr.lt;omega))
          have Hwr:=Lib.hid hwr
          have d1:decide ((i:Int) < (ks.length:Int))=false:=by simp;omega
          have d2:decide (i < ks.length)=false:=by simp;omega
          have Hin:=Lib.hid hin
          clear hin hbr hwr hlt
          go_wp2_with (go_at_call 41;(with_reducible refine Calls.mono C3.out ?_);rintro e w3 ⟨rfl,hb3,hw3⟩)
          go_end0
          refine ⟨rfl,?_,HW2.out.trans (Hwr.out.trans hw3)⟩
          rw [Htx2.out]
          rw [Hin.out,List.take_length] at hb3
          simpa only [List.append_assoc] using hb3
theorem wtree_any (B M:Nat) (l:ByteArray) (ks:List Tr) (oa cap) (acc:List UInt8) (w:World) (hb:Bld B M w acc) (hk:Kids (fun k=>k < B) w ks oa cap) (hlen:(acc ++ textT (.node l ks)).length≤100000) :
    Calls Tryz.prog 133 #[.pointer (some ⟨M,0,none⟩),.agg #[.string l,.slice oa ks.length cap]] w (WtPost B M acc (.node l ks) w):=wtree_step _ B M l ks oa cap acc w (Nat.lt_succ_self _) hb hk hlen
def wrT (t:Tr):ByteArray:=if fault t=0 then ⟨⟨textT t⟩⟩ else ⟨#[]⟩
theorem Bld.made (w:World):Bld w.heap.size w.heap.size (w.alloc (.cells #[.pointer none,.slice none 0 0] 195)) [] :=
  ⟨Nat.le_refl _,.pointer none,.slice none 0 0,.inl rfl,heap_alloc_new _ _,World.ownsRow_nil _ _ _ _,by simp [Value.ownBlock]⟩
set_option maxRecDepth 100000 in
set_option maxHeartbeats 3200000 in
theorem tprint_any (l:ByteArray) (ks:List Tr) (oa cap) (w:World) (hl:l.size≤maxLen) (hk:Kids Any w ks oa cap) :
    Calls Tryz.prog 96 #[.agg #[.string l,.slice oa ks.length cap]] w fun e w'=>e=.returned (.tuple #[.string (wrT (.node l ks)),.int .i64 (fault (.node l ks))])∧Pr w w':=by
  obtain ⟨W,hW⟩:∃ W,W=w.alloc (.cells #[.string l,.slice oa ks.length cap] 46):=⟨_,rfl⟩
  have hwW:Pr w W:=by rw [hW];exact Pr.alloc _ _
  have s0:=stays (show W.cell? ⟨w.heap.size,0,none⟩=some (.string l) by rw [hW];simp [go_sem])
  have s1:=stays (show W.cell? ⟨w.heap.size,1,none⟩=some (.slice oa ks.length cap) by rw [hW];simp [go_sem])
  have F1:=Lib.hid (fun W' (h:Pr W W')=>check_any l ks oa cap W' hl (hk.pr (hwW.trans h)))
  have HW:=Lib.hid hwW
  have HK:=Lib.hid hk
  clear hwW hk
  by_cases ft:fault (.node l ks)=0
  case neg =>
    have hpr:wrT (.node l ks)=⟨#[]⟩:=by unfold wrT;rw [if_neg ft]
    have e1:((fault (.node l ks):Int) != 0)=true:=by simp [bne_iff_ne];omega
    rw [hpr]
    clear hpr
    generalize fault (.node l ks)=c at *
    go_enter Tryz.func96,Tryz.ntmps96
    go_upto_region 1 with fail
    rw [← hW];clear hW
    have x0:=s0 _ (Pr.refl _);have x1:=s1 _ (Pr.refl _)
    go_wp2_with (go_at_call 51;(with_reducible refine Calls.mono (F1.out _ (Pr.refl _)) ?_);rintro e w1 ⟨rfl,hb⟩)
    go_ret2
    exact ⟨rfl,HW.out.trans hb⟩
  case pos =>
    have hpr:wrT (.node l ks)=⟨⟨textT (.node l ks)⟩⟩:=by unfold wrT;rw [if_pos ft]
    have hnm:=(fault_parts ft).2.2
    have hsz:=(fault_parts ft).1
    have hlen:=txt_length (.node l ks) hnm
    have hne:textT (.node l ks)≠[]:=by obtain ⟨x,r,h,_⟩:=txt_front [40] [41] [32] hnm;unfold textT;rw [h];simp
    rw [hpr,ft]
    rw [ft] at F1
    have Hlen:=Lib.hid hlen;have Hne:=Lib.hid hne
    clear hpr ft hnm hlen hne
    go_enter Tryz.func96,Tryz.ntmps96
    go_upto_region 1 with fail
    rw [← hW];clear hW
    have x0:=s0 _ (Pr.refl _);have x1:=s1 _ (Pr.refl _)
    go_upto_region 4 with (go_at_call 51;(with_reducible refine Calls.mono (F1.out _ (Pr.refl _)) ?_);rintro e w1 ⟨rfl,hb⟩)
    obtain ⟨V,hV⟩:∃ V,V=w1.alloc (.cells #[.pointer none,.slice none 0 0] 195):=⟨_,rfl⟩
    have hwV:Pr w1 V:=by rw [hV];exact Pr.alloc _ _
    have hmade:Bld w1.heap.size w1.heap.size V []:=by rw [hV];exact Bld.made w1
    have y0:=s0 _ (hb.trans hwV);have y1:=s1 _ (hb.trans hwV)
    have hkV:Kids (fun k=>k < w1.heap.size) V ks oa cap:=((HK.out.pr (HW.out.trans hb)).mono (S':=fun k=>k < w1.heap.size) (fun k _ h=>h)).pr hwV
    have T:=Lib.hid (wtree_any w1.heap.size w1.heap.size l ks oa cap [] V hmade hkV (by rw [List.nil_append];have:=Hlen.out;omega))
    have Hp:=Lib.hid ((HW.out.trans hb).trans hwV)
    have hs1:=(HW.out.trans hb).size
    clear x0 x1 hmade hwV hkV
    go_upto_region 5 with fail
    rw [← hV];clear hV
    go_upto_region 6 with (go_at_call 133;(with_reducible refine Calls.mono T.out ?_);rintro e w2 ⟨rfl,hb2,hw2⟩)
    rw [List.nil_append] at hb2
    have R:=Lib.hid (wread_any _ _ w2 _ hb2 Hne.out)
    have Hw2:=Lib.hid hw2.1
    clear hb2 hw2
    go_wp2_with (go_at_call 12;(with_reducible refine Calls.mono R.out ?_);rintro e w3 ⟨rfl,hb3⟩)
    go_ret2
    exact ⟨rfl,Below.trans Hp.out ((Hw2.out.trans hb3).mono (by omega))⟩
end Go.Proofs.YtdbnfhpgmcjngabGreatDoor
