/- Walks: pleachingref.Diff. -/
import Derived.Test.YtdbnfhpgmcjngacDoorYt
import Derived.Test.YtdbnfhpgmcjngacDoorBya
import Derived.Test.YtdbnfhpgmcjngacDoorYe
import Derived.Test.YtdbnfhpgmcjngacDoorByf
import Derived.Test.YtdbnfhpgmcjngacDoorBwn
import Derived.Test.YtdbnfhpgmcjngacDoorWr
import Derived.Deep.DeepCutAuto
namespace Go.Proofs.YtdbnfhpgmcjngacDoor
open Go Go.RowKit
def RDiffPost (w:World) (D:List Dee) (e:Ending) (w':World):Prop:=∃ oa cap,e=.returned (.slice oa D.length cap)∧Dees Any w' D oa cap∧Pr w w'
set_option maxRecDepth 100000 in
set_option maxHeartbeats 12800000 in
theorem rdiff_any (l:ByteArray) (ks:List Tr) (oa cap) (m:ByteArray) (js:List Tr) (ob cbp) (P:List (Nat × Nat)) (zs:List (Int × Int)) (hzs:zs=zp P) (bo bc) (w:World) (hl:l.size≤maxLen) (hk:Kids Any w ks oa cap) (hm:m.size≤maxLen) (hj:Kids Any w js ob cbp)
    (fa:fault (.node l ks)=0) (fb:fault (.node m js)=0) (hP:P=bestT (.node l ks) (.node m js)) (hp:Prs Any w zs bo bc) (hlt0:Lt w) :
    Calls Tryd.prog 11 #[.agg #[.string l,.slice oa ks.length cap],.agg #[.string m,.slice ob js.length cbp],.slice bo zs.length bc] w (RDiffPost w (diffP (.node l ks) (.node m js) P)):=by
  have hsa:(Tr.node l ks).sz≤40:=(fault_zero.1 fa).1
  have hsb:(Tr.node m js).sz≤40:=(fault_zero.1 fb).1
  obtain ⟨W,hW⟩:∃ W,W=(w.alloc (.cells #[.string l,.slice oa ks.length cap] 24)).alloc (.cells #[.string m,.slice ob js.length cbp] 24):=⟨_,rfl⟩
  have hwW:Pr w W:=by rw [hW];exact (Pr.alloc _ _).alloc' _
  have s0:=stays (show W.cell? ⟨w.heap.size,0,none⟩=some (.string l) by rw [hW];simp [go_sem])
  have s1:=stays (show W.cell? ⟨w.heap.size,1,none⟩=some (.slice oa ks.length cap) by rw [hW];simp [go_sem])
  have s2:=stays (show W.cell? ⟨w.heap.size+1,0,none⟩=some (.string m) by rw [hW];simp [go_sem])
  have s3:=stays (show W.cell? ⟨w.heap.size+1,1,none⟩=some (.slice ob js.length cbp) by rw [hW];simp [go_sem])
  have hroot:((Tr.node l ks).sz - 1,(Tr.node m js).sz - 1)∈P:=by rw [hP];unfold bestT;simp
  have r1:(Tr.node l ks).sz - 1∈P.map (·.1):=List.mem_map.2 ⟨_,hroot,rfl⟩
  have r2:(Tr.node m js).sz - 1∈P.map (·.2):=List.mem_map.2 ⟨_,hroot,rfl⟩
  have hform:bare (lessT (.node l ks) (P.map (·.1)))=bare (lessT (.node m js) (P.map (·.2))):=by
    rw [hP] at hroot ⊢
    obtain ⟨h1,hg,_⟩:=bestT_good (.node l ks) (.node m js)
    exact less_form hg h1 hroot
  obtain ⟨n1,hn1⟩:∃ n,n=(Tr.node l ks).sz:=⟨_,rfl⟩
  obtain ⟨n2,hn2⟩:∃ n,n=(Tr.node m js).sz:=⟨_,rfl⟩
  have SZA:Hid (∀ W',Pr W W'→Calls Tryd.prog 9 #[.agg #[.string l,.slice oa ks.length cap],.int .i64 1000] W' fun e w'=>e=.returned (.int .i64 n1)∧Pr W' w'):=Lib.hid fun W' h=>by
    have:=sizeOf_any _ l ks oa cap 1000 W' (Nat.lt_succ_self _) (by omega) (by rw [Tr.sz_node] at hsa;omega) ((hk.pr hwW).pr h)
    have e1:sizeR (Tr.szL ks+1) 1000=(n1:Int):=by unfold sizeR;rw [hn1,Tr.sz_node];rw [Tr.sz_node] at hsa;omega
    rw [e1] at this;exact this
  have SZB:Hid (∀ W',Pr W W'→Calls Tryd.prog 9 #[.agg #[.string m,.slice ob js.length cbp],.int .i64 1000] W' fun e w'=>e=.returned (.int .i64 n2)∧Pr W' w'):=Lib.hid fun W' h=>by
    have:=sizeOf_any _ m js ob cbp 1000 W' (Nat.lt_succ_self _) (by omega) (by rw [Tr.sz_node] at hsb;omega) ((hj.pr hwW).pr h)
    have e1:sizeR (Tr.szL js+1) 1000=(n2:Int):=by unfold sizeR;rw [hn2,Tr.sz_node];rw [Tr.sz_node] at hsb;omega
    rw [e1] at this;exact this
  obtain ⟨LA,hLA⟩:∃ L,L=goneL (P.map (·.1)) n1:=⟨_,rfl⟩
  obtain ⟨LB,hLB⟩:∃ L,L=goneL (P.map (·.2)) n2:=⟨_,rfl⟩
  obtain ⟨G1,hG1⟩:∃ g:Nat→Bool,g=fun (i:Nat)=>zs.any fun p=>p.1==(i:Int):=⟨_,rfl⟩
  obtain ⟨G2,hG2⟩:∃ g:Nat→Bool,g=fun (i:Nat)=>zs.any fun p=>p.2==(i:Int):=⟨_,rfl⟩
  have E1:Hid (restZ G1 n1=LA.map Int.ofNat):=Lib.hid (by rw [hG1,hzs,restZ_gone1,hLA])
  have E2:Hid (restZ G2 n2=LB.map Int.ofNat):=Lib.hid (by rw [hG2,hzs,restZ_gone2,hLB])
  have HG1:=Lib.hid hG1;have HG2:=Lib.hid hG2;have HPR:=Lib.hid (hp.pr hwW);have HW:=Lib.hid hwW
  have hn1s:n1≤40:=by rw [hn1];exact hsa
  have hn2s:n2≤40:=by rw [hn2];exact hsb
  have hzl:=Prs.len hp
  have Hfa:=Lib.hid fa;have Hfb:=Lib.hid fb;have Hr1:=Lib.hid r1;have Hr2:=Lib.hid r2;have Hform:=Lib.hid hform;have Hn1:=Lib.hid hn1;have Hn2:=Lib.hid hn2;have HLA:=Lib.hid hLA;have HLB:=Lib.hid hLB;have HK:=Lib.hid hk;have HJ:=Lib.hid hj;have HLt:=Lib.hid hlt0
  clear fa fb r1 r2 hform hn1 hn2 hLA hLB hG1 hG2 hP hp hroot hk hj hlt0 hwW hzs hsa hsb
  go_enter Tryd.func11,Tryd.ntmps11
  go_upto_region 1 with fail
  rw [← hW];clear hW
  have HWW:=Lib.hid (Pr.refl W)
  go_wp2_with fail
  go_loopw [7,9] (fun v7 v9 wr=>∃ i:Nat,i≤n1∧v9=.int .i64 i∧OwnsIs W.heap.size wr v7 (restZ G1 i)∧Pr W wr) (fun _ v9 _=>n1 - (intOf v9).toNat)
  case atStart=>exact ⟨0,by omega,rfl,by simpa [restZ] using OwnsIs.nil _ _,Pr.refl _⟩
  case round =>
    obtain ⟨i,hi,rfl,hown,hb⟩:=hrel
    have Hown:=Lib.hid hown;clear hown
    have x0:=s0 _ (HWW.out.trans hb);have x1:=s1 _ (HWW.out.trans hb)
    by_cases hlt:i < n1
    case pos =>
      have hs:=restZ_succ G1 i
      have hl:=restZ_length G1 i
      have hq:G1 i=zs.any fun p=>p.1==(i:Int):=by rw [HG1.out]
      generalize restZ G1 i=R at *
      have Hs:=Lib.hid hs;have Hq:=Lib.hid hq
      clear hs hq
      go_upto_region 5 with (go_at_call 9;(with_reducible refine Calls.mono (SZA.out _ (HWW.out.trans hb)) ?_);rintro e w1 ⟨rfl,hb1⟩)
      go_upto_region 7 with fail
      go_wp2_with fail
      go_loopw [10,11] (fun v10 v11 wy=>∃ k:Nat,k≤zs.length∧v11=.int .i64 k∧v10=.bool ((zs.take k).any fun p=>p.1==(i:Int))∧wy=w1) (fun _ v11 _=>zs.length - (intOf v11).toNat)
      case atStart=>exact ⟨0,by omega,rfl,rfl,rfl⟩
      case round =>
        obtain ⟨k,hkz,rfl,rfl,hwy⟩:=hrel
        have hwy':=hwy.symm
        subst hwy'
        by_cases hkt:k < zs.length
        case pos =>
          obtain ⟨bz,oz,ez,hz⟩:=(HPR.out.pr (HWW.out.trans (hb.trans hb1))).get (by omega)
          have c0:=(hz k hkt).1
          have ha:((zs.take (k+1)).any fun p=>p.1==(i:Int))=(((zs.take k).any fun p=>p.1==(i:Int)) || (zs[k].1==(i:Int))):=by rw [List.take_succ_eq_append_getElem hkt,List.any_append];simp
          generalize (zs.take k).any (fun p=>p.1==(i:Int))=b0 at *
          generalize zs[k].1=zk at *
          have Ha:=Lib.hid ha
          subst ez
          clear ha hz
          cases b0
          · go_wp2_with fail
            refine ⟨⟨k+1,by omega,by go_num,by rw [Ha.out];simp,by simp⟩,?_⟩
            simp [intOf];omega
          · go_wp2_with fail
            refine ⟨⟨k+1,by omega,by go_num,by rw [Ha.out];simp,by simp⟩,?_⟩
            simp [intOf];omega
        case neg =>
          have hke:k=zs.length:=by omega
          subst hke
          rw [List.take_length,← Hq.out]
          have hz1:=Below.size hb;have hz2:=Below.size hb1
          have Hs2:=Hs.out
          cases hqq:G1 i
          · rw [hqq] at Hs2
            have Hs3:=Lib.hid Hs2
            clear Hs2 hqq
            go_wp2_with (at_builtin;go_must (refine app_int rfl _ _ rfl W.heap.size _ _ rfl ((Hown.out.pr hb1).pr (Pr.alloc _ _)) w1.heap.size rfl _ (heap_alloc_new w1 _) (by omega) (by simp;omega) ?_);intro g4 c4 w2 ho4 hg4 hd4)
            refine ⟨⟨i+1,by omega,by go_num,by rw [Hs3.out];exact ho4,Below.grown ((hb.trans hb1).alloc' _) hg4 (by simp;omega) (fun k hk=>by have:=(Hown.out.block k hk).1;omega)⟩,?_⟩
            simp [intOf];omega
          · rw [hqq] at Hs2
            have Hs3:=Lib.hid Hs2
            clear Hs2 hqq
            go_wp2_with fail
            refine ⟨⟨i+1,by omega,by go_num,by rw [Hs3.out];exact Hown.out.pr hb1,hb.trans hb1⟩,?_⟩
            simp [intOf];omega
    case neg =>
      have hie:i=n1:=by omega
      have hown:=Hown.out
      rw [hie,E1.out] at hown
      obtain ⟨xa,hxa⟩:∃ x,x=LA.map Int.ofNat:=⟨_,rfl⟩
      rw [← hxa] at hown
      obtain ⟨og,cg,rfl,hia⟩:=hown.ints
      have Hxa:=Lib.hid hxa
      subst hie
      clear Hown hown hxa
      go_upto_region 12 with (go_at_call 9;(with_reducible refine Calls.mono (SZA.out _ (HWW.out.trans hb)) ?_);rintro e wA ⟨rfl,hbA⟩)
      have HW1:=Lib.hid (hb.trans hbA)
      have HIA:=Lib.hid (Flat.pr hbA hia)
      clear hia hb hbA x0 x1
      go_wp2_with fail
      go_loopw [8,12] (fun v7 v9 wr=>∃ i:Nat,i≤n2∧v9=.int .i64 i∧OwnsIs wA.heap.size wr v7 (restZ G2 i)∧Pr wA wr) (fun _ v9 _=>n2 - (intOf v9).toNat)
      case atStart=>exact ⟨0,by omega,rfl,by simpa [restZ] using OwnsIs.nil _ _,Pr.refl _⟩
      case round =>
        obtain ⟨i,hi,rfl,hown,hb⟩:=hrel
        have Hown:=Lib.hid hown;clear hown
        have x0:=s2 _ (HW1.out.trans hb);have x1:=s3 _ (HW1.out.trans hb)
        by_cases hlt:i < n2
        case pos =>
          have hs:=restZ_succ G2 i
          have hl:=restZ_length G2 i
          have hq:G2 i=zs.any fun p=>p.2==(i:Int):=by rw [HG2.out]
          generalize restZ G2 i=R at *
          have Hs:=Lib.hid hs;have Hq:=Lib.hid hq
          clear hs hq
          go_upto_region 15 with (go_at_call 9;(with_reducible refine Calls.mono (SZB.out _ (HW1.out.trans hb)) ?_);rintro e w1 ⟨rfl,hb1⟩)
          go_upto_region 17 with fail
          go_wp2_with fail
          go_loopw [13,14] (fun v10 v11 wy=>∃ k:Nat,k≤zs.length∧v11=.int .i64 k∧v10=.bool ((zs.take k).any fun p=>p.2==(i:Int))∧wy=w1) (fun _ v11 _=>zs.length - (intOf v11).toNat)
          case atStart=>exact ⟨0,by omega,rfl,rfl,rfl⟩
          case round =>
            obtain ⟨k,hkz,rfl,rfl,hwy⟩:=hrel
            have hwy':=hwy.symm
            subst hwy'
            by_cases hkt:k < zs.length
            case pos =>
              obtain ⟨bz,oz,ez,hz⟩:=(HPR.out.pr (HW1.out.trans (hb.trans hb1))).get (by omega)
              have c0:=(hz k hkt).2
              have ha:((zs.take (k+1)).any fun p=>p.2==(i:Int))=(((zs.take k).any fun p=>p.2==(i:Int)) || (zs[k].2==(i:Int))):=by rw [List.take_succ_eq_append_getElem hkt,List.any_append];simp
              generalize (zs.take k).any (fun p=>p.2==(i:Int))=b0 at *
              generalize zs[k].2=zk at *
              have Ha:=Lib.hid ha
              subst ez
              clear ha hz
              cases b0
              · go_wp2_with fail
                refine ⟨⟨k+1,by omega,by go_num,by rw [Ha.out];simp,by simp⟩,?_⟩
                simp [intOf];omega
              · go_wp2_with fail
                refine ⟨⟨k+1,by omega,by go_num,by rw [Ha.out];simp,by simp⟩,?_⟩
                simp [intOf];omega
            case neg =>
              have hke:k=zs.length:=by omega
              subst hke
              rw [List.take_length,← Hq.out]
              have hz1:=Below.size hb;have hz2:=Below.size hb1
              have Hs2:=Hs.out
              cases hqq:G2 i
              · rw [hqq] at Hs2
                have Hs3:=Lib.hid Hs2
                clear Hs2 hqq
                go_wp2_with (at_builtin;go_must (refine app_int rfl _ _ rfl wA.heap.size _ _ rfl ((Hown.out.pr hb1).pr (Pr.alloc _ _)) w1.heap.size rfl _ (heap_alloc_new w1 _) (by omega) (by simp;omega) ?_);intro g4 c4 w2 ho4 hg4 hd4)
                refine ⟨⟨i+1,by omega,by go_num,by rw [Hs3.out];exact ho4,Below.grown ((hb.trans hb1).alloc' _) hg4 (by simp;omega) (fun k hk=>by have:=(Hown.out.block k hk).1;omega)⟩,?_⟩
                simp [intOf];omega
              · rw [hqq] at Hs2
                have Hs3:=Lib.hid Hs2
                clear Hs2 hqq
                go_wp2_with fail
                refine ⟨⟨i+1,by omega,by go_num,by rw [Hs3.out];exact Hown.out.pr hb1,hb.trans hb1⟩,?_⟩
                simp [intOf];omega
        case neg =>
          have hie:i=n2:=by omega
          have hown:=Hown.out
          rw [hie,E2.out] at hown
          obtain ⟨xb,hxb⟩:∃ x,x=LB.map Int.ofNat:=⟨_,rfl⟩
          rw [← hxb] at hown
          obtain ⟨oh,ch,rfl,hib⟩:=hown.ints
          have Hxb:=Lib.hid hxb
          subst hie
          clear Hown hown hxb
          go_upto_region 22 with (go_at_call 9;(with_reducible refine Calls.mono (SZB.out _ (HW1.out.trans hb)) ?_);rintro e wB ⟨rfl,hbB⟩)
          have hWB:=HW1.out.trans (hb.trans hbB)
          have hwB:=HW.out.trans hWB
          have hia:=Flat.any (Flat.pr (hb.trans hbB) HIA.out)
          have hib:=Flat.any (Flat.pr hbB hib)
          clear hb hbB x0 x1 SZA SZB HIA
          obtain ⟨S9,hS9⟩:∃ S:Nat→Prop,S=fun j=>j < w.heap.size:=⟨_,rfl⟩
          have hkS:Kids S9 w ks oa cap:=HK.out.mono (fun j _ hj=>by rw [hS9];exact hj)
          have hjS:Kids S9 w js ob cbp:=HJ.out.mono (fun j _ hj=>by rw [hS9];exact hj)
          have hlAl:LA.length≤40:=by rw [HLA.out,Hn1.out];have:=goneL_le (P.map (·.1)) (Tr.node l ks).sz;have:=(fault_zero.1 Hfa.out).1;omega
          have hlBl:LB.length≤40:=by rw [HLB.out,Hn2.out];have:=goneL_le (P.map (·.2)) (Tr.node m js).sz;have:=(fault_zero.1 Hfb.out).1;omega
          obtain ⟨TA,hTA⟩:∃ T,T=prune (inL LA) (.node l ks):=⟨_,rfl⟩
          obtain ⟨TB,hTB⟩:∃ T,T=prune (inL LB) (.node m js):=⟨_,rfl⟩
          obtain ⟨DA,hDA⟩:∃ D,D=delL (.node l ks) [] LA:=⟨_,rfl⟩
          obtain ⟨DB,hDB⟩:∃ D,D=delL (.node m js) [] LB:=⟨_,rfl⟩
          obtain ⟨UA,hUA⟩:∃ D,D=undoL (.node l ks) LA:=⟨_,rfl⟩
          obtain ⟨UB,hUB⟩:∃ D,D=undoL (.node m js) LB:=⟨_,rfl⟩
          have LSA:Calls Tryd.prog 47 #[.agg #[.string l,.slice oa ks.length cap],.slice og xa.length cg] wB (RLessPost S9 wB (.node l ks) LA) :=
            rless_any S9 l ks oa cap LA xa Hxa.out og cg wB hl Hfa.out (hkS.pr hwB) hia (by rw [HLA.out];exact goneL_sorted _ _) (by rw [HLA.out,Hn1.out];exact goneL_root Hr1.out) (by omega) (HLt.out.pr hwB)
          have LSB:∀ u,Pr wB u→Calls Tryd.prog 47 #[.agg #[.string m,.slice ob js.length cbp],.slice oh xb.length ch] u (RLessPost S9 u (.node m js) LB):=fun u h =>
            rless_any S9 m js ob cbp LB xb Hxb.out oh ch u hm Hfb.out (hjS.pr (hwB.trans h)) (Flat.pr h hib) (by rw [HLB.out];exact goneL_sorted _ _) (by rw [HLB.out,Hn2.out];exact goneL_root Hr2.out) (by omega) (HLt.out.pr (hwB.trans h))
          unfold RLessPost at LSA LSB
          rw [← hTA,← hDA,← hUA] at LSA
          rw [← hTB,← hDB,← hUB] at LSB
          have HLS1:=Lib.hid LSA;have HLS2:=Lib.hid LSB;have HTA:=Lib.hid hTA;have HTB:=Lib.hid hTB;have HDA:=Lib.hid hDA;have HDB:=Lib.hid hDB;have HUA:=Lib.hid hUA;have HUB:=Lib.hid hUB;have HS9:=Lib.hid hS9;have HwB:=Lib.hid hwB
          have x0:=s0 _ hWB;have x1:=s1 _ hWB;have x2:=fun u (h:Pr wB u)=>s2 u (hWB.trans h);have x3:=fun u (h:Pr wB u)=>s3 u (hWB.trans h)
          clear LSA LSB hTA hTB hDA hDB hUA hUB hS9 hkS hjS hia hib s0 s1 s2 s3 hWB hwB HW1 HWW
          go_upto_region 23 with (go_at_call 47;(with_reducible refine Calls.mono HLS1.out ?_);rintro e w3 ⟨l2,ks2,o2,c2,o7,c7,o8,c8,hT2,hl2,rfl,hk2,hD2,hU2,hb3⟩)
          obtain ⟨V3,hV3⟩:∃ V3,V3=w3.alloc (.cells #[.string l2,.slice o2 ks2.length c2] 24):=⟨_,rfl⟩
          have hp3:Pr w3 V3:=by rw [hV3];exact Pr.alloc _ _
          have hX3:V3.heap[w3.heap.size]? = some (.cells #[.string l2,.slice o2 ks2.length c2] 24 (0,0)):=by rw [hV3];exact heap_alloc_new w3 _
          have hV3s:V3.heap.size=w3.heap.size+1:=by rw [hV3];simp
          rw [← hV3]
          have hB3:=hb3.trans hp3
          have y2:=x2 _ hB3;have y3:=x3 _ hB3
          have HT2:=Lib.hid hT2;have Hk2:=Lib.hid (hk2.pr hp3);have HD2:=Lib.hid (hD2.pr hp3);have HX3:=Lib.hid hX3;have HV3s:=Lib.hid hV3s;have HB3:=Lib.hid hB3;have LSB:=Lib.hid (HLS2.out _ hB3)
          have hdb:=(hD2.block)
          have Hdb:=Lib.hid hdb
          have hq3:=Below.size hb3
          clear hT2 hk2 hD2 hU2 hX3 hV3s hB3 hdb hV3 hp3 hb3 x0 x1 x2 x3 HLS1 HLS2
          go_upto_region 24 with (go_at_call 47;(with_reducible refine Calls.mono LSB.out ?_);rintro e w4 ⟨l4,ks4,o4,c4,o5,c5,o6,c6,hT4,hl4,rfl,hk4,hD4,hU4,hb4⟩)
          obtain ⟨V4,hV4⟩:∃ V4,V4=w4.alloc (.cells #[.string l4,.slice o4 ks4.length c4] 24):=⟨_,rfl⟩
          have hp4:Pr w4 V4:=by rw [hV4];exact Pr.alloc _ _
          have hY4:V4.heap[w4.heap.size]? = some (.cells #[.string l4,.slice o4 ks4.length c4] 24 (0,0)):=by rw [hV4];exact heap_alloc_new w4 _
          rw [← hV4]
          have h34:=hb4.trans hp4
          have hX4:=h34.blk HX3.out
          have X0:=stays (blk_cell (o:=0) hX4);have X1:=stays (blk_cell (o:=1) hX4);have Y0:=stays (blk_cell (o:=0) hY4);have Y1:=stays (blk_cell (o:=1) hY4)
          have fTA:fault TA=0:=by rw [HTA.out];exact prune_fault _ Hfa.out
          have fTB:fault TB=0:=by rw [HTB.out];exact prune_fault _ Hfb.out
          have hszT:TA.sz=TB.sz:=by rw [← bare_sz TA,← bare_sz TB,HTA.out,HTB.out,HLA.out,HLB.out,Hn1.out,Hn2.out];exact congrArg Tr.sz Hform.out
          obtain ⟨na,hna⟩:∃ na,na=nds TA:=⟨_,rfl⟩
          obtain ⟨nb,hnb⟩:∃ nb,nb=nds TB:=⟨_,rfl⟩
          have hla:na.length=TA.sz:=by rw [hna,nds_length]
          have hlb:nb.length=TA.sz:=by rw [hnb,nds_length,hszT]
          have hTAs:TA.sz≤40:=(fault_zero.1 fTA).1
          have hnlab:∀ i (h:i < nb.length),nb[i].lab.size≤maxLen:=fun i h=>by
            have h1:=labN_is fTB i (by rw [hnb,nds_length] at h;exact h)
            rw [← hnb,labN_get _ _ h,isLab_eq] at h1
            simp only [Bool.and_eq_true,decide_eq_true_eq] at h1
            unfold maxLen;omega
          have hA2:(Tr.node l2 ks2).sz=na.length:=by rw [hla,HT2.out]
          have hB2:(Tr.node l4 ks4).sz=nb.length:=by rw [hlb,hszT,hT4]
          have NA:Hid (∀ u,Pr V4 u→Calls Tryd.prog 48 #[.agg #[.string l2,.slice o2 ks2.length c2],.slice none 0 0] u fun e w'=>∃ g c,e=.returned (.slice (some ⟨g,0,none⟩) na.length c)∧Nds (From V4.heap.size) w' na (some ⟨g,0,none⟩) c∧Pr u w'):=Lib.hid fun u h=>by
            refine (nodesOf_nil l2 ks2 o2 c2 u (by rw [Tr.sz_node] at hA2;omega) (Hk2.out.any.pr (h34.trans h))).mono ?_
            rintro e w' ⟨g,c,rfl,h1,h2⟩
            obtain ⟨o,c',e1,h3⟩:=h1.nds
            simp only [Value.slice.injEq] at e1
            obtain ⟨rfl,_,rfl⟩:=e1
            rw [← HT2.out,← hna] at h3
            exact ⟨g,c,by rw [hA2],h3.mono (fun k (hk:u.heap.size≤k) _=>by have:=Below.size h;exact Nat.le_trans this hk),h2⟩
          have NB:Hid (∀ u,Pr V4 u→Calls Tryd.prog 48 #[.agg #[.string l4,.slice o4 ks4.length c4],.slice none 0 0] u fun e w'=>∃ g c,e=.returned (.slice (some ⟨g,0,none⟩) nb.length c)∧Nds (From V4.heap.size) w' nb (some ⟨g,0,none⟩) c∧Pr u w'):=Lib.hid fun u h=>by
            refine (nodesOf_nil l4 ks4 o4 c4 u (by rw [Tr.sz_node] at hB2;omega) (hk4.any.pr (hp4.trans h))).mono ?_
            rintro e w' ⟨g,c,rfl,h1,h2⟩
            obtain ⟨o,c',e1,h3⟩:=h1.nds
            simp only [Value.slice.injEq] at e1
            obtain ⟨rfl,_,rfl⟩:=e1
            rw [← hT4,← hnb] at h3
            exact ⟨g,c,by rw [hB2],h3.mono (fun k (hk:u.heap.size≤k) _=>by have:=Below.size h;exact Nat.le_trans this hk),h2⟩
          have HX4:=Lib.hid hX4;have H34:=Lib.hid h34;have Hnlab:=Lib.hid hnlab;have Hna:=Lib.hid hna;have Hnb:=Lib.hid hnb;have Hla:=Lib.hid hla;have Hlb:=Lib.hid hlb;have HU4:=Lib.hid (hU4.pr hp4)
          have hq4:=Below.size hb4;have hq5:=Below.size hp4;have hvs:=HV3s.out
          clear hV4 hY4 hX4 hnlab hna hnb hla hlb hk4 hD4 hU4 hA2 hB2 hT4 fTB hszT h34 hb4 y2 y3
          go_cut [21,22] from 94 to 97 (fun v21 v22 wx=>∃ g1 c1 g2 c2,v21=.slice (some ⟨g1,0,none⟩) na.length c1∧v22=.slice (some ⟨g2,0,none⟩) nb.length c2∧Nds (From V4.heap.size) wx na (some ⟨g1,0,none⟩) c1∧Nds (From V4.heap.size) wx nb (some ⟨g2,0,none⟩) c2∧Pr V4 wx)
          case first =>
            go_region_held3 (fun W'=>Pr V4 W')
              (first | with_reducible exact Pr.drew V4 | with_reducible exact hpa | with_reducible exact hpb)
              (first
                | (go_at_call 48;(with_reducible refine Calls.mono (NA.out _ (Pr.drew V4)) ?_);rintro e wa ⟨g1,d1,rfl,hn1,hba⟩;have hpa:=(Pr.drew V4).trans hba)
                | (go_at_call 48;(with_reducible refine Calls.mono (NB.out _ hpa) ?_);rintro e wb ⟨g2,d2,rfl,hn2,hbb⟩;have hpb:=hpa.trans hbb))
            all_goals
              go_wp2_with fail
              go_meet
              case rel=>exact ⟨g1,d1,g2,d2,rfl,rfl,hn1.pr hbb,hn2,hpb⟩
          case rest =>
            obtain ⟨g1,d1,g2,d2,rfl,rfl,hn1,hn2,hp5⟩:=hcut
            obtain ⟨V5,hV5⟩:∃ V,V=wc:=⟨_,rfl⟩
            subst hV5
            have hq6:=Below.size hp5
            obtain ⟨v0,hv0⟩:∃ v,v=Value.slice o7 DA.length c7:=⟨_,rfl⟩
            have hD5:OwnsDs wB.heap.size V5 v0 DA:=by rw [hv0];exact (HD2.out.pr H34.out).pr hp5
            have hub:∀ j,v0.ownBlock=some j→wB.heap.size≤j∧j < w3.heap.size:=by rw [hv0];exact Hdb.out
            have hX5:=hp5.blk HX4.out
            have hU5:Dees (fun k=>v0.ownBlock≠some k) V5 UB o6 c6:=(HU4.out.pr hp5).mono (fun k hk _ e=>by
              have h1:=hub k e
              rcases hk.1 with h | h
              · rw [HS9.out] at h;have h':k < w.heap.size:=h;have:=Below.size HwB.out;omega
              · omega)
            have hK5:Kids (fun k=>v0.ownBlock≠some k) V5 ks2 o2 c2:=((Hk2.out.pr H34.out).pr hp5).mono (fun k hk _=>by rw [hv0];exact hk.2)
            have PO:∀ i:Nat,i≤40→∀ wr u,Chg (fun k=>v0.ownBlock=some k) V5 wr→Pr wr u→Calls Tryd.prog 49 #[.agg #[.string l2,.slice o2 ks2.length c2],.int .i64 i] u (IntsPost u (pathT TA i)):=fun i hi wr u hc h=>by
              have:=pathOf_any l2 ks2 o2 c2 i u (by have:=HT2.out;rw [this,Tr.sz_node] at hTAs;omega) (by omega) ((hK5.carry (S':=Any) (fun k hk hl=>⟨hc.block k hl hk,trivial⟩)).pr h)
              rw [← HT2.out,pathTZ_nat] at this;exact this
            have Hub:=Lib.hid hub;have HX5:=Lib.hid hX5;have HU5:=Lib.hid hU5;have HPO:=Lib.hid PO;have Hv0:=Lib.hid hv0;have HN1:=Lib.hid hn1;have HN2:=Lib.hid hn2;have Hp5:=Lib.hid hp5;have HTAs:=Lib.hid hTAs
            have hwB5:Pr wB V5:=(HB3.out.trans H34.out).trans hp5
            have HwB5:=Lib.hid hwB5
            have hDA:DA.length≤40:=by rw [HDA.out,delL_length];exact hlAl
            have hnal:na.length≤40:=by rw [Hla.out];exact HTAs.out
            clear hub hX5 hU5 hK5 PO hn1 hn2 hp5 hTAs hwB5 X0 X1 Y0 Y1
            go_wp2_with fail
            go_loopw [15,23] (fun v15 v23 wr=>∃ i:Nat,i≤na.length∧v23=.int .i64 i∧OwnsDs wB.heap.size wr v15 (DA ++ namesL TA na nb (List.range' 0 i))∧Chg (fun k=>v0.ownBlock=some k) V5 wr∧(∀ k,v15.ownBlock=some k→v0.ownBlock=some k∨V5.heap.size≤k)) (fun _ v23 _=>na.length - (intOf v23).toNat)
            case atStart=>exact ⟨0,by omega,rfl,by rw [← hv0];simpa [namesL] using hD5,Chg.refl _ _,by rw [← hv0];exact fun k h=>.inl h⟩
            case round =>
              obtain ⟨i,hi,rfl,hown,hc,hat⟩:=hrel
              have Hown:=Lib.hid hown
              have hcs:=hc.size
              clear hown
              by_cases hlt:i < na.length
              case pos =>
                have hlt2:i < nb.length:=by have:=Hla.out;have:=Hlb.out;omega
                have hX:∀ k,V4.heap.size≤k→¬ v0.ownBlock=some k:=fun k hk e=>by have:=(Hub.out k e).2;omega
                obtain ⟨b1,p1,e1,k0,_,_⟩:=(HN1.out.carry (S':=Any) (fun k hk hl=>⟨hc.block k hl (hX k hk),trivial⟩)).get i hlt
                cases e1
                obtain ⟨b2,p2,e2,j0,_,_⟩:=(HN2.out.carry (S':=Any) (fun k hk hl=>⟨hc.block k hl (hX k hk),trivial⟩)).get i hlt2
                cases e2
                have hXr:=hc.blk HX5.out (fun e=>by have:=(Hub.out _ e).2;omega)
                have X0:=stays (blk_cell (o:=0) hXr);have X1:=stays (blk_cell (o:=1) hXr)
                have hst:=namesL_succ TA na nb i
                rw [labN_get _ _ hlt,labN_get _ _ hlt2] at hst
                have hdl:=namesL_le TA na nb i
                have hyl:=Hnlab.out i hlt2
                have PT:Hid (∀ u,Pr wr u→Calls Tryd.prog 49 #[.agg #[.string l2,.slice o2 ks2.length c2],.int .i64 i] u (IntsPost u (pathT TA i))):=Lib.hid fun u h=>HPO.out i (by omega) wr u hc h
                generalize na[i].lab=xl at *
                generalize nb[i].lab=yl at *
                obtain ⟨D,hD⟩:∃ D,D=DA ++ namesL TA na nb (List.range' 0 i):=⟨_,rfl⟩
                have hDl:D.length≤1000:=by rw [hD,List.length_append];omega
                have hst2:DA ++ namesL TA na nb (List.range' 0 (i+1))=D ++ (if xl=yl then [] else [⟨1,pathT TA i,0,0,yl⟩]):=by rw [hst,hD,List.append_assoc]
                rw [← hD] at Hown
                rw [Nat.zero_add] at k0 j0
                have C0:=stays k0;have D0:=stays j0
                have p0:=C0 _ (Pr.refl _);have q0:=D0 _ (Pr.refl _)
                have Hst:=Lib.hid hst2;have Hyl:=Lib.hid hyl
                have hub2:∀ j,u15.ownBlock=some j→wB.heap.size≤j∧j < wr.heap.size:=fun j hj=>Hown.out.block j hj
                have Hub2:=Lib.hid hub2;have Hc:=Lib.hid hc;have Hat:=Lib.hid hat
                have hk0:(0:Int)≤i:=by omega
                have hk1:(i:Int) < na.length:=by omega
                have hk2:(i:Int) < nb.length:=by omega
                clear hst hst2 hyl hub2 k0 j0 hD hXr hX hc hat hdl
                by_cases he:xl=yl
                case pos =>
                  have e1:(xl.toList==yl.toList)=true:=by rw [he];simp
                  have He:=Lib.hid he
                  clear he
                  go_wp2_with fail
                  go_quiet (fail)
                  go_wp2_with fail
                  refine ⟨⟨i+1,by omega,by go_num,by rw [Hst.out,if_pos He.out,List.append_nil];exact Hown.out.pr (Pr.drewN _ _),Hc.out.pr (Pr.drewN _ _),Hat.out⟩,?_⟩
                  simp [intOf];omega
                case neg =>
                  have e1:(xl.toList==yl.toList)=false:=by simpa using toList_ne he
                  have He:=Lib.hid he
                  clear he
                  go_wp2_with fail
                  go_quiet (fail)
                  go_upto_region 29 with fail
                  obtain ⟨wz,hwz⟩:∃ wz,wz=wr.drewN nq:=⟨_,rfl⟩
                  have hbz:Pr wr wz:=by rw [hwz];exact Pr.drewN _ _
                  have hsz:wz.heap.size=wr.heap.size:=by rw [hwz];rfl
                  have hoz:OwnsDs wB.heap.size wz u15 D:=by rw [hwz];exact Hown.out.pr (Pr.drewN _ _)
                  rw [← hwz]
                  have Hoz:=Lib.hid hoz;have Hsz:=Lib.hid hsz
                  have hn3:u15.ownBlock≠some w3.heap.size:=fun e=>by
                    rcases Hat.out _ e with h | h
                    · have:=(Hub.out _ h).2;omega
                    · omega
                  have hn2:u15.ownBlock≠some g2:=fun e=>by
                    obtain ⟨_,bb,oo,hh,_⟩:=HN2.out
                    obtain ⟨h5,h6⟩:=hh (fun e=>by rw [e] at hlt2;simp at hlt2)
                    cases h5
                    have h6':V4.heap.size≤g2:=h6
                    obtain ⟨b9,o9,e9,k9,_,_⟩:=HN2.out.get i hlt2
                    cases e9
                    have h7:=lt_of_cell k9
                    rcases Hat.out _ e with h | h
                    · have:=(Hub.out _ h).2;omega
                    · omega
                  have xx0:∀ W',Chg (fun k=>u15.ownBlock=some k) wr W'→W'.cell? ⟨w3.heap.size,0,none⟩=some (.string l2):=fun W' h=>h.cellV (X0 _ (Pr.refl _)) hn3
                  have xx1:∀ W',Chg (fun k=>u15.ownBlock=some k) wr W'→W'.cell? ⟨w3.heap.size,1,none⟩=some (.slice o2 ks2.length c2):=fun W' h=>h.cellV (X1 _ (Pr.refl _)) hn3
                  have dd0:=fun W' (h:Chg (fun k=>u15.ownBlock=some k) wr W')=>h.cellV q0 hn2
                  have hpl:=pathT_length TA i
                  have hpl2:(pathT TA i).length≤1000:=by have:=HTAs.out;omega
                  generalize pathT TA i=p at *
                  clear hwz hsz hoz p0 q0 Hown X0 X1 C0 D0 hpl
                  have HAP:Hid (∀ w8 bp bc o,Ints (From wz.drew.heap.size) w8 p bp bc→Ints (Apart wB.heap.size u15) (w8.alloc o) p bp bc):=Lib.hid fun w8 bp bc o h=>Flat.pr (Pr.alloc _ _) (Flat.mono (fun j (hj:wz.drew.heap.size≤j) _=>by
                    have h1:wz.drew.heap.size=wr.heap.size:=Hsz.out
                    exact ⟨by have:=Below.size HwB5.out;omega,fun e=>by have:=(Hub2.out j e).2;omega⟩) h)
                  have HOZ:Hid (∀ w8 o,Pr wz.drew w8→OwnsDs wB.heap.size (w8.alloc o) u15 D):=Lib.hid fun w8 o h=>((Hoz.out.pr (Pr.drew _)).pr h).pr (Pr.alloc _ _)
                  have HD9:Hid (D.length≤1000000000):=Lib.hid (by omega)
                  have HBS:Hid (∀ w8 o,Pr wr w8→wB.heap.size≤(w8.alloc o).heap.size):=Lib.hid fun w8 o h=>by have h1:=Below.size (h.alloc' o);have h2:=Below.size HwB5.out;omega
                  have HP4:Hid (∀ w8 w9 o,Pr wr w8→(w8.alloc o).grownBy w9 u15.ownBlock→Chg (fun k=>u15.ownBlock=some k) wr w9):=Lib.hid fun w8 w9 o h hg=>((h.alloc' o).chg _).trans (chg_grown hg) (fun _ h=>.inl h)
                  have HG4:Hid (∀ w8 o (g:Nat),Pr wr w8→(u15.ownBlock=some g∨g=(w8.alloc o).heap.size)→v0.ownBlock=some g∨V5.heap.size≤g):=Lib.hid fun w8 o g h hd=>by
                    rcases hd with h1 | h1
                    · exact Hat.out g h1
                    · have:=Below.size (h.alloc' o);right;omega
                  go_region_held3 (fun W'=>Chg (fun k=>u15.ownBlock=some k) wr W')
                    (first | with_reducible exact (hbz.drew').chg _ | with_reducible exact hp.chg _ | with_reducible exact (hp.alloc' _).chg _ | with_reducible exact hp4)
                    (first
                      | (go_at_call 49;(with_reducible refine Calls.mono (PT.out _ hbz.drew') ?_);rintro e w8 ⟨v3,rfl,ho3,hb3⟩;obtain ⟨bp,bc,rfl,hi3⟩:=ho3.ints;have hp:=hbz.drew'.trans hb3)
                      | ((refine step_deed rfl _ _ rfl wB.heap.size u15 D rfl (HOZ.out _ _ hb3) w8.heap.size rfl ⟨1,p,0,0,yl⟩ bp bc (heap_alloc_new w8 _) (HAP.out _ _ _ _ hi3) Hyl.out HD9.out (HBS.out _ _ hp) ?_);intro g4 c4 w9 ho4 hg4 hd4;have hp4:Chg (fun k=>u15.ownBlock=some k) wr w9:=HP4.out _ _ _ hp hg4;have hat4:=HG4.out _ _ g4 hp hd4))
                  go_wp2_with fail
                  refine ⟨⟨i+1,by omega,by go_num,by rw [Hst.out,if_neg He.out];exact ho4,Hc.out.trans hp4 (fun k hk=>Hat.out k hk),fun k hk=>by cases hk;exact hat4⟩,?_⟩
                  simp [intOf];omega
              case neg =>
                have hie:i=na.length:=by omega
                subst hie
                obtain ⟨D,hD⟩:∃ D,D=DA ++ namesL TA na nb (List.range' 0 na.length):=⟨_,rfl⟩
                have hdl:=namesL_le TA na nb na.length
                have hDl:D.length≤1000:=by rw [hD,List.length_append];omega
                rw [← hD] at Hown
                have hall:diffP (.node l ks) (.node m js) P=D ++ UB:=by
                  rw [hD,List.append_assoc,HDA.out,HUB.out,Hla.out,Hna.out,Hnb.out,HTA.out,HTB.out,HLA.out,HLB.out,Hn1.out,Hn2.out];rfl
                have Hall:=Lib.hid hall
                have hUl:UB.length≤1000:=by rw [HUB.out];have:=undoL_le (.node m js) LB;omega
                have hux:∀ j,v0.ownBlock≠some j→j < V5.heap.size→u15.ownBlock≠some j:=fun j hj hl e=>by
                  rcases hat j e with h | h
                  · exact hj h
                  · omega
                have hUr:Dees (fun k=>u15.ownBlock≠some k) wr UB o6 c6:=HU5.out.carry (fun k hk hl=>⟨hc.block k hl hk,hux k hk hl⟩)
                have hox:OwnsDX (fun k=>u15.ownBlock≠some k) wr wB.heap.size wr u15 D:=by
                  obtain ⟨xs,h1,h2⟩:=Hown.out
                  exact ⟨xs,h1,h2.carry (fun k hk _=>⟨rfl,hk.2⟩)⟩
                have hpw:Pr w wr:=((((HwB.out.trans HwB5.out).chg (fun k=>v0.ownBlock=some k)).trans hc (fun _ h=>.inl h))).to_pr (fun k hk=>by have:=(Hub.out k hk).1;have:=Below.size HwB.out;omega)
                have hub2:∀ j,u15.ownBlock=some j→wB.heap.size≤j∧j < wr.heap.size:=fun j hj=>Hown.out.block j hj
                have HUr:=Lib.hid hUr;have Hox:=Lib.hid hox;have Hpw:=Lib.hid hpw;have Hub2:=Lib.hid hub2
                have hlen9:D.length+UB.length≤1000000000:=by omega
                have hbs9:wB.heap.size≤wr.heap.size:=by have:=Below.size HwB5.out;omega
                have hlab9:nb.length=na.length:=by rw [Hla.out,Hlb.out]
                clear hUr hox hpw hub2 hD hall hc hat hux Hown
                go_wp2_with (at_builtin;go_must (refine app_deeds rfl _ _ rfl (fun k=>u15.ownBlock≠some k) wr wB.heap.size u15 D rfl Hox.out UB o6 c6 rfl HUr.out (Pr.refl _) hlen9 hbs9 ?_);intro v7 w7 ho7 hg7 hd7)
                go_ret
                have ho8:OwnsDX Any w7 wB.heap.size w7 v7 (D ++ UB):=by
                  obtain ⟨xs,h1,h2⟩:=ho7
                  exact ⟨xs,h1,h2.carry (fun k hk hl=>⟨hg7.block k hl (fun e=>hk e.symm),trivial⟩)⟩
                obtain ⟨o9,c9,e9,hd9⟩:=ho8.dees (Pr.refl _)
                subst e9
                rw [Hall.out]
                refine ⟨o9,c9,rfl,hd9.any,Below.grown Hpw.out hg7 (by have:=Below.size HwB.out;omega) (fun k hk=>by have:=(Hub2.out k hk).1;have:=Below.size HwB.out;omega)⟩
end Go.Proofs.YtdbnfhpgmcjngacDoor
