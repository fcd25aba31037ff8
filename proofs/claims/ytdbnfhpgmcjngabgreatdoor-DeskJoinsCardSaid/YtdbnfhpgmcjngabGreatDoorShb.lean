/- Numbers and texts: contracts of the library's functions in our words. -/
import Derived.Test.YtdbnfhpgmcjngabGreatDoorBsh
import Derived.Test.YtdbnfhpgmcjngabGreatDoorPp
import Derived.Test.YtdbnfhpgmcjngabGreatDoorMem
import Derived.Lib.SmallJoins
import Derived.Lib.AppendIntMem
namespace Go.Proofs.YtdbnfhpgmcjngabGreatDoor
open Go Go.RowKit
def Lv (w : World) : Prop := Lib.TabIs Tryz.prog w "internal/strconv.uint64pow10" .u64 Lib.pow10Tab ∧ (∃ tp p, w.var? Tryz.prog "strconv.ErrSyntax" = some #[.iface tp p]) ∧ (∃ tp p, w.var? Tryz.prog "strconv.ErrRange" = some #[.iface tp p]) ∧
  ∃ m:Int,w.cell? ⟨0,0,none⟩=some (.int .i64 m)
theorem named_tab : Tryz.prog.globalNamed "internal/strconv.uint64pow10" = some 5 := by kernel_rfl
theorem named_syntax : Tryz.prog.globalNamed "strconv.ErrSyntax" = some 1 := by kernel_rfl
theorem named_range : Tryz.prog.globalNamed "strconv.ErrRange" = some 2 := by kernel_rfl
theorem Lv.pr {w w':World} (h:Lv w) (hp:Pr w w'):Lv w':=by
  obtain ⟨h1,⟨t2,p2,h2⟩,⟨t3,p3,h3⟩,m,h4⟩:=h
  exact ⟨Go.Joins.tab_stays named_tab h1 hp (Nat.le_refl _),⟨t2,p2,Go.Joins.var_stays named_syntax h2 hp (Nat.le_refl _)⟩,⟨t3,p3,Go.Joins.var_stays named_range h3 hp (Nat.le_refl _)⟩,m,hp.cell h4⟩
theorem itoa_any (n:Int) (h0:-9223372036854775808≤n) (h1:n≤9223372036854775807) (w:World) (h:Lv w) :
    Calls Tryz.prog 52 #[.int .i64 n] w fun e w'=>e=.returned (.string ⟨⟨Lib.itoa n⟩⟩)∧Pr w w':=by
  refine Calls.mono (Any.strconv_Itoa laysM171 n h0 h1 w h.1) ?_
  rintro e w' ⟨rfl,k,os,rfl⟩
  exact ⟨rfl,Lib.below_grow _ w (Nat.le_refl _) k os⟩
theorem bytes_pr (w:World) (e:TypeId) (t:ByteArray):Pr w (Lib.bytesWorld w e t):=Lib.bytesWorld_below w e t
theorem atoi_ok (s:ByteArray) (hs:s.size≤9223372036854775806) (v:Int) (h:Lib.atoiAll s.data.toList=.ok v) (w:World) :
    Calls Tryz.prog 28 #[.string s] w fun e w'=>e=.returned (.tuple #[.int .i64 v,.nilIface])∧Pr w w':=by
  refine Calls.mono (Any.strconv_Atoi_ok laysC172 s hs v h w) ?_
  rintro e w' ⟨rfl,rfl | ⟨t,rfl⟩⟩
  · exact ⟨rfl,Pr.refl _⟩
  · exact ⟨rfl,bytes_pr _ _ _⟩
def NoNum (w:World) (e:Ending) (w':World):Prop:=(∃ (v:Int) (T:TypeId) (p:Value),e=.returned (.tuple #[.int .i64 v,.iface T p]))∧Pr w w'
theorem atoi_no (s:ByteArray) (hs:s.size≤281474976710656) (h:∀ v,Lib.atoiAll s.data.toList≠.ok v) (w:World) (hw:Lv w) :
    Calls Tryz.prog 28 #[.string s] w (NoNum w):=by
  obtain ⟨_,⟨t2,p2,h2⟩,⟨t3,p3,h3⟩,_⟩:=hw
  rcases ha:Lib.atoiAll s.data.toList with v | _ | _
  · exact absurd ha (h v)
  · refine Calls.mono (Any.strconv_Atoi_syntax_var laysC172 s hs ha t2 p2 w h2) ?_
    rintro e w' ⟨N,rfl,_,_,hb⟩
    exact ⟨⟨_,_,_,rfl⟩,hb⟩
  · refine Calls.mono (Any.strconv_Atoi_range_var laysC172 s hs ha t3 p3 w h3) ?_
    rintro e w' ⟨N,rfl,_,_,hb⟩
    exact ⟨⟨_,_,_,rfl⟩,hb⟩
abbrev strs (xs:List (List UInt8)):List Value:=xs.map fun x=>.string ⟨⟨x⟩⟩
abbrev Strs (S:Nat→Prop) (w:World) (xs:List (List UInt8)) (oa:Option Addr) (cap:Nat):Prop:=Flat S w (strs xs) oa cap
theorem Strs.get {S:Nat→Prop} {w:World} {xs:List (List UInt8)} {oa cap} (h:Strs S w xs oa cap) (i:Nat) (hi:i < xs.length):∃ b o,oa=some ⟨b,o,none⟩∧w.cell? ⟨b,o+i,none⟩=some (.string ⟨⟨xs[i]⟩⟩):=by
  obtain ⟨b,o,h1,h2⟩:=Flat.get h i (by simpa using hi)
  exact ⟨b,o,h1,by simpa using h2⟩
theorem split_cut (c:UInt8):∀ l:List UInt8,Lib.splitK [c] 0 (l.count c) l=cutC c l
  | []=>rfl
  | b :: l=>by
    have ih:=split_cut c l
    by_cases h:b=c
    · subst h
      have hix:Lib.index (b :: l) [b]=0:=by rw [Lib.index];simp [List.isPrefixOf]
      rw [List.count_cons_self,cutC_same,Lib.splitK,hix]
      simp [ih]
    · have hp:([c]:List UInt8).isPrefixOf (b :: l)=false:=by simp [List.isPrefixOf,Ne.symm h]
      have hix:Lib.index (b :: l) [c]=if Lib.index l [c]==-1 then -1 else Lib.index l [c]+1:=by rw [Lib.index,hp];simp
      rw [List.count_cons_of_ne h,cutC_other _ h]
      cases hk:l.count c with
      | zero =>
        rw [hk] at ih
        rw [← ih];rfl
      | succ k =>
        rw [hk] at ih
        by_cases hm:Lib.index l [c]=-1
        · rw [← ih,Lib.splitK,Lib.splitK,hix]
          simp [hm]
        · have hge:=Lib.index_ge l [c]
          obtain ⟨i,hi⟩:∃ i:Nat,Lib.index l [c]=i:=⟨(Lib.index l [c]).toNat,by omega⟩
          have h1:((i:Int)==-1)=false:=by simp
          have h2:((i:Int)+1==-1)=false:=by simp;omega
          rw [← ih,Lib.splitK,Lib.splitK,hix,hi]
          simp only [h1,h2,Bool.false_eq_true,if_false,List.headD_cons,List.tail_cons]
          rw [show ((i:Int)+1).toNat=i+1 by omega,show ((i:Int)).toNat=i by omega]
          simp
theorem info_string:(Tryz.prog.info? 9).map (fun i=>(i.zero,i.size,i.bytes))=some (some (.string ByteArray.empty),1,16):=by kernel_rfl
def SplitPost (c:UInt8) (s:ByteArray) (w:World) (e:Ending) (w':World):Prop :=
  ∃ g,e=.returned (.slice (some ⟨g,0,none⟩) (cutC c s.data.toList).length (cutC c s.data.toList).length)∧Strs (From w.heap.size) w' (cutC c s.data.toList) (some ⟨g,0,none⟩) (cutC c s.data.toList).length∧Pr w w'
theorem split_any (s:ByteArray) (c:UInt8) (hs:s.size < 4294967281) (w:World) (hw:Lv w) :
    Calls Tryz.prog 19 #[.string s,.string ⟨#[c]⟩] w (SplitPost c s w):=by
  obtain ⟨_,_,_,m,hm⟩:=hw
  refine Calls.mono (Any.strings_Split lays146 info_string s ⟨#[c]⟩ m w hs hm (Nat.le_refl 1)) ?_
  rintro e w' ⟨rfl,rfl⟩
  have h1:(Lib.splitB ⟨#[c]⟩ 0 (Lib.countB s ⟨#[c]⟩) s).map (·.data.toList)=cutC c s.data.toList:=by
    rw [Lib.splitB_data]
    have:Lib.countB s ⟨#[c]⟩=s.data.toList.count c:=by
      unfold Lib.countB;exact Lib.count_one c _
    rw [this];exact split_cut c _
  have h2:(Lib.splitB ⟨#[c]⟩ 0 (Lib.countB s ⟨#[c]⟩) s).map Value.string=strs (cutC c s.data.toList):=by
    rw [← h1];simp [strs,Function.comp_def]
  have h3:Lib.countB s ⟨#[c]⟩+1=(cutC c s.data.toList).length:=by
    rw [cut_length];congr 1;unfold Lib.countB;exact Lib.count_one c _
  have hlen:(cutC c s.data.toList).length≤maxLen:=by
    rw [cut_length];have:=List.count_le_length (a:=c) (l:=s.data.toList)
    have:s.data.toList.length=s.size:=rfl
    unfold maxLen;omega
  rw [h3,h2]
  refine ⟨w.heap.size,rfl,⟨⟨by simp,hlen⟩,w.heap.size,0,fun _=>⟨rfl,Nat.le_refl _⟩,fun i hi=>?_⟩,Pr.alloc _ _⟩
  simp [go_sem] at hi ⊢
end Go.Proofs.YtdbnfhpgmcjngabGreatDoor
