/- Plain: what a desk tells, line by line. No program here. -/
import Derived.Test.YtdbnfhpgmcjngabGreatDoorBm
import Derived.Test.YtdbnfhpgmcjngabGreatDoorPp
import Derived.Test.YtdbnfhpgmcjngabGreatDoorBpl
import Derived.Test.YtdbnfhpgmcjngabGreatDoorBzt
import Derived.Test.YtdbnfhpgmcjngabGreatDoorBsh
import Derived.Test.YtdbnfhpgmcjngabGreatDoorShb
import Derived.Test.YtdbnfhpgmcjngabGreatDoorBmt
import Derived.Test.YtdbnfhpgmcjngabGreatDoorBdw
import Derived.Shelf.SlicesE.DeleteFunc
import Derived.Lib.IndexBytes
import Derived.Test.YtdbnfhpgmcjngabGreatDoorBpa
import Derived.Lib.AtoiAllCases
import Derived.Deep.DeepCutAuto
import Derived.Test.YtdbnfhpgmcjngabGreatDoorBwi
import Derived.Test.YtdbnfhpgmcjngabGreatDoorBzv
import Derived.Test.YtdbnfhpgmcjngabGreatDoorBta
import Derived.Test.YtdbnfhpgmcjngabGreatDoorBgl
import Derived.Test.YtdbnfhpgmcjngabGreatDoorBmm
import Derived.Test.YtdbnfhpgmcjngabGreatDoorBpk
import Derived.Test.YtdbnfhpgmcjngabGreatDoorByf
import Derived.Test.YtdbnfhpgmcjngabGreatDoorBdf
import Derived.Test.YtdbnfhpgmcjngabGreatDoorBpe
namespace Go.Proofs.YtdbnfhpgmcjngabGreatDoor
def sayP (ws:List (List UInt8)):List UInt8:=joinC 32 ws ++ [10]
def wNo:List UInt8:=[110,111]
def wTree:List UInt8:=[116,114,101,101]
def wDo:List UInt8:=[100,111]
def wKept:List UInt8:=[107,101,112,116]
def wEnd:List UInt8:=[101,110,100]
def wCost:List UInt8:=[99,111,115,116]
def wSince:List UInt8:=[115,105,110,99,101]
def wClash:List UInt8:=[99,108,97,115,104]
def wMany:List UInt8:=[109,97,110,121]
def wWhat:List UInt8:=[119,104,97,116]
def wShow:List UInt8:=[115,104,111,119]
def wDiff:List UInt8:=[100,105,102,102]
def wStep:List UInt8:=[115,116,101,112]
def wBlame:List UInt8:=[98,108,97,109,101]
def wMerge:List UInt8:=[109,101,114,103,101]
def codeP (c:Int):List UInt8:=if c=0 then [] else sayP [wNo,Lib.itoa c]
abbrev Told:=List Tr × List UInt8
def keepP (ts:List Tr) (t:Tr):Told:=(if addC ts t=0 then ts ++ [t] else ts,if addC ts t=0 then sayP [wKept,Lib.itoa (ts.length:Int)] else codeP (addC ts t:Nat))
def addP (ts:List Tr) (s:List UInt8):Told:=if (parseP s).2.1≠0 then (ts,sayP [wNo,Lib.itoa (parseP s).2.1,Lib.itoa (parseP s).2.2]) else keepP ts (parseP s).1
def showP (ts:List Tr) (n:Int):List UInt8:=if hasT ts n=true then sayP [wTree,textT (getT ts n)] else codeP 7
def deedsP (l:List Dee):List UInt8:=(printP l).1 ++ sayP [wEnd]
def diffDP (ts:List Tr) (m n:Int):List UInt8:=if (hasT ts m && hasT ts n)=true then sayP [wCost,Lib.itoa (costT (getT ts m) (getT ts n):Nat)] ++ deedsP (diffP (getT ts m) (getT ts n) (bestT (getT ts m) (getT ts n))) else codeP 7
def stepDP (ts:List Tr) (n:Int):List UInt8:=if hasS ts n=true then deedsP (stepD ts n) else codeP 7
def numsP:List Int→List UInt8 | []=>[] | x :: xs=>32 :: (Lib.itoa x ++ numsP xs)
def blameDP (ts:List Tr) (n:Int):List UInt8:=if blameC ts n=0 then sayP [wSince ++ numsP (blameP ts n)] else codeP (blameC ts n)
def mergeDP (ts:List Tr) (o x y:Int):Told:=if ((bmergeP ts o x y).2.2:Int)=12 then (ts,sayP [wClash,pathTx (bmergeP ts o x y).2.1]) else if (bmergeP ts o x y).2.2≠0 then (ts,codeP ((bmergeP ts o x y).2.2:Nat)) else keepP ts (bmergeP ts o x y).1
def doP (ts:List Tr) (n:Int) (line:List UInt8):Told:=if (deedIn line).2≠0 then (ts,codeP ((deedIn line).2:Nat)) else if (bwithP ts n (deedIn line).1).2≠0 then (ts,codeP ((bwithP ts n (deedIn line).1).2:Nat)) else keepP ts (bwithP ts n (deedIn line).1).1
def manyP (ts:List Tr):List UInt8:=sayP [wMany,Lib.itoa (ts.length:Int),Lib.itoa (cntD ts:Nat)]
def numP (s:List UInt8):Option Int:=match Lib.atoiAll s with | .ok n=>if Lib.itoa n=s then some n else none | _=>none
def numbersP:List (List UInt8)→Option (List Int)
  | []=>some []
  | s :: l=>match numP s with | none=>none | some n=>match numbersP l with | none=>none | some ns=>some (n :: ns)
def askP (ts:List Tr) (word:List UInt8) (ns:List Int):Option Told :=
  match ns with
  | []=>if word=wMany then some (ts,manyP ts) else none
  | [a]=>if word=wShow then some (ts,showP ts a) else if word=wStep then some (ts,stepDP ts a) else if word=wBlame then some (ts,blameDP ts a) else none
  | [a,b]=>if word=wDiff then some (ts,diffDP ts a b) else none
  | [a,b,c]=>if word=wMerge then some (mergeDP ts a b c) else none
  | _=>none
def headW (s:List UInt8):List UInt8:=(cutC 32 s).headD []
def restW (s:List UInt8):List UInt8:=joinC 32 (cutC 32 s).tail
def hasW (s:List UInt8):Bool:=decide (32∈s)
def wordsW (s:List UInt8):List (List UInt8):=(cutC 32 s).filter fun w=>w≠[]
def askLine (ts:List Tr) (s:List UInt8):Told :=
  match wordsW s with
  | []=>(ts,[])
  | w :: l=>match numbersP l with
    | none=>(ts,sayP [wWhat])
    | some ns=>match askP ts w ns with | some r=>r | none=>(ts,sayP [wWhat])
def lineD (ts:List Tr) (s:List UInt8):Told :=
  if headW s=wTree then addP ts (restW s)
  else if headW s=wDo∧hasW (restW s)=true then
    match numP (headW (restW s)) with
    | some n=>doP ts n (restW (restW s))
    | none=>askLine ts s
  else askLine ts s
def linesD:List Tr→List (List UInt8)→Told
  | ts,[]=>(ts,[])
  | ts,s :: l=>((linesD (lineD ts s).1 l).1,(lineD ts s).2 ++ (linesD (lineD ts s).1 l).2)
theorem linesD_append:∀ (l m:List (List UInt8)) (ts:List Tr),linesD ts (l ++ m)=((linesD (linesD ts l).1 m).1,(linesD ts l).2 ++ (linesD (linesD ts l).1 m).2)
  | [],m,ts=>by simp [linesD]
  | s :: l,m,ts=>by rw [List.cons_append,linesD,linesD,linesD_append l m];simp
theorem linesD_snoc (l:List (List UInt8)) (s:List UInt8) (ts:List Tr):linesD ts (l ++ [s])=((lineD (linesD ts l).1 s).1,(linesD ts l).2 ++ (lineD (linesD ts l).1 s).2):=by
  rw [linesD_append];simp [linesD]
end Go.Proofs.YtdbnfhpgmcjngabGreatDoor
/- Walks: the library's functions that a desk calls, in our words: texts joined, cut, looked through; words left out. -/
namespace Go.Proofs.YtdbnfhpgmcjngabGreatDoor
open Go Go.RowKit Go.Shelf Go.Sort
theorem builderX156:Builder.Extra Tryz.prog lays156_ren:={
  sizeBuilder:=by kernel_rfl
  liesBuilder:=by kernel_rfl
  t5:=Tryz.underlying5
  a5:=Tryz.isAgg5
  z5:=Tryz.sizeOf5
  v5:=Tryz.zeroValue5
  infoByte:=by kernel_rfl
  cellsByte:=by kernel_rfl
  sizeByte:=by kernel_rfl
  neB5:=by decide }
theorem join_is:∀ xs:List (List UInt8),Lib.join xs [32]=joinC 32 xs
  | []=>rfl
  | [x]=>Lib.join_one x [32]
  | x :: y :: r=>by
    have h:=join_is (y :: r)
    rw [Lib.join_cons] at h ⊢
    rw [joinC,← h]
    simp [Lib.joinTail]
theorem bytes_list (xs:List (List UInt8)):(xs.map fun x=>(⟨⟨x⟩⟩:ByteArray)).map (·.data.toList)=xs:=by
  rw [List.map_map]
  have:((fun b:ByteArray=>b.data.toList) ∘ fun x:List UInt8=>(⟨⟨x⟩⟩:ByteArray))=id:=by funext x;rfl
  rw [this,List.map_id]
theorem join_any (xs:List (List UInt8)) (bk o c:Nat) (w:World) (hs:Strs Any w xs (some ⟨bk,o,none⟩) c) (hbk:bk < w.heap.size) (hlen:(joinC 32 xs).length≤1000000000) :
    Calls Tryz.prog 42 #[.slice (some ⟨bk,o,none⟩) xs.length c,.string ⟨#[32]⟩] w fun e w'=>e=.returned (.string ⟨⟨joinC 32 xs⟩⟩)∧Pr w w':=by
  have hb:=hs.1.1
  have hm:=hs.1.2
  rw [List.length_map] at hb
  have hc:∀ (j:Nat) x,(xs.map fun x=>(⟨⟨x⟩⟩:ByteArray))[j]? = some x→w.cell? ⟨bk,o+j,none⟩=some (.string x):=fun j x hx=>by
    rw [List.getElem?_map] at hx
    cases hy:xs[j]? with
    | none=>rw [hy] at hx;cases hx
    | some y =>
      rw [hy] at hx
      simp only [Option.map_some,Option.some.injEq] at hx
      obtain ⟨hj,rfl⟩:=List.getElem?_eq_some_iff.1 hy
      obtain ⟨b,o',e,h1⟩:=hs.get j hj
      cases e
      rw [← hx];exact h1
  have hj:Lib.join ((xs.map fun x=>(⟨⟨x⟩⟩:ByteArray)).map (·.data.toList)) (⟨#[32]⟩:ByteArray).data.toList=joinC 32 xs:=by rw [bytes_list];exact join_is xs
  have hsm:xs.length≤140737488355328∨¬ xs.length≤140737488355328:=Classical.em _
  have hxl:xs.length≤140737488355328:=by
    have:=hs.2
    cases xs with
    | nil=>simp
    | cons x r =>
      have h1:r.length≤(joinC 32 (x :: r)).length:=by
        clear hc hj hs hb hsm hlen this
        induction r generalizing x with
        | nil=>simp
        | cons y r ih=>have:=ih y;simp only [joinC,List.length_append,List.length_cons] at *;omega
      simp;omega
  have K:=Any.strings_Join lays156 builderX156 bk o c (xs.map fun x=>(⟨⟨x⟩⟩:ByteArray)) ⟨#[32]⟩ w hc hbk (by rw [List.length_map];exact hxl) (by rw [List.length_map];exact hb) (by rw [hj];omega)
  rw [List.length_map,hj] at K
  refine Calls.mono K ?_
  rintro e w' ⟨rfl,hp⟩
  exact ⟨rfl,hp⟩
theorem index_pre (c:UInt8):∀ (x r:List UInt8),c ∉ x→Lib.index (x ++ c :: r) [c]=x.length
  | [],r,_=>by rw [List.nil_append,Lib.index];simp [List.isPrefixOf]
  | b :: x,r,h=>by
    have hb:b≠c:=fun e=>h (by simp [e])
    have hp:([c]:List UInt8).isPrefixOf (b :: (x ++ c :: r))=false:=by simp [List.isPrefixOf,Ne.symm hb]
    rw [List.cons_append,Lib.index,hp,index_pre c x r (fun hm=>h (by simp [hm]))]
    have h1:(((x.length:Nat):Int)==-1)=false:=by rw [beq_eq_false_iff_ne];omega
    rw [h1];simp
theorem index_not (c:UInt8):∀ (s:List UInt8),c ∉ s→Lib.index s [c]=-1
  | [],_=>rfl
  | b :: s,h=>by
    have hb:b≠c:=fun e=>h (by simp [e])
    have hp:([c]:List UInt8).isPrefixOf (b :: s)=false:=by simp [List.isPrefixOf,Ne.symm hb]
    rw [Lib.index,hp,index_not c s (fun hm=>h (by simp [hm]))];rfl
theorem split_mem (c:UInt8):∀ {s:List UInt8},c∈s→∃ x r,s=x ++ c :: r∧c ∉ x
  | b :: s,h=>by
    by_cases hb:b=c
    · exact ⟨[],s,by rw [hb];rfl,by simp⟩
    · obtain ⟨x,r,h1,h2⟩:=split_mem c (s:=s) (by rcases List.mem_cons.1 h with e | e;exact absurd e.symm hb;exact e)
      exact ⟨b :: x,r,by rw [h1];rfl,by simp only [List.mem_cons,not_or];exact ⟨fun e=>hb e.symm,h2⟩⟩
theorem cut_is (s:List UInt8):Lib.cut s [32]=(headW s,restW s,hasW s):=by
  unfold Lib.cut headW restW hasW
  by_cases h:(32:UInt8)∈s
  · obtain ⟨x,r,rfl,hx⟩:=split_mem 32 h
    rw [index_pre 32 x r hx,cutC_part x r hx,if_pos (by omega),decide_eq_true h]
    simp only [List.headD_cons,List.tail_cons,Int.toNat_natCast,List.length_singleton]
    rw [join_cut]
    simp
  · rw [index_not 32 s h,cutC_whole s h,if_neg (by omega),decide_eq_false h]
    simp [joinC]
theorem cut_any (s:ByteArray) (w:World) (hs:s.size < 4294967281) (hw:Lv w) :
    Calls Tryz.prog 14 #[.string s,.string ⟨#[32]⟩] w fun e w'=>e=.returned (.tuple #[.string ⟨⟨headW s.data.toList⟩⟩,.string ⟨⟨restW s.data.toList⟩⟩,.bool (hasW s.data.toList)])∧Pr w w':=by
  obtain ⟨_,_,_,m,hm⟩:=hw
  have K:=Any.strings_Cut lays145 s ⟨#[32]⟩ m w hs hm
  rw [show (⟨#[32]⟩:ByteArray).data.toList=[32] from rfl,cut_is] at K
  refine Calls.mono K ?_
  rintro e w' ⟨rfl,n,rfl⟩
  exact ⟨rfl,Pr.drewN w n⟩
theorem newline_any (s:ByteArray) (w:World) (hs:s.size < 4294967281) (hw:Lv w) :
    Calls Tryz.prog 9 #[.string s,.string ⟨#[10]⟩] w fun e w'=>e=.returned (.bool (decide ((10:UInt8)∈s.data.toList)))∧Pr w w':=by
  obtain ⟨_,_,_,m,hm⟩:=hw
  have K:=Any.strings_Contains lays144 s ⟨#[10]⟩ m w hs hm
  have h1:Lib.contains s.data.toList (⟨#[10]⟩:ByteArray).data.toList=decide ((10:UInt8)∈s.data.toList):=by
    show decide (0≤Lib.index s.data.toList [10])=_
    by_cases h:(10:UInt8)∈s.data.toList
    · obtain ⟨x,r,h1,hx⟩:=split_mem 10 h
      rw [decide_eq_true h,h1,index_pre 10 x r hx,decide_eq_true (by omega)]
    · rw [decide_eq_false h,index_not 10 _ h,decide_eq_false (by omega)]
  rw [h1] at K
  refine Calls.mono K ?_
  rintro e w' ⟨rfl,rfl⟩
  exact ⟨rfl,Pr.refl _⟩
theorem splitRow_any (s:ByteArray) (c:UInt8) (hs:s.size < 4294967281) (w:World) (hw:Lv w) :
    Calls Tryz.prog 19 #[.string s,.string ⟨#[c]⟩] w fun e w'=>e=.returned (.slice (some ⟨w.heap.size,0,none⟩) (cutC c s.data.toList).length (cutC c s.data.toList).length)∧w'=w.alloc (.cells (strs (cutC c s.data.toList)).toArray 9):=by
  obtain ⟨_,_,_,m,hm⟩:=hw
  refine Calls.mono (Any.strings_Split lays146 info_string s ⟨#[c]⟩ m w hs hm (Nat.le_refl 1)) ?_
  rintro e w' ⟨rfl,rfl⟩
  have h1:(Lib.splitB ⟨#[c]⟩ 0 (Lib.countB s ⟨#[c]⟩) s).map (·.data.toList)=cutC c s.data.toList:=by
    rw [Lib.splitB_data]
    have:Lib.countB s ⟨#[c]⟩=s.data.toList.count c:=by
      unfold Lib.countB;exact Lib.count_one c _
    rw [this];exact split_cut c _
  have h2:(Lib.splitB ⟨#[c]⟩ 0 (Lib.countB s ⟨#[c]⟩) s).map Value.string=strs (cutC c s.data.toList):=by
    rw [← h1];simp [strs,Function.comp_def]
  have h3:Lib.countB s ⟨#[c]⟩+1=(cutC c s.data.toList).length:=by
    rw [cut_length];congr 1;unfold Lib.countB;exact Lib.count_one c _
  rw [h3,h2]
  exact ⟨rfl,rfl⟩
def encS (x:List UInt8):Value:=.string ⟨⟨x⟩⟩
theorem encS_one:OneCell encS:=fun _=>rfl
theorem empty_any (x:List UInt8) (w:World):Calls Tryz.prog 20 #[.string ⟨⟨x⟩⟩] w fun e w'=>e=.returned (.bool (decide (x=[])))∧∃ q,w'=w.drewN q:=by
  cases x with
  | nil =>
    go_enter Tryz.func20,Tryz.ntmps20
    go_wp2
    go_ret
    exact ⟨by simp,0,rfl⟩
  | cons b x =>
    obtain ⟨s,hs⟩:∃ s:ByteArray,s=⟨⟨b :: x⟩⟩:=⟨_,rfl⟩
    have hne:s≠⟨#[]⟩:=fun e=>by rw [hs] at e;have:=congrArg (fun z:ByteArray=>z.data.toList) e;simp at this
    obtain ⟨h1,h2,h3⟩:=str_ne hne
    rw [← hs,decide_eq_false (by simp:¬ b :: x=[])]
    clear hs
    go_enter Tryz.func20,Tryz.ntmps20
    go_wp2
    go_ret
    exact ⟨rfl,0,rfl⟩
def lays10_ren:Go.Shelf.Ren:=⟨fun | 10=>18 | 6=>32 | n=>n,fun | 0=>0 | 3=>3 | 4=>4 | 22=>22 | 23=>9 | 25=>59 | n=>n,fun | n=>n⟩
theorem lays10:SlLaysH.n10 Tryz.prog lays10_ren:={
  mixed:=by kernel_rfl
  f6:=⟨Tryz.f32.name,by kernel_rfl,Tryz.func32.trans (congrArg some (by kernel_rfl))⟩
  f10:=⟨Tryz.f18.name,by kernel_rfl,Tryz.func18.trans (congrArg some (by kernel_rfl))⟩
  t0:=Tryz.underlying0
  a0:=Tryz.isAgg0
  z0:=Tryz.sizeOf0
  v0:=Tryz.zeroValue0
  t3:=Tryz.underlying3
  a3:=Tryz.isAgg3
  z3:=Tryz.sizeOf3
  v3:=Tryz.zeroValue3
  t4:=Tryz.underlying4
  a4:=Tryz.isAgg4
  z4:=Tryz.sizeOf4
  v4:=Tryz.zeroValue4
  t22:=Tryz.underlying22
  a22:=Tryz.isAgg22
  z22:=Tryz.sizeOf22
  v22:=Tryz.zeroValue22
  a23:=Tryz.isAgg9
  z23:=Tryz.sizeOf9
  t25:=Tryz.underlying59
  a25:=Tryz.isAgg59
  z25:=Tryz.sizeOf59
  v25:=Tryz.zeroValue59 }
theorem fields_any (xs:List (List UInt8)) (hl:xs.length≤1000000) (w:World) :
    Calls Tryz.prog 18 #[.slice (some ⟨w.heap.size,0,none⟩) xs.length xs.length,.func (.func 20) #[] #[]] (w.alloc (.cells (strs xs).toArray 9)) fun e w' =>
      e=.returned (.slice (some ⟨w.heap.size,0,none⟩) (xs.filter fun x=>x≠[]).length xs.length)∧Strs (From w.heap.size) w' (xs.filter fun x=>x≠[]) (some ⟨w.heap.size,0,none⟩) xs.length∧Pr w w':=by
  obtain ⟨W,hW⟩:∃ W,W=w.alloc (.cells (strs xs).toArray 9):=⟨_,rfl⟩
  have hwW:Pr w W:=by rw [hW];exact Pr.alloc _ _
  have hblk:W.heap[w.heap.size]? = some (.cells (strs xs).toArray 9 (0,0)):=by rw [hW];exact heap_alloc_new w _
  rw [← hW]
  have eg:∀ args w,(callFunc 20 args).run Tryz.prog w=.ok (.enter 20 args) w:=fun _ _=>by kernel_rfl
  have hH:Holds encS W w.heap.size 0 xs.toArray:=fun j hj=>by
    have hj':j < xs.length:=by simpa using hj
    refine ⟨?_,blk_frozen hblk⟩
    rw [blk_cell hblk]
    simp [hj',encS]
  have K:=AnyE.slices_DeleteFunc lays10 encS encS_one (fun x=>decide (x=[])) 20 #[] eg [] (fun w=>Tryz.zeroValue9 w) w.heap.size 0 xs.length xs.toArray W
    (fun W' x _=>empty_any x W') (fun n os dk x _=>empty_any x _) hH (by simp;omega) (by simp)
  have hf:(xs.toArray.toList.filter fun x=>!decide (x=[]))=xs.filter fun x=>x≠[]:=by
    refine List.filter_congr fun x _=>?_
    simp
  rw [hf] at K
  simp only [List.size_toArray] at K
  refine Calls.mono K ?_
  rintro e w' ⟨rfl,q,rfl⟩
  obtain ⟨ys,hys⟩:∃ ys,ys=xs.filter fun x=>x≠[]:=⟨_,rfl⟩
  have hyl:ys.length≤xs.length:=by rw [hys];exact List.length_filter_le _ _
  rw [← hys]
  obtain ⟨d,hd⟩:∃ d,d=(ys ++ List.replicate (xs.length - ys.length) []).toArray:=⟨_,rfl⟩
  have hds:d.size=xs.length:=by rw [hd];simp;omega
  rw [← hd]
  have hH2:Holds encS (putRow encS (Sort.ahead W q) w.heap.size 0 d) w.heap.size 0 d:=holds_putRow _ _ _ _ xs.toArray d (fun j hj=>hH j hj) (by rw [hds];simp)
  have hsz:(putRow encS (Sort.ahead W q) w.heap.size 0 d).heap.size=W.heap.size:=by
    show (Array.modify W.heap w.heap.size _).size=_
    rw [Array.size_modify]
  refine ⟨rfl,⟨⟨by simp;omega,by unfold maxLen;omega⟩,w.heap.size,0,fun _=>⟨rfl,Nat.le_refl _⟩,fun i hi=>?_⟩,?_⟩
  · have hi':i < ys.length:=by simpa using hi
    have h1:=(hH2 i (by omega)).1
    rw [h1]
    have h2:d[i]! = ys[i]:=by
      rw [getElem!_pos d i (by omega)]
      simp only [hd,List.getElem_toArray]
      rw [List.getElem_append_left hi']
    rw [h2]
    simp [encS]
  · refine ⟨hwW.os,hwW.tape,hwW.output,by rw [hsz];exact hwW.size,fun k hk=>?_⟩
    show (Array.modify W.heap w.heap.size _)[k]? = _
    rw [Array.getElem?_modify,if_neg (by omega)]
    exact hwW.block k hk
end Go.Proofs.YtdbnfhpgmcjngabGreatDoor
/- Walks: a desk's numbers. -/
namespace Go.Proofs.YtdbnfhpgmcjngabGreatDoor
open Go Go.RowKit
theorem dnum_any (n:Int) (h0:-9223372036854775808≤n) (h1:n≤9223372036854775807) (w:World) (hw:Lv w) :
    Calls Tryz.prog 26 #[.int .i64 n] w fun e w'=>e=.returned (.string ⟨⟨Lib.itoa n⟩⟩)∧Pr w w':=by
  have I:=Lib.hid (itoa_any n h0 h1 w hw)
  obtain ⟨b,hb⟩:∃ b:ByteArray,b=⟨⟨Lib.itoa n⟩⟩:=⟨_,rfl⟩
  rw [← hb] at I ⊢
  clear hb hw
  go_enter Tryz.func26,Tryz.ntmps26
  go_wp2_with (go_at_call 52;(with_reducible refine Calls.mono I.out ?_);rintro e w1 ⟨rfl,hp⟩)
  go_ret
  exact ⟨rfl,hp⟩
def NumsPost (r:Option (List Int)) (w:World) (e:Ending) (w':World):Prop:=∃ oa cap,e=.returned (.tuple #[.slice oa (r.getD []).length cap,.bool r.isSome])∧Ints (From w.heap.size) w' (r.getD []) oa cap∧Pr w w'
def withN (q:List Int):Option (List Int)→Option (List Int) | none=>none | some r=>some (q ++ r)
theorem numbersP_cons (s:List UInt8) (l:List (List UInt8)):numbersP (s :: l)=match numP s with | none=>none | some n=>withN [n] (numbersP l):=by
  rw [numbersP]
  cases numP s with
  | none=>rfl
  | some n=>simp only [];cases numbersP l <;> rfl
theorem withN_app (q p:List Int) (r:Option (List Int)):withN q (withN p r)=withN (q ++ p) r:=by cases r <;> simp [withN]
set_option maxRecDepth 100000 in
set_option maxHeartbeats 6400000 in
theorem numbers_any (xs:List (List UInt8)) (oa cap) (w:World) (hs:Strs Any w xs oa cap) (hsz:∀ x∈xs,x.length≤1000000) (hxl:xs.length≤1000000) (hw:Lv w) :
    Calls Tryz.prog 16 #[.slice oa xs.length cap] w (NumsPost (numbersP xs) w):=by
  have hlen:xs.length≤9223372036854775807:=by have h1:=hs.1.1;have h2:=hs.1.2;rw [List.length_map] at h1;unfold maxLen at h2;omega
  have HS:=Lib.hid hs;have HW:=Lib.hid hw
  clear hs hw
  go_enter Tryz.func16,Tryz.ntmps16
  go_wp2_with fail
  go_loopw [4,11] (fun v4 v11 wr=>∃ (i:Nat) (ns:List Int),i≤xs.length∧ns.length=i∧v11=.int .i64 i∧OwnsIs w.heap.size wr v4 ns∧numbersP xs=withN ns (numbersP (xs.drop i))∧Pr w wr) (fun _ v11 _=>xs.length - (intOf v11).toNat)
  case atStart=>exact ⟨0,[],by omega,rfl,rfl,OwnsIs.nil _ _,by rw [List.drop_zero];cases numbersP xs <;> simp [withN],Pr.refl _⟩
  case round =>
    obtain ⟨i,ns,hi,hnl,rfl,hown,hrec,hb⟩:=hrel
    have Hown:=Lib.hid hown;have Hb:=Lib.hid hb
    by_cases hlt:i < xs.length
    case neg =>
      have hie:i=xs.length:=by omega
      have hz:numbersP xs=some ns:=by rw [hrec,hie,List.drop_length,numbersP];simp [withN]
      obtain ⟨o,c,rfl,hi2⟩:=Hown.out.ints
      have Hz:=Lib.hid hz;have Hi2:=Lib.hid hi2;have Hnl:=Lib.hid hnl
      clear hz hrec hown hb hi2 hnl Hown
      go_wp2_with fail
      go_ret2
      rw [Hz.out]
      exact ⟨o,c,rfl,Hi2.out,Hb.out⟩
    case pos =>
      obtain ⟨bk,o,e1,c0⟩:=Strs.get (S:=Any) (w:=wr) (Flat.pr hb HS.out) i hlt
      subst e1
      have hsl:=hsz xs[i] (List.getElem_mem hlt)
      have hd:numbersP (xs.drop i)=match numP xs[i] with | none=>none | some n=>withN [n] (numbersP (xs.drop (i+1))):=by
        rw [List.drop_eq_getElem_cons hlt,numbersP_cons]
      rw [hd] at hrec
      obtain ⟨s,hs⟩:∃ s:ByteArray,s=⟨⟨xs[i]⟩⟩:=⟨_,rfl⟩
      have hsd:s.data.toList=xs[i]:=by rw [hs]
      have hss:s.size≤1000000:=by rw [← sizeL,hsd];exact hsl
      rw [← hs] at c0
      rw [← hsd] at hrec
      clear hd hs hsd hsl
      have hwr:=HW.out.pr hb
      have HW2:=Lib.hid hwr
      have hno:numP s.data.toList=none→numbersP xs=none:=fun e=>by rw [hrec,e];rfl
      have Hno:=Lib.hid hno
      rcases ha:Lib.atoiAll s.data.toList with v | _ | _
      · have hbd:=Lib.atoiAll_bounds ha
        have A:=Lib.hid (atoi_ok s (by omega) v ha wr)
        have I:=Lib.hid fun W' (h:Pr wr W')=>dnum_any v hbd.1 hbd.2 W' (hwr.pr h)
        obtain ⟨nb,hnb⟩:∃ b:ByteArray,b=⟨⟨Lib.itoa v⟩⟩:=⟨_,rfl⟩
        rw [← hnb] at I
        by_cases hi3:Lib.itoa v=s.data.toList
        · have he:nb=s:=by rw [hnb,hi3]
          have hb1:(nb.toList==s.toList)=true:=by rw [he];simp
          have hnp:numP s.data.toList=some v:=by unfold numP;rw [ha];simp only [];rw [if_pos hi3]
          rw [hnp] at hrec
          simp only [withN_app] at hrec
          have Hrec:=Lib.hid hrec
          have hns:ns.length≤1000000000:=by omega
          have Hnl:=Lib.hid hnl
          clear hrec hno hnp he ha hown hb hnb hi3 hnl hwr
          go_upto_region 8 with (first
            | (go_at_call 28;(with_reducible refine Calls.mono A.out ?_);rintro e w5 ⟨rfl,hp5⟩)
            | (go_at_call 26;(with_reducible refine Calls.mono (I.out _ hp5) ?_);rintro e w6 ⟨rfl,hp6⟩))
          have hp:=Hb.out.trans (hp5.trans hp6)
          have hq6:=Below.size hp
          go_wp2_with (at_builtin;go_must (refine app_int rfl _ _ rfl w.heap.size _ _ rfl (((Hown.out.pr hp5).pr hp6).pr (Pr.alloc _ _)) w6.heap.size rfl _ (heap_alloc_new w6 _) hns (by simp;omega) ?_);intro g4 c4 w7 ho4 hg4 hd4)
          refine ⟨⟨i+1,ns ++ [v],by omega,by rw [List.length_append,Hnl.out];rfl,by go_num,ho4,Hrec.out,Below.grown (hp.alloc' _) hg4 (by simp;omega) (fun k hk=>(Hown.out.block k hk).1)⟩,?_⟩
          simp [intOf];omega
        · have hb1:(nb.toList==s.toList)=false:=by rw [ByteArray.toList_eq,ByteArray.toList_eq,hnb];simpa using hi3
          have hz:=hno (by unfold numP;rw [ha];simp only [];rw [if_neg hi3])
          have Hz:=Lib.hid hz
          clear hrec hno hz ha hown hb hnb hi3 hnl hwr
          go_wp2_with (first
            | (go_at_call 28;(with_reducible refine Calls.mono A.out ?_);rintro e w5 ⟨rfl,hp5⟩)
            | (go_at_call 26;(with_reducible refine Calls.mono (I.out _ hp5) ?_);rintro e w6 ⟨rfl,hp6⟩))
          go_ret2
          rw [Hz.out]
          exact ⟨none,0,rfl,Flat.nil _ _ _ _ (Nat.zero_le _),Hb.out.trans (hp5.trans hp6)⟩
      all_goals
        have A:=Lib.hid (atoi_no s (by omega) (fun v=>by rw [ha];simp) wr hwr)
        have hz:=hno (by unfold numP;rw [ha])
        have Hz:=Lib.hid hz
        clear hrec hno hz ha hown hb hnl hwr
        go_wp2_with (go_at_call 28;(with_reducible refine Calls.mono A.out ?_);rintro e w5 ⟨⟨v5,T5,p5,rfl⟩,hp5⟩)
        go_ret2
        rw [Hz.out]
        exact ⟨none,0,rfl,Flat.nil _ _ _ _ (Nat.zero_le _),Hb.out.trans hp5⟩
end Go.Proofs.YtdbnfhpgmcjngabGreatDoor
/- Walks: a desk in memory; what it says. -/
namespace Go.Proofs.YtdbnfhpgmcjngabGreatDoor
open Go Go.RowKit
theorem desk_has (v:Value):HasB 40 #[v]:=⟨by kernel_rfl,by decide⟩
structure DeskOk (X:Nat→Prop) (base:Nat) (w:World) (M B:Nat) (vb vr:Value) (l:List UInt8) (ts:List Tr):Prop where
  hdr:∃ p,(p=.pointer none∨p=.pointer (some ⟨M,0,none⟩))∧w.heap[M]? = some (.cells (#[p,vr] ++ #[.pointer (some ⟨B,0,none⟩)]) 40 (0,0))
  row:w.ownsRow base 5 1 vr l.length (Lib.byteCells l)
  ne:vr.ownBlock≠some M
  book:BookOk (fun k=>(k=M∨vr.ownBlock=some k)∨X k) w B vb ts
  le:base≤M
  out:¬ X M∧∀ k,vr.ownBlock=some k→¬ X k
  lt:∀ k,X k→k < w.heap.size
  le2:base≤B
  lv:∃ w0,Lv w0∧w0.heap.size≤base∧Pr w0 w
  nil:l=[]→vr=.slice none 0 0
section
variable {X:Nat→Prop} {base:Nat} {w w':World} {M B:Nat} {vb vr:Value} {l:List UInt8} {ts:List Tr}
theorem DeskOk.lo (h:DeskOk X base w M B vb vr l ts):base≤w.heap.size:=by
  obtain ⟨p,_,h2⟩:=h.hdr
  have:=blk_lt h2
  have:=h.le;omega
theorem DeskOk.pr (h:DeskOk X base w M B vb vr l ts) (hp:Pr w w'):DeskOk X base w' M B vb vr l ts:=by
  obtain ⟨p,h1,h2⟩:=h.hdr
  exact ⟨⟨p,h1,hp.blk h2⟩,ownsRow_kept h.row (fun k hk=>Below.block hp k (h.row.lt k hk).2),h.ne,h.book.pr hp,h.le,h.out,fun k hk=>Nat.lt_of_lt_of_le (h.lt k hk) (Below.size hp),h.le2,h.lv.imp fun _ h=>⟨h.1,h.2.1,h.2.2.trans hp⟩,h.nil⟩
theorem DeskOk.tab (h:DeskOk X base w M B vb vr l ts):Lv w:=by
  obtain ⟨w0,h1,_,h3⟩:=h.lv
  exact h1.pr h3
theorem DeskOk.bcell (h:DeskOk X base w M B vb vr l ts):w.cell? ⟨M,2,none⟩=some (.pointer (some ⟨B,0,none⟩)):=by
  obtain ⟨p,_,h2⟩:=h.hdr
  rw [blk_cell h2];rfl
abbrev DX (M B:Nat) (vb vr:Value):Nat→Prop:=fun k=>(k=M∨vr.ownBlock=some k)∨(k=B∨vb.ownBlock=some k)
def DeskPost (X:Nat→Prop) (base:Nat) (w:World) (M B:Nat) (vb vr:Value) (l:List UInt8) (ts:List Tr) (w':World):Prop :=
  ∃ vb' vr',DeskOk X base w' M B vb' vr' l ts∧Chg (DX M B vb vr) w w'∧(∀ k,vr'.ownBlock=some k→vr.ownBlock=some k∨w.heap.size≤k)∧(∀ k,vb'.ownBlock=some k→vb.ownBlock=some k∨w.heap.size≤k)
theorem DeskPost.refl (h:DeskOk X base w M B vb vr l ts):DeskPost X base w M B vb vr l ts w:=⟨vb,vr,h,Chg.refl _ _,fun _ h=>.inl h,fun _ h=>.inl h⟩
theorem DeskPost.pre {w0:World} (hp:Pr w0 w) (h:DeskPost X base w M B vb vr l ts w'):DeskPost X base w0 M B vb vr l ts w':=by
  obtain ⟨vb',vr',h1,h2,h3,h4⟩:=h
  have hs:=Below.size hp
  exact ⟨vb',vr',h1,(hp.chg _).trans h2 (fun _ h=>.inl h),fun k hk=>(h3 k hk).imp id (fun h=>by omega),fun k hk=>(h4 k hk).imp id (fun h=>by omega)⟩
theorem DeskPost.bcell (h:DeskPost X base w M B vb vr l ts w'):w'.cell? ⟨M,2,none⟩=some (.pointer (some ⟨B,0,none⟩)):=by
  obtain ⟨_,_,h1,_⟩:=h
  exact h1.bcell
theorem DeskPost.cells {u:World} (h:DeskOk X base w M B vb vr l ts) (_:Pr w u) {l':List UInt8} {ts':List Tr} (hd:DeskPost X base u M B vb vr l' ts' w') {b o:Nat} {v:Value} (hb:w.heap.size≤b) (hc:u.cell? ⟨b,o,none⟩=some v):w'.cell? ⟨b,o,none⟩=some v:=by
  obtain ⟨_,_,_,h2,_⟩:=hd
  obtain ⟨p,_,hM⟩:=h.hdr
  have hM:=blk_lt hM
  have hB:=h.book.lt
  have hX:¬ DX M B vb vr b:=by
    rintro ((e | e) | (e | e))
    · omega
    · have:=(h.row.lt b e).2;omega
    · omega
    · have:=(hB.2 b e).2;omega
  rw [World.cell?_of_block (h2.block b (lt_of_cell hc) hX)];exact hc
theorem DeskPost.blks {u:World} (h:DeskOk X base w M B vb vr l ts) (_:Pr w u) {l':List UInt8} {ts':List Tr} (hd:DeskPost X base u M B vb vr l' ts' w') {b:Nat} (hb:w.heap.size≤b) (hc:b < u.heap.size):w'.heap[b]? = u.heap[b]? := by
  obtain ⟨_,_,_,h2,_⟩:=hd
  obtain ⟨p,_,hM⟩:=h.hdr
  have hM:=blk_lt hM
  have hB:=h.book.lt
  have hX:¬ DX M B vb vr b:=by
    rintro ((e | e) | (e | e))
    · omega
    · have:=(h.row.lt b e).2;omega
    · omega
    · have:=(hB.2 b e).2;omega
  exact h2.block b hc hX
theorem DeskPost.suf {w2:World} (h:DeskPost X base w M B vb vr l ts w') (hp:Pr w' w2):DeskPost X base w M B vb vr l ts w2:=by
  obtain ⟨vb',vr',h1,h2,h3,h4⟩:=h
  exact ⟨vb',vr',h1.pr hp,h2.pr hp,h3,h4⟩
theorem DeskOk.tabs (h:DeskOk X base w M B vb vr l ts) (hc:Chg (DX M B vb vr) w w'):∃ w0,Lv w0∧w0.heap.size≤base∧Pr w0 w':=by
  obtain ⟨w0,h1,h2,h3⟩:=h.lv
  refine ⟨w0,h1,h2,hc.over h3 fun k hk=>?_⟩
  have:=h.le;have:=h.le2
  rcases hk with (e | e) | (e | e)
  · omega
  · have:=(h.row.lt k e).1;omega
  · omega
  · have:=(h.book.lt.2 k e).1;omega
theorem DeskPost.bind1 {w1:World} {vb1 vr1:Value} {l2:List UInt8} {ts2:List Tr} (h2:Chg (DX M B vb vr) w w1) (h3:∀ k,vr1.ownBlock=some k→vr.ownBlock=some k∨w.heap.size≤k) (h4:∀ k,vb1.ownBlock=some k→vb.ownBlock=some k∨w.heap.size≤k) (hn:DeskPost X base w1 M B vb1 vr1 l2 ts2 w'):DeskPost X base w M B vb vr l2 ts2 w':=by
  obtain ⟨vb2,vr2,g1,g2,g3,g4⟩:=hn
  have hs:=h2.size
  refine ⟨vb2,vr2,g1,h2.trans g2 (fun k hk=>?_),fun k hk=>?_,fun k hk=>?_⟩
  · rcases hk with (h | h) | (h | h)
    · exact .inl (.inl (.inl h))
    · rcases h3 k h with h | h
      · exact .inl (.inl (.inr h))
      · exact .inr h
    · exact .inl (.inr (.inl h))
    · rcases h4 k h with h | h
      · exact .inl (.inr (.inr h))
      · exact .inr h
  · rcases g3 k hk with h | h
    · exact h3 k h
    · exact .inr (by omega)
  · rcases g4 k hk with h | h
    · exact h4 k h
    · exact .inr (by omega)
theorem DeskPost.call {w1 u:World} {l2:List UInt8} {ts2:List Tr} {F:FuncId} {args:Array Value} {R:Ending→Prop} (h:DeskPost X base w M B vb vr l ts w1) (hn:∀ vb' vr',DeskOk X base w1 M B vb' vr' l ts→Calls Tryz.prog F args u fun e w2=>R e∧DeskPost X base w1 M B vb' vr' l2 ts2 w2):Calls Tryz.prog F args u fun e w2=>R e∧DeskPost X base w M B vb vr l2 ts2 w2:=by
  obtain ⟨vb1,vr1,g1,g2,g3,g4⟩:=h
  refine (hn vb1 vr1 g1).mono ?_
  rintro e w2 ⟨hr,k⟩
  exact ⟨hr,.bind1 g2 g3 g4 k⟩
theorem DeskPost.bind {w1:World} {l2:List UInt8} {ts2:List Tr} (h:DeskPost X base w M B vb vr l ts w1) (hn:∀ vb' vr',DeskOk X base w1 M B vb' vr' l ts→DeskPost X base w1 M B vb' vr' l2 ts2 w'):DeskPost X base w M B vb vr l2 ts2 w':=by
  obtain ⟨vb1,vr1,h1,h2,h3,h4⟩:=h
  exact .bind1 h2 h3 h4 (hn vb1 vr1 h1)
theorem DeskOk.added {vb':Value} {ts':List Tr} (h:DeskOk X base w M B vb vr l ts) (hb:BookOk (fun k=>(k=M∨vr.ownBlock=some k)∨X k) w' B vb' ts') (hc:Chg (fun k=>k=B∨vb.ownBlock=some k) w w') (hd:∀ k,vb'.ownBlock=some k→vb.ownBlock=some k∨w.heap.size≤k):DeskPost X base w M B vb vr l ts' w':=by
  obtain ⟨p,h1,h2⟩:=h.hdr
  have hC:Chg (DX M B vb vr) w w':=⟨hc.os,hc.tape,hc.output,hc.size,fun k hk hn=>hc.block k hk (fun e=>hn (.inr e))⟩
  have hkeep:∀ k,k < w.heap.size→(k=M∨vr.ownBlock=some k)→w'.heap[k]? = w.heap[k]? := fun k hk hx=>hc.block k hk (by rintro (e | e);exact h.book.out.1 (.inl (e ▸ hx));exact h.book.out.2 k e (.inl hx))
  refine ⟨vb',vr,⟨⟨p,h1,by rw [hkeep M (blk_lt h2) (.inl rfl)];exact h2⟩,ownsRow_kept h.row (fun k hk=>hkeep k (h.row.lt k hk).2 (.inr hk)),h.ne,hb,h.le,h.out,fun k hk=>Nat.lt_of_lt_of_le (h.lt k hk) hc.size,h.le2,h.tabs hC,h.nil⟩,hC,fun _ h=>.inl h,hd⟩
end
section
variable {ops:Array Oper} {o:Oper} {a:Act} {w:World} {rest:List Oper} {Q:Exit→Act→World→Prop}
theorem wp_append_str (hgd:o.guard=none) (sl x:Operand) (ho:o.op=.call { callee:=.builtin .append,args:=#[sl,x],argTypes:=#[36,9] })
    (base:Nat) (v:Value) (n:Nat) (xs:List Value) (hs:a.eval sl=v) (hown:w.ownsRow base 5 1 v n xs) (s:ByteArray) (hx:a.eval x=.string s) (h63:n+s.size≤100000000000) (hbase:base≤w.heap.size)
    (h:∀ v' w',w'.ownsRow base 5 1 v' (n+s.size) (xs ++ Lib.strCells s)→w.grownBy w' v.ownBlock→(∀ k,v'.ownBlock=some k→v.ownBlock=some k∨k=w.heap.size)→(v=.slice none 0 0→s.size=0→v'=.slice none 0 0)→wpList Tryz.prog ops Q rest (a.put o.dst v') w'):wpList Tryz.prog ops Q (o :: rest) a w:=by
  obtain ⟨i,hi,hz0,hz1,hz2⟩:=info_parts bi_byte
  refine wpList_plain hgd fun K hK=>?_
  obtain ⟨v',w',hr,h2,h3,h4⟩:=Lib.run_append_own_string (P:=Tryz.prog) w base 36 9 o.type 5 i bu_bytes bu_stringT hi hz0 hz1 hz2 v n xs hown s (by unfold maxLen;omega) (by omega) hbase
  have hnil:v=.slice none 0 0→s.size=0→v'=.slice none 0 0:=fun e hm=>by
    rcases hown.2 with ⟨_,hn⟩ | ⟨g,cap,cur,hv,_⟩
    · exact h4.2 ⟨e,hm⟩
    · rw [e] at hv;cases hv
  have hat:∀ k,v'.ownBlock=some k→v.ownBlock=some k∨k=w.heap.size:=by
    rcases hown.2 with ⟨rfl,hn⟩ | ⟨g,cap,cur,rfl,hbg,hg,hnc,hcm,hcs,_⟩
    · by_cases hm:s.size=0
      · rw [h4.2 ⟨rfl,hm⟩];intro k hk;cases hk
      · have hr2:=run_append_nil_string (P:=Tryz.prog) w 36 9 o.type 5 i (.int .u8 0) bu_bytes bu_stringT hi hz0 s (by omega) (by omega) (by rw [hz2];omega)
        rw [hr2] at hr
        cases hr
        intro k hk;cases hk;exact .inr rfl
    · by_cases hroom:n+s.size≤cap
      · have hr2:=Lib.run_append_room_string (P:=Tryz.prog) w 36 9 o.type 5 i bu_bytes bu_stringT hi hz1 g n cap cur hg s hroom (by omega)
        rw [hr2] at hr
        cases hr
        intro k hk;exact .inl hk
      · have hr2:=Lib.run_append_grow_string (P:=Tryz.prog) w 36 9 o.type 5 i (.int .u8 0) bu_bytes bu_stringT hi hz0 ⟨g,0,none⟩ n cap xs (by have:=hown.1;rw [hz1];simpa using this) (World.ownsRow.cells hown (g:=g) rfl) s (by omega) (by omega) (by rw [hz2];exact growslice_fits (by omega) (by omega))
        rw [hr2] at hr
        cases hr
        intro k hk;cases hk;exact .inr rfl
  unfold Oper.wp execOp
  simp only [ho,resolve,invoke,builtin,Sem.run_bind,Sem.run_pure,Result.andThen_ok,List.map_toArray,List.map_cons,List.map_nil,hs,hx,hr]
  exact hK _ _ (h v' w' h2 h3 hat hnil)
end
set_option maxRecDepth 100000 in
set_option maxHeartbeats 2000000 in
theorem bstring_row (T:TypeId) (rest:Array Value) (hT:HasB T rest) (B M:Nat) (w:World) (p v:Value) (l:List UInt8) (s:ByteArray) (hpp:p=.pointer none∨p=.pointer (some ⟨M,0,none⟩)) (hb:w.heap[M]? = some (.cells (#[p,v] ++ rest) T (0,0)))
    (ho:w.ownsRow B 5 1 v l.length (Lib.byteCells l)) (hn:v.ownBlock≠some M) (hlen:l.length+s.size≤100000000000) (hBw:B≤w.heap.size) :
    Calls Tryz.prog 41 #[.pointer (some ⟨M,0,none⟩),.string s] w fun e w'=>e=.returned (.tuple #[.int .i64 s.size,.nilIface]) ∧
      ∃ v',w'.heap[M]? = some (.cells (#[.pointer (some ⟨M,0,none⟩),v'] ++ rest) T (0,0))∧w'.ownsRow B 5 1 v' (l ++ s.data.toList).length (Lib.byteCells (l ++ s.data.toList))∧v'.ownBlock≠some M∧(∀ k,v'.ownBlock=some k→v.ownBlock=some k∨w.heap.size≤k)∧Chg (fun k=>k=M∨v.ownBlock=some k) w w'∧(v=.slice none 0 0→s.size=0→v'=.slice none 0 0):=by
  have CC:Hid (Calls Tryz.prog 72 #[.pointer (some ⟨M,0,none⟩)] w fun e w'=>e=.returned (.tuple #[])∧w'.heap[M]? = some (.cells (#[.pointer (some ⟨M,0,none⟩),v] ++ rest) T (0,0))∧Chg (fun k=>k=M) w w'):=Lib.hid (by
    rcases hpp with rfl | rfl
    · refine (bcopy_fresh T rest hT M w v hb).mono ?_
      rintro e w' ⟨rfl,rfl⟩
      exact ⟨rfl,bset0 hb _,Chg.setCell (Chg.refl (fun k=>k=M) w) _ _ (.inl rfl)⟩
    · refine (bcopy_used T rest M w v hb).mono ?_
      rintro e w' ⟨rfl,rfl⟩
      exact ⟨rfl,hb,Chg.refl _ _⟩)
  clear hpp hb
  go_enter Tryz.func41,Tryz.ntmps41
  go_wp2_with (go_at_call 72;(with_reducible refine Calls.mono CC.out ?_))
  rintro e w1 ⟨rfl,hb,hc1⟩
  have ho1:w1.ownsRow B 5 1 v l.length (Lib.byteCells l):=ownsRow_kept ho (fun k hk=>hc1.block k (ho.lt k hk).2 (fun e=>hn (e ▸ hk)))
  have c1:w1.cell? ⟨M,1,none⟩=some v:=bcell1 hb
  have hs1:=hc1.size
  go_wp2_with (at_builtin;refine wp_append_str rfl _ _ rfl B _ _ _ rfl ho1 s rfl hlen ?c5 ?_)
  case c5=>omega
  intro v' w2 ho2 hg2 hd2 hnl
  have Hnl:=Lib.hid hnl
  clear hnl
  have hb2:w2.heap[M]? = some (.cells (#[.pointer (some ⟨M,0,none⟩),v] ++ rest) T (0,0)):=grown_blk hg2 hb hn
  have d1:w2.cell? ⟨M,1,none⟩=some v:=bcell1 hb2
  have f1:w2.frozen? ⟨M,1,none⟩=false:=blk_frozen hb2
  obtain ⟨ao,n',cap,rfl⟩:∃ ao n' cap,v'=.slice ao n' cap:=by
    rcases ho2.2 with ⟨hv,_⟩ | ⟨g,cap,cur,hv,_⟩
    · exact ⟨_,_,_,hv⟩
    · exact ⟨_,_,_,hv⟩
  go_wp2
  go_ret2
  have hne2:(Value.slice ao n' cap).ownBlock≠some M:=by
    intro e
    obtain ⟨c,fz,h3⟩:=brow_kind ho2 M e
    rw [hb2] at h3;simp only [Option.some.injEq,Obj.cells.injEq] at h3;exact hT.2 h3.2.1
  refine ⟨rfl,.slice ao n' cap,bset1 hb2 _,?_,hne2,?_,?_,fun a b=>Hnl.out a (by simpa using b)⟩
  · have:=ownsRow_kept ho2 (w':=w2.setCell ⟨M,1,none⟩ (.slice ao n' cap)) (fun k hk=>Below.heap_setCell _ _ _ _ (fun e=>hne2 (by have e':k=M:=e;rw [← e'];exact hk)))
    rw [Lib.strCells_eq,← Lib.byteCells_append] at this
    rw [List.length_append];exact this
  · intro k hk
    rcases hd2 k hk with h | h
    · exact .inl h
    · exact .inr (by omega)
  · have hc0:Chg (fun k=>k=M∨v.ownBlock=some k) w w1:=⟨hc1.os,hc1.tape,hc1.output,hc1.size,fun k hk hn9=>hc1.block k hk (fun e=>hn9 (.inl e))⟩
    exact Chg.setCell (hc0.trans (chg_grown hg2) (fun k hk=>.inl (.inr hk))) _ _ (.inl (.inl rfl))
end Go.Proofs.YtdbnfhpgmcjngabGreatDoor
/- Walks: what a desk says. -/
namespace Go.Proofs.YtdbnfhpgmcjngabGreatDoor
open Go Go.RowKit
section
variable {X:Nat→Prop} {base:Nat} {w:World} {M B:Nat} {vb vr:Value} {l:List UInt8} {ts:List Tr}
theorem dwrite_any (h:DeskOk X base w M B vb vr l ts) (s:ByteArray) (hlen:l.length+s.size≤100000000000) :
    Calls Tryz.prog 41 #[.pointer (some ⟨M,0,none⟩),.string s] w fun e w'=>(∃ n,e=.returned (.tuple #[.int .i64 n,.nilIface]))∧DeskPost X base w M B vb vr (l ++ s.data.toList) ts w':=by
  obtain ⟨p,hpp,hb⟩:=h.hdr
  refine (bstring_row 40 _ (desk_has _) base M w p vr l s hpp hb h.row h.ne hlen h.lo).mono ?_
  rintro e w' ⟨rfl,v',h1,h2,h3,h4,h5,h6⟩
  have hs:=h5.size
  have hC:Chg (DX M B vb vr) w w':=⟨h5.os,h5.tape,h5.output,h5.size,fun k hk hn=>h5.block k hk (fun e=>hn (.inl e))⟩
  refine ⟨⟨_,rfl⟩,vb,v',⟨⟨_,.inr rfl,h1⟩,h2,h3,?_,h.le,⟨h.out.1,fun k hk hx=>?_⟩,fun k hk=>Nat.lt_of_lt_of_le (h.lt k hk) hs,h.le2,h.tabs hC,fun e=>?_⟩,hC,h4,fun _ h=>.inl h⟩
  · refine h.book.chg h5 (fun k hk=>.inl (.inl hk)) (fun k hk=>?_)
    rcases hk with (hk | hk) | hk
    · exact .inl (.inl (.inl hk))
    · rcases h4 k hk with e | e
      · exact .inl (.inl (.inr e))
      · exact .inr e
    · exact .inl (.inr hk)
  · rcases h4 k hk with e | e
    · exact h.out.2 k e hx
    · have:=h.lt k hx;omega
  · obtain ⟨e1,e2⟩:=List.append_eq_nil_iff.1 e
    exact h6 (h.nil e1) (by rw [← sizeL,e2];rfl)
end
theorem say_size (xs:List (List UInt8)):(sayP xs).length=(joinC 32 xs).length+1:=by simp [sayP]
set_option maxRecDepth 100000 in
set_option maxHeartbeats 3200000 in
theorem say_any {X:Nat→Prop} {base:Nat} {w:World} {M B:Nat} {vb vr:Value} {l:List UInt8} {ts:List Tr} (h:DeskOk X base w M B vb vr l ts) (xs:List (List UInt8)) (bk o c:Nat) (hs:Strs Any w xs (some ⟨bk,o,none⟩) c) (hbk:bk < w.heap.size) (hlen:(joinC 32 xs).length≤1000000000) (hl:l.length≤10000000000) :
    Calls Tryz.prog 22 #[.pointer (some ⟨M,0,none⟩),.slice (some ⟨bk,o,none⟩) xs.length c] w fun e w'=>e=.returned (.tuple #[])∧DeskPost X base w M B vb vr (l ++ sayP xs) ts w':=by
  obtain ⟨p,hpp,hb⟩:=h.hdr
  have C0:=After.cell (bcell0 hb)
  obtain ⟨j,hj⟩:∃ j:ByteArray,j=⟨⟨joinC 32 xs⟩⟩:=⟨_,rfl⟩
  have hjd:j.data.toList=joinC 32 xs:=by rw [hj]
  have J1:=Lib.hid (After.call (P:=Tryz.prog) (v:=.string j) fun W' (hp:Pr w W')=>by
    have:=join_any xs bk o c W' (Flat.pr hp hs) (Nat.lt_of_lt_of_le hbk (Below.size hp)) hlen
    rw [← hj] at this;exact this)
  have hjs:(j ++ ⟨#[10]⟩:ByteArray).data.toList=sayP xs:=by rw [baL,hjd];rfl
  have hjz:(j ++ ⟨#[10]⟩:ByteArray).size≤1000000001:=by rw [← sizeL,hjs,say_size];omega
  have WR:Hid (∀ u,Pr w u→Calls Tryz.prog 41 #[.pointer (some ⟨M,0,none⟩),.string (j ++ ⟨#[10]⟩)] u fun e w'=>(∃ n,e=.returned (.tuple #[.int .i64 n,.nilIface]))∧DeskPost X base u M B vb vr (l ++ sayP xs) ts w'):=Lib.hid fun u hp=>by
    have:=dwrite_any (h.pr hp) (j ++ ⟨#[10]⟩) (by omega)
    rw [hjs] at this;exact this
  have hjw:j.size+1≤1000000001:=by rw [← sizeL,hjd];omega
  clear h hs hpp hb hj hjd hjs hjz
  go_enter Tryz.func22,Tryz.ntmps22
  go_wp2_with fail
  refine wp_region_after_tail 6 (by kernel_rfl) (by kernel_rfl) ?_
  simp only [List.take_succ_cons,List.take_zero,List.drop_succ_cons,List.drop_zero]
  repeat (go_big_quiet_step ((go_at_call 42;with_reducible exact J1.out _)))
  refine wpQuiet_nil ?_
  rintro wq ⟨⟨_,hq⟩,rfl⟩
  go_wp2_with (go_at_call 41;(with_reducible refine Calls.mono (WR.out _ hq) ?_);rintro e w2 ⟨⟨n2,rfl⟩,hp2⟩)
  go_end0
  exact ⟨rfl,hp2.pre hq⟩
end Go.Proofs.YtdbnfhpgmcjngabGreatDoor
/- Walks: what a desk tells of a code; a tree that it keeps. -/
namespace Go.Proofs.YtdbnfhpgmcjngabGreatDoor
open Go Go.RowKit
section
variable {X:Nat→Prop} {base:Nat} {w:World} {M B:Nat} {vb vr:Value} {l:List UInt8} {ts:List Tr}
theorem strs1 (w:World) (a:ByteArray):Strs Any (w.alloc (.cells #[.string a] 9)) [a.data.toList] (some ⟨w.heap.size,0,none⟩) 1:=by
  refine Flat.mk (by simp) (by decide) trivial fun i hi=>?_
  match i,hi with
  | 0,_=>simp [go_sem]
theorem strs2 (w:World) (a b:ByteArray):Strs Any (w.alloc (.cells #[.string a,.string b] 9)) [a.data.toList,b.data.toList] (some ⟨w.heap.size,0,none⟩) 2:=by
  refine Flat.mk (by simp) (by decide) trivial fun i hi=>?_
  match i,hi with
  | 0,_=>simp [go_sem]
  | 1,_=>simp [go_sem]
theorem strs3 (w:World) (a b c:ByteArray):Strs Any (w.alloc (.cells #[.string a,.string b,.string c] 9)) [a.data.toList,b.data.toList,c.data.toList] (some ⟨w.heap.size,0,none⟩) 3:=by
  refine Flat.mk (by simp) (by decide) trivial fun i hi=>?_
  match i,hi with
  | 0,_=>simp [go_sem]
  | 1,_=>simp [go_sem]
  | 2,_=>simp [go_sem]
theorem say_one (h:DeskOk X base w M B vb vr l ts) (a:ByteArray) (ha:a.size≤100000000) (hl:l.length≤1000000000) :
    Calls Tryz.prog 22 #[.pointer (some ⟨M,0,none⟩),.slice (some ⟨w.heap.size,0,none⟩) 1 1] (w.alloc (.cells #[.string a] 9)) fun e w'=>e=.returned (.tuple #[])∧DeskPost X base w M B vb vr (l ++ sayP [a.data.toList]) ts w' :=
  (say_any (h.pr (Pr.alloc _ _)) _ _ _ _ (strs1 w a) (by simp) (by simp [joinC];omega) (by omega)).mono fun e w' ⟨h1,h2⟩=>⟨h1,h2.pre (Pr.alloc _ _)⟩
theorem say_two (h:DeskOk X base w M B vb vr l ts) (a b:ByteArray) (ha:a.size+b.size≤100000000) (hl:l.length≤1000000000) :
    Calls Tryz.prog 22 #[.pointer (some ⟨M,0,none⟩),.slice (some ⟨w.heap.size,0,none⟩) 2 2] (w.alloc (.cells #[.string a,.string b] 9)) fun e w'=>e=.returned (.tuple #[])∧DeskPost X base w M B vb vr (l ++ sayP [a.data.toList,b.data.toList]) ts w' :=
  (say_any (h.pr (Pr.alloc _ _)) _ _ _ _ (strs2 w a b) (by simp) (by simp [joinC];omega) (by omega)).mono fun e w' ⟨h1,h2⟩=>⟨h1,h2.pre (Pr.alloc _ _)⟩
theorem say_three (h:DeskOk X base w M B vb vr l ts) (a b c:ByteArray) (ha:a.size+b.size+c.size≤100000000) (hl:l.length≤1000000000) :
    Calls Tryz.prog 22 #[.pointer (some ⟨M,0,none⟩),.slice (some ⟨w.heap.size,0,none⟩) 3 3] (w.alloc (.cells #[.string a,.string b,.string c] 9)) fun e w'=>e=.returned (.tuple #[])∧DeskPost X base w M B vb vr (l ++ sayP [a.data.toList,b.data.toList,c.data.toList]) ts w' :=
  (say_any (h.pr (Pr.alloc _ _)) _ _ _ _ (strs3 w a b c) (by simp) (by simp [joinC];omega) (by omega)).mono fun e w' ⟨h1,h2⟩=>⟨h1,h2.pre (Pr.alloc _ _)⟩
theorem itoa_few (n:Int) (h0:-9223372036854775808≤n) (h1:n≤9223372036854775807):(⟨⟨Lib.itoa n⟩⟩:ByteArray).size≤21:=by
  have:=Lib.itoa_length_le n h0 h1
  rw [← sizeL];exact this
theorem code_any (h:DeskOk X base w M B vb vr l ts) (c:Int) (h0:-9223372036854775808≤c) (h1:c≤9223372036854775807) (hl:l.length≤1000000000) :
    Calls Tryz.prog 30 #[.pointer (some ⟨M,0,none⟩),.int .i64 c] w fun e w'=>e=.returned (.bool (c != 0))∧DeskPost X base w M B vb vr (l ++ codeP c) ts w':=by
  by_cases hc:c=0
  · subst hc
    have R:=Lib.hid (DeskPost.refl h)
    clear h
    go_enter Tryz.func30,Tryz.ntmps30
    go_wp2_with fail
    go_ret
    refine ⟨rfl,?_⟩
    rw [show codeP 0=[] from rfl,List.append_nil];exact R.out
  · have e1:(c != 0)=true:=by simpa using hc
    have hcp:codeP c=sayP [wNo,Lib.itoa c]:=by unfold codeP;rw [if_neg hc]
    have N1:=Lib.hid (dnum_any c h0 h1 w h.tab)
    have hns:=itoa_few c h0 h1
    obtain ⟨nb,hnb⟩:∃ b:ByteArray,b=⟨⟨Lib.itoa c⟩⟩:=⟨_,rfl⟩
    rw [← hnb] at N1 hns
    have SY:Hid (∀ u,Pr w u→Calls Tryz.prog 22 #[.pointer (some ⟨M,0,none⟩),.slice (some ⟨u.heap.size,0,none⟩) 2 2] (u.alloc (.cells #[.string ⟨#[110,111]⟩,.string nb] 9)) fun e w'=>e=.returned (.tuple #[])∧DeskPost X base w M B vb vr (l ++ codeP c) ts w'):=Lib.hid fun u hp=>by
      have:=say_two (h.pr hp) ⟨#[110,111]⟩ nb (by show 2+nb.size≤_;omega) hl
      rw [hcp]
      refine this.mono fun e w' ⟨h1,h2⟩=>⟨h1,?_⟩
      have h3:=h2.pre hp
      rw [hnb] at h3;exact h3
    clear h hcp hnb hc
    go_enter Tryz.func30,Tryz.ntmps30
    go_wp2_with (first
      | (go_at_call 26;(with_reducible refine Calls.mono N1.out ?_);rintro e w1 ⟨rfl,hp1⟩)
      | (go_at_call 22;(with_reducible refine Calls.mono (SY.out _ hp1) ?_);rintro e w2 ⟨rfl,hd⟩))
    go_ret
    rw [e1];exact ⟨rfl,hd⟩
set_option maxRecDepth 100000 in
set_option maxHeartbeats 3200000 in
theorem keep_any (h:DeskOk X base w M B vb vr l ts) (lb:ByteArray) (ks:List Tr) (oa cap) (hlb:lb.size≤maxLen) (hk:Kids (BS NoX B vb) w ks oa cap) (hl:l.length≤1000000000) :
    Calls Tryz.prog 27 #[.pointer (some ⟨M,0,none⟩),.agg #[.string lb,.slice oa ks.length cap]] w fun e w'=>e=.returned (.tuple #[])∧DeskPost X base w M B vb vr (l ++ (keepP ts (.node lb ks)).2) (keepP ts (.node lb ks)).1 w':=by
  have hn:=h.book.few
  have C0:=Lib.hid fun u (hp:Pr w u)=>(h.pr hp).bcell
  have HM:∀ k,((k=M∨vr.ownBlock=some k)∨X k)→k < w.heap.size:=fun k hk=>by
    rcases hk with (e | e) | e
    · obtain ⟨p,_,h2⟩:=h.hdr;have:=blk_lt h2;omega
    · exact (h.row.lt k e).2
    · exact h.lt k e
  obtain ⟨ts',hts'⟩:∃ x,x=if addC ts (.node lb ks)=0 then ts ++ [.node lb ks] else ts:=⟨_,rfl⟩
  obtain ⟨c,hc⟩:∃ c,c=addC ts (.node lb ks):=⟨_,rfl⟩
  have hk1:(keepP ts (.node lb ks)).1=ts':=by rw [hts'];rfl
  have hk2:(keepP ts (.node lb ks)).2=if c=0 then sayP [wKept,Lib.itoa (ts.length:Int)] else codeP (c:Nat):=by rw [hc];rfl
  have AD:Hid (∀ u,Pr w u→Calls Tryz.prog 53 #[.pointer (some ⟨B,0,none⟩),.agg #[.string lb,.slice oa ks.length cap]] u fun e w'=>e=.returned (.tuple #[.int .i64 ((if c=0 then ts.length else 0:Nat):Int),.int .i64 (c:Nat)])∧(DeskPost X base w M B vb vr l ts' w'∧∀ b o v,w.heap.size≤b→u.cell? ⟨b,o,none⟩=some v→w'.cell? ⟨b,o,none⟩=some v)):=Lib.hid fun u hp=>by
    have hBl:=h.book.lt
    refine (add_any B vb ts lb ks oa cap u (h.pr hp).book hlb (hk.pr hp) (fun k hk=>Nat.lt_of_lt_of_le (HM k hk) hp.size)).mono ?_
    rintro e w' ⟨he,v',h1,h2,h3⟩
    rw [← hc] at he h1
    rw [← hc] at hts'
    rw [← hts'] at h1
    exact ⟨he,((h.pr hp).added h1 h2 h3).pre hp,fun b o v hb hc=>by
      rw [World.cell?_of_block (h2.block b (lt_of_cell hc) (by rintro (e | e);omega;have:=(hBl.2 b e).2;omega))];exact hc⟩
  have hc13:c≤13:=by
    rw [hc];unfold addC
    have:=fault_few (.node lb ks)
    split
    · omega
    · split <;> omega
  have CD:Hid (∀ u,DeskPost X base w M B vb vr l ts' u→Calls Tryz.prog 30 #[.pointer (some ⟨M,0,none⟩),.int .i64 (c:Nat)] u fun e w'=>e=.returned (.bool (((c:Nat):Int) != 0))∧DeskPost X base w M B vb vr (l ++ codeP (c:Nat)) ts' w'):=Lib.hid fun u hd =>
    hd.call fun vb' vr' hd'=>code_any hd' _ (by omega) (by omega) hl
  rw [hk1,hk2]
  obtain ⟨V,hV⟩:∃ V,V=w.alloc (.cells #[.string lb,.slice oa ks.length cap] 46):=⟨_,rfl⟩
  have hwV:Pr w V:=by rw [hV];exact Pr.alloc _ _
  have s0:=stays (show V.cell? ⟨w.heap.size,0,none⟩=some (.string lb) by rw [hV];simp [go_sem])
  have s1:=stays (show V.cell? ⟨w.heap.size,1,none⟩=some (.slice oa ks.length cap) by rw [hV];simp [go_sem])
  have c0:=stays (C0.out _ hwV)
  have HW:=Lib.hid hwV
  clear hwV C0
  clear hk HM hts' hk1 hk2 hc
  by_cases hc0:c=0
  · subst hc0
    have hns:=itoa_few (ts.length:Int) (by omega) (by omega)
    obtain ⟨nb,hnb⟩:∃ b:ByteArray,b=⟨⟨Lib.itoa (ts.length:Int)⟩⟩:=⟨_,rfl⟩
    have N1:Hid (∀ u,DeskPost X base w M B vb vr (l ++ codeP ((0:Nat):Int)) ts' u→Calls Tryz.prog 26 #[.int .i64 (ts.length:Int)] u fun e w'=>e=.returned (.string nb)∧Pr u w'):=Lib.hid fun u hd=>by
      obtain ⟨vb',vr',hd',_⟩:=hd
      rw [hnb];exact dnum_any _ (by omega) (by omega) u hd'.tab
    rw [← hnb] at hns
    have SY:Hid (∀ u,DeskPost X base w M B vb vr (l ++ codeP ((0:Nat):Int)) ts' u→Calls Tryz.prog 22 #[.pointer (some ⟨M,0,none⟩),.slice (some ⟨u.heap.size,0,none⟩) 2 2] (u.alloc (.cells #[.string ⟨#[107,101,112,116]⟩,.string nb] 9)) fun e w'=>e=.returned (.tuple #[])∧DeskPost X base w M B vb vr (l ++ sayP [wKept,Lib.itoa (ts.length:Int)]) ts' w'):=Lib.hid fun u hd=>by
      refine hd.call fun vb' vr' hd'=>?_
      have h9:codeP ((0:Nat):Int)=[]:=rfl
      rw [h9,List.append_nil] at hd'
      have:=say_two hd' ⟨#[107,101,112,116]⟩ nb (by show 4+nb.size≤_;omega) hl
      rw [show sayP [wKept,Lib.itoa (ts.length:Int)]=sayP [(⟨#[107,101,112,116]⟩:ByteArray).data.toList,nb.data.toList] by rw [hnb];rfl]
      exact this
    rw [if_pos rfl] at AD ⊢
    have e1:(((0:Nat):Int) != 0)=false:=rfl
    rw [e1] at CD
    clear h hnb hn hc13
    go_enter Tryz.func27,Tryz.ntmps27
    go_upto_region 1 with fail
    rw [← hV];clear hV
    go_region_held3 (fun W'=>W'.cell? ⟨M,2,none⟩=some (.pointer (some ⟨B,0,none⟩))∧W'.cell? ⟨w.heap.size,0,none⟩=some (.string lb)∧W'.cell? ⟨w.heap.size,1,none⟩=some (.slice oa ks.length cap))
      (first | exact ⟨c0 _ (Pr.drew _),s0 _ (Pr.drew _),s1 _ (Pr.drew _)⟩ | with_reducible exact ⟨hd1.bcell,hbx _ _ _ (Nat.le_refl _) (s0 _ (Pr.drew _)),hbx _ _ _ (Nat.le_refl _) (s1 _ (Pr.drew _))⟩)
      ((go_at_call 53;(with_reducible refine Calls.mono (AD.out _ (HW.out.trans (Pr.drew _))) ?_);rintro e w1 ⟨rfl,hd1,hbx⟩))
    clear s0 s1 c0
    go_wp2_with (first
      | (go_at_call 30;(with_reducible refine Calls.mono (CD.out _ hd1) ?_);rintro e w2 ⟨rfl,hd2⟩)
      | (go_at_call 26;(with_reducible refine Calls.mono (N1.out _ hd2) ?_);rintro e w3 ⟨rfl,hp3⟩)
      | (go_at_call 22;(with_reducible refine Calls.mono (SY.out _ (hd2.suf hp3)) ?_);rintro e w4 ⟨rfl,hd4⟩))
    go_end0
    exact ⟨rfl,hd4⟩
  · have e1:(((c:Nat):Int) != 0)=true:=by simp [bne_iff_ne];omega
    rw [e1] at CD
    rw [if_neg hc0] at AD ⊢
    clear h hn hc13 hc0
    go_enter Tryz.func27,Tryz.ntmps27
    go_upto_region 1 with fail
    rw [← hV];clear hV
    go_region_held3 (fun W'=>W'.cell? ⟨M,2,none⟩=some (.pointer (some ⟨B,0,none⟩))∧W'.cell? ⟨w.heap.size,0,none⟩=some (.string lb)∧W'.cell? ⟨w.heap.size,1,none⟩=some (.slice oa ks.length cap))
      (first | exact ⟨c0 _ (Pr.drew _),s0 _ (Pr.drew _),s1 _ (Pr.drew _)⟩ | with_reducible exact ⟨hd1.bcell,hbx _ _ _ (Nat.le_refl _) (s0 _ (Pr.drew _)),hbx _ _ _ (Nat.le_refl _) (s1 _ (Pr.drew _))⟩)
      ((go_at_call 53;(with_reducible refine Calls.mono (AD.out _ (HW.out.trans (Pr.drew _))) ?_);rintro e w1 ⟨rfl,hd1,hbx⟩))
    clear s0 s1 c0
    go_wp2_with (first
      | (go_at_call 30;(with_reducible refine Calls.mono (CD.out _ hd1) ?_);rintro e w2 ⟨rfl,hd2⟩))
    go_end0
    exact ⟨rfl,hd2⟩
end
end Go.Proofs.YtdbnfhpgmcjngabGreatDoor
/- Walks: a desk's add, tree, show, deeds. -/
namespace Go.Proofs.YtdbnfhpgmcjngabGreatDoor
open Go Go.RowKit
section
variable {X:Nat→Prop} {base:Nat} {w:World} {M B:Nat} {vb vr:Value} {l:List UInt8} {ts:List Tr}
theorem DeskOk.kids (h:DeskOk X base w M B vb vr l ts) {u:World} {ks:List Tr} {oa cap} (hk:Kids (From w.heap.size) u ks oa cap):Kids (BS NoX B vb) u ks oa cap :=
  hk.mono fun k (hk:w.heap.size≤k) _=>⟨⟨by have:=h.book.lt.1;omega,fun e=>by have:=(h.book.lt.2 k e).2;omega⟩,fun h=>h⟩
theorem read_err:∀ (N:Nat) (s:List UInt8) (d:Nat),(∀ e,readT N s d=.error e→e.1≤5∧e.2.length≤s.length)∧(∀ e,readK N s d=.error e→e.1≤5∧e.2.length≤s.length)
  | 0,s,d=>⟨fun e h=>by rw [readT] at h;cases h;exact ⟨by simp,Nat.le_refl _⟩,fun e h=>by rw [readK] at h;cases h;exact ⟨by simp,Nat.le_refl _⟩⟩
  | N+1,s,d=>by
    have hs:=skip_length s
    constructor
    · intro e h
      rw [readT] at h
      split at h
      · cases h;exact ⟨by simp,Nat.le_refl _⟩
      · split at h
        · cases h;exact ⟨by simp only [];split <;> omega,hs⟩
        · rename_i hne
          have hb:=behind_length hne
          split at h
          · split at h
            · rename_i e' he
              cases h
              have:=(read_err N _ d).2 _ he
              rw [List.length_tail] at this
              omega
            · cases h
          · cases h
    · intro e h
      rw [readK] at h
      split at h
      · rename_i e' he
        cases h
        exact (read_err N _ _).1 _ he
      · rename_i x hx
        have h1:=(read_short _ _ _).1 x hx
        have h2:=skip_length x.2
        split at h
        · cases h
        · split at h
          · rename_i e' he
            cases h
            have:=(read_err N _ d).2 _ he
            omega
          · cases h
theorem parse_range (s:List UInt8) (hs:s.length≤1000000000):(0≤(parseP s).2.1∧(parseP s).2.1≤1000000)∧(-1≤(parseP s).2.2∧(parseP s).2.2≤1000000000):=by
  unfold parseP
  split
  · exact ⟨⟨by decide,by decide⟩,by decide,by decide⟩
  · split
    · rename_i e he
      have:=(read_err _ _ _).1 e he
      simp only [];omega
    · rename_i x hx
      have h1:=parseT_short hx
      have h2:=skip_length x.2
      have h3:=fault_few x.1
      split
      · simp only [];omega
      · split <;> simp only [] <;> omega
set_option maxRecDepth 100000 in
set_option maxHeartbeats 3200000 in
theorem dadd_any (h:DeskOk X base w M B vb vr l ts) (s:ByteArray) (hs:s.size≤1000000) (hl:l.length≤1000000000) :
    Calls Tryz.prog 15 #[.pointer (some ⟨M,0,none⟩),.string s] w fun e w'=>e=.returned (.tuple #[])∧DeskPost X base w M B vb vr (l ++ (addP ts s.data.toList).2) (addP ts s.data.toList).1 w':=by
  have PS:=Lib.hid (parse_any s w (by unfold maxLen;omega))
  obtain ⟨⟨p0,p1⟩,q0,q1⟩:=parse_range s.data.toList (by rw [sizeL];omega)
  obtain ⟨r,hr⟩:∃ r,r=parseP s.data.toList:=⟨_,rfl⟩
  rw [← hr] at PS p0 p1 q0 q1
  have HD:=Lib.hid h
  obtain ⟨a,c,at'⟩:=r
  simp only [] at p0 p1 q0 q1
  by_cases hc:c=0
  · have hA:addP ts s.data.toList=keepP ts a:=by unfold addP;rw [← hr];simp only [];rw [if_neg (by simpa using hc)]
    rw [hA]
    clear hA hr
    subst hc
    have KP:Hid (∀ lb ks oa cap w1 u,a=.node lb ks→lb.size≤maxLen→Kids (From w.heap.size) w1 ks oa cap→Pr w w1→Pr w1 u→Calls Tryz.prog 27 #[.pointer (some ⟨M,0,none⟩),.agg #[.string lb,.slice oa ks.length cap]] u fun e w'=>e=.returned (.tuple #[])∧DeskPost X base w M B vb vr (l ++ (keepP ts a).2) (keepP ts a).1 w'):=Lib.hid fun lb ks oa cap w1 u ha hlb hk hp hq=>by
      rw [ha]
      exact (keep_any (h.pr (hp.trans hq)) lb ks oa cap hlb (h.kids (hk.pr hq)) hl).mono fun e w' ⟨h1,h2⟩=>⟨h1,h2.pre (hp.trans hq)⟩
    clear h
    go_enter Tryz.func15,Tryz.ntmps15
    go_wp2_with (go_at_call 25;(with_reducible refine Calls.mono PS.out ?_);rintro e w1 ⟨lb,ks,oa,cap,hr1,hlb,rfl,hk,hp1⟩)
    go_wp2_with (go_at_call 27;(with_reducible refine Calls.mono (KP.out _ _ _ _ _ _ hr1 hlb hk hp1 ((Pr.alloc _ _).alloc' _)) ?_);rintro e w2 ⟨rfl,hd⟩)
    go_end0
    exact ⟨rfl,hd⟩
  · have hA:addP ts s.data.toList=(ts,sayP [wNo,Lib.itoa c,Lib.itoa at']):=by unfold addP;rw [← hr];simp only [];rw [if_pos hc]
    rw [hA]
    have e1:(c != 0)=true:=by simpa using hc
    have hn1:=itoa_few c (by omega) (by omega)
    have hn2:=itoa_few at' (by omega) (by omega)
    obtain ⟨nc,hnc⟩:∃ b:ByteArray,b=⟨⟨Lib.itoa c⟩⟩:=⟨_,rfl⟩
    obtain ⟨na,hna⟩:∃ b:ByteArray,b=⟨⟨Lib.itoa at'⟩⟩:=⟨_,rfl⟩
    rw [← hnc] at hn1;rw [← hna] at hn2
    have N1:Hid (∀ u,Pr w u→Calls Tryz.prog 26 #[.int .i64 c] u fun e w'=>e=.returned (.string nc)∧Pr u w'):=Lib.hid fun u hp=>by
      rw [hnc];exact dnum_any c (by omega) (by omega) u (h.tab.pr hp)
    have N2:Hid (∀ u,Pr w u→Calls Tryz.prog 26 #[.int .i64 at'] u fun e w'=>e=.returned (.string na)∧Pr u w'):=Lib.hid fun u hp=>by
      rw [hna];exact dnum_any at' (by omega) (by omega) u (h.tab.pr hp)
    have SY:Hid (∀ u,Pr w u→Calls Tryz.prog 22 #[.pointer (some ⟨M,0,none⟩),.slice (some ⟨u.heap.size,0,none⟩) 3 3] (u.alloc (.cells #[.string ⟨#[110,111]⟩,.string nc,.string na] 9)) fun e w'=>e=.returned (.tuple #[])∧(DeskPost X base w M B vb vr (l ++ sayP [wNo,Lib.itoa c,Lib.itoa at']) ts w'∧∀ b o v,w.heap.size≤b→u.cell? ⟨b,o,none⟩=some v→w'.cell? ⟨b,o,none⟩=some v)):=Lib.hid fun u hp=>by
      have:=say_three (h.pr hp) ⟨#[110,111]⟩ nc na (by show 2+nc.size+na.size≤_;omega) hl
      refine this.mono fun e w' ⟨h1,h2⟩=>⟨h1,?_,fun b o v hb hc=>h2.cells h hp hb hc⟩
      have h3:=h2.pre hp
      rw [hnc,hna] at h3;exact h3
    clear h hA hr hnc hna p0 p1 q0 q1
    go_enter Tryz.func15,Tryz.ntmps15
    go_upto_region 2 with (go_at_call 25;(with_reducible refine Calls.mono PS.out ?_);rintro e w1 ⟨lb,ks,oa,cap,hr1,hlb,rfl,hk,hp1⟩)
    obtain ⟨V,hV⟩:∃ V,V=(w1.alloc (.cells #[.string lb,.slice oa ks.length cap] 46)).alloc (.cells #[.int .i64 c,.int .i64 at'] 29):=⟨_,rfl⟩
    have hq:Pr w V:=by rw [hV];exact (hp1.alloc' _).alloc' _
    obtain ⟨F,hF⟩:∃ F:World→Prop,F=fun W'=>W'.cell? ⟨w1.heap.size+1,0,none⟩=some (.int .i64 c)∧W'.cell? ⟨w1.heap.size+1,1,none⟩=some (.int .i64 at'):=⟨_,rfl⟩
    obtain ⟨SQ,hSQ⟩:∃ SQ:World→Prop,SQ=fun W'=>Pr w W'∧F W':=⟨_,rfl⟩
    have hFp:∀ u u',F u→Pr u u'→F u':=by rw [hF];exact fun u u' ⟨h1,h2⟩ h3=>⟨h3.cell h1,h3.cell h2⟩
    have hF0:F V:=by rw [hF,hV];exact ⟨by simp [go_sem],by simp [go_sem]⟩
    have hSp:∀ u u',SQ u→Pr u u'→SQ u':=by rw [hSQ];exact fun u u' ⟨h1,h2⟩ h3=>⟨h1.trans h3,hFp _ _ h2 h3⟩
    have hS0:SQ V.drew:=by rw [hSQ];exact ⟨hq.trans (Pr.drew _),hFp _ _ hF0 (Pr.drew _)⟩
    have hSF:∀ u,SQ u→F u:=by rw [hSQ];exact fun u h=>h.2
    have N1:Hid (∀ u,SQ u→Calls Tryz.prog 26 #[.int .i64 c] u fun e w'=>e=.returned (.string nc)∧SQ w'):=Lib.hid fun u hs=>(N1.out u (by rw [hSQ] at hs;exact hs.1)).mono fun e w' ⟨h1,h2⟩=>⟨h1,hSp _ _ hs h2⟩
    have N2:Hid (∀ u,SQ u→Calls Tryz.prog 26 #[.int .i64 at'] u fun e w'=>e=.returned (.string na)∧SQ w'):=Lib.hid fun u hs=>(N2.out u (by rw [hSQ] at hs;exact hs.1)).mono fun e w' ⟨h1,h2⟩=>⟨h1,hSp _ _ hs h2⟩
    have SY:Hid (∀ u,SQ u→Calls Tryz.prog 22 #[.pointer (some ⟨M,0,none⟩),.slice (some ⟨u.heap.size,0,none⟩) 3 3] (u.alloc (.cells #[.string ⟨#[110,111]⟩,.string nc,.string na] 9)) fun e w'=>e=.returned (.tuple #[])∧(DeskPost X base w M B vb vr (l ++ sayP [wNo,Lib.itoa c,Lib.itoa at']) ts w'∧F w')):=Lib.hid fun u hs=>by
      rw [hSQ] at hs
      refine (SY.out u hs.1).mono fun e w' ⟨h1,h2,h3⟩=>⟨h1,h2,?_⟩
      have h9:=hs.2
      have hs9:=hp1.size
      rw [hF] at h9 ⊢
      exact ⟨h3 _ _ _ (by omega) h9.1,h3 _ _ _ (by omega) h9.2⟩
    have hSA:=Lib.hid fun u c T (h:SQ u)=>hSF _ (hSp u _ h (Pr.alloc u (.cells c T)))
    have hSF:=Lib.hid hSF
    rw [← hV]
    clear hV hk hp1 hlb hr1 hSQ hq hFp hF0 hSp
    subst hF
    go_region_held3 (fun W'=>W'.cell? ⟨w1.heap.size+1,0,none⟩=some (.int .i64 c)∧W'.cell? ⟨w1.heap.size+1,1,none⟩=some (.int .i64 at'))
      (first | with_reducible exact hSF.out _ hS0 | with_reducible exact hSF.out _ hS5 | with_reducible exact hSF.out _ hS6 | with_reducible exact hSA.out _ _ _ hS5 | with_reducible exact hSA.out _ _ _ hS6 | with_reducible exact hF9)
      (first
        | (go_at_call 26;(with_reducible refine Calls.mono (N1.out _ (by first | with_reducible exact hS0 | with_reducible exact hS6)) ?_);rintro e w5 ⟨rfl,hS5⟩)
        | (go_at_call 26;(with_reducible refine Calls.mono (N2.out _ (by first | with_reducible exact hS0 | with_reducible exact hS5)) ?_);rintro e w6 ⟨rfl,hS6⟩)
        | (go_at_call 22;(with_reducible refine Calls.mono (SY.out _ (by first | with_reducible exact hS5 | with_reducible exact hS6)) ?_);rintro e w3 ⟨rfl,hd,hF9⟩))
    all_goals
      go_wp2_with fail
      refine bodyPost_ret (results_none rfl _ _ _) rfl ?_
      exact ⟨rfl,hd⟩
set_option maxRecDepth 100000 in
set_option maxHeartbeats 3200000 in
theorem dtree_any (h:DeskOk X base w M B vb vr l ts) (lb:ByteArray) (ks:List Tr) (oa cap) (hlb:lb.size≤maxLen) (hk:Kids Any w ks oa cap) (hf:fault (.node lb ks)=0) (hl:l.length≤1000000000) :
    Calls Tryz.prog 63 #[.pointer (some ⟨M,0,none⟩),.agg #[.string lb,.slice oa ks.length cap]] w fun e w'=>e=.returned (.tuple #[])∧DeskPost X base w M B vb vr (l ++ sayP [wTree,textT (.node lb ks)]) ts w':=by
  have hlen:=txt_length _ (fault_parts hf).2.2
  have hsz:=(fault_parts hf).1
  obtain ⟨tx,htx⟩:∃ b:ByteArray,b=wrT (.node lb ks):=⟨_,rfl⟩
  have htl:tx.data.toList=textT (.node lb ks):=by rw [htx];unfold wrT;rw [if_pos hf]
  have hts:tx.size≤1000:=by rw [← sizeL,htl];omega
  have TP:Hid (∀ u,Pr w u→Calls Tryz.prog 96 #[.agg #[.string lb,.slice oa ks.length cap]] u fun e w'=>e=.returned (.tuple #[.string tx,.int .i64 (fault (.node lb ks))])∧Pr u w'):=Lib.hid fun u hp=>by
    rw [htx];exact tprint_any lb ks oa cap u hlb (hk.pr hp)
  have SY:Hid (∀ u,Pr w u→Calls Tryz.prog 22 #[.pointer (some ⟨M,0,none⟩),.slice (some ⟨u.heap.size,0,none⟩) 2 2] (u.alloc (.cells #[.string ⟨#[116,114,101,101]⟩,.string tx] 9)) fun e w'=>e=.returned (.tuple #[])∧DeskPost X base w M B vb vr (l ++ sayP [wTree,textT (.node lb ks)]) ts w'):=Lib.hid fun u hp=>by
    have:=say_two (h.pr hp) ⟨#[116,114,101,101]⟩ tx (by show 4+tx.size≤_;omega) hl
    refine this.mono fun e w' ⟨h1,h2⟩=>⟨h1,?_⟩
    have h3:=h2.pre hp
    rw [htl] at h3;exact h3
  clear h hlen hsz htx htl hk hf
  go_enter Tryz.func63,Tryz.ntmps63
  go_wp2_with (first
    | (go_at_call 96;(with_reducible refine Calls.mono (TP.out _ (Pr.alloc _ _)) ?_);rintro e w1 ⟨rfl,hp1⟩)
    | (go_at_call 22;(with_reducible refine Calls.mono (SY.out _ ((Pr.alloc _ _).trans hp1)) ?_);rintro e w3 ⟨rfl,hd⟩))
  go_end0
  exact ⟨rfl,hd⟩
set_option maxRecDepth 100000 in
set_option maxHeartbeats 3200000 in
theorem dshow_any (h:DeskOk X base w M B vb vr l ts) (n:Int) (hl:l.length≤1000000000) :
    Calls Tryz.prog 34 #[.pointer (some ⟨M,0,none⟩),.int .i64 n] w fun e w'=>e=.returned (.tuple #[])∧DeskPost X base w M B vb vr (l ++ showP ts n) ts w':=by
  have C0:=h.bcell
  have GT:=get_any B vb ts n w h.book
  unfold GetPost at GT
  have hg:hasT ts n=true→fault (getT ts n)=0:=fun hh=>by
    unfold hasT at hh
    have h9:=of_decide_eq_true hh
    unfold getT
    rw [if_pos h9,List.getD_eq_getElem?_getD,List.getElem?_eq_getElem (by omega)]
    exact h.book.flt _ (List.getElem_mem _)
  obtain ⟨r,hr⟩:∃ r,r=showP ts n:=⟨_,rfl⟩
  rw [← hr]
  unfold showP at hr
  generalize getT ts n=t at *
  cases hb:hasT ts n
  case false =>
    rw [hb] at GT hr
    have CD:Hid (∀ u,Pr w u→Calls Tryz.prog 30 #[.pointer (some ⟨M,0,none⟩),.int .i64 7] u fun e w'=>e=.returned (.bool true)∧DeskPost X base w M B vb vr (l ++ r) ts w'):=Lib.hid fun u hp=>by
      rw [hr]
      exact (code_any (h.pr hp) 7 (by decide) (by decide) hl).mono fun e w' ⟨h1,h2⟩=>⟨h1,h2.pre hp⟩
    have GT:=Lib.hid GT
    clear h hr hg hb
    go_enter Tryz.func34,Tryz.ntmps34
    go_wp2_with (first
      | (go_at_call 59;(with_reducible refine Calls.mono GT.out ?_);rintro e w1 ⟨lb,ks,oa,cap,rfl,hlb,rfl,hk,hp1⟩)
      | (go_at_call 30;(with_reducible refine Calls.mono (CD.out _ (hp1.alloc' _)) ?_);rintro e w3 ⟨rfl,hd⟩))
    refine bodyPost_ret (results_none rfl _ _ _) rfl ?_
    exact ⟨rfl,hd⟩
  case true =>
    rw [hb] at GT hr
    have hf:=hg hb
    rw [if_pos rfl] at hr
    have TR:Hid (∀ lb ks oa cap w1 u,t=.node lb ks→lb.size≤maxLen→Kids (From w.heap.size) w1 ks oa cap→Pr w w1→Pr w1 u→Calls Tryz.prog 63 #[.pointer (some ⟨M,0,none⟩),.agg #[.string lb,.slice oa ks.length cap]] u fun e w'=>e=.returned (.tuple #[])∧DeskPost X base w M B vb vr (l ++ r) ts w'):=Lib.hid fun lb ks oa cap w1 u ht hlb hk hp hq=>by
      rw [hr,ht]
      exact (dtree_any (h.pr (hp.trans hq)) lb ks oa cap hlb (hk.pr hq).any (by rw [← ht];exact hf) hl).mono fun e w' ⟨h1,h2⟩=>⟨h1,h2.pre (hp.trans hq)⟩
    have GT:=Lib.hid GT
    clear h hr hg hb hf
    go_enter Tryz.func34,Tryz.ntmps34
    go_wp2_with (first
      | (go_at_call 59;(with_reducible refine Calls.mono GT.out ?_);rintro e w1 ⟨lb,ks,oa,cap,ht,hlb,rfl,hk,hp1⟩)
      | (go_at_call 63;(with_reducible refine Calls.mono (TR.out _ _ _ _ _ _ ht hlb hk hp1 (Pr.alloc _ _)) ?_);rintro e w3 ⟨rfl,hd⟩))
    go_end0
    exact ⟨rfl,hd⟩
set_option maxRecDepth 100000 in
set_option maxHeartbeats 3200000 in
theorem ddeeds_any (h:DeskOk X base w M B vb vr l ts) (ds:List Dee) (oa cap) (hds:Dees Any w ds oa cap) (hF:FewD ds) (hlen:(printP ds).1.length≤100000000) (hl:l.length≤800000000) :
    Calls Tryz.prog 67 #[.pointer (some ⟨M,0,none⟩),.slice oa ds.length cap] w fun e w'=>e=.returned (.tuple #[])∧DeskPost X base w M B vb vr (l ++ deedsP ds) ts w':=by
  have PR:=Lib.hid (print_any ds oa cap w hds hF h.tab)
  unfold PrintPost at PR
  have hnn:(⟨M,0,none⟩:Addr)=⟨M,0,none⟩:=rfl
  obtain ⟨tx,htx⟩:∃ b:ByteArray,b=⟨⟨(printP ds).1⟩⟩:=⟨_,rfl⟩
  have htl:tx.data.toList=(printP ds).1:=by rw [htx]
  have hts:tx.size≤100000000:=by rw [← sizeL,htl];exact hlen
  have WR:Hid (∀ u,Pr w u→Calls Tryz.prog 41 #[.pointer (some ⟨M,0,none⟩),.string tx] u fun e w'=>(∃ n,e=.returned (.tuple #[.int .i64 n,.nilIface]))∧DeskPost X base w M B vb vr (l ++ tx.data.toList) ts w'):=Lib.hid fun u hp =>
    (dwrite_any (h.pr hp) tx (by omega)).mono fun e w' ⟨h1,h2⟩=>⟨h1,h2.pre hp⟩
  have SY:Hid (∀ u,DeskPost X base w M B vb vr (l ++ tx.data.toList) ts u→Calls Tryz.prog 22 #[.pointer (some ⟨M,0,none⟩),.slice (some ⟨u.heap.size,0,none⟩) 1 1] (u.alloc (.cells #[.string ⟨#[101,110,100]⟩] 9)) fun e w'=>e=.returned (.tuple #[])∧DeskPost X base w M B vb vr (l ++ deedsP ds) ts w'):=Lib.hid fun u hd=>by
    refine hd.call fun vb' vr' hd'=>?_
    have:=say_one hd' ⟨#[101,110,100]⟩ (by decide) (by rw [List.length_append,sizeL];omega)
    rw [List.append_assoc,htl] at this
    exact this
  rw [← htx] at PR
  clear h hds hF hlen htx htl
  go_enter Tryz.func67,Tryz.ntmps67
  go_wp2_with (first
    | (go_at_call 111;(with_reducible refine Calls.mono PR.out ?_);rintro e w1 ⟨rfl,hp1⟩)
    | (go_at_call 41;(with_reducible refine Calls.mono (WR.out _ (hp1.alloc' _)) ?_);rintro e w2 ⟨⟨n2,rfl⟩,hd2⟩)
    | (go_at_call 22;(with_reducible refine Calls.mono (SY.out _ hd2) ?_);rintro e w3 ⟨rfl,hd⟩))
  go_end0
  exact ⟨rfl,hd⟩
end
end Go.Proofs.YtdbnfhpgmcjngabGreatDoor
/- Plain: bounds on what a desk tells. No program here. -/
namespace Go.Proofs.YtdbnfhpgmcjngabGreatDoor
theorem mem_listL {x:Int}:∀ ms:List Mk,x∈listL ms↔∃ m∈ms,x∈listM m
  | []=>by simp [listL]
  | m :: ms=>by rw [listL,List.mem_append,mem_listL ms];simp
theorem mem_listM {x s:Int} {ms:List Mk}:x∈listM (.node s ms)↔x=s∨∃ m∈ms,x∈listM m:=by
  rw [listM_node,List.mem_append,List.mem_singleton,mem_listL,Or.comm]
theorem kidM_mem {x:Int} {ms:List Mk} {k:Int} (h:x∈listM (kidM ms k)):x=0∨∃ m∈ms,x∈listM m:=by
  unfold kidM at h
  rw [List.getD_eq_getElem?_getD] at h
  cases hm:ms[k.toNat]? with
  | none=>rw [hm] at h;simp only [Option.getD_none] at h;rw [mem_listM] at h;simp at h;exact .inl h
  | some m=>rw [hm] at h;exact .inr ⟨m,List.mem_of_getElem? hm,h⟩
theorem doM_in (d:Dee) (now x:Int):∀ (p:List Int) (m:Mk),x∈listM (doM d now p m)→(x=now∨x=0)∨x∈listM m
  | [],.node s ms,h=>by
    rw [doM] at h
    split at h
    · rw [mem_listM] at h ⊢
      rcases h with h | ⟨m,hm,hx⟩
      · exact .inr (.inl h)
      · rw [List.mem_append,List.mem_append,List.mem_singleton] at hm
        rcases hm with (hm | rfl) | hm
        · exact .inr (.inr ⟨m,List.mem_of_mem_take hm,hx⟩)
        · rw [mem_listM] at hx
          rcases hx with hx | ⟨u,hu,hx⟩
          · exact .inl (.inl hx)
          · exact .inr (.inr ⟨u,List.mem_of_mem_drop (List.mem_of_mem_take hu),hx⟩)
        · exact .inr (.inr ⟨m,List.mem_of_mem_drop hm,hx⟩)
    · exact .inr h
  | k :: p,.node s ms,h=>by
    rw [doM] at h
    split at h
    · rw [mem_listM] at h ⊢
      rcases h with h | ⟨m,hm,hx⟩
      · exact .inr (.inl h)
      · rw [List.mem_append,List.mem_append] at hm
        rcases hm with (hm | hm) | hm
        · exact .inr (.inr ⟨m,List.mem_of_mem_take hm,hx⟩)
        · have hk:x∈listM (kidM ms k):=by
            cases hkm:kidM ms k with
            | node s' us =>
              rw [hkm] at hm
              exact mem_listM.2 (.inr ⟨m,hm,hx⟩)
          rcases kidM_mem hk with h0 | h0
          · exact .inl (.inr h0)
          · exact .inr (.inr h0)
        · exact .inr (.inr ⟨m,List.mem_of_mem_drop hm,hx⟩)
    · rw [mem_listM] at h ⊢
      rcases h with h | ⟨m,hm,hx⟩
      · exact .inr (.inl h)
      · rcases List.mem_or_eq_of_mem_set hm with hm | rfl
        · exact .inr (.inr ⟨m,hm,hx⟩)
        · rcases doM_in d now x p _ hx with h0 | h0
          · exact .inl h0
          · rcases kidM_mem h0 with h0 | h0
            · exact .inl (.inr h0)
            · exact .inr (.inr h0)
theorem doMs_in (now x:Int):∀ (ds:List Dee) (m:Mk),x∈listM (doMs now ds m)→(x=now∨x=0)∨x∈listM m
  | [],_,h=>.inr h
  | d :: ds,m,h=>by
    rcases doMs_in now x ds _ h with h | h
    · exact .inl h
    · exact doM_in d now x _ _ h
mutual
theorem markP_in (s x:Int):∀ t:Tr,x∈listM (markP s t)→x=s
  | .node l ks,h=>by
    rw [markP,listM_node,List.mem_append,List.mem_singleton] at h
    rcases h with h | h
    · exact markL_in s x ks h
    · exact h
theorem markL_in (s x:Int):∀ ks:List Tr,x∈listL (markL s ks)→x=s
  | [],h=>by rw [markL,listL] at h;cases h
  | k :: ks,h=>by
    rw [markL,listL,List.mem_append] at h
    rcases h with h | h
    · exact markP_in s x k h
    · exact markL_in s x ks h
end
theorem blM_in (ts:List Tr) (x:Int):∀ n:Nat,x∈listM (blM ts n)→0≤x∧x≤n
  | 0,h=>by rw [blM] at h;have:=markP_in _ _ _ h;omega
  | n+1,h=>by
    rw [blM] at h
    rcases doMs_in _ _ _ _ h with (h | h) | h
    · omega
    · omega
    · have:=blM_in ts x n h;omega
theorem blameP_in {ts:List Tr} {z:Int} (hn:ts.length≤30) {x:Int} (h:x∈blameP ts z):0≤x∧x≤30:=by
  unfold blameP at h
  split at h
  · rename_i hb
    unfold hasB at hb
    have:=blM_in ts x _ h
    omega
  · cases h
theorem blameP_len {ts:List Tr} {z:Int} (hf:∀ t∈ts,fault t=0):(blameP ts z).length≤40:=by
  unfold blameP
  split
  · rename_i hb
    unfold hasB at hb
    rw [(blM_form hf z.toNat (by omega)).list]
    exact (fault_parts (hf _ (List.getElem_mem _))).1
  · simp
theorem at_short:∀ (p:List Int) (t u:Tr),t.at? p=some u→(∀ x∈p,0≤x∧x < t.sz)∧p.length < t.sz
  | [],t,_,_=>⟨by simp,t.sz_pos⟩
  | k :: p,.node l ks,u,h=>by
    rw [Tr.at?] at h
    cases hk:(Tr.node l ks).kid? k with
    | none=>rw [hk] at h;cases h
    | some v =>
      rw [hk] at h
      have h':v.at? p=some u:=h
      obtain ⟨h0,h1,h2,h3⟩:=kid?_some hk
      obtain ⟨a,b⟩:=at_short p v u h'
      have hg:kidN ks k=ks[k.toNat]:=by
        have:=kidN_in ks k.toNat h1
        rwa [Int.toNat_of_nonneg h0] at this
      have hs:=Tr.szL_get ks k.toNat h1
      rw [← hg,h2] at hs
      have hl:ks.length≤Tr.szL ks:=Tr.length_le ks
      refine ⟨fun x hx=>?_,by simp only [List.length_cons,Tr.sz_node];omega⟩
      rcases List.mem_cons.1 hx with rfl | hx
      · simp only [Tr.sz_node];omega
      · have:=a x hx;simp only [Tr.sz_node];omega
theorem lines_short {ds:List Dee} (h:∀ d∈ds,lineC d=0∧d.path.length≤60∧d.lab.size≤100):(printP ds).1.length≤200000:=by
  by_cases hn:ds.length≤80
  · rw [ok_print hn fun d hd=>(h d hd).1]
    have:=ended_few (ds:=ds) fun d hd=>line_few (h d hd).1 (h d hd).2.1 (h d hd).2.2
    simp only []
    omega
  · rw [print_many (by omega)];simp
theorem stepD_short {ts:List Tr} (hf:∀ t∈ts,fault t=0) (z:Int):(∀ d∈stepD ts z,lineC d=0∧d.path.length≤60∧d.lab.size≤100):=by
  unfold stepD
  split
  · rename_i hz
    have h1:z.toNat - 1 < ts.length:=by omega
    have h2:z.toNat < ts.length:=by omega
    rw [List.getD_eq_getElem?_getD,List.getD_eq_getElem?_getD,List.getElem?_eq_getElem h1,List.getElem?_eq_getElem h2]
    obtain ⟨back,hgo⟩:=stepP_go (hf _ (List.getElem_mem h1)) (hf _ (List.getElem_mem h2))
    have h3:=run_lines hgo
    have h4:=run_few hgo
    exact fun d hd=>⟨h3 d hd,h4 d hd⟩
  · simp
theorem numsP_len {xs:List Int} (h:∀ x∈xs,0≤x∧x≤30):(numsP xs).length≤30 * xs.length:=by
  induction xs with
  | nil=>simp [numsP]
  | cons x xs ih =>
    have h0:=h x (by simp)
    have h1:=Lib.itoa_length_le x (by omega) (by omega)
    have h2:=ih fun y hy=>h y (by simp [hy])
    simp only [numsP,List.length_cons,List.length_append]
    omega
theorem numsP_snoc (x:Int):∀ xs:List Int,numsP (xs ++ [x])=numsP xs ++ 32 :: Lib.itoa x
  | []=>by simp [numsP]
  | y :: ys=>by rw [List.cons_append,numsP,numsP,numsP_snoc x ys];simp
end Go.Proofs.YtdbnfhpgmcjngabGreatDoor
/- Walks: a desk's step, diff, merge, do. -/
namespace Go.Proofs.YtdbnfhpgmcjngabGreatDoor
open Go Go.RowKit
section
variable {X:Nat→Prop} {base:Nat} {w:World} {M B:Nat} {vb vr:Value} {l:List UInt8} {ts:List Tr}
theorem few_deeds {ds:List Dee} (h:∀ d∈ds,lineC d=0∧d.path.length≤60∧d.lab.size≤100):FewD ds:=fun d hd=>by have:=h d hd;omega
theorem getT_fault (hf:∀ t∈ts,fault t=0) {n:Int} (hh:hasT ts n=true):fault (getT ts n)=0:=by
  unfold hasT at hh
  have h9:=of_decide_eq_true hh
  unfold getT
  rw [if_pos h9,List.getD_eq_getElem?_getD,List.getElem?_eq_getElem (by omega)]
  exact hf _ (List.getElem_mem _)
theorem code_zero (u:World) (M:Nat):Calls Tryz.prog 30 #[.pointer (some ⟨M,0,none⟩),.int .i64 0] u fun e w'=>e=.returned (.bool false)∧Pr u w':=by
  go_enter Tryz.func30,Tryz.ntmps30
  go_wp2_with fail
  go_ret
  exact ⟨rfl,Pr.refl _⟩
set_option maxRecDepth 100000 in
set_option maxHeartbeats 3200000 in
theorem dstep_any (h:DeskOk X base w M B vb vr l ts) (n:Int) (hl:l.length≤800000000) :
    Calls Tryz.prog 36 #[.pointer (some ⟨M,0,none⟩),.int .i64 n] w fun e w'=>e=.returned (.tuple #[])∧DeskPost X base w M B vb vr (l ++ stepDP ts n) ts w':=by
  have C0:=h.bcell
  have GT:=stepB_any B vb ts n w h.book
  unfold StepPost at GT
  have hg:=stepD_short h.book.flt n
  obtain ⟨r,hr⟩:∃ r,r=stepDP ts n:=⟨_,rfl⟩
  rw [← hr]
  unfold stepDP at hr
  generalize stepD ts n=ds at *
  cases hb:hasS ts n
  case false =>
    rw [hb] at GT hr
    have CD:Hid (∀ u,Pr w u→Calls Tryz.prog 30 #[.pointer (some ⟨M,0,none⟩),.int .i64 7] u fun e w'=>e=.returned (.bool true)∧DeskPost X base w M B vb vr (l ++ r) ts w'):=Lib.hid fun u hp=>by
      rw [hr]
      exact (code_any (h.pr hp) 7 (by decide) (by decide) (by omega)).mono fun e w' ⟨h1,h2⟩=>⟨h1,h2.pre hp⟩
    have GT:=Lib.hid GT
    clear h hr hg hb
    go_enter Tryz.func36,Tryz.ntmps36
    go_wp2_with (first
      | (go_at_call 68;(with_reducible refine Calls.mono GT.out ?_);rintro e w1 ⟨oa,cap,rfl,hk,hp1⟩)
      | (go_at_call 30;(with_reducible refine Calls.mono (CD.out _ hp1) ?_);rintro e w3 ⟨rfl,hd⟩))
    refine bodyPost_ret (results_none rfl _ _ _) rfl ?_
    exact ⟨rfl,hd⟩
  case true =>
    rw [hb] at GT hr
    rw [if_pos rfl] at hr
    have TR:Hid (∀ oa cap u,Dees (From w.heap.size) u ds oa cap→Pr w u→Calls Tryz.prog 67 #[.pointer (some ⟨M,0,none⟩),.slice oa ds.length cap] u fun e w'=>e=.returned (.tuple #[])∧DeskPost X base w M B vb vr (l ++ r) ts w'):=Lib.hid fun oa cap u hk hp=>by
      rw [hr]
      exact (ddeeds_any (h.pr hp) ds oa cap hk.any (few_deeds hg) (by have:=lines_short hg;omega) hl).mono fun e w' ⟨h1,h2⟩=>⟨h1,h2.pre hp⟩
    have GT:=Lib.hid GT
    clear h hr hg hb
    go_enter Tryz.func36,Tryz.ntmps36
    go_wp2_with (first
      | (go_at_call 68;(with_reducible refine Calls.mono GT.out ?_);rintro e w1 ⟨oa,cap,rfl,hk,hp1⟩)
      | (go_at_call 67;(with_reducible refine Calls.mono (TR.out _ _ _ hk hp1) ?_);rintro e w3 ⟨rfl,hd⟩))
    go_end0
    exact ⟨rfl,hd⟩
set_option maxRecDepth 100000 in
set_option maxHeartbeats 3200000 in
theorem dmerge_any (h:DeskOk X base w M B vb vr l ts) (o x y:Int) (hl:l.length≤800000000) :
    Calls Tryz.prog 38 #[.pointer (some ⟨M,0,none⟩),.int .i64 o,.int .i64 x,.int .i64 y] w fun e w'=>e=.returned (.tuple #[])∧DeskPost X base w M B vb vr (l ++ (mergeDP ts o x y).2) (mergeDP ts o x y).1 w':=by
  have C0:=h.bcell
  have MG:=bmerge_anyF B vb ts o x y w h.book
  unfold MergePostF at MG
  have hpath:(bmergeP ts o x y).2.2=12→∃ u,(getT ts o).at? (bmergeP ts o x y).2.1=some u:=fun h12=>by
    unfold bmergeP at h12 ⊢
    by_cases ha:(hasT ts o && hasT ts x && hasT ts y)=true
    · rw [if_pos ha] at h12 ⊢;exact ((merge_clash _ _ _).1 h12).2.1
    · rw [if_neg ha] at h12;cases h12
  have hfo:(bmergeP ts o x y).2.2=12→fault (getT ts o)=0:=fun h12=>by
    unfold bmergeP at h12
    by_cases ha:(hasT ts o && hasT ts x && hasT ts y)=true
    · simp only [Bool.and_eq_true] at ha;exact getT_fault h.book.flt ha.1.1
    · rw [if_neg ha] at h12;cases h12
  have hc12:(bmergeP ts o x y).2.2≤12:=by
    unfold bmergeP
    split
    · unfold mergeT
      have f1:=fault_few (getT ts o);have f2:=fault_few (getT ts x);have f3:=fault_few (getT ts y)
      split
      · simp only [];omega
      · split
        · simp only [];omega
        · split
          · simp only [];omega
          · split
            · exact Nat.le_refl _
            · rename_i t ht
              have f4:=fault_few t
              split
              · simp only [];omega
              · simp
    · decide
  obtain ⟨r,hr⟩:∃ r,r=mergeDP ts o x y:=⟨_,rfl⟩
  rw [← hr]
  unfold mergeDP at hr
  generalize getT ts o=tz at *
  generalize bmergeP ts o x y=R at *
  obtain ⟨t,p,c⟩:=R
  simp only [] at hpath hfo hc12 hr MG
  by_cases h12:c=12
  · subst h12
    obtain ⟨u0,hu0⟩:=hpath rfl
    obtain ⟨hp1,hp2⟩:=at_short p tz u0 hu0
    have hsz:=(fault_parts (hfo rfl)).1
    have hI:I64 p:=fun x hx=>by have:=hp1 x hx;omega
    have hpl:p.length≤100000:=by omega
    have hlen:=pathT_le p hI
    rw [if_pos (show ((12:Nat):Int)=12 from rfl)] at hr
    obtain ⟨tx,htx⟩:∃ b:ByteArray,b=⟨⟨pathTx p⟩⟩:=⟨_,rfl⟩
    have htl:tx.data.toList=pathTx p:=by rw [htx]
    have hts:tx.size≤10000:=by rw [← sizeL,htl];omega
    have PT:Hid (∀ oa cap u,Ints (From w.heap.size) u p oa cap→Pr w u→Calls Tryz.prog 71 #[.slice oa p.length cap] u fun e w'=>e=.returned (.string tx)∧Pr u w'):=Lib.hid fun oa cap u hk hp=>by
      rw [htx];exact pathTx_any p oa cap u (Flat.any hk) hI hpl (h.tab.pr hp)
    have SY:Hid (∀ u,Pr w u→Calls Tryz.prog 22 #[.pointer (some ⟨M,0,none⟩),.slice (some ⟨u.heap.size,0,none⟩) 2 2] (u.alloc (.cells #[.string ⟨#[99,108,97,115,104]⟩,.string tx] 9)) fun e w'=>e=.returned (.tuple #[])∧DeskPost X base w M B vb vr (l ++ r.2) r.1 w'):=Lib.hid fun u hp=>by
      have:=say_two (h.pr hp) ⟨#[99,108,97,115,104]⟩ tx (by show 5+tx.size≤_;omega) (by omega)
      rw [hr]
      refine this.mono fun e w' ⟨h1,h2⟩=>⟨h1,?_⟩
      have h3:=h2.pre hp
      rw [htl] at h3;exact h3
    have MG:=Lib.hid MG
    clear h hr hpath hfo hc12 hu0 hp1 hp2 hsz hI hpl hlen htx htl
    go_enter Tryz.func38,Tryz.ntmps38
    go_wp2_with (first
      | (go_at_call 70;(with_reducible refine Calls.mono MG.out ?_);rintro e w1 ⟨lb,ks,oa,cap,pa,pc,ht,hlb,rfl,hk,hi,hp1⟩)
      | (go_at_call 71;(with_reducible refine Calls.mono (PT.out _ _ _ (Flat.pr (Pr.alloc _ _) hi) (hp1.alloc' _)) ?_);rintro e w2 ⟨rfl,hp2⟩)
      | (go_at_call 22;(with_reducible refine Calls.mono (SY.out _ ((hp1.alloc' _).trans hp2)) ?_);rintro e w3 ⟨rfl,hd⟩))
    refine bodyPost_ret (results_none rfl _ _ _) rfl ?_
    exact ⟨rfl,hd⟩
  · have e12:((c:Int)==12)=false:=by simp;omega
    rw [if_neg (by omega)] at hr
    by_cases hc:c=0
    · subst hc
      rw [if_neg (by simp)] at hr
      have CD:=Lib.hid fun u=>code_zero u M
      have KP:Hid (∀ lb ks oa cap w1 u,t=.node lb ks→lb.size≤maxLen→Kids (From w.heap.size) w1 ks oa cap→Pr w w1→Pr w1 u→Calls Tryz.prog 27 #[.pointer (some ⟨M,0,none⟩),.agg #[.string lb,.slice oa ks.length cap]] u fun e w'=>e=.returned (.tuple #[])∧DeskPost X base w M B vb vr (l ++ r.2) r.1 w'):=Lib.hid fun lb ks oa cap w1 u ht hlb hk hp hq=>by
        rw [hr,ht]
        exact (keep_any (h.pr (hp.trans hq)) lb ks oa cap hlb (h.kids (hk.pr hq)) (by omega)).mono fun e w' ⟨h1,h2⟩=>⟨h1,h2.pre (hp.trans hq)⟩
      have MG:=Lib.hid MG
      clear h hr hpath hfo hc12
      go_enter Tryz.func38,Tryz.ntmps38
      go_wp2_with (first
        | (go_at_call 70;(with_reducible refine Calls.mono MG.out ?_);rintro e w1 ⟨lb,ks,oa,cap,pa,pc,ht,hlb,rfl,hk,hi,hp1⟩)
        | (go_at_call 30;(with_reducible refine Calls.mono (CD.out _) ?_);rintro e w2 ⟨rfl,hp2⟩;have x0:=hp2.cell (b:=w1.heap.size) (o:=0) (v:=.string lb) (by simp [go_sem]);have x1:=hp2.cell (b:=w1.heap.size) (o:=1) (v:=.slice oa ks.length cap) (by simp [go_sem]))
        | (go_at_call 27;(with_reducible refine Calls.mono (KP.out _ _ _ _ _ _ ht hlb hk hp1 ((Pr.alloc _ _).trans hp2)) ?_);rintro e w3 ⟨rfl,hd⟩))
      go_end0
      exact ⟨rfl,hd⟩
    · have ec:((c:Int) != 0)=true:=by simp [bne_iff_ne];omega
      rw [if_pos hc] at hr
      have CD:Hid (∀ u,Pr w u→Calls Tryz.prog 30 #[.pointer (some ⟨M,0,none⟩),.int .i64 (c:Int)] u fun e w'=>e=.returned (.bool ((c:Int) != 0))∧DeskPost X base w M B vb vr (l ++ r.2) r.1 w'):=Lib.hid fun u hp=>by
        rw [hr]
        exact (code_any (h.pr hp) c (by omega) (by omega) (by omega)).mono fun e w' ⟨h1,h2⟩=>⟨h1,h2.pre hp⟩
      rw [ec] at CD
      have MG:=Lib.hid MG
      clear h hr hpath hfo hc12
      go_enter Tryz.func38,Tryz.ntmps38
      go_wp2_with (first
        | (go_at_call 70;(with_reducible refine Calls.mono MG.out ?_);rintro e w1 ⟨lb,ks,oa,cap,pa,pc,ht,hlb,rfl,hk,hi,hp1⟩)
        | (go_at_call 30;(with_reducible refine Calls.mono (CD.out _ (hp1.alloc' _)) ?_);rintro e w2 ⟨rfl,hd⟩))
      go_end0
      exact ⟨rfl,hd⟩
end
end Go.Proofs.YtdbnfhpgmcjngabGreatDoor
/- Walks: a desk's do, diff, blame. -/
namespace Go.Proofs.YtdbnfhpgmcjngabGreatDoor
open Go Go.RowKit
section
variable {X:Nat→Prop} {base:Nat} {w:World} {M B:Nat} {vb vr:Value} {l:List UInt8} {ts:List Tr}
theorem dfault_few (d:Dee):dfault d≤10:=by
  unfold dfault
  repeat' split
  all_goals omega
theorem doneT_few (d:Dee):∀ (p:List Int) (t:Tr),(doneT d p t).2≤9
  | [],t=>by
    rw [doneT];unfold leafT
    repeat' split
    all_goals simp
  | k :: p,t=>by
    rw [doneT];unfold leafT
    repeat' split
    any_goals simp
    exact doneT_few d p _
theorem bwith_code (ts:List Tr) (n:Int) (d:Dee):(bwithP ts n d).2≤10:=by
  unfold bwithP
  split
  · have h1:=fault_few (getT ts n)
    have h2:=dfault_few d
    have h3:=doneT_few d d.path (getT ts n)
    have h4:=fault_few (doneT d d.path (getT ts n)).1
    simp only []
    unfold doD
    repeat' split
    all_goals simp only []
    all_goals omega
  · decide
theorem chk_few (d:Dee):(chk d).2≤10∧((chk d).2≠0→(chk d).1=Dee.zero):=by
  have:=dfault_few d
  unfold chk
  split
  · exact ⟨this,fun _=>rfl⟩
  · exact ⟨by simp,fun h=>absurd rfl h⟩
theorem deedW_code (w:List (List UInt8)):(deedW w).2≤10∧((deedW w).2≠0→(deedW w).1=Dee.zero):=by
  unfold deedW
  repeat' split
  all_goals first | exact chk_few _ | exact ⟨by decide,fun _=>rfl⟩
theorem deed_code (s:List UInt8):(deedIn s).2≤10:=(deedW_code _).1
theorem deed_path (s:List UInt8) (hs:s.length≤100000):(deedIn s).1.path.length≤100000:=by
  by_cases hc:(deedIn s).2=0
  · obtain ⟨h1,h2⟩:=back_deed (s:=s) (d:=(deedIn s).1) (by rw [← hc])
    have:=(line_parts h1).1
    rw [h2] at this;omega
  · rw [show (deedIn s).1=Dee.zero from (deedW_code (cutC 32 s)).2 hc];exact Nat.zero_le _
set_option maxRecDepth 100000 in
set_option maxHeartbeats 6400000 in
theorem ddo_any (h:DeskOk X base w M B vb vr l ts) (n:Int) (s:ByteArray) (hs:s.size≤100000) (hl:l.length≤800000000) :
    Calls Tryz.prog 17 #[.pointer (some ⟨M,0,none⟩),.int .i64 n,.string s] w fun e w'=>e=.returned (.tuple #[])∧DeskPost X base w M B vb vr (l ++ (doP ts n s.data.toList).2) (doP ts n s.data.toList).1 w':=by
  have DD:=deed_any s (by omega) w h.tab
  unfold PDeedPost at DD
  have hc0:=deed_code s.data.toList
  have hpl:=deed_path s.data.toList (by rw [sizeL];exact hs)
  obtain ⟨r,hr⟩:∃ r,r=doP ts n s.data.toList:=⟨_,rfl⟩
  rw [← hr]
  unfold doP at hr
  generalize deedIn s.data.toList=R at *
  obtain ⟨⟨k,p,a,m,lab⟩,c⟩:=R
  simp only [] at DD hc0 hpl hr
  by_cases hc:c=0
  · subst hc
    rw [if_neg (by simp)] at hr
    have BW:Hid (∀ u pa pc,Pr w u→Ints (From w.heap.size) u p pa pc→lab.size≤1000000→Calls Tryz.prog 31 #[.pointer (some ⟨B,0,none⟩),.int .i64 n,.agg #[.int .i64 k,.slice pa p.length pc,.int .i64 a,.int .i64 m,.string lab]] u (WithPostF (bwithP ts n ⟨k,p,a,m,lab⟩) u)):=Lib.hid fun u pa pc hp hi hlab =>
      bwith_anyF B vb ts n k p a m lab pa pc u (h.pr hp).book (by unfold maxLen;omega) (Flat.any hi) hpl
    unfold WithPostF at BW
    have hc1:=bwith_code ts n ⟨k,p,a,m,lab⟩
    generalize bwithP ts n ⟨k,p,a,m,lab⟩=R at *
    obtain ⟨t,c⟩:=R
    simp only [] at BW hc1 hr
    have CZ:=Lib.hid fun u=>code_zero u M
    have BC:=stays h.bcell
    by_cases hc:c=0
    · subst hc
      rw [if_neg (by simp)] at hr
      have KP:Hid (∀ lb ks oa cap w1 w2 u,t=.node lb ks→lb.size≤maxLen→Kids (From w1.heap.size) w2 ks oa cap→Pr w w1→Pr w1 w2→Pr w2 u→Calls Tryz.prog 27 #[.pointer (some ⟨M,0,none⟩),.agg #[.string lb,.slice oa ks.length cap]] u fun e w'=>e=.returned (.tuple #[])∧DeskPost X base w M B vb vr (l ++ r.2) r.1 w'):=Lib.hid fun lb ks oa cap w1 w2 u ht hlb hk hp hp2 hq=>by
        rw [hr,ht]
        have hq2:=hp2.trans hq
        exact (keep_any (h.pr (hp.trans hq2)) lb ks oa cap hlb (DeskOk.kids (h.pr hp) (hk.pr hq)) (by omega)).mono fun e w' ⟨h1,h2⟩=>⟨h1,h2.pre (hp.trans hq2)⟩
      have DD:=Lib.hid DD
      clear h hr hpl hc0 hc1
      go_enter Tryz.func17,Tryz.ntmps17
      go_upto_region 2 with (first
        | (go_at_call 29;(with_reducible refine Calls.mono DD.out ?_);rintro e w1 ⟨pa,pc,rfl,hi,hlab,hp1⟩)
        | (go_at_call 30;(with_reducible refine Calls.mono (CZ.out _) ?_);rintro e w2 ⟨rfl,hp2⟩))
      have b5:=hp2.blk (heap_alloc_new w1 _)
      have hq:=(hp1.alloc' _).trans hp2
      have d0:=stays (blk_cell (o:=0) b5);have d1:=stays (blk_cell (o:=1) b5);have d2:=stays (blk_cell (o:=2) b5);have d3:=stays (blk_cell (o:=3) b5);have d4:=stays (blk_cell (o:=4) b5)
      have m0:=stays (BC _ hq)
      have BW2:=Lib.hid fun u (hp:Pr w2 u)=>BW.out u pa pc (hq.trans hp) (Flat.pr ((Pr.alloc _ _).trans (hp2.trans hp)) hi) hlab
      clear b5 BC
      go_region_held3 (fun W'=>Pr w2 W') (first | exact Pr.drew w2 | exact (Pr.drew w2).alloc' _ | exact hc | exact hc.alloc' _ | exact Pr.setCell (Pr.setCell (hc.alloc' _) (by have:=hc.size;omega) _) (by have:=hc.size;omega) _ | exact Pr.setCell (Pr.setCell hc (by simp) _) (by simp) _)
        (first
          | (go_at_call 31;(with_reducible refine Calls.mono (BW2.out _ (Pr.drew _)) ?_);rintro e w3 ⟨lb,ks,oa,cap,ht,hlb,rfl,hk,hp3⟩;have hc:=(Pr.drew w2).trans hp3)
          | (go_at_call 31;(with_reducible refine Calls.mono (BW2.out _ ((Pr.drew _).alloc' _)) ?_);rintro e w3 ⟨lb,ks,oa,cap,ht,hlb,rfl,hk,hp3⟩;have hc:=((Pr.drew w2).alloc' _).trans hp3;have b3:w3.heap[w2.heap.size]? = some (.cells #[.string ⟨#[]⟩,.slice none 0 0] 46 (0,0)):=hp3.blk (heap_alloc_new w2.drew _);have g0:=blk_cell (o:=0) b3;have g1:=blk_cell (o:=1) b3;have f0:=blk_frozen (o:=0) b3;have f1:=blk_frozen (o:=1) b3))
      · obtain ⟨V,hV⟩:∃ V,V=w3.alloc (.cells #[.string lb,.slice oa ks.length cap] 46):=⟨_,rfl⟩
        have hwV:Pr w2 V:=by rw [hV];exact hc.alloc' _
        have hkV:Kids (From w2.heap.size) V ks oa cap:=by rw [hV];exact hk.pr (Pr.alloc _ _)
        have x0:=stays (show V.cell? ⟨w3.heap.size,0,none⟩=some (.string lb) by rw [hV];simp [go_sem])
        have x1:=stays (show V.cell? ⟨w3.heap.size,1,none⟩=some (.slice oa ks.length cap) by rw [hV];simp [go_sem])
        rw [← hV]
        clear hV hk hc hp3 d0 d1 d2 d3 d4 m0
        go_wp2_with (first
          | (go_at_call 30;(with_reducible refine Calls.mono (CZ.out _) ?_);rintro e w4 ⟨rfl,hp4⟩;have z0:=x0 _ hp4;have z1:=x1 _ hp4)
          | (go_at_call 27;(with_reducible refine Calls.mono (KP.out _ _ _ _ _ _ _ ht hlb hkV hq hwV hp4) ?_);rintro e w5 ⟨rfl,hd⟩))
        go_end0
        exact ⟨rfl,hd⟩
      · obtain ⟨V,hV⟩:∃ V,V=(w3.setCell ⟨w2.heap.size,0,none⟩ (.string lb)).setCell ⟨w2.heap.size,1,none⟩ (.slice oa ks.length cap):=⟨_,rfl⟩
        have hwV:Pr w2 V:=by rw [hV];exact Pr.setCell (Pr.setCell hc (Nat.le_refl _) _) (Nat.le_refl _) _
        have hkV:Kids (From w2.heap.size) V ks oa cap:=by
          rw [hV]
          exact ((hk.setCell _ _ (by simp [From])).setCell _ _ (by simp [From])).from (by simp)
        have hbV:V.heap[w2.heap.size]? = some (.cells #[.string lb,.slice oa ks.length cap] 46 (0,0)):=by rw [hV];exact set2 _ _ b3
        have x0:=stays (blk_cell (o:=0) hbV)
        have x1:=stays (blk_cell (o:=1) hbV)
        rw [← hV]
        clear hV hk hc hp3 d0 d1 d2 d3 d4 m0 b3 g0 g1 f0 f1 hbV
        go_wp2_with (first
          | (go_at_call 30;(with_reducible refine Calls.mono (CZ.out _) ?_);rintro e w4 ⟨rfl,hp4⟩;have z0:=x0 _ hp4;have z1:=x1 _ hp4)
          | (go_at_call 27;(with_reducible refine Calls.mono (KP.out _ _ _ _ _ _ _ ht hlb hkV hq hwV hp4) ?_);rintro e w5 ⟨rfl,hd⟩))
        go_end0
        exact ⟨rfl,hd⟩
    · have ec:((c:Int) != 0)=true:=by simp [bne_iff_ne];omega
      rw [if_pos hc] at hr
      have CD:Hid (∀ u,Pr w u→Calls Tryz.prog 30 #[.pointer (some ⟨M,0,none⟩),.int .i64 (c:Int)] u fun e w'=>e=.returned (.bool ((c:Int) != 0))∧DeskPost X base w M B vb vr (l ++ r.2) r.1 w'):=Lib.hid fun u hp=>by
        rw [hr]
        exact (code_any (h.pr hp) c (by omega) (by omega) (by omega)).mono fun e w' ⟨h1,h2⟩=>⟨h1,h2.pre hp⟩
      rw [ec] at CD
      have DD:=Lib.hid DD
      clear h hr hpl hc0 hc1
      go_enter Tryz.func17,Tryz.ntmps17
      go_upto_region 2 with (first
        | (go_at_call 29;(with_reducible refine Calls.mono DD.out ?_);rintro e w1 ⟨pa,pc,rfl,hi,hlab,hp1⟩)
        | (go_at_call 30;(with_reducible refine Calls.mono (CZ.out _) ?_);rintro e w2 ⟨rfl,hp2⟩))
      have b5:=hp2.blk (heap_alloc_new w1 _)
      have hq:=(hp1.alloc' _).trans hp2
      have d0:=stays (blk_cell (o:=0) b5);have d1:=stays (blk_cell (o:=1) b5);have d2:=stays (blk_cell (o:=2) b5);have d3:=stays (blk_cell (o:=3) b5);have d4:=stays (blk_cell (o:=4) b5)
      have m0:=stays (BC _ hq)
      have BW2:=Lib.hid fun u (hp:Pr w2 u)=>BW.out u pa pc (hq.trans hp) (Flat.pr ((Pr.alloc _ _).trans (hp2.trans hp)) hi) hlab
      clear b5 BC
      go_region_held3 (fun W'=>Pr w2 W') (first | exact Pr.drew w2 | exact (Pr.drew w2).alloc' _ | exact hc | exact hc.alloc' _ | exact Pr.setCell (Pr.setCell (hc.alloc' _) (by have:=hc.size;omega) _) (by have:=hc.size;omega) _ | exact Pr.setCell (Pr.setCell hc (by simp) _) (by simp) _)
        (first
          | (go_at_call 31;(with_reducible refine Calls.mono (BW2.out _ (Pr.drew _)) ?_);rintro e w3 ⟨lb,ks,oa,cap,ht,hlb,rfl,hk,hp3⟩;have hc:=(Pr.drew w2).trans hp3)
          | (go_at_call 31;(with_reducible refine Calls.mono (BW2.out _ ((Pr.drew _).alloc' _)) ?_);rintro e w3 ⟨lb,ks,oa,cap,ht,hlb,rfl,hk,hp3⟩;have hc:=((Pr.drew w2).alloc' _).trans hp3;have b3:w3.heap[w2.heap.size]? = some (.cells #[.string ⟨#[]⟩,.slice none 0 0] 46 (0,0)):=hp3.blk (heap_alloc_new w2.drew _);have g0:=blk_cell (o:=0) b3;have g1:=blk_cell (o:=1) b3;have f0:=blk_frozen (o:=0) b3;have f1:=blk_frozen (o:=1) b3))
      · obtain ⟨V,hV⟩:∃ V,V=w3.alloc (.cells #[.string lb,.slice oa ks.length cap] 46):=⟨_,rfl⟩
        have hwV:Pr w2 V:=by rw [hV];exact hc.alloc' _
        have hkV:Kids (From w2.heap.size) V ks oa cap:=by rw [hV];exact hk.pr (Pr.alloc _ _)
        have x0:=stays (show V.cell? ⟨w3.heap.size,0,none⟩=some (.string lb) by rw [hV];simp [go_sem])
        have x1:=stays (show V.cell? ⟨w3.heap.size,1,none⟩=some (.slice oa ks.length cap) by rw [hV];simp [go_sem])
        rw [← hV]
        clear hV hk hc hp3 d0 d1 d2 d3 d4 m0
        go_wp2_with (go_at_call 30;(with_reducible refine Calls.mono (CD.out _ (hq.trans hwV)) ?_);rintro e w4 ⟨rfl,hd⟩)
        go_end0
        exact ⟨rfl,hd⟩
      · obtain ⟨V,hV⟩:∃ V,V=(w3.setCell ⟨w2.heap.size,0,none⟩ (.string lb)).setCell ⟨w2.heap.size,1,none⟩ (.slice oa ks.length cap):=⟨_,rfl⟩
        have hwV:Pr w2 V:=by rw [hV];exact Pr.setCell (Pr.setCell hc (Nat.le_refl _) _) (Nat.le_refl _) _
        have hkV:Kids (From w2.heap.size) V ks oa cap:=by
          rw [hV]
          exact ((hk.setCell _ _ (by simp [From])).setCell _ _ (by simp [From])).from (by simp)
        have hbV:V.heap[w2.heap.size]? = some (.cells #[.string lb,.slice oa ks.length cap] 46 (0,0)):=by rw [hV];exact set2 _ _ b3
        have x0:=stays (blk_cell (o:=0) hbV)
        have x1:=stays (blk_cell (o:=1) hbV)
        rw [← hV]
        clear hV hk hc hp3 d0 d1 d2 d3 d4 m0 b3 g0 g1 f0 f1 hbV
        go_wp2_with (go_at_call 30;(with_reducible refine Calls.mono (CD.out _ (hq.trans hwV)) ?_);rintro e w4 ⟨rfl,hd⟩)
        go_end0
        exact ⟨rfl,hd⟩
  · have ec:((c:Int) != 0)=true:=by simp [bne_iff_ne];omega
    rw [if_pos hc] at hr
    have CD:Hid (∀ u,Pr w u→Calls Tryz.prog 30 #[.pointer (some ⟨M,0,none⟩),.int .i64 (c:Int)] u fun e w'=>e=.returned (.bool ((c:Int) != 0))∧DeskPost X base w M B vb vr (l ++ r.2) r.1 w'):=Lib.hid fun u hp=>by
      rw [hr]
      exact (code_any (h.pr hp) c (by omega) (by omega) (by omega)).mono fun e w' ⟨h1,h2⟩=>⟨h1,h2.pre hp⟩
    rw [ec] at CD
    have DD:=Lib.hid DD
    clear h hr hpl hc0
    go_enter Tryz.func17,Tryz.ntmps17
    go_wp2_with (first
      | (go_at_call 29;(with_reducible refine Calls.mono DD.out ?_);rintro e w1 ⟨pa,pc,rfl,hi,hlab,hp1⟩)
      | (go_at_call 30;(with_reducible refine Calls.mono (CD.out _ (hp1.alloc' _)) ?_);rintro e w2 ⟨rfl,hd⟩))
    refine bodyPost_ret (results_none rfl _ _ _) rfl ?_
    exact ⟨rfl,hd⟩
end
end Go.Proofs.YtdbnfhpgmcjngabGreatDoor
/- Walks: a desk's diff, blame. -/
namespace Go.Proofs.YtdbnfhpgmcjngabGreatDoor
open Go Go.RowKit
section
variable {X:Nat→Prop} {base:Nat} {w:World} {M B:Nat} {vb vr:Value} {l:List UInt8} {ts:List Tr}
set_option maxRecDepth 100000 in
set_option maxHeartbeats 6400000 in
theorem ddiff_any (h:DeskOk X base w M B vb vr l ts) (m n:Int) (hl:l.length≤700000000) :
    Calls Tryz.prog 35 #[.pointer (some ⟨M,0,none⟩),.int .i64 m,.int .i64 n] w fun e w'=>e=.returned (.tuple #[])∧DeskPost X base w M B vb vr (l ++ diffDP ts m n) ts w':=by
  have BC:=stays h.bcell
  have G1:=get_any B vb ts m w h.book
  have G2:∀ u,Pr w u→Calls Tryz.prog 59 #[.pointer (some ⟨B,0,none⟩),.int .i64 n] u (GetPost ts n u):=fun u hp=>get_any B vb ts n u (h.pr hp).book
  unfold GetPost at G1 G2
  have hg1:=getT_fault h.book.flt (n:=m)
  have hg2:=getT_fault h.book.flt (n:=n)
  obtain ⟨r,hr⟩:∃ r,r=diffDP ts m n:=⟨_,rfl⟩
  rw [← hr]
  unfold diffDP at hr
  generalize getT ts m=a at *
  generalize getT ts n=b at *
  generalize hasT ts m=ba at *
  generalize hasT ts n=bb at *
  cases hb:(ba && bb)
  case false =>
    rw [hb] at hr
    have CD:Hid (∀ u,Pr w u→Calls Tryz.prog 30 #[.pointer (some ⟨M,0,none⟩),.int .i64 7] u fun e w'=>e=.returned (.bool true)∧DeskPost X base w M B vb vr (l ++ r) ts w'):=Lib.hid fun u hp=>by
      rw [hr]
      exact (code_any (h.pr hp) 7 (by decide) (by decide) (by omega)).mono fun e w' ⟨h1,h2⟩=>⟨h1,h2.pre hp⟩
    have G1:=Lib.hid G1;have G2:=Lib.hid G2
    have m0:=BC _ (Pr.refl w)
    clear h hr hg1 hg2
    have hcs:ba=false∨(ba=true∧bb=false):=by cases ba <;> cases bb <;> simp at hb ⊢
    rcases hcs with rfl | ⟨rfl,rfl⟩
    all_goals
      go_enter Tryz.func35,Tryz.ntmps35
      go_wp2_with (first
        | (go_at_call 59;(with_reducible refine Calls.mono G1.out ?_);rintro e w1 ⟨l1,k1,o1,c1,ha1,hl1,rfl,hk1,hp1⟩;have m1:=BC _ (hp1.alloc' (.cells #[.string l1,.slice o1 k1.length c1] 46)))
        | (go_at_call 59;(with_reducible refine Calls.mono (G2.out _ (hp1.alloc' _)) ?_);rintro e w2 ⟨l2,k2,o2,c2,ha2,hl2,rfl,hk2,hp2⟩)
        | (go_at_call 30;(with_reducible refine Calls.mono (CD.out _ (((hp1.alloc' _).trans hp2).alloc' _)) ?_);rintro e w3 ⟨rfl,hd⟩))
      refine bodyPost_ret (results_none rfl _ _ _) rfl ?_
      exact ⟨rfl,hd⟩
  case true =>
    rw [hb,if_pos rfl] at hr
    simp only [Bool.and_eq_true] at hb
    obtain ⟨rfl,rfl⟩:=hb
    have fa:=hg1 rfl;have fb:=hg2 rfl
    have hc80:=cost_few fa fb
    obtain ⟨hdf,hdn⟩:=diff_few fa fb
    obtain ⟨ds,hds⟩:∃ ds,ds=diffP a b (bestT a b):=⟨_,rfl⟩
    obtain ⟨cs,hcs⟩:∃ cs,cs=costT a b:=⟨_,rfl⟩
    rw [← hds] at hdf hr
    rw [← hcs] at hc80 hr
    have hnb:=itoa_few (cs:Int) (by omega) (by omega)
    obtain ⟨nb,hnb2⟩:∃ b:ByteArray,b=⟨⟨Lib.itoa (cs:Int)⟩⟩:=⟨_,rfl⟩
    rw [← hnb2] at hnb
    have NM:Hid (∀ u,Pr w u→Calls Tryz.prog 26 #[.int .i64 (cs:Int)] u fun e w'=>e=.returned (.string nb)∧Pr u w'):=Lib.hid fun u hp=>by
      rw [hnb2];exact dnum_any _ (by omega) (by omega) u (h.tab.pr hp)
    have SY:Hid (∀ u,Pr w u→Calls Tryz.prog 22 #[.pointer (some ⟨M,0,none⟩),.slice (some ⟨u.heap.size,0,none⟩) 2 2] (u.alloc (.cells #[.string ⟨#[99,111,115,116]⟩,.string nb] 9)) fun e w'=>e=.returned (.tuple #[])∧DeskPost X base u M B vb vr (l ++ sayP [wCost,Lib.itoa (cs:Int)]) ts w'):=Lib.hid fun u hp=>by
      have:=say_two (h.pr hp) ⟨#[99,111,115,116]⟩ nb (by show 4+nb.size≤_;omega) (by omega)
      refine this.mono fun e w' ⟨h1,h2⟩=>⟨h1,?_⟩
      rw [hnb2] at h2;exact h2
    have DE:Hid (∀ u u' oa cap,Pr w u→DeskPost X base u M B vb vr (l ++ sayP [wCost,Lib.itoa (cs:Int)]) ts u'→Dees (From w.heap.size) u ds oa cap→Calls Tryz.prog 67 #[.pointer (some ⟨M,0,none⟩),.slice oa ds.length cap] u' fun e w'=>e=.returned (.tuple #[])∧DeskPost X base w M B vb vr (l ++ r) ts w'):=Lib.hid fun u u' oa cap hp hd hk=>by
      have hk':Dees Any u' ds oa cap:=hk.carry fun k hS hl=>⟨hd.blks h hp hS hl,trivial⟩
      have hlen:=lines_short hdf
      have hi:=Lib.itoa_length_le (cs:Int) (by omega) (by omega)
      refine (hd.pre hp).call fun vb' vr' hd'=>?_
      have:=ddeeds_any hd' ds oa cap hk' (few_deeds hdf) (by omega) (by simp only [List.length_append,sayP,joinC,wCost,List.length_cons,List.length_nil];omega)
      rw [hr,← List.append_assoc]
      exact this
    have G1:=Lib.hid G1;have G2:=Lib.hid G2
    have m0:=BC _ (Pr.refl w)
    clear h hr hg1 hg2 hnb2 hdf hdn hc80
    go_enter Tryz.func35,Tryz.ntmps35
    go_upto_region 4 with (first
      | (go_at_call 59;(with_reducible refine Calls.mono G1.out ?_);rintro e w1 ⟨l1,k1,o1,c1,ha1,hl1,rfl,hk1,hp1⟩;have m1:=BC _ (hp1.alloc' (.cells #[.string l1,.slice o1 k1.length c1] 46)))
      | (go_at_call 59;(with_reducible refine Calls.mono (G2.out _ (hp1.alloc' _)) ?_);rintro e w2 ⟨l2,k2,o2,c2,ha2,hl2,rfl,hk2,hp2⟩))
    subst ha1
    subst ha2
    obtain ⟨V,hV⟩:∃ V,V=w2.alloc (.cells #[.string l2,.slice o2 k2.length c2] 46):=⟨_,rfl⟩
    have hq2:Pr w1 V:=by rw [hV];exact (((Pr.alloc _ _).trans hp2).alloc' _)
    have hq:=hp1.trans hq2
    have b1:=hp2.blk (heap_alloc_new w1 _)
    have x0:=stays (show V.cell? ⟨w1.heap.size,0,none⟩=some (.string l1) by rw [hV];exact (Pr.alloc _ _).cell (blk_cell (o:=0) b1))
    have x1:=stays (show V.cell? ⟨w1.heap.size,1,none⟩=some (.slice o1 k1.length c1) by rw [hV];exact (Pr.alloc _ _).cell (blk_cell (o:=1) b1))
    have y0:=stays (show V.cell? ⟨w2.heap.size,0,none⟩=some (.string l2) by rw [hV];simp [go_sem])
    have y1:=stays (show V.cell? ⟨w2.heap.size,1,none⟩=some (.slice o2 k2.length c2) by rw [hV];simp [go_sem])
    have hk1:=hk1.any.pr hq2
    have hk2:=hk2.any.pr (show Pr w2 V by rw [hV];exact Pr.alloc _ _)
    have D1:Hid (Calls Tryz.prog 64 #[.agg #[.string l1,.slice o1 k1.length c1],.agg #[.string l2,.slice o2 k2.length c2]] V fun e w'=>∃ oa cap,e=.returned (.tuple #[.slice oa ds.length cap,.int .i64 0])∧Dees (From V.heap.size) w' ds oa cap∧Pr V w'):=Lib.hid (by
      have:=diff_yes l1 k1 o1 c1 l2 k2 o2 c2 V hl1 hk1 hl2 hk2 fa fb
      unfold DiffPost at this
      rw [← hds] at this
      exact this)
    have O1:=Lib.hid fun u (hp:Pr V u)=>distOf_yes l1 k1 o1 c1 l2 k2 o2 c2 u hl1 (hk1.pr hp) hl2 (hk2.pr hp) fa fb
    have CO:Hid (∀ u Bt,TblOk u Bt (nds (.node l1 k1)) (nds (.node l2 k2))→Calls Tryz.prog 66 #[.pointer (some ⟨Bt,0,none⟩)] u fun e w'=>e=.returned (.int .i64 (cs:Int))∧Pr u w'):=Lib.hid fun u Bt ht=>by
      rw [hcs];exact cost_nds _ _ Bt u ht fa fb
    rw [← hV]
    have x0':=x0 _ (Pr.refl V);have x1':=x1 _ (Pr.refl V);have y0':=y0 _ (Pr.refl V);have y1':=y1 _ (Pr.refl V)
    have hs2:=hq.size
    clear hV m0 m1 b1 hk1 hk2 fa fb hds hcs G1 G2 BC hp1 hp2 hq2
    go_wp2_with (first
      | (go_at_call 64;(with_reducible refine Calls.mono D1.out ?_);rintro e w3 ⟨oD,cD,rfl,hD,hp3⟩;have x0'':=x0 _ hp3;have x1'':=x1 _ hp3;have y0'':=y0 _ hp3;have y1'':=y1 _ hp3)
      | (go_at_call 65;(with_reducible refine Calls.mono (O1.out _ hp3) ?_);rintro e w4 ⟨Bt,rfl,hT,hp4⟩)
      | (go_at_call 66;(with_reducible refine Calls.mono (CO.out _ _ hT) ?_);rintro e w5 ⟨rfl,hp5⟩;have hq5:=hq.trans (hp3.trans (hp4.trans hp5)))
      | (go_at_call 26;(with_reducible refine Calls.mono (NM.out _ hq5) ?_);rintro e w6 ⟨rfl,hp6⟩;have hD6:=Dees.mono (S':=From w.heap.size) (fun k (hk:V.heap.size≤k) _=>show w.heap.size≤k by omega) (hD.pr (hp4.trans (hp5.trans hp6))))
      | (go_at_call 22;(with_reducible refine Calls.mono (SY.out _ (hq5.trans hp6)) ?_);rintro e w7 ⟨rfl,hd7⟩)
      | (go_at_call 67;(with_reducible refine Calls.mono (DE.out _ _ _ _ (hq5.trans hp6) hd7 hD6) ?_);rintro e w8 ⟨rfl,hd⟩))
    go_end0
    exact ⟨rfl,hd⟩
end
end Go.Proofs.YtdbnfhpgmcjngabGreatDoor
