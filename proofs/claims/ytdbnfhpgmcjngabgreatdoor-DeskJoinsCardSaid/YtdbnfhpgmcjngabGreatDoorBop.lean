/- What comes in is read: trees, ints. -/
import Derived.Test.YtdbnfhpgmcjngabGreatDoorBmt
import Derived.ProofKit
import Derived.Deep.Slices
import Derived.Test.YtdbnfhpgmcjngabGreatDoorShb
import Derived.SizedLaws
namespace Go.Proofs.YtdbnfhpgmcjngabGreatDoor
open Go Go.RowKit Go.ChangeShapes Go.WideShapes Go.ChangeAt
theorem cells_str:Tryz.prog.cellsOf 9=1:=by kernel_rfl
theorem under_str:Tryz.prog.underlying 9=some .string:=by kernel_rfl
instance:Inhabited Tr:=⟨Tr.zero⟩
section
variable {H:Type} {enc:TypeId × Value→H} {w:World} {spare:Nat→Bool} {held:Bool}
theorem under_int:Tryz.prog.underlying 3=some (.int .i64):=by kernel_rfl
end
end Go.Proofs.YtdbnfhpgmcjngabGreatDoor
/- What comes in is read: slices of rows; nodes. -/
namespace Go.Proofs.YtdbnfhpgmcjngabGreatDoor
open Go Go.RowKit Go.ChangeShapes Go.WideShapes Go.ChangeAt
theorem mapM_some {α β:Type} {f:α→Option β}:∀ {l:List α} {cs:List β},l.mapM f=some cs→cs.length=l.length∧∀ j (h:j < l.length),f l[j]=cs[j]?
  | [],cs,h=>by simp at h;subst h;simp
  | a :: l,cs,h=>by
    simp only [List.mapM_cons,Option.bind_eq_bind,Option.bind_eq_some_iff,Option.pure_def,Option.some.injEq] at h
    obtain ⟨b,hb,bs,hbs,rfl⟩:=h
    obtain ⟨h1,h2⟩:=mapM_some hbs
    refine ⟨by simp [h1],fun j hj=>?_⟩
    cases j with
    | zero=>simpa using hb
    | succ j=>simpa using h2 j (by simpa using hj)
section
variable {H:Type} {enc:TypeId × Value→H} {w:World} {spare:Nat→Bool} {held:Bool}
theorem cells_at {base:Nat} {a:Addr} {n:Nat} {cs:List Value} (h:w.cells? base a n=some cs):cs.length=n∧∀ j,j < n→a.spot=none∧w.cell? ⟨a.block,a.off+j,none⟩=cs[j]? := by
  unfold World.cells? at h
  split at h
  · obtain ⟨h1,h2⟩:=mapM_some h
    rw [List.length_range] at h1
    refine ⟨h1,fun j hj=>?_⟩
    have h3:=h2 j (by simpa using hj)
    have h0:=h2 0 (by simp;omega)
    simp only [List.getElem_range] at h3 h0
    have hs:a.spot=none:=by
      cases hs:a.spot with
      | none=>rfl
      | some s =>
        have:cs[0]? = some (cs[0]'(by omega)):=List.getElem?_eq_getElem (by omega)
        rw [this] at h0
        have e:a.add 0=a:=by simp [Addr.add]
        rw [e] at h0
        unfold World.cell? at h0;split at h0 <;> simp_all
    refine ⟨hs,?_⟩
    have e:a.add j=⟨a.block,a.off+j,none⟩:=by
      unfold Addr.add;split
      · cases a;simp_all
      · rfl
    rw [← e];exact h3
  · cases h
instance:Inhabited Nd:=⟨⟨⟨#[]⟩,0,0⟩⟩
end
end Go.Proofs.YtdbnfhpgmcjngabGreatDoor
/- What comes in is read: texts, none of which is too long. -/
namespace Go.Proofs.YtdbnfhpgmcjngabGreatDoor
open Go Go.RowKit Go.ChangeShapes Go.WideShapes Go.ChangeAt
section
variable {H:Type} {enc:TypeId × Value→H} {w:World} {spare:Nat→Bool} {held:Bool}
theorem under_strs:Tryz.prog.underlying 22=some (.slice 9):=by kernel_rfl
theorem weights_in {P:Program} {e:TypeId} {d:DataW H}:∀ {l:List (DataW H)},d∈l→∀ n∈d.weights P e,n∈DataW.weightsAll P e l
  | x :: l,h,n,hn=>by
    simp only [DataW.weightsAll,List.mem_append]
    rcases List.mem_cons.1 h with rfl | h
    · exact .inl hn
    · exact .inr (weights_in h n hn)
set_option maxRecDepth 100000 in
theorem read_strs (fuel:Nat) (cs:List Value) (x) (h:DataW.trod enc Tryz.prog w 0 spare held fuel 22 cs=some x) (hz:∀ n∈x.1.weights Tryz.prog 22,n≤reachBytes):∃ (xs:List (List UInt8)) (oa:Option Addr) (cap:Nat),cs=[.slice oa xs.length cap]∧Strs Any w xs oa cap∧∀ y∈xs,y.length≤281474976710656:=by
  rcases DataW.trod_slice under_strs h with ⟨rfl,_⟩ | ⟨a,len,cap,elems,rest,n,rfl,rfl,rfl,_,hl,hm,hlen,hel,_⟩
  · exact ⟨[],none,0,rfl,Flat.nil _ _ _ _ (Nat.zero_le _),by simp⟩
  · rw [cells_str] at hel
    have key:∀ i,i < len→∃ y:List UInt8,(i=0→a.spot=none)∧y.length≤281474976710656∧w.cell? ⟨a.block,a.off+i,none⟩=some (.string ⟨⟨y⟩⟩):=by
      intro i hi
      have h1:=hel i hi
      have hi':i < elems.length:=by omega
      rw [List.getElem?_eq_getElem hi'] at h1
      obtain ⟨ys,h2,h3⟩:=Option.bind_eq_some_iff.1 h1
      obtain ⟨s,e,hx,_⟩:=DataW.trod_string under_str h3
      obtain ⟨c1,c2⟩:=cells_at h2
      have hs:=(c2 0 (by decide)).1
      refine ⟨s.data.toList,fun e=>by subst e;simpa [Addr.add] using hs,?_,?_⟩
      · have hw:=hz s.data.toList.length (by
          simp only [DataW.weights,under_strs]
          refine List.mem_cons_of_mem _ (List.mem_append_left _ (weights_in (d:=elems[i].1) (List.mem_map_of_mem (List.getElem_mem hi')) _ ?_))
          rw [hx];simp [DataW.weights])
        exact Nat.le_trans hw (by decide)
      · have:=(c2 0 (by decide)).2
        rw [e] at this
        unfold Addr.add at hs this
        simp only [Nat.mul_one,Nat.add_zero,List.getElem?_cons_zero] at this
        split at this <;> simp_all
    obtain ⟨f,hf⟩:=Go.Deep.choose_lt key
    refine ⟨(List.range len).map f,some a,cap,by simp,⟨by simpa using ⟨hl,hm⟩,a.block,a.off,fun hn=>?_,fun i hi=>?_⟩,fun y hy=>?_⟩
    · have h0:0 < len:=by have:=List.length_pos_iff.2 hn;simpa using this
      obtain ⟨hs,_⟩:=hf 0 h0
      refine ⟨?_,trivial⟩
      cases a;simp at hs;simp [hs]
    · have hi':i < len:=by simpa using hi
      have:=(hf i hi').2.2
      simpa using this
    · obtain ⟨i,hi,rfl⟩:=List.mem_map.1 hy
      exact (hf i (List.mem_range.1 hi)).2.1
set_option maxRecDepth 100000 in
theorem open_strs {r:Reach} {b0:Nat} {v:Value} {d:DataW H} {p:List MemPlace} (hv:Value.okWide Tryz.prog w r b0 22 v) (h:DataW.Trod enc Tryz.prog w 0 spare held 22 v d p) (hz:∀ n∈d.weights Tryz.prog 22,n≤reachBytes) :
    ∃ (xs:List (List UInt8)) (oa:Option Addr) (cap:Nat),v=.slice oa xs.length cap∧Strs Any w xs oa cap∧∀ y∈xs,y.length≤281474976710656:=by
  obtain ⟨a0,l0,c0,rfl⟩:=okWide_slice under_strs hv
  obtain ⟨fuel,h⟩:=h
  obtain ⟨xs,oa,cap,e,hk,hz⟩:=read_strs fuel _ _ h hz
  simp [Value.cells] at e
  obtain ⟨rfl,rfl,rfl⟩:=e
  exact ⟨xs,a0,c0,rfl,hk,hz⟩
theorem sized_strs {ts:List TypeId} {ds:List (DataW H)} (h:(DataW.weightsEach Tryz.prog ts ds).all (·≤reachBytes)=true) {j:Nat} {t:TypeId} {d:DataW H} (ht:ts[j]? = some t) (hd:ds[j]? = some d):∀ n∈d.weights Tryz.prog t,n≤reachBytes:=fun n hn=>by
  have:=List.all_eq_true.1 h _ (DataW.weights_mem_each ht hd n hn)
  simpa using this
end
end Go.Proofs.YtdbnfhpgmcjngabGreatDoor
