/- What comes in is read: trees, ints. -/
import Derived.Test.YtdbnfhpgmcjngadGreatDoorBmt
import Derived.ProofKit
import Derived.Deep.Slices
namespace Go.Proofs.YtdbnfhpgmcjngadGreatDoor
open Go Go.RowKit Go.ChangeShapes Go.WideShapes Go.ChangeAt
theorem tree_fields:(match Tryz.prog.underlying 33 with | some (.struct fs)=>fs.toList.map fun f=>(f.type,f.offset) | _=>[])=[(9,0),(22,1)]:=by kernel_rfl
set_option maxRecDepth 100000 in
theorem under_tree:∃ f0 f1:Field,Tryz.prog.underlying 33=some (.struct #[f0,f1])∧f0.type=9∧f1.type=22∧f0.offset=0∧f1.offset=1:=by
  have h:=tree_fields
  split at h
  · rename_i fs hu
    obtain ⟨l⟩:=fs
    match l,h with
    | [f0,f1],h =>
      simp at h
      exact ⟨f0,f1,hu,h.1.1,h.2.1,h.1.2,h.2.2⟩
  · cases h
theorem cells_tree:Tryz.prog.cellsOf 33=2:=by kernel_rfl
theorem cells_str:Tryz.prog.cellsOf 9=1:=by kernel_rfl
theorem cells_trees:Tryz.prog.cellsOf 22=1:=by kernel_rfl
theorem under_str:Tryz.prog.underlying 9=some .string:=by kernel_rfl
instance:Inhabited Tr:=⟨Tr.zero⟩
section
variable {H:Type} {enc:TypeId × Value→H} {w:World} {spare:Nat→Bool} {held:Bool}
theorem two_cells {base:Nat} {a:Addr} {cs:List Value} (h:w.cells? base a 2=some cs):a.spot=none∧∃ v0 v1,cs=[v0,v1]∧w.cell? ⟨a.block,a.off,none⟩=some v0∧w.cell? ⟨a.block,a.off+1,none⟩=some v1:=by
  unfold World.cells? at h
  split at h
  · cases h0:w.cell? (a.add 0) with
    | none=>simp [List.range_succ,h0] at h
    | some v0 =>
      cases h1:w.cell? (a.add 1) with
      | none=>simp [List.range_succ,h0,h1] at h
      | some v1 =>
        simp [List.range_succ,h0,h1] at h
        subst h
        have hs:a.spot=none:=by
          cases hs:a.spot with
          | none=>rfl
          | some s=>simp [World.cell?,Addr.add,hs] at h0;split at h0 <;> simp_all
        refine ⟨hs,v0,v1,rfl,?_,?_⟩
        · have e:a.add 0=⟨a.block,a.off,none⟩:=by cases a;simp [Addr.add] at *;exact hs
          rw [← e];exact h0
        · have e:a.add 1=⟨a.block,a.off+1,none⟩:=by simp [Addr.add]
          rw [← e];exact h1
  · cases h
set_option maxRecDepth 100000 in
theorem read_both (N:Nat):(∀ (fuel:Nat) (cs:List Value) x,fuel≤N→DataW.trod enc Tryz.prog w 0 spare held fuel 22 cs=some x→∃ ks oa cap,cs=[.slice oa (List.length ks) cap]∧Kids Any w ks oa cap) ∧
    (∀ (fuel:Nat) (cs:List Value) x,fuel≤N→DataW.trod enc Tryz.prog w 0 spare held fuel 33 cs=some x→∃ t vl vk,cs=[vl,vk]∧TreeV Any w t vl vk):=by
  induction N with
  | zero =>
    refine ⟨fun fuel cs x h0 h=>?_,fun fuel cs x h0 h=>?_⟩ <;>
    · have:fuel=0:=by omega
      subst this;simp [DataW.trod] at h
  | succ N ih =>
    obtain ⟨ih1,ih2⟩:=ih
    refine ⟨fun fuel cs x h0 h=>?_,fun fuel cs x h0 h=>?_⟩
    · rcases DataW.trod_slice under_trees h with ⟨rfl,_⟩ | ⟨a,len,cap,elems,rest,n,rfl,rfl,_,_,hl,hm,hlen,hel,_⟩
      · exact ⟨[],none,0,rfl,Kids.nil _ _ _ _ (Nat.zero_le _)⟩
      · rw [cells_tree] at hel
        have key:∀ i,i < len→∃ t:Tr,∃ vl vk,(i=0→a.spot=none)∧w.cell? ⟨a.block,a.off+i * 2,none⟩=some vl∧w.cell? ⟨a.block,a.off+i * 2+1,none⟩=some vk∧TreeV Any w t vl vk:=by
          intro i hi
          have h1:=hel i hi
          rw [List.getElem?_eq_getElem (by omega)] at h1
          obtain ⟨cs',h2,h3⟩:=Option.bind_eq_some_iff.1 h1
          obtain ⟨hs,v0,v1,rfl,c0,c1⟩:=two_cells h2
          obtain ⟨t,vl,vk,e,ht⟩:=ih2 n _ _ (by omega) h3
          simp at e
          obtain ⟨rfl,rfl⟩:=e
          refine ⟨t,v0,v1,?_,?_,?_,ht⟩
          · intro e;subst e;simpa [Addr.add] using hs
          · rw [← c0];unfold Addr.add;split <;> simp_all
          · rw [← c1];unfold Addr.add;split <;> simp_all
        obtain ⟨f,hf⟩:=Go.Deep.choose_lt key
        refine ⟨(List.range len).map f,some a,cap,by simp,⟨by simpa using hl,hm⟩,a.block,a.off,fun hn=>?_,KidsAt.mk fun i hi=>?_⟩
        · have h0:0 < len:=by have:=List.length_pos_iff.2 hn;simpa using this
          obtain ⟨vl,vk,hs,_⟩:=hf 0 h0
          refine ⟨?_,trivial⟩
          cases a;simp at hs;simp [hs]
        · obtain ⟨vl,vk,_,c0,c1,ht⟩:=hf i (by simpa using hi)
          exact ⟨vl,vk,c0,c1,by simpa using ht⟩
    · obtain ⟨f0,f1,hu,t0,t1,o0,o1⟩:=under_tree
      obtain ⟨xs,n,rfl,_,hcl,hxl,hf⟩:=DataW.trod_struct hu h
      rw [cells_tree] at hcl
      match cs,hcl with
      | [vl,vk],_ =>
        have g0:=hf 0 f0 rfl
        have g1:=hf 1 f1 rfl
        rw [t0,o0,cells_str,List.getElem?_eq_getElem (by rw [hxl];simp)] at g0
        rw [t1,o1,cells_trees,List.getElem?_eq_getElem (by rw [hxl];simp)] at g1
        obtain ⟨s,e0,_,hs⟩:=DataW.trod_string under_str g0
        obtain ⟨ks,oa,cap,e1,hk⟩:=ih1 n _ _ (by omega) g1
        simp at e0 e1
        subst e0;subst e1
        exact ⟨.node s ks,_,_,rfl,treeV_mk cap hs hk⟩
end
end Go.Proofs.YtdbnfhpgmcjngadGreatDoor
/- What comes in is read: trees. -/
namespace Go.Proofs.YtdbnfhpgmcjngadGreatDoor
open Go Go.RowKit Go.ChangeShapes Go.WideShapes Go.ChangeAt
section
variable {H:Type} {enc:TypeId × Value→H} {w:World} {spare:Nat→Bool} {held:Bool}
set_option maxRecDepth 100000 in
theorem open_trees {r:Reach} {b0:Nat} {v:Value} {d:DataW H} {p:List MemPlace} (hv:Value.okWide Tryz.prog w r b0 22 v) (h:DataW.Trod enc Tryz.prog w 0 spare held 22 v d p) :
    ∃ (ts:List Tr) (oa:Option Addr) (cap:Nat),v=.slice oa ts.length cap∧Kids Any w ts oa cap∧True:=by
  obtain ⟨a0,l0,c0,rfl⟩:=okWide_slice under_trees hv
  obtain ⟨fuel,h⟩:=h
  obtain ⟨ks,oa,cap,e,hk⟩:=(read_both fuel).1 fuel _ _ (Nat.le_refl _) h
  simp [Value.cells] at e
  obtain ⟨rfl,rfl,rfl⟩:=e
  exact ⟨ks,a0,c0,rfl,hk,trivial⟩
end
end Go.Proofs.YtdbnfhpgmcjngadGreatDoor
