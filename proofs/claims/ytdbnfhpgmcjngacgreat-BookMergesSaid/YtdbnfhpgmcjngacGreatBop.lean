/- What comes in is read: trees, ints. -/
import Derived.Test.YtdbnfhpgmcjngacGreatBmt
import Derived.ProofKit
import Derived.Deep.Slices
import Derived.Test.YtdbnfhpgmcjngacGreatBpl
namespace Go.Proofs.YtdbnfhpgmcjngacGreat
open Go Go.RowKit Go.ChangeShapes Go.WideShapes Go.ChangeAt
theorem tree_fields:(match Tryz.prog.underlying 34 with | some (.struct fs)=>fs.toList.map fun f=>(f.type,f.offset) | _=>[])=[(9,0),(22,1)]:=by kernel_rfl
set_option maxRecDepth 100000 in
theorem under_tree:∃ f0 f1:Field,Tryz.prog.underlying 34=some (.struct #[f0,f1])∧f0.type=9∧f1.type=22∧f0.offset=0∧f1.offset=1:=by
  have h:=tree_fields
  split at h
  · rename_i fs hu
    obtain ⟨l⟩:=fs
    match l,h with
    | [f0,f1],h =>
      simp at h
      exact ⟨f0,f1,hu,h.1.1,h.2.1,h.1.2,h.2.2⟩
  · cases h
theorem cells_tree:Tryz.prog.cellsOf 34=2:=by kernel_rfl
theorem cells_str:Tryz.prog.cellsOf 9=1:=by kernel_rfl
theorem cells_trees:Tryz.prog.cellsOf 22=1:=by kernel_rfl
theorem under_str:Tryz.prog.underlying 9=some .string:=by kernel_rfl
instance:Inhabited Tr:=⟨Tr.zero⟩
section
variable {H:Type} {enc:TypeId × Value→H} {w:World} {spare:Nat→Bool} {held:Bool}
theorem two_cells {base:Nat} {a:Addr} {cs:List Value} (h:w.cells? base a 2=some cs):a.spot=none∧∃ v0 v1,cs=[v0,v1]∧w.cell? ⟨a.block,a.off,none⟩=some v0∧w.cell? ⟨a.block,a.off+1,none⟩=some v1:=by
  unfold World.cells? at h
  split at h
  · cases h0:w.cell? (a.add 0) with
    | none=>simp [List.range_succ,h0] at h
    | some v0 =>
      cases h1:w.cell? (a.add 1) with
      | none=>simp [List.range_succ,h0,h1] at h
      | some v1 =>
        simp [List.range_succ,h0,h1] at h
        subst h
        have hs:a.spot=none:=by
          cases hs:a.spot with
          | none=>rfl
          | some s=>simp [World.cell?,Addr.add,hs] at h0;split at h0 <;> simp_all
        refine ⟨hs,v0,v1,rfl,?_,?_⟩
        · have e:a.add 0=⟨a.block,a.off,none⟩:=by cases a;simp [Addr.add] at *;exact hs
          rw [← e];exact h0
        · have e:a.add 1=⟨a.block,a.off+1,none⟩:=by simp [Addr.add]
          rw [← e];exact h1
  · cases h
set_option maxRecDepth 100000 in
theorem read_both (N:Nat):(∀ (fuel:Nat) (cs:List Value) x,fuel≤N→DataW.trod enc Tryz.prog w 0 spare held fuel 22 cs=some x→∃ ks oa cap,cs=[.slice oa (List.length ks) cap]∧Kids Any w ks oa cap) ∧
    (∀ (fuel:Nat) (cs:List Value) x,fuel≤N→DataW.trod enc Tryz.prog w 0 spare held fuel 34 cs=some x→∃ t vl vk,cs=[vl,vk]∧TreeV Any w t vl vk):=by
  induction N with
  | zero =>
    refine ⟨fun fuel cs x h0 h=>?_,fun fuel cs x h0 h=>?_⟩ <;>
    · have:fuel=0:=by omega
      subst this;simp [DataW.trod] at h
  | succ N ih =>
    obtain ⟨ih1,ih2⟩:=ih
    refine ⟨fun fuel cs x h0 h=>?_,fun fuel cs x h0 h=>?_⟩
    · rcases DataW.trod_slice under_trees h with ⟨rfl,_⟩ | ⟨a,len,cap,elems,rest,n,rfl,rfl,_,_,hl,hm,hlen,hel,_⟩
      · exact ⟨[],none,0,rfl,Kids.nil _ _ _ _ (Nat.zero_le _)⟩
      · rw [cells_tree] at hel
        have key:∀ i,i < len→∃ t:Tr,∃ vl vk,(i=0→a.spot=none)∧w.cell? ⟨a.block,a.off+i * 2,none⟩=some vl∧w.cell? ⟨a.block,a.off+i * 2+1,none⟩=some vk∧TreeV Any w t vl vk:=by
          intro i hi
          have h1:=hel i hi
          rw [List.getElem?_eq_getElem (by omega)] at h1
          obtain ⟨cs',h2,h3⟩:=Option.bind_eq_some_iff.1 h1
          obtain ⟨hs,v0,v1,rfl,c0,c1⟩:=two_cells h2
          obtain ⟨t,vl,vk,e,ht⟩:=ih2 n _ _ (by omega) h3
          simp at e
          obtain ⟨rfl,rfl⟩:=e
          refine ⟨t,v0,v1,?_,?_,?_,ht⟩
          · intro e;subst e;simpa [Addr.add] using hs
          · rw [← c0];unfold Addr.add;split <;> simp_all
          · rw [← c1];unfold Addr.add;split <;> simp_all
        obtain ⟨f,hf⟩:=Go.Deep.choose_lt key
        refine ⟨(List.range len).map f,some a,cap,by simp,⟨by simpa using hl,hm⟩,a.block,a.off,fun hn=>?_,KidsAt.mk fun i hi=>?_⟩
        · have h0:0 < len:=by have:=List.length_pos_iff.2 hn;simpa using this
          obtain ⟨vl,vk,hs,_⟩:=hf 0 h0
          refine ⟨?_,trivial⟩
          cases a;simp at hs;simp [hs]
        · obtain ⟨vl,vk,_,c0,c1,ht⟩:=hf i (by simpa using hi)
          exact ⟨vl,vk,c0,c1,by simpa using ht⟩
    · obtain ⟨f0,f1,hu,t0,t1,o0,o1⟩:=under_tree
      obtain ⟨xs,n,rfl,_,hcl,hxl,hf⟩:=DataW.trod_struct hu h
      rw [cells_tree] at hcl
      match cs,hcl with
      | [vl,vk],_ =>
        have g0:=hf 0 f0 rfl
        have g1:=hf 1 f1 rfl
        rw [t0,o0,cells_str,List.getElem?_eq_getElem (by rw [hxl];simp)] at g0
        rw [t1,o1,cells_trees,List.getElem?_eq_getElem (by rw [hxl];simp)] at g1
        obtain ⟨s,e0,_,hs⟩:=DataW.trod_string under_str g0
        obtain ⟨ks,oa,cap,e1,hk⟩:=ih1 n _ _ (by omega) g1
        simp at e0 e1
        subst e0;subst e1
        exact ⟨.node s ks,_,_,rfl,treeV_mk cap hs hk⟩
theorem under_ints:Tryz.prog.underlying 23=some (.slice 3):=by kernel_rfl
theorem under_int:Tryz.prog.underlying 3=some (.int .i64):=by kernel_rfl
theorem cells_int:Tryz.prog.cellsOf 3=1:=by kernel_rfl
end
end Go.Proofs.YtdbnfhpgmcjngacGreat
/- What comes in is read: slices of rows; nodes. -/
namespace Go.Proofs.YtdbnfhpgmcjngacGreat
open Go Go.RowKit Go.ChangeShapes Go.WideShapes Go.ChangeAt
theorem mapM_some {α β:Type} {f:α→Option β}:∀ {l:List α} {cs:List β},l.mapM f=some cs→cs.length=l.length∧∀ j (h:j < l.length),f l[j]=cs[j]?
  | [],cs,h=>by simp at h;subst h;simp
  | a :: l,cs,h=>by
    simp only [List.mapM_cons,Option.bind_eq_bind,Option.bind_eq_some_iff,Option.pure_def,Option.some.injEq] at h
    obtain ⟨b,hb,bs,hbs,rfl⟩:=h
    obtain ⟨h1,h2⟩:=mapM_some hbs
    refine ⟨by simp [h1],fun j hj=>?_⟩
    cases j with
    | zero=>simpa using hb
    | succ j=>simpa using h2 j (by simpa using hj)
section
variable {H:Type} {enc:TypeId × Value→H} {w:World} {spare:Nat→Bool} {held:Bool}
theorem cells_at {base:Nat} {a:Addr} {n:Nat} {cs:List Value} (h:w.cells? base a n=some cs):cs.length=n∧∀ j,j < n→a.spot=none∧w.cell? ⟨a.block,a.off+j,none⟩=cs[j]? := by
  unfold World.cells? at h
  split at h
  · obtain ⟨h1,h2⟩:=mapM_some h
    rw [List.length_range] at h1
    refine ⟨h1,fun j hj=>?_⟩
    have h3:=h2 j (by simpa using hj)
    have h0:=h2 0 (by simp;omega)
    simp only [List.getElem_range] at h3 h0
    have hs:a.spot=none:=by
      cases hs:a.spot with
      | none=>rfl
      | some s =>
        have:cs[0]? = some (cs[0]'(by omega)):=List.getElem?_eq_getElem (by omega)
        rw [this] at h0
        have e:a.add 0=a:=by simp [Addr.add]
        rw [e] at h0
        unfold World.cell? at h0;split at h0 <;> simp_all
    refine ⟨hs,?_⟩
    have e:a.add j=⟨a.block,a.off+j,none⟩:=by
      unfold Addr.add;split
      · cases a;simp_all
      · rfl
    rw [← e];exact h3
  · cases h
set_option maxRecDepth 100000 in
theorem slice_rows {T E size:Nat} (hu:Tryz.prog.underlying T=some (.slice E)) (hsz:Tryz.prog.cellsOf E=size) (hpos:0 < size) {α:Type} [Inhabited α] (R:α→List Value→Prop)
    (hR:∀ (fuel:Nat) cs x,DataW.trod enc Tryz.prog w 0 spare held fuel E cs=some x→∃ a,R a cs) {fuel:Nat} {cs:List Value} {x} (h:DataW.trod enc Tryz.prog w 0 spare held fuel T cs=some x) :
    ∃ (xs:List α) (oa:Option Addr) (cap:Nat),cs=[.slice oa xs.length cap]∧(xs.length≤cap∧cap≤maxLen)∧∃ b o,(xs≠[]→oa=some ⟨b,o,none⟩) ∧
      ∀ i (h:i < xs.length),∃ ys:List Value,R xs[i] ys∧ys.length=size∧∀ j,j < size→w.cell? ⟨b,o+i * size+j,none⟩=ys[j]? := by
  rcases DataW.trod_slice hu h with ⟨rfl,_⟩ | ⟨a,len,cap,elems,rest,n,rfl,rfl,_,_,hl,hm,hlen,hel,_⟩
  · exact ⟨[],none,0,rfl,⟨Nat.le_refl _,Nat.zero_le _⟩,0,0,fun h=>absurd rfl h,fun _ h=>absurd h (Nat.not_lt_zero _)⟩
  · rw [hsz] at hel
    have key:∀ i,i < len→∃ y:α,(i=0→a.spot=none)∧∃ ys:List Value,R y ys∧ys.length=size∧∀ j,j < size→w.cell? ⟨a.block,a.off+i * size+j,none⟩=ys[j]? := by
      intro i hi
      have h1:=hel i hi
      rw [List.getElem?_eq_getElem (by omega)] at h1
      obtain ⟨ys,h2,h3⟩:=Option.bind_eq_some_iff.1 h1
      obtain ⟨y,hy⟩:=hR n _ _ h3
      obtain ⟨c1,c2⟩:=cells_at h2
      have hs:=(c2 0 hpos).1
      refine ⟨y,fun e=>by subst e;simpa [Addr.add] using hs,ys,hy,c1,fun j hj=>?_⟩
      rw [← (c2 j hj).2]
      unfold Addr.add at hs ⊢
      split <;> simp_all
    obtain ⟨f,hf⟩:=Go.Deep.choose_lt key
    refine ⟨(List.range len).map f,some a,cap,by simp,⟨by simpa using hl,hm⟩,a.block,a.off,fun hn=>?_,fun i hi=>?_⟩
    · have h0:0 < len:=by have:=List.length_pos_iff.2 hn;simpa using this
      obtain ⟨hs,_⟩:=hf 0 h0
      cases a;simp at hs;simp [hs]
    · have hi':i < len:=by simpa using hi
      have:=(hf i hi').2
      simpa using this
instance:Inhabited Nd:=⟨⟨⟨#[]⟩,0,0⟩⟩
end
end Go.Proofs.YtdbnfhpgmcjngacGreat
/- What comes in is read: a deed; deeds. -/
namespace Go.Proofs.YtdbnfhpgmcjngacGreat
open Go Go.RowKit Go.ChangeShapes Go.WideShapes Go.ChangeAt
section
variable {H:Type} {enc:TypeId × Value→H} {w:World} {spare:Nat→Bool} {held:Bool}
theorem cells_ints:Tryz.prog.cellsOf 23=1:=by kernel_rfl
set_option maxRecDepth 100000 in
theorem read_ints (fuel:Nat) (cs:List Value) (x) (h:DataW.trod enc Tryz.prog w 0 spare held fuel 23 cs=some x):∃ (xs:List Int) (oa:Option Addr) (cap:Nat),cs=[.slice oa xs.length cap]∧Ints Any w xs oa cap∧∀ y∈xs,(Lit.int .i64 y).wf=true:=by
  obtain ⟨xs,oa,cap,e,hc,b,o,h1,h2⟩:=slice_rows under_ints cells_int (by decide) (fun (y:Int) cs=>cs=[.int .i64 y]∧(Lit.int .i64 y).wf=true) (fun fuel cs x h=>by
    obtain ⟨y,e,_,hw⟩:=DataW.trod_int under_int h
    exact ⟨y,e,hw⟩) h
  refine ⟨xs,oa,cap,e,⟨by simpa using hc,b,o,fun hn=>⟨h1 (by intro e;subst e;simp at hn),trivial⟩,fun i hi=>?_⟩,fun y hy=>?_⟩
  · have hi':i < xs.length:=by simpa using hi
    obtain ⟨ys,⟨rfl,_⟩,_,hc⟩:=h2 i hi'
    have:=hc 0 (by decide)
    simpa using this
  · obtain ⟨i,hi,rfl⟩:=List.mem_iff_getElem.1 hy
    obtain ⟨ys,⟨_,h⟩,_⟩:=h2 i hi
    exact h
theorem deed_flds:(match Tryz.prog.underlying 25 with | some (.struct fs)=>fs.toList.map fun f=>(f.type,f.offset) | _=>[])=[(3,0),(23,1),(3,2),(3,3),(9,4)]:=by kernel_rfl
set_option maxRecDepth 100000 in
theorem under_deed:∃ f0 f1 f2 f3 f4:Field,Tryz.prog.underlying 25=some (.struct #[f0,f1,f2,f3,f4])∧(f0.type=3∧f0.offset=0)∧(f1.type=23∧f1.offset=1)∧(f2.type=3∧f2.offset=2)∧(f3.type=3∧f3.offset=3)∧(f4.type=9∧f4.offset=4):=by
  have h:=deed_flds
  split at h
  · rename_i fs hu
    obtain ⟨l⟩:=fs
    match l,h with
    | [f0,f1,f2,f3,f4],h =>
      simp only [List.map_cons,List.map_nil,List.cons.injEq,Prod.mk.injEq,and_true] at h
      exact ⟨f0,f1,f2,f3,f4,hu,h.1,h.2.1,h.2.2.1,h.2.2.2.1,h.2.2.2.2⟩
  · cases h
theorem cells_deed:Tryz.prog.cellsOf 25=5:=by kernel_rfl
instance:Inhabited Dee:=⟨Dee.zero⟩
def DeeAt (w:World) (y:Dee) (cs:List Value):Prop:=∃ pa pc,cs=[.int .i64 y.kind,.slice pa y.path.length pc,.int .i64 y.pos,.int .i64 y.many,.string y.lab]∧Ints Any w y.path pa pc∧y.lab.size≤maxLen
set_option maxRecDepth 100000 in
theorem read_deed (fuel:Nat) (cs:List Value) (x) (h:DataW.trod enc Tryz.prog w 0 spare held fuel 25 cs=some x):∃ y:Dee,DeeAt w y cs:=by
  obtain ⟨f0,f1,f2,f3,f4,hu,⟨t0,o0⟩,⟨t1,o1⟩,⟨t2,o2⟩,⟨t3,o3⟩,⟨t4,o4⟩⟩:=under_deed
  obtain ⟨xs,n,rfl,_,hcl,hxl,hf⟩:=DataW.trod_struct hu h
  rw [cells_deed] at hcl
  match cs,hcl with
  | [v0,v1,v2,v3,v4],_ =>
    have g0:=hf 0 f0 rfl
    have g1:=hf 1 f1 rfl
    have g2:=hf 2 f2 rfl
    have g3:=hf 3 f3 rfl
    have g4:=hf 4 f4 rfl
    rw [t0,o0,cells_int,List.getElem?_eq_getElem (by rw [hxl];simp)] at g0
    rw [t1,o1,cells_ints,List.getElem?_eq_getElem (by rw [hxl];simp)] at g1
    rw [t2,o2,cells_int,List.getElem?_eq_getElem (by rw [hxl];simp)] at g2
    rw [t3,o3,cells_int,List.getElem?_eq_getElem (by rw [hxl];simp)] at g3
    rw [t4,o4,cells_str,List.getElem?_eq_getElem (by rw [hxl];simp)] at g4
    obtain ⟨k,e0,_,_⟩:=DataW.trod_int under_int g0
    obtain ⟨p,pa,pc,e1,hp,_⟩:=read_ints _ _ _ g1
    obtain ⟨a,e2,_,_⟩:=DataW.trod_int under_int g2
    obtain ⟨m,e3,_,_⟩:=DataW.trod_int under_int g3
    obtain ⟨s,e4,_,hs⟩:=DataW.trod_string under_str g4
    simp at e0 e1 e2 e3 e4
    subst e0;subst e1;subst e2;subst e3;subst e4
    exact ⟨⟨k,p,a,m,s⟩,pa,pc,rfl,hp,hs⟩
set_option maxRecDepth 100000 in
theorem open_deed {r:Reach} {b0:Nat} {v:Value} {d:DataW H} {p:List MemPlace} (hv:Value.okWide Tryz.prog w r b0 25 v) (h:DataW.Trod enc Tryz.prog w 0 spare held 25 v d p) :
    ∃ (y:Dee) (pa:Option Addr) (pc:Nat),v=.agg #[.int .i64 y.kind,.slice pa y.path.length pc,.int .i64 y.pos,.int .i64 y.many,.string y.lab]∧Ints Any w y.path pa pc∧y.lab.size≤maxLen:=by
  obtain ⟨f0,f1,f2,f3,f4,hu,_⟩:=under_deed
  unfold Value.okWide at hv
  rw [hu] at hv
  obtain ⟨cs,rfl,_,_⟩:=hv
  obtain ⟨fuel,h⟩:=h
  obtain ⟨y,pa,pc,e,hp,hs⟩:=read_deed fuel _ _ h
  refine ⟨y,pa,pc,?_,hp,hs⟩
  have:cs=#[.int .i64 y.kind,.slice pa y.path.length pc,.int .i64 y.pos,.int .i64 y.many,.string y.lab]:=Array.ext' (by simpa [Value.cells] using e)
  rw [this]
end
end Go.Proofs.YtdbnfhpgmcjngacGreat
/- What comes in is read: trees. -/
namespace Go.Proofs.YtdbnfhpgmcjngacGreat
open Go Go.RowKit Go.ChangeShapes Go.WideShapes Go.ChangeAt
section
variable {H:Type} {enc:TypeId × Value→H} {w:World} {spare:Nat→Bool} {held:Bool}
set_option maxRecDepth 100000 in
theorem open_trees {r:Reach} {b0:Nat} {v:Value} {d:DataW H} {p:List MemPlace} (hv:Value.okWide Tryz.prog w r b0 22 v) (h:DataW.Trod enc Tryz.prog w 0 spare held 22 v d p) :
    ∃ (ts:List Tr) (oa:Option Addr) (cap:Nat),v=.slice oa ts.length cap∧Kids Any w ts oa cap∧True:=by
  obtain ⟨a0,l0,c0,rfl⟩:=okWide_slice under_trees hv
  obtain ⟨fuel,h⟩:=h
  obtain ⟨ks,oa,cap,e,hk⟩:=(read_both fuel).1 fuel _ _ (Nat.le_refl _) h
  simp [Value.cells] at e
  obtain ⟨rfl,rfl,rfl⟩:=e
  exact ⟨ks,a0,c0,rfl,hk,trivial⟩
end
end Go.Proofs.YtdbnfhpgmcjngacGreat
