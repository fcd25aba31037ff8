/- Walks: the nodes of both trees; pairs held against each other. -/
import Derived.Test.YtdbnfhpgmcjngabGreatDoorBdf
import Derived.Test.YtdbnfhpgmcjngabGreatDoorBqt
import Derived.Test.YtdbnfhpgmcjngabGreatDoorBdw
namespace Go.Proofs.YtdbnfhpgmcjngabGreatDoor
open Go Go.RowKit
section
variable {ops:Array Oper} {o:Oper} {a:Act} {w:World} {Q:Exit→Act→World→Prop} {K:Act→World→Prop} {E:Prop}
theorem ndCells_one (l:List Nd):∀ u∈ndCells l,u.oneCell'=true:=by
  intro u hu
  simp only [ndCells,List.mem_flatMap] at hu
  obtain ⟨p,_,hu⟩:=hu
  simp [Nd.cells] at hu
  rcases hu with rfl | rfl | rfl <;> rfl
theorem ndCells_at {xs:List Nd} {b o1:Nat} (h:∀ (i:Nat) (_:i < xs.length),w.cell? ⟨b,o1+i * 3,none⟩=some (.string xs[i].lab)∧w.cell? ⟨b,o1+i * 3+1,none⟩=some (.int .i64 xs[i].par)∧w.cell? ⟨b,o1+i * 3+2,none⟩=some (.int .i64 xs[i].left)) :
    ∀ j u,(ndCells xs)[j]? = some u→w.cell? ⟨b,o1+j,none⟩=some u:=by
  intro j u hu
  have hj:j < (ndCells xs).length:=(List.getElem?_eq_some_iff.1 hu).1
  rw [ndCells_length] at hj
  have hi:j / 3 < xs.length:=by omega
  obtain ⟨g1,g2,g3⟩:=ndCells_get xs (j / 3) hi
  obtain ⟨c1,c2,c3⟩:=h (j / 3) hi
  rcases (by omega:j % 3=0∨j % 3=1∨j % 3=2) with hp | hp | hp
  · have e:j / 3 * 3=j:=by omega
    rw [e] at g1 c1
    rw [g1] at hu;cases hu;exact c1
  · have e:j / 3 * 3+1=j:=by omega
    rw [e] at g2
    rw [show o1+j / 3 * 3+1=o1+j by omega] at c2
    rw [g2] at hu;cases hu;exact c2
  · have e:j / 3 * 3+2=j:=by omega
    rw [e] at g3
    rw [show o1+j / 3 * 3+2=o1+j by omega] at c3
    rw [g3] at hu;cases hu;exact c3
theorem step_nodes_nil (hgd:o.guard=none) (s x:Operand) (ho:o.op=.call { callee:=.builtin .append,args:=#[s,x],argTypes:=#[146,146] })
    (hs:a.eval s=.slice none 0 0) (xs:List Nd) (b o1 c:Nat) (hx:a.eval x=.slice (some ⟨b,o1,none⟩) xs.length c) (hk:∀ (i:Nat) (_:i < xs.length),w.cell? ⟨b,o1+i * 3,none⟩=some (.string xs[i].lab)∧w.cell? ⟨b,o1+i * 3+1,none⟩=some (.int .i64 xs[i].par)∧w.cell? ⟨b,o1+i * 3+2,none⟩=some (.int .i64 xs[i].left)) (hlen:xs.length≤1000000000)
    (h:∀ ob cap w',Nds Any w' xs ob cap→Pr w w'→K (a.put o.dst (.slice ob xs.length cap)) w') :
    if Region.wanted o (yielded ops a.tmps)=true then Oper.wp Tryz.prog o a w K Q else E:=by
  obtain ⟨i0,hi,hz0,hz1,hz2⟩:=info_parts info_node
  refine step_append_nil hgd s x _ ho _ i0 _ 3 32 under_nodes hi hz0 hz1 hz2 rfl (by omega) hs _ xs.length c (ndCells xs) hx (ndCells_length xs) (fun _=>⟨_,rfl,fun j u hu=>by rw [Addr.add_lit];exact ndCells_at hk j u hu⟩) (ndCells_one xs) (by unfold maxLen;omega) (by omega) ?_
  intro v' w' g1 g2
  obtain ⟨oa,cp,rfl,hk2⟩:=OwnsNds.nds (b:=w.heap.size) (v:=v') (xs:=xs) g1
  exact h oa cp w' hk2.any g2
end
set_option maxHeartbeats 800000 in
theorem nodes_any (xs ys:List Nd) (B:Nat) (w:World) (h:TblOk w B xs ys) (hix:xs.length≤1000) (hjy:ys.length≤1000) :
    Calls Tryz.prog 97 #[.pointer (some ⟨B,0,none⟩)] w fun e w'=>∃ o1 c1 o2 c2,e=.returned (.tuple #[.slice o1 xs.length c1,.slice o2 ys.length c2])∧Nds Any w' xs o1 c1∧Nds Any w' ys o2 c2∧Pr w w':=by
  obtain ⟨xb,xo,xc,yb,yo,yc,g,bs,D,hT,_⟩:=h
  have b0:=stays (blk_cell (o:=0) hT.blk:w.cell? _=some (.slice (some ⟨xb,xo,none⟩) xs.length xc))
  have b1:=stays (blk_cell (o:=1) hT.blk:w.cell? _=some (.slice (some ⟨yb,yo,none⟩) ys.length yc))
  have NX:=Lib.hid (fun W' (h:Pr w W')=>(hT.pr h).nx)
  have NY:=Lib.hid (fun W' (h:Pr w W')=>(hT.pr h).ny)
  clear hT
  have hp:=Pr.drew w
  have r0:=b0 _ (Pr.refl _);have r1:=b1 _ (Pr.refl _)
  go_enter Tryz.func97,Tryz.ntmps97
  go_wp2_with fail
  go_region_law (first
    | (refine step_nodes_nil rfl _ _ rfl rfl xs _ _ _ rfl (NX.out _ hp) (by omega) ?_;intro ob1 cb1 w1 hk1 hb1;have hp:=hp.trans hb1;have q1:=b1 _ hp)
    | (refine step_nodes_nil rfl _ _ rfl rfl ys _ _ _ rfl (NY.out _ hp) (by omega) ?_;intro ob2 cb2 w2 hk2 hb2;have hp:=hp.trans hb2;have q0:=b0 _ hp))
  all_goals
    go_wp2_with fail
    go_ret2
    exact ⟨ob1,cb1,ob2,cb2,rfl,by first | exact hk1.pr hb2 | exact hk1,by first | exact hk2.pr hb1 | exact hk2,hp⟩
end Go.Proofs.YtdbnfhpgmcjngabGreatDoor
/- Walks: deeds that are the same; deeds that are too great; deeds as values. -/
namespace Go.Proofs.YtdbnfhpgmcjngabGreatDoor
open Go Go.RowKit
end Go.Proofs.YtdbnfhpgmcjngabGreatDoor
