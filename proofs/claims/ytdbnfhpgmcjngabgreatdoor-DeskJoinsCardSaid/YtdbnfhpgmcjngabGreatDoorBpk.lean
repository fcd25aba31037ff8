/- Walks: lines' deeds; the program's. -/
import Derived.Test.YtdbnfhpgmcjngabGreatDoorBwi
import Derived.Test.YtdbnfhpgmcjngabGreatDoorBsh
import Derived.Test.YtdbnfhpgmcjngabGreatDoorByf
import Derived.Test.YtdbnfhpgmcjngabGreatDoorBpl
import Derived.Test.YtdbnfhpgmcjngabGreatDoorPp
import Derived.Deep.DeepCutAuto
namespace Go.Proofs.YtdbnfhpgmcjngabGreatDoor
open Go Go.RowKit
end Go.Proofs.YtdbnfhpgmcjngabGreatDoor
/- Walks: what each law on deeds' lines begins with. -/
namespace Go.Proofs.YtdbnfhpgmcjngabGreatDoor
open Go Go.RowKit
end Go.Proofs.YtdbnfhpgmcjngabGreatDoor
/- The law PatchBack: its walk. -/
namespace Go.Proofs.YtdbnfhpgmcjngabGreatDoor
open Go Go.RowKit
theorem path_count:∀ l:List (List UInt8),(∀ x∈l,x≠[])→l.length≤(joinC 46 l).length
  | [],_=>by simp [joinC]
  | [x],h=>by
    have:=h x (by simp)
    simp only [joinC,List.length_cons,List.length_nil]
    exact List.length_pos_iff.2 this
  | x :: y :: r,h=>by
    have h1:=List.length_pos_iff.2 (h x (by simp))
    have h2:=path_count (y :: r) (fun z hz=>h z (by simp [hz]))
    simp only [joinC,List.length_append,List.length_cons] at h2 ⊢;omega
theorem pathTx_count (p:List Int):p.length≤(pathTx p).length:=by
  unfold pathTx
  by_cases h:p=[]
  · subst h;simp
  · rw [if_neg h]
    have:=path_count (p.map Lib.itoa) (fun x hx=>by obtain ⟨n,_,rfl⟩:=List.mem_map.1 hx;exact itoa_ne n)
    simpa using this
theorem line_parts {d:Dee} (h:lineC d=0):d.path.length≤(lineT d).length∧d.lab.size≤(lineT d).length:=by
  obtain ⟨h0,_⟩:=lineC_zero h
  obtain ⟨hk,_,h2,_⟩:=dfault_zero.1 h0
  have h1:=pathTx_count d.path
  have h4:d.lab.data.toList.length=d.lab.size:=sizeL _
  rcases (show d.kind=1∨d.kind=2∨d.kind=3 by omega) with h | h | h
  · rw [line1 h];simp only [List.length_append,List.length_cons,List.length_nil];omega
  · rw [line2 h,(h2 h).1];simp only [List.length_append,List.length_cons,List.length_nil]
    exact ⟨by omega,Nat.zero_le _⟩
  · rw [line3 h];simp only [List.length_append,List.length_cons,List.length_nil];omega
theorem line_few {d:Dee} (h:lineC d=0) (hp:d.path.length≤60) (hl:d.lab.size≤100):(lineT d).length≤2000:=by
  obtain ⟨h0,hpp,ha,hm0,hm1⟩:=lineC_zero h
  have hk:=(dfault_zero.1 h0).1
  have h1:=pathT_le d.path (fun x hx=>by have:=hpp x hx;omega)
  have h2:=Lib.itoa_length_le d.pos (by omega) (by omega)
  have h3:=Lib.itoa_length_le d.many (by omega) (by omega)
  have h4:d.lab.data.toList.length=d.lab.size:=sizeL _
  rcases (show d.kind=1∨d.kind=2∨d.kind=3 by omega) with h | h | h
  · rw [line1 h];simp only [List.length_append,List.length_cons,List.length_nil];omega
  · rw [line2 h];simp only [List.length_append,List.length_cons,List.length_nil];omega
  · rw [line3 h];simp only [List.length_append,List.length_cons,List.length_nil];omega
theorem ended_few {ds:List Dee} (h:∀ d∈ds,(lineT d).length≤2000):(ended (ds.map lineT)).length≤2001 * ds.length:=by
  induction ds with
  | nil=>simp [ended]
  | cons d r ih =>
    have h1:=h d (by simp)
    have h2:=ih (fun x hx=>h x (by simp [hx]))
    simp only [List.map_cons,ended,List.length_append,List.length_cons];omega
end Go.Proofs.YtdbnfhpgmcjngabGreatDoor
/- Plain: the deeds that make one tree another one have lines. No program here. -/
namespace Go.Proofs.YtdbnfhpgmcjngabGreatDoor
theorem leafT_bound (d:Dee) (l:ByteArray) (ks:List Tr) (k:Int) (h:(leafT d (.node l ks) k).2=0) :
    (d.kind≠1→d.kind≠2→d.pos≤ks.length∧d.many≤ks.length - d.pos)∧(d.kind=2→k < ks.length):=by
  rw [leafT_node] at h
  by_cases h1:d.kind=1
  · exact ⟨fun e=>absurd h1 e,fun e=>by omega⟩
  · rw [if_neg h1] at h
    by_cases h2:d.kind=2
    · rw [if_pos h2] at h
      refine ⟨fun _ e=>absurd h2 e,fun _=>?_⟩
      by_cases h3:(ks.length:Int)≤k
      · rw [if_pos h3] at h;cases h
      · omega
    · rw [if_neg h2] at h
      refine ⟨fun _ _=>?_,fun e=>absurd e h2⟩
      by_cases h3:(ks.length:Int) < d.pos∨(ks.length:Int) - d.pos < d.many
      · rw [if_pos h3] at h;cases h
      · omega
theorem doneT_bound (d:Dee):∀ (p:List Int) (t:Tr),(doneT d p t).2=0→(∀ x∈p,0≤x)→(∀ x∈p,x < (t.sz:Int))∧(d.kind≠1→d.kind≠2→d.pos≤(t.sz:Int)∧d.many≤(t.sz:Int) - d.pos)∧p.length≤t.sz
  | [],.node l ks,h,_=>by
    have h1:=(leafT_bound d l ks 0 h).1
    have h2:=Tr.length_le ks
    refine ⟨by simp,fun a b=>?_,by simp⟩
    have:=h1 a b
    simp only [Tr.sz_node];omega
  | k :: p,.node l ks,h,hp=>by
    have hl:=Tr.length_le ks
    rw [doneT_node] at h
    by_cases h1:d.kind=2∧p=[]
    · rw [if_pos h1] at h
      have h2:=(leafT_bound d l ks k h).2 h1.1
      obtain ⟨h3,rfl⟩:=h1
      refine ⟨fun x hx=>?_,fun _ e=>absurd h3 e,by simp⟩
      rw [List.mem_singleton] at hx;subst hx
      simp only [Tr.sz_node];omega
    · rw [if_neg h1] at h
      by_cases h2:(ks.length:Int)≤k
      · rw [if_pos h2] at h;cases h
      · rw [if_neg h2] at h
        have hk:=hp k (by simp)
        have hg:kidN ks k=ks[k.toNat]'(by omega):=by
          have:=kidN_in ks k.toNat (by omega)
          rwa [Int.toNat_of_nonneg hk] at this
        obtain ⟨a,b,c⟩:=doneT_bound d p (kidN ks k) h (fun x hx=>hp x (List.mem_cons_of_mem _ hx))
        have hs:=Tr.szL_get ks k.toNat (by omega)
        rw [← hg] at hs
        refine ⟨fun x hx=>?_,fun e f=>?_,by simp only [List.length_cons,Tr.sz_node];omega⟩
        · rcases List.mem_cons.1 hx with rfl | hx
          · simp only [Tr.sz_node];omega
          · have:=a x hx;simp only [Tr.sz_node];omega
        · have:=b e f;simp only [Tr.sz_node];omega
theorem doD_line {t:Tr} {d:Dee} (h:(doD t d).2.2=0):lineC d=0:=by
  obtain ⟨ht,hd,h0,_⟩:=doD_ok.1 h
  have hs:=(fault_zero.1 ht).1
  obtain ⟨hk,h1,h2,h3,h4,h5,h6⟩:=dfault_zero.1 hd
  obtain ⟨a,b,_⟩:=doneT_bound d d.path t h0 h5
  have hb:d.pos < 1000∧d.many < 1000:=by
    by_cases hk3:d.kind=3
    · have:=b (by omega) (by omega);omega
    · have:=h1 hk3;omega
  exact lineC_is hd (fun x hx=>by have:=a x hx;omega) hb.1 hb.2
theorem run_lines:∀ {l:List Dee} {i:Nat} {t:Tr} {r:Tr × List Dee},runGo i t l=.ok r→∀ d∈l,lineC d=0
  | [],i,t,r,_=>by simp
  | d :: l,i,t,r,h=>by
    by_cases h0:(doD t d).2.2=0
    · cases hx:runGo (i+1) (doD t d).1 l with
      | error e=>rw [runGo_err h0 hx] at h;cases h
      | ok y =>
        intro e he
        rcases List.mem_cons.1 he with rfl | he
        · exact doD_line h0
        · exact run_lines hx e he
    · rw [runGo_no h0] at h;cases h
theorem doD_few {t:Tr} {d:Dee} (h:(doD t d).2.2=0):d.path.length≤60∧d.lab.size≤100:=by
  obtain ⟨ht,hd,h0,_⟩:=doD_ok.1 h
  have hs:=(fault_zero.1 ht).1
  obtain ⟨hk,h1,h2,h3,h4,h5,h6⟩:=dfault_zero.1 hd
  obtain ⟨_,_,c⟩:=doneT_bound d d.path t h0 h5
  refine ⟨by omega,?_⟩
  by_cases hk2:d.kind=2
  · rw [(h2 hk2).1];decide
  · have:=h6 hk2
    unfold isLab at this
    simp only [Bool.and_eq_true,decide_eq_true_eq] at this
    omega
theorem run_few:∀ {l:List Dee} {i:Nat} {t:Tr} {r:Tr × List Dee},runGo i t l=.ok r→∀ d∈l,d.path.length≤60∧d.lab.size≤100
  | [],i,t,r,_=>by simp
  | d :: l,i,t,r,h=>by
    by_cases h0:(doD t d).2.2=0
    · cases hx:runGo (i+1) (doD t d).1 l with
      | error e=>rw [runGo_err h0 hx] at h;cases h
      | ok y =>
        intro e he
        rcases List.mem_cons.1 he with rfl | he
        · exact doD_few h0
        · exact run_few hx e he
    · rw [runGo_no h0] at h;cases h
end Go.Proofs.YtdbnfhpgmcjngabGreatDoor
/- The law PatchDiffs: its walk. -/
namespace Go.Proofs.YtdbnfhpgmcjngabGreatDoor
open Go Go.RowKit
theorem diff_few {a b:Tr} (ha:fault a=0) (hb:fault b=0):(∀ d∈diffP a b (bestT a b),lineC d=0∧d.path.length≤60∧d.lab.size≤100)∧(diffP a b (bestT a b)).length≤80:=by
  obtain ⟨⟨back,hgo⟩,hlen⟩:=diff_ok ha hb
  have hc80:=cost_few ha hb
  have h1:=run_lines hgo
  have h2:=run_few hgo
  exact ⟨fun d hd=>⟨h1 d hd,h2 d hd⟩,by omega⟩
end Go.Proofs.YtdbnfhpgmcjngabGreatDoor
