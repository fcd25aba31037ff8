/- From what a row lists to what the walks ask: the library's variables. -/
import Derived.Test.YtdbnfhpgmcjngabGreatDoorRows
import Derived.Test.YtdbnfhpgmcjngabGreatDoorShb
import Derived.HandedShaped
import Derived.LaidMore
import Derived.Lay
import Derived.Lib.LaidTab
import Derived.Stop.LaidErr
import Derived.Stop.Joined
import Derived.Shelf.Vars
import Derived.SevenTiedAt
import Derived.SizedLaws
namespace Go.Proofs.YtdbnfhpgmcjngabGreatDoor
open Go Go.RowKit
theorem rl_pow:(Rows.laid_internal_strconv_uint64pow10:DataW Unit)=Lib.tabData .u64 Lib.pow10Tab:=by kernel_rfl
theorem rl_tab {r : List (String × DataW Unit)} {W : World} (h : laidMet Tryz.prog (("internal/strconv.uint64pow10", Rows.laid_internal_strconv_uint64pow10) :: r) W) : Lib.TabIs Tryz.prog W "internal/strconv.uint64pow10" .u64 Lib.pow10Tab := by
  rw [rl_pow] at h
  exact Lib.tabIs_of_head named_tab (show (Tryz.prog.globals[5]?).map (·.type)=some 238 by kernel_rfl) (show Tryz.prog.underlying 238=some (.array 20 182) by kernel_rfl) (show Tryz.prog.underlying 182=some (.int .u64) by kernel_rfl) (by kernel_rfl) (by kernel_rfl) h
theorem rl_star : "*" ++ "errors.errorString" = "*errors.errorString" := by decide
theorem rl_row (u : TypeId) (h : Tryz.prog.typeName? 3 u = some "*errors.errorString") : u = 222 :=
  typeName_ptr_named (nm := "errors.errorString") (by rw [rl_star]; kernel_rfl) (by kernel_rfl) (by decide) u (by rw [rl_star]; exact h)
theorem rl_flds:(match Tryz.prog.underlying 224 with | some (.struct fs)=>fs.toList.map fun f=>(f.type,f.offset) | _=>[])=[(9,0)]:=by kernel_rfl
set_option maxRecDepth 100000 in
theorem rl_struct:∃ f:Field,Tryz.prog.underlying 224=some (.struct #[f])∧f.type=9∧f.offset=0:=by
  have h:=rl_flds
  split at h
  · rename_i fs hu
    obtain ⟨l⟩:=fs
    match l,h with
    | [f0],h =>
      simp only [List.map_cons,List.map_nil,List.cons.injEq,Prod.mk.injEq,and_true] at h
      exact ⟨f0,hu,h.1,h.2⟩
  · cases h
theorem rl_iface:(match Tryz.prog.underlying 68 with | some (.interface _)=>true | _=>false)=true:=by kernel_rfl
set_option maxRecDepth 100000 in
theorem rl_error:∃ ms,Tryz.prog.underlying 68=some (.interface ms):=by
  have h:=rl_iface
  split at h
  · rename_i ms hu;exact ⟨ms,hu⟩
  · cases h
theorem rl_sentinel {n : String} {text : List UInt8} {r : List (String × DataW Unit)} {W : World} {g : Nat} (h : laidMet Tryz.prog ((n, .iface "*errors.errorString" (.ptr (.agg [.lit (.string text)]))) :: r) W)
    (hg:Tryz.prog.globalNamed n=some g) (ht:(Tryz.prog.globals[g]?).map (·.type)=some 68):∃ tp p,W.var? Tryz.prog n=some #[.iface tp p]:=by
  obtain ⟨f,hf,h1,h2⟩:=rl_struct
  obtain ⟨ms,hm⟩:=rl_error
  obtain ⟨a,s,hv,_⟩:=laid_sentinel h hg ht hm rl_row (show Tryz.prog.underlying 222=some (.pointer 224) by kernel_rfl) hf h1 h2 (show Tryz.prog.underlying 9=some .string by kernel_rfl) (by kernel_rfl) (by kernel_rfl)
  exact ⟨_,_,hv⟩
theorem rl_max {W:World} (h:W.ShapedOpen Tryz.prog):∃ m:Int,W.cell? ⟨0,0,none⟩=some (.int .i64 m) :=
  cell_of_shapedOpen_int (P:=Tryz.prog) (g:=0) (t:=3) (zero:=#[.int .i64 0]) h (of_decide_eq_true (by kernel_rfl)) (by kernel_rfl) rfl (by kernel_rfl) (by kernel_rfl) (show Tryz.prog.underlying 3=some (.int .i64) by kernel_rfl)
theorem lv_of {r2 r4 r5 : List (String × DataW Unit)} {W : World} (h2 : laidMet Tryz.prog (("internal/strconv.uint64pow10", Rows.laid_internal_strconv_uint64pow10) :: r2) W) (h4 : laidMet Tryz.prog (("strconv.ErrRange", Rows.laid_strconv_ErrRange) :: r4) W)
    (h5 : laidMet Tryz.prog (("strconv.ErrSyntax", Rows.laid_strconv_ErrSyntax) :: r5) W) (hsh : W.ShapedOpen Tryz.prog) : Lv W :=
  ⟨rl_tab h2,rl_sentinel h5 named_syntax (by kernel_rfl),rl_sentinel h4 named_range (by kernel_rfl),rl_max hsh⟩
theorem handed_and_shaped {H:Type} {enc:TypeId × Value→H} {a:Assume} {C:Checked} {os:Os} {f:FuncId} {fn:Func} {s:ChangeSpec} {conds:List PathCond} {apart fresh handsOn again:Bool} {X:World→Array Value→Prop}
    (hX:∀ (w w':World) (args:Array Value),w.heap=w'.heap→X w args→X w' args)
    (own:ownKnob C.prog.godebug=none) (started:os.Started) (noInit:C.prog.inits.idxOf? f=none) (hfn:C.prog.funcs[f]? = some fn)
    (witness:∃ (w:World) (tape:Tape) (i:Input),w.os=os∧(w.forCall tape i).Shaped C.prog∧i.vars=[]∧Input.okWide C.prog (w.forCall tape i) .any w.heap.size f i ∧
      ((s.pre enc C.prog fn conds apart (w.forCall tape i).memory i.args∧X (w.forCall tape i).memory i.args)∧sizedMet enc C.prog fn (OpenSpec.ofChange s) apart (w.forCall tape i).memory i.args)∧a.holds C.prog (lone (Frame.enter C.prog f i.args .normal) [] (w.forCall tape i)))
    (contract:∀ (W:World) (base:Nat) (args:Array Value) (ds gs:List (DataW H)) (before:List MemPlace),
      (∀ (j:Nat) t v,fn.params[j]? = some t→args[j]? = some v→Value.okWide C.prog W .any base t v) →
      DataW.Whole enc C.prog fn.params.toList s.vars apart W args.toList ds gs before→(DataW.weightsEach C.prog (fn.params.toList ++ s.plain.varTypes C.prog) (ds ++ gs)).all (·≤reachBytes)=true→X W args→W.ShapedOpen C.prog →
      Calls C.prog f args W fun e W'=>∃ v,e=.returned v∧s.post enc C.prog fn apart fresh handsOn again W args v W') :
    ReturnsInHanded a C os f .any (fun w args=>(s.pre enc C.prog fn conds apart w args∧X w args)∧sizedMet enc C.prog fn (OpenSpec.ofChange s) apart w args) (s.post enc C.prog fn apart fresh handsOn again):=by
  refine returnsInHanded_of_calls own started noInit witness ?_
  intro w tape i _ hsh _ hok hpre _
  obtain ⟨_,_,_,fn',hfn',_,_,_,_,hval⟩:=hok
  obtain rfl:fn'=fn:=Option.some.inj (hfn'.symm.trans hfn)
  obtain ⟨⟨⟨ds,gs,before,hw,_⟩,hx⟩,hz⟩:=hpre
  refine (contract (w.forCall tape i) w.heap.size i.args ds gs before hval (DataW.Whole.of_heap (w':=w.forCall tape i) (by rfl) hw) (hz.weights hw) (hX _ _ _ (by rfl) hx) hsh).mono fun e W' ⟨v,he,hp⟩=>?_
  subst he
  exact ChangeSpec.post_blind hp
end Go.Proofs.YtdbnfhpgmcjngabGreatDoor
