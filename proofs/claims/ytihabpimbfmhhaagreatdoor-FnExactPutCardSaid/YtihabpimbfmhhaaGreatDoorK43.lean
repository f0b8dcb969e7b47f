/- The texts Lay0, one behind the other. -/
import Derived.Test.YtihabpimbfmhhaaGreatDoorK13
import Derived.LaidSub
import Derived.MakeChecks
import Derived.LaidMore
import Derived.SizedLaws
import Derived.Handed
import Derived.Shelf.Vars
import Derived.Stop.LaidErr
namespace Go.Proofs.YtihabpimbfmhhaaGreatDoor.Ev
open Go Go.RowKit
theorem Tc {W:World} (h:W.ShapedOpen Tryz.prog):Ik W:=fun g hg=>by
 obtain rfl:=Option.some.inj ((show Tryz.prog.globalNamed "internal/bytealg.MaxLen" =some 0 by kernel_rfl).symm.trans hg)
 exact Go.Proofs.cell_of_shapedOpen_int (t:=3) (zero:= #[.int .i64 0]) h (by decide+kernel) (by kernel_rfl) rfl (by kernel_rfl) (by kernel_rfl) (by kernel_rfl)
theorem Td {W:World} {l:List (String×DataW Unit)} (h:laidMetH Tryz.prog l W) (h1:(l.all fun x=>x.2.handleName?.isNone)=true)
 (h2:(l.filter fun x=>x.1== "internal/strconv.uint64pow10")=[("internal/strconv.uint64pow10",Lib.tabData .u64 Lib.pow10Tab)]):Tryz.prog.globalNamed "internal/strconv.uint64pow10" =none∨kO W:=by
 rw [MakeChecks.laidMetH_plain _ _ _ h1]at h
 have h3:=h.filter fun x=>x.1== "internal/strconv.uint64pow10"
 rw [h2]at h3
 exact .inr (Lib.tabIs_of_head (g:=1) (t:=296) (e:=265) (n:=20) (by kernel_rfl) (by kernel_rfl) (by kernel_rfl) (by kernel_rfl) (by kernel_rfl) (by kernel_rfl) h3)
theorem E3 {W:World} {l:List (String×DataW Unit)} {n:String} {text:List UInt8} {g:Nat} {ti tp te ts:TypeId} {ms:Array (String×TypeId)} {f:Field}
 (h:laidMetH Tryz.prog l W) (h1:(l.all fun x=>x.2.handleName?.isNone)=true)
 (h2:(l.filter fun x=>x.1==n)=[(n,.iface "*errors.errorString" (.ptr (.agg [.lit (.string text)])))])
 (hg:Tryz.prog.globalNamed n=some g) (ht:(Tryz.prog.globals[g]?).map (·.type)=some ti) (hi:Tryz.prog.underlying ti=some (.interface ms)) (hrow: ∀u,Tryz.prog.typeName? 3 u=some "*errors.errorString" →u=tp)
 (hp:Tryz.prog.underlying tp=some (.pointer te)) (he:Tryz.prog.underlying te=some (.struct #[f])) (hft:f.type=ts) (hfo:f.offset=0) (hs:Tryz.prog.underlying ts=some .string) (hc:Tryz.prog.cellsOf te=1) (hcs:Tryz.prog.cellsOf ts=1):wm n W:=by
 rw [MakeChecks.laidMetH_plain _ _ _ h1]at h
 have h3:=h.filter fun x=>x.1==n
 rw [h2]at h3
 obtain⟨a,s,hv,_⟩:=laid_sentinel h3 hg ht hi hrow hp he hft hfo hs hc hcs
 intro g' hg'
 obtain rfl:=Option.some.inj (hg.symm.trans hg')
 exact⟨_,_,by simpa using World.var?_cell hg hv 0⟩
theorem E4: "*" ++ "errors.errorString" = "*errors.errorString" :=by decide
theorem Md (u:TypeId) (h:Tryz.prog.typeName? 3 u=some "*errors.errorString"):u=310:=
 typeName_ptr_named (nm:= "errors.errorString") (by rw [E4];kernel_rfl) (by kernel_rfl) (by decide) u (by rw [E4];exact h)
theorem Q_ {W:World} {l:List (String×DataW Unit)} {text:List UInt8} (h:laidMetH Tryz.prog l W) (h1:(l.all fun x=>x.2.handleName?.isNone)=true)
 (h2:(l.filter fun x=>x.1== "strconv.ErrSyntax")=[("strconv.ErrSyntax",.iface "*errors.errorString" (.ptr (.agg [.lit (.string text)])))]):wm "strconv.ErrSyntax" W:=
 E3 (g:=2) h h1 h2 (by kernel_rfl) (by kernel_rfl) Tryz.underlying179 Md Tryz.underlying310 Tryz.underlying312 rfl rfl Tryz.underlying9 (by kernel_rfl) (by kernel_rfl)
theorem Ra {W:World} {l:List (String×DataW Unit)} {text:List UInt8} (h:laidMetH Tryz.prog l W) (h1:(l.all fun x=>x.2.handleName?.isNone)=true)
 (h2:(l.filter fun x=>x.1== "strconv.ErrRange")=[("strconv.ErrRange",.iface "*errors.errorString" (.ptr (.agg [.lit (.string text)])))]):wm "strconv.ErrRange" W:=
 E3 (g:=3) h h1 h2 (by kernel_rfl) (by kernel_rfl) Tryz.underlying179 Md Tryz.underlying310 Tryz.underlying312 rfl rfl Tryz.underlying9 (by kernel_rfl) (by kernel_rfl)
variable {H:Type} {enc:TypeId×Value→H}
theorem qU {C:Checked} {os:Os} {f:FuncId} {fn:Func} {s:ChangeSpec} {conds:List PathCond} {iE fresh handsOn again:Bool} {X:World→Array Value→Prop}
 (hX: ∀(w w':World) (args:Array Value),w.heap=w'.heap→X w args→X w' args)
 (own:ownKnob C.prog.godebug=none) (started:os.Started) (noInit:C.prog.inits.idxOf? f=none) (hfn:C.prog.funcs[f]? =some fn)
 (witness: ∃(w:World) (tape:Tape) (i:Input),w.os=os∧(w.forCall tape i).Shaped C.prog∧i.vars=[]∧Input.okWide C.prog (w.forCall tape i) .any w.heap.size f i∧
  ((s.pre enc C.prog fn conds iE (w.forCall tape i).memory i.args∧X (w.forCall tape i).memory i.args)∧sizedMet enc C.prog fn (OpenSpec.ofChange s) iE (w.forCall tape i).memory i.args)∧({}:Assume).holds C.prog (lone (Frame.enter C.prog f i.args .normal) [] (w.forCall tape i)))
 (contract: ∀(W:World) (base:Nat) (args:Array Value) (ds gs:List (DataW H)) (before:List MemPlace),
  (∀(j:Nat) t v,fn.params[j]? =some t→args[j]? =some v→Value.okWide C.prog W .any base t v)→DataW.Whole enc C.prog fn.params.toList s.vars iE W args.toList ds gs before→
  (DataW.weightsEach C.prog (fn.params.toList++s.plain.varTypes C.prog) (ds++gs)).all (· ≤reachBytes)=true→X W args→W.ShapedOpen C.prog→
  Calls C.prog f args W fun e W'=> ∃v,e= .returned v∧s.post enc C.prog fn iE fresh handsOn again W args v W'):
 ReturnsInHanded {} C os f .any (fun w args=>(s.pre enc C.prog fn conds iE w args∧X w args)∧sizedMet enc C.prog fn (OpenSpec.ofChange s) iE w args) (s.post enc C.prog fn iE fresh handsOn again):=by
 refine returnsInHanded_of_calls own started noInit witness fun w tape i _ hsh _ hok hpre _=> ?_
 obtain⟨_,_,_,fn',hfn',_,_,_,_,hval⟩:=hok
 obtain rfl:fn'=fn:=Option.some.inj (hfn'.symm.trans hfn)
 obtain⟨⟨⟨ds,gs,before,hw,_⟩,hx⟩,hz⟩:=hpre
 refine(contract (w.forCall tape i) w.heap.size i.args ds gs before hval (DataW.Whole.of_heap (w':=w.forCall tape i) (by rfl) hw) (hz.weights hw) (hX _ _ _ (by rfl) hx) hsh).mono fun e W' ⟨v,he,hp⟩=> ?_
 subst he
 exact ChangeSpec.post_blind hp
end Go.Proofs.YtihabpimbfmhhaaGreatDoor.Ev
