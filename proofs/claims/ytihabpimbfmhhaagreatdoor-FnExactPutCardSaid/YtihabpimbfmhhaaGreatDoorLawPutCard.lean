/- The law FnExactPut returns true for every argument, and its arguments read behind the call as before. Condition: the listed tables read as listed; the tied card pays it by the program's own text. (printed by evrow.py) -/
import Derived.Test.YtihabpimbfmhhaaGreatDoorRows
import Derived.Test.YtihabpimbfmhhaaGreatDoorK42
import Derived.Test.YtihabpimbfmhhaaGreatDoorK43
import Derived.Test.YtihabpimbfmhhaaGreatDoorTie
import Derived.Test.YtihabpimbfmhhaaGreatDoorCards
import Derived.WalkKit
import Derived.ProofKit
import Derived.OpenShut
import Derived.ShutString
import Derived.ChangeOld
import Derived.Below
import Derived.SizedLaws
import Derived.HandedShaped
import Derived.LaidMore
import Derived.MakeChecks
import Derived.SevenTiedAt
import Derived.Lay
namespace Go.Proofs.YtihabpimbfmhhaaGreatDoor.fnExactPut
open Go.ChangeShapes Go.WideShapes Go.ChangeAt Go.RowKit
open Go.ChangeMaps (open_string shut_string)
open Ev
set_option linter.unusedVariables false
theorem own:ownKnob Tryz.prog.godebug=none:=by kernel_rfl
theorem Me:laidOutB Tryz.prog=true:=by kernel_rfl
theorem kinds:Tryz.f4.params.toList.map (MY Tryz.prog)=([(LG,true),(LE,true)]:List (Ty×Bool)).map some:=by kernel_rfl
theorem OB (os:Os) (args:Array Value):laidMetH Tryz.prog Rows.fnExactPutRow.laid ((World.laidAll Tryz.prog os Rows.fnExactPutRow.laid).forCall (fun _ _=>0) ⟨#[],args,[]⟩).memory:=by
 rw [MakeChecks.laidMetH_plain _ _ _ (by kernel_rfl)];exact laidMet_laidAll _ (by kernel_rfl) (by kernel_rfl)
theorem Hq (os:Os) (args:Array Value):((World.laidAll Tryz.prog os Rows.fnExactPutRow.laid).forCall (fun _ _=>0) ⟨#[],args,[]⟩).Shaped Tryz.prog:=World.shaped_of_ZipB (by kernel_rfl) (by kernel_rfl)
theorem listed:(Rows.fnExactPutRow.laid.all fun x=>x.2.handleName?.isNone)=true:=by kernel_rfl
theorem U2:(Rows.fnExactPutRow.laid.filter fun x=>x.1== "strconv.ErrSyntax")=[("strconv.ErrSyntax",Rows.laid_strconv_ErrSyntax)]:=by kernel_rfl
theorem U3:(Rows.fnExactPutRow.laid.filter fun x=>x.1== "strconv.ErrRange")=[("strconv.ErrRange",Rows.laid_strconv_ErrRange)]:=by kernel_rfl
theorem Te:(Rows.fnExactPutRow.laid.filter fun x=>x.1== "internal/strconv.uint64pow10")=[("internal/strconv.uint64pow10",Lib.tabData .u64 Lib.pow10Tab)]:=by kernel_rfl
set_option maxRecDepth 100000 in
theorem lifted (os:Os) (started:os.Started) (H:Type) (enc:TypeId×Value→H):
 ReturnsInHanded {} Tryz.checked os 4 .any (fun w args=>(Rows.fnExactPutSpec.pre enc Tryz.prog Tryz.f4 Rows.fnExactPutRow.domain false w args∧laidMetH Tryz.prog Rows.fnExactPutRow.laid w)∧sizedMet enc Tryz.prog Tryz.f4 (OpenSpec.ofChange Rows.fnExactPutSpec) false w args) (Rows.fnExactPutSpec.post enc Tryz.prog Tryz.f4 false true false false):=by
 refine qU (C:=Tryz.checked) (X:=fun w _=>laidMetH Tryz.prog Rows.fnExactPutRow.laid w) (fun _ _ _ hh h=>h.of_heap hh) own started (by kernel_rfl) Tryz.func4
  (ChangeSpec.witness_shaped (enc:=enc) (C:=Tryz.checked) (os:=os) (X:=fun w _=>laidMetH Tryz.prog Rows.fnExactPutRow.laid w) false (World.laidAll Tryz.prog os Rows.fnExactPutRow.laid) #[.agg #[.int .i64 0,.slice none 0 0],.agg #[.string ⟨#[]⟩,.int .i64 0,.int .i64 0,.slice none 0 0,.string ⟨#[]⟩,.string ⟨#[]⟩,.int .i64 0,.string ⟨#[]⟩,.bool false,.slice none 0 0,.string ⟨#[]⟩]] 8 (World.laidAll_os _ _ _) (Hq os _) (by kernel_rfl) (by kernel_rfl) (by kernel_rfl) (OB os _)) ?_
 intro W base args ds gs before hval0 hW hsz0 hL hsh
 have hG:RR W:=⟨Td hL listed Te,Tc hsh,Q_ hL listed U2,Ra hL listed U3⟩
 have hW':=hW
 obtain⟨p,q,hA0,hV,rfl,hfz,hnd⟩:=hW
 have hA:DataW.TrodAll enc Tryz.prog W 0 (fun _=>true) true Tryz.f4.params.toList args.toList ds p:=hA0
 obtain⟨rfl,rfl⟩:=trodVars_none hV
 have hsz1:(DataW.weightsEach Tryz.prog Tryz.f4.params.toList ds).all (· ≤reachBytes)=true:=by
  have e:Rows.fnExactPutSpec.plain.varTypes Tryz.checked.prog=[]:=rfl
  rw [e,List.append_nil,List.append_nil]at hsz0
  exact hsz0
 obtain⟨xs,ha,hrs⟩:=wk (r:=.any) (b0:=base) Tryz.f4.params.toList kinds hA (fun j t v ht hv=>hval0 j t v (by simpa using ht) (by simpa using hv)) (fun m hm=>of_decide_eq_true (List.all_eq_true.1 hsz1 m hm))
 have hcalls:=Ig (K:=Kx) (W:=W) Tryz.func4 rfl (by kernel_rfl) (Q9) hG (Qo hG) hrs (qn xs ha)
 rw [Array.toArray_toList]at hcalls
 rw [Tryz.params4]at hA
 obtain⟨v0,vs0,d0,ds0,p0,q0,hargs,rfl,rfl,h0,r0⟩:=trodAll_cons hA
 obtain⟨v1,vs1,d1,ds1,p1,q1,rfl,rfl,rfl,h1,r1⟩:=trodAll_cons r0
 obtain⟨rfl,rfl,rfl⟩:=trodAll_nil r1
 obtain rfl:args= #[v0,v1]:=by cases args;simp_all
 have lt0: ∀x∈p0,x.block<W.heap.size:=by obtain⟨m,hm⟩:=h0;exact DataW.trod_lt m _ _ _ hm
 have lt1: ∀x∈p1,x.block<W.heap.size:=by obtain⟨m,hm⟩:=h1;exact DataW.trod_lt m _ _ _ hm
 refine hcalls.mono fun e W' ⟨he,bel⟩=> ?_
 subst he
 exact⟨_,rfl,_,_,_,[],_,[],hW',trodAll_mk1 (shut_bool Tryz.underlying4 _),(trodAll_cons_mk (Below.trod Me (by kernel_rfl) (of_decide_eq_true (by kernel_rfl)) h0 bel lt0) (trodAll_cons_mk (Below.trod Me (by kernel_rfl) (of_decide_eq_true (by kernel_rfl)) h1 bel lt1) trodAll_mk0)),rfl,bel.frame _,fun h=>by cases h⟩
theorem cC {a b:Bool} (h:a=true) (k:b=true):(a&&b)=true:=by rw [h,k];rfl
theorem Ut:(Rows.fnExactPutRow.wf (OpenSpec.ofChange Rows.fnExactPutSpec))=true:=by kernel_rfl
theorem Uu:(laidOutB Tryz.prog)=true:=by kernel_rfl
theorem Uv:(mapsRowed Tryz.prog)=true:=by kernel_rfl
theorem Uw:(Tryz.f4.params.all (Tryz.prog.readableRec ·))=true:=by kernel_rfl
theorem Ux:(namedTie Tryz.prog Rows.fnExactPutRow.named Rows.fnExactPutSpec.vars)=true:=by kernel_rfl
theorem Uy:((Rows.fnExactPutRow.stops== []))=true:=by kernel_rfl
theorem Uz:((Tryz.prog.stops== []))=true:=by kernel_rfl
theorem UA:((Rows.fnExactPutRow.knobs== []))=true:=by kernel_rfl
theorem UB:((Tryz.prog.stopKnobs== []))=true:=by kernel_rfl
theorem Tf:((Rows.fnExactPutRow.inPlace==Tryz.prog.inPlace 4))=true:=by kernel_rfl
theorem Tg:((Rows.fnExactPutRow.unfollowed==Tryz.prog.unfollowed 4))=true:=by kernel_rfl
theorem Th:((Rows.fnExactPutRow.recurses==Tryz.prog.recurses 4))=true:=by kernel_rfl
theorem Ti:((Rows.fnExactPutRow.named==Tryz.prog.varsNamed 4))=true:=by kernel_rfl
theorem Tj:((Rows.fnExactPutRow.maps==(Tryz.f4.params.toList++Rows.fnExactPutSpec.plain.varTypes Tryz.prog).any (Tryz.prog.mapsRec ·)))=true:=by kernel_rfl
theorem Tk:((Rows.fnExactPutRow.ifaces==(Tryz.f4.params.toList++Rows.fnExactPutSpec.plain.varTypes Tryz.prog).any (Tryz.prog.ifacesRec ·)))=true:=by kernel_rfl
theorem Tl:((Rows.fnExactPutRow.mapsOut==Tryz.prog.mapsAmong Tryz.f4.resultTypes.toList))=true:=by kernel_rfl
theorem Tm:((Rows.fnExactPutRow.loops==(Tryz.f4.params.toList++Rows.fnExactPutSpec.plain.varTypes Tryz.prog).any (Tryz.prog.loopsFrom ·)))=true:=by kernel_rfl
theorem Tn:((Rows.fnExactPutRow.wideKeys==(Tryz.f4.params.toList++Rows.fnExactPutSpec.plain.varTypes Tryz.prog++Tryz.f4.resultTypes.toList).any (Tryz.prog.wideKeysFrom ·)))=true:=by kernel_rfl
theorem To:(Rows.fnExactPutSpec.vars.all (Tryz.prog.varReadable ·))=true:=by kernel_rfl
theorem Tp:(Tryz.f4.resultTypes.all (fun t=>Tryz.prog.readableRec t&&decide (t<Tryz.prog.types.size)))=true:=by kernel_rfl
theorem Tq:((Rows.fnExactPutRow.ifacesOut==Tryz.f4.resultTypes.toList.any (Tryz.prog.ifacesRec ·)))=true:=by kernel_rfl
theorem Ts:((Rows.fnExactPutRow.loopsOut==Tryz.f4.resultTypes.toList.any (Tryz.prog.loopsFrom ·)))=true:=by kernel_rfl
theorem Tt:((Rows.fnExactPutRow.plainKeys==Tryz.prog.plainKeys))=true:=by kernel_rfl
theorem Tu:(Rows.fnExactPutRow.shortTexts.isNone)=true:=by kernel_rfl
theorem Tv:(Tryz.prog.stopsHeard)=true:=by kernel_rfl
theorem Tw:(Tryz.prog.mayEnter)=true:=by kernel_rfl
theorem Tx:((Rows.fnExactPutRow.lifted==Tryz.prog.liftsFinal))=true:=by kernel_rfl
theorem Tz:((Tryz.prog.make==some Rows.fnExactPutRow.make))=true:=by kernel_rfl
theorem TA:((Rows.fnExactPutRow.kinds==(if Rows.fnExactPutRow.domain.isEmpty then []else Tryz.f4.params.toList.map fun t=>match Tryz.prog.underlying t with|some (.int k)=>some k|_=>none)))=true:=by kernel_rfl
theorem TB:((Rows.fnExactPutRow.pinned==Rows.fnExactPutRow.pinnedBy))=true:=by kernel_rfl
theorem TC:((Rows.fnExactPutRow.veiled==(Tryz.f4.params.toList++Rows.fnExactPutSpec.plain.varTypes Tryz.prog++Tryz.f4.resultTypes.toList).any (Tryz.prog.veiledRec ·)))=true:=by kernel_rfl
theorem TD:(Rows.fnExactPutRow.veiledFits Tryz.prog Tryz.f4.params.toList (Tryz.f4.params.toList++Rows.fnExactPutSpec.plain.varTypes Tryz.prog++Tryz.f4.resultTypes.toList))=true:=by kernel_rfl
set_option maxRecDepth 100000 in
theorem TE:joinedFacts Tryz.pinned.checked.prog 4 Tryz.f4 Rows.fnExactPutSpec Rows.fnExactPutRow=true:=by
 unfold joinedFacts
 exact(cC (cC (cC (cC (cC (cC (cC (cC (cC (cC (cC (cC (cC (cC (cC (cC (cC (cC (cC (cC (cC (cC (cC (cC (cC (cC (cC (cC (cC (cC (cC Ut Uu) Uv) Uw) Ux) Uy) Uz) UA) UB) Tf) Tg) Th) Ti) Tj) Tk) Tl) Tm) Tn) To) Tp) Tq) Ts) Tt) Tu) Tv) Tw) Tx) Tz) TA) TB) TC) TD)
theorem Rb:Tryz.pinned.checked.prog.funcNamed Rows.fnExactPutRow.func=some 4:=by kernel_rfl
theorem Mf:Tryz.f4.isInstance Tryz.pinned.checked.prog Rows.fnExactPutRow.origin Rows.fnExactPutRow.targs:=of_decide_eq_true (by kernel_rfl)
theorem Mh:Tryz.f4.isWrapper Tryz.pinned.checked.prog Rows.fnExactPutRow.wrapper Rows.fnExactPutRow.mainSum:=by
 unfold Func.isWrapper;first|(rw [if_pos (by decide+kernel)];kernel_rfl)|(rw [if_neg (by decide+kernel)];exact⟨rfl,rfl⟩)
theorem proved:Rows.FnExactPutSaid:=
 OpenClaim.holds_of_wide 4 Tryz.f4 rfl rfl rfl rfl rfl rfl rfl ⟨rfl,rfl,rfl,rfl,rfl⟩ rfl rfl rfl rfl rfl Rb Tryz.func4 TE
  Mf Mh
  (fun os started H enc _=>lifted os started H enc)
end Go.Proofs.YtihabpimbfmhhaaGreatDoor.fnExactPut
namespace Go.Proofs.YtihabpimbfmhhaaGreatDoor
theorem TF:Rows.fnExactPutRow.wfByText (OpenSpec.ofChange Rows.fnExactPutSpec)=true:=by kernel_rfl
theorem TG:Tryz.pinned.checked.prog.mainIs=some ((true, "4db937921675b84f354b1c05a7bcd1184ebf667e8c30f7965e4ae80d9093682a").1,(true, "4db937921675b84f354b1c05a7bcd1184ebf667e8c30f7965e4ae80d9093682a").2.toList):=by kernel_rfl
theorem card_f:Tryz.prog.funcNamed "loop.example/g00651/laws.FnExactPut" =some 4:=by kernel_rfl
theorem TH:true=Tryz.pinned.checked.prog.looks []:=by kernel_rfl
theorem TI:([24,38].all fun u=> !Tryz.prog.wantsStandIn u)=true:=by kernel_rfl
theorem TJ:false=Rows.fnExactPutRow.goesBy Tryz.pinned.checked.prog:=by kernel_rfl
theorem fnExactPutCard_holds:Rows.FnExactPutCardSaid:=
 Claim7.holds_tied_plain_at .later [] [.data,.data,.data,.data,.sentinel,.sentinel,.pinned] true (true, "4db937921675b84f354b1c05a7bcd1184ebf667e8c30f7965e4ae80d9093682a") true
  fnExactPut.proved (fun _ h=>by cases h) TF (fun _ h=>by cases h) fnExactPut_row_tie rfl ⟨rfl,rfl⟩ TG rfl
  (fun f fn hf hfn=>by
   obtain rfl:f=4:=Option.some.inj (card_f.symm.trans hf)|>.symm
   obtain rfl:fn=Tryz.f4:=(Option.some.inj (Tryz.func4.symm.trans hfn)).symm
   exact⟨TH,fun j t ht=>by
    rw [Tryz.params4]at ht
    have hm:t∈ [24,38]:=by simpa using Array.mem_of_getElem? ht
    exact(show Tryz.prog.wantsStandIn t=false by simpa using List.all_eq_true.1 TI t hm)⟩)
  TJ
#print axioms fnExactPutCard_holds
end Go.Proofs.YtihabpimbfmhhaaGreatDoor
