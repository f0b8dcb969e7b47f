/- The law FnAsks returns true for every argument, and its arguments read behind the call as before. Condition: the listed tables read as listed; the tied card pays it by the program's own text. (printed by evrow.py) -/
import Derived.Test.YtgknmoadpgpdeaaGreatDoorRows
import Derived.Test.YtgknmoadpgpdeaaGreatDoorK36
import Derived.Test.YtgknmoadpgpdeaaGreatDoorK37
import Derived.Test.YtgknmoadpgpdeaaGreatDoorTie
import Derived.Test.YtgknmoadpgpdeaaGreatDoorCards
import Derived.WalkKit
import Derived.ProofKit
import Derived.OpenShut
import Derived.ShutString
import Derived.ChangeOld
import Derived.Below
import Derived.SizedLaws
import Derived.HandedShaped
import Derived.LaidMore
import Derived.MakeChecks
import Derived.SevenTiedAt
import Derived.Lay
namespace Go.Proofs.YtgknmoadpgpdeaaGreatDoor.fnAsks
open Go.ChangeShapes Go.WideShapes Go.ChangeAt Go.RowKit
open Go.ChangeMaps (open_string shut_string)
open Ev
set_option linter.unusedVariables false
theorem own: ownKnob Tryz.prog.godebug=none:=by kernel_rfl
theorem Y2: laidOutB Tryz.prog=true:=by kernel_rfl
theorem kinds: Tryz.f6.params.toList.map (Sy Tryz.prog)=([(.slice (.int .u8),false)]: List (Ty×Bool)).map some:=by kernel_rfl
theorem UW (os: Os) (args: Array Value): laidMetH Tryz.prog Rows.fnAsksRow.laid ((World.laidAll Tryz.prog os Rows.fnAsksRow.laid).forCall (fun _ _=>0) ⟨#[],args,[]⟩).memory:=by
 rw [MakeChecks.laidMetH_plain _ _ _ (by kernel_rfl)];exact laidMet_laidAll _ (by kernel_rfl) (by kernel_rfl)
theorem Ll (os: Os) (args: Array Value): ((World.laidAll Tryz.prog os Rows.fnAsksRow.laid).forCall (fun _ _=>0) ⟨#[],args,[]⟩).Shaped Tryz.prog:=World.shaped_of_ZipB (by kernel_rfl) (by kernel_rfl)
theorem listed: (Rows.fnAsksRow.laid.all fun x=>x.2.handleName?.isNone)=true:=by kernel_rfl
theorem ad3: (Rows.fnAsksRow.laid.filter fun x=>x.1== "strconv.ErrSyntax")=[("strconv.ErrSyntax",Rows.laid_strconv_ErrSyntax)]:=by kernel_rfl
theorem ad4: (Rows.fnAsksRow.laid.filter fun x=>x.1== "strconv.ErrRange")=[("strconv.ErrRange",Rows.laid_strconv_ErrRange)]:=by kernel_rfl
theorem aby: (Rows.fnAsksRow.laid.filter fun x=>x.1== "internal/strconv.uint64pow10")=[("internal/strconv.uint64pow10",Lib.tabData .u64 Lib.pow10Tab)]:=by kernel_rfl
set_option maxRecDepth 100000 in
theorem lifted (os: Os) (started: os.Started) (H: Type) (enc: TypeId×Value→H):
 ReturnsInHanded {} Tryz.checked os 6 .any (fun w args=>(Rows.fnAsksSpec.pre enc Tryz.prog Tryz.f6 Rows.fnAsksRow.domain false w args∧laidMetH Tryz.prog Rows.fnAsksRow.laid w)∧sizedMet enc Tryz.prog Tryz.f6 (OpenSpec.ofChange Rows.fnAsksSpec) false w args) (Rows.fnAsksSpec.post enc Tryz.prog Tryz.f6 false true false false):=by
 refine tl (C:=Tryz.checked) (X:=fun w _=>laidMetH Tryz.prog Rows.fnAsksRow.laid w) (fun _ _ _ hh h=>h.of_heap hh) own started (by kernel_rfl) Tryz.func6
  (ChangeSpec.witness_shaped (enc:=enc) (C:=Tryz.checked) (os:=os) (X:=fun w _=>laidMetH Tryz.prog Rows.fnAsksRow.laid w) false (World.laidAll Tryz.prog os Rows.fnAsksRow.laid) #[.slice none 0 0] 8 (World.laidAll_os _ _ _) (Ll os _) (by kernel_rfl) (by kernel_rfl) (by kernel_rfl) (UW os _)) ?_
 intro W base args ds gs before hval0 hW hsz0 hL hsh
 have hG: ZH W:=⟨abx hL listed aby,abw hsh,Y0 hL listed ad3,Y1 hL listed ad4⟩
 have hW':=hW
 obtain ⟨p,q,hA0,hV,rfl,hfz,hnd⟩:=hW
 have hA: DataW.TrodAll enc Tryz.prog W 0 (fun _=>true) true Tryz.f6.params.toList args.toList ds p:=hA0
 obtain ⟨rfl,rfl⟩:=trodVars_none hV
 have hsz1: (DataW.weightsEach Tryz.prog Tryz.f6.params.toList ds).all (· ≤reachBytes)=true:=by
  have e: Rows.fnAsksSpec.plain.varTypes Tryz.checked.prog=[]:=rfl
  rw [e,List.append_nil,List.append_nil] at hsz0
  exact hsz0
 obtain ⟨xs,ha,hrs⟩:=yP (r:= .any) (b0:=base) Tryz.f6.params.toList kinds hA (fun j t v ht hv=>hval0 j t v (by simpa using ht) (by simpa using hv)) (fun m hm=>of_decide_eq_true (List.all_eq_true.1 hsz1 m hm))
 have hcalls:=Mm (K:=Kx) (W:=W) Tryz.func6 rfl (by kernel_rfl) (UV) hG (Xk hG) hrs (EG xs ha)
 rw [Array.toArray_toList] at hcalls
 rw [Tryz.params6] at hA
 obtain ⟨v0,vs0,d0,ds0,p0,q0,hargs,rfl,rfl,h0,r0⟩:=trodAll_cons hA
 obtain ⟨rfl,rfl,rfl⟩:=trodAll_nil r0
 obtain rfl: args=#[v0]:=by cases args;simp_all
 have lt0: ∀ x ∈ p0,x.block < W.heap.size:=by obtain ⟨m,hm⟩:=h0;exact DataW.trod_lt m _ _ _ hm
 refine hcalls.mono fun e W' ⟨he,bel⟩=>?_
 subst he
 exact ⟨_,rfl,_,_,_,[],_,[],hW',trodAll_mk1 (shut_bool Tryz.underlying4 _),(trodAll_cons_mk (Below.trod Y2 (by kernel_rfl) (of_decide_eq_true (by kernel_rfl)) h0 bel lt0) trodAll_mk0),rfl,bel.frame _,fun h=>by cases h⟩
theorem dw {a b: Bool} (h: a=true) (k: b=true): (a&&b)=true:=by rw [h,k];rfl
theorem ac9: (Rows.fnAsksRow.wf (OpenSpec.ofChange Rows.fnAsksSpec))=true:=by kernel_rfl
theorem ac_: (laidOutB Tryz.prog)=true:=by kernel_rfl
theorem ada: (mapsRowed Tryz.prog)=true:=by kernel_rfl
theorem adb: (Tryz.f6.params.all (Tryz.prog.readableRec ·))=true:=by kernel_rfl
theorem adc: (namedTie Tryz.prog Rows.fnAsksRow.named Rows.fnAsksSpec.vars)=true:=by kernel_rfl
theorem ade: ((Rows.fnAsksRow.stops==[]))=true:=by kernel_rfl
theorem adf: ((Tryz.prog.stops==[]))=true:=by kernel_rfl
theorem adg: ((Rows.fnAsksRow.knobs==[]))=true:=by kernel_rfl
theorem adh: ((Tryz.prog.stopKnobs==[]))=true:=by kernel_rfl
theorem abz: ((Rows.fnAsksRow.inPlace==Tryz.prog.inPlace 6))=true:=by kernel_rfl
theorem abA: ((Rows.fnAsksRow.unfollowed==Tryz.prog.unfollowed 6))=true:=by kernel_rfl
theorem abB: ((Rows.fnAsksRow.recurses==Tryz.prog.recurses 6))=true:=by kernel_rfl
theorem abC: ((Rows.fnAsksRow.named==Tryz.prog.varsNamed 6))=true:=by kernel_rfl
theorem abD: ((Rows.fnAsksRow.maps==(Tryz.f6.params.toList++Rows.fnAsksSpec.plain.varTypes Tryz.prog).any (Tryz.prog.mapsRec ·)))=true:=by kernel_rfl
theorem abE: ((Rows.fnAsksRow.ifaces==(Tryz.f6.params.toList++Rows.fnAsksSpec.plain.varTypes Tryz.prog).any (Tryz.prog.ifacesRec ·)))=true:=by kernel_rfl
theorem abF: ((Rows.fnAsksRow.mapsOut==Tryz.prog.mapsAmong Tryz.f6.resultTypes.toList))=true:=by kernel_rfl
theorem abG: ((Rows.fnAsksRow.loops==(Tryz.f6.params.toList++Rows.fnAsksSpec.plain.varTypes Tryz.prog).any (Tryz.prog.loopsFrom ·)))=true:=by kernel_rfl
theorem abH: ((Rows.fnAsksRow.wideKeys==(Tryz.f6.params.toList++Rows.fnAsksSpec.plain.varTypes Tryz.prog++Tryz.f6.resultTypes.toList).any (Tryz.prog.wideKeysFrom ·)))=true:=by kernel_rfl
theorem abI: (Rows.fnAsksSpec.vars.all (Tryz.prog.varReadable ·))=true:=by kernel_rfl
theorem abJ: (Tryz.f6.resultTypes.all (fun t=>Tryz.prog.readableRec t&&decide (t < Tryz.prog.types.size)))=true:=by kernel_rfl
theorem abK: ((Rows.fnAsksRow.ifacesOut==Tryz.f6.resultTypes.toList.any (Tryz.prog.ifacesRec ·)))=true:=by kernel_rfl
theorem abL: ((Rows.fnAsksRow.loopsOut==Tryz.f6.resultTypes.toList.any (Tryz.prog.loopsFrom ·)))=true:=by kernel_rfl
theorem abM: ((Rows.fnAsksRow.plainKeys==Tryz.prog.plainKeys))=true:=by kernel_rfl
theorem abN: (Rows.fnAsksRow.shortTexts.isNone)=true:=by kernel_rfl
theorem abO: (Tryz.prog.stopsHeard)=true:=by kernel_rfl
theorem abP: (Tryz.prog.mayEnter)=true:=by kernel_rfl
theorem abQ: ((Rows.fnAsksRow.lifted==Tryz.prog.liftsFinal))=true:=by kernel_rfl
theorem abR: ((Tryz.prog.make==some Rows.fnAsksRow.make))=true:=by kernel_rfl
theorem abS: ((Rows.fnAsksRow.kinds==(if Rows.fnAsksRow.domain.isEmpty then [] else Tryz.f6.params.toList.map fun t=>match Tryz.prog.underlying t with | some (.int k)=>some k | _=>none)))=true:=by kernel_rfl
theorem abT: ((Rows.fnAsksRow.pinned==Rows.fnAsksRow.pinnedBy))=true:=by kernel_rfl
theorem abU: ((Rows.fnAsksRow.veiled==(Tryz.f6.params.toList++Rows.fnAsksSpec.plain.varTypes Tryz.prog++Tryz.f6.resultTypes.toList).any (Tryz.prog.veiledRec ·)))=true:=by kernel_rfl
theorem abV: (Rows.fnAsksRow.veiledFits Tryz.prog Tryz.f6.params.toList (Tryz.f6.params.toList++Rows.fnAsksSpec.plain.varTypes Tryz.prog++Tryz.f6.resultTypes.toList))=true:=by kernel_rfl
set_option maxRecDepth 100000 in
theorem abW: joinedFacts Tryz.pinned.checked.prog 6 Tryz.f6 Rows.fnAsksSpec Rows.fnAsksRow=true:=by
 unfold joinedFacts
 exact (dw (dw (dw (dw (dw (dw (dw (dw (dw (dw (dw (dw (dw (dw (dw (dw (dw (dw (dw (dw (dw (dw (dw (dw (dw (dw (dw (dw (dw (dw (dw ac9 ac_) ada) adb) adc) ade) adf) adg) adh) abz) abA) abB) abC) abD) abE) abF) abG) abH) abI) abJ) abK) abL) abM) abN) abO) abP) abQ) abR) abS) abT) abU) abV)
theorem Y3: Tryz.pinned.checked.prog.funcNamed Rows.fnAsksRow.func=some 6:=by kernel_rfl
theorem RD: Tryz.f6.isInstance Tryz.pinned.checked.prog Rows.fnAsksRow.origin Rows.fnAsksRow.targs:=of_decide_eq_true (by kernel_rfl)
theorem RE: Tryz.f6.isWrapper Tryz.pinned.checked.prog Rows.fnAsksRow.wrapper Rows.fnAsksRow.mainSum:=by
 unfold Func.isWrapper;first | (rw [if_pos (by decide +kernel)];kernel_rfl) | (rw [if_neg (by decide +kernel)];exact ⟨rfl,rfl⟩)
theorem proved: Rows.FnAsksSaid:=
 OpenClaim.holds_of_wide 6 Tryz.f6 rfl rfl rfl rfl rfl rfl rfl ⟨rfl,rfl,rfl,rfl,rfl⟩ rfl rfl rfl rfl rfl Y3 Tryz.func6 abW
  RD RE
  (fun os started H enc _=>lifted os started H enc)
end Go.Proofs.YtgknmoadpgpdeaaGreatDoor.fnAsks
namespace Go.Proofs.YtgknmoadpgpdeaaGreatDoor
theorem abX: Rows.fnAsksRow.wfByText (OpenSpec.ofChange Rows.fnAsksSpec)=true:=by kernel_rfl
theorem abY: Tryz.pinned.checked.prog.mainIs=some ((true, "a8e0517f8d91c2ee9c6c6ee7ee8015bc2cfa8600536a0de61ce2883bea27e8a2").1,(true, "a8e0517f8d91c2ee9c6c6ee7ee8015bc2cfa8600536a0de61ce2883bea27e8a2").2.toList):=by kernel_rfl
theorem card_f: Tryz.prog.funcNamed "loop.example/g00651/laws.FnAsks"=some 6:=by kernel_rfl
theorem abZ: true=Tryz.pinned.checked.prog.looks []:=by kernel_rfl
theorem ab0: ([50].all fun u=> !Tryz.prog.wantsStandIn u)=true:=by kernel_rfl
theorem ab1: false=Rows.fnAsksRow.goesBy Tryz.pinned.checked.prog:=by kernel_rfl
theorem fnAsksCard_holds: Rows.FnAsksCardSaid:=
 Claim7.holds_tied_plain_at .later [] [.data, .data, .data, .data, .sentinel, .sentinel, .pinned] true (true, "a8e0517f8d91c2ee9c6c6ee7ee8015bc2cfa8600536a0de61ce2883bea27e8a2") true
  fnAsks.proved (fun _ h=>by cases h) abX (fun _ h=>by cases h) fnAsks_row_tie rfl ⟨rfl,rfl⟩ abY rfl
  (fun f fn hf hfn=>by
   obtain rfl: f=6:=Option.some.inj (card_f.symm.trans hf) |>.symm
   obtain rfl: fn=Tryz.f6:=(Option.some.inj (Tryz.func6.symm.trans hfn)).symm
   exact ⟨abZ,fun j t ht=>by
    rw [Tryz.params6] at ht
    have hm: t ∈ [50]:=by simpa using Array.mem_of_getElem? ht
    exact (show Tryz.prog.wantsStandIn t=false by simpa using List.all_eq_true.1 ab0 t hm)⟩)
  ab1
#print axioms fnAsksCard_holds
end Go.Proofs.YtgknmoadpgpdeaaGreatDoor
