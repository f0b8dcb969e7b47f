/- The law FnFreshens returns true for every argument, and its arguments read behind the call as before. Condition: the listed tables read as listed; the tied card pays it by the program's own text. (printed by evrow.py) -/
import Derived.Test.YtgknmoadpgpdeaaGreatDoorRows
import Derived.Test.YtgknmoadpgpdeaaGreatDoorK36
import Derived.Test.YtgknmoadpgpdeaaGreatDoorK37
import Derived.Test.YtgknmoadpgpdeaaGreatDoorTie
import Derived.Test.YtgknmoadpgpdeaaGreatDoorCards
import Derived.WalkKit
import Derived.ProofKit
import Derived.OpenShut
import Derived.ShutString
import Derived.ChangeOld
import Derived.Below
import Derived.SizedLaws
import Derived.HandedShaped
import Derived.LaidMore
import Derived.MakeChecks
import Derived.SevenTiedAt
import Derived.Lay
namespace Go.Proofs.YtgknmoadpgpdeaaGreatDoor.fnFreshens
open Go.ChangeShapes Go.WideShapes Go.ChangeAt Go.RowKit
open Go.ChangeMaps (open_string shut_string)
open Ev
set_option linter.unusedVariables false
theorem own: ownKnob Tryz.prog.godebug=none:=by kernel_rfl
theorem acZ: laidOutB Tryz.prog=true:=by kernel_rfl
theorem kinds: Tryz.f8.params.toList.map (Wa Tryz.prog)=([(.slice (.int .u8),false)]: List (Ty×Bool)).map some:=by kernel_rfl
theorem YC (os: Os) (args: Array Value): laidMetH Tryz.prog Rows.fnFreshensRow.laid ((World.laidAll Tryz.prog os Rows.fnFreshensRow.laid).forCall (fun _ _=>0) ⟨#[],args,[]⟩).memory:=by
 rw [MakeChecks.laidMetH_plain _ _ _ (by kernel_rfl)];exact laidMet_laidAll _ (by kernel_rfl) (by kernel_rfl)
theorem N3 (os: Os) (args: Array Value): ((World.laidAll Tryz.prog os Rows.fnFreshensRow.laid).forCall (fun _ _=>0) ⟨#[],args,[]⟩).Shaped Tryz.prog:=World.shaped_of_ZipB (by kernel_rfl) (by kernel_rfl)
theorem listed: (Rows.fnFreshensRow.laid.all fun x=>x.2.handleName?.isNone)=true:=by kernel_rfl
theorem aih: (Rows.fnFreshensRow.laid.filter fun x=>x.1== "strconv.ErrSyntax")=[("strconv.ErrSyntax",Rows.laid_strconv_ErrSyntax)]:=by kernel_rfl
theorem aii: (Rows.fnFreshensRow.laid.filter fun x=>x.1== "strconv.ErrRange")=[("strconv.ErrRange",Rows.laid_strconv_ErrRange)]:=by kernel_rfl
theorem afz: (Rows.fnFreshensRow.laid.filter fun x=>x.1== "internal/strconv.uint64pow10")=[("internal/strconv.uint64pow10",Lib.tabData .u64 Lib.pow10Tab)]:=by kernel_rfl
set_option maxRecDepth 100000 in
theorem lifted (os: Os) (started: os.Started) (H: Type) (enc: TypeId×Value→H):
 ReturnsInHanded {} Tryz.checked os 8 .any (fun w args=>(Rows.fnFreshensSpec.pre enc Tryz.prog Tryz.f8 Rows.fnFreshensRow.domain false w args∧laidMetH Tryz.prog Rows.fnFreshensRow.laid w)∧sizedMet enc Tryz.prog Tryz.f8 (OpenSpec.ofChange Rows.fnFreshensSpec) false w args) (Rows.fnFreshensSpec.post enc Tryz.prog Tryz.f8 false true false false):=by
 refine vJ (C:=Tryz.checked) (X:=fun w _=>laidMetH Tryz.prog Rows.fnFreshensRow.laid w) (fun _ _ _ hh h=>h.of_heap hh) own started (by kernel_rfl) Tryz.func8
  (ChangeSpec.witness_shaped (enc:=enc) (C:=Tryz.checked) (os:=os) (X:=fun w _=>laidMetH Tryz.prog Rows.fnFreshensRow.laid w) false (World.laidAll Tryz.prog os Rows.fnFreshensRow.laid) #[.slice none 0 0] 8 (World.laidAll_os _ _ _) (N3 os _) (by kernel_rfl) (by kernel_rfl) (by kernel_rfl) (YC os _)) ?_
 intro W base args ds gs before hval0 hW hsz0 hL hsh
 have hG: adx W:=⟨afy hL listed afz,afx hsh,acX hL listed aih,acY hL listed aii⟩
 have hW':=hW
 obtain ⟨p,q,hA0,hV,rfl,hfz,hnd⟩:=hW
 have hA: DataW.TrodAll enc Tryz.prog W 0 (fun _=>true) true Tryz.f8.params.toList args.toList ds p:=hA0
 obtain ⟨rfl,rfl⟩:=trodVars_none hV
 have hsz1: (DataW.weightsEach Tryz.prog Tryz.f8.params.toList ds).all (· ≤reachBytes)=true:=by
  have e: Rows.fnFreshensSpec.plain.varTypes Tryz.checked.prog=[]:=rfl
  rw [e,List.append_nil,List.append_nil] at hsz0
  exact hsz0
 obtain ⟨xs,ha,hrs⟩:=Bo (r:= .any) (b0:=base) Tryz.f8.params.toList kinds hA (fun j t v ht hv=>hval0 j t v (by simpa using ht) (by simpa using hv)) (fun m hm=>of_decide_eq_true (List.all_eq_true.1 hsz1 m hm))
 have hcalls:=O6 (K:=Kx) (W:=W) Tryz.func8 rfl (by kernel_rfl) (YB) hG (aa_ hG) hrs (u_ xs ha)
 rw [Array.toArray_toList] at hcalls
 rw [Tryz.params8] at hA
 obtain ⟨v0,vs0,d0,ds0,p0,q0,hargs,rfl,rfl,h0,r0⟩:=trodAll_cons hA
 obtain ⟨rfl,rfl,rfl⟩:=trodAll_nil r0
 obtain rfl: args=#[v0]:=by cases args;simp_all
 have lt0: ∀ x ∈ p0,x.block < W.heap.size:=by obtain ⟨m,hm⟩:=h0;exact DataW.trod_lt m _ _ _ hm
 refine hcalls.mono fun e W' ⟨he,bel⟩=>?_
 subst he
 exact ⟨_,rfl,_,_,_,[],_,[],hW',trodAll_mk1 (shut_bool Tryz.underlying4 _),(trodAll_cons_mk (Below.trod acZ (by kernel_rfl) (of_decide_eq_true (by kernel_rfl)) h0 bel lt0) trodAll_mk0),rfl,bel.frame _,fun h=>by cases h⟩
theorem ew {a b: Bool} (h: a=true) (k: b=true): (a&&b)=true:=by rw [h,k];rfl
theorem ahc: (Rows.fnFreshensRow.wf (OpenSpec.ofChange Rows.fnFreshensSpec))=true:=by kernel_rfl
theorem ahd: (laidOutB Tryz.prog)=true:=by kernel_rfl
theorem ahe: (mapsRowed Tryz.prog)=true:=by kernel_rfl
theorem ahf: (Tryz.f8.params.all (Tryz.prog.readableRec ·))=true:=by kernel_rfl
theorem ahg: (namedTie Tryz.prog Rows.fnFreshensRow.named Rows.fnFreshensSpec.vars)=true:=by kernel_rfl
theorem ahh: ((Rows.fnFreshensRow.stops==[]))=true:=by kernel_rfl
theorem ahi: ((Tryz.prog.stops==[]))=true:=by kernel_rfl
theorem ahj: ((Rows.fnFreshensRow.knobs==[]))=true:=by kernel_rfl
theorem ahk: ((Tryz.prog.stopKnobs==[]))=true:=by kernel_rfl
theorem afA: ((Rows.fnFreshensRow.inPlace==Tryz.prog.inPlace 8))=true:=by kernel_rfl
theorem afB: ((Rows.fnFreshensRow.unfollowed==Tryz.prog.unfollowed 8))=true:=by kernel_rfl
theorem afC: ((Rows.fnFreshensRow.recurses==Tryz.prog.recurses 8))=true:=by kernel_rfl
theorem afD: ((Rows.fnFreshensRow.named==Tryz.prog.varsNamed 8))=true:=by kernel_rfl
theorem afE: ((Rows.fnFreshensRow.maps==(Tryz.f8.params.toList++Rows.fnFreshensSpec.plain.varTypes Tryz.prog).any (Tryz.prog.mapsRec ·)))=true:=by kernel_rfl
theorem afF: ((Rows.fnFreshensRow.ifaces==(Tryz.f8.params.toList++Rows.fnFreshensSpec.plain.varTypes Tryz.prog).any (Tryz.prog.ifacesRec ·)))=true:=by kernel_rfl
theorem afG: ((Rows.fnFreshensRow.mapsOut==Tryz.prog.mapsAmong Tryz.f8.resultTypes.toList))=true:=by kernel_rfl
theorem afH: ((Rows.fnFreshensRow.loops==(Tryz.f8.params.toList++Rows.fnFreshensSpec.plain.varTypes Tryz.prog).any (Tryz.prog.loopsFrom ·)))=true:=by kernel_rfl
theorem afI: ((Rows.fnFreshensRow.wideKeys==(Tryz.f8.params.toList++Rows.fnFreshensSpec.plain.varTypes Tryz.prog++Tryz.f8.resultTypes.toList).any (Tryz.prog.wideKeysFrom ·)))=true:=by kernel_rfl
theorem afJ: (Rows.fnFreshensSpec.vars.all (Tryz.prog.varReadable ·))=true:=by kernel_rfl
theorem afK: (Tryz.f8.resultTypes.all (fun t=>Tryz.prog.readableRec t&&decide (t < Tryz.prog.types.size)))=true:=by kernel_rfl
theorem afL: ((Rows.fnFreshensRow.ifacesOut==Tryz.f8.resultTypes.toList.any (Tryz.prog.ifacesRec ·)))=true:=by kernel_rfl
theorem afM: ((Rows.fnFreshensRow.loopsOut==Tryz.f8.resultTypes.toList.any (Tryz.prog.loopsFrom ·)))=true:=by kernel_rfl
theorem afN: ((Rows.fnFreshensRow.plainKeys==Tryz.prog.plainKeys))=true:=by kernel_rfl
theorem afO: (Rows.fnFreshensRow.shortTexts.isNone)=true:=by kernel_rfl
theorem afP: (Tryz.prog.stopsHeard)=true:=by kernel_rfl
theorem afQ: (Tryz.prog.mayEnter)=true:=by kernel_rfl
theorem afR: ((Rows.fnFreshensRow.lifted==Tryz.prog.liftsFinal))=true:=by kernel_rfl
theorem afS: ((Tryz.prog.make==some Rows.fnFreshensRow.make))=true:=by kernel_rfl
theorem afT: ((Rows.fnFreshensRow.kinds==(if Rows.fnFreshensRow.domain.isEmpty then [] else Tryz.f8.params.toList.map fun t=>match Tryz.prog.underlying t with | some (.int k)=>some k | _=>none)))=true:=by kernel_rfl
theorem afU: ((Rows.fnFreshensRow.pinned==Rows.fnFreshensRow.pinnedBy))=true:=by kernel_rfl
theorem afV: ((Rows.fnFreshensRow.veiled==(Tryz.f8.params.toList++Rows.fnFreshensSpec.plain.varTypes Tryz.prog++Tryz.f8.resultTypes.toList).any (Tryz.prog.veiledRec ·)))=true:=by kernel_rfl
theorem afW: (Rows.fnFreshensRow.veiledFits Tryz.prog Tryz.f8.params.toList (Tryz.f8.params.toList++Rows.fnFreshensSpec.plain.varTypes Tryz.prog++Tryz.f8.resultTypes.toList))=true:=by kernel_rfl
set_option maxRecDepth 100000 in
theorem afX: joinedFacts Tryz.pinned.checked.prog 8 Tryz.f8 Rows.fnFreshensSpec Rows.fnFreshensRow=true:=by
 unfold joinedFacts
 exact (ew (ew (ew (ew (ew (ew (ew (ew (ew (ew (ew (ew (ew (ew (ew (ew (ew (ew (ew (ew (ew (ew (ew (ew (ew (ew (ew (ew (ew (ew (ew ahc ahd) ahe) ahf) ahg) ahh) ahi) ahj) ahk) afA) afB) afC) afD) afE) afF) afG) afH) afI) afJ) afK) afL) afM) afN) afO) afP) afQ) afR) afS) afT) afU) afV) afW)
theorem ac0: Tryz.pinned.checked.prog.funcNamed Rows.fnFreshensRow.func=some 8:=by kernel_rfl
theorem UL: Tryz.f8.isInstance Tryz.pinned.checked.prog Rows.fnFreshensRow.origin Rows.fnFreshensRow.targs:=of_decide_eq_true (by kernel_rfl)
theorem UM: Tryz.f8.isWrapper Tryz.pinned.checked.prog Rows.fnFreshensRow.wrapper Rows.fnFreshensRow.mainSum:=by
 unfold Func.isWrapper;first | (rw [if_pos (by decide +kernel)];kernel_rfl) | (rw [if_neg (by decide +kernel)];exact ⟨rfl,rfl⟩)
theorem proved: Rows.FnFreshensSaid:=
 OpenClaim.holds_of_wide 8 Tryz.f8 rfl rfl rfl rfl rfl rfl rfl ⟨rfl,rfl,rfl,rfl,rfl⟩ rfl rfl rfl rfl rfl ac0 Tryz.func8 afX
  UL UM
  (fun os started H enc _=>lifted os started H enc)
end Go.Proofs.YtgknmoadpgpdeaaGreatDoor.fnFreshens
namespace Go.Proofs.YtgknmoadpgpdeaaGreatDoor
theorem afY: Rows.fnFreshensRow.wfByText (OpenSpec.ofChange Rows.fnFreshensSpec)=true:=by kernel_rfl
theorem afZ: Tryz.pinned.checked.prog.mainIs=some ((true, "a8e0517f8d91c2ee9c6c6ee7ee8015bc2cfa8600536a0de61ce2883bea27e8a2").1,(true, "a8e0517f8d91c2ee9c6c6ee7ee8015bc2cfa8600536a0de61ce2883bea27e8a2").2.toList):=by kernel_rfl
theorem card_f: Tryz.prog.funcNamed "loop.example/g00651/laws.FnFreshens"=some 8:=by kernel_rfl
theorem af0: true=Tryz.pinned.checked.prog.looks []:=by kernel_rfl
theorem af1: ([50].all fun u=> !Tryz.prog.wantsStandIn u)=true:=by kernel_rfl
theorem af2: false=Rows.fnFreshensRow.goesBy Tryz.pinned.checked.prog:=by kernel_rfl
theorem fnFreshensCard_holds: Rows.FnFreshensCardSaid:=
 Claim7.holds_tied_plain_at .later [] [.data, .data, .data, .data, .sentinel, .sentinel, .pinned] true (true, "a8e0517f8d91c2ee9c6c6ee7ee8015bc2cfa8600536a0de61ce2883bea27e8a2") true
  fnFreshens.proved (fun _ h=>by cases h) afY (fun _ h=>by cases h) fnFreshens_row_tie rfl ⟨rfl,rfl⟩ afZ rfl
  (fun f fn hf hfn=>by
   obtain rfl: f=8:=Option.some.inj (card_f.symm.trans hf) |>.symm
   obtain rfl: fn=Tryz.f8:=(Option.some.inj (Tryz.func8.symm.trans hfn)).symm
   exact ⟨af0,fun j t ht=>by
    rw [Tryz.params8] at ht
    have hm: t ∈ [50]:=by simpa using Array.mem_of_getElem? ht
    exact (show Tryz.prog.wantsStandIn t=false by simpa using List.all_eq_true.1 af1 t hm)⟩)
  af2
#print axioms fnFreshensCard_holds
end Go.Proofs.YtgknmoadpgpdeaaGreatDoor
