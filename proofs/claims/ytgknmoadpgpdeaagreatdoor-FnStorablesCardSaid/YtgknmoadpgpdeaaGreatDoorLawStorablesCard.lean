/- The law FnStorables returns true for every argument, and its arguments read behind the call as before. Condition: the listed tables read as listed; the tied card pays it by the program's own text. (printed by evrow.py) -/
import Derived.Test.YtgknmoadpgpdeaaGreatDoorRows
import Derived.Test.YtgknmoadpgpdeaaGreatDoorK36
import Derived.Test.YtgknmoadpgpdeaaGreatDoorK37
import Derived.Test.YtgknmoadpgpdeaaGreatDoorTie
import Derived.Test.YtgknmoadpgpdeaaGreatDoorCards
import Derived.WalkKit
import Derived.ProofKit
import Derived.OpenShut
import Derived.ShutString
import Derived.ChangeOld
import Derived.Below
import Derived.SizedLaws
import Derived.HandedShaped
import Derived.LaidMore
import Derived.MakeChecks
import Derived.SevenTiedAt
import Derived.Lay
namespace Go.Proofs.YtgknmoadpgpdeaaGreatDoor.fnStorables
open Go.ChangeShapes Go.WideShapes Go.ChangeAt Go.RowKit
open Go.ChangeMaps (open_string shut_string)
open Ev
set_option linter.unusedVariables false
theorem own: ownKnob Tryz.prog.godebug=none:=by kernel_rfl
theorem adh: laidOutB Tryz.prog=true:=by kernel_rfl
theorem kinds: Tryz.f7.params.toList.map (WK Tryz.prog)=([(.slice (.int .u8),false)]: List (Ty×Bool)).map some:=by kernel_rfl
theorem Y9 (os: Os) (args: Array Value): laidMetH Tryz.prog Rows.fnStorablesRow.laid ((World.laidAll Tryz.prog os Rows.fnStorablesRow.laid).forCall (fun _ _=>0) ⟨#[],args,[]⟩).memory:=by
 rw [MakeChecks.laidMetH_plain _ _ _ (by kernel_rfl)];exact laidMet_laidAll _ (by kernel_rfl) (by kernel_rfl)
theorem PE (os: Os) (args: Array Value): ((World.laidAll Tryz.prog os Rows.fnStorablesRow.laid).forCall (fun _ _=>0) ⟨#[],args,[]⟩).Shaped Tryz.prog:=World.shaped_of_ZipB (by kernel_rfl) (by kernel_rfl)
theorem listed: (Rows.fnStorablesRow.laid.all fun x=>x.2.handleName?.isNone)=true:=by kernel_rfl
theorem aiS: (Rows.fnStorablesRow.laid.filter fun x=>x.1== "strconv.ErrSyntax")=[("strconv.ErrSyntax",Rows.laid_strconv_ErrSyntax)]:=by kernel_rfl
theorem aiT: (Rows.fnStorablesRow.laid.filter fun x=>x.1== "strconv.ErrRange")=[("strconv.ErrRange",Rows.laid_strconv_ErrRange)]:=by kernel_rfl
theorem afM: (Rows.fnStorablesRow.laid.filter fun x=>x.1== "internal/strconv.uint64pow10")=[("internal/strconv.uint64pow10",Lib.tabData .u64 Lib.pow10Tab)]:=by kernel_rfl
set_option maxRecDepth 100000 in
theorem lifted (os: Os) (started: os.Started) (H: Type) (enc: TypeId×Value→H):
 ReturnsInHanded {} Tryz.checked os 7 .any (fun w args=>(Rows.fnStorablesSpec.pre enc Tryz.prog Tryz.f7 Rows.fnStorablesRow.domain false w args∧laidMetH Tryz.prog Rows.fnStorablesRow.laid w)∧sizedMet enc Tryz.prog Tryz.f7 (OpenSpec.ofChange Rows.fnStorablesSpec) false w args) (Rows.fnStorablesSpec.post enc Tryz.prog Tryz.f7 false true false false):=by
 refine wP (C:=Tryz.checked) (X:=fun w _=>laidMetH Tryz.prog Rows.fnStorablesRow.laid w) (fun _ _ _ hh h=>h.of_heap hh) own started (by kernel_rfl) Tryz.func7
  (ChangeSpec.witness_shaped (enc:=enc) (C:=Tryz.checked) (os:=os) (X:=fun w _=>laidMetH Tryz.prog Rows.fnStorablesRow.laid w) false (World.laidAll Tryz.prog os Rows.fnStorablesRow.laid) #[.slice none 0 0] 8 (World.laidAll_os _ _ _) (PE os _) (by kernel_rfl) (by kernel_rfl) (by kernel_rfl) (Y9 os _)) ?_
 intro W base args ds gs before hval0 hW hsz0 hL hsh
 have hG: adP W:=⟨afL hL listed afM,afK hsh,adf hL listed aiS,adg hL listed aiT⟩
 have hW':=hW
 obtain ⟨p,q,hA0,hV,rfl,hfz,hnd⟩:=hW
 have hA: DataW.TrodAll enc Tryz.prog W 0 (fun _=>true) true Tryz.f7.params.toList args.toList ds p:=hA0
 obtain ⟨rfl,rfl⟩:=trodVars_none hV
 have hsz1: (DataW.weightsEach Tryz.prog Tryz.f7.params.toList ds).all (· ≤reachBytes)=true:=by
  have e: Rows.fnStorablesSpec.plain.varTypes Tryz.checked.prog=[]:=rfl
  rw [e,List.append_nil,List.append_nil] at hsz0
  exact hsz0
 obtain ⟨xs,ha,hrs⟩:=CH (r:= .any) (b0:=base) Tryz.f7.params.toList kinds hA (fun j t v ht hv=>hval0 j t v (by simpa using ht) (by simpa using hv)) (fun m hm=>of_decide_eq_true (List.all_eq_true.1 hsz1 m hm))
 have hcalls:=QF (K:=Kx) (W:=W) Tryz.func7 rfl (by kernel_rfl) (Y6) hG (abl hG) hrs (rQ xs ha)
 rw [Array.toArray_toList] at hcalls
 rw [Tryz.params7] at hA
 obtain ⟨v0,vs0,d0,ds0,p0,q0,hargs,rfl,rfl,h0,r0⟩:=trodAll_cons hA
 obtain ⟨rfl,rfl,rfl⟩:=trodAll_nil r0
 obtain rfl: args=#[v0]:=by cases args;simp_all
 have lt0: ∀ x ∈ p0,x.block < W.heap.size:=by obtain ⟨m,hm⟩:=h0;exact DataW.trod_lt m _ _ _ hm
 refine hcalls.mono fun e W' ⟨he,bel⟩=>?_
 subst he
 exact ⟨_,rfl,_,_,_,[],_,[],hW',trodAll_mk1 (shut_bool Tryz.underlying4 _),(trodAll_cons_mk (Below.trod adh (by kernel_rfl) (of_decide_eq_true (by kernel_rfl)) h0 bel lt0) trodAll_mk0),rfl,bel.frame _,fun h=>by cases h⟩
theorem dW {a b: Bool} (h: a=true) (k: b=true): (a&&b)=true:=by rw [h,k];rfl
theorem ahw: (Rows.fnStorablesRow.wf (OpenSpec.ofChange Rows.fnStorablesSpec))=true:=by kernel_rfl
theorem ahx: (laidOutB Tryz.prog)=true:=by kernel_rfl
theorem ahy: (mapsRowed Tryz.prog)=true:=by kernel_rfl
theorem ahz: (Tryz.f7.params.all (Tryz.prog.readableRec ·))=true:=by kernel_rfl
theorem ahA: (namedTie Tryz.prog Rows.fnStorablesRow.named Rows.fnStorablesSpec.vars)=true:=by kernel_rfl
theorem ahB: ((Rows.fnStorablesRow.stops==[]))=true:=by kernel_rfl
theorem ahC: ((Tryz.prog.stops==[]))=true:=by kernel_rfl
theorem ahD: ((Rows.fnStorablesRow.knobs==[]))=true:=by kernel_rfl
theorem ahE: ((Tryz.prog.stopKnobs==[]))=true:=by kernel_rfl
theorem afN: ((Rows.fnStorablesRow.inPlace==Tryz.prog.inPlace 7))=true:=by kernel_rfl
theorem afO: ((Rows.fnStorablesRow.unfollowed==Tryz.prog.unfollowed 7))=true:=by kernel_rfl
theorem afP: ((Rows.fnStorablesRow.recurses==Tryz.prog.recurses 7))=true:=by kernel_rfl
theorem afQ: ((Rows.fnStorablesRow.named==Tryz.prog.varsNamed 7))=true:=by kernel_rfl
theorem afR: ((Rows.fnStorablesRow.maps==(Tryz.f7.params.toList++Rows.fnStorablesSpec.plain.varTypes Tryz.prog).any (Tryz.prog.mapsRec ·)))=true:=by kernel_rfl
theorem afS: ((Rows.fnStorablesRow.ifaces==(Tryz.f7.params.toList++Rows.fnStorablesSpec.plain.varTypes Tryz.prog).any (Tryz.prog.ifacesRec ·)))=true:=by kernel_rfl
theorem afT: ((Rows.fnStorablesRow.mapsOut==Tryz.prog.mapsAmong Tryz.f7.resultTypes.toList))=true:=by kernel_rfl
theorem afU: ((Rows.fnStorablesRow.loops==(Tryz.f7.params.toList++Rows.fnStorablesSpec.plain.varTypes Tryz.prog).any (Tryz.prog.loopsFrom ·)))=true:=by kernel_rfl
theorem afV: ((Rows.fnStorablesRow.wideKeys==(Tryz.f7.params.toList++Rows.fnStorablesSpec.plain.varTypes Tryz.prog++Tryz.f7.resultTypes.toList).any (Tryz.prog.wideKeysFrom ·)))=true:=by kernel_rfl
theorem afW: (Rows.fnStorablesSpec.vars.all (Tryz.prog.varReadable ·))=true:=by kernel_rfl
theorem afX: (Tryz.f7.resultTypes.all (fun t=>Tryz.prog.readableRec t&&decide (t < Tryz.prog.types.size)))=true:=by kernel_rfl
theorem afY: ((Rows.fnStorablesRow.ifacesOut==Tryz.f7.resultTypes.toList.any (Tryz.prog.ifacesRec ·)))=true:=by kernel_rfl
theorem afZ: ((Rows.fnStorablesRow.loopsOut==Tryz.f7.resultTypes.toList.any (Tryz.prog.loopsFrom ·)))=true:=by kernel_rfl
theorem af0: ((Rows.fnStorablesRow.plainKeys==Tryz.prog.plainKeys))=true:=by kernel_rfl
theorem af1: (Rows.fnStorablesRow.shortTexts.isNone)=true:=by kernel_rfl
theorem af2: (Tryz.prog.stopsHeard)=true:=by kernel_rfl
theorem af3: (Tryz.prog.mayEnter)=true:=by kernel_rfl
theorem af4: ((Rows.fnStorablesRow.lifted==Tryz.prog.liftsFinal))=true:=by kernel_rfl
theorem af5: ((Tryz.prog.make==some Rows.fnStorablesRow.make))=true:=by kernel_rfl
theorem af6: ((Rows.fnStorablesRow.kinds==(if Rows.fnStorablesRow.domain.isEmpty then [] else Tryz.f7.params.toList.map fun t=>match Tryz.prog.underlying t with | some (.int k)=>some k | _=>none)))=true:=by kernel_rfl
theorem af7: ((Rows.fnStorablesRow.pinned==Rows.fnStorablesRow.pinnedBy))=true:=by kernel_rfl
theorem af8: ((Rows.fnStorablesRow.veiled==(Tryz.f7.params.toList++Rows.fnStorablesSpec.plain.varTypes Tryz.prog++Tryz.f7.resultTypes.toList).any (Tryz.prog.veiledRec ·)))=true:=by kernel_rfl
theorem af9: (Rows.fnStorablesRow.veiledFits Tryz.prog Tryz.f7.params.toList (Tryz.f7.params.toList++Rows.fnStorablesSpec.plain.varTypes Tryz.prog++Tryz.f7.resultTypes.toList))=true:=by kernel_rfl
set_option maxRecDepth 100000 in
theorem af_: joinedFacts Tryz.pinned.checked.prog 7 Tryz.f7 Rows.fnStorablesSpec Rows.fnStorablesRow=true:=by
 unfold joinedFacts
 exact (dW (dW (dW (dW (dW (dW (dW (dW (dW (dW (dW (dW (dW (dW (dW (dW (dW (dW (dW (dW (dW (dW (dW (dW (dW (dW (dW (dW (dW (dW (dW ahw ahx) ahy) ahz) ahA) ahB) ahC) ahD) ahE) afN) afO) afP) afQ) afR) afS) afT) afU) afV) afW) afX) afY) afZ) af0) af1) af2) af3) af4) af5) af6) af7) af8) af9)
theorem adi: Tryz.pinned.checked.prog.funcNamed Rows.fnStorablesRow.func=some 7:=by kernel_rfl
theorem VA: Tryz.f7.isInstance Tryz.pinned.checked.prog Rows.fnStorablesRow.origin Rows.fnStorablesRow.targs:=of_decide_eq_true (by kernel_rfl)
theorem VB: Tryz.f7.isWrapper Tryz.pinned.checked.prog Rows.fnStorablesRow.wrapper Rows.fnStorablesRow.mainSum:=by
 unfold Func.isWrapper;first | (rw [if_pos (by decide +kernel)];kernel_rfl) | (rw [if_neg (by decide +kernel)];exact ⟨rfl,rfl⟩)
theorem proved: Rows.FnStorablesSaid:=
 OpenClaim.holds_of_wide 7 Tryz.f7 rfl rfl rfl rfl rfl rfl rfl ⟨rfl,rfl,rfl,rfl,rfl⟩ rfl rfl rfl rfl rfl adi Tryz.func7 af_
  VA VB
  (fun os started H enc _=>lifted os started H enc)
end Go.Proofs.YtgknmoadpgpdeaaGreatDoor.fnStorables
namespace Go.Proofs.YtgknmoadpgpdeaaGreatDoor
theorem aga: Rows.fnStorablesRow.wfByText (OpenSpec.ofChange Rows.fnStorablesSpec)=true:=by kernel_rfl
theorem agb: Tryz.pinned.checked.prog.mainIs=some ((true, "a8e0517f8d91c2ee9c6c6ee7ee8015bc2cfa8600536a0de61ce2883bea27e8a2").1,(true, "a8e0517f8d91c2ee9c6c6ee7ee8015bc2cfa8600536a0de61ce2883bea27e8a2").2.toList):=by kernel_rfl
theorem card_f: Tryz.prog.funcNamed "loop.example/g00651/laws.FnStorables"=some 7:=by kernel_rfl
theorem agc: true=Tryz.pinned.checked.prog.looks []:=by kernel_rfl
theorem agd: ([50].all fun u=> !Tryz.prog.wantsStandIn u)=true:=by kernel_rfl
theorem age: false=Rows.fnStorablesRow.goesBy Tryz.pinned.checked.prog:=by kernel_rfl
theorem fnStorablesCard_holds: Rows.FnStorablesCardSaid:=
 Claim7.holds_tied_plain_at .later [] [.data, .data, .data, .data, .sentinel, .sentinel, .pinned] true (true, "a8e0517f8d91c2ee9c6c6ee7ee8015bc2cfa8600536a0de61ce2883bea27e8a2") true
  fnStorables.proved (fun _ h=>by cases h) aga (fun _ h=>by cases h) fnStorables_row_tie rfl ⟨rfl,rfl⟩ agb rfl
  (fun f fn hf hfn=>by
   obtain rfl: f=7:=Option.some.inj (card_f.symm.trans hf) |>.symm
   obtain rfl: fn=Tryz.f7:=(Option.some.inj (Tryz.func7.symm.trans hfn)).symm
   exact ⟨agc,fun j t ht=>by
    rw [Tryz.params7] at ht
    have hm: t ∈ [50]:=by simpa using Array.mem_of_getElem? ht
    exact (show Tryz.prog.wantsStandIn t=false by simpa using List.all_eq_true.1 agd t hm)⟩)
  age
#print axioms fnStorablesCard_holds
end Go.Proofs.YtgknmoadpgpdeaaGreatDoor
