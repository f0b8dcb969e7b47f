/- The law FnExactDrop returns true for every argument, and its arguments read behind the call as before. Condition: the listed tables read as listed; the tied card pays it by the program's own text. (printed by evrow.py) -/
import Derived.Test.YtihabpimbfmhhaaGreatDoorRows
import Derived.Test.YtihabpimbfmhhaaGreatDoorK40
import Derived.Test.YtihabpimbfmhhaaGreatDoorK41
import Derived.Test.YtihabpimbfmhhaaGreatDoorTie
import Derived.Test.YtihabpimbfmhhaaGreatDoorCards
import Derived.WalkKit
import Derived.ProofKit
import Derived.OpenShut
import Derived.ShutString
import Derived.ChangeOld
import Derived.Below
import Derived.SizedLaws
import Derived.HandedShaped
import Derived.LaidMore
import Derived.MakeChecks
import Derived.SevenTiedAt
import Derived.Lay
namespace Go.Proofs.YtihabpimbfmhhaaGreatDoor.fnExactDrop
open Go.ChangeShapes Go.WideShapes Go.ChangeAt Go.RowKit
open Go.ChangeMaps (open_string shut_string)
open Ev
set_option linter.unusedVariables false
theorem own:ownKnob Tryz.prog.godebug=none:=by kernel_rfl
theorem G2:laidOutB Tryz.prog=true:=by kernel_rfl
theorem kinds:Tryz.f3.params.toList.map (HO Tryz.prog)=([(GD,true),(.str,false)]:List (Ty×Bool)).map some:=by kernel_rfl
theorem I6 (os:Os) (args:Array Value):laidMetH Tryz.prog Rows.fnExactDropRow.laid ((World.laidAll Tryz.prog os Rows.fnExactDropRow.laid).forCall (fun _ _=>0) ⟨#[],args,[]⟩).memory:=by
 rw [MakeChecks.laidMetH_plain _ _ _ (by kernel_rfl)];exact laidMet_laidAll _ (by kernel_rfl) (by kernel_rfl)
theorem CR (os:Os) (args:Array Value):((World.laidAll Tryz.prog os Rows.fnExactDropRow.laid).forCall (fun _ _=>0) ⟨#[],args,[]⟩).Shaped Tryz.prog:=World.shaped_of_ZipB (by kernel_rfl) (by kernel_rfl)
theorem listed:(Rows.fnExactDropRow.laid.all fun x=>x.2.handleName?.isNone)=true:=by kernel_rfl
theorem O7:(Rows.fnExactDropRow.laid.filter fun x=>x.1== "strconv.ErrSyntax")=[("strconv.ErrSyntax",Rows.laid_strconv_ErrSyntax)]:=by kernel_rfl
theorem O8:(Rows.fnExactDropRow.laid.filter fun x=>x.1== "strconv.ErrRange")=[("strconv.ErrRange",Rows.laid_strconv_ErrRange)]:=by kernel_rfl
theorem Nn:(Rows.fnExactDropRow.laid.filter fun x=>x.1== "internal/strconv.uint64pow10")=[("internal/strconv.uint64pow10",Lib.tabData .u64 Lib.pow10Tab)]:=by kernel_rfl
set_option maxRecDepth 100000 in
theorem lifted (os:Os) (started:os.Started) (H:Type) (enc:TypeId×Value→H):
 ReturnsInHanded {} Tryz.checked os 3 .any (fun w args=>(Rows.fnExactDropSpec.pre enc Tryz.prog Tryz.f3 Rows.fnExactDropRow.domain false w args∧laidMetH Tryz.prog Rows.fnExactDropRow.laid w)∧sizedMet enc Tryz.prog Tryz.f3 (OpenSpec.ofChange Rows.fnExactDropSpec) false w args) (Rows.fnExactDropSpec.post enc Tryz.prog Tryz.f3 false true false false):=by
 refine ou (C:=Tryz.checked) (X:=fun w _=>laidMetH Tryz.prog Rows.fnExactDropRow.laid w) (fun _ _ _ hh h=>h.of_heap hh) own started (by kernel_rfl) Tryz.func3
  (ChangeSpec.witness_shaped (enc:=enc) (C:=Tryz.checked) (os:=os) (X:=fun w _=>laidMetH Tryz.prog Rows.fnExactDropRow.laid w) false (World.laidAll Tryz.prog os Rows.fnExactDropRow.laid) #[.agg #[.int .i64 0,.slice none 0 0],.string ⟨#[]⟩] 8 (World.laidAll_os _ _ _) (CR os _) (by kernel_rfl) (by kernel_rfl) (by kernel_rfl) (I6 os _)) ?_
 intro W base args ds gs before hval0 hW hsz0 hL hsh
 have hG:Md W:=⟨Nm hL listed Nn,Nl hsh,Lx hL listed O7,Ly hL listed O8⟩
 have hW':=hW
 obtain⟨p,q,hA0,hV,rfl,hfz,hnd⟩:=hW
 have hA:DataW.TrodAll enc Tryz.prog W 0 (fun _=>true) true Tryz.f3.params.toList args.toList ds p:=hA0
 obtain⟨rfl,rfl⟩:=trodVars_none hV
 have hsz1:(DataW.weightsEach Tryz.prog Tryz.f3.params.toList ds).all (· ≤reachBytes)=true:=by
  have e:Rows.fnExactDropSpec.plain.varTypes Tryz.checked.prog=[]:=rfl
  rw [e,List.append_nil,List.append_nil]at hsz0
  exact hsz0
 obtain⟨xs,ha,hrs⟩:=sU (r:=.any) (b0:=base) Tryz.f3.params.toList kinds hA (fun j t v ht hv=>hval0 j t v (by simpa using ht) (by simpa using hv)) (fun m hm=>of_decide_eq_true (List.all_eq_true.1 hsz1 m hm))
 have hcalls:=DK (K:=Kx) (W:=W) Tryz.func3 rfl (by kernel_rfl) (I4) hG (KJ hG) hrs (kB xs ha)
 rw [Array.toArray_toList]at hcalls
 rw [Tryz.params3]at hA
 obtain⟨v0,vs0,d0,ds0,p0,q0,hargs,rfl,rfl,h0,r0⟩:=trodAll_cons hA
 obtain⟨v1,vs1,d1,ds1,p1,q1,rfl,rfl,rfl,h1,r1⟩:=trodAll_cons r0
 obtain⟨rfl,rfl,rfl⟩:=trodAll_nil r1
 obtain rfl:args= #[v0,v1]:=by cases args;simp_all
 have lt0: ∀x∈p0,x.block<W.heap.size:=by obtain⟨m,hm⟩:=h0;exact DataW.trod_lt m _ _ _ hm
 have lt1: ∀x∈p1,x.block<W.heap.size:=by obtain⟨m,hm⟩:=h1;exact DataW.trod_lt m _ _ _ hm
 refine hcalls.mono fun e W' ⟨he,bel⟩=> ?_
 subst he
 exact⟨_,rfl,_,_,_,[],_,[],hW',trodAll_mk1 (shut_bool Tryz.underlying4 _),(trodAll_cons_mk (Below.trod G2 (by kernel_rfl) (of_decide_eq_true (by kernel_rfl)) h0 bel lt0) (trodAll_cons_mk (Below.trod G2 (by kernel_rfl) (of_decide_eq_true (by kernel_rfl)) h1 bel lt1) trodAll_mk0)),rfl,bel.frame _,fun h=>by cases h⟩
theorem cj {a b:Bool} (h:a=true) (k:b=true):(a&&b)=true:=by rw [h,k];rfl
theorem Oy:(Rows.fnExactDropRow.wf (OpenSpec.ofChange Rows.fnExactDropSpec))=true:=by kernel_rfl
theorem Oz:(laidOutB Tryz.prog)=true:=by kernel_rfl
theorem OA:(mapsRowed Tryz.prog)=true:=by kernel_rfl
theorem OB:(Tryz.f3.params.all (Tryz.prog.readableRec ·))=true:=by kernel_rfl
theorem OC:(namedTie Tryz.prog Rows.fnExactDropRow.named Rows.fnExactDropSpec.vars)=true:=by kernel_rfl
theorem OD:((Rows.fnExactDropRow.stops== []))=true:=by kernel_rfl
theorem OE:((Tryz.prog.stops== []))=true:=by kernel_rfl
theorem OF:((Rows.fnExactDropRow.knobs== []))=true:=by kernel_rfl
theorem OG:((Tryz.prog.stopKnobs== []))=true:=by kernel_rfl
theorem No:((Rows.fnExactDropRow.inPlace==Tryz.prog.inPlace 3))=true:=by kernel_rfl
theorem Np:((Rows.fnExactDropRow.unfollowed==Tryz.prog.unfollowed 3))=true:=by kernel_rfl
theorem Nq:((Rows.fnExactDropRow.recurses==Tryz.prog.recurses 3))=true:=by kernel_rfl
theorem Nr:((Rows.fnExactDropRow.named==Tryz.prog.varsNamed 3))=true:=by kernel_rfl
theorem Ns:((Rows.fnExactDropRow.maps==(Tryz.f3.params.toList++Rows.fnExactDropSpec.plain.varTypes Tryz.prog).any (Tryz.prog.mapsRec ·)))=true:=by kernel_rfl
theorem Nt:((Rows.fnExactDropRow.ifaces==(Tryz.f3.params.toList++Rows.fnExactDropSpec.plain.varTypes Tryz.prog).any (Tryz.prog.ifacesRec ·)))=true:=by kernel_rfl
theorem Nu:((Rows.fnExactDropRow.mapsOut==Tryz.prog.mapsAmong Tryz.f3.resultTypes.toList))=true:=by kernel_rfl
theorem Nv:((Rows.fnExactDropRow.loops==(Tryz.f3.params.toList++Rows.fnExactDropSpec.plain.varTypes Tryz.prog).any (Tryz.prog.loopsFrom ·)))=true:=by kernel_rfl
theorem Nw:((Rows.fnExactDropRow.wideKeys==(Tryz.f3.params.toList++Rows.fnExactDropSpec.plain.varTypes Tryz.prog++Tryz.f3.resultTypes.toList).any (Tryz.prog.wideKeysFrom ·)))=true:=by kernel_rfl
theorem Nx:(Rows.fnExactDropSpec.vars.all (Tryz.prog.varReadable ·))=true:=by kernel_rfl
theorem Ny:(Tryz.f3.resultTypes.all (fun t=>Tryz.prog.readableRec t&&decide (t<Tryz.prog.types.size)))=true:=by kernel_rfl
theorem Nz:((Rows.fnExactDropRow.ifacesOut==Tryz.f3.resultTypes.toList.any (Tryz.prog.ifacesRec ·)))=true:=by kernel_rfl
theorem NA:((Rows.fnExactDropRow.loopsOut==Tryz.f3.resultTypes.toList.any (Tryz.prog.loopsFrom ·)))=true:=by kernel_rfl
theorem NB:((Rows.fnExactDropRow.plainKeys==Tryz.prog.plainKeys))=true:=by kernel_rfl
theorem NC:(Rows.fnExactDropRow.shortTexts.isNone)=true:=by kernel_rfl
theorem ND:(Tryz.prog.stopsHeard)=true:=by kernel_rfl
theorem NE:(Tryz.prog.mayEnter)=true:=by kernel_rfl
theorem NF:((Rows.fnExactDropRow.lifted==Tryz.prog.liftsFinal))=true:=by kernel_rfl
theorem NG:((Tryz.prog.make==some Rows.fnExactDropRow.make))=true:=by kernel_rfl
theorem NH:((Rows.fnExactDropRow.kinds==(if Rows.fnExactDropRow.domain.isEmpty then []else Tryz.f3.params.toList.map fun t=>match Tryz.prog.underlying t with|some (.int k)=>some k|_=>none)))=true:=by kernel_rfl
theorem NI:((Rows.fnExactDropRow.pinned==Rows.fnExactDropRow.pinnedBy))=true:=by kernel_rfl
theorem NJ:((Rows.fnExactDropRow.veiled==(Tryz.f3.params.toList++Rows.fnExactDropSpec.plain.varTypes Tryz.prog++Tryz.f3.resultTypes.toList).any (Tryz.prog.veiledRec ·)))=true:=by kernel_rfl
theorem NK:(Rows.fnExactDropRow.veiledFits Tryz.prog Tryz.f3.params.toList (Tryz.f3.params.toList++Rows.fnExactDropSpec.plain.varTypes Tryz.prog++Tryz.f3.resultTypes.toList))=true:=by kernel_rfl
set_option maxRecDepth 100000 in
theorem NL:joinedFacts Tryz.pinned.checked.prog 3 Tryz.f3 Rows.fnExactDropSpec Rows.fnExactDropRow=true:=by
 unfold joinedFacts
 exact(cj (cj (cj (cj (cj (cj (cj (cj (cj (cj (cj (cj (cj (cj (cj (cj (cj (cj (cj (cj (cj (cj (cj (cj (cj (cj (cj (cj (cj (cj (cj Oy Oz) OA) OB) OC) OD) OE) OF) OG) No) Np) Nq) Nr) Ns) Nt) Nu) Nv) Nw) Nx) Ny) Nz) NA) NB) NC) ND) NE) NF) NG) NH) NI) NJ) NK)
theorem Lz:Tryz.pinned.checked.prog.funcNamed Rows.fnExactDropRow.func=some 3:=by kernel_rfl
theorem G3:Tryz.f3.isInstance Tryz.pinned.checked.prog Rows.fnExactDropRow.origin Rows.fnExactDropRow.targs:=of_decide_eq_true (by kernel_rfl)
theorem G4:Tryz.f3.isWrapper Tryz.pinned.checked.prog Rows.fnExactDropRow.wrapper Rows.fnExactDropRow.mainSum:=by
 unfold Func.isWrapper;first|(rw [if_pos (by decide+kernel)];kernel_rfl)|(rw [if_neg (by decide+kernel)];exact⟨rfl,rfl⟩)
theorem proved:Rows.FnExactDropSaid:=
 OpenClaim.holds_of_wide 3 Tryz.f3 rfl rfl rfl rfl rfl rfl rfl ⟨rfl,rfl,rfl,rfl,rfl⟩ rfl rfl rfl rfl rfl Lz Tryz.func3 NL
  G3 G4
  (fun os started H enc _=>lifted os started H enc)
end Go.Proofs.YtihabpimbfmhhaaGreatDoor.fnExactDrop
namespace Go.Proofs.YtihabpimbfmhhaaGreatDoor
theorem NM:Rows.fnExactDropRow.wfByText (OpenSpec.ofChange Rows.fnExactDropSpec)=true:=by kernel_rfl
theorem NN:Tryz.pinned.checked.prog.mainIs=some ((true, "4db937921675b84f354b1c05a7bcd1184ebf667e8c30f7965e4ae80d9093682a").1,(true, "4db937921675b84f354b1c05a7bcd1184ebf667e8c30f7965e4ae80d9093682a").2.toList):=by kernel_rfl
theorem card_f:Tryz.prog.funcNamed "loop.example/g00651/laws.FnExactDrop" =some 3:=by kernel_rfl
theorem NO:true=Tryz.pinned.checked.prog.looks []:=by kernel_rfl
theorem NP:([24,9].all fun u=> !Tryz.prog.wantsStandIn u)=true:=by kernel_rfl
theorem NQ:false=Rows.fnExactDropRow.goesBy Tryz.pinned.checked.prog:=by kernel_rfl
theorem fnExactDropCard_holds:Rows.FnExactDropCardSaid:=
 Claim7.holds_tied_plain_at .later [] [.data,.data,.data,.data,.sentinel,.sentinel,.pinned] true (true, "4db937921675b84f354b1c05a7bcd1184ebf667e8c30f7965e4ae80d9093682a") true
  fnExactDrop.proved (fun _ h=>by cases h) NM (fun _ h=>by cases h) fnExactDrop_row_tie rfl ⟨rfl,rfl⟩ NN rfl
  (fun f fn hf hfn=>by
   obtain rfl:f=3:=Option.some.inj (card_f.symm.trans hf)|>.symm
   obtain rfl:fn=Tryz.f3:=(Option.some.inj (Tryz.func3.symm.trans hfn)).symm
   exact⟨NO,fun j t ht=>by
    rw [Tryz.params3]at ht
    have hm:t∈ [24,9]:=by simpa using Array.mem_of_getElem? ht
    exact(show Tryz.prog.wantsStandIn t=false by simpa using List.all_eq_true.1 NP t hm)⟩)
  NQ
#print axioms fnExactDropCard_holds
end Go.Proofs.YtihabpimbfmhhaaGreatDoor
