/- The law FnExactUnmodified returns true for every argument, and its arguments read behind the call as before. Condition: the listed tables read as listed; the tied card pays it by the program's own text. (printed by evrow.py) -/
import Derived.Test.YtdknaddanjpdaaaGreatDoorRows
import Derived.Test.YtdknaddanjpdaaaGreatDoorK24
import Derived.Test.YtdknaddanjpdaaaGreatDoorK25
import Derived.Test.YtdknaddanjpdaaaGreatDoorTie
import Derived.Test.YtdknaddanjpdaaaGreatDoorCards
import Derived.WalkKit
import Derived.ProofKit
import Derived.OpenShut
import Derived.ShutString
import Derived.ChangeOld
import Derived.Below
import Derived.SizedLaws
import Derived.HandedShaped
import Derived.LaidMore
import Derived.MakeChecks
import Derived.SevenTiedAt
import Derived.Lay
namespace Go.Proofs.YtdknaddanjpdaaaGreatDoor.fnExactUnmodified
open Go.ChangeShapes Go.WideShapes Go.ChangeAt Go.RowKit
open Go.ChangeMaps (open_string shut_string)
open Ev
set_option linter.unusedVariables false
theorem own : ownKnob Tryz.prog.godebug = none := by kernel_rfl
theorem laidOut : laidOutB Tryz.prog = true := by kernel_rfl
theorem kinds : Tryz.f4.params.toList.map (viewA Tryz.prog) = ([(.slice (.pair .str .str), false), (tyEnt, true)] : List (Ty × Bool)).map some := by kernel_rfl
theorem door_met (os : Os) (args : Array Value) : laidMetH Tryz.prog Rows.fnExactUnmodifiedRow.laid ((World.laidAll Tryz.prog os Rows.fnExactUnmodifiedRow.laid).forCall (fun _ _ => 0) ⟨#[], args, []⟩).memory := by
  rw [MakeChecks.laidMetH_plain _ _ _ (by kernel_rfl)]; exact laidMet_laidAll _ (by kernel_rfl) (by kernel_rfl)
theorem lay_shaped (os : Os) (args : Array Value) : ((World.laidAll Tryz.prog os Rows.fnExactUnmodifiedRow.laid).forCall (fun _ _ => 0) ⟨#[], args, []⟩).Shaped Tryz.prog := World.shaped_of_ZipB (by kernel_rfl) (by kernel_rfl)
theorem listed : (Rows.fnExactUnmodifiedRow.laid.all fun x => x.2.handleName?.isNone) = true := by kernel_rfl
theorem errS : (Rows.fnExactUnmodifiedRow.laid.filter fun x => x.1 == "strconv.ErrSyntax") = [("strconv.ErrSyntax", Rows.laid_strconv_ErrSyntax)] := by kernel_rfl
theorem errR : (Rows.fnExactUnmodifiedRow.laid.filter fun x => x.1 == "strconv.ErrRange") = [("strconv.ErrRange", Rows.laid_strconv_ErrRange)] := by kernel_rfl
theorem powers : (Rows.fnExactUnmodifiedRow.laid.filter fun x => x.1 == "internal/strconv.uint64pow10") = [("internal/strconv.uint64pow10", Lib.tabData .u64 Lib.pow10Tab)] := by kernel_rfl
set_option maxRecDepth 100000 in
theorem lifted (os : Os) (started : os.Started) (H : Type) (enc : TypeId × Value → H) :
    ReturnsInHanded {} Tryz.checked os 4 .any (fun w args => (Rows.fnExactUnmodifiedSpec.pre enc Tryz.prog Tryz.f4 Rows.fnExactUnmodifiedRow.domain false w args ∧ laidMetH Tryz.prog Rows.fnExactUnmodifiedRow.laid w) ∧ sizedMet enc Tryz.prog Tryz.f4 (OpenSpec.ofChange Rows.fnExactUnmodifiedSpec) false w args) (Rows.fnExactUnmodifiedSpec.post enc Tryz.prog Tryz.f4 false true false false) := by
  refine returns_listed (C := Tryz.checked) (X := fun w _ => laidMetH Tryz.prog Rows.fnExactUnmodifiedRow.laid w) (fun _ _ _ hh h => h.of_heap hh) own started (by kernel_rfl) Tryz.func4
    (ChangeSpec.witness_shaped (enc := enc) (C := Tryz.checked) (os := os) (X := fun w _ => laidMetH Tryz.prog Rows.fnExactUnmodifiedRow.laid w) false (World.laidAll Tryz.prog os Rows.fnExactUnmodifiedRow.laid) #[.slice none 0 0, .agg #[.string ⟨#[]⟩, .int .i64 0, .int .i64 0, .slice none 0 0, .string ⟨#[]⟩, .string ⟨#[]⟩, .int .i64 0, .string ⟨#[]⟩, .bool false, .slice none 0 0, .string ⟨#[]⟩]] 8 (World.laidAll_os _ _ _) (lay_shaped os _) (by kernel_rfl) (by kernel_rfl) (by kernel_rfl) (door_met os _)) ?_
  intro W base args ds gs before hval0 hW hsz0 hL hsh
  have hG : Laid W := ⟨tab_of hL listed powers, max_of hsh, errS_of hL listed errS, errR_of hL listed errR⟩
  have hW' := hW
  obtain ⟨p, q, hA0, hV, rfl, hfz, hnd⟩ := hW
  have hA : DataW.TrodAll enc Tryz.prog W 0 (fun _ => true) true Tryz.f4.params.toList args.toList ds p := hA0
  obtain ⟨rfl, rfl⟩ := trodVars_none hV
  have hsz1 : (DataW.weightsEach Tryz.prog Tryz.f4.params.toList ds).all (· ≤ reachBytes) = true := by
    have e : Rows.fnExactUnmodifiedSpec.plain.varTypes Tryz.checked.prog = [] := rfl
    rw [e, List.append_nil, List.append_nil] at hsz0
    exact hsz0
  obtain ⟨xs, ha, hrs⟩ := open_args (r := .any) (b0 := base) Tryz.f4.params.toList kinds hA (fun j t v ht hv => hval0 j t v (by simpa using ht) (by simpa using hv)) (fun m hm => of_decide_eq_true (List.all_eq_true.1 hsz1 m hm))
  have hcalls := law_calls (K := Kx) (W := W) Tryz.func4 rfl (by kernel_rfl) (lUnm_ok) hG (laid_le hG) hrs (fnExactUnmodified_true xs ha)
  rw [Array.toArray_toList] at hcalls
  rw [Tryz.params4] at hA
  obtain ⟨v0, vs0, d0, ds0, p0, q0, hargs, rfl, rfl, h0, r0⟩ := trodAll_cons hA
  obtain ⟨v1, vs1, d1, ds1, p1, q1, rfl, rfl, rfl, h1, r1⟩ := trodAll_cons r0
  obtain ⟨rfl, rfl, rfl⟩ := trodAll_nil r1
  obtain rfl : args = #[v0, v1] := by cases args; simp_all
  have lt0 : ∀ x ∈ p0, x.block < W.heap.size := by obtain ⟨m, hm⟩ := h0; exact DataW.trod_lt m _ _ _ hm
  have lt1 : ∀ x ∈ p1, x.block < W.heap.size := by obtain ⟨m, hm⟩ := h1; exact DataW.trod_lt m _ _ _ hm
  refine hcalls.mono fun e W' ⟨he, bel⟩ => ?_
  subst he
  exact ⟨_, rfl, _, _, _, [], _, [], hW', trodAll_mk1 (shut_bool Tryz.underlying4 _), (trodAll_cons_mk (Below.trod laidOut (by kernel_rfl) (of_decide_eq_true (by kernel_rfl)) h0 bel lt0) (trodAll_cons_mk (Below.trod laidOut (by kernel_rfl) (of_decide_eq_true (by kernel_rfl)) h1 bel lt1) trodAll_mk0)), rfl, bel.frame _, fun h => by cases h⟩
theorem and_i {a b : Bool} (h : a = true) (k : b = true) : (a && b) = true := by rw [h, k]; rfl
theorem fact1 : (Rows.fnExactUnmodifiedRow.wf (OpenSpec.ofChange Rows.fnExactUnmodifiedSpec)) = true := by kernel_rfl
theorem fact2 : (laidOutB Tryz.prog) = true := by kernel_rfl
theorem fact3 : (mapsRowed Tryz.prog) = true := by kernel_rfl
theorem fact4 : (Tryz.f4.params.all (Tryz.prog.readableRec ·)) = true := by kernel_rfl
theorem fact5 : (namedTie Tryz.prog Rows.fnExactUnmodifiedRow.named Rows.fnExactUnmodifiedSpec.vars) = true := by kernel_rfl
theorem fact6 : ((Rows.fnExactUnmodifiedRow.stops == [])) = true := by kernel_rfl
theorem fact7 : ((Tryz.prog.stops == [])) = true := by kernel_rfl
theorem fact8 : ((Rows.fnExactUnmodifiedRow.knobs == [])) = true := by kernel_rfl
theorem fact9 : ((Tryz.prog.stopKnobs == [])) = true := by kernel_rfl
theorem fact10 : ((Rows.fnExactUnmodifiedRow.inPlace == Tryz.prog.inPlace 4)) = true := by kernel_rfl
theorem fact11 : ((Rows.fnExactUnmodifiedRow.unfollowed == Tryz.prog.unfollowed 4)) = true := by kernel_rfl
theorem fact12 : ((Rows.fnExactUnmodifiedRow.recurses == Tryz.prog.recurses 4)) = true := by kernel_rfl
theorem fact13 : ((Rows.fnExactUnmodifiedRow.named == Tryz.prog.varsNamed 4)) = true := by kernel_rfl
theorem fact14 : ((Rows.fnExactUnmodifiedRow.maps == (Tryz.f4.params.toList ++ Rows.fnExactUnmodifiedSpec.plain.varTypes Tryz.prog).any (Tryz.prog.mapsRec ·))) = true := by kernel_rfl
theorem fact15 : ((Rows.fnExactUnmodifiedRow.ifaces == (Tryz.f4.params.toList ++ Rows.fnExactUnmodifiedSpec.plain.varTypes Tryz.prog).any (Tryz.prog.ifacesRec ·))) = true := by kernel_rfl
theorem fact16 : ((Rows.fnExactUnmodifiedRow.mapsOut == Tryz.prog.mapsAmong Tryz.f4.resultTypes.toList)) = true := by kernel_rfl
theorem fact17 : ((Rows.fnExactUnmodifiedRow.loops == (Tryz.f4.params.toList ++ Rows.fnExactUnmodifiedSpec.plain.varTypes Tryz.prog).any (Tryz.prog.loopsFrom ·))) = true := by kernel_rfl
theorem fact18 : ((Rows.fnExactUnmodifiedRow.wideKeys == (Tryz.f4.params.toList ++ Rows.fnExactUnmodifiedSpec.plain.varTypes Tryz.prog ++ Tryz.f4.resultTypes.toList).any (Tryz.prog.wideKeysFrom ·))) = true := by kernel_rfl
theorem fact19 : (Rows.fnExactUnmodifiedSpec.vars.all (Tryz.prog.varReadable ·)) = true := by kernel_rfl
theorem fact20 : (Tryz.f4.resultTypes.all (fun t => Tryz.prog.readableRec t && decide (t < Tryz.prog.types.size))) = true := by kernel_rfl
theorem fact21 : ((Rows.fnExactUnmodifiedRow.ifacesOut == Tryz.f4.resultTypes.toList.any (Tryz.prog.ifacesRec ·))) = true := by kernel_rfl
theorem fact22 : ((Rows.fnExactUnmodifiedRow.loopsOut == Tryz.f4.resultTypes.toList.any (Tryz.prog.loopsFrom ·))) = true := by kernel_rfl
theorem fact23 : ((Rows.fnExactUnmodifiedRow.plainKeys == Tryz.prog.plainKeys)) = true := by kernel_rfl
theorem fact24 : (Rows.fnExactUnmodifiedRow.shortTexts.isNone) = true := by kernel_rfl
theorem fact25 : (Tryz.prog.stopsHeard) = true := by kernel_rfl
theorem fact26 : (Tryz.prog.mayEnter) = true := by kernel_rfl
theorem fact27 : ((Rows.fnExactUnmodifiedRow.lifted == Tryz.prog.liftsFinal)) = true := by kernel_rfl
theorem fact28 : ((Tryz.prog.make == some Rows.fnExactUnmodifiedRow.make)) = true := by kernel_rfl
theorem fact29 : ((Rows.fnExactUnmodifiedRow.kinds == (if Rows.fnExactUnmodifiedRow.domain.isEmpty then [] else Tryz.f4.params.toList.map fun t => match Tryz.prog.underlying t with | some (.int k) => some k | _ => none))) = true := by kernel_rfl
theorem fact30 : ((Rows.fnExactUnmodifiedRow.pinned == Rows.fnExactUnmodifiedRow.pinnedBy)) = true := by kernel_rfl
theorem fact31 : ((Rows.fnExactUnmodifiedRow.veiled == (Tryz.f4.params.toList ++ Rows.fnExactUnmodifiedSpec.plain.varTypes Tryz.prog ++ Tryz.f4.resultTypes.toList).any (Tryz.prog.veiledRec ·))) = true := by kernel_rfl
theorem fact32 : (Rows.fnExactUnmodifiedRow.veiledFits Tryz.prog Tryz.f4.params.toList (Tryz.f4.params.toList ++ Rows.fnExactUnmodifiedSpec.plain.varTypes Tryz.prog ++ Tryz.f4.resultTypes.toList)) = true := by kernel_rfl
set_option maxRecDepth 100000 in
theorem closed : joinedFacts Tryz.pinned.checked.prog 4 Tryz.f4 Rows.fnExactUnmodifiedSpec Rows.fnExactUnmodifiedRow = true := by
  unfold joinedFacts
  exact (and_i (and_i (and_i (and_i (and_i (and_i (and_i (and_i (and_i (and_i (and_i (and_i (and_i (and_i (and_i (and_i (and_i (and_i (and_i (and_i (and_i (and_i (and_i (and_i (and_i (and_i (and_i (and_i (and_i (and_i (and_i fact1 fact2) fact3) fact4) fact5) fact6) fact7) fact8) fact9) fact10) fact11) fact12) fact13) fact14) fact15) fact16) fact17) fact18) fact19) fact20) fact21) fact22) fact23) fact24) fact25) fact26) fact27) fact28) fact29) fact30) fact31) fact32)
theorem fact_fn : Tryz.pinned.checked.prog.funcNamed Rows.fnExactUnmodifiedRow.func = some 4 := by kernel_rfl
theorem fact_inst : Tryz.f4.isInstance Tryz.pinned.checked.prog Rows.fnExactUnmodifiedRow.origin Rows.fnExactUnmodifiedRow.targs := of_decide_eq_true (by kernel_rfl)
theorem fact_wrap : Tryz.f4.isWrapper Tryz.pinned.checked.prog Rows.fnExactUnmodifiedRow.wrapper Rows.fnExactUnmodifiedRow.mainSum := by
  unfold Func.isWrapper; first | (rw [if_pos (by decide +kernel)]; kernel_rfl) | (rw [if_neg (by decide +kernel)]; exact ⟨rfl, rfl⟩)
theorem proved : Rows.FnExactUnmodifiedSaid :=
  OpenClaim.holds_of_wide 4 Tryz.f4 rfl rfl rfl rfl rfl rfl rfl ⟨rfl, rfl, rfl, rfl, rfl⟩ rfl rfl rfl rfl rfl fact_fn Tryz.func4 closed
    fact_inst fact_wrap
    (fun os started H enc _ => lifted os started H enc)
end Go.Proofs.YtdknaddanjpdaaaGreatDoor.fnExactUnmodified
namespace Go.Proofs.YtdknaddanjpdaaaGreatDoor
theorem fnExactUnmodifiedCard_holds : Rows.FnExactUnmodifiedCardSaid :=
  Claim7.holds_tied_plain_at .later [] [.data, .data, .data, .data, .sentinel, .sentinel, .pinned] true (true, "10dc61bc3a530c66be45ad793815e2ac2c9a996960a8719ed37c89fe6bf1e4bb") true
    fnExactUnmodified.proved (fun _ h => by cases h) (by kernel_rfl) (fun _ h => by cases h) fnExactUnmodified_row_tie rfl ⟨rfl, rfl⟩ (by kernel_rfl) rfl
    (fun f fn hf hfn => by
      obtain rfl : f = 4 := Option.some.inj ((show Tryz.prog.funcNamed "loop.example/g00651/laws.FnExactUnmodified" = some 4 by kernel_rfl).symm.trans hf) |>.symm
      obtain rfl : fn = Tryz.f4 := (Option.some.inj (Tryz.func4.symm.trans hfn)).symm
      exact ⟨by kernel_rfl, fun j t ht => by
        rw [Tryz.params4] at ht
        have hm : t ∈ [22, 26] := by simpa using Array.mem_of_getElem? ht
        have hall : ([22, 26].all fun u => !Tryz.prog.wantsStandIn u) = true := by kernel_rfl
        exact (show Tryz.prog.wantsStandIn t = false by simpa using List.all_eq_true.1 hall t hm)⟩)
    (by kernel_rfl)
#print axioms fnExactUnmodifiedCard_holds
end Go.Proofs.YtdknaddanjpdaaaGreatDoor
