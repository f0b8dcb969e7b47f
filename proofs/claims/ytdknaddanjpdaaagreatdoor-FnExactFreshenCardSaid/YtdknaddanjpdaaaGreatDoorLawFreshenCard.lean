/- The law FnExactFreshen returns true for every argument, and its arguments read behind the call as before. Condition: the listed tables read as listed; the tied card pays it by the program's own text. (printed by evrow.py) -/
import Derived.Test.YtdknaddanjpdaaaGreatDoorRows
import Derived.Test.YtdknaddanjpdaaaGreatDoorK28
import Derived.Test.YtdknaddanjpdaaaGreatDoorK29
import Derived.Test.YtdknaddanjpdaaaGreatDoorTie
import Derived.Test.YtdknaddanjpdaaaGreatDoorCards
import Derived.WalkKit
import Derived.ProofKit
import Derived.OpenShut
import Derived.ShutString
import Derived.ChangeOld
import Derived.Below
import Derived.SizedLaws
import Derived.HandedShaped
import Derived.LaidMore
import Derived.MakeChecks
import Derived.SevenTiedAt
import Derived.Lay
namespace Go.Proofs.YtdknaddanjpdaaaGreatDoor.fnExactFreshen
open Go.ChangeShapes Go.WideShapes Go.ChangeAt Go.RowKit
open Go.ChangeMaps (open_string shut_string)
open Ev
set_option linter.unusedVariables false
theorem own : ownKnob Tryz.prog.godebug = none := by kernel_rfl
theorem laidOut : laidOutB Tryz.prog = true := by kernel_rfl
theorem kinds : Tryz.f6.params.toList.map (viewA Tryz.prog) = ([(tyEnt, true), (tyMsgE, true), (.int .i64, false), (.int .i64, false)] : List (Ty × Bool)).map some := by kernel_rfl
theorem door_met (os : Os) (args : Array Value) : laidMetH Tryz.prog Rows.fnExactFreshenRow.laid ((World.laidAll Tryz.prog os Rows.fnExactFreshenRow.laid).forCall (fun _ _ => 0) ⟨#[], args, []⟩).memory := by
  rw [MakeChecks.laidMetH_plain _ _ _ (by kernel_rfl)]; exact laidMet_laidAll _ (by kernel_rfl) (by kernel_rfl)
theorem lay_shaped (os : Os) (args : Array Value) : ((World.laidAll Tryz.prog os Rows.fnExactFreshenRow.laid).forCall (fun _ _ => 0) ⟨#[], args, []⟩).Shaped Tryz.prog := World.shaped_of_ZipB (by kernel_rfl) (by kernel_rfl)
theorem listed : (Rows.fnExactFreshenRow.laid.all fun x => x.2.handleName?.isNone) = true := by kernel_rfl
theorem errS : (Rows.fnExactFreshenRow.laid.filter fun x => x.1 == "strconv.ErrSyntax") = [("strconv.ErrSyntax", Rows.laid_strconv_ErrSyntax)] := by kernel_rfl
theorem errR : (Rows.fnExactFreshenRow.laid.filter fun x => x.1 == "strconv.ErrRange") = [("strconv.ErrRange", Rows.laid_strconv_ErrRange)] := by kernel_rfl
theorem powers : (Rows.fnExactFreshenRow.laid.filter fun x => x.1 == "internal/strconv.uint64pow10") = [("internal/strconv.uint64pow10", Lib.tabData .u64 Lib.pow10Tab)] := by kernel_rfl
set_option maxRecDepth 100000 in
theorem lifted (os : Os) (started : os.Started) (H : Type) (enc : TypeId × Value → H) :
    ReturnsInHanded {} Tryz.checked os 6 .any (fun w args => (Rows.fnExactFreshenSpec.pre enc Tryz.prog Tryz.f6 Rows.fnExactFreshenRow.domain false w args ∧ laidMetH Tryz.prog Rows.fnExactFreshenRow.laid w) ∧ sizedMet enc Tryz.prog Tryz.f6 (OpenSpec.ofChange Rows.fnExactFreshenSpec) false w args) (Rows.fnExactFreshenSpec.post enc Tryz.prog Tryz.f6 false true false false) := by
  refine returns_listed (C := Tryz.checked) (X := fun w _ => laidMetH Tryz.prog Rows.fnExactFreshenRow.laid w) (fun _ _ _ hh h => h.of_heap hh) own started (by kernel_rfl) Tryz.func6
    (ChangeSpec.witness_shaped (enc := enc) (C := Tryz.checked) (os := os) (X := fun w _ => laidMetH Tryz.prog Rows.fnExactFreshenRow.laid w) false (World.laidAll Tryz.prog os Rows.fnExactFreshenRow.laid) #[.agg #[.string ⟨#[]⟩, .int .i64 0, .int .i64 0, .slice none 0 0, .string ⟨#[]⟩, .string ⟨#[]⟩, .int .i64 0, .string ⟨#[]⟩, .bool false, .slice none 0 0, .string ⟨#[]⟩], .agg #[.string ⟨#[]⟩, .string ⟨#[]⟩, .int .i64 0, .string ⟨#[]⟩, .bool false, .slice none 0 0, .string ⟨#[]⟩], .int .i64 0, .int .i64 0] 8 (World.laidAll_os _ _ _) (lay_shaped os _) (by kernel_rfl) (by kernel_rfl) (by kernel_rfl) (door_met os _)) ?_
  intro W base args ds gs before hval0 hW hsz0 hL hsh
  have hG : Laid W := ⟨tab_of hL listed powers, max_of hsh, errS_of hL listed errS, errR_of hL listed errR⟩
  have hW' := hW
  obtain ⟨p, q, hA0, hV, rfl, hfz, hnd⟩ := hW
  have hA : DataW.TrodAll enc Tryz.prog W 0 (fun _ => true) true Tryz.f6.params.toList args.toList ds p := hA0
  obtain ⟨rfl, rfl⟩ := trodVars_none hV
  have hsz1 : (DataW.weightsEach Tryz.prog Tryz.f6.params.toList ds).all (· ≤ reachBytes) = true := by
    have e : Rows.fnExactFreshenSpec.plain.varTypes Tryz.checked.prog = [] := rfl
    rw [e, List.append_nil, List.append_nil] at hsz0
    exact hsz0
  obtain ⟨xs, ha, hrs⟩ := open_args (r := .any) (b0 := base) Tryz.f6.params.toList kinds hA (fun j t v ht hv => hval0 j t v (by simpa using ht) (by simpa using hv)) (fun m hm => of_decide_eq_true (List.all_eq_true.1 hsz1 m hm))
  have hcalls := law_calls (K := Kx) (W := W) Tryz.func6 rfl (by kernel_rfl) (lFre_ok) hG (laid_le hG) hrs (fnExactFreshen_true xs ha)
  rw [Array.toArray_toList] at hcalls
  rw [Tryz.params6] at hA
  obtain ⟨v0, vs0, d0, ds0, p0, q0, hargs, rfl, rfl, h0, r0⟩ := trodAll_cons hA
  obtain ⟨v1, vs1, d1, ds1, p1, q1, rfl, rfl, rfl, h1, r1⟩ := trodAll_cons r0
  obtain ⟨v2, vs2, d2, ds2, p2, q2, rfl, rfl, rfl, h2, r2⟩ := trodAll_cons r1
  obtain ⟨v3, vs3, d3, ds3, p3, q3, rfl, rfl, rfl, h3, r3⟩ := trodAll_cons r2
  obtain ⟨rfl, rfl, rfl⟩ := trodAll_nil r3
  obtain rfl : args = #[v0, v1, v2, v3] := by cases args; simp_all
  have lt0 : ∀ x ∈ p0, x.block < W.heap.size := by obtain ⟨m, hm⟩ := h0; exact DataW.trod_lt m _ _ _ hm
  have lt1 : ∀ x ∈ p1, x.block < W.heap.size := by obtain ⟨m, hm⟩ := h1; exact DataW.trod_lt m _ _ _ hm
  have lt2 : ∀ x ∈ p2, x.block < W.heap.size := by obtain ⟨m, hm⟩ := h2; exact DataW.trod_lt m _ _ _ hm
  have lt3 : ∀ x ∈ p3, x.block < W.heap.size := by obtain ⟨m, hm⟩ := h3; exact DataW.trod_lt m _ _ _ hm
  refine hcalls.mono fun e W' ⟨he, bel⟩ => ?_
  subst he
  exact ⟨_, rfl, _, _, _, [], _, [], hW', trodAll_mk1 (shut_bool Tryz.underlying4 _), (trodAll_cons_mk (Below.trod laidOut (by kernel_rfl) (of_decide_eq_true (by kernel_rfl)) h0 bel lt0) (trodAll_cons_mk (Below.trod laidOut (by kernel_rfl) (of_decide_eq_true (by kernel_rfl)) h1 bel lt1) (trodAll_cons_mk (Below.trod laidOut (by kernel_rfl) (of_decide_eq_true (by kernel_rfl)) h2 bel lt2) (trodAll_cons_mk (Below.trod laidOut (by kernel_rfl) (of_decide_eq_true (by kernel_rfl)) h3 bel lt3) trodAll_mk0)))), rfl, bel.frame _, fun h => by cases h⟩
theorem and_i {a b : Bool} (h : a = true) (k : b = true) : (a && b) = true := by rw [h, k]; rfl
theorem fact1 : (Rows.fnExactFreshenRow.wf (OpenSpec.ofChange Rows.fnExactFreshenSpec)) = true := by kernel_rfl
theorem fact2 : (laidOutB Tryz.prog) = true := by kernel_rfl
theorem fact3 : (mapsRowed Tryz.prog) = true := by kernel_rfl
theorem fact4 : (Tryz.f6.params.all (Tryz.prog.readableRec ·)) = true := by kernel_rfl
theorem fact5 : (namedTie Tryz.prog Rows.fnExactFreshenRow.named Rows.fnExactFreshenSpec.vars) = true := by kernel_rfl
theorem fact6 : ((Rows.fnExactFreshenRow.stops == [])) = true := by kernel_rfl
theorem fact7 : ((Tryz.prog.stops == [])) = true := by kernel_rfl
theorem fact8 : ((Rows.fnExactFreshenRow.knobs == [])) = true := by kernel_rfl
theorem fact9 : ((Tryz.prog.stopKnobs == [])) = true := by kernel_rfl
theorem fact10 : ((Rows.fnExactFreshenRow.inPlace == Tryz.prog.inPlace 6)) = true := by kernel_rfl
theorem fact11 : ((Rows.fnExactFreshenRow.unfollowed == Tryz.prog.unfollowed 6)) = true := by kernel_rfl
theorem fact12 : ((Rows.fnExactFreshenRow.recurses == Tryz.prog.recurses 6)) = true := by kernel_rfl
theorem fact13 : ((Rows.fnExactFreshenRow.named == Tryz.prog.varsNamed 6)) = true := by kernel_rfl
theorem fact14 : ((Rows.fnExactFreshenRow.maps == (Tryz.f6.params.toList ++ Rows.fnExactFreshenSpec.plain.varTypes Tryz.prog).any (Tryz.prog.mapsRec ·))) = true := by kernel_rfl
theorem fact15 : ((Rows.fnExactFreshenRow.ifaces == (Tryz.f6.params.toList ++ Rows.fnExactFreshenSpec.plain.varTypes Tryz.prog).any (Tryz.prog.ifacesRec ·))) = true := by kernel_rfl
theorem fact16 : ((Rows.fnExactFreshenRow.mapsOut == Tryz.prog.mapsAmong Tryz.f6.resultTypes.toList)) = true := by kernel_rfl
theorem fact17 : ((Rows.fnExactFreshenRow.loops == (Tryz.f6.params.toList ++ Rows.fnExactFreshenSpec.plain.varTypes Tryz.prog).any (Tryz.prog.loopsFrom ·))) = true := by kernel_rfl
theorem fact18 : ((Rows.fnExactFreshenRow.wideKeys == (Tryz.f6.params.toList ++ Rows.fnExactFreshenSpec.plain.varTypes Tryz.prog ++ Tryz.f6.resultTypes.toList).any (Tryz.prog.wideKeysFrom ·))) = true := by kernel_rfl
theorem fact19 : (Rows.fnExactFreshenSpec.vars.all (Tryz.prog.varReadable ·)) = true := by kernel_rfl
theorem fact20 : (Tryz.f6.resultTypes.all (fun t => Tryz.prog.readableRec t && decide (t < Tryz.prog.types.size))) = true := by kernel_rfl
theorem fact21 : ((Rows.fnExactFreshenRow.ifacesOut == Tryz.f6.resultTypes.toList.any (Tryz.prog.ifacesRec ·))) = true := by kernel_rfl
theorem fact22 : ((Rows.fnExactFreshenRow.loopsOut == Tryz.f6.resultTypes.toList.any (Tryz.prog.loopsFrom ·))) = true := by kernel_rfl
theorem fact23 : ((Rows.fnExactFreshenRow.plainKeys == Tryz.prog.plainKeys)) = true := by kernel_rfl
theorem fact24 : (Rows.fnExactFreshenRow.shortTexts.isNone) = true := by kernel_rfl
theorem fact25 : (Tryz.prog.stopsHeard) = true := by kernel_rfl
theorem fact26 : (Tryz.prog.mayEnter) = true := by kernel_rfl
theorem fact27 : ((Rows.fnExactFreshenRow.lifted == Tryz.prog.liftsFinal)) = true := by kernel_rfl
theorem fact28 : ((Tryz.prog.make == some Rows.fnExactFreshenRow.make)) = true := by kernel_rfl
theorem fact29 : ((Rows.fnExactFreshenRow.kinds == (if Rows.fnExactFreshenRow.domain.isEmpty then [] else Tryz.f6.params.toList.map fun t => match Tryz.prog.underlying t with | some (.int k) => some k | _ => none))) = true := by kernel_rfl
theorem fact30 : ((Rows.fnExactFreshenRow.pinned == Rows.fnExactFreshenRow.pinnedBy)) = true := by kernel_rfl
theorem fact31 : ((Rows.fnExactFreshenRow.veiled == (Tryz.f6.params.toList ++ Rows.fnExactFreshenSpec.plain.varTypes Tryz.prog ++ Tryz.f6.resultTypes.toList).any (Tryz.prog.veiledRec ·))) = true := by kernel_rfl
theorem fact32 : (Rows.fnExactFreshenRow.veiledFits Tryz.prog Tryz.f6.params.toList (Tryz.f6.params.toList ++ Rows.fnExactFreshenSpec.plain.varTypes Tryz.prog ++ Tryz.f6.resultTypes.toList)) = true := by kernel_rfl
set_option maxRecDepth 100000 in
theorem closed : joinedFacts Tryz.pinned.checked.prog 6 Tryz.f6 Rows.fnExactFreshenSpec Rows.fnExactFreshenRow = true := by
  unfold joinedFacts
  exact (and_i (and_i (and_i (and_i (and_i (and_i (and_i (and_i (and_i (and_i (and_i (and_i (and_i (and_i (and_i (and_i (and_i (and_i (and_i (and_i (and_i (and_i (and_i (and_i (and_i (and_i (and_i (and_i (and_i (and_i (and_i fact1 fact2) fact3) fact4) fact5) fact6) fact7) fact8) fact9) fact10) fact11) fact12) fact13) fact14) fact15) fact16) fact17) fact18) fact19) fact20) fact21) fact22) fact23) fact24) fact25) fact26) fact27) fact28) fact29) fact30) fact31) fact32)
theorem fact_fn : Tryz.pinned.checked.prog.funcNamed Rows.fnExactFreshenRow.func = some 6 := by kernel_rfl
theorem fact_inst : Tryz.f6.isInstance Tryz.pinned.checked.prog Rows.fnExactFreshenRow.origin Rows.fnExactFreshenRow.targs := of_decide_eq_true (by kernel_rfl)
theorem fact_wrap : Tryz.f6.isWrapper Tryz.pinned.checked.prog Rows.fnExactFreshenRow.wrapper Rows.fnExactFreshenRow.mainSum := by
  unfold Func.isWrapper; first | (rw [if_pos (by decide +kernel)]; kernel_rfl) | (rw [if_neg (by decide +kernel)]; exact ⟨rfl, rfl⟩)
theorem proved : Rows.FnExactFreshenSaid :=
  OpenClaim.holds_of_wide 6 Tryz.f6 rfl rfl rfl rfl rfl rfl rfl ⟨rfl, rfl, rfl, rfl, rfl⟩ rfl rfl rfl rfl rfl fact_fn Tryz.func6 closed
    fact_inst fact_wrap
    (fun os started H enc _ => lifted os started H enc)
end Go.Proofs.YtdknaddanjpdaaaGreatDoor.fnExactFreshen
namespace Go.Proofs.YtdknaddanjpdaaaGreatDoor
theorem fnExactFreshenCard_holds : Rows.FnExactFreshenCardSaid :=
  Claim7.holds_tied_plain_at .later [] [.data, .data, .data, .data, .sentinel, .sentinel, .pinned] true (true, "10dc61bc3a530c66be45ad793815e2ac2c9a996960a8719ed37c89fe6bf1e4bb") true
    fnExactFreshen.proved (fun _ h => by cases h) (by kernel_rfl) (fun _ h => by cases h) fnExactFreshen_row_tie rfl ⟨rfl, rfl⟩ (by kernel_rfl) rfl
    (fun f fn hf hfn => by
      obtain rfl : f = 6 := Option.some.inj ((show Tryz.prog.funcNamed "loop.example/g00651/laws.FnExactFreshen" = some 6 by kernel_rfl).symm.trans hf) |>.symm
      obtain rfl : fn = Tryz.f6 := (Option.some.inj (Tryz.func6.symm.trans hfn)).symm
      exact ⟨by kernel_rfl, fun j t ht => by
        rw [Tryz.params6] at ht
        have hm : t ∈ [26, 24, 3, 3] := by simpa using Array.mem_of_getElem? ht
        have hall : ([26, 24, 3, 3].all fun u => !Tryz.prog.wantsStandIn u) = true := by kernel_rfl
        exact (show Tryz.prog.wantsStandIn t = false by simpa using List.all_eq_true.1 hall t hm)⟩)
    (by kernel_rfl)
#print axioms fnExactFreshenCard_holds
end Go.Proofs.YtdknaddanjpdaaaGreatDoor
