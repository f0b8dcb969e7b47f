/- The law FnRolls returns true for every argument, and its arguments read behind the call as before. No condition. (printed by evrow.py) -/
import Derived.Test.YtmigffdeghfbhaaRows
import Derived.Test.YtmigffdeghfbhaaK13
import Derived.Test.YtmigffdeghfbhaaK14
import Derived.WalkKit
import Derived.ProofKit
import Derived.OpenShut
import Derived.ShutString
import Derived.ChangeOld
import Derived.Below
import Derived.SizedLaws
import Derived.HandedShaped
namespace Go.Proofs.Ytmigffdeghfbhaa.fnRolls
open Go.ChangeShapes Go.WideShapes Go.ChangeAt Go.RowKit
open Go.ChangeMaps (open_string shut_string)
open Ev
set_option linter.unusedVariables false
theorem own : ownKnob Try.prog.godebug = none := by kernel_rfl
theorem laidOut : laidOutB Try.prog = true := by kernel_rfl
theorem kinds : Try.f4.params.toList.map (viewA Try.prog) = ([(.slice (.int .u8), false)] : List (Ty × Bool)).map some := by kernel_rfl
set_option maxRecDepth 100000 in
theorem lifted (os : Os) (started : os.Started) (H : Type) (enc : TypeId × Value → H) :
    ReturnsInHanded {} Try.checked os 4 .any (Rows.fnRollsSpec.pre6 enc Try.prog Try.f4 Rows.fnRollsRow.domain false) (Rows.fnRollsSpec.post enc Try.prog Try.f4 false true false false) := by
  refine returnsInHanded_of_change_shaped (C := Try.checked) own started (by kernel_rfl) Try.func4
    (ChangeSpec.witness6 (enc := enc) (C := Try.checked) false ⟨#[], #[.slice none 0 0], []⟩ 8 (by kernel_rfl) (by kernel_rfl) (by kernel_rfl) (by kernel_rfl)) ?_
  intro W base args ds gs before hval0 hW hcnd hsz0 hsh _
  have hG : Laid W := ⟨.inl (by kernel_rfl), max_of hsh, errAt_none (by kernel_rfl), errAt_none (by kernel_rfl)⟩
  have hW' := hW
  obtain ⟨p, q, hA0, hV, rfl, hfz, hnd⟩ := hW
  have hA : DataW.TrodAll enc Try.prog W 0 (fun _ => true) true Try.f4.params.toList args.toList ds p := hA0
  obtain ⟨rfl, rfl⟩ := trodVars_none hV
  have hsz1 : (DataW.weightsEach Try.prog Try.f4.params.toList ds).all (· ≤ reachBytes) = true := by
    have e : Rows.fnRollsSpec.plain.varTypes Try.checked.prog = [] := rfl
    rw [e, List.append_nil, List.append_nil] at hsz0
    exact hsz0
  obtain ⟨xs, ha, hrs⟩ := open_args (r := .any) (b0 := base) Try.f4.params.toList kinds hA (fun j t v ht hv => hval0 j t v (by simpa using ht) (by simpa using hv)) (fun m hm => of_decide_eq_true (List.all_eq_true.1 hsz1 m hm))
  have hcalls := law_calls (K := Kx) (W := W) Try.func4 rfl (by kernel_rfl) (lRolls_ok) hG (laid_le hG) hrs (fnRolls_true xs ha)
  rw [Array.toArray_toList] at hcalls
  rw [Try.params4] at hA
  obtain ⟨v0, vs0, d0, ds0, p0, q0, hargs, rfl, rfl, h0, r0⟩ := trodAll_cons hA
  obtain ⟨rfl, rfl, rfl⟩ := trodAll_nil r0
  obtain rfl : args = #[v0] := by cases args; simp_all
  have lt0 : ∀ x ∈ p0, x.block < W.heap.size := by obtain ⟨m, hm⟩ := h0; exact DataW.trod_lt m _ _ _ hm
  refine hcalls.mono fun e W' ⟨he, bel⟩ => ?_
  subst he
  exact ⟨_, rfl, _, _, _, [], _, [], hW', trodAll_mk1 (shut_bool Try.underlying4 _), (trodAll_cons_mk (Below.trod laidOut (by kernel_rfl) (of_decide_eq_true (by kernel_rfl)) h0 bel lt0) trodAll_mk0), rfl, bel.frame _, fun h => by cases h⟩
theorem and_i {a b : Bool} (h : a = true) (k : b = true) : (a && b) = true := by rw [h, k]; rfl
theorem fact1 : (Rows.fnRollsRow.wf (OpenSpec.ofChange Rows.fnRollsSpec)) = true := by kernel_rfl
theorem fact2 : (laidOutB Try.prog) = true := by kernel_rfl
theorem fact3 : (mapsRowed Try.prog) = true := by kernel_rfl
theorem fact4 : (Try.f4.params.all (Try.prog.readableRec ·)) = true := by kernel_rfl
theorem fact5 : (namedTie Try.prog Rows.fnRollsRow.named Rows.fnRollsSpec.vars) = true := by kernel_rfl
theorem fact6 : ((Rows.fnRollsRow.stops == [])) = true := by kernel_rfl
theorem fact7 : ((Try.prog.stops == [])) = true := by kernel_rfl
theorem fact8 : ((Rows.fnRollsRow.knobs == [])) = true := by kernel_rfl
theorem fact9 : ((Try.prog.stopKnobs == [])) = true := by kernel_rfl
theorem fact10 : ((Rows.fnRollsRow.inPlace == Try.prog.inPlace 4)) = true := by kernel_rfl
theorem fact11 : ((Rows.fnRollsRow.unfollowed == Try.prog.unfollowed 4)) = true := by kernel_rfl
theorem fact12 : ((Rows.fnRollsRow.recurses == Try.prog.recurses 4)) = true := by kernel_rfl
theorem fact13 : ((Rows.fnRollsRow.named == Try.prog.varsNamed 4)) = true := by kernel_rfl
theorem fact14 : ((Rows.fnRollsRow.maps == (Try.f4.params.toList ++ Rows.fnRollsSpec.plain.varTypes Try.prog).any (Try.prog.mapsRec ·))) = true := by kernel_rfl
theorem fact15 : ((Rows.fnRollsRow.ifaces == (Try.f4.params.toList ++ Rows.fnRollsSpec.plain.varTypes Try.prog).any (Try.prog.ifacesRec ·))) = true := by kernel_rfl
theorem fact16 : ((Rows.fnRollsRow.mapsOut == Try.prog.mapsAmong Try.f4.resultTypes.toList)) = true := by kernel_rfl
theorem fact17 : ((Rows.fnRollsRow.loops == (Try.f4.params.toList ++ Rows.fnRollsSpec.plain.varTypes Try.prog).any (Try.prog.loopsFrom ·))) = true := by kernel_rfl
theorem fact18 : ((Rows.fnRollsRow.wideKeys == (Try.f4.params.toList ++ Rows.fnRollsSpec.plain.varTypes Try.prog ++ Try.f4.resultTypes.toList).any (Try.prog.wideKeysFrom ·))) = true := by kernel_rfl
theorem fact19 : (Rows.fnRollsSpec.vars.all (Try.prog.varReadable ·)) = true := by kernel_rfl
theorem fact20 : (Try.f4.resultTypes.all (fun t => Try.prog.readableRec t && decide (t < Try.prog.types.size))) = true := by kernel_rfl
theorem fact21 : ((Rows.fnRollsRow.ifacesOut == Try.f4.resultTypes.toList.any (Try.prog.ifacesRec ·))) = true := by kernel_rfl
theorem fact22 : ((Rows.fnRollsRow.loopsOut == Try.f4.resultTypes.toList.any (Try.prog.loopsFrom ·))) = true := by kernel_rfl
theorem fact23 : ((Rows.fnRollsRow.plainKeys == Try.prog.plainKeys)) = true := by kernel_rfl
theorem fact24 : (Rows.fnRollsRow.shortTexts.isNone) = true := by kernel_rfl
theorem fact25 : (Try.prog.stopsHeard) = true := by kernel_rfl
theorem fact26 : (Try.prog.mayEnter) = true := by kernel_rfl
theorem fact27 : ((Rows.fnRollsRow.lifted == Try.prog.liftsFinal)) = true := by kernel_rfl
theorem fact28 : ((Try.prog.make == some Rows.fnRollsRow.make)) = true := by kernel_rfl
theorem fact29 : ((Rows.fnRollsRow.kinds == (if Rows.fnRollsRow.domain.isEmpty then [] else Try.f4.params.toList.map fun t => match Try.prog.underlying t with | some (.int k) => some k | _ => none))) = true := by kernel_rfl
theorem fact30 : ((Rows.fnRollsRow.pinned == Rows.fnRollsRow.pinnedBy)) = true := by kernel_rfl
theorem fact31 : ((Rows.fnRollsRow.veiled == (Try.f4.params.toList ++ Rows.fnRollsSpec.plain.varTypes Try.prog ++ Try.f4.resultTypes.toList).any (Try.prog.veiledRec ·))) = true := by kernel_rfl
theorem fact32 : (Rows.fnRollsRow.veiledFits Try.prog Try.f4.params.toList (Try.f4.params.toList ++ Rows.fnRollsSpec.plain.varTypes Try.prog ++ Try.f4.resultTypes.toList)) = true := by kernel_rfl
set_option maxRecDepth 100000 in
theorem closed : joinedFacts Try.pinned.checked.prog 4 Try.f4 Rows.fnRollsSpec Rows.fnRollsRow = true := by
  unfold joinedFacts
  exact (and_i (and_i (and_i (and_i (and_i (and_i (and_i (and_i (and_i (and_i (and_i (and_i (and_i (and_i (and_i (and_i (and_i (and_i (and_i (and_i (and_i (and_i (and_i (and_i (and_i (and_i (and_i (and_i (and_i (and_i (and_i fact1 fact2) fact3) fact4) fact5) fact6) fact7) fact8) fact9) fact10) fact11) fact12) fact13) fact14) fact15) fact16) fact17) fact18) fact19) fact20) fact21) fact22) fact23) fact24) fact25) fact26) fact27) fact28) fact29) fact30) fact31) fact32)
theorem fact_fn : Try.pinned.checked.prog.funcNamed Rows.fnRollsRow.func = some 4 := by kernel_rfl
theorem fact_inst : Try.f4.isInstance Try.pinned.checked.prog Rows.fnRollsRow.origin Rows.fnRollsRow.targs := of_decide_eq_true (by kernel_rfl)
theorem fact_wrap : Try.f4.isWrapper Try.pinned.checked.prog Rows.fnRollsRow.wrapper Rows.fnRollsRow.mainSum := by
  unfold Func.isWrapper; first | (rw [if_pos (by decide +kernel)]; kernel_rfl) | (rw [if_neg (by decide +kernel)]; exact ⟨rfl, rfl⟩)
theorem proved : Rows.FnRollsSaid :=
  OpenClaim.holds_of_wide 4 Try.f4 rfl rfl rfl rfl rfl rfl rfl ⟨rfl, rfl, rfl, rfl, rfl⟩ rfl rfl rfl rfl rfl fact_fn Try.func4 closed
    fact_inst fact_wrap
    (fun os started H enc _ => lifted os started H enc)
end Go.Proofs.Ytmigffdeghfbhaa.fnRolls
namespace Go.Proofs.Ytmigffdeghfbhaa
/-- The row, under a short name, for the claim. -/
theorem fnRolls_holds : Rows.FnRollsSaid := fnRolls.proved
#print axioms fnRolls_holds
end Go.Proofs.Ytmigffdeghfbhaa
