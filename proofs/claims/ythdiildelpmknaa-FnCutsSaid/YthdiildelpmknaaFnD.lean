/- Printed by dec.py. -/
import Derived.Test.YthdiildelpmknaaFnM
namespace Go.Proofs.Ythdiildelpmknaa.Ev
open Go Go.RowKit
set_option linter.unusedVariables false
set_option linter.unusedSimpArgs false
noncomputable section

/-! laws.FnCuts -/
def lCuts_O : Opt := { cons := [], keepNil := false, mutF := [], live := [], outs := [], split := true }
def lCuts_C : Spec := (add (add (add (add (add (add (add (add (add (add noS 58 drCutQ_s) 33 cutQ_s) 32 cutQ_s) 44 disks_s) 54 prefixQ_s) 46 allPQ_s) 52 allPQ_s) 48 usedQ_s) 59 usedQ_s) 47 looseQ_s)
theorem lCuts_C_ok : ∀ fn, Sound Kx fn (lCuts_C fn) := (sound_add (sound_add (sound_add (sound_add (sound_add (sound_add (sound_add (sound_add (sound_add (sound_add (sound_no Kx) drCut_okQ) iCut_okQ) sCut_okQ) disks_ok) lwithin_okQ) iAll_okQ) sAll_okQ) iUsed_okQ) sUsed_okQ) iLoose_okQ)
def lCuts_br (code : List Int) : Br := (Br.ite (decide ((List.length code) ≤ (281474976710656 : Nat))) (Br.ite (smS (rL code)) (Br.ite (smS (rL code)) (Br.ite (!(decide ((cutP (rL code) (rC code) (kCut code)).2.2 = (cutP (rL code) (rC code) (kCut code)).2.2))) (Br.ite (decide ((cutP (rL code) (rC code) (kCut code)).2.2 = (cutP (rL code) (rC code) (kCut code)).2.2)) (Br.ite (decide (((List.length (cutP (rL code) (rC code) (kCut code)).1) : Int) = (0 : Int))) (Br.ret (AV.bool true) ([] : (List (Ob)))) (Br.ret (AV.bool false) ([] : (List (Ob))))) (Br.ret (AV.bool false) ([] : (List (Ob))))) (Br.ite (!(decide ((cutP (rL code) (rC code) (kCut code)).2.2 = (0 : Int)))) (Br.ite (decide ((cutP (rL code) (rC code) (kCut code)).2.2 = (cutP (rL code) (rC code) (kCut code)).2.2)) (Br.ite (decide (((List.length (cutP (rL code) (rC code) (kCut code)).1) : Int) = (0 : Int))) (Br.ret (AV.bool true) ([] : (List (Ob)))) (Br.ret (AV.bool false) ([] : (List (Ob))))) (Br.ret (AV.bool false) ([] : (List (Ob))))) (Br.ite (decide ((0 : Int) ≤ (wrap64 (((List.length (rL code)) : Int) - (1 : Int))))) (Br.ite (decide ((wrap64 (((List.length (rL code)) : Int) - (1 : Int))) < ((List.length (rL code)) : Int))) (Br.ite (smS (cutP (rL code) (rC code) (kCut code)).1) (Br.ite (smS (rL code)) (Br.ite (prefixB (allP (cutP (rL code) (rC code) (kCut code)).1 (cutP (rL code) (rC code) (kCut code)).2.1) (allP (rL code) (rC code))) (Br.ite (smS (cutP (rL code) (rC code) (kCut code)).1) (Br.ite (smS (rL code)) (Br.ite (decide ((usedP (cutP (rL code) (rC code) (kCut code)).1 (cutP (rL code) (rC code) (kCut code)).2.1) = (wrap64 ((usedP (rL code) (rC code)) - (wrap64 (((List.length (List.getD (rL code) (Int.toNat (wrap64 (((List.length (rL code)) : Int) - (1 : Int)))) (([] : (List UInt8)), (0 : Int))).1) : Int) - (kCut code))))))) (Br.ite (smS (cutP (rL code) (rC code) (kCut code)).1) (Br.ite (decide ((looseP (cutP (rL code) (rC code) (kCut code)).1 (cutP (rL code) (rC code) (kCut code)).2.1) = (0 : Int))) (Br.ret (AV.bool true) ([] : (List (Ob)))) (Br.ret (AV.bool false) ([] : (List (Ob))))) Br.fail) (Br.ret (AV.bool false) ([] : (List (Ob))))) Br.fail) Br.fail) (Br.ret (AV.bool false) ([] : (List (Ob))))) Br.fail) Br.fail) Br.fail) Br.fail))) Br.fail) Br.fail) Br.fail)
theorem lCuts_run (code : List Int) : runF Kx lCuts_C lCuts_O 1 Try.f14 ([.sh (.int .u8) code]) ([]) = (lCuts_br code).val := by kernel_rfl
def lCuts_s : List AV → List Ob → Br
  | [.sh (.int .u8) code], [] => lCuts_br code
  | _, _ => .fail
theorem lCuts_ok : Sound Kx 14 lCuts_s := by
  refine sound_run (C := lCuts_C) (O := lCuts_O) KOk lCuts_C_ok Try.func14 (by kernel_rfl) fun args objs res os h => ?_
  unfold lCuts_s at h
  split at h
  · exact ⟨1, (lCuts_run _).trans h⟩
  · cases h

end
end Go.Proofs.Ythdiildelpmknaa.Ev
