/- Printed by dec.py. -/
import Derived.Test.YthdiildelpmknaaConfH
namespace Go.Proofs.Ythdiildelpmknaa.Ev
open Go Go.RowKit
set_option linter.unusedVariables false
set_option linter.unusedSimpArgs false

/-! laws.FnExactConfOk -/
def lConfOk_O : Opt := { cons := [], keepNil := false, mutF := [], live := [], outs := [] }
def lConfOk_C : Spec := (add (add (add (add noS 19 szConf_s) 21 toConf_s) 20 confQ_s) 22 confQ_s)
theorem lConfOk_C_ok : ∀ fn, Sound Kx fn (lConfOk_C fn) := (sound_add (sound_add (sound_add (sound_add (sound_no Kx) szConf_ok) toConf_ok) sConf_okQ) iConf_okQ)
def lConfOk_br (a b c d : Int) (s : List UInt8) : Br := (Br.ite (decide ((wrap64 ((1048576 : Int) - ((List.length s) : Int))) < (0 : Int))) (Br.ret (AV.bool true) ([] : (List (Ob)))) (Br.ite (decide ((wrap64 ((1048576 : Int) - ((List.length s) : Int))) < (0 : Int))) (Br.ret (AV.bool true) ([] : (List (Ob)))) (Br.ite (!((confP a b c d s) == (confP a b c d s))) (Br.ret (AV.bool false) ([] : (List (Ob)))) (Br.ret (AV.bool true) ([] : (List (Ob)))))))
theorem lConfOk_run (a b c d : Int) (s : List UInt8) : runF Kx lConfOk_C lConfOk_O 1 Try.f4 ([.agg [.int .i64 a, .int .i64 b, .int .i64 c, .int .i64 d, .str s]]) ([]) = (lConfOk_br a b c d s).val := by kernel_rfl
def lConfOk_s : List AV → List Ob → Br
  | [.agg [.int .i64 a, .int .i64 b, .int .i64 c, .int .i64 d, .str s]], [] => lConfOk_br a b c d s
  | _, _ => .fail
theorem lConfOk_ok : Sound Kx 4 lConfOk_s := by
  refine sound_run (C := lConfOk_C) (O := lConfOk_O) KOk lConfOk_C_ok Try.func4 (by kernel_rfl) fun args objs res os h => ?_
  unfold lConfOk_s at h
  split at h
  · exact ⟨1, (lConfOk_run _ _ _ _ _).trans h⟩
  · cases h

end Go.Proofs.Ythdiildelpmknaa.Ev
