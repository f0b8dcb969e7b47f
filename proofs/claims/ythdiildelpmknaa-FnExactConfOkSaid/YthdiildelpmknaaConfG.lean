/- Printed by dec.py. -/
import Derived.Test.YthdiildelpmknaaConfF
namespace Go.Proofs.Ythdiildelpmknaa.Ev
open Go Go.RowKit
set_option linter.unusedVariables false
set_option linter.unusedSimpArgs false

/-! spec.l16nick -/
def l16nick_O : Opt := { cons := [], keepNil := false, mutF := [], live := [], outs := [] }
def l16nick_C : Spec := (add noS 88 tokenQ_s)
theorem l16nick_C_ok : ∀ fn, Sound Kx fn (l16nick_C fn) := (sound_add (sound_no Kx) sToken_ok)
def l16nick_br (s : List UInt8) : Br := (Br.ite (decide (((List.length s) : Int) ≤ (20 : Int))) (Br.ret (AV.bool (tokS s)) ([] : (List (Ob)))) (Br.ret (AV.bool false) ([] : (List (Ob)))))
theorem l16nick_run (s : List UInt8) : runF Kx l16nick_C l16nick_O 1 Try.f62 ([.str s]) ([]) = (l16nick_br s).val := by kernel_rfl
def l16nick_s : List AV → List Ob → Br
  | [.str s], [] => l16nick_br s
  | _, _ => .fail
theorem l16nick_ok : Sound Kx 62 l16nick_s := by
  refine sound_run (C := l16nick_C) (O := l16nick_O) KOk l16nick_C_ok Try.func62 (by kernel_rfl) fun args objs res os h => ?_
  unfold l16nick_s at h
  split at h
  · exact ⟨1, (l16nick_run _).trans h⟩
  · cases h

/-! impl.isNick -/
def isNick_O : Opt := { cons := [], keepNil := false, mutF := [], live := [], outs := [] }
def isNick_C : Spec := (add noS 89 tokenQ_s)
theorem isNick_C_ok : ∀ fn, Sound Kx fn (isNick_C fn) := (sound_add (sound_no Kx) iToken_okQ)
def isNick_br (s : List UInt8) : Br := (Br.ite (tokS s) (Br.ret (AV.bool (decide (((List.length s) : Int) ≤ (20 : Int)))) ([] : (List (Ob)))) (Br.ret (AV.bool false) ([] : (List (Ob)))))
theorem isNick_run (s : List UInt8) : runF Kx isNick_C isNick_O 1 Try.f65 ([.str s]) ([]) = (isNick_br s).val := by kernel_rfl
def isNick_s : List AV → List Ob → Br
  | [.str s], [] => isNick_br s
  | _, _ => .fail
theorem isNick_ok : Sound Kx 65 isNick_s := by
  refine sound_run (C := isNick_C) (O := isNick_O) KOk isNick_C_ok Try.func65 (by kernel_rfl) fun args objs res os h => ?_
  unfold isNick_s at h
  split at h
  · exact ⟨1, (isNick_run _).trans h⟩
  · cases h

/-! spec.ConfOk -/
def sConf_O : Opt := { cons := [], keepNil := false, mutF := [], live := [], outs := [] }
def sConf_C : Spec := (add (add (add noS 61 sArch_s) 38 sCNew_s) 62 l16nick_s)
theorem sConf_C_ok : ∀ fn, Sound Kx fn (sConf_C fn) := (sound_add (sound_add (sound_add (sound_no Kx) sArch_ok) sCNew_ok) l16nick_ok)
def sConf_br (a b c d : Int) (s : List UInt8) : Br := (Br.ite (!(okStore (List.set (List.replicate (1 : Nat) (([] : (List UInt8)), (0 : Int))) (0 : Nat) (([] : (List UInt8)), (0 : Int))) a)) (Br.ite (decide (d < (0 : Int))) (Br.ret (AV.bool false) ([] : (List (Ob)))) (Br.ite (decide ((20000 : Int) < d)) (Br.ret (AV.bool false) ([] : (List (Ob)))) (Br.ret (AV.bool false) ([] : (List (Ob)))))) (Br.ite (decide (b < (1 : Int))) (Br.ite (decide (d < (0 : Int))) (Br.ret (AV.bool false) ([] : (List (Ob)))) (Br.ite (decide ((20000 : Int) < d)) (Br.ret (AV.bool false) ([] : (List (Ob)))) (Br.ret (AV.bool false) ([] : (List (Ob)))))) (Br.ite (decide ((60000 : Int) < b)) (Br.ite (decide (d < (0 : Int))) (Br.ret (AV.bool false) ([] : (List (Ob)))) (Br.ite (decide ((20000 : Int) < d)) (Br.ret (AV.bool false) ([] : (List (Ob)))) (Br.ret (AV.bool false) ([] : (List (Ob)))))) (Br.ite (decide (c < (1 : Int))) (Br.ite (decide (d < (0 : Int))) (Br.ret (AV.bool false) ([] : (List (Ob)))) (Br.ite (decide ((20000 : Int) < d)) (Br.ret (AV.bool false) ([] : (List (Ob)))) (Br.ret (AV.bool false) ([] : (List (Ob)))))) (Br.ite (decide ((100 : Int) < c)) (Br.ite (decide (d < (0 : Int))) (Br.ret (AV.bool false) ([] : (List (Ob)))) (Br.ite (decide ((20000 : Int) < d)) (Br.ret (AV.bool false) ([] : (List (Ob)))) (Br.ret (AV.bool false) ([] : (List (Ob)))))) (Br.ite (decide (d < (0 : Int))) (Br.ret (AV.bool false) ([] : (List (Ob)))) (Br.ite (decide ((20000 : Int) < d)) (Br.ret (AV.bool false) ([] : (List (Ob)))) (Br.ite (decide (((List.length s) : Int) ≤ (20 : Int))) (Br.ret (AV.bool (tokS s)) ([] : (List (Ob)))) (Br.ret (AV.bool false) ([] : (List (Ob))))))))))))
theorem sConf_run (a b c d : Int) (s : List UInt8) : runF Kx sConf_C sConf_O 1 Try.f20 ([.agg [.int .i64 a, .int .i64 b, .int .i64 c, .int .i64 d, .str s]]) ([]) = (sConf_br a b c d s).val := by kernel_rfl
def sConf_s : List AV → List Ob → Br
  | [.agg [.int .i64 a, .int .i64 b, .int .i64 c, .int .i64 d, .str s]], [] => sConf_br a b c d s
  | _, _ => .fail
theorem sConf_ok : Sound Kx 20 sConf_s := by
  refine sound_run (C := sConf_C) (O := sConf_O) KOk sConf_C_ok Try.func20 (by kernel_rfl) fun args objs res os h => ?_
  unfold sConf_s at h
  split at h
  · exact ⟨1, (sConf_run _ _ _ _ _).trans h⟩
  · cases h

/-! impl.ConfOk -/
def iConf_O : Opt := { cons := [], keepNil := false, mutF := [], live := [], outs := [] }
def iConf_C : Spec := (add (add (add noS 63 iArch_s) 64 isBudget_s) 65 isNick_s)
theorem iConf_C_ok : ∀ fn, Sound Kx fn (iConf_C fn) := (sound_add (sound_add (sound_add (sound_no Kx) iArch_ok) isBudget_ok) isNick_ok)
def iConf_br (a b c d : Int) (s : List UInt8) : Br := (Br.ite (decide ((0 : Int) ≤ a)) (Br.ite (!(decide (a ≤ (60000 : Int)))) (Br.ret (AV.bool false) ([] : (List (Ob)))) (Br.ite (decide ((1 : Int) ≤ b)) (Br.ite (!(decide (b ≤ (60000 : Int)))) (Br.ret (AV.bool false) ([] : (List (Ob)))) (Br.ite (decide ((1 : Int) ≤ c)) (Br.ite (!(decide (c ≤ (100 : Int)))) (Br.ret (AV.bool false) ([] : (List (Ob)))) (Br.ite (decide ((0 : Int) ≤ d)) (Br.ite (decide (d ≤ (20000 : Int))) (Br.ite (tokS s) (Br.ret (AV.bool (decide (((List.length s) : Int) ≤ (20 : Int)))) ([] : (List (Ob)))) (Br.ret (AV.bool false) ([] : (List (Ob))))) (Br.ret (AV.bool false) ([] : (List (Ob))))) (Br.ret (AV.bool false) ([] : (List (Ob)))))) (Br.ret (AV.bool false) ([] : (List (Ob)))))) (Br.ret (AV.bool false) ([] : (List (Ob)))))) (Br.ret (AV.bool false) ([] : (List (Ob)))))
theorem iConf_run (a b c d : Int) (s : List UInt8) : runF Kx iConf_C iConf_O 1 Try.f22 ([.agg [.int .i64 a, .int .i64 b, .int .i64 c, .int .i64 d, .str s]]) ([]) = (iConf_br a b c d s).val := by kernel_rfl
def iConf_s : List AV → List Ob → Br
  | [.agg [.int .i64 a, .int .i64 b, .int .i64 c, .int .i64 d, .str s]], [] => iConf_br a b c d s
  | _, _ => .fail
theorem iConf_ok : Sound Kx 22 iConf_s := by
  refine sound_run (C := iConf_C) (O := iConf_O) KOk iConf_C_ok Try.func22 (by kernel_rfl) fun args objs res os h => ?_
  unfold iConf_s at h
  split at h
  · exact ⟨1, (iConf_run _ _ _ _ _).trans h⟩
  · cases h

end Go.Proofs.Ythdiildelpmknaa.Ev
