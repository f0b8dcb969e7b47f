/- Printed by dec.py. -/
import Derived.Test.YthdiildelpmknaaStoreF
namespace Go.Proofs.Ythdiildelpmknaa.Ev
open Go Go.RowKit
set_option linter.unusedVariables false
set_option linter.unusedSimpArgs false

/-! spec.Used -/
def sUsed_O : Opt := { cons := [], keepNil := false, mutF := [], live := [], outs := [] }
def sUsed_C : Spec := (add (add noS 51 sOk_s) 52 sAll_s)
theorem sUsed_C_ok : ∀ fn, Sound Kx fn (sUsed_C fn) := (sound_add (sound_add (sound_no Kx) sOk_ok) sAll_ok)
def sUsed_br (l : List (List UInt8 × Int)) (c : Int) : Br := (Br.ite (!(okStore l c)) (Br.ret (AV.int .i64 (-(1 : Int))) ([] : (List (Ob)))) (Br.ret (AV.int .i64 ((List.length (bif (okStore l c) then (allB l) else ([] : (List UInt8)))) : Int)) ([] : (List (Ob)))))
theorem sUsed_run (l : List (List UInt8 × Int)) (c : Int) : runF Kx sUsed_C sUsed_O 1 Try.f59 ([.agg [.sh (.pair .str (.int .i64)) l, .int .i64 c]]) ([]) = (sUsed_br l c).val := by kernel_rfl
def sUsed_s : List AV → List Ob → Br
  | [.agg [.sh (.pair .str (.int .i64)) l, .int .i64 c]], [] => sUsed_br l c
  | _, _ => .fail
theorem sUsed_ok : Sound Kx 59 sUsed_s := by
  refine sound_run (C := sUsed_C) (O := sUsed_O) KOk sUsed_C_ok Try.func59 (by kernel_rfl) fun args objs res os h => ?_
  unfold sUsed_s at h
  split at h
  · exact ⟨1, (sUsed_run _ _).trans h⟩
  · cases h

/-! spec.Append -/
def sAppend_O : Opt := { cons := [], keepNil := false, mutF := [], live := [], outs := [] }
def sAppend_C : Spec := (add (add (add noS 51 sOk_s) 67 copy_s) 59 sUsed_s)
theorem sAppend_C_ok : ∀ fn, Sound Kx fn (sAppend_C fn) := (sound_add (sound_add (sound_add (sound_no Kx) sOk_ok) copy_ok) sUsed_ok)
def sAppend_br (l : List (List UInt8 × Int)) (c : Int) (b : List UInt8) : Br := (Br.ite (!(okStore l c)) (Br.ret (AV.tup ((AV.agg ((AV.ref (List.length ([] : (List (Ob)))) (0 : Nat)) :: ((AV.int .i64 (0 : Int)) :: ([] : (List (AV)))))) :: ((AV.int .i64 (1 : Int)) :: ([] : (List (AV)))))) ((Ob.arr (Ty.pair Ty.str (Ty.int .i64)) (0 : Nat) false ([] : (List ((List UInt8) × Int)))) :: ([] : (List (Ob))))) (Br.ite (!(okStore l c)) (Br.ite (decide ((wrap64 (c - (-(1 : Int)))) < ((List.length b) : Int))) (Br.ret (AV.tup ((AV.agg ((AV.ref (List.length ([] : (List (Ob)))) (0 : Nat)) :: ((AV.int .i64 (0 : Int)) :: ([] : (List (AV)))))) :: ((AV.int .i64 (2 : Int)) :: ([] : (List (AV)))))) ((Ob.arr (Ty.pair Ty.str (Ty.int .i64)) (0 : Nat) false ([] : (List ((List UInt8) × Int)))) :: ([] : (List (Ob))))) (Br.ite (decide ((((0 : Nat) + (List.length l)) * (24 : Nat)) ≤ (140737488355328 : Nat))) (Br.ite (decide ((0 : Int) ≤ (wrap64 (((List.length l) : Int) - (1 : Int))))) (Br.ite (decide ((wrap64 (((List.length l) : Int) - (1 : Int))) < ((List.length l) : Int))) (Br.ite (decide (((((List.length (List.getD l (Int.toNat (wrap64 (((List.length l) : Int) - (1 : Int)))) (([] : (List UInt8)), (0 : Int))).1) + (List.length b)) : Nat) : Int) ≤ (9223372036854775807 : Int))) (Br.ite (decide ((0 : Int) ≤ (wrap64 (((List.length l) : Int) - (1 : Int))))) (Br.ite (decide ((wrap64 (((List.length l) : Int) - (1 : Int))) < ((List.length l) : Int))) (Br.ite (decide ((0 : Int) ≤ (wrap64 (((List.length l) : Int) - (1 : Int))))) (Br.ite (decide ((wrap64 (((List.length l) : Int) - (1 : Int))) < ((List.length l) : Int))) (Br.ret (AV.tup ((AV.agg ((AV.ref (0 : Nat) (0 : Nat)) :: ((AV.int .i64 c) :: ([] : (List (AV)))))) :: ((AV.int .i64 (0 : Int)) :: ([] : (List (AV)))))) ((Ob.arr (Ty.pair Ty.str (Ty.int .i64)) (0 : Nat) false (List.set l (Int.toNat (wrap64 (((List.length l) : Int) - (1 : Int)))) (((List.getD l (Int.toNat (wrap64 (((List.length l) : Int) - (1 : Int)))) (([] : (List UInt8)), (0 : Int))).1 ++ b), (List.getD l (Int.toNat (wrap64 (((List.length l) : Int) - (1 : Int)))) (([] : (List UInt8)), (0 : Int))).2))) :: ([] : (List (Ob))))) Br.fail) Br.fail) Br.fail) Br.fail) Br.fail) Br.fail) Br.fail) Br.fail)) (Br.ite (decide ((wrap64 (c - ((List.length (bif (okStore l c) then (allB l) else ([] : (List UInt8)))) : Int))) < ((List.length b) : Int))) (Br.ret (AV.tup ((AV.agg ((AV.ref (List.length ([] : (List (Ob)))) (0 : Nat)) :: ((AV.int .i64 (0 : Int)) :: ([] : (List (AV)))))) :: ((AV.int .i64 (2 : Int)) :: ([] : (List (AV)))))) ((Ob.arr (Ty.pair Ty.str (Ty.int .i64)) (0 : Nat) false ([] : (List ((List UInt8) × Int)))) :: ([] : (List (Ob))))) (Br.ite (decide ((((0 : Nat) + (List.length l)) * (24 : Nat)) ≤ (140737488355328 : Nat))) (Br.ite (decide ((0 : Int) ≤ (wrap64 (((List.length l) : Int) - (1 : Int))))) (Br.ite (decide ((wrap64 (((List.length l) : Int) - (1 : Int))) < ((List.length l) : Int))) (Br.ite (decide (((((List.length (List.getD l (Int.toNat (wrap64 (((List.length l) : Int) - (1 : Int)))) (([] : (List UInt8)), (0 : Int))).1) + (List.length b)) : Nat) : Int) ≤ (9223372036854775807 : Int))) (Br.ite (decide ((0 : Int) ≤ (wrap64 (((List.length l) : Int) - (1 : Int))))) (Br.ite (decide ((wrap64 (((List.length l) : Int) - (1 : Int))) < ((List.length l) : Int))) (Br.ite (decide ((0 : Int) ≤ (wrap64 (((List.length l) : Int) - (1 : Int))))) (Br.ite (decide ((wrap64 (((List.length l) : Int) - (1 : Int))) < ((List.length l) : Int))) (Br.ret (AV.tup ((AV.agg ((AV.ref (0 : Nat) (0 : Nat)) :: ((AV.int .i64 c) :: ([] : (List (AV)))))) :: ((AV.int .i64 (0 : Int)) :: ([] : (List (AV)))))) ((Ob.arr (Ty.pair Ty.str (Ty.int .i64)) (0 : Nat) false (List.set l (Int.toNat (wrap64 (((List.length l) : Int) - (1 : Int)))) (((List.getD l (Int.toNat (wrap64 (((List.length l) : Int) - (1 : Int)))) (([] : (List UInt8)), (0 : Int))).1 ++ b), (List.getD l (Int.toNat (wrap64 (((List.length l) : Int) - (1 : Int)))) (([] : (List UInt8)), (0 : Int))).2))) :: ([] : (List (Ob))))) Br.fail) Br.fail) Br.fail) Br.fail) Br.fail) Br.fail) Br.fail) Br.fail))))
theorem sAppend_run (l : List (List UInt8 × Int)) (c : Int) (b : List UInt8) : runF Kx sAppend_C sAppend_O 1 Try.f34 ([.agg [.sh (.pair .str (.int .i64)) l, .int .i64 c], .str b]) ([]) = (sAppend_br l c b).val := by kernel_rfl
def sAppend_s : List AV → List Ob → Br
  | [.agg [.sh (.pair .str (.int .i64)) l, .int .i64 c], .str b], [] => sAppend_br l c b
  | _, _ => .fail
theorem sAppend_ok : Sound Kx 34 sAppend_s := by
  refine sound_run (C := sAppend_C) (O := sAppend_O) KOk sAppend_C_ok Try.func34 (by kernel_rfl) fun args objs res os h => ?_
  unfold sAppend_s at h
  split at h
  · exact ⟨1, (sAppend_run _ _ _).trans h⟩
  · cases h

end Go.Proofs.Ythdiildelpmknaa.Ev
