/- Printed by dec.py. -/
import Derived.Test.YthdiildelpmknaaStoreB
import Derived.Test.YthdiildelpmknaaExt1
namespace Go.Proofs.Ythdiildelpmknaa.Ev
open Go Go.RowKit
set_option linter.unusedVariables false
set_option linter.unusedSimpArgs false

/-! laws.szConf -/
def szConf_O : Opt := { cons := [], keepNil := false, mutF := [], live := [], outs := [] }
def szConf_br (a b c d : Int) (s : List UInt8) (left : Int) : Br := (Br.ite (decide ((wrap64 (left - ((List.length s) : Int))) < (0 : Int))) (Br.ret (AV.int .i64 (-(1 : Int))) ([] : (List (Ob)))) (Br.ret (AV.int .i64 (wrap64 (left - ((List.length s) : Int)))) ([] : (List (Ob)))))
theorem szConf_run (a b c d : Int) (s : List UInt8) (left : Int) : runF Kx noS szConf_O 1 Try.f19 ([.agg [.int .i64 a, .int .i64 b, .int .i64 c, .int .i64 d, .str s], .int .i64 left]) ([]) = (szConf_br a b c d s left).val := by kernel_rfl
def szConf_s : List AV → List Ob → Br
  | [.agg [.int .i64 a, .int .i64 b, .int .i64 c, .int .i64 d, .str s], .int .i64 left], [] => szConf_br a b c d s left
  | _, _ => .fail
theorem szConf_ok : Sound Kx 19 szConf_s := by
  refine sound_run (C := noS) (O := szConf_O) KOk (sound_no Kx) Try.func19 (by kernel_rfl) fun args objs res os h => ?_
  unfold szConf_s at h
  split at h
  · exact ⟨1, (szConf_run _ _ _ _ _ _).trans h⟩
  · cases h

/-! laws.toConf -/
def toConf_O : Opt := { cons := [], keepNil := false, mutF := [], live := [], outs := [] }
def toConf_br (a b c d : Int) (s : List UInt8) : Br := (Br.ret (AV.agg ((AV.int .i64 a) :: ((AV.int .i64 b) :: ((AV.int .i64 c) :: ((AV.int .i64 d) :: ((AV.str s) :: ([] : (List (AV))))))))) ([] : (List (Ob))))
theorem toConf_run (a b c d : Int) (s : List UInt8) : runF Kx noS toConf_O 1 Try.f21 ([.agg [.int .i64 a, .int .i64 b, .int .i64 c, .int .i64 d, .str s]]) ([]) = (toConf_br a b c d s).val := by kernel_rfl
def toConf_s : List AV → List Ob → Br
  | [.agg [.int .i64 a, .int .i64 b, .int .i64 c, .int .i64 d, .str s]], [] => toConf_br a b c d s
  | _, _ => .fail
theorem toConf_ok : Sound Kx 21 toConf_s := by
  refine sound_run (C := noS) (O := toConf_O) KOk (sound_no Kx) Try.func21 (by kernel_rfl) fun args objs res os h => ?_
  unfold toConf_s at h
  split at h
  · exact ⟨1, (toConf_run _ _ _ _ _).trans h⟩
  · cases h

/-! spec.StoreNew -/
def sNew_O : Opt := { cons := [], keepNil := false, mutF := [], live := [], outs := [] }
def sNew_C : Spec := (add noS 51 sOk_s)
theorem sNew_C_ok : ∀ fn, Sound Kx fn (sNew_C fn) := (sound_add (sound_no Kx) sOk_ok)
def sNew_br (n : Int) : Br := (Br.ite (!(okStore (List.set (List.replicate (1 : Nat) (([] : (List UInt8)), (0 : Int))) (0 : Nat) (([] : (List UInt8)), (0 : Int))) n)) (Br.ret (AV.tup ((AV.agg ((AV.ref (List.length ([] : (List (Ob)))) (0 : Nat)) :: ((AV.int .i64 (0 : Int)) :: ([] : (List (AV)))))) :: ((AV.bool false) :: ([] : (List (AV)))))) ((Ob.arr (Ty.pair Ty.str (Ty.int .i64)) (0 : Nat) false ([] : (List ((List UInt8) × Int)))) :: ([] : (List (Ob))))) (Br.ret (AV.tup ((AV.agg ((AV.ref (0 : Nat) (0 : Nat)) :: ((AV.int .i64 n) :: ([] : (List (AV)))))) :: ((AV.bool true) :: ([] : (List (AV)))))) ((Ob.arr (Ty.pair Ty.str (Ty.int .i64)) (0 : Nat) false (List.set (List.replicate (1 : Nat) (([] : (List UInt8)), (0 : Int))) (0 : Nat) (([] : (List UInt8)), (0 : Int)))) :: ([] : (List (Ob))))))
theorem sNew_run (n : Int) : runF Kx sNew_C sNew_O 1 Try.f87 ([.int .i64 n]) ([]) = (sNew_br n).val := by kernel_rfl
def sNew_s : List AV → List Ob → Br
  | [.int .i64 n], [] => sNew_br n
  | _, _ => .fail
theorem sNew_ok : Sound Kx 87 sNew_s := by
  refine sound_run (C := sNew_C) (O := sNew_O) KOk sNew_C_ok Try.func87 (by kernel_rfl) fun args objs res os h => ?_
  unfold sNew_s at h
  split at h
  · exact ⟨1, (sNew_run _).trans h⟩
  · cases h

/-! impl.StoreNew -/
def iNew_O : Opt := { cons := [], keepNil := false, mutF := [], live := [], outs := [] }
def iNew_C : Spec := (add noS 60 iwithin_s)
theorem iNew_C_ok : ∀ fn, Sound Kx fn (iNew_C fn) := (sound_add (sound_no Kx) iwithin_ok)
def iNew_br (n : Int) : Br := (Br.ite (decide ((0 : Int) ≤ n)) (Br.ite (!(decide (n ≤ (60000 : Int)))) (Br.ret (AV.tup ((AV.agg ((AV.ref (List.length ([] : (List (Ob)))) (0 : Nat)) :: ((AV.int .i64 (0 : Int)) :: ([] : (List (AV)))))) :: ((AV.bool false) :: ([] : (List (AV)))))) ((Ob.arr (Ty.pair Ty.str (Ty.int .i64)) (0 : Nat) false ([] : (List ((List UInt8) × Int)))) :: ([] : (List (Ob))))) (Br.ret (AV.tup ((AV.agg ((AV.ref (0 : Nat) (0 : Nat)) :: ((AV.int .i64 n) :: ([] : (List (AV)))))) :: ((AV.bool true) :: ([] : (List (AV)))))) ((Ob.arr (Ty.pair Ty.str (Ty.int .i64)) (0 : Nat) false (List.set (List.replicate (1 : Nat) (([] : (List UInt8)), (0 : Int))) (0 : Nat) (([] : (List UInt8)), (0 : Int)))) :: ([] : (List (Ob)))))) (Br.ret (AV.tup ((AV.agg ((AV.ref (List.length ([] : (List (Ob)))) (0 : Nat)) :: ((AV.int .i64 (0 : Int)) :: ([] : (List (AV)))))) :: ((AV.bool false) :: ([] : (List (AV)))))) ((Ob.arr (Ty.pair Ty.str (Ty.int .i64)) (0 : Nat) false ([] : (List ((List UInt8) × Int)))) :: ([] : (List (Ob))))))
theorem iNew_run (n : Int) : runF Kx iNew_C iNew_O 1 Try.f83 ([.int .i64 n]) ([]) = (iNew_br n).val := by kernel_rfl
def iNew_s : List AV → List Ob → Br
  | [.int .i64 n], [] => iNew_br n
  | _, _ => .fail
theorem iNew_ok : Sound Kx 83 iNew_s := by
  refine sound_run (C := iNew_C) (O := iNew_O) KOk iNew_C_ok Try.func83 (by kernel_rfl) fun args objs res os h => ?_
  unfold iNew_s at h
  split at h
  · exact ⟨1, (iNew_run _).trans h⟩
  · cases h

/-! spec.ArchNew -/
def sArch_O : Opt := { cons := [], keepNil := false, mutF := [], live := [], outs := [] }
def sArch_C : Spec := (add noS 87 sNew_s)
theorem sArch_C_ok : ∀ fn, Sound Kx fn (sArch_C fn) := (sound_add (sound_no Kx) sNew_ok)
def sArch_br (a b c : Int) : Br := (Br.ite (!(okStore (List.set (List.replicate (1 : Nat) (([] : (List UInt8)), (0 : Int))) (0 : Nat) (([] : (List UInt8)), (0 : Int))) a)) (Br.ret (AV.tup ((AV.agg ((AV.ref (List.length ([] : (List (Ob)))) (0 : Nat)) :: ((AV.int .i64 (0 : Int)) :: ((AV.int .i64 (0 : Int)) :: ((AV.int .i64 (0 : Int)) :: ((AV.int .i64 (0 : Int)) :: ((AV.int .i64 (0 : Int)) :: ((AV.ref (List.length ((Ob.arr (Ty.pair Ty.str (Ty.int .i64)) (0 : Nat) false ([] : (List ((List UInt8) × Int)))) :: ([] : (List (Ob))))) (0 : Nat)) :: ([] : (List (AV))))))))))) :: ((AV.bool false) :: ([] : (List (AV)))))) ((Ob.arr (Ty.pair Ty.str (Ty.int .i64)) (0 : Nat) false ([] : (List ((List UInt8) × Int)))) :: ((Ob.arr (Ty.pair Ty.str (Ty.pair (Ty.int .i64) (Ty.pair (Ty.int .i64) (Ty.pair Ty.str (Ty.pair (Ty.int .i64) (Ty.pair Ty.str (Ty.pair Ty.bool (Ty.pair (Ty.int .i64) (Ty.pair (Ty.int .i64) (Ty.int .i64)))))))))) (0 : Nat) false ([] : (List ((List UInt8) × (Int × (Int × ((List UInt8) × (Int × ((List UInt8) × (Bool × (Int × (Int × Int)))))))))))) :: ([] : (List (Ob)))))) (Br.ite (decide (b < (1 : Int))) (Br.ret (AV.tup ((AV.agg ((AV.ref (List.length ([] : (List (Ob)))) (0 : Nat)) :: ((AV.int .i64 (0 : Int)) :: ((AV.int .i64 (0 : Int)) :: ((AV.int .i64 (0 : Int)) :: ((AV.int .i64 (0 : Int)) :: ((AV.int .i64 (0 : Int)) :: ((AV.ref (List.length ((Ob.arr (Ty.pair Ty.str (Ty.int .i64)) (0 : Nat) false ([] : (List ((List UInt8) × Int)))) :: ([] : (List (Ob))))) (0 : Nat)) :: ([] : (List (AV))))))))))) :: ((AV.bool false) :: ([] : (List (AV)))))) ((Ob.arr (Ty.pair Ty.str (Ty.int .i64)) (0 : Nat) false ([] : (List ((List UInt8) × Int)))) :: ((Ob.arr (Ty.pair Ty.str (Ty.pair (Ty.int .i64) (Ty.pair (Ty.int .i64) (Ty.pair Ty.str (Ty.pair (Ty.int .i64) (Ty.pair Ty.str (Ty.pair Ty.bool (Ty.pair (Ty.int .i64) (Ty.pair (Ty.int .i64) (Ty.int .i64)))))))))) (0 : Nat) false ([] : (List ((List UInt8) × (Int × (Int × ((List UInt8) × (Int × ((List UInt8) × (Bool × (Int × (Int × Int)))))))))))) :: ([] : (List (Ob)))))) (Br.ite (decide ((60000 : Int) < b)) (Br.ret (AV.tup ((AV.agg ((AV.ref (List.length ([] : (List (Ob)))) (0 : Nat)) :: ((AV.int .i64 (0 : Int)) :: ((AV.int .i64 (0 : Int)) :: ((AV.int .i64 (0 : Int)) :: ((AV.int .i64 (0 : Int)) :: ((AV.int .i64 (0 : Int)) :: ((AV.ref (List.length ((Ob.arr (Ty.pair Ty.str (Ty.int .i64)) (0 : Nat) false ([] : (List ((List UInt8) × Int)))) :: ([] : (List (Ob))))) (0 : Nat)) :: ([] : (List (AV))))))))))) :: ((AV.bool false) :: ([] : (List (AV)))))) ((Ob.arr (Ty.pair Ty.str (Ty.int .i64)) (0 : Nat) false ([] : (List ((List UInt8) × Int)))) :: ((Ob.arr (Ty.pair Ty.str (Ty.pair (Ty.int .i64) (Ty.pair (Ty.int .i64) (Ty.pair Ty.str (Ty.pair (Ty.int .i64) (Ty.pair Ty.str (Ty.pair Ty.bool (Ty.pair (Ty.int .i64) (Ty.pair (Ty.int .i64) (Ty.int .i64)))))))))) (0 : Nat) false ([] : (List ((List UInt8) × (Int × (Int × ((List UInt8) × (Int × ((List UInt8) × (Bool × (Int × (Int × Int)))))))))))) :: ([] : (List (Ob)))))) (Br.ite (decide (c < (1 : Int))) (Br.ret (AV.tup ((AV.agg ((AV.ref (List.length ([] : (List (Ob)))) (0 : Nat)) :: ((AV.int .i64 (0 : Int)) :: ((AV.int .i64 (0 : Int)) :: ((AV.int .i64 (0 : Int)) :: ((AV.int .i64 (0 : Int)) :: ((AV.int .i64 (0 : Int)) :: ((AV.ref (List.length ((Ob.arr (Ty.pair Ty.str (Ty.int .i64)) (0 : Nat) false ([] : (List ((List UInt8) × Int)))) :: ([] : (List (Ob))))) (0 : Nat)) :: ([] : (List (AV))))))))))) :: ((AV.bool false) :: ([] : (List (AV)))))) ((Ob.arr (Ty.pair Ty.str (Ty.int .i64)) (0 : Nat) false ([] : (List ((List UInt8) × Int)))) :: ((Ob.arr (Ty.pair Ty.str (Ty.pair (Ty.int .i64) (Ty.pair (Ty.int .i64) (Ty.pair Ty.str (Ty.pair (Ty.int .i64) (Ty.pair Ty.str (Ty.pair Ty.bool (Ty.pair (Ty.int .i64) (Ty.pair (Ty.int .i64) (Ty.int .i64)))))))))) (0 : Nat) false ([] : (List ((List UInt8) × (Int × (Int × ((List UInt8) × (Int × ((List UInt8) × (Bool × (Int × (Int × Int)))))))))))) :: ([] : (List (Ob)))))) (Br.ite (decide ((100 : Int) < c)) (Br.ret (AV.tup ((AV.agg ((AV.ref (List.length ([] : (List (Ob)))) (0 : Nat)) :: ((AV.int .i64 (0 : Int)) :: ((AV.int .i64 (0 : Int)) :: ((AV.int .i64 (0 : Int)) :: ((AV.int .i64 (0 : Int)) :: ((AV.int .i64 (0 : Int)) :: ((AV.ref (List.length ((Ob.arr (Ty.pair Ty.str (Ty.int .i64)) (0 : Nat) false ([] : (List ((List UInt8) × Int)))) :: ([] : (List (Ob))))) (0 : Nat)) :: ([] : (List (AV))))))))))) :: ((AV.bool false) :: ([] : (List (AV)))))) ((Ob.arr (Ty.pair Ty.str (Ty.int .i64)) (0 : Nat) false ([] : (List ((List UInt8) × Int)))) :: ((Ob.arr (Ty.pair Ty.str (Ty.pair (Ty.int .i64) (Ty.pair (Ty.int .i64) (Ty.pair Ty.str (Ty.pair (Ty.int .i64) (Ty.pair Ty.str (Ty.pair Ty.bool (Ty.pair (Ty.int .i64) (Ty.pair (Ty.int .i64) (Ty.int .i64)))))))))) (0 : Nat) false ([] : (List ((List UInt8) × (Int × (Int × ((List UInt8) × (Int × ((List UInt8) × (Bool × (Int × (Int × Int)))))))))))) :: ([] : (List (Ob)))))) (Br.ret (AV.tup ((AV.agg ((AV.ref (0 : Nat) (0 : Nat)) :: ((AV.int .i64 a) :: ((AV.int .i64 b) :: ((AV.int .i64 c) :: ((AV.int .i64 (0 : Int)) :: ((AV.int .i64 (0 : Int)) :: ((AV.ref (List.length ((Ob.arr (Ty.pair Ty.str (Ty.int .i64)) (0 : Nat) false (List.set (List.replicate (1 : Nat) (([] : (List UInt8)), (0 : Int))) (0 : Nat) (([] : (List UInt8)), (0 : Int)))) :: ([] : (List (Ob))))) (0 : Nat)) :: ([] : (List (AV))))))))))) :: ((AV.bool true) :: ([] : (List (AV)))))) ((Ob.arr (Ty.pair Ty.str (Ty.int .i64)) (0 : Nat) false (List.set (List.replicate (1 : Nat) (([] : (List UInt8)), (0 : Int))) (0 : Nat) (([] : (List UInt8)), (0 : Int)))) :: ((Ob.arr (Ty.pair Ty.str (Ty.pair (Ty.int .i64) (Ty.pair (Ty.int .i64) (Ty.pair Ty.str (Ty.pair (Ty.int .i64) (Ty.pair Ty.str (Ty.pair Ty.bool (Ty.pair (Ty.int .i64) (Ty.pair (Ty.int .i64) (Ty.int .i64)))))))))) (0 : Nat) false ([] : (List ((List UInt8) × (Int × (Int × ((List UInt8) × (Int × ((List UInt8) × (Bool × (Int × (Int × Int)))))))))))) :: ([] : (List (Ob)))))))))))
theorem sArch_run (a b c : Int) : runF Kx sArch_C sArch_O 1 Try.f61 ([.int .i64 a, .int .i64 b, .int .i64 c]) ([]) = (sArch_br a b c).val := by kernel_rfl
def sArch_s : List AV → List Ob → Br
  | [.int .i64 a, .int .i64 b, .int .i64 c], [] => sArch_br a b c
  | _, _ => .fail
theorem sArch_ok : Sound Kx 61 sArch_s := by
  refine sound_run (C := sArch_C) (O := sArch_O) KOk sArch_C_ok Try.func61 (by kernel_rfl) fun args objs res os h => ?_
  unfold sArch_s at h
  split at h
  · exact ⟨1, (sArch_run _ _ _).trans h⟩
  · cases h

/-! impl.ArchNew -/
def iArch_O : Opt := { cons := [], keepNil := false, mutF := [], live := [], outs := [] }
def iArch_C : Spec := (add (add noS 83 iNew_s) 60 iwithin_s)
theorem iArch_C_ok : ∀ fn, Sound Kx fn (iArch_C fn) := (sound_add (sound_add (sound_no Kx) iNew_ok) iwithin_ok)
def iArch_br (a b c : Int) : Br := (Br.ite (decide ((0 : Int) ≤ a)) (Br.ite (!(decide (a ≤ (60000 : Int)))) (Br.ret (AV.tup ((AV.agg ((AV.ref (List.length ([] : (List (Ob)))) (0 : Nat)) :: ((AV.int .i64 (0 : Int)) :: ((AV.int .i64 (0 : Int)) :: ((AV.int .i64 (0 : Int)) :: ((AV.int .i64 (0 : Int)) :: ((AV.int .i64 (0 : Int)) :: ((AV.ref (List.length ((Ob.arr (Ty.pair Ty.str (Ty.int .i64)) (0 : Nat) false ([] : (List ((List UInt8) × Int)))) :: ([] : (List (Ob))))) (0 : Nat)) :: ([] : (List (AV))))))))))) :: ((AV.bool false) :: ([] : (List (AV)))))) ((Ob.arr (Ty.pair Ty.str (Ty.int .i64)) (0 : Nat) false ([] : (List ((List UInt8) × Int)))) :: ((Ob.arr (Ty.pair Ty.str (Ty.pair (Ty.int .i64) (Ty.pair (Ty.int .i64) (Ty.pair Ty.str (Ty.pair (Ty.int .i64) (Ty.pair Ty.str (Ty.pair Ty.bool (Ty.pair (Ty.int .i64) (Ty.pair (Ty.int .i64) (Ty.int .i64)))))))))) (0 : Nat) false ([] : (List ((List UInt8) × (Int × (Int × ((List UInt8) × (Int × ((List UInt8) × (Bool × (Int × (Int × Int)))))))))))) :: ([] : (List (Ob)))))) (Br.ite (decide ((1 : Int) ≤ b)) (Br.ite (!(decide (b ≤ (60000 : Int)))) (Br.ret (AV.tup ((AV.agg ((AV.ref (List.length ([] : (List (Ob)))) (0 : Nat)) :: ((AV.int .i64 (0 : Int)) :: ((AV.int .i64 (0 : Int)) :: ((AV.int .i64 (0 : Int)) :: ((AV.int .i64 (0 : Int)) :: ((AV.int .i64 (0 : Int)) :: ((AV.ref (List.length ((Ob.arr (Ty.pair Ty.str (Ty.int .i64)) (0 : Nat) false ([] : (List ((List UInt8) × Int)))) :: ([] : (List (Ob))))) (0 : Nat)) :: ([] : (List (AV))))))))))) :: ((AV.bool false) :: ([] : (List (AV)))))) ((Ob.arr (Ty.pair Ty.str (Ty.int .i64)) (0 : Nat) false ([] : (List ((List UInt8) × Int)))) :: ((Ob.arr (Ty.pair Ty.str (Ty.pair (Ty.int .i64) (Ty.pair (Ty.int .i64) (Ty.pair Ty.str (Ty.pair (Ty.int .i64) (Ty.pair Ty.str (Ty.pair Ty.bool (Ty.pair (Ty.int .i64) (Ty.pair (Ty.int .i64) (Ty.int .i64)))))))))) (0 : Nat) false ([] : (List ((List UInt8) × (Int × (Int × ((List UInt8) × (Int × ((List UInt8) × (Bool × (Int × (Int × Int)))))))))))) :: ([] : (List (Ob)))))) (Br.ite (decide ((1 : Int) ≤ c)) (Br.ite (!(decide (c ≤ (100 : Int)))) (Br.ret (AV.tup ((AV.agg ((AV.ref (List.length ([] : (List (Ob)))) (0 : Nat)) :: ((AV.int .i64 (0 : Int)) :: ((AV.int .i64 (0 : Int)) :: ((AV.int .i64 (0 : Int)) :: ((AV.int .i64 (0 : Int)) :: ((AV.int .i64 (0 : Int)) :: ((AV.ref (List.length ((Ob.arr (Ty.pair Ty.str (Ty.int .i64)) (0 : Nat) false ([] : (List ((List UInt8) × Int)))) :: ([] : (List (Ob))))) (0 : Nat)) :: ([] : (List (AV))))))))))) :: ((AV.bool false) :: ([] : (List (AV)))))) ((Ob.arr (Ty.pair Ty.str (Ty.int .i64)) (0 : Nat) false ([] : (List ((List UInt8) × Int)))) :: ((Ob.arr (Ty.pair Ty.str (Ty.pair (Ty.int .i64) (Ty.pair (Ty.int .i64) (Ty.pair Ty.str (Ty.pair (Ty.int .i64) (Ty.pair Ty.str (Ty.pair Ty.bool (Ty.pair (Ty.int .i64) (Ty.pair (Ty.int .i64) (Ty.int .i64)))))))))) (0 : Nat) false ([] : (List ((List UInt8) × (Int × (Int × ((List UInt8) × (Int × ((List UInt8) × (Bool × (Int × (Int × Int)))))))))))) :: ([] : (List (Ob)))))) (Br.ret (AV.tup ((AV.agg ((AV.ref (0 : Nat) (0 : Nat)) :: ((AV.int .i64 a) :: ((AV.int .i64 b) :: ((AV.int .i64 c) :: ((AV.int .i64 (0 : Int)) :: ((AV.int .i64 (0 : Int)) :: ((AV.ref (List.length ((Ob.arr (Ty.pair Ty.str (Ty.int .i64)) (0 : Nat) false (List.set (List.replicate (1 : Nat) (([] : (List UInt8)), (0 : Int))) (0 : Nat) (([] : (List UInt8)), (0 : Int)))) :: ([] : (List (Ob))))) (0 : Nat)) :: ([] : (List (AV))))))))))) :: ((AV.bool true) :: ([] : (List (AV)))))) ((Ob.arr (Ty.pair Ty.str (Ty.int .i64)) (0 : Nat) false (List.set (List.replicate (1 : Nat) (([] : (List UInt8)), (0 : Int))) (0 : Nat) (([] : (List UInt8)), (0 : Int)))) :: ((Ob.arr (Ty.pair Ty.str (Ty.pair (Ty.int .i64) (Ty.pair (Ty.int .i64) (Ty.pair Ty.str (Ty.pair (Ty.int .i64) (Ty.pair Ty.str (Ty.pair Ty.bool (Ty.pair (Ty.int .i64) (Ty.pair (Ty.int .i64) (Ty.int .i64)))))))))) (0 : Nat) false ([] : (List ((List UInt8) × (Int × (Int × ((List UInt8) × (Int × ((List UInt8) × (Bool × (Int × (Int × Int)))))))))))) :: ([] : (List (Ob))))))) (Br.ret (AV.tup ((AV.agg ((AV.ref (List.length ([] : (List (Ob)))) (0 : Nat)) :: ((AV.int .i64 (0 : Int)) :: ((AV.int .i64 (0 : Int)) :: ((AV.int .i64 (0 : Int)) :: ((AV.int .i64 (0 : Int)) :: ((AV.int .i64 (0 : Int)) :: ((AV.ref (List.length ((Ob.arr (Ty.pair Ty.str (Ty.int .i64)) (0 : Nat) false ([] : (List ((List UInt8) × Int)))) :: ([] : (List (Ob))))) (0 : Nat)) :: ([] : (List (AV))))))))))) :: ((AV.bool false) :: ([] : (List (AV)))))) ((Ob.arr (Ty.pair Ty.str (Ty.int .i64)) (0 : Nat) false ([] : (List ((List UInt8) × Int)))) :: ((Ob.arr (Ty.pair Ty.str (Ty.pair (Ty.int .i64) (Ty.pair (Ty.int .i64) (Ty.pair Ty.str (Ty.pair (Ty.int .i64) (Ty.pair Ty.str (Ty.pair Ty.bool (Ty.pair (Ty.int .i64) (Ty.pair (Ty.int .i64) (Ty.int .i64)))))))))) (0 : Nat) false ([] : (List ((List UInt8) × (Int × (Int × ((List UInt8) × (Int × ((List UInt8) × (Bool × (Int × (Int × Int)))))))))))) :: ([] : (List (Ob)))))))) (Br.ret (AV.tup ((AV.agg ((AV.ref (List.length ([] : (List (Ob)))) (0 : Nat)) :: ((AV.int .i64 (0 : Int)) :: ((AV.int .i64 (0 : Int)) :: ((AV.int .i64 (0 : Int)) :: ((AV.int .i64 (0 : Int)) :: ((AV.int .i64 (0 : Int)) :: ((AV.ref (List.length ((Ob.arr (Ty.pair Ty.str (Ty.int .i64)) (0 : Nat) false ([] : (List ((List UInt8) × Int)))) :: ([] : (List (Ob))))) (0 : Nat)) :: ([] : (List (AV))))))))))) :: ((AV.bool false) :: ([] : (List (AV)))))) ((Ob.arr (Ty.pair Ty.str (Ty.int .i64)) (0 : Nat) false ([] : (List ((List UInt8) × Int)))) :: ((Ob.arr (Ty.pair Ty.str (Ty.pair (Ty.int .i64) (Ty.pair (Ty.int .i64) (Ty.pair Ty.str (Ty.pair (Ty.int .i64) (Ty.pair Ty.str (Ty.pair Ty.bool (Ty.pair (Ty.int .i64) (Ty.pair (Ty.int .i64) (Ty.int .i64)))))))))) (0 : Nat) false ([] : (List ((List UInt8) × (Int × (Int × ((List UInt8) × (Int × ((List UInt8) × (Bool × (Int × (Int × Int)))))))))))) :: ([] : (List (Ob)))))))) (Br.ret (AV.tup ((AV.agg ((AV.ref (List.length ([] : (List (Ob)))) (0 : Nat)) :: ((AV.int .i64 (0 : Int)) :: ((AV.int .i64 (0 : Int)) :: ((AV.int .i64 (0 : Int)) :: ((AV.int .i64 (0 : Int)) :: ((AV.int .i64 (0 : Int)) :: ((AV.ref (List.length ((Ob.arr (Ty.pair Ty.str (Ty.int .i64)) (0 : Nat) false ([] : (List ((List UInt8) × Int)))) :: ([] : (List (Ob))))) (0 : Nat)) :: ([] : (List (AV))))))))))) :: ((AV.bool false) :: ([] : (List (AV)))))) ((Ob.arr (Ty.pair Ty.str (Ty.int .i64)) (0 : Nat) false ([] : (List ((List UInt8) × Int)))) :: ((Ob.arr (Ty.pair Ty.str (Ty.pair (Ty.int .i64) (Ty.pair (Ty.int .i64) (Ty.pair Ty.str (Ty.pair (Ty.int .i64) (Ty.pair Ty.str (Ty.pair Ty.bool (Ty.pair (Ty.int .i64) (Ty.pair (Ty.int .i64) (Ty.int .i64)))))))))) (0 : Nat) false ([] : (List ((List UInt8) × (Int × (Int × ((List UInt8) × (Int × ((List UInt8) × (Bool × (Int × (Int × Int)))))))))))) :: ([] : (List (Ob)))))))
theorem iArch_run (a b c : Int) : runF Kx iArch_C iArch_O 1 Try.f63 ([.int .i64 a, .int .i64 b, .int .i64 c]) ([]) = (iArch_br a b c).val := by kernel_rfl
def iArch_s : List AV → List Ob → Br
  | [.int .i64 a, .int .i64 b, .int .i64 c], [] => iArch_br a b c
  | _, _ => .fail
theorem iArch_ok : Sound Kx 63 iArch_s := by
  refine sound_run (C := iArch_C) (O := iArch_O) KOk iArch_C_ok Try.func63 (by kernel_rfl) fun args objs res os h => ?_
  unfold iArch_s at h
  split at h
  · exact ⟨1, (iArch_run _ _ _).trans h⟩
  · cases h

/-! spec.CacheNew -/
def sCNew_O : Opt := { cons := [], keepNil := false, mutF := [], live := [], outs := [] }
def sCNew_br (b : Int) : Br := (Br.ite (decide (b < (0 : Int))) (Br.ret (AV.tup ((AV.agg ((AV.int .i64 (0 : Int)) :: ((AV.ref (List.length ([] : (List (Ob)))) (0 : Nat)) :: ([] : (List (AV)))))) :: ((AV.bool false) :: ([] : (List (AV)))))) ((Ob.arr (Ty.pair Ty.str (Ty.pair (Ty.int .i64) (Ty.pair (Ty.int .i64) (Ty.pair (Ty.slice (Ty.pair Ty.str Ty.str)) (Ty.pair Ty.str (Ty.pair Ty.str (Ty.pair (Ty.int .i64) (Ty.pair Ty.str (Ty.pair Ty.bool (Ty.pair (Ty.slice (Ty.pair Ty.str Ty.str)) Ty.str)))))))))) (0 : Nat) false ([] : (List ((List UInt8) × (Int × (Int × ((List ((List UInt8) × (List UInt8))) × ((List UInt8) × ((List UInt8) × (Int × ((List UInt8) × (Bool × ((List ((List UInt8) × (List UInt8))) × (List UInt8)))))))))))))) :: ([] : (List (Ob))))) (Br.ite (decide ((20000 : Int) < b)) (Br.ret (AV.tup ((AV.agg ((AV.int .i64 (0 : Int)) :: ((AV.ref (List.length ([] : (List (Ob)))) (0 : Nat)) :: ([] : (List (AV)))))) :: ((AV.bool false) :: ([] : (List (AV)))))) ((Ob.arr (Ty.pair Ty.str (Ty.pair (Ty.int .i64) (Ty.pair (Ty.int .i64) (Ty.pair (Ty.slice (Ty.pair Ty.str Ty.str)) (Ty.pair Ty.str (Ty.pair Ty.str (Ty.pair (Ty.int .i64) (Ty.pair Ty.str (Ty.pair Ty.bool (Ty.pair (Ty.slice (Ty.pair Ty.str Ty.str)) Ty.str)))))))))) (0 : Nat) false ([] : (List ((List UInt8) × (Int × (Int × ((List ((List UInt8) × (List UInt8))) × ((List UInt8) × ((List UInt8) × (Int × ((List UInt8) × (Bool × ((List ((List UInt8) × (List UInt8))) × (List UInt8)))))))))))))) :: ([] : (List (Ob))))) (Br.ret (AV.tup ((AV.agg ((AV.int .i64 b) :: ((AV.ref (List.length ([] : (List (Ob)))) (0 : Nat)) :: ([] : (List (AV)))))) :: ((AV.bool true) :: ([] : (List (AV)))))) ((Ob.arr (Ty.pair Ty.str (Ty.pair (Ty.int .i64) (Ty.pair (Ty.int .i64) (Ty.pair (Ty.slice (Ty.pair Ty.str Ty.str)) (Ty.pair Ty.str (Ty.pair Ty.str (Ty.pair (Ty.int .i64) (Ty.pair Ty.str (Ty.pair Ty.bool (Ty.pair (Ty.slice (Ty.pair Ty.str Ty.str)) Ty.str)))))))))) (0 : Nat) false ([] : (List ((List UInt8) × (Int × (Int × ((List ((List UInt8) × (List UInt8))) × ((List UInt8) × ((List UInt8) × (Int × ((List UInt8) × (Bool × ((List ((List UInt8) × (List UInt8))) × (List UInt8)))))))))))))) :: ([] : (List (Ob)))))))
theorem sCNew_run (b : Int) : runF Kx noS sCNew_O 1 Try.f38 ([.int .i64 b]) ([]) = (sCNew_br b).val := by kernel_rfl
def sCNew_s : List AV → List Ob → Br
  | [.int .i64 b], [] => sCNew_br b
  | _, _ => .fail
theorem sCNew_ok : Sound Kx 38 sCNew_s := by
  refine sound_run (C := noS) (O := sCNew_O) KOk (sound_no Kx) Try.func38 (by kernel_rfl) fun args objs res os h => ?_
  unfold sCNew_s at h
  split at h
  · exact ⟨1, (sCNew_run _).trans h⟩
  · cases h

/-! impl.isBudget -/
def isBudget_O : Opt := { cons := [], keepNil := false, mutF := [], live := [], outs := [] }
def isBudget_C : Spec := (add noS 60 iwithin_s)
theorem isBudget_C_ok : ∀ fn, Sound Kx fn (isBudget_C fn) := (sound_add (sound_no Kx) iwithin_ok)
def isBudget_br (n : Int) : Br := (Br.ite (decide ((0 : Int) ≤ n)) (Br.ret (AV.bool (decide (n ≤ (20000 : Int)))) ([] : (List (Ob)))) (Br.ret (AV.bool false) ([] : (List (Ob)))))
theorem isBudget_run (n : Int) : runF Kx isBudget_C isBudget_O 1 Try.f64 ([.int .i64 n]) ([]) = (isBudget_br n).val := by kernel_rfl
def isBudget_s : List AV → List Ob → Br
  | [.int .i64 n], [] => isBudget_br n
  | _, _ => .fail
theorem isBudget_ok : Sound Kx 64 isBudget_s := by
  refine sound_run (C := isBudget_C) (O := isBudget_O) KOk isBudget_C_ok Try.func64 (by kernel_rfl) fun args objs res os h => ?_
  unfold isBudget_s at h
  split at h
  · exact ⟨1, (isBudget_run _).trans h⟩
  · cases h

/-! spec.l1lower -/
def l1lower_O : Opt := { cons := [], keepNil := false, mutF := [], live := [], outs := [] }
def l1lower_br (b : Int) : Br := (Br.ite (decide ((65 : Int) ≤ b)) (Br.ite (decide (b ≤ (90 : Int))) (Br.ret (AV.int .u8 ((b + (32 : Int)) % (256 : Int))) ([] : (List (Ob)))) (Br.ret (AV.int .u8 b) ([] : (List (Ob))))) (Br.ret (AV.int .u8 b) ([] : (List (Ob)))))
theorem l1lower_run (b : Int) : runF Kx noS l1lower_O 1 Try.f109 ([.int .u8 b]) ([]) = (l1lower_br b).val := by kernel_rfl
def l1lower_s : List AV → List Ob → Br
  | [.int .u8 b], [] => l1lower_br b
  | _, _ => .fail
theorem l1lower_ok : Sound Kx 109 l1lower_s := by
  refine sound_run (C := noS) (O := l1lower_O) KOk (sound_no Kx) Try.func109 (by kernel_rfl) fun args objs res os h => ?_
  unfold l1lower_s at h
  split at h
  · exact ⟨1, (l1lower_run _).trans h⟩
  · cases h

/-! spec.l1digit -/
def l1digit_O : Opt := { cons := [], keepNil := false, mutF := [], live := [], outs := [] }
def l1digit_br (b : Int) : Br := (Br.ite (decide ((48 : Int) ≤ b)) (Br.ret (AV.bool (decide (b ≤ (57 : Int)))) ([] : (List (Ob)))) (Br.ret (AV.bool false) ([] : (List (Ob)))))
theorem l1digit_run (b : Int) : runF Kx noS l1digit_O 1 Try.f110 ([.int .u8 b]) ([]) = (l1digit_br b).val := by kernel_rfl
def l1digit_s : List AV → List Ob → Br
  | [.int .u8 b], [] => l1digit_br b
  | _, _ => .fail
theorem l1digit_ok : Sound Kx 110 l1digit_s := by
  refine sound_run (C := noS) (O := l1digit_O) KOk (sound_no Kx) Try.func110 (by kernel_rfl) fun args objs res os h => ?_
  unfold l1digit_s at h
  split at h
  · exact ⟨1, (l1digit_run _).trans h⟩
  · cases h

/-! spec.l1has -/
def l1has_O : Opt := { cons := [], keepNil := false, mutF := [], live := [(2, [0, 1, 5])], outs := [(2, [4])] }
def l1has_T2 (v2x0 : (List UInt8)) (v2x1 : Int) (v2x2 : Int) (kR2 : (List UInt8) → Int → Int → Option Rs) (k2e0 : Option Rs) (k2e1 : Option Rs) : Option Rs :=
  (bif (decide (v2x2 < ((List.length v2x0) : Int))) then (bif (decide ((0 : Int) ≤ v2x2)) then (bif (decide (v2x2 < ((List.length v2x0) : Int))) then (bif (decide ((strAt v2x0 v2x2) = v2x1)) then k2e0 else (kR2 v2x0 v2x1 (wrap64 (v2x2 + (1 : Int))))) else (none)) else (none)) else k2e1)
def l1has_F2 : Nat → (List UInt8) → Int → Int → (Option Rs) → (Option Rs) → Option Rs
  | 0, _, _, _, _, _ => none
  | n + 1, v2x0, v2x1, v2x2, k2e0, k2e1 => l1has_T2 v2x0 v2x1 v2x2 (fun v2x0 v2x1 v2x2 => l1has_F2 n v2x0 v2x1 v2x2 k2e0 k2e1) k2e0 k2e1
def l1has_h2 (v2x0 : (List UInt8)) (v2x1 : Int) (v2x2 : Int) : St := (St.mk (slots 0 17 [(0, (AV.str v2x0)), (1, (AV.int .u8 v2x1)), (5, (AV.int .i64 v2x2))]) ([] : (List (Nat × (Ob)))))
def l1has_x2e0  : St := (St.mk (slots 0 17 [(4, (AV.bool true))]) ([] : (List (Nat × (Ob)))))
def l1has_x2e1  : St := (St.mk (slots 0 17 []) ([] : (List (Nat × (Ob)))))
noncomputable def l1has_b2 : Code := codeAt (codeOf Try.f111) [1, 0, 1, 0, 0]
def l1has_L2 (N : Nat) (st : St) (k : Ex → St → Option Rs) : Option Rs := match takeF [0, 1, 5] 0 17 st.env, st.objs with
  | some [.str v2x0, .int .u8 v2x1, .int .i64 v2x2], [] => l1has_F2 N v2x0 v2x1 v2x2 (k Ex.ret (l1has_x2e0)) (k (Ex.exit (0 : Nat)) (l1has_x2e1))
  | _, _ => none
def l1has_L (N : Nat) : Lam := fun j st k => match j with
  | 2 => l1has_L2 N st k
  | _ => none
theorem l1has_round2 (N : Nat) (again : St → Option Rs) (k : Ex → St → Option Rs) (wv2x0 : (List UInt8)) (wv2x1 : Int) (wv2x2 : Int) (v2x0 : (List UInt8)) (v2x1 : Int) (v2x2 : Int) :
    roundK 0 (fun st k => evL Kx noS l1has_O 0 (l1has_L N) l1has_b2 st k) (l1has_h2 wv2x0 wv2x1 wv2x2).env again (l1has_h2 v2x0 v2x1 v2x2) (outK l1has_O 0 l1has_b2 k) = l1has_T2 v2x0 v2x1 v2x2 (fun v2x0 v2x1 v2x2 => again (l1has_h2 v2x0 v2x1 v2x2)) (k Ex.ret (l1has_x2e0)) (k (Ex.exit (0 : Nat)) (l1has_x2e1)) := by kernel_rfl
theorem l1has_loop2 (N : Nat) (k : Ex → St → Option Rs) (wv2x0 : (List UInt8)) (wv2x1 : Int) (wv2x2 : Int) : ∀ (n : Nat) (v2x0 : (List UInt8)) (v2x1 : Int) (v2x2 : Int),
    loopK 0 (fun st k => evL Kx noS l1has_O 0 (l1has_L N) l1has_b2 st k) (l1has_h2 wv2x0 wv2x1 wv2x2).env n (l1has_h2 v2x0 v2x1 v2x2) (outK l1has_O 0 l1has_b2 k) = l1has_F2 n v2x0 v2x1 v2x2 (k Ex.ret (l1has_x2e0)) (k (Ex.exit (0 : Nat)) (l1has_x2e1))
  | 0, _, _, _ => rfl
  | n + 1, v2x0, v2x1, v2x2 => by
    rw [loopK_succ, l1has_round2]
    simp only [l1has_loop2 N k wv2x0 wv2x1 wv2x2 n]
    rfl
theorem l1has_at2 (N : Nat) {s : St} {k : Ex → St → Option Rs} {r : Rs} (h : l1has_L2 N s k = some r) : ∃ (v2x0 : (List UInt8)) (v2x1 : Int) (v2x2 : Int), s = (l1has_h2 v2x0 v2x1 v2x2) ∧ l1has_F2 N v2x0 v2x1 v2x2 (k Ex.ret (l1has_x2e0)) (k (Ex.exit (0 : Nat)) (l1has_x2e1)) = some r := by
  cases s with | mk env objs =>
  unfold l1has_L2 at h
  split at h
  · rename_i e1 e2
    have e3 := takeF_slots _ _ _ _ e1
    simp only at e2 e3
    subst e2 e3
    exact ⟨_, _, _, rfl, h⟩
  · cases h
theorem l1has_in2 : loops l1has_b2 = [] := by kernel_rfl
theorem l1has_lid2 : lid l1has_b2 = 2 := by kernel_rfl
theorem l1has_ok2 (N : Nat) : OkL Kx noS l1has_O 0 N (l1has_L N) l1has_b2 := by
  intro s k k' r hk h
  rw [l1has_lid2] at h
  obtain ⟨v2x0, v2x1, v2x2, rfl, h⟩ := l1has_at2 N h
  refine loopL (Λ := l1has_L N) l1has_b2 ?_ N hk ((l1has_loop2 N k v2x0 v2x1 v2x2 N v2x0 v2x1 v2x2).trans h)
  rw [l1has_in2]
  exact fun _ h => nomatch h
def l1has_run (N : Nat) (s : List UInt8) (b : Int) : Option Rs := (l1has_F2 N s b (0 : Int) (some ((AV.bool true), ([] : (List (Ob))))) (some ((AV.bool false), ([] : (List (Ob))))))
theorem l1has_runL (N : Nat) (s : List UInt8) (b : Int) : runL Kx noS l1has_O (l1has_L N) Try.f111 ([.str s, .int .u8 b]) ([]) = l1has_run N s b := by kernel_rfl
theorem l1has_body : Try.f111.body = some (codeOf Try.f111) := by kernel_rfl
theorem l1has_loops : loops (codeOf Try.f111) = [l1has_b2] := by kernel_rfl
theorem l1has_ev (N : Nat) (s : List UInt8) (b : Int) {r : Rs} (h : l1has_run N s b = some r) : ∃ n, runF Kx noS l1has_O n Try.f111 ([.str s, .int .u8 b]) ([]) = some r :=
  ⟨N, runL_runF l1has_body (by rw [l1has_loops]; exact List.forall_mem_cons.2 ⟨l1has_ok2 N, fun _ h => nomatch h⟩) ((l1has_runL N s b).trans h)⟩
def l1has_sOf (φ : (List UInt8) → Int → Br) : List AV → List Ob → Br
  | [.str s, .int .u8 b], [] => φ s b
  | _, _ => .fail
theorem l1has_okOf {φ : (List UInt8) → Int → Br} (fu : (List UInt8) → Int → Nat) (hv : ∀ s b r, (φ s b).val = some r → l1has_run (fu s b) s b = some r) : Sound Kx 111 (l1has_sOf φ) := by
  refine sound_run (C := noS) (O := l1has_O) KOk (sound_no Kx) Try.func111 (by kernel_rfl) fun args objs res os h => ?_
  unfold l1has_sOf at h
  split at h
  · exact l1has_ev _ _ _ (hv _ _ _ h)
  · cases h

/-! impl.isLower -/
def isLower_O : Opt := { cons := [], keepNil := false, mutF := [], live := [], outs := [] }
def isLower_br (b : Int) : Br := (Br.ite (decide ((97 : Int) ≤ b)) (Br.ret (AV.bool (decide (b ≤ (122 : Int)))) ([] : (List (Ob)))) (Br.ret (AV.bool false) ([] : (List (Ob)))))
theorem isLower_run (b : Int) : runF Kx noS isLower_O 1 Try.f112 ([.int .u8 b]) ([]) = (isLower_br b).val := by kernel_rfl
def isLower_s : List AV → List Ob → Br
  | [.int .u8 b], [] => isLower_br b
  | _, _ => .fail
theorem isLower_ok : Sound Kx 112 isLower_s := by
  refine sound_run (C := noS) (O := isLower_O) KOk (sound_no Kx) Try.func112 (by kernel_rfl) fun args objs res os h => ?_
  unfold isLower_s at h
  split at h
  · exact ⟨1, (isLower_run _).trans h⟩
  · cases h

/-! impl.isUpper -/
def isUpper_O : Opt := { cons := [], keepNil := false, mutF := [], live := [], outs := [] }
def isUpper_br (b : Int) : Br := (Br.ite (decide ((65 : Int) ≤ b)) (Br.ret (AV.bool (decide (b ≤ (90 : Int)))) ([] : (List (Ob)))) (Br.ret (AV.bool false) ([] : (List (Ob)))))
theorem isUpper_run (b : Int) : runF Kx noS isUpper_O 1 Try.f113 ([.int .u8 b]) ([]) = (isUpper_br b).val := by kernel_rfl
def isUpper_s : List AV → List Ob → Br
  | [.int .u8 b], [] => isUpper_br b
  | _, _ => .fail
theorem isUpper_ok : Sound Kx 113 isUpper_s := by
  refine sound_run (C := noS) (O := isUpper_O) KOk (sound_no Kx) Try.func113 (by kernel_rfl) fun args objs res os h => ?_
  unfold isUpper_s at h
  split at h
  · exact ⟨1, (isUpper_run _).trans h⟩
  · cases h

/-! impl.isDigit -/
def isDigit_O : Opt := { cons := [], keepNil := false, mutF := [], live := [], outs := [] }
def isDigit_br (b : Int) : Br := (Br.ite (decide ((48 : Int) ≤ b)) (Br.ret (AV.bool (decide (b ≤ (57 : Int)))) ([] : (List (Ob)))) (Br.ret (AV.bool false) ([] : (List (Ob)))))
theorem isDigit_run (b : Int) : runF Kx noS isDigit_O 1 Try.f114 ([.int .u8 b]) ([]) = (isDigit_br b).val := by kernel_rfl
def isDigit_s : List AV → List Ob → Br
  | [.int .u8 b], [] => isDigit_br b
  | _, _ => .fail
theorem isDigit_ok : Sound Kx 114 isDigit_s := by
  refine sound_run (C := noS) (O := isDigit_O) KOk (sound_no Kx) Try.func114 (by kernel_rfl) fun args objs res os h => ?_
  unfold isDigit_s at h
  split at h
  · exact ⟨1, (isDigit_run _).trans h⟩
  · cases h

/-! internal/stringslite.IndexByte -/
def ixLite_O : Opt := { cons := [], keepNil := false, mutF := [], live := [], outs := [] }
def ixLite_C : Spec := (add noS 119 ixBS_s)
theorem ixLite_C_ok : ∀ fn, Sound Kx fn (ixLite_C fn) := (sound_add (sound_no Kx) ixBS_ok)
def ixLite_br (s : List UInt8) (c : Int) : Br := (Br.ret (AV.int .i64 (ixOf s c)) ([] : (List (Ob))))
theorem ixLite_run (s : List UInt8) (c : Int) : runF Kx ixLite_C ixLite_O 1 Try.f118 ([.str s, .int .u8 c]) ([]) = (ixLite_br s c).val := by kernel_rfl
def ixLite_s : List AV → List Ob → Br
  | [.str s, .int .u8 c], [] => ixLite_br s c
  | _, _ => .fail
theorem ixLite_ok : Sound Kx 118 ixLite_s := by
  refine sound_run (C := ixLite_C) (O := ixLite_O) KOk ixLite_C_ok Try.func118 (by kernel_rfl) fun args objs res os h => ?_
  unfold ixLite_s at h
  split at h
  · exact ⟨1, (ixLite_run _ _).trans h⟩
  · cases h

/-! strings.IndexByte -/
def ixB_O : Opt := { cons := [], keepNil := false, mutF := [], live := [], outs := [] }
def ixB_C : Spec := (add noS 118 ixLite_s)
theorem ixB_C_ok : ∀ fn, Sound Kx fn (ixB_C fn) := (sound_add (sound_no Kx) ixLite_ok)
def ixB_br (s : List UInt8) (c : Int) : Br := (Br.ret (AV.int .i64 (ixOf s c)) ([] : (List (Ob))))
theorem ixB_run (s : List UInt8) (c : Int) : runF Kx ixB_C ixB_O 1 Try.f115 ([.str s, .int .u8 c]) ([]) = (ixB_br s c).val := by kernel_rfl
def ixB_s : List AV → List Ob → Br
  | [.str s, .int .u8 c], [] => ixB_br s c
  | _, _ => .fail
theorem ixB_ok : Sound Kx 115 ixB_s := by
  refine sound_run (C := ixB_C) (O := ixB_O) KOk ixB_C_ok Try.func115 (by kernel_rfl) fun args objs res os h => ?_
  unfold ixB_s at h
  split at h
  · exact ⟨1, (ixB_run _ _).trans h⟩
  · cases h

/-! impl.isTokenByte -/
def isTok_O : Opt := { cons := [], keepNil := false, mutF := [], live := [], outs := [] }
def isTok_C : Spec := (add (add (add (add noS 112 isLower_s) 113 isUpper_s) 114 isDigit_s) 115 ixB_s)
theorem isTok_C_ok : ∀ fn, Sound Kx fn (isTok_C fn) := (sound_add (sound_add (sound_add (sound_add (sound_no Kx) isLower_ok) isUpper_ok) isDigit_ok) ixB_ok)
def isTok_br (b : Int) : Br := (Br.ite (decide ((97 : Int) ≤ b)) (Br.ite (decide (b ≤ (122 : Int))) (Br.ret (AV.bool true) ([] : (List (Ob)))) (Br.ite (decide ((65 : Int) ≤ b)) (Br.ite (decide (b ≤ (90 : Int))) (Br.ret (AV.bool true) ([] : (List (Ob)))) (Br.ite (decide ((48 : Int) ≤ b)) (Br.ite (decide (b ≤ (57 : Int))) (Br.ret (AV.bool true) ([] : (List (Ob)))) (Br.ite (decide (b = (96 : Int))) (Br.ret (AV.bool true) ([] : (List (Ob)))) (Br.ret (AV.bool (decide ((0 : Int) ≤ (ixOf ((33 : UInt8) :: ((35 : UInt8) :: ((36 : UInt8) :: ((37 : UInt8) :: ((38 : UInt8) :: ((39 : UInt8) :: ((42 : UInt8) :: ((43 : UInt8) :: ((45 : UInt8) :: ((46 : UInt8) :: ((94 : UInt8) :: ((95 : UInt8) :: ((124 : UInt8) :: ((126 : UInt8) :: ([] : (List UInt8)))))))))))))))) b)))) ([] : (List (Ob)))))) (Br.ite (decide (b = (96 : Int))) (Br.ret (AV.bool true) ([] : (List (Ob)))) (Br.ret (AV.bool (decide ((0 : Int) ≤ (ixOf ((33 : UInt8) :: ((35 : UInt8) :: ((36 : UInt8) :: ((37 : UInt8) :: ((38 : UInt8) :: ((39 : UInt8) :: ((42 : UInt8) :: ((43 : UInt8) :: ((45 : UInt8) :: ((46 : UInt8) :: ((94 : UInt8) :: ((95 : UInt8) :: ((124 : UInt8) :: ((126 : UInt8) :: ([] : (List UInt8)))))))))))))))) b)))) ([] : (List (Ob))))))) (Br.ite (decide ((48 : Int) ≤ b)) (Br.ite (decide (b ≤ (57 : Int))) (Br.ret (AV.bool true) ([] : (List (Ob)))) (Br.ite (decide (b = (96 : Int))) (Br.ret (AV.bool true) ([] : (List (Ob)))) (Br.ret (AV.bool (decide ((0 : Int) ≤ (ixOf ((33 : UInt8) :: ((35 : UInt8) :: ((36 : UInt8) :: ((37 : UInt8) :: ((38 : UInt8) :: ((39 : UInt8) :: ((42 : UInt8) :: ((43 : UInt8) :: ((45 : UInt8) :: ((46 : UInt8) :: ((94 : UInt8) :: ((95 : UInt8) :: ((124 : UInt8) :: ((126 : UInt8) :: ([] : (List UInt8)))))))))))))))) b)))) ([] : (List (Ob)))))) (Br.ite (decide (b = (96 : Int))) (Br.ret (AV.bool true) ([] : (List (Ob)))) (Br.ret (AV.bool (decide ((0 : Int) ≤ (ixOf ((33 : UInt8) :: ((35 : UInt8) :: ((36 : UInt8) :: ((37 : UInt8) :: ((38 : UInt8) :: ((39 : UInt8) :: ((42 : UInt8) :: ((43 : UInt8) :: ((45 : UInt8) :: ((46 : UInt8) :: ((94 : UInt8) :: ((95 : UInt8) :: ((124 : UInt8) :: ((126 : UInt8) :: ([] : (List UInt8)))))))))))))))) b)))) ([] : (List (Ob)))))))) (Br.ite (decide ((65 : Int) ≤ b)) (Br.ite (decide (b ≤ (90 : Int))) (Br.ret (AV.bool true) ([] : (List (Ob)))) (Br.ite (decide ((48 : Int) ≤ b)) (Br.ite (decide (b ≤ (57 : Int))) (Br.ret (AV.bool true) ([] : (List (Ob)))) (Br.ite (decide (b = (96 : Int))) (Br.ret (AV.bool true) ([] : (List (Ob)))) (Br.ret (AV.bool (decide ((0 : Int) ≤ (ixOf ((33 : UInt8) :: ((35 : UInt8) :: ((36 : UInt8) :: ((37 : UInt8) :: ((38 : UInt8) :: ((39 : UInt8) :: ((42 : UInt8) :: ((43 : UInt8) :: ((45 : UInt8) :: ((46 : UInt8) :: ((94 : UInt8) :: ((95 : UInt8) :: ((124 : UInt8) :: ((126 : UInt8) :: ([] : (List UInt8)))))))))))))))) b)))) ([] : (List (Ob)))))) (Br.ite (decide (b = (96 : Int))) (Br.ret (AV.bool true) ([] : (List (Ob)))) (Br.ret (AV.bool (decide ((0 : Int) ≤ (ixOf ((33 : UInt8) :: ((35 : UInt8) :: ((36 : UInt8) :: ((37 : UInt8) :: ((38 : UInt8) :: ((39 : UInt8) :: ((42 : UInt8) :: ((43 : UInt8) :: ((45 : UInt8) :: ((46 : UInt8) :: ((94 : UInt8) :: ((95 : UInt8) :: ((124 : UInt8) :: ((126 : UInt8) :: ([] : (List UInt8)))))))))))))))) b)))) ([] : (List (Ob))))))) (Br.ite (decide ((48 : Int) ≤ b)) (Br.ite (decide (b ≤ (57 : Int))) (Br.ret (AV.bool true) ([] : (List (Ob)))) (Br.ite (decide (b = (96 : Int))) (Br.ret (AV.bool true) ([] : (List (Ob)))) (Br.ret (AV.bool (decide ((0 : Int) ≤ (ixOf ((33 : UInt8) :: ((35 : UInt8) :: ((36 : UInt8) :: ((37 : UInt8) :: ((38 : UInt8) :: ((39 : UInt8) :: ((42 : UInt8) :: ((43 : UInt8) :: ((45 : UInt8) :: ((46 : UInt8) :: ((94 : UInt8) :: ((95 : UInt8) :: ((124 : UInt8) :: ((126 : UInt8) :: ([] : (List UInt8)))))))))))))))) b)))) ([] : (List (Ob)))))) (Br.ite (decide (b = (96 : Int))) (Br.ret (AV.bool true) ([] : (List (Ob)))) (Br.ret (AV.bool (decide ((0 : Int) ≤ (ixOf ((33 : UInt8) :: ((35 : UInt8) :: ((36 : UInt8) :: ((37 : UInt8) :: ((38 : UInt8) :: ((39 : UInt8) :: ((42 : UInt8) :: ((43 : UInt8) :: ((45 : UInt8) :: ((46 : UInt8) :: ((94 : UInt8) :: ((95 : UInt8) :: ((124 : UInt8) :: ((126 : UInt8) :: ([] : (List UInt8)))))))))))))))) b)))) ([] : (List (Ob))))))))
theorem isTok_run (b : Int) : runF Kx isTok_C isTok_O 1 Try.f105 ([.int .u8 b]) ([]) = (isTok_br b).val := by kernel_rfl
def isTok_s : List AV → List Ob → Br
  | [.int .u8 b], [] => isTok_br b
  | _, _ => .fail
theorem isTok_ok : Sound Kx 105 isTok_s := by
  refine sound_run (C := isTok_C) (O := isTok_O) KOk isTok_C_ok Try.func105 (by kernel_rfl) fun args objs res os h => ?_
  unfold isTok_s at h
  split at h
  · exact ⟨1, (isTok_run _).trans h⟩
  · cases h

end Go.Proofs.Ythdiildelpmknaa.Ev
