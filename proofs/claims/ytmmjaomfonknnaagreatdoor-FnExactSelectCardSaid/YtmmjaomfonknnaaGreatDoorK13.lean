/- The texts Ext1, La, Lb, Lc, Ld, Ua, Le, Lf, Lg, Lh, Li, Lj, Lk, Ll, Lm, Ln, Na, Nb, Nc, one behind the other. -/
import Derived.Test.YtmmjaomfonknnaaGreatDoorK12
import Derived.Lib.Bytealg
namespace Go.Proofs.YtmmjaomfonknnaaGreatDoor.Ev
open Go Go.RowKit
set_option linter.unusedVariables false
set_option linter.unusedSimpArgs false

def ixOf (s : List UInt8) (c : Int) : Int := Go.Lib.indexByte s c.toNat.toUInt8
def ixBS_br (s : List UInt8) (c : Int) : Br := .ret (.int .i64 (ixOf s c)) []
def ixBS_s : List AV → List Ob → Br
  | [.str s, .int .u8 c], [] => ixBS_br s c
  | _, _ => .fail
theorem ixBS_ok : Sound Kx 217 ixBS_s := by
  intro args objs res objs' hv w L vs hR ho hr
  unfold ixBS_s at hv
  split at hv
  · rename_i s c
    cases hv
    simp only [rels, rel] at hr
    obtain ⟨v1, cs1, rfl, rfl, v2, cs2, rfl, rfl, rfl⟩ := hr
    refine .inr ⟨.int .i64 (Go.Lib.indexByte s c.toNat.toUInt8), w, ?_, L, hR, ho, ?_, by simp [rel, ixOf]⟩
    · have := run_callFunc_extern (P := Kx.P) (f := 217) (e := Extern.BytealgIndexByte.indexByte) Tryz.func217 (by kernel_rfl) (by kernel_rfl) (by kernel_rfl) (by kernel_rfl) #[.string ⟨s.toArray⟩, .int .u8 c] w
      refine this.trans ?_
      rw [Go.Lib.run_indexByteString]
      simp [Result.andThen, ixOf]
    · exact Kept.refl _ _
  · cases hv

end Go.Proofs.YtmmjaomfonknnaaGreatDoor.Ev

namespace Go.Proofs.YtmmjaomfonknnaaGreatDoor.Ev
open Go Go.RowKit
set_option linter.unusedVariables false
set_option linter.unusedSimpArgs false
noncomputable section

def iwithin_O : Opt := { cons := [], keepNil := false, mutF := [], live := [], outs := [] }
def iwithin_br (n lo hi : Int) : Br := (Br.ite (decide (lo ≤ n)) (Br.ret (AV.bool (decide (n ≤ hi))) ([] : List Ob)) (Br.ret (AV.bool false) ([] : List Ob)))
theorem iwithin_run (n lo hi : Int) : runF Kx noS iwithin_O 1 Tryz.f84 ([.int .i64 n, .int .i64 lo, .int .i64 hi]) ([]) = (iwithin_br n lo hi).val := by kernel_rfl
def iwithin_s : List AV → List Ob → Br
  | [.int .i64 n, .int .i64 lo, .int .i64 hi], [] => iwithin_br n lo hi
  | _, _ => .fail
theorem iwithin_ok : Sound Kx 84 iwithin_s := by
  refine sound_run (C := noS) (O := iwithin_O) KOk (sound_no Kx) Tryz.func84 (by kernel_rfl) fun args objs res os h => ?_
  unfold iwithin_s at h
  split at h
  · exact ⟨1, (iwithin_run _ _ _).trans h⟩
  · cases h

def isLower_O : Opt := { cons := [], keepNil := false, mutF := [], live := [], outs := [] }
def isLower_br (b : Int) : Br := (Br.ite (decide ((97 : Int) ≤ b)) (Br.ret (AV.bool (decide (b ≤ (122 : Int)))) ([] : List Ob)) (Br.ret (AV.bool false) ([] : List Ob)))
theorem isLower_run (b : Int) : runF Kx noS isLower_O 1 Tryz.f219 ([.int .u8 b]) ([]) = (isLower_br b).val := by kernel_rfl
def isLower_s : List AV → List Ob → Br
  | [.int .u8 b], [] => isLower_br b
  | _, _ => .fail
theorem isLower_ok : Sound Kx 219 isLower_s := by
  refine sound_run (C := noS) (O := isLower_O) KOk (sound_no Kx) Tryz.func219 (by kernel_rfl) fun args objs res os h => ?_
  unfold isLower_s at h
  split at h
  · exact ⟨1, (isLower_run _).trans h⟩
  · cases h

def isUpper_O : Opt := { cons := [], keepNil := false, mutF := [], live := [], outs := [] }
def isUpper_br (b : Int) : Br := (Br.ite (decide ((65 : Int) ≤ b)) (Br.ret (AV.bool (decide (b ≤ (90 : Int)))) ([] : List Ob)) (Br.ret (AV.bool false) ([] : List Ob)))
theorem isUpper_run (b : Int) : runF Kx noS isUpper_O 1 Tryz.f152 ([.int .u8 b]) ([]) = (isUpper_br b).val := by kernel_rfl
def isUpper_s : List AV → List Ob → Br
  | [.int .u8 b], [] => isUpper_br b
  | _, _ => .fail
theorem isUpper_ok : Sound Kx 152 isUpper_s := by
  refine sound_run (C := noS) (O := isUpper_O) KOk (sound_no Kx) Tryz.func152 (by kernel_rfl) fun args objs res os h => ?_
  unfold isUpper_s at h
  split at h
  · exact ⟨1, (isUpper_run _).trans h⟩
  · cases h

def isDigit_O : Opt := { cons := [], keepNil := false, mutF := [], live := [], outs := [] }
def isDigit_br (b : Int) : Br := (Br.ite (decide ((48 : Int) ≤ b)) (Br.ret (AV.bool (decide (b ≤ (57 : Int)))) ([] : List Ob)) (Br.ret (AV.bool false) ([] : List Ob)))
theorem isDigit_run (b : Int) : runF Kx noS isDigit_O 1 Tryz.f171 ([.int .u8 b]) ([]) = (isDigit_br b).val := by kernel_rfl
def isDigit_s : List AV → List Ob → Br
  | [.int .u8 b], [] => isDigit_br b
  | _, _ => .fail
theorem isDigit_ok : Sound Kx 171 isDigit_s := by
  refine sound_run (C := noS) (O := isDigit_O) KOk (sound_no Kx) Tryz.func171 (by kernel_rfl) fun args objs res os h => ?_
  unfold isDigit_s at h
  split at h
  · exact ⟨1, (isDigit_run _).trans h⟩
  · cases h

def isSpace_O : Opt := { cons := [], keepNil := false, mutF := [], live := [], outs := [] }
def isSpace_br (b : Int) : Br := (Br.ite (decide (b = (32 : Int))) (Br.ret (AV.bool true) ([] : List Ob)) (Br.ret (AV.bool (decide (b = (9 : Int)))) ([] : List Ob)))
theorem isSpace_run (b : Int) : runF Kx noS isSpace_O 1 Tryz.f187 ([.int .u8 b]) ([]) = (isSpace_br b).val := by kernel_rfl
def isSpace_s : List AV → List Ob → Br
  | [.int .u8 b], [] => isSpace_br b
  | _, _ => .fail
theorem isSpace_ok : Sound Kx 187 isSpace_s := by
  refine sound_run (C := noS) (O := isSpace_O) KOk (sound_no Kx) Tryz.func187 (by kernel_rfl) fun args objs res os h => ?_
  unfold isSpace_s at h
  split at h
  · exact ⟨1, (isSpace_run _).trans h⟩
  · cases h

def isPlain_O : Opt := { cons := [], keepNil := false, mutF := [], live := [], outs := [] }
def isPlain_br (b : Int) : Br := (Br.ite (decide (b = (9 : Int))) (Br.ret (AV.bool true) ([] : List Ob)) (Br.ite (decide ((32 : Int) ≤ b)) (Br.ret (AV.bool (!(decide (b = (127 : Int))))) ([] : List Ob)) (Br.ret (AV.bool false) ([] : List Ob))))
theorem isPlain_run (b : Int) : runF Kx noS isPlain_O 1 Tryz.f146 ([.int .u8 b]) ([]) = (isPlain_br b).val := by kernel_rfl
def isPlain_s : List AV → List Ob → Br
  | [.int .u8 b], [] => isPlain_br b
  | _, _ => .fail
theorem isPlain_ok : Sound Kx 146 isPlain_s := by
  refine sound_run (C := noS) (O := isPlain_O) KOk (sound_no Kx) Tryz.func146 (by kernel_rfl) fun args objs res os h => ?_
  unfold isPlain_s at h
  split at h
  · exact ⟨1, (isPlain_run _).trans h⟩
  · cases h

def isVisible_O : Opt := { cons := [], keepNil := false, mutF := [], live := [], outs := [] }
def isVisible_br (b : Int) : Br := (Br.ite (decide ((33 : Int) ≤ b)) (Br.ret (AV.bool (decide (b ≤ (126 : Int)))) ([] : List Ob)) (Br.ret (AV.bool false) ([] : List Ob)))
theorem isVisible_run (b : Int) : runF Kx noS isVisible_O 1 Tryz.f162 ([.int .u8 b]) ([]) = (isVisible_br b).val := by kernel_rfl
def isVisible_s : List AV → List Ob → Br
  | [.int .u8 b], [] => isVisible_br b
  | _, _ => .fail
theorem isVisible_ok : Sound Kx 162 isVisible_s := by
  refine sound_run (C := noS) (O := isVisible_O) KOk (sound_no Kx) Tryz.func162 (by kernel_rfl) fun args objs res os h => ?_
  unfold isVisible_s at h
  split at h
  · exact ⟨1, (isVisible_run _).trans h⟩
  · cases h

def isStatus_O : Opt := { cons := [], keepNil := false, mutF := [], live := [], outs := [] }
def isStatus_C : Spec := (add noS 84 iwithin_s)
theorem isStatus_C_ok : ∀ fn, Sound Kx fn (isStatus_C fn) := (sound_add (sound_no Kx) iwithin_ok)
def isStatus_br (n : Int) : Br := (Br.ite (decide ((200 : Int) ≤ n)) (Br.ret (AV.bool (decide (n ≤ (599 : Int)))) ([] : List Ob)) (Br.ret (AV.bool false) ([] : List Ob)))
theorem isStatus_run (n : Int) : runF Kx isStatus_C isStatus_O 1 Tryz.f119 ([.int .i64 n]) ([]) = (isStatus_br n).val := by kernel_rfl
def isStatus_s : List AV → List Ob → Br
  | [.int .i64 n], [] => isStatus_br n
  | _, _ => .fail
theorem isStatus_ok : Sound Kx 119 isStatus_s := by
  refine sound_run (C := isStatus_C) (O := isStatus_O) KOk isStatus_C_ok Tryz.func119 (by kernel_rfl) fun args objs res os h => ?_
  unfold isStatus_s at h
  split at h
  · exact ⟨1, (isStatus_run _).trans h⟩
  · cases h

def isBareStatus_O : Opt := { cons := [], keepNil := false, mutF := [], live := [], outs := [] }
def isBareStatus_br (n : Int) : Br := (Br.ite (decide (n = (204 : Int))) (Br.ret (AV.bool true) ([] : List Ob)) (Br.ret (AV.bool (decide (n = (304 : Int)))) ([] : List Ob)))
theorem isBareStatus_run (n : Int) : runF Kx noS isBareStatus_O 1 Tryz.f121 ([.int .i64 n]) ([]) = (isBareStatus_br n).val := by kernel_rfl
def isBareStatus_s : List AV → List Ob → Br
  | [.int .i64 n], [] => isBareStatus_br n
  | _, _ => .fail
theorem isBareStatus_ok : Sound Kx 121 isBareStatus_s := by
  refine sound_run (C := noS) (O := isBareStatus_O) KOk (sound_no Kx) Tryz.func121 (by kernel_rfl) fun args objs res os h => ?_
  unfold isBareStatus_s at h
  split at h
  · exact ⟨1, (isBareStatus_run _).trans h⟩
  · cases h

def slower_O : Opt := { cons := [], keepNil := false, mutF := [], live := [], outs := [] }
def slower_br (b : Int) : Br := (Br.ite (decide ((65 : Int) ≤ b)) (Br.ite (decide (b ≤ (90 : Int))) (Br.ret (AV.int .u8 (wk8 (b + (32 : Int)))) ([] : List Ob)) (Br.ret (AV.int .u8 b) ([] : List Ob))) (Br.ret (AV.int .u8 b) ([] : List Ob)))
theorem slower_run (b : Int) : runF Kx noS slower_O 1 Tryz.f151 ([.int .u8 b]) ([]) = (slower_br b).val := by kernel_rfl
def slower_s : List AV → List Ob → Br
  | [.int .u8 b], [] => slower_br b
  | _, _ => .fail
theorem slower_ok : Sound Kx 151 slower_s := by
  refine sound_run (C := noS) (O := slower_O) KOk (sound_no Kx) Tryz.func151 (by kernel_rfl) fun args objs res os h => ?_
  unfold slower_s at h
  split at h
  · exact ⟨1, (slower_run _).trans h⟩
  · cases h

def swhite_O : Opt := { cons := [], keepNil := false, mutF := [], live := [], outs := [] }
def swhite_br (b : Int) : Br := (Br.ite (decide (b = (32 : Int))) (Br.ret (AV.bool true) ([] : List Ob)) (Br.ret (AV.bool (decide (b = (9 : Int)))) ([] : List Ob)))
theorem swhite_run (b : Int) : runF Kx noS swhite_O 1 Tryz.f185 ([.int .u8 b]) ([]) = (swhite_br b).val := by kernel_rfl
def swhite_s : List AV → List Ob → Br
  | [.int .u8 b], [] => swhite_br b
  | _, _ => .fail
theorem swhite_ok : Sound Kx 185 swhite_s := by
  refine sound_run (C := noS) (O := swhite_O) KOk (sound_no Kx) Tryz.func185 (by kernel_rfl) fun args objs res os h => ?_
  unfold swhite_s at h
  split at h
  · exact ⟨1, (swhite_run _).trans h⟩
  · cases h

def sdigit_O : Opt := { cons := [], keepNil := false, mutF := [], live := [], outs := [] }
def sdigit_br (b : Int) : Br := (Br.ite (decide ((48 : Int) ≤ b)) (Br.ret (AV.bool (decide (b ≤ (57 : Int)))) ([] : List Ob)) (Br.ret (AV.bool false) ([] : List Ob)))
theorem sdigit_run (b : Int) : runF Kx noS sdigit_O 1 Tryz.f125 ([.int .u8 b]) ([]) = (sdigit_br b).val := by kernel_rfl
def sdigit_s : List AV → List Ob → Br
  | [.int .u8 b], [] => sdigit_br b
  | _, _ => .fail
theorem sdigit_ok : Sound Kx 125 sdigit_s := by
  refine sound_run (C := noS) (O := sdigit_O) KOk (sound_no Kx) Tryz.func125 (by kernel_rfl) fun args objs res os h => ?_
  unfold sdigit_s at h
  split at h
  · exact ⟨1, (sdigit_run _).trans h⟩
  · cases h

def splain_O : Opt := { cons := [], keepNil := false, mutF := [], live := [], outs := [] }
def splain_br (b : Int) : Br := (Br.ite (decide (b = (9 : Int))) (Br.ret (AV.bool true) ([] : List Ob)) (Br.ite (decide ((32 : Int) ≤ b)) (Br.ret (AV.bool (!(decide (b = (127 : Int))))) ([] : List Ob)) (Br.ret (AV.bool false) ([] : List Ob))))
theorem splain_run (b : Int) : runF Kx noS splain_O 1 Tryz.f184 ([.int .u8 b]) ([]) = (splain_br b).val := by kernel_rfl
def splain_s : List AV → List Ob → Br
  | [.int .u8 b], [] => splain_br b
  | _, _ => .fail
theorem splain_ok : Sound Kx 184 splain_s := by
  refine sound_run (C := noS) (O := splain_O) KOk (sound_no Kx) Tryz.func184 (by kernel_rfl) fun args objs res os h => ?_
  unfold splain_s at h
  split at h
  · exact ⟨1, (splain_run _).trans h⟩
  · cases h

def sbare_O : Opt := { cons := [], keepNil := false, mutF := [], live := [], outs := [] }
def sbare_br (n : Int) : Br := (Br.ite (decide (n = (204 : Int))) (Br.ret (AV.bool true) ([] : List Ob)) (Br.ret (AV.bool (decide (n = (304 : Int)))) ([] : List Ob)))
theorem sbare_run (n : Int) : runF Kx noS sbare_O 1 Tryz.f158 ([.int .i64 n]) ([]) = (sbare_br n).val := by kernel_rfl
def sbare_s : List AV → List Ob → Br
  | [.int .i64 n], [] => sbare_br n
  | _, _ => .fail
theorem sbare_ok : Sound Kx 158 sbare_s := by
  refine sound_run (C := noS) (O := sbare_O) KOk (sound_no Kx) Tryz.func158 (by kernel_rfl) fun args objs res os h => ?_
  unfold sbare_s at h
  split at h
  · exact ⟨1, (sbare_run _).trans h⟩
  · cases h

def szField_O : Opt := { cons := [], keepNil := false, mutF := [], live := [], outs := [] }
def szField_br (a b : Bytes) (left : Int) : Br := (Br.ite (decide ((wk64 (left - ((List.length a) : Int))) < (0 : Int))) (Br.ret (AV.int .i64 (-(1 : Int))) ([] : List Ob)) (Br.ite (decide ((wk64 ((wk64 (left - ((List.length a) : Int))) - ((List.length b) : Int))) < (0 : Int))) (Br.ret (AV.int .i64 (-(1 : Int))) ([] : List Ob)) (Br.ret (AV.int .i64 (wk64 ((wk64 (left - ((List.length a) : Int))) - ((List.length b) : Int)))) ([] : List Ob))))
theorem szField_run (a b : Bytes) (left : Int) : runF Kx noS szField_O 1 Tryz.f58 ([.agg [.str a, .str b], .int .i64 left]) ([]) = (szField_br a b left).val := by kernel_rfl
def szField_s : List AV → List Ob → Br
  | [.agg [.str a, .str b], .int .i64 left], [] => szField_br a b left
  | _, _ => .fail
theorem szField_ok : Sound Kx 58 szField_s := by
  refine sound_run (C := noS) (O := szField_O) KOk (sound_no Kx) Tryz.func58 (by kernel_rfl) fun args objs res os h => ?_
  unfold szField_s at h
  split at h
  · exact ⟨1, (szField_run _ _ _).trans h⟩
  · cases h

def toField_O : Opt := { cons := [], keepNil := false, mutF := [], live := [], outs := [] }
def toField_br (a b : Bytes) : Br := (Br.ret (AV.agg ((AV.str a) :: ((AV.str b) :: ([] : List AV)))) ([] : List Ob))
theorem toField_run (a b : Bytes) : runF Kx noS toField_O 1 Tryz.f64 ([.agg [.str a, .str b]]) ([]) = (toField_br a b).val := by kernel_rfl
def toField_s : List AV → List Ob → Br
  | [.agg [.str a, .str b]], [] => toField_br a b
  | _, _ => .fail
theorem toField_ok : Sound Kx 64 toField_s := by
  refine sound_run (C := noS) (O := toField_O) KOk (sound_no Kx) Tryz.func64 (by kernel_rfl) fun args objs res os h => ?_
  unfold toField_s at h
  split at h
  · exact ⟨1, (toField_run _ _).trans h⟩
  · cases h

def eqField_O : Opt := { cons := [], keepNil := false, mutF := [], live := [], outs := [] }
def eqField_br (a b c d : Bytes) : Br := (Br.ite (!(decide (a = c))) (Br.ret (AV.bool false) ([] : List Ob)) (Br.ite (!(decide (b = d))) (Br.ret (AV.bool false) ([] : List Ob)) (Br.ret (AV.bool true) ([] : List Ob))))
theorem eqField_run (a b c d : Bytes) : runF Kx noS eqField_O 1 Tryz.f55 ([.agg [.str a, .str b], .agg [.str c, .str d]]) ([]) = (eqField_br a b c d).val := by kernel_rfl
def eqField_s : List AV → List Ob → Br
  | [.agg [.str a, .str b], .agg [.str c, .str d]], [] => eqField_br a b c d
  | _, _ => .fail
theorem eqField_ok : Sound Kx 55 eqField_s := by
  refine sound_run (C := noS) (O := eqField_O) KOk (sound_no Kx) Tryz.func55 (by kernel_rfl) fun args objs res os h => ?_
  unfold eqField_s at h
  split at h
  · exact ⟨1, (eqField_run _ _ _ _).trans h⟩
  · cases h

end
end Go.Proofs.YtmmjaomfonknnaaGreatDoor.Ev

namespace Go.Proofs.YtmmjaomfonknnaaGreatDoor.Ev
open Go Go.RowKit
set_option linter.unusedVariables false
set_option linter.unusedSimpArgs false
noncomputable section

def isLow (n : Int) : Bool := decide (97 ≤ n) && decide (n ≤ 122)
def isUp (n : Int) : Bool := decide (65 ≤ n) && decide (n ≤ 90)
def isDig (n : Int) : Bool := decide (48 ≤ n) && decide (n ≤ 57)
def isSp (n : Int) : Bool := decide (n = 32) || decide (n = 9)
def isPl (n : Int) : Bool := decide (n = 9) || (decide (32 ≤ n) && !decide (n = 127))
def isVis (n : Int) : Bool := decide (33 ≤ n) && decide (n ≤ 126)
def lowI (n : Int) : Int := bif isUp n then n + 32 else n
def tokSet : Bytes := [33, 35, 36, 37, 38, 39, 42, 43, 45, 46, 94, 95, 124, 126]
def isTok (n : Int) : Bool := isLow n || isUp n || isDig n || decide (n = 96) || tokSet.any fun c => decide (by8 c = n)

def pr_s (p : Int → Bool) : List AV → List Ob → Br
  | [.int .u8 b], [] => .ret (.bool (p b)) []
  | _, _ => .fail
theorem of_pr {n : Nat} {s : List AV → List Ob → Br} (hs : Sound Kx n s) {p : Int → Bool} (h : ∀ b, (s [.int .u8 b] []).val = some (.bool (p b), [])) : Sound Kx n (pr_s p) := hs.of fun args objs r hv => by
  unfold pr_s at hv
  split at hv
  · rw [h]; exact hv
  · cases hv
def pn_s (p : Int → Bool) : List AV → List Ob → Br
  | [.int .i64 b], [] => .ret (.bool (p b)) []
  | _, _ => .fail
theorem of_pn {n : Nat} {s : List AV → List Ob → Br} (hs : Sound Kx n s) {p : Int → Bool} (h : ∀ b, (s [.int .i64 b] []).val = some (.bool (p b), [])) : Sound Kx n (pn_s p) := hs.of fun args objs r hv => by
  unfold pn_s at hv
  split at hv
  · rw [h]; exact hv
  · cases hv
theorem v_and (c x : Bool) : (Br.ite c (.ret (.bool x) []) (.ret (.bool false) [])).val = some (.bool (c && x), []) := by cases c <;> rfl
theorem v_or (c x : Bool) : (Br.ite c (.ret (.bool true) []) (.ret (.bool x) [])).val = some (.bool (c || x), []) := by cases c <;> rfl

theorem isLower_okQ : Sound Kx 219 (pr_s isLow) := of_pr isLower_ok fun b => v_and _ _
theorem isUpper_okQ : Sound Kx 152 (pr_s isUp) := of_pr isUpper_ok fun b => v_and _ _
theorem isDigit_okQ : Sound Kx 171 (pr_s isDig) := of_pr isDigit_ok fun b => v_and _ _
theorem isVisible_okQ : Sound Kx 162 (pr_s isVis) := of_pr isVisible_ok fun b => v_and _ _
theorem isSpace_okQ : Sound Kx 187 (pr_s isSp) := of_pr isSpace_ok fun b => v_or _ _
theorem isPlain_okQ : Sound Kx 146 (pr_s isPl) := of_pr isPlain_ok fun b => by
  show (isPlain_br b).val = _
  unfold isPlain_br isPl
  simp only [Br.val]
  cases decide (b = 9) <;> cases decide (32 ≤ b) <;> rfl
theorem swhite_okQ : Sound Kx 185 (pr_s isSp) := of_pr swhite_ok fun b => v_or _ _
theorem sdigit_okQ : Sound Kx 125 (pr_s isDig) := of_pr sdigit_ok fun b => v_and _ _
theorem splain_okQ : Sound Kx 184 (pr_s isPl) := of_pr splain_ok fun b => by
  show (splain_br b).val = _
  unfold splain_br isPl
  simp only [Br.val]
  cases decide (b = 9) <;> cases decide (32 ≤ b) <;> rfl
def low_s : List AV → List Ob → Br
  | [.int .u8 b], [] => .ite (decide (0 ≤ b) && decide (b < 256)) (.ret (.int .u8 (lowI b)) []) .fail
  | _, _ => .fail
theorem slower_okQ : Sound Kx 151 low_s := slower_ok.of fun args objs r h => by
  unfold low_s at h
  split at h
  · rename_i b
    obtain ⟨h1, h2⟩ := ite_some h
    simp only [Bool.and_eq_true, decide_eq_true_eq] at h1
    rw [← h2]
    show (slower_br b).val = _
    unfold slower_br lowI isUp
    by_cases g1 : 65 ≤ b <;> by_cases g2 : b ≤ 90 <;> simp only [Br.val, g1, g2, decide_true, decide_false, Bool.and_true, Bool.and_false, Bool.false_and, cond_true, cond_false]
    rw [w8 (by omega) (by omega)]
  · cases h
def isSta (n : Int) : Bool := decide (200 ≤ n) && decide (n ≤ 599)
def isBar (n : Int) : Bool := decide (n = 204) || decide (n = 304)
theorem isStatus_okQ : Sound Kx 119 (pn_s isSta) := of_pn isStatus_ok fun b => v_and _ _
theorem isBareStatus_okQ : Sound Kx 121 (pn_s isBar) := of_pn isBareStatus_ok fun b => v_or _ _
theorem sbare_okQ : Sound Kx 158 (pn_s isBar) := of_pn sbare_ok fun b => v_or _ _

def allP (p : Int → Bool) (s : Bytes) : Bool := s.all fun c => p (by8 c)
def foldP (s : Bytes) : Bytes := ofBytes ((bytesOf s).map lowI)
def sp8 (c : UInt8) : Bool := isSp (by8 c)
def trimL (s : Bytes) : Bytes := s.dropWhile sp8
def trimR (s : Bytes) : Bytes := (s.reverse.dropWhile sp8).reverse
def trimP (s : Bytes) : Bytes := trimR (trimL s)
def tokP (s : Bytes) : Bool := decide (1 ≤ s.length) && decide (s.length ≤ 4000) && allP isTok s
def isM (s : Bytes) : Bool := decide (s.length ≤ 4611686018427387904)

end
end Go.Proofs.YtmmjaomfonknnaaGreatDoor.Ev

namespace Go.Proofs.YtmmjaomfonknnaaGreatDoor.Ev
open Go Go.RowKit
set_option linter.unusedVariables false
set_option linter.unusedSimpArgs false
noncomputable section

def ixL_O : Opt := { cons := [], keepNil := false, mutF := [], live := [], outs := [] }
def ixL_C : Spec := (add noS 217 ixBS_s)
theorem ixL_C_ok : ∀ fn, Sound Kx fn (ixL_C fn) := (sound_add (sound_no Kx) ixBS_ok)
def ixL_br (s : Bytes) (c : Int) : Br := (Br.ret (AV.int .i64 (ixOf s c)) ([] : List Ob))
theorem ixL_run (s : Bytes) (c : Int) : runF Kx ixL_C ixL_O 1 Tryz.f174 ([.str s, .int .u8 c]) ([]) = (ixL_br s c).val := by kernel_rfl
def ixL_s : List AV → List Ob → Br
  | [.str s, .int .u8 c], [] => ixL_br s c
  | _, _ => .fail
theorem ixL_ok : Sound Kx 174 ixL_s := by
  refine sound_run (C := ixL_C) (O := ixL_O) KOk ixL_C_ok Tryz.func174 (by kernel_rfl) fun args objs res os h => ?_
  unfold ixL_s at h
  split at h
  · exact ⟨1, (ixL_run _ _).trans h⟩
  · cases h

def ixB_O : Opt := { cons := [], keepNil := false, mutF := [], live := [], outs := [] }
def ixB_C : Spec := (add noS 174 ixL_s)
theorem ixB_C_ok : ∀ fn, Sound Kx fn (ixB_C fn) := (sound_add (sound_no Kx) ixL_ok)
def ixB_br (s : Bytes) (c : Int) : Br := (Br.ret (AV.int .i64 (ixOf s c)) ([] : List Ob))
theorem ixB_run (s : Bytes) (c : Int) : runF Kx ixB_C ixB_O 1 Tryz.f137 ([.str s, .int .u8 c]) ([]) = (ixB_br s c).val := by kernel_rfl
def ixB_s : List AV → List Ob → Br
  | [.str s, .int .u8 c], [] => ixB_br s c
  | _, _ => .fail
theorem ixB_ok : Sound Kx 137 ixB_s := by
  refine sound_run (C := ixB_C) (O := ixB_O) KOk ixB_C_ok Tryz.func137 (by kernel_rfl) fun args objs res os h => ?_
  unfold ixB_s at h
  split at h
  · exact ⟨1, (ixB_run _ _).trans h⟩
  · cases h

def isTokB_O : Opt := { cons := [], keepNil := false, mutF := [], live := [], outs := [] }
def isTokB_C : Spec := (add (add (add (add noS 219 (pr_s isLow)) 152 (pr_s isUp)) 171 (pr_s isDig)) 137 ixB_s)
theorem isTokB_C_ok : ∀ fn, Sound Kx fn (isTokB_C fn) := (sound_add (sound_add (sound_add (sound_add (sound_no Kx) isLower_okQ) isUpper_okQ) isDigit_okQ) ixB_ok)
def isTokB_br (b : Int) : Br := (Br.ite (isLow b) (Br.ret (AV.bool true) ([] : List Ob)) (Br.ite (isUp b) (Br.ret (AV.bool true) ([] : List Ob)) (Br.ite (isDig b) (Br.ret (AV.bool true) ([] : List Ob)) (Br.ite (decide (b = (96 : Int))) (Br.ret (AV.bool true) ([] : List Ob)) (Br.ret (AV.bool (decide ((0 : Int) ≤ (ixOf ((33 : UInt8) :: ((35 : UInt8) :: ((36 : UInt8) :: ((37 : UInt8) :: ((38 : UInt8) :: ((39 : UInt8) :: ((42 : UInt8) :: ((43 : UInt8) :: ((45 : UInt8) :: ((46 : UInt8) :: ((94 : UInt8) :: ((95 : UInt8) :: ((124 : UInt8) :: ((126 : UInt8) :: ([] : Bytes))))))))))))))) b)))) ([] : List Ob))))))
theorem isTokB_run (b : Int) : runF Kx isTokB_C isTokB_O 1 Tryz.f186 ([.int .u8 b]) ([]) = (isTokB_br b).val := by kernel_rfl
def isTokB_s : List AV → List Ob → Br
  | [.int .u8 b], [] => isTokB_br b
  | _, _ => .fail
theorem isTokB_ok : Sound Kx 186 isTokB_s := by
  refine sound_run (C := isTokB_C) (O := isTokB_O) KOk isTokB_C_ok Tryz.func186 (by kernel_rfl) fun args objs res os h => ?_
  unfold isTokB_s at h
  split at h
  · exact ⟨1, (isTokB_run _).trans h⟩
  · cases h

def shas_O : Opt := { cons := [], keepNil := false, mutF := [], live := [(2, [0, 1, 5])], outs := [(2, [4])] }
def shas_T2 (v2x0 : Bytes) (v2x1 : Int) (v2x2 : Int) (kR2 : Bytes → Int → Int → Option Rs) (k2e0 : Option Rs) (k2e1 : Option Rs) : Option Rs :=
  (bif (decide (v2x2 < ((List.length v2x0) : Int))) then (bif (decide ((0 : Int) ≤ v2x2)) then (bif (decide (v2x2 < ((List.length v2x0) : Int))) then (bif (decide ((strAt v2x0 v2x2) = v2x1)) then k2e0 else (kR2 v2x0 v2x1 (wk64 (v2x2 + (1 : Int))))) else (none)) else (none)) else k2e1)
def shas_F2 : Nat → Bytes → Int → Int → (Option Rs) → (Option Rs) → Option Rs
  | 0, _, _, _, _, _ => none
  | n + 1, v2x0, v2x1, v2x2, k2e0, k2e1 => shas_T2 v2x0 v2x1 v2x2 (fun v2x0 v2x1 v2x2 => shas_F2 n v2x0 v2x1 v2x2 k2e0 k2e1) k2e0 k2e1
def shas_h2 (v2x0 : Bytes) (v2x1 : Int) (v2x2 : Int) : St := (St.mk (slots 0 17 [(0, (AV.str v2x0)), (1, (AV.int .u8 v2x1)), (5, (AV.int .i64 v2x2))]) ([] : (List (Nat × (Ob)))))
def shas_x2e0  : St := (St.mk (slots 0 17 [(4, (AV.bool true))]) ([] : (List (Nat × (Ob)))))
def shas_x2e1  : St := (St.mk (slots 0 17 []) ([] : (List (Nat × (Ob)))))
noncomputable def shas_b2 : Code := codeAt (codeOf Tryz.f218) [1, 0, 1, 0, 0]
def shas_L2 (N : Nat) (st : St) (k : Ex → St → Option Rs) : Option Rs := match takeF [0, 1, 5] 0 17 st.env, st.objs with
  | some [.str v2x0, .int .u8 v2x1, .int .i64 v2x2], [] => shas_F2 N v2x0 v2x1 v2x2 (k Ex.ret (shas_x2e0)) (k (Ex.exit (0 : Nat)) (shas_x2e1))
  | _, _ => none
def shas_L (N : Nat) : Lam := fun j st k => match j with
  | 2 => shas_L2 N st k
  | _ => none
theorem shas_round2 (N : Nat) (again : St → Option Rs) (k : Ex → St → Option Rs) (wv2x0 : Bytes) (wv2x1 : Int) (wv2x2 : Int) (v2x0 : Bytes) (v2x1 : Int) (v2x2 : Int) :
    roundK 0 (fun st k => evL Kx noS shas_O 0 (shas_L N) shas_b2 st k) (shas_h2 wv2x0 wv2x1 wv2x2).env again (shas_h2 v2x0 v2x1 v2x2) (outK shas_O 0 shas_b2 k) = shas_T2 v2x0 v2x1 v2x2 (fun v2x0 v2x1 v2x2 => again (shas_h2 v2x0 v2x1 v2x2)) (k Ex.ret (shas_x2e0)) (k (Ex.exit (0 : Nat)) (shas_x2e1)) := by kernel_rfl
theorem shas_loop2 (N : Nat) (k : Ex → St → Option Rs) (wv2x0 : Bytes) (wv2x1 : Int) (wv2x2 : Int) : ∀ (n : Nat) (v2x0 : Bytes) (v2x1 : Int) (v2x2 : Int),
    loopK 0 (fun st k => evL Kx noS shas_O 0 (shas_L N) shas_b2 st k) (shas_h2 wv2x0 wv2x1 wv2x2).env n (shas_h2 v2x0 v2x1 v2x2) (outK shas_O 0 shas_b2 k) = shas_F2 n v2x0 v2x1 v2x2 (k Ex.ret (shas_x2e0)) (k (Ex.exit (0 : Nat)) (shas_x2e1))
  | 0, _, _, _ => rfl
  | n + 1, v2x0, v2x1, v2x2 => by
    rw [loopK_succ, shas_round2]
    simp only [shas_loop2 N k wv2x0 wv2x1 wv2x2 n]
    rfl
theorem shas_at2 (N : Nat) {s : St} {k : Ex → St → Option Rs} {r : Rs} (h : shas_L2 N s k = some r) : ∃ (v2x0 : Bytes) (v2x1 : Int) (v2x2 : Int), s = (shas_h2 v2x0 v2x1 v2x2) ∧ shas_F2 N v2x0 v2x1 v2x2 (k Ex.ret (shas_x2e0)) (k (Ex.exit (0 : Nat)) (shas_x2e1)) = some r := by
  cases s with | mk env objs =>
  unfold shas_L2 at h
  split at h
  · rename_i e1 e2
    have e3 := takeF_slots _ _ _ _ e1
    simp only at e2 e3
    subst e2 e3
    exact ⟨_, _, _, rfl, h⟩
  · cases h
theorem shas_in2 : loops shas_b2 = [] := by kernel_rfl
theorem shas_lid2 : lid shas_b2 = 2 := by kernel_rfl
theorem shas_ok2 (N : Nat) : OkL Kx noS shas_O 0 N (shas_L N) shas_b2 := by
  intro s k k' r hk h
  rw [shas_lid2] at h
  obtain ⟨v2x0, v2x1, v2x2, rfl, h⟩ := shas_at2 N h
  refine loopL (Λ := shas_L N) shas_b2 ?_ N hk ((shas_loop2 N k v2x0 v2x1 v2x2 N v2x0 v2x1 v2x2).trans h)
  rw [shas_in2]
  exact fun _ h => nomatch h
def shas_run (N : Nat) (s : Bytes) (b : Int) : Option Rs := (shas_F2 N s b (0 : Int) (some ((AV.bool true), ([] : List Ob))) (some ((AV.bool false), ([] : List Ob))))
theorem shas_runL (N : Nat) (s : Bytes) (b : Int) : runL Kx noS shas_O (shas_L N) Tryz.f218 ([.str s, .int .u8 b]) ([]) = shas_run N s b := by kernel_rfl
theorem shas_body : Tryz.f218.body = some (codeOf Tryz.f218) := by kernel_rfl
theorem shas_loops : loops (codeOf Tryz.f218) = [shas_b2] := by kernel_rfl
theorem shas_ev (N : Nat) (s : Bytes) (b : Int) {res_ : Rs} (hyp_ : shas_run N s b = some res_) : ∃ n_, runF Kx noS shas_O n_ Tryz.f218 ([.str s, .int .u8 b]) ([]) = some res_ :=
  ⟨N, runL_runF shas_body (by rw [shas_loops]; exact List.forall_mem_cons.2 ⟨shas_ok2 N, fun _ h => nomatch h⟩) ((shas_runL N s b).trans hyp_)⟩
def shas_sOf (φ : Bytes → Int → Br) : List AV → List Ob → Br
  | [.str s, .int .u8 b], [] => φ s b
  | _, _ => .fail
theorem shas_okOf {φ : Bytes → Int → Br} (fu : Bytes → Int → Nat) (hv : ∀ s b res_, (φ s b).val = some res_ → shas_run (fu s b) s b = some res_) : Sound Kx 218 (shas_sOf φ) := by
  refine sound_run (C := noS) (O := shas_O) KOk (sound_no Kx) Tryz.func218 (by kernel_rfl) fun args objs res os h => ?_
  unfold shas_sOf at h
  split at h
  · exact shas_ev _ _ _ (hv _ _ _ h)
  · cases h

def ifold_O : Opt := { cons := [], keepNil := false, mutF := [], live := [(3, [3, 8, 9, 10])], outs := [(3, [2, 3])] }
def ifold_C : Spec := (add noS 152 (pr_s isUp))
theorem ifold_C_ok : ∀ fn, Sound Kx fn (ifold_C fn) := (sound_add (sound_no Kx) isUpper_okQ)
def ifold_T3 (v3x0 : Int) (v3x1 : Int) (v3x2 : (List Int)) (kR3 : Int → Int → (List Int) → Option Rs) (k3e0 : (List Int) → Option Rs) : Option Rs :=
  (bif (decide (v3x1 < v3x0)) then (bif (decide ((0 : Int) ≤ v3x1)) then (bif (decide (v3x1 < ((List.length v3x2) : Int))) then (bif (isUp (List.getD v3x2 (Int.toNat v3x1) (0 : Int))) then (bif (decide ((0 : Int) ≤ v3x1)) then (bif (decide (v3x1 < ((List.length v3x2) : Int))) then (kR3 v3x0 (wk64 (v3x1 + (1 : Int))) (List.set v3x2 (Int.toNat v3x1) (wk8 ((List.getD v3x2 (Int.toNat v3x1) (0 : Int)) + (32 : Int))))) else (none)) else (none)) else (kR3 v3x0 (wk64 (v3x1 + (1 : Int))) v3x2)) else (none)) else (none)) else (k3e0 v3x2))
def ifold_F3 : Nat → Int → Int → (List Int) → ((List Int) → Option Rs) → Option Rs
  | 0, _, _, _, _ => none
  | n + 1, v3x0, v3x1, v3x2, k3e0 => ifold_T3 v3x0 v3x1 v3x2 (fun v3x0 v3x1 v3x2 => ifold_F3 n v3x0 v3x1 v3x2 k3e0) k3e0
def ifold_h3 (v3x0 : Int) (v3x1 : Int) (v3x2 : (List Int)) : St := (St.mk (slots 0 25 [(3, (AV.ref (256 : Nat) (0 : Nat))), (8, (AV.ref (256 : Nat) (0 : Nat))), (9, (AV.int .i64 v3x0)), (10, (AV.int .i64 v3x1))]) (((256 : Nat), (Ob.arr (Ty.int .u8) (0 : Nat) false v3x2)) :: ([] : (List (Nat × (Ob))))))
def ifold_x3e0 (x3x0x0 : (List Int)) : St := (St.mk (slots 0 25 [(3, (AV.ref (256 : Nat) (0 : Nat)))]) (((256 : Nat), (Ob.arr (Ty.int .u8) (0 : Nat) false x3x0x0)) :: ([] : (List (Nat × (Ob))))))
noncomputable def ifold_b3 : Code := codeAt (codeOf Tryz.f107) [1, 1, 0, 1, 0, 0]
def ifold_L3 (N : Nat) (st : St) (k : Ex → St → Option Rs) : Option Rs := match takeF [3, 8, 9, 10] 0 25 st.env, st.objs with
  | some [.ref 256 0, .ref 256 0, .int .i64 v3x0, .int .i64 v3x1], [(256, .arr (Ty.int .u8) 0 false v3x2)] => ifold_F3 N v3x0 v3x1 v3x2 (fun x3x0x0 => k (Ex.exit (0 : Nat)) (ifold_x3e0 x3x0x0))
  | _, _ => none
def ifold_L (N : Nat) : Lam := fun j st k => match j with
  | 3 => ifold_L3 N st k
  | _ => none
theorem ifold_round3 (N : Nat) (again : St → Option Rs) (k : Ex → St → Option Rs) (wv3x0 : Int) (wv3x1 : Int) (wv3x2 : (List Int)) (v3x0 : Int) (v3x1 : Int) (v3x2 : (List Int)) :
    roundK 0 (fun st k => evL Kx ifold_C ifold_O 0 (ifold_L N) ifold_b3 st k) (ifold_h3 wv3x0 wv3x1 wv3x2).env again (ifold_h3 v3x0 v3x1 v3x2) (outK ifold_O 0 ifold_b3 k) = ifold_T3 v3x0 v3x1 v3x2 (fun v3x0 v3x1 v3x2 => again (ifold_h3 v3x0 v3x1 v3x2)) (fun x3x0x0 => k (Ex.exit (0 : Nat)) (ifold_x3e0 x3x0x0)) := by kernel_rfl
theorem ifold_loop3 (N : Nat) (k : Ex → St → Option Rs) (wv3x0 : Int) (wv3x1 : Int) (wv3x2 : (List Int)) : ∀ (n : Nat) (v3x0 : Int) (v3x1 : Int) (v3x2 : (List Int)),
    loopK 0 (fun st k => evL Kx ifold_C ifold_O 0 (ifold_L N) ifold_b3 st k) (ifold_h3 wv3x0 wv3x1 wv3x2).env n (ifold_h3 v3x0 v3x1 v3x2) (outK ifold_O 0 ifold_b3 k) = ifold_F3 n v3x0 v3x1 v3x2 (fun x3x0x0 => k (Ex.exit (0 : Nat)) (ifold_x3e0 x3x0x0))
  | 0, _, _, _ => rfl
  | n + 1, v3x0, v3x1, v3x2 => by
    rw [loopK_succ, ifold_round3]
    simp only [ifold_loop3 N k wv3x0 wv3x1 wv3x2 n]
    rfl
theorem ifold_at3 (N : Nat) {s : St} {k : Ex → St → Option Rs} {r : Rs} (h : ifold_L3 N s k = some r) : ∃ (v3x0 : Int) (v3x1 : Int) (v3x2 : (List Int)), s = (ifold_h3 v3x0 v3x1 v3x2) ∧ ifold_F3 N v3x0 v3x1 v3x2 (fun x3x0x0 => k (Ex.exit (0 : Nat)) (ifold_x3e0 x3x0x0)) = some r := by
  cases s with | mk env objs =>
  unfold ifold_L3 at h
  split at h
  · rename_i e1 e2
    have e3 := takeF_slots _ _ _ _ e1
    simp only at e2 e3
    subst e2 e3
    exact ⟨_, _, _, rfl, h⟩
  · cases h
theorem ifold_in3 : loops ifold_b3 = [] := by kernel_rfl
theorem ifold_lid3 : lid ifold_b3 = 3 := by kernel_rfl
theorem ifold_ok3 (N : Nat) : OkL Kx ifold_C ifold_O 0 N (ifold_L N) ifold_b3 := by
  intro s k k' r hk h
  rw [ifold_lid3] at h
  obtain ⟨v3x0, v3x1, v3x2, rfl, h⟩ := ifold_at3 N h
  refine loopL (Λ := ifold_L N) ifold_b3 ?_ N hk ((ifold_loop3 N k v3x0 v3x1 v3x2 N v3x0 v3x1 v3x2).trans h)
  rw [ifold_in3]
  exact fun _ h => nomatch h
def ifold_run (N : Nat) (s : Bytes) : Option Rs := (ifold_F3 N ((List.length (bytesOf s)) : Int) (0 : Int) (bytesOf s) (fun x3x0x0 => (some ((AV.str (ofBytes x3x0x0)), ([] : List Ob)))))
theorem ifold_runL (N : Nat) (s : Bytes) : runL Kx ifold_C ifold_O (ifold_L N) Tryz.f107 ([.str s]) ([]) = ifold_run N s := by kernel_rfl
theorem ifold_body : Tryz.f107.body = some (codeOf Tryz.f107) := by kernel_rfl
theorem ifold_loops : loops (codeOf Tryz.f107) = [ifold_b3] := by kernel_rfl
theorem ifold_ev (N : Nat) (s : Bytes) {res_ : Rs} (hyp_ : ifold_run N s = some res_) : ∃ n_, runF Kx ifold_C ifold_O n_ Tryz.f107 ([.str s]) ([]) = some res_ :=
  ⟨N, runL_runF ifold_body (by rw [ifold_loops]; exact List.forall_mem_cons.2 ⟨ifold_ok3 N, fun _ h => nomatch h⟩) ((ifold_runL N s).trans hyp_)⟩
def ifold_sOf (φ : Bytes → Br) : List AV → List Ob → Br
  | [.str s], [] => φ s
  | _, _ => .fail
theorem ifold_okOf {φ : Bytes → Br} (fu : Bytes → Nat) (hv : ∀ s res_, (φ s).val = some res_ → ifold_run (fu s) s = some res_) : Sound Kx 107 (ifold_sOf φ) := by
  refine sound_run (C := ifold_C) (O := ifold_O) KOk ifold_C_ok Tryz.func107 (by kernel_rfl) fun args objs res os h => ?_
  unfold ifold_sOf at h
  split at h
  · exact ifold_ev _ _ (hv _ _ h)
  · cases h

def sfold_O : Opt := { cons := [], keepNil := false, mutF := [], live := [(3, [3, 4])], outs := [(3, [2, 3])] }
def sfold_C : Spec := (add noS 151 low_s)
theorem sfold_C_ok : ∀ fn, Sound Kx fn (sfold_C fn) := (sound_add (sound_no Kx) slower_okQ)
def sfold_T3 (v3x0 : Int) (v3x1 : (List Int)) (kR3 : Int → (List Int) → Option Rs) (k3e0 : (List Int) → Option Rs) : Option Rs :=
  (bif (decide (v3x0 < ((List.length v3x1) : Int))) then (bif (decide ((0 : Int) ≤ v3x0)) then (bif (decide (v3x0 < ((List.length v3x1) : Int))) then (bif ((decide ((0 : Int) ≤ (List.getD v3x1 (Int.toNat v3x0) (0 : Int)))) && (decide ((List.getD v3x1 (Int.toNat v3x0) (0 : Int)) < (256 : Int)))) then (bif (decide ((0 : Int) ≤ v3x0)) then (bif (decide (v3x0 < ((List.length v3x1) : Int))) then (kR3 (wk64 (v3x0 + (1 : Int))) (List.set v3x1 (Int.toNat v3x0) (lowI (List.getD v3x1 (Int.toNat v3x0) (0 : Int))))) else (none)) else (none)) else (none)) else (none)) else (none)) else (k3e0 v3x1))
def sfold_F3 : Nat → Int → (List Int) → ((List Int) → Option Rs) → Option Rs
  | 0, _, _, _ => none
  | n + 1, v3x0, v3x1, k3e0 => sfold_T3 v3x0 v3x1 (fun v3x0 v3x1 => sfold_F3 n v3x0 v3x1 k3e0) k3e0
def sfold_h3 (v3x0 : Int) (v3x1 : (List Int)) : St := (St.mk (slots 0 23 [(3, (AV.ref (256 : Nat) (0 : Nat))), (4, (AV.int .i64 v3x0))]) (((256 : Nat), (Ob.arr (Ty.int .u8) (0 : Nat) false v3x1)) :: ([] : (List (Nat × (Ob))))))
def sfold_x3e0 (x3x0x0 : (List Int)) : St := (St.mk (slots 0 23 [(3, (AV.ref (256 : Nat) (0 : Nat)))]) (((256 : Nat), (Ob.arr (Ty.int .u8) (0 : Nat) false x3x0x0)) :: ([] : (List (Nat × (Ob))))))
noncomputable def sfold_b3 : Code := codeAt (codeOf Tryz.f106) [1, 1, 0, 1, 0, 0]
def sfold_L3 (N : Nat) (st : St) (k : Ex → St → Option Rs) : Option Rs := match takeF [3, 4] 0 23 st.env, st.objs with
  | some [.ref 256 0, .int .i64 v3x0], [(256, .arr (Ty.int .u8) 0 false v3x1)] => sfold_F3 N v3x0 v3x1 (fun x3x0x0 => k (Ex.exit (0 : Nat)) (sfold_x3e0 x3x0x0))
  | _, _ => none
def sfold_L (N : Nat) : Lam := fun j st k => match j with
  | 3 => sfold_L3 N st k
  | _ => none
theorem sfold_round3 (N : Nat) (again : St → Option Rs) (k : Ex → St → Option Rs) (wv3x0 : Int) (wv3x1 : (List Int)) (v3x0 : Int) (v3x1 : (List Int)) :
    roundK 0 (fun st k => evL Kx sfold_C sfold_O 0 (sfold_L N) sfold_b3 st k) (sfold_h3 wv3x0 wv3x1).env again (sfold_h3 v3x0 v3x1) (outK sfold_O 0 sfold_b3 k) = sfold_T3 v3x0 v3x1 (fun v3x0 v3x1 => again (sfold_h3 v3x0 v3x1)) (fun x3x0x0 => k (Ex.exit (0 : Nat)) (sfold_x3e0 x3x0x0)) := by kernel_rfl
theorem sfold_loop3 (N : Nat) (k : Ex → St → Option Rs) (wv3x0 : Int) (wv3x1 : (List Int)) : ∀ (n : Nat) (v3x0 : Int) (v3x1 : (List Int)),
    loopK 0 (fun st k => evL Kx sfold_C sfold_O 0 (sfold_L N) sfold_b3 st k) (sfold_h3 wv3x0 wv3x1).env n (sfold_h3 v3x0 v3x1) (outK sfold_O 0 sfold_b3 k) = sfold_F3 n v3x0 v3x1 (fun x3x0x0 => k (Ex.exit (0 : Nat)) (sfold_x3e0 x3x0x0))
  | 0, _, _ => rfl
  | n + 1, v3x0, v3x1 => by
    rw [loopK_succ, sfold_round3]
    simp only [sfold_loop3 N k wv3x0 wv3x1 n]
    rfl
theorem sfold_at3 (N : Nat) {s : St} {k : Ex → St → Option Rs} {r : Rs} (h : sfold_L3 N s k = some r) : ∃ (v3x0 : Int) (v3x1 : (List Int)), s = (sfold_h3 v3x0 v3x1) ∧ sfold_F3 N v3x0 v3x1 (fun x3x0x0 => k (Ex.exit (0 : Nat)) (sfold_x3e0 x3x0x0)) = some r := by
  cases s with | mk env objs =>
  unfold sfold_L3 at h
  split at h
  · rename_i e1 e2
    have e3 := takeF_slots _ _ _ _ e1
    simp only at e2 e3
    subst e2 e3
    exact ⟨_, _, rfl, h⟩
  · cases h
theorem sfold_in3 : loops sfold_b3 = [] := by kernel_rfl
theorem sfold_lid3 : lid sfold_b3 = 3 := by kernel_rfl
theorem sfold_ok3 (N : Nat) : OkL Kx sfold_C sfold_O 0 N (sfold_L N) sfold_b3 := by
  intro s k k' r hk h
  rw [sfold_lid3] at h
  obtain ⟨v3x0, v3x1, rfl, h⟩ := sfold_at3 N h
  refine loopL (Λ := sfold_L N) sfold_b3 ?_ N hk ((sfold_loop3 N k v3x0 v3x1 N v3x0 v3x1).trans h)
  rw [sfold_in3]
  exact fun _ h => nomatch h
def sfold_run (N : Nat) (s : Bytes) : Option Rs := (sfold_F3 N (0 : Int) (bytesOf s) (fun x3x0x0 => (some ((AV.str (ofBytes x3x0x0)), ([] : List Ob)))))
theorem sfold_runL (N : Nat) (s : Bytes) : runL Kx sfold_C sfold_O (sfold_L N) Tryz.f106 ([.str s]) ([]) = sfold_run N s := by kernel_rfl
theorem sfold_body : Tryz.f106.body = some (codeOf Tryz.f106) := by kernel_rfl
theorem sfold_loops : loops (codeOf Tryz.f106) = [sfold_b3] := by kernel_rfl
theorem sfold_ev (N : Nat) (s : Bytes) {res_ : Rs} (hyp_ : sfold_run N s = some res_) : ∃ n_, runF Kx sfold_C sfold_O n_ Tryz.f106 ([.str s]) ([]) = some res_ :=
  ⟨N, runL_runF sfold_body (by rw [sfold_loops]; exact List.forall_mem_cons.2 ⟨sfold_ok3 N, fun _ h => nomatch h⟩) ((sfold_runL N s).trans hyp_)⟩
def sfold_sOf (φ : Bytes → Br) : List AV → List Ob → Br
  | [.str s], [] => φ s
  | _, _ => .fail
theorem sfold_okOf {φ : Bytes → Br} (fu : Bytes → Nat) (hv : ∀ s res_, (φ s).val = some res_ → sfold_run (fu s) s = some res_) : Sound Kx 106 (sfold_sOf φ) := by
  refine sound_run (C := sfold_C) (O := sfold_O) KOk sfold_C_ok Tryz.func106 (by kernel_rfl) fun args objs res os h => ?_
  unfold sfold_sOf at h
  split at h
  · exact sfold_ev _ _ (hv _ _ h)
  · cases h

def itrim_O : Opt := { cons := [], keepNil := false, mutF := [], live := [(3, [0]), (1, [0])], outs := [(3, [0, 2]), (1, [0, 2])] }
def itrim_C : Spec := (add noS 187 (pr_s isSp))
theorem itrim_C_ok : ∀ fn, Sound Kx fn (itrim_C fn) := (sound_add (sound_no Kx) isSpace_okQ)
def itrim_T1 (v1x0 : Bytes) (kR1 : Bytes → Option Rs) (k1e0 : Bytes → Option Rs) : Option Rs :=
  (bif (!(decide (v1x0 = ([] : Bytes)))) then (bif (decide ((0 : Int) < ((List.length v1x0) : Int))) then (bif (isSp (strAt v1x0 (0 : Int))) then (bif (decide ((1 : Int) ≤ ((List.length v1x0) : Int))) then (kR1 (cut v1x0 (1 : Int) ((List.length v1x0) : Int))) else (none)) else (k1e0 v1x0)) else (none)) else (k1e0 v1x0))
def itrim_F1 : Nat → Bytes → (Bytes → Option Rs) → Option Rs
  | 0, _, _ => none
  | n + 1, v1x0, k1e0 => itrim_T1 v1x0 (fun v1x0 => itrim_F1 n v1x0 k1e0) k1e0
def itrim_h1 (v1x0 : Bytes) : St := (St.mk (slots 0 28 [(0, (AV.str v1x0))]) ([] : (List (Nat × (Ob)))))
def itrim_x1e0 (x1x0x0 : Bytes) : St := (St.mk (slots 0 28 [(0, (AV.str x1x0x0))]) ([] : (List (Nat × (Ob)))))
noncomputable def itrim_b1 : Code := codeAt (codeOf Tryz.f147) [1, 0, 0, 0]
def itrim_L1 (N : Nat) (st : St) (k : Ex → St → Option Rs) : Option Rs := match takeF [0] 0 28 st.env, st.objs with
  | some [.str v1x0], [] => itrim_F1 N v1x0 (fun x1x0x0 => k (Ex.exit (0 : Nat)) (itrim_x1e0 x1x0x0))
  | _, _ => none
def itrim_T3 (v3x0 : Bytes) (kR3 : Bytes → Option Rs) (k3e0 : Bytes → Option Rs) : Option Rs :=
  (bif (!(decide (v3x0 = ([] : Bytes)))) then (bif (decide ((0 : Int) ≤ (wk64 (((List.length v3x0) : Int) - (1 : Int))))) then (bif (decide ((wk64 (((List.length v3x0) : Int) - (1 : Int))) < ((List.length v3x0) : Int))) then (bif (isSp (strAt v3x0 (wk64 (((List.length v3x0) : Int) - (1 : Int))))) then (bif (decide ((0 : Int) ≤ (wk64 (((List.length v3x0) : Int) - (1 : Int))))) then (bif (decide ((wk64 (((List.length v3x0) : Int) - (1 : Int))) ≤ ((List.length v3x0) : Int))) then (kR3 (cut v3x0 (0 : Int) (wk64 (((List.length v3x0) : Int) - (1 : Int))))) else (none)) else (none)) else (k3e0 v3x0)) else (none)) else (none)) else (k3e0 v3x0))
def itrim_F3 : Nat → Bytes → (Bytes → Option Rs) → Option Rs
  | 0, _, _ => none
  | n + 1, v3x0, k3e0 => itrim_T3 v3x0 (fun v3x0 => itrim_F3 n v3x0 k3e0) k3e0
def itrim_h3 (v3x0 : Bytes) : St := (St.mk (slots 0 28 [(0, (AV.str v3x0))]) ([] : (List (Nat × (Ob)))))
def itrim_x3e0 (x3x0x0 : Bytes) : St := (St.mk (slots 0 28 [(0, (AV.str x3x0x0))]) ([] : (List (Nat × (Ob)))))
noncomputable def itrim_b3 : Code := codeAt (codeOf Tryz.f147) [1, 1, 0, 0, 0]
def itrim_L3 (N : Nat) (st : St) (k : Ex → St → Option Rs) : Option Rs := match takeF [0] 0 28 st.env, st.objs with
  | some [.str v3x0], [] => itrim_F3 N v3x0 (fun x3x0x0 => k (Ex.exit (2 : Nat)) (itrim_x3e0 x3x0x0))
  | _, _ => none
def itrim_L (N : Nat) : Lam := fun j st k => match j with
  | 1 => itrim_L1 N st k
  | 3 => itrim_L3 N st k
  | _ => none
theorem itrim_round1 (N : Nat) (again : St → Option Rs) (k : Ex → St → Option Rs) (wv1x0 : Bytes) (v1x0 : Bytes) :
    roundK 0 (fun st k => evL Kx itrim_C itrim_O 0 (itrim_L N) itrim_b1 st k) (itrim_h1 wv1x0).env again (itrim_h1 v1x0) (outK itrim_O 0 itrim_b1 k) = itrim_T1 v1x0 (fun v1x0 => again (itrim_h1 v1x0)) (fun x1x0x0 => k (Ex.exit (0 : Nat)) (itrim_x1e0 x1x0x0)) := by kernel_rfl
theorem itrim_loop1 (N : Nat) (k : Ex → St → Option Rs) (wv1x0 : Bytes) : ∀ (n : Nat) (v1x0 : Bytes),
    loopK 0 (fun st k => evL Kx itrim_C itrim_O 0 (itrim_L N) itrim_b1 st k) (itrim_h1 wv1x0).env n (itrim_h1 v1x0) (outK itrim_O 0 itrim_b1 k) = itrim_F1 n v1x0 (fun x1x0x0 => k (Ex.exit (0 : Nat)) (itrim_x1e0 x1x0x0))
  | 0, _ => rfl
  | n + 1, v1x0 => by
    rw [loopK_succ, itrim_round1]
    simp only [itrim_loop1 N k wv1x0 n]
    rfl
theorem itrim_at1 (N : Nat) {s : St} {k : Ex → St → Option Rs} {r : Rs} (h : itrim_L1 N s k = some r) : ∃ (v1x0 : Bytes), s = (itrim_h1 v1x0) ∧ itrim_F1 N v1x0 (fun x1x0x0 => k (Ex.exit (0 : Nat)) (itrim_x1e0 x1x0x0)) = some r := by
  cases s with | mk env objs =>
  unfold itrim_L1 at h
  split at h
  · rename_i e1 e2
    have e3 := takeF_slots _ _ _ _ e1
    simp only at e2 e3
    subst e2 e3
    exact ⟨_, rfl, h⟩
  · cases h
theorem itrim_in1 : loops itrim_b1 = [] := by kernel_rfl
theorem itrim_lid1 : lid itrim_b1 = 1 := by kernel_rfl
theorem itrim_ok1 (N : Nat) : OkL Kx itrim_C itrim_O 0 N (itrim_L N) itrim_b1 := by
  intro s k k' r hk h
  rw [itrim_lid1] at h
  obtain ⟨v1x0, rfl, h⟩ := itrim_at1 N h
  refine loopL (Λ := itrim_L N) itrim_b1 ?_ N hk ((itrim_loop1 N k v1x0 N v1x0).trans h)
  rw [itrim_in1]
  exact fun _ h => nomatch h
theorem itrim_round3 (N : Nat) (again : St → Option Rs) (k : Ex → St → Option Rs) (wv3x0 : Bytes) (v3x0 : Bytes) :
    roundK 0 (fun st k => evL Kx itrim_C itrim_O 0 (itrim_L N) itrim_b3 st k) (itrim_h3 wv3x0).env again (itrim_h3 v3x0) (outK itrim_O 0 itrim_b3 k) = itrim_T3 v3x0 (fun v3x0 => again (itrim_h3 v3x0)) (fun x3x0x0 => k (Ex.exit (2 : Nat)) (itrim_x3e0 x3x0x0)) := by kernel_rfl
theorem itrim_loop3 (N : Nat) (k : Ex → St → Option Rs) (wv3x0 : Bytes) : ∀ (n : Nat) (v3x0 : Bytes),
    loopK 0 (fun st k => evL Kx itrim_C itrim_O 0 (itrim_L N) itrim_b3 st k) (itrim_h3 wv3x0).env n (itrim_h3 v3x0) (outK itrim_O 0 itrim_b3 k) = itrim_F3 n v3x0 (fun x3x0x0 => k (Ex.exit (2 : Nat)) (itrim_x3e0 x3x0x0))
  | 0, _ => rfl
  | n + 1, v3x0 => by
    rw [loopK_succ, itrim_round3]
    simp only [itrim_loop3 N k wv3x0 n]
    rfl
theorem itrim_at3 (N : Nat) {s : St} {k : Ex → St → Option Rs} {r : Rs} (h : itrim_L3 N s k = some r) : ∃ (v3x0 : Bytes), s = (itrim_h3 v3x0) ∧ itrim_F3 N v3x0 (fun x3x0x0 => k (Ex.exit (2 : Nat)) (itrim_x3e0 x3x0x0)) = some r := by
  cases s with | mk env objs =>
  unfold itrim_L3 at h
  split at h
  · rename_i e1 e2
    have e3 := takeF_slots _ _ _ _ e1
    simp only at e2 e3
    subst e2 e3
    exact ⟨_, rfl, h⟩
  · cases h
theorem itrim_in3 : loops itrim_b3 = [] := by kernel_rfl
theorem itrim_lid3 : lid itrim_b3 = 3 := by kernel_rfl
theorem itrim_ok3 (N : Nat) : OkL Kx itrim_C itrim_O 0 N (itrim_L N) itrim_b3 := by
  intro s k k' r hk h
  rw [itrim_lid3] at h
  obtain ⟨v3x0, rfl, h⟩ := itrim_at3 N h
  refine loopL (Λ := itrim_L N) itrim_b3 ?_ N hk ((itrim_loop3 N k v3x0 N v3x0).trans h)
  rw [itrim_in3]
  exact fun _ h => nomatch h
def itrim_run (N : Nat) (s : Bytes) : Option Rs := (itrim_F1 N s (fun x1x0x0 => (itrim_F3 N x1x0x0 (fun x3x0x0 => (some ((AV.str x3x0x0), ([] : List Ob)))))))
theorem itrim_runL (N : Nat) (s : Bytes) : runL Kx itrim_C itrim_O (itrim_L N) Tryz.f147 ([.str s]) ([]) = itrim_run N s := by kernel_rfl
theorem itrim_body : Tryz.f147.body = some (codeOf Tryz.f147) := by kernel_rfl
theorem itrim_loops : loops (codeOf Tryz.f147) = [itrim_b1, itrim_b3] := by kernel_rfl
theorem itrim_ev (N : Nat) (s : Bytes) {res_ : Rs} (hyp_ : itrim_run N s = some res_) : ∃ n_, runF Kx itrim_C itrim_O n_ Tryz.f147 ([.str s]) ([]) = some res_ :=
  ⟨N, runL_runF itrim_body (by rw [itrim_loops]; exact List.forall_mem_cons.2 ⟨itrim_ok1 N, List.forall_mem_cons.2 ⟨itrim_ok3 N, fun _ h => nomatch h⟩⟩) ((itrim_runL N s).trans hyp_)⟩
def itrim_sOf (φ : Bytes → Br) : List AV → List Ob → Br
  | [.str s], [] => φ s
  | _, _ => .fail
theorem itrim_okOf {φ : Bytes → Br} (fu : Bytes → Nat) (hv : ∀ s res_, (φ s).val = some res_ → itrim_run (fu s) s = some res_) : Sound Kx 147 (itrim_sOf φ) := by
  refine sound_run (C := itrim_C) (O := itrim_O) KOk itrim_C_ok Tryz.func147 (by kernel_rfl) fun args objs res os h => ?_
  unfold itrim_sOf at h
  split at h
  · exact itrim_ev _ _ (hv _ _ h)
  · cases h

def strim_O : Opt := { cons := [], keepNil := false, mutF := [], live := [(5, [0, 3, 4]), (2, [0, 3])], outs := [(5, [0, 2, 3, 4]), (2, [0, 2, 3])] }
def strim_C : Spec := (add noS 185 (pr_s isSp))
theorem strim_C_ok : ∀ fn, Sound Kx fn (strim_C fn) := (sound_add (sound_no Kx) swhite_okQ)
def strim_T2 (v2x0 : Bytes) (v2x1 : Int) (kR2 : Bytes → Int → Option Rs) (k2e0 : Bytes → Int → Option Rs) : Option Rs :=
  (bif (decide (v2x1 < ((List.length v2x0) : Int))) then (bif (decide ((0 : Int) ≤ v2x1)) then (bif (decide (v2x1 < ((List.length v2x0) : Int))) then (bif (isSp (strAt v2x0 v2x1)) then (kR2 v2x0 (wk64 (v2x1 + (1 : Int)))) else (k2e0 v2x0 v2x1)) else (none)) else (none)) else (k2e0 v2x0 v2x1))
def strim_F2 : Nat → Bytes → Int → (Bytes → Int → Option Rs) → Option Rs
  | 0, _, _, _ => none
  | n + 1, v2x0, v2x1, k2e0 => strim_T2 v2x0 v2x1 (fun v2x0 v2x1 => strim_F2 n v2x0 v2x1 k2e0) k2e0
def strim_h2 (v2x0 : Bytes) (v2x1 : Int) : St := (St.mk (slots 0 35 [(0, (AV.str v2x0)), (3, (AV.int .i64 v2x1))]) ([] : (List (Nat × (Ob)))))
def strim_x2e0 (x2x0x0 : Bytes) (x2x0x1 : Int) : St := (St.mk (slots 0 35 [(0, (AV.str x2x0x0)), (3, (AV.int .i64 x2x0x1))]) ([] : (List (Nat × (Ob)))))
noncomputable def strim_b2 : Code := codeAt (codeOf Tryz.f144) [1, 1, 0, 0, 0]
def strim_L2 (N : Nat) (st : St) (k : Ex → St → Option Rs) : Option Rs := match takeF [0, 3] 0 35 st.env, st.objs with
  | some [.str v2x0, .int .i64 v2x1], [] => strim_F2 N v2x0 v2x1 (fun x2x0x0 x2x0x1 => k (Ex.exit (0 : Nat)) (strim_x2e0 x2x0x0 x2x0x1))
  | _, _ => none
def strim_T5 (v5x0 : Bytes) (v5x1 : Int) (v5x2 : Int) (kR5 : Bytes → Int → Int → Option Rs) (k5e0 : Bytes → Int → Int → Option Rs) : Option Rs :=
  (bif (decide (v5x1 < v5x2)) then (bif (decide ((0 : Int) ≤ (wk64 (v5x2 - (1 : Int))))) then (bif (decide ((wk64 (v5x2 - (1 : Int))) < ((List.length v5x0) : Int))) then (bif (isSp (strAt v5x0 (wk64 (v5x2 - (1 : Int))))) then (kR5 v5x0 v5x1 (wk64 (v5x2 - (1 : Int)))) else (k5e0 v5x0 v5x1 v5x2)) else (none)) else (none)) else (k5e0 v5x0 v5x1 v5x2))
def strim_F5 : Nat → Bytes → Int → Int → (Bytes → Int → Int → Option Rs) → Option Rs
  | 0, _, _, _, _ => none
  | n + 1, v5x0, v5x1, v5x2, k5e0 => strim_T5 v5x0 v5x1 v5x2 (fun v5x0 v5x1 v5x2 => strim_F5 n v5x0 v5x1 v5x2 k5e0) k5e0
def strim_h5 (v5x0 : Bytes) (v5x1 : Int) (v5x2 : Int) : St := (St.mk (slots 0 35 [(0, (AV.str v5x0)), (3, (AV.int .i64 v5x1)), (4, (AV.int .i64 v5x2))]) ([] : (List (Nat × (Ob)))))
def strim_x5e0 (x5x0x0 : Bytes) (x5x0x1 : Int) (x5x0x2 : Int) : St := (St.mk (slots 0 35 [(0, (AV.str x5x0x0)), (3, (AV.int .i64 x5x0x1)), (4, (AV.int .i64 x5x0x2))]) ([] : (List (Nat × (Ob)))))
noncomputable def strim_b5 : Code := codeAt (codeOf Tryz.f144) [1, 1, 1, 1, 0, 0, 0]
def strim_L5 (N : Nat) (st : St) (k : Ex → St → Option Rs) : Option Rs := match takeF [0, 3, 4] 0 35 st.env, st.objs with
  | some [.str v5x0, .int .i64 v5x1, .int .i64 v5x2], [] => strim_F5 N v5x0 v5x1 v5x2 (fun x5x0x0 x5x0x1 x5x0x2 => k (Ex.exit (2 : Nat)) (strim_x5e0 x5x0x0 x5x0x1 x5x0x2))
  | _, _ => none
def strim_L (N : Nat) : Lam := fun j st k => match j with
  | 2 => strim_L2 N st k
  | 5 => strim_L5 N st k
  | _ => none
theorem strim_round2 (N : Nat) (again : St → Option Rs) (k : Ex → St → Option Rs) (wv2x0 : Bytes) (wv2x1 : Int) (v2x0 : Bytes) (v2x1 : Int) :
    roundK 0 (fun st k => evL Kx strim_C strim_O 0 (strim_L N) strim_b2 st k) (strim_h2 wv2x0 wv2x1).env again (strim_h2 v2x0 v2x1) (outK strim_O 0 strim_b2 k) = strim_T2 v2x0 v2x1 (fun v2x0 v2x1 => again (strim_h2 v2x0 v2x1)) (fun x2x0x0 x2x0x1 => k (Ex.exit (0 : Nat)) (strim_x2e0 x2x0x0 x2x0x1)) := by kernel_rfl
theorem strim_loop2 (N : Nat) (k : Ex → St → Option Rs) (wv2x0 : Bytes) (wv2x1 : Int) : ∀ (n : Nat) (v2x0 : Bytes) (v2x1 : Int),
    loopK 0 (fun st k => evL Kx strim_C strim_O 0 (strim_L N) strim_b2 st k) (strim_h2 wv2x0 wv2x1).env n (strim_h2 v2x0 v2x1) (outK strim_O 0 strim_b2 k) = strim_F2 n v2x0 v2x1 (fun x2x0x0 x2x0x1 => k (Ex.exit (0 : Nat)) (strim_x2e0 x2x0x0 x2x0x1))
  | 0, _, _ => rfl
  | n + 1, v2x0, v2x1 => by
    rw [loopK_succ, strim_round2]
    simp only [strim_loop2 N k wv2x0 wv2x1 n]
    rfl
theorem strim_at2 (N : Nat) {s : St} {k : Ex → St → Option Rs} {r : Rs} (h : strim_L2 N s k = some r) : ∃ (v2x0 : Bytes) (v2x1 : Int), s = (strim_h2 v2x0 v2x1) ∧ strim_F2 N v2x0 v2x1 (fun x2x0x0 x2x0x1 => k (Ex.exit (0 : Nat)) (strim_x2e0 x2x0x0 x2x0x1)) = some r := by
  cases s with | mk env objs =>
  unfold strim_L2 at h
  split at h
  · rename_i e1 e2
    have e3 := takeF_slots _ _ _ _ e1
    simp only at e2 e3
    subst e2 e3
    exact ⟨_, _, rfl, h⟩
  · cases h
theorem strim_in2 : loops strim_b2 = [] := by kernel_rfl
theorem strim_lid2 : lid strim_b2 = 2 := by kernel_rfl
theorem strim_ok2 (N : Nat) : OkL Kx strim_C strim_O 0 N (strim_L N) strim_b2 := by
  intro s k k' r hk h
  rw [strim_lid2] at h
  obtain ⟨v2x0, v2x1, rfl, h⟩ := strim_at2 N h
  refine loopL (Λ := strim_L N) strim_b2 ?_ N hk ((strim_loop2 N k v2x0 v2x1 N v2x0 v2x1).trans h)
  rw [strim_in2]
  exact fun _ h => nomatch h
theorem strim_round5 (N : Nat) (again : St → Option Rs) (k : Ex → St → Option Rs) (wv5x0 : Bytes) (wv5x1 : Int) (wv5x2 : Int) (v5x0 : Bytes) (v5x1 : Int) (v5x2 : Int) :
    roundK 0 (fun st k => evL Kx strim_C strim_O 0 (strim_L N) strim_b5 st k) (strim_h5 wv5x0 wv5x1 wv5x2).env again (strim_h5 v5x0 v5x1 v5x2) (outK strim_O 0 strim_b5 k) = strim_T5 v5x0 v5x1 v5x2 (fun v5x0 v5x1 v5x2 => again (strim_h5 v5x0 v5x1 v5x2)) (fun x5x0x0 x5x0x1 x5x0x2 => k (Ex.exit (2 : Nat)) (strim_x5e0 x5x0x0 x5x0x1 x5x0x2)) := by kernel_rfl
theorem strim_loop5 (N : Nat) (k : Ex → St → Option Rs) (wv5x0 : Bytes) (wv5x1 : Int) (wv5x2 : Int) : ∀ (n : Nat) (v5x0 : Bytes) (v5x1 : Int) (v5x2 : Int),
    loopK 0 (fun st k => evL Kx strim_C strim_O 0 (strim_L N) strim_b5 st k) (strim_h5 wv5x0 wv5x1 wv5x2).env n (strim_h5 v5x0 v5x1 v5x2) (outK strim_O 0 strim_b5 k) = strim_F5 n v5x0 v5x1 v5x2 (fun x5x0x0 x5x0x1 x5x0x2 => k (Ex.exit (2 : Nat)) (strim_x5e0 x5x0x0 x5x0x1 x5x0x2))
  | 0, _, _, _ => rfl
  | n + 1, v5x0, v5x1, v5x2 => by
    rw [loopK_succ, strim_round5]
    simp only [strim_loop5 N k wv5x0 wv5x1 wv5x2 n]
    rfl
theorem strim_at5 (N : Nat) {s : St} {k : Ex → St → Option Rs} {r : Rs} (h : strim_L5 N s k = some r) : ∃ (v5x0 : Bytes) (v5x1 : Int) (v5x2 : Int), s = (strim_h5 v5x0 v5x1 v5x2) ∧ strim_F5 N v5x0 v5x1 v5x2 (fun x5x0x0 x5x0x1 x5x0x2 => k (Ex.exit (2 : Nat)) (strim_x5e0 x5x0x0 x5x0x1 x5x0x2)) = some r := by
  cases s with | mk env objs =>
  unfold strim_L5 at h
  split at h
  · rename_i e1 e2
    have e3 := takeF_slots _ _ _ _ e1
    simp only at e2 e3
    subst e2 e3
    exact ⟨_, _, _, rfl, h⟩
  · cases h
theorem strim_in5 : loops strim_b5 = [] := by kernel_rfl
theorem strim_lid5 : lid strim_b5 = 5 := by kernel_rfl
theorem strim_ok5 (N : Nat) : OkL Kx strim_C strim_O 0 N (strim_L N) strim_b5 := by
  intro s k k' r hk h
  rw [strim_lid5] at h
  obtain ⟨v5x0, v5x1, v5x2, rfl, h⟩ := strim_at5 N h
  refine loopL (Λ := strim_L N) strim_b5 ?_ N hk ((strim_loop5 N k v5x0 v5x1 v5x2 N v5x0 v5x1 v5x2).trans h)
  rw [strim_in5]
  exact fun _ h => nomatch h
def strim_run (N : Nat) (s : Bytes) : Option Rs := (strim_F2 N s (0 : Int) (fun x2x0x0 => (fun x2x0x1 => (strim_F5 N x2x0x0 x2x0x1 ((List.length x2x0x0) : Int) (fun x5x0x0 => (fun x5x0x1 => (fun x5x0x2 => (bif (decide ((0 : Int) ≤ x5x0x1)) then (bif (decide (x5x0x1 ≤ x5x0x2)) then (bif (decide (x5x0x2 ≤ ((List.length x5x0x0) : Int))) then (some ((AV.str (cut x5x0x0 x5x0x1 x5x0x2)), ([] : List Ob))) else (none)) else (none)) else (none)))))))))
theorem strim_runL (N : Nat) (s : Bytes) : runL Kx strim_C strim_O (strim_L N) Tryz.f144 ([.str s]) ([]) = strim_run N s := by kernel_rfl
theorem strim_body : Tryz.f144.body = some (codeOf Tryz.f144) := by kernel_rfl
theorem strim_loops : loops (codeOf Tryz.f144) = [strim_b2, strim_b5] := by kernel_rfl
theorem strim_ev (N : Nat) (s : Bytes) {res_ : Rs} (hyp_ : strim_run N s = some res_) : ∃ n_, runF Kx strim_C strim_O n_ Tryz.f144 ([.str s]) ([]) = some res_ :=
  ⟨N, runL_runF strim_body (by rw [strim_loops]; exact List.forall_mem_cons.2 ⟨strim_ok2 N, List.forall_mem_cons.2 ⟨strim_ok5 N, fun _ h => nomatch h⟩⟩) ((strim_runL N s).trans hyp_)⟩
def strim_sOf (φ : Bytes → Br) : List AV → List Ob → Br
  | [.str s], [] => φ s
  | _, _ => .fail
theorem strim_okOf {φ : Bytes → Br} (fu : Bytes → Nat) (hv : ∀ s res_, (φ s).val = some res_ → strim_run (fu s) s = some res_) : Sound Kx 144 (strim_sOf φ) := by
  refine sound_run (C := strim_C) (O := strim_O) KOk strim_C_ok Tryz.func144 (by kernel_rfl) fun args objs res os h => ?_
  unfold strim_sOf at h
  split at h
  · exact strim_ev _ _ (hv _ _ h)
  · cases h

def allVis_O : Opt := { cons := [], keepNil := false, mutF := [], live := [(2, [0, 1, 5])], outs := [(2, [4])] }
def allVis_C : Spec := (add noS 162 (pr_s isVis))
theorem allVis_C_ok : ∀ fn, Sound Kx fn (allVis_C fn) := (sound_add (sound_no Kx) isVisible_okQ)
def allVis_T2 (v2x0 : Bytes) (v2x1 : Int) (kR2 : Bytes → Int → Option Rs) (k2e0 : Option Rs) (k2e1 : Option Rs) : Option Rs :=
  (bif (decide (v2x1 < ((List.length v2x0) : Int))) then (bif (decide ((0 : Int) ≤ v2x1)) then (bif (decide (v2x1 < ((List.length v2x0) : Int))) then (bif (!(isVis (strAt v2x0 v2x1))) then k2e0 else (kR2 v2x0 (wk64 (v2x1 + (1 : Int))))) else (none)) else (none)) else k2e1)
def allVis_F2 : Nat → Bytes → Int → (Option Rs) → (Option Rs) → Option Rs
  | 0, _, _, _, _ => none
  | n + 1, v2x0, v2x1, k2e0, k2e1 => allVis_T2 v2x0 v2x1 (fun v2x0 v2x1 => allVis_F2 n v2x0 v2x1 k2e0 k2e1) k2e0 k2e1
def allVis_h2 (v2x0 : Bytes) (v2x1 : Int) : St := (St.mk (slots 0 18 [(0, (AV.str v2x0)), (1, (AV.fn (162 : Nat) ([] : List AV))), (5, (AV.int .i64 v2x1))]) ([] : (List (Nat × (Ob)))))
def allVis_x2e0  : St := (St.mk (slots 0 18 [(4, (AV.bool false))]) ([] : (List (Nat × (Ob)))))
def allVis_x2e1  : St := (St.mk (slots 0 18 []) ([] : (List (Nat × (Ob)))))
noncomputable def allVis_b2 : Code := codeAt (codeOf Tryz.f95) [1, 0, 1, 0, 0]
def allVis_L2 (N : Nat) (st : St) (k : Ex → St → Option Rs) : Option Rs := match takeF [0, 1, 5] 0 18 st.env, st.objs with
  | some [.str v2x0, .fn 162 [], .int .i64 v2x1], [] => allVis_F2 N v2x0 v2x1 (k Ex.ret (allVis_x2e0)) (k (Ex.exit (0 : Nat)) (allVis_x2e1))
  | _, _ => none
def allVis_L (N : Nat) : Lam := fun j st k => match j with
  | 2 => allVis_L2 N st k
  | _ => none
theorem allVis_round2 (N : Nat) (again : St → Option Rs) (k : Ex → St → Option Rs) (wv2x0 : Bytes) (wv2x1 : Int) (v2x0 : Bytes) (v2x1 : Int) :
    roundK 0 (fun st k => evL Kx allVis_C allVis_O 0 (allVis_L N) allVis_b2 st k) (allVis_h2 wv2x0 wv2x1).env again (allVis_h2 v2x0 v2x1) (outK allVis_O 0 allVis_b2 k) = allVis_T2 v2x0 v2x1 (fun v2x0 v2x1 => again (allVis_h2 v2x0 v2x1)) (k Ex.ret (allVis_x2e0)) (k (Ex.exit (0 : Nat)) (allVis_x2e1)) := by kernel_rfl
theorem allVis_loop2 (N : Nat) (k : Ex → St → Option Rs) (wv2x0 : Bytes) (wv2x1 : Int) : ∀ (n : Nat) (v2x0 : Bytes) (v2x1 : Int),
    loopK 0 (fun st k => evL Kx allVis_C allVis_O 0 (allVis_L N) allVis_b2 st k) (allVis_h2 wv2x0 wv2x1).env n (allVis_h2 v2x0 v2x1) (outK allVis_O 0 allVis_b2 k) = allVis_F2 n v2x0 v2x1 (k Ex.ret (allVis_x2e0)) (k (Ex.exit (0 : Nat)) (allVis_x2e1))
  | 0, _, _ => rfl
  | n + 1, v2x0, v2x1 => by
    rw [loopK_succ, allVis_round2]
    simp only [allVis_loop2 N k wv2x0 wv2x1 n]
    rfl
theorem allVis_at2 (N : Nat) {s : St} {k : Ex → St → Option Rs} {r : Rs} (h : allVis_L2 N s k = some r) : ∃ (v2x0 : Bytes) (v2x1 : Int), s = (allVis_h2 v2x0 v2x1) ∧ allVis_F2 N v2x0 v2x1 (k Ex.ret (allVis_x2e0)) (k (Ex.exit (0 : Nat)) (allVis_x2e1)) = some r := by
  cases s with | mk env objs =>
  unfold allVis_L2 at h
  split at h
  · rename_i e1 e2
    have e3 := takeF_slots _ _ _ _ e1
    simp only at e2 e3
    subst e2 e3
    exact ⟨_, _, rfl, h⟩
  · cases h
theorem allVis_in2 : loops allVis_b2 = [] := by kernel_rfl
theorem allVis_lid2 : lid allVis_b2 = 2 := by kernel_rfl
theorem allVis_ok2 (N : Nat) : OkL Kx allVis_C allVis_O 0 N (allVis_L N) allVis_b2 := by
  intro s k k' r hk h
  rw [allVis_lid2] at h
  obtain ⟨v2x0, v2x1, rfl, h⟩ := allVis_at2 N h
  refine loopL (Λ := allVis_L N) allVis_b2 ?_ N hk ((allVis_loop2 N k v2x0 v2x1 N v2x0 v2x1).trans h)
  rw [allVis_in2]
  exact fun _ h => nomatch h
def allVis_run (N : Nat) (s : Bytes) : Option Rs := (allVis_F2 N s (0 : Int) (some ((AV.bool false), ([] : List Ob))) (some ((AV.bool true), ([] : List Ob))))
theorem allVis_runL (N : Nat) (s : Bytes) : runL Kx allVis_C allVis_O (allVis_L N) Tryz.f95 ([.str s, .fn 162 []]) ([]) = allVis_run N s := by kernel_rfl
theorem allVis_body : Tryz.f95.body = some (codeOf Tryz.f95) := by kernel_rfl
theorem allVis_loops : loops (codeOf Tryz.f95) = [allVis_b2] := by kernel_rfl
theorem allVis_ev (N : Nat) (s : Bytes) {res_ : Rs} (hyp_ : allVis_run N s = some res_) : ∃ n_, runF Kx allVis_C allVis_O n_ Tryz.f95 ([.str s, .fn 162 []]) ([]) = some res_ :=
  ⟨N, runL_runF allVis_body (by rw [allVis_loops]; exact List.forall_mem_cons.2 ⟨allVis_ok2 N, fun _ h => nomatch h⟩) ((allVis_runL N s).trans hyp_)⟩
def allVis_sOf (φ : Bytes → Br) : List AV → List Ob → Br
  | [.str s, .fn 162 []], [] => φ s
  | _, _ => .fail
theorem allVis_okOf {φ : Bytes → Br} (fu : Bytes → Nat) (hv : ∀ s res_, (φ s).val = some res_ → allVis_run (fu s) s = some res_) : Sound Kx 95 (allVis_sOf φ) := by
  refine sound_run (C := allVis_C) (O := allVis_O) KOk allVis_C_ok Tryz.func95 (by kernel_rfl) fun args objs res os h => ?_
  unfold allVis_sOf at h
  split at h
  · exact allVis_ev _ _ (hv _ _ h)
  · cases h

def allPl_O : Opt := { cons := [], keepNil := false, mutF := [], live := [(2, [0, 1, 5])], outs := [(2, [4])] }
def allPl_C : Spec := (add noS 146 (pr_s isPl))
theorem allPl_C_ok : ∀ fn, Sound Kx fn (allPl_C fn) := (sound_add (sound_no Kx) isPlain_okQ)
def allPl_T2 (v2x0 : Bytes) (v2x1 : Int) (kR2 : Bytes → Int → Option Rs) (k2e0 : Option Rs) (k2e1 : Option Rs) : Option Rs :=
  (bif (decide (v2x1 < ((List.length v2x0) : Int))) then (bif (decide ((0 : Int) ≤ v2x1)) then (bif (decide (v2x1 < ((List.length v2x0) : Int))) then (bif (!(isPl (strAt v2x0 v2x1))) then k2e0 else (kR2 v2x0 (wk64 (v2x1 + (1 : Int))))) else (none)) else (none)) else k2e1)
def allPl_F2 : Nat → Bytes → Int → (Option Rs) → (Option Rs) → Option Rs
  | 0, _, _, _, _ => none
  | n + 1, v2x0, v2x1, k2e0, k2e1 => allPl_T2 v2x0 v2x1 (fun v2x0 v2x1 => allPl_F2 n v2x0 v2x1 k2e0 k2e1) k2e0 k2e1
def allPl_h2 (v2x0 : Bytes) (v2x1 : Int) : St := (St.mk (slots 0 18 [(0, (AV.str v2x0)), (1, (AV.fn (146 : Nat) ([] : List AV))), (5, (AV.int .i64 v2x1))]) ([] : (List (Nat × (Ob)))))
def allPl_x2e0  : St := (St.mk (slots 0 18 [(4, (AV.bool false))]) ([] : (List (Nat × (Ob)))))
def allPl_x2e1  : St := (St.mk (slots 0 18 []) ([] : (List (Nat × (Ob)))))
noncomputable def allPl_b2 : Code := codeAt (codeOf Tryz.f95) [1, 0, 1, 0, 0]
def allPl_L2 (N : Nat) (st : St) (k : Ex → St → Option Rs) : Option Rs := match takeF [0, 1, 5] 0 18 st.env, st.objs with
  | some [.str v2x0, .fn 146 [], .int .i64 v2x1], [] => allPl_F2 N v2x0 v2x1 (k Ex.ret (allPl_x2e0)) (k (Ex.exit (0 : Nat)) (allPl_x2e1))
  | _, _ => none
def allPl_L (N : Nat) : Lam := fun j st k => match j with
  | 2 => allPl_L2 N st k
  | _ => none
theorem allPl_round2 (N : Nat) (again : St → Option Rs) (k : Ex → St → Option Rs) (wv2x0 : Bytes) (wv2x1 : Int) (v2x0 : Bytes) (v2x1 : Int) :
    roundK 0 (fun st k => evL Kx allPl_C allPl_O 0 (allPl_L N) allPl_b2 st k) (allPl_h2 wv2x0 wv2x1).env again (allPl_h2 v2x0 v2x1) (outK allPl_O 0 allPl_b2 k) = allPl_T2 v2x0 v2x1 (fun v2x0 v2x1 => again (allPl_h2 v2x0 v2x1)) (k Ex.ret (allPl_x2e0)) (k (Ex.exit (0 : Nat)) (allPl_x2e1)) := by kernel_rfl
theorem allPl_loop2 (N : Nat) (k : Ex → St → Option Rs) (wv2x0 : Bytes) (wv2x1 : Int) : ∀ (n : Nat) (v2x0 : Bytes) (v2x1 : Int),
    loopK 0 (fun st k => evL Kx allPl_C allPl_O 0 (allPl_L N) allPl_b2 st k) (allPl_h2 wv2x0 wv2x1).env n (allPl_h2 v2x0 v2x1) (outK allPl_O 0 allPl_b2 k) = allPl_F2 n v2x0 v2x1 (k Ex.ret (allPl_x2e0)) (k (Ex.exit (0 : Nat)) (allPl_x2e1))
  | 0, _, _ => rfl
  | n + 1, v2x0, v2x1 => by
    rw [loopK_succ, allPl_round2]
    simp only [allPl_loop2 N k wv2x0 wv2x1 n]
    rfl
theorem allPl_at2 (N : Nat) {s : St} {k : Ex → St → Option Rs} {r : Rs} (h : allPl_L2 N s k = some r) : ∃ (v2x0 : Bytes) (v2x1 : Int), s = (allPl_h2 v2x0 v2x1) ∧ allPl_F2 N v2x0 v2x1 (k Ex.ret (allPl_x2e0)) (k (Ex.exit (0 : Nat)) (allPl_x2e1)) = some r := by
  cases s with | mk env objs =>
  unfold allPl_L2 at h
  split at h
  · rename_i e1 e2
    have e3 := takeF_slots _ _ _ _ e1
    simp only at e2 e3
    subst e2 e3
    exact ⟨_, _, rfl, h⟩
  · cases h
theorem allPl_in2 : loops allPl_b2 = [] := by kernel_rfl
theorem allPl_lid2 : lid allPl_b2 = 2 := by kernel_rfl
theorem allPl_ok2 (N : Nat) : OkL Kx allPl_C allPl_O 0 N (allPl_L N) allPl_b2 := by
  intro s k k' r hk h
  rw [allPl_lid2] at h
  obtain ⟨v2x0, v2x1, rfl, h⟩ := allPl_at2 N h
  refine loopL (Λ := allPl_L N) allPl_b2 ?_ N hk ((allPl_loop2 N k v2x0 v2x1 N v2x0 v2x1).trans h)
  rw [allPl_in2]
  exact fun _ h => nomatch h
def allPl_run (N : Nat) (s : Bytes) : Option Rs := (allPl_F2 N s (0 : Int) (some ((AV.bool false), ([] : List Ob))) (some ((AV.bool true), ([] : List Ob))))
theorem allPl_runL (N : Nat) (s : Bytes) : runL Kx allPl_C allPl_O (allPl_L N) Tryz.f95 ([.str s, .fn 146 []]) ([]) = allPl_run N s := by kernel_rfl
theorem allPl_body : Tryz.f95.body = some (codeOf Tryz.f95) := by kernel_rfl
theorem allPl_loops : loops (codeOf Tryz.f95) = [allPl_b2] := by kernel_rfl
theorem allPl_ev (N : Nat) (s : Bytes) {res_ : Rs} (hyp_ : allPl_run N s = some res_) : ∃ n_, runF Kx allPl_C allPl_O n_ Tryz.f95 ([.str s, .fn 146 []]) ([]) = some res_ :=
  ⟨N, runL_runF allPl_body (by rw [allPl_loops]; exact List.forall_mem_cons.2 ⟨allPl_ok2 N, fun _ h => nomatch h⟩) ((allPl_runL N s).trans hyp_)⟩
def allPl_sOf (φ : Bytes → Br) : List AV → List Ob → Br
  | [.str s, .fn 146 []], [] => φ s
  | _, _ => .fail
theorem allPl_okOf {φ : Bytes → Br} (fu : Bytes → Nat) (hv : ∀ s res_, (φ s).val = some res_ → allPl_run (fu s) s = some res_) : Sound Kx 95 (allPl_sOf φ) := by
  refine sound_run (C := allPl_C) (O := allPl_O) KOk allPl_C_ok Tryz.func95 (by kernel_rfl) fun args objs res os h => ?_
  unfold allPl_sOf at h
  split at h
  · exact allPl_ev _ _ (hv _ _ h)
  · cases h

def splains_O : Opt := { cons := [], keepNil := false, mutF := [], live := [(2, [0, 3])], outs := [(2, [2])] }
def splains_C : Spec := (add noS 184 (pr_s isPl))
theorem splains_C_ok : ∀ fn, Sound Kx fn (splains_C fn) := (sound_add (sound_no Kx) splain_okQ)
def splains_T2 (v2x0 : Bytes) (v2x1 : Int) (kR2 : Bytes → Int → Option Rs) (k2e0 : Option Rs) (k2e1 : Option Rs) : Option Rs :=
  (bif (decide (v2x1 < ((List.length v2x0) : Int))) then (bif (decide ((0 : Int) ≤ v2x1)) then (bif (decide (v2x1 < ((List.length v2x0) : Int))) then (bif (!(isPl (strAt v2x0 v2x1))) then k2e0 else (kR2 v2x0 (wk64 (v2x1 + (1 : Int))))) else (none)) else (none)) else k2e1)
def splains_F2 : Nat → Bytes → Int → (Option Rs) → (Option Rs) → Option Rs
  | 0, _, _, _, _ => none
  | n + 1, v2x0, v2x1, k2e0, k2e1 => splains_T2 v2x0 v2x1 (fun v2x0 v2x1 => splains_F2 n v2x0 v2x1 k2e0 k2e1) k2e0 k2e1
def splains_h2 (v2x0 : Bytes) (v2x1 : Int) : St := (St.mk (slots 0 15 [(0, (AV.str v2x0)), (3, (AV.int .i64 v2x1))]) ([] : (List (Nat × (Ob)))))
def splains_x2e0  : St := (St.mk (slots 0 15 [(2, (AV.bool false))]) ([] : (List (Nat × (Ob)))))
def splains_x2e1  : St := (St.mk (slots 0 15 []) ([] : (List (Nat × (Ob)))))
noncomputable def splains_b2 : Code := codeAt (codeOf Tryz.f143) [1, 0, 1, 0, 0]
def splains_L2 (N : Nat) (st : St) (k : Ex → St → Option Rs) : Option Rs := match takeF [0, 3] 0 15 st.env, st.objs with
  | some [.str v2x0, .int .i64 v2x1], [] => splains_F2 N v2x0 v2x1 (k Ex.ret (splains_x2e0)) (k (Ex.exit (0 : Nat)) (splains_x2e1))
  | _, _ => none
def splains_L (N : Nat) : Lam := fun j st k => match j with
  | 2 => splains_L2 N st k
  | _ => none
theorem splains_round2 (N : Nat) (again : St → Option Rs) (k : Ex → St → Option Rs) (wv2x0 : Bytes) (wv2x1 : Int) (v2x0 : Bytes) (v2x1 : Int) :
    roundK 0 (fun st k => evL Kx splains_C splains_O 0 (splains_L N) splains_b2 st k) (splains_h2 wv2x0 wv2x1).env again (splains_h2 v2x0 v2x1) (outK splains_O 0 splains_b2 k) = splains_T2 v2x0 v2x1 (fun v2x0 v2x1 => again (splains_h2 v2x0 v2x1)) (k Ex.ret (splains_x2e0)) (k (Ex.exit (0 : Nat)) (splains_x2e1)) := by kernel_rfl
theorem splains_loop2 (N : Nat) (k : Ex → St → Option Rs) (wv2x0 : Bytes) (wv2x1 : Int) : ∀ (n : Nat) (v2x0 : Bytes) (v2x1 : Int),
    loopK 0 (fun st k => evL Kx splains_C splains_O 0 (splains_L N) splains_b2 st k) (splains_h2 wv2x0 wv2x1).env n (splains_h2 v2x0 v2x1) (outK splains_O 0 splains_b2 k) = splains_F2 n v2x0 v2x1 (k Ex.ret (splains_x2e0)) (k (Ex.exit (0 : Nat)) (splains_x2e1))
  | 0, _, _ => rfl
  | n + 1, v2x0, v2x1 => by
    rw [loopK_succ, splains_round2]
    simp only [splains_loop2 N k wv2x0 wv2x1 n]
    rfl
theorem splains_at2 (N : Nat) {s : St} {k : Ex → St → Option Rs} {r : Rs} (h : splains_L2 N s k = some r) : ∃ (v2x0 : Bytes) (v2x1 : Int), s = (splains_h2 v2x0 v2x1) ∧ splains_F2 N v2x0 v2x1 (k Ex.ret (splains_x2e0)) (k (Ex.exit (0 : Nat)) (splains_x2e1)) = some r := by
  cases s with | mk env objs =>
  unfold splains_L2 at h
  split at h
  · rename_i e1 e2
    have e3 := takeF_slots _ _ _ _ e1
    simp only at e2 e3
    subst e2 e3
    exact ⟨_, _, rfl, h⟩
  · cases h
theorem splains_in2 : loops splains_b2 = [] := by kernel_rfl
theorem splains_lid2 : lid splains_b2 = 2 := by kernel_rfl
theorem splains_ok2 (N : Nat) : OkL Kx splains_C splains_O 0 N (splains_L N) splains_b2 := by
  intro s k k' r hk h
  rw [splains_lid2] at h
  obtain ⟨v2x0, v2x1, rfl, h⟩ := splains_at2 N h
  refine loopL (Λ := splains_L N) splains_b2 ?_ N hk ((splains_loop2 N k v2x0 v2x1 N v2x0 v2x1).trans h)
  rw [splains_in2]
  exact fun _ h => nomatch h
def splains_run (N : Nat) (s : Bytes) : Option Rs := (splains_F2 N s (0 : Int) (some ((AV.bool false), ([] : List Ob))) (some ((AV.bool true), ([] : List Ob))))
theorem splains_runL (N : Nat) (s : Bytes) : runL Kx splains_C splains_O (splains_L N) Tryz.f143 ([.str s]) ([]) = splains_run N s := by kernel_rfl
theorem splains_body : Tryz.f143.body = some (codeOf Tryz.f143) := by kernel_rfl
theorem splains_loops : loops (codeOf Tryz.f143) = [splains_b2] := by kernel_rfl
theorem splains_ev (N : Nat) (s : Bytes) {res_ : Rs} (hyp_ : splains_run N s = some res_) : ∃ n_, runF Kx splains_C splains_O n_ Tryz.f143 ([.str s]) ([]) = some res_ :=
  ⟨N, runL_runF splains_body (by rw [splains_loops]; exact List.forall_mem_cons.2 ⟨splains_ok2 N, fun _ h => nomatch h⟩) ((splains_runL N s).trans hyp_)⟩
def splains_sOf (φ : Bytes → Br) : List AV → List Ob → Br
  | [.str s], [] => φ s
  | _, _ => .fail
theorem splains_okOf {φ : Bytes → Br} (fu : Bytes → Nat) (hv : ∀ s res_, (φ s).val = some res_ → splains_run (fu s) s = some res_) : Sound Kx 143 (splains_sOf φ) := by
  refine sound_run (C := splains_C) (O := splains_O) KOk splains_C_ok Tryz.func143 (by kernel_rfl) fun args objs res os h => ?_
  unfold splains_sOf at h
  split at h
  · exact splains_ev _ _ (hv _ _ h)
  · cases h

def svis_O : Opt := { cons := [], keepNil := false, mutF := [], live := [(2, [0, 3])], outs := [(2, [0, 2])] }
def svis_T2 (v2x0 : Bytes) (v2x1 : Int) (kR2 : Bytes → Int → Option Rs) (k2e0 : Bytes → Option Rs) (k2e1 : Bytes → Option Rs) : Option Rs :=
  (bif (decide (v2x1 < ((List.length v2x0) : Int))) then (bif (decide ((0 : Int) ≤ v2x1)) then (bif (decide (v2x1 < ((List.length v2x0) : Int))) then (bif (decide ((strAt v2x0 v2x1) < (33 : Int))) then (k2e0 v2x0) else (bif (decide ((0 : Int) ≤ v2x1)) then (bif (decide (v2x1 < ((List.length v2x0) : Int))) then (bif (decide ((126 : Int) < (strAt v2x0 v2x1))) then (k2e0 v2x0) else (kR2 v2x0 (wk64 (v2x1 + (1 : Int))))) else (none)) else (none))) else (none)) else (none)) else (k2e1 v2x0))
def svis_F2 : Nat → Bytes → Int → (Bytes → Option Rs) → (Bytes → Option Rs) → Option Rs
  | 0, _, _, _, _ => none
  | n + 1, v2x0, v2x1, k2e0, k2e1 => svis_T2 v2x0 v2x1 (fun v2x0 v2x1 => svis_F2 n v2x0 v2x1 k2e0 k2e1) k2e0 k2e1
def svis_h2 (v2x0 : Bytes) (v2x1 : Int) : St := (St.mk (slots 0 23 [(0, (AV.str v2x0)), (3, (AV.int .i64 v2x1))]) ([] : (List (Nat × (Ob)))))
def svis_x2e0 (x2x0x0 : Bytes) : St := (St.mk (slots 0 23 [(0, (AV.str x2x0x0)), (2, (AV.bool false))]) ([] : (List (Nat × (Ob)))))
def svis_x2e1 (x2x1x0 : Bytes) : St := (St.mk (slots 0 23 [(0, (AV.str x2x1x0))]) ([] : (List (Nat × (Ob)))))
noncomputable def svis_b2 : Code := codeAt (codeOf Tryz.f157) [1, 0, 1, 0, 0]
def svis_L2 (N : Nat) (st : St) (k : Ex → St → Option Rs) : Option Rs := match takeF [0, 3] 0 23 st.env, st.objs with
  | some [.str v2x0, .int .i64 v2x1], [] => svis_F2 N v2x0 v2x1 (fun x2x0x0 => k Ex.ret (svis_x2e0 x2x0x0)) (fun x2x1x0 => k (Ex.exit (0 : Nat)) (svis_x2e1 x2x1x0))
  | _, _ => none
def svis_L (N : Nat) : Lam := fun j st k => match j with
  | 2 => svis_L2 N st k
  | _ => none
theorem svis_round2 (N : Nat) (again : St → Option Rs) (k : Ex → St → Option Rs) (wv2x0 : Bytes) (wv2x1 : Int) (v2x0 : Bytes) (v2x1 : Int) :
    roundK 0 (fun st k => evL Kx noS svis_O 0 (svis_L N) svis_b2 st k) (svis_h2 wv2x0 wv2x1).env again (svis_h2 v2x0 v2x1) (outK svis_O 0 svis_b2 k) = svis_T2 v2x0 v2x1 (fun v2x0 v2x1 => again (svis_h2 v2x0 v2x1)) (fun x2x0x0 => k Ex.ret (svis_x2e0 x2x0x0)) (fun x2x1x0 => k (Ex.exit (0 : Nat)) (svis_x2e1 x2x1x0)) := by kernel_rfl
theorem svis_loop2 (N : Nat) (k : Ex → St → Option Rs) (wv2x0 : Bytes) (wv2x1 : Int) : ∀ (n : Nat) (v2x0 : Bytes) (v2x1 : Int),
    loopK 0 (fun st k => evL Kx noS svis_O 0 (svis_L N) svis_b2 st k) (svis_h2 wv2x0 wv2x1).env n (svis_h2 v2x0 v2x1) (outK svis_O 0 svis_b2 k) = svis_F2 n v2x0 v2x1 (fun x2x0x0 => k Ex.ret (svis_x2e0 x2x0x0)) (fun x2x1x0 => k (Ex.exit (0 : Nat)) (svis_x2e1 x2x1x0))
  | 0, _, _ => rfl
  | n + 1, v2x0, v2x1 => by
    rw [loopK_succ, svis_round2]
    simp only [svis_loop2 N k wv2x0 wv2x1 n]
    rfl
theorem svis_at2 (N : Nat) {s : St} {k : Ex → St → Option Rs} {r : Rs} (h : svis_L2 N s k = some r) : ∃ (v2x0 : Bytes) (v2x1 : Int), s = (svis_h2 v2x0 v2x1) ∧ svis_F2 N v2x0 v2x1 (fun x2x0x0 => k Ex.ret (svis_x2e0 x2x0x0)) (fun x2x1x0 => k (Ex.exit (0 : Nat)) (svis_x2e1 x2x1x0)) = some r := by
  cases s with | mk env objs =>
  unfold svis_L2 at h
  split at h
  · rename_i e1 e2
    have e3 := takeF_slots _ _ _ _ e1
    simp only at e2 e3
    subst e2 e3
    exact ⟨_, _, rfl, h⟩
  · cases h
theorem svis_in2 : loops svis_b2 = [] := by kernel_rfl
theorem svis_lid2 : lid svis_b2 = 2 := by kernel_rfl
theorem svis_ok2 (N : Nat) : OkL Kx noS svis_O 0 N (svis_L N) svis_b2 := by
  intro s k k' r hk h
  rw [svis_lid2] at h
  obtain ⟨v2x0, v2x1, rfl, h⟩ := svis_at2 N h
  refine loopL (Λ := svis_L N) svis_b2 ?_ N hk ((svis_loop2 N k v2x0 v2x1 N v2x0 v2x1).trans h)
  rw [svis_in2]
  exact fun _ h => nomatch h
def svis_run (N : Nat) (s : Bytes) : Option Rs := (svis_F2 N s (0 : Int) (fun x2x0x0 => (some ((AV.bool false), ([] : List Ob)))) (fun x2x1x0 => (some ((AV.bool (decide ((0 : Int) < ((List.length x2x1x0) : Int)))), ([] : List Ob)))))
theorem svis_runL (N : Nat) (s : Bytes) : runL Kx noS svis_O (svis_L N) Tryz.f157 ([.str s]) ([]) = svis_run N s := by kernel_rfl
theorem svis_body : Tryz.f157.body = some (codeOf Tryz.f157) := by kernel_rfl
theorem svis_loops : loops (codeOf Tryz.f157) = [svis_b2] := by kernel_rfl
theorem svis_ev (N : Nat) (s : Bytes) {res_ : Rs} (hyp_ : svis_run N s = some res_) : ∃ n_, runF Kx noS svis_O n_ Tryz.f157 ([.str s]) ([]) = some res_ :=
  ⟨N, runL_runF svis_body (by rw [svis_loops]; exact List.forall_mem_cons.2 ⟨svis_ok2 N, fun _ h => nomatch h⟩) ((svis_runL N s).trans hyp_)⟩
def svis_sOf (φ : Bytes → Br) : List AV → List Ob → Br
  | [.str s], [] => φ s
  | _, _ => .fail
theorem svis_okOf {φ : Bytes → Br} (fu : Bytes → Nat) (hv : ∀ s res_, (φ s).val = some res_ → svis_run (fu s) s = some res_) : Sound Kx 157 (svis_sOf φ) := by
  refine sound_run (C := noS) (O := svis_O) KOk (sound_no Kx) Tryz.func157 (by kernel_rfl) fun args objs res os h => ?_
  unfold svis_sOf at h
  split at h
  · exact svis_ev _ _ (hv _ _ h)
  · cases h

end
end Go.Proofs.YtmmjaomfonknnaaGreatDoor.Ev

namespace Go.Proofs.YtmmjaomfonknnaaGreatDoor.Ev
open Go Go.RowKit
set_option linter.unusedVariables false
set_option linter.unusedSimpArgs false
noncomputable section

theorem isM_le {s : Bytes} (h : isM s = true) : s.length ≤ 4611686018427387904 := of_decide_eq_true h

theorem shas_loop (l : Bytes) (b : Int) (hl : l.length ≤ 4611686018427387904) (k0 k1 : Option Rs) : ∀ (r : Bytes) (i : Int) (n : Nat), At l i r → r.length < n → shas_F2 n l b i k0 k1 = bif r.any (fun c => decide (by8 c = b)) then k0 else k1 := by
  intro r; induction r with
  | nil => intro i n h hn; obtain ⟨n, rfl⟩ := fuel hn; unfold shas_F2 shas_T2; simp only [h.dge, cond_false, List.any_nil]
  | cons a r ih =>
    intro i n h hn; obtain ⟨n, rfl⟩ := fuel hn
    have hs := ih (i + 1) n h.step (by simp at hn; omega)
    unfold shas_F2 shas_T2; simp only [h.dlt, h.dnn, h.str, cond_true, h.next hl, hs, List.any_cons]
    cases decide (by8 a = b) <;> rfl
def has_s (p : Bytes → Int → Bool) : List AV → List Ob → Br
  | [.str s, .int .u8 b], [] => .ite (isM s) (.ret (.bool (p s b)) []) .fail
  | _, _ => .fail
def hasB (s : Bytes) (b : Int) : Bool := s.any fun c => decide (by8 c = b)
theorem shas_okQ : Sound Kx 218 (has_s hasB) := by
  refine (shas_okOf (φ := fun s b => .ite (isM s) (.ret (.bool (hasB s b)) []) .fail) (fun s b => s.length + 1) fun s b r h => ?_).of fun args objs r h => ?_
  · obtain ⟨h1, h2⟩ := ite_some h
    unfold shas_run
    rw [shas_loop s b (isM_le h1) _ _ s 0 _ (At.start s) (by omega), ← h2]
    unfold hasB
    cases s.any fun c => decide (by8 c = b) <;> rfl
  · unfold has_s at h; split at h
    · exact h
    · cases h
theorem ixOf_iff (s : Bytes) (b : Int) (h0 : 0 ≤ b) (h1 : b < 256) : (0 ≤ ixOf s b) ↔ hasB s b = true := by
  unfold ixOf hasB
  induction s with
  | nil => simp [Go.Lib.indexByte]
  | cons a r ih =>
    have hc : (a = b.toNat.toUInt8) ↔ by8 a = b := by
      unfold by8
      constructor
      · intro h; rw [h]; simp; omega
      · intro h; rw [← h]; simp
    show (0 ≤ if (a == b.toNat.toUInt8) = true then 0 else if (Go.Lib.indexByte r b.toNat.toUInt8 == -1) = true then -1 else Go.Lib.indexByte r b.toNat.toUInt8 + 1) ↔ _
    rw [List.any_cons]
    by_cases h : a = b.toNat.toUInt8
    · rw [if_pos (beq_iff_eq.2 h), decide_eq_true (hc.1 h)]; simp
    · rw [if_neg (fun e => h (beq_iff_eq.1 e)), decide_eq_false (fun e => h (hc.2 e)), Bool.false_or, ← ih]
      have := Go.Lib.indexByte_ge r b.toNat.toUInt8
      split
      · rename_i g; have := beq_iff_eq.1 g; omega
      · rename_i g; have : ¬ Go.Lib.indexByte r b.toNat.toUInt8 = -1 := fun e => g (beq_iff_eq.2 e); omega
theorem ixOf_nn (s : Bytes) (b : Int) (h0 : 0 ≤ b) (h1 : b < 256) : decide (0 ≤ ixOf s b) = hasB s b := by
  rw [Bool.eq_iff_iff, decide_eq_true_eq]; exact ixOf_iff s b h0 h1

def tok_s : List AV → List Ob → Br
  | [.int .u8 b], [] => .ite (decide (0 ≤ b) && decide (b < 256)) (.ret (.bool (isTok b)) []) .fail
  | _, _ => .fail
theorem isTokB_okQ : Sound Kx 186 tok_s := isTokB_ok.of fun args objs r h => by
  unfold tok_s at h; split at h
  · rename_i b
    obtain ⟨h1, h2⟩ := ite_some h
    simp only [Bool.and_eq_true, decide_eq_true_eq] at h1
    rw [← h2]
    show (isTokB_br b).val = _
    unfold isTokB_br isTok
    rw [ixOf_nn _ _ h1.1 h1.2]
    unfold hasB tokSet
    cases isLow b <;> cases isUp b <;> cases isDig b <;> cases decide (b = 96) <;> simp only [Br.val, Bool.true_or, Bool.false_or]
  · cases h

theorem set_at {l r : List Int} {i a : Int} (h : At l i (a :: r)) (b : Int) : At (l.set i.toNat b) i (b :: r) := by
  obtain ⟨p, rfl, rfl⟩ := h; exact ⟨p, by simp, rfl⟩
theorem set_self {l r : List Int} {i a : Int} (h : At l i (a :: r)) : l.set i.toNat a = l := by
  obtain ⟨p, rfl, rfl⟩ := h; simp
theorem ifold_loop (m : Int) (k : List Int → Option Rs) : ∀ (r l : List Int) (i : Int) (n : Nat), At l i r → r.length < n → m = (l.length : Int) → l.length ≤ 4611686018427387904 → (∀ b ∈ r, 0 ≤ b ∧ b < 256) →
    ifold_F3 n m i l k = k (l.take i.toNat ++ r.map lowI) := by
  intro r; induction r with
  | nil =>
    intro l i n h hn hm hl hb; obtain ⟨n, rfl⟩ := fuel hn
    subst hm
    unfold ifold_F3 ifold_T3; simp only [h.dge, cond_false, List.map_nil]
    congr 1; exact h.take.symm
  | cons a r ih =>
    intro l i n h hn hm hl hb; obtain ⟨n, rfl⟩ := fuel hn
    subst hm
    have ha := hb a (List.mem_cons_self ..)
    unfold ifold_F3 ifold_T3; simp only [h.dlt, h.dnn, h.get, cond_true, h.next hl, List.map_cons]
    have key : ∀ b, ifold_F3 n (l.length : Int) (i + 1) (l.set i.toNat b) k = k (l.take i.toNat ++ b :: r.map lowI) := by
      intro b
      have h' := set_at h b
      rw [ih _ (i + 1) n h'.step (by simp at hn; omega) (by simp) (by simpa using hl) (fun c hc => hb c (List.mem_cons_of_mem _ hc))]
      congr 1
      obtain ⟨p, rfl, rfl⟩ := h
      have e : ((p.length : Int) + 1).toNat = p.length + 1 := by omega
      simp only [Int.toNat_natCast, set_mid, e]
      rw [List.take_append, List.take_append]
      simp [List.take_of_length_le]
    unfold lowI
    cases hu : isUp a
    · simp only [cond_false]
      have := key a
      rw [set_self h] at this
      rw [this]; rfl
    · simp only [cond_true]
      unfold isUp at hu
      simp only [Bool.and_eq_true, decide_eq_true_eq] at hu
      rw [w8 (by omega) (by omega), key]; rfl
theorem bytesOf_len (s : Bytes) : (bytesOf s).length = s.length := by simp [bytesOf]
theorem bytesOf_in (s : Bytes) : ∀ b ∈ bytesOf s, 0 ≤ b ∧ b < 256 := by
  intro b hb
  simp only [bytesOf, List.mem_map] at hb
  obtain ⟨c, _, rfl⟩ := hb
  exact ⟨by omega, by have := c.toNat_lt; omega⟩
theorem foldP_len (s : Bytes) : (foldP s).length = s.length := by simp [foldP, ofBytes, bytesOf]
def t1_s (p : Bytes → AV) : List AV → List Ob → Br
  | [.str s], [] => .ite (isM s) (.ret (p s) []) .fail
  | _, _ => .fail
theorem of_t1 {n : Nat} {s : List AV → List Ob → Br} (hs : Sound Kx n s) {p : Bytes → AV} (h : ∀ x, isM x = true → (s [.str x] []).val = some (p x, [])) : Sound Kx n (t1_s p) := hs.of fun args objs r hv => by
  unfold t1_s at hv
  split at hv
  · obtain ⟨h1, h2⟩ := ite_some hv
    rw [h _ h1]; exact h2
  · cases hv
theorem of_u1 {n : Nat} {p : Bytes → AV} {sOf : (Bytes → Br) → List AV → List Ob → Br} (hs : Sound Kx n (sOf fun s => .ite (isM s) (.ret (p s) []) .fail)) (he : ∀ f x, sOf f [.str x] [] = f x) : Sound Kx n (t1_s p) :=
  of_t1 hs fun x hx => by rw [he]; simp only [Br.val, hx]
theorem ifold_okQ : Sound Kx 107 (t1_s fun s => .str (foldP s)) := by
  refine of_u1 (ifold_okOf (fun s => s.length + 1) fun s r h => ?_) fun _ _ => rfl
  obtain ⟨h1, h2⟩ := ite_some h
  unfold ifold_run
  rw [ifold_loop _ _ _ _ 0 _ (At.start _) (by rw [bytesOf_len]; omega) rfl (by rw [bytesOf_len]; exact isM_le h1) (bytesOf_in s), ← h2]
  rfl
theorem sfold_loop (k : List Int → Option Rs) : ∀ (r l : List Int) (i : Int) (n : Nat), At l i r → r.length < n → l.length ≤ 4611686018427387904 → (∀ b ∈ r, 0 ≤ b ∧ b < 256) →
    sfold_F3 n i l k = k (l.take i.toNat ++ r.map lowI) := by
  intro r; induction r with
  | nil =>
    intro l i n h hn hl hb; obtain ⟨n, rfl⟩ := fuel hn
    unfold sfold_F3 sfold_T3; simp only [h.dge, cond_false, List.map_nil]
    congr 1; exact h.take.symm
  | cons a r ih =>
    intro l i n h hn hl hb; obtain ⟨n, rfl⟩ := fuel hn
    have ha := hb a (List.mem_cons_self ..)
    have e0 : (decide (0 ≤ a) && decide (a < 256)) = true := by simp only [Bool.and_eq_true, decide_eq_true_eq]; exact ha
    unfold sfold_F3 sfold_T3; simp only [h.dlt, h.dnn, h.get, cond_true, h.next hl, List.map_cons, e0]
    have h' := set_at h (lowI a)
    rw [ih _ (i + 1) n h'.step (by simp at hn; omega) (by simpa using hl) (fun c hc => hb c (List.mem_cons_of_mem _ hc))]
    congr 1
    obtain ⟨p, rfl, rfl⟩ := h
    have e : ((p.length : Int) + 1).toNat = p.length + 1 := by omega
    simp only [Int.toNat_natCast, set_mid, e]
    rw [List.take_append, List.take_append]
    simp [List.take_of_length_le]
theorem sfold_okQ : Sound Kx 106 (t1_s fun s => .str (foldP s)) := by
  refine of_u1 (sfold_okOf (fun s => s.length + 1) fun s r h => ?_) fun _ _ => rfl
  obtain ⟨h1, h2⟩ := ite_some h
  unfold sfold_run
  rw [sfold_loop _ _ _ 0 _ (At.start _) (by rw [bytesOf_len]; omega) (by rw [bytesOf_len]; exact isM_le h1) (bytesOf_in s), ← h2]
  rfl

theorem cut1 (a : UInt8) (r : Bytes) : cut (a :: r) 1 (((a :: r).length : Nat) : Int) = r := by simp [cut]
theorem itrim1_loop (k : Bytes → Option Rs) : ∀ (s : Bytes) (n : Nat), s.length < n → itrim_F1 n s k = k (trimL s) := by
  intro s; induction s with
  | nil => intro n hn; obtain ⟨n, rfl⟩ := fuel hn; unfold itrim_F1 itrim_T1; rfl
  | cons a r ih =>
    intro n hn; obtain ⟨n, rfl⟩ := fuel hn
    have e1 : decide (a :: r = ([] : Bytes)) = false := rfl
    have e2 : decide ((0 : Int) < (((a :: r).length : Nat) : Int)) = true := decide_eq_true (by simp only [List.length_cons]; omega)
    have e3 : decide ((1 : Int) ≤ (((a :: r).length : Nat) : Int)) = true := decide_eq_true (by simp only [List.length_cons]; omega)
    have e4 : strAt (a :: r) 0 = by8 a := rfl
    unfold itrim_F1 itrim_T1
    simp only [e1, e2, e3, e4, Bool.not_false, cond_true, cut1]
    rw [ih n (by simp at hn; omega)]
    unfold trimL
    rw [List.dropWhile_cons]
    show (bif sp8 a then _ else _) = _
    cases sp8 a <;> rfl
theorem itrim3_loop (k : Bytes → Option Rs) : ∀ (q : Bytes) (n : Nat), q.length < n → q.length ≤ 4611686018427387904 → itrim_F3 n q.reverse k = k (trimR q.reverse) := by
  intro q; induction q with
  | nil => intro n hn _; obtain ⟨n, rfl⟩ := fuel hn; unfold itrim_F3 itrim_T3; rfl
  | cons a q ih =>
    intro n hn hl; obtain ⟨n, rfl⟩ := fuel hn
    have e1 : decide ((a :: q).reverse = ([] : Bytes)) = false := decide_eq_false (by simp)
    have e0 : wk64 ((((a :: q).reverse.length : Nat) : Int) - 1) = (q.length : Int) := by rw [w64 (by simp only [List.length_reverse, List.length_cons]; omega) (by simp only [List.length_reverse, List.length_cons] at hl ⊢; omega)]; simp
    have e2 : decide ((0 : Int) ≤ (q.length : Int)) = true := by simp
    have e3 : decide ((q.length : Int) < (((a :: q).reverse.length : Nat) : Int)) = true := decide_eq_true (by simp only [List.length_reverse, List.length_cons]; omega)
    have e5 : decide ((q.length : Int) ≤ (((a :: q).reverse.length : Nat) : Int)) = true := decide_eq_true (by simp only [List.length_reverse, List.length_cons]; omega)
    have e4 : strAt (a :: q).reverse (q.length : Int) = by8 a := by simp [strAt, by8, List.getD_eq_getElem?_getD]
    have e6 : cut (a :: q).reverse 0 (q.length : Int) = q.reverse := by simp [cut]
    unfold itrim_F3 itrim_T3
    simp only [e0, e1, e2, e3, e4, e5, e6, Bool.not_false, cond_true]
    rw [ih n (by simp at hn; omega) (by simp at hl; omega)]
    unfold trimR
    rw [List.reverse_reverse, List.reverse_reverse, List.dropWhile_cons]
    show (bif sp8 a then _ else _) = _
    cases sp8 a <;> simp
theorem trimL_len (s : Bytes) : (trimL s).length ≤ s.length := List.Sublist.length_le (List.dropWhile_sublist _)
theorem trimR_len (s : Bytes) : (trimR s).length ≤ s.length := by
  unfold trimR; rw [List.length_reverse]; exact Nat.le_trans (List.Sublist.length_le (List.dropWhile_sublist _)) (by simp)
theorem itrim_okQ : Sound Kx 147 (t1_s fun s => .str (trimP s)) := by
  refine of_u1 (itrim_okOf (fun s => s.length + 1) fun s r h => ?_) fun _ _ => rfl
  obtain ⟨h1, h2⟩ := ite_some h
  unfold itrim_run
  have hl := trimL_len s
  have := isM_le h1
  rw [itrim1_loop _ s _ (by omega)]
  have := itrim3_loop (fun x3x0x0 => some (AV.str x3x0x0, ([] : List Ob))) (trimL s).reverse (s.length + 1) (by simp; omega) (by simp; omega)
  rw [List.reverse_reverse] at this
  rw [this, ← h2]
  rfl
theorem strim2_loop (l : Bytes) (hl : l.length ≤ 4611686018427387904) (k : Bytes → Int → Option Rs) : ∀ (r : Bytes) (i : Int) (n : Nat), At l i r → r.length < n → ∃ j, At l j (trimL r) ∧ strim_F2 n l i k = k l j := by
  intro r; induction r with
  | nil => intro i n h hn; obtain ⟨n, rfl⟩ := fuel hn; refine ⟨i, h, ?_⟩; unfold strim_F2 strim_T2; simp only [h.dge, cond_false]
  | cons a r ih =>
    intro i n h hn; obtain ⟨n, rfl⟩ := fuel hn
    obtain ⟨j, hj, hs⟩ := ih (i + 1) n h.step (by simp at hn; omega)
    unfold trimL
    rw [List.dropWhile_cons]
    unfold strim_F2 strim_T2
    simp only [h.dlt, h.dnn, h.str, cond_true, h.next hl, hs]
    have e : isSp (by8 a) = sp8 a := rfl
    rw [e]
    cases sp8 a
    · exact ⟨i, h, rfl⟩
    · exact ⟨j, hj, rfl⟩
theorem strim5_loop (l p : Bytes) (hl : l.length ≤ 4611686018427387904) (k : Bytes → Int → Int → Option Rs) : ∀ (q t : Bytes) (n : Nat), l = p ++ q.reverse ++ t → q.length < n → strim_F5 n l (p.length : Int) ((p.length : Int) + q.length) k = k l (p.length : Int) ((p.length : Int) + (trimR q.reverse).length) := by
  intro q; induction q with
  | nil =>
    intro t n h hn; obtain ⟨n, rfl⟩ := fuel hn
    have e : decide ((p.length : Int) < (p.length : Int) + (([] : Bytes).length : Int)) = false := by simp
    unfold strim_F5 strim_T5; simp only [e, cond_false]; rfl
  | cons a q ih =>
    intro t n h hn; obtain ⟨n, rfl⟩ := fuel hn
    have hlen : l.length = p.length + q.length + 1 + t.length := by rw [h]; simp; omega
    have e1 : decide ((p.length : Int) < (p.length : Int) + (((a :: q).length : Nat) : Int)) = true := by simp; omega
    have e0 : wk64 ((p.length : Int) + (((a :: q).length : Nat) : Int) - 1) = (p.length : Int) + q.length := by rw [w64 (by simp; omega) (by simp; omega)]; simp; omega
    have e2 : decide ((0 : Int) ≤ (p.length : Int) + q.length) = true := by simp; omega
    have e3 : decide ((p.length : Int) + q.length < (l.length : Int)) = true := by rw [hlen]; simp; omega
    have e4 : strAt l ((p.length : Int) + q.length) = by8 a := by
      have e5 : ((p.length : Int) + (q.length : Int)).toNat = (p ++ q.reverse).length := by simp; omega
      unfold strAt by8
      rw [e5, h]
      have : p ++ (a :: q).reverse ++ t = (p ++ q.reverse) ++ a :: t := by simp
      rw [this, getD_mid]
    unfold strim_F5 strim_T5
    simp only [e0, e1, e2, e3, e4, cond_true]
    rw [ih (a :: t) n (by rw [h]; simp) (by simp at hn; omega)]
    unfold trimR
    rw [List.reverse_reverse, List.reverse_reverse, List.dropWhile_cons]
    show (bif sp8 a then _ else _) = _
    cases sp8 a <;> simp
theorem cut_mid (p m t : Bytes) : cut (p ++ m ++ t) (p.length : Int) ((p.length : Int) + m.length) = m := by
  unfold cut
  have e1 : ((p.length : Int) + (m.length : Int)).toNat = p.length + m.length := by omega
  rw [e1, Int.toNat_natCast, List.append_assoc, List.take_append, List.drop_append]
  simp
theorem trimR_pre (s : Bytes) : ∃ t, s = trimR s ++ t := by
  refine ⟨(s.reverse.takeWhile sp8).reverse, ?_⟩
  unfold trimR
  rw [← List.reverse_append, List.takeWhile_append_dropWhile, List.reverse_reverse]
theorem strim_okQ : Sound Kx 144 (t1_s fun s => .str (trimP s)) := by
  refine of_u1 (strim_okOf (fun s => s.length + 1) fun s r h => ?_) fun _ _ => rfl
  obtain ⟨h1, h2⟩ := ite_some h
  have hl := isM_le h1
  unfold strim_run
  obtain ⟨j, ⟨p, hp, rfl⟩, hs⟩ := strim2_loop s hl (fun x2x0x0 x2x0x1 => strim_F5 (s.length + 1) x2x0x0 x2x0x1 ((List.length x2x0x0) : Int) (fun x5x0x0 x5x0x1 x5x0x2 => bif decide ((0 : Int) ≤ x5x0x1) then (bif decide (x5x0x1 ≤ x5x0x2) then (bif decide (x5x0x2 ≤ ((List.length x5x0x0) : Int)) then some (AV.str (cut x5x0x0 x5x0x1 x5x0x2), ([] : List Ob)) else none) else none) else none)) s 0 (s.length + 1) (At.start s) (by omega)
  rw [hs]
  have hlen : (s.length : Int) = (p.length : Int) + ((trimL s).reverse.length : Int) := by
    have := congrArg List.length hp
    simp only [List.length_append] at this
    rw [List.length_reverse]; omega
  have hle := trimL_len s
  rw [hlen, strim5_loop s p hl _ (trimL s).reverse [] _ (by simpa using hp) (by simp; omega), List.reverse_reverse]
  obtain ⟨t, ht⟩ := trimR_pre (trimL s)
  have hc := cut_mid p (trimR (trimL s)) t
  rw [List.append_assoc, ← ht, ← hp] at hc
  have hr := trimR_len (trimL s)
  have e1 : decide ((0 : Int) ≤ (p.length : Int)) = true := by simp
  have e2 : decide ((p.length : Int) ≤ (p.length : Int) + ((trimR (trimL s)).length : Int)) = true := decide_eq_true (by omega)
  have e3 : decide ((p.length : Int) + ((trimR (trimL s)).length : Int) ≤ (s.length : Int)) = true := by rw [hlen]; simp; omega
  simp only [e1, e2, e3, cond_true, hc]
  rw [← h2]; rfl

theorem allVis_loop (l : Bytes) (hl : l.length ≤ 4611686018427387904) (k0 k1 : Option Rs) : ∀ (r : Bytes) (i : Int) (n : Nat), At l i r → r.length < n → allVis_F2 n l i k0 k1 = bif allP isVis r then k1 else k0 := by
  intro r; induction r with
  | nil => intro i n h hn; obtain ⟨n, rfl⟩ := fuel hn; unfold allVis_F2 allVis_T2; simp only [h.dge, cond_false, allP, List.all_nil, cond_true]
  | cons a r ih =>
    intro i n h hn; obtain ⟨n, rfl⟩ := fuel hn
    have hs := ih (i + 1) n h.step (by simp at hn; omega)
    unfold allVis_F2 allVis_T2; simp only [h.dlt, h.dnn, h.str, cond_true, h.next hl, hs, allP, List.all_cons]
    cases isVis (by8 a) <;> rfl
def allVis_s := allVis_sOf fun s => .ite (isM s) (.ret (.bool (allP isVis s)) []) .fail
theorem allVis_okQ : Sound Kx 95 allVis_s := by
  refine allVis_okOf (fun s => s.length + 1) fun s r h => ?_
  obtain ⟨h1, h2⟩ := ite_some h
  unfold allVis_run
  rw [allVis_loop s (isM_le h1) _ _ s 0 _ (At.start s) (by omega), ← h2]
  cases allP isVis s <;> rfl

theorem allPl_loop (l : Bytes) (hl : l.length ≤ 4611686018427387904) (k0 k1 : Option Rs) : ∀ (r : Bytes) (i : Int) (n : Nat), At l i r → r.length < n → allPl_F2 n l i k0 k1 = bif allP isPl r then k1 else k0 := by
  intro r; induction r with
  | nil => intro i n h hn; obtain ⟨n, rfl⟩ := fuel hn; unfold allPl_F2 allPl_T2; simp only [h.dge, cond_false, allP, List.all_nil, cond_true]
  | cons a r ih =>
    intro i n h hn; obtain ⟨n, rfl⟩ := fuel hn
    have hs := ih (i + 1) n h.step (by simp at hn; omega)
    unfold allPl_F2 allPl_T2; simp only [h.dlt, h.dnn, h.str, cond_true, h.next hl, hs, allP, List.all_cons]
    cases isPl (by8 a) <;> rfl
def allPl_s := allPl_sOf fun s => .ite (isM s) (.ret (.bool (allP isPl s)) []) .fail
theorem allPl_okQ : Sound Kx 95 allPl_s := by
  refine allPl_okOf (fun s => s.length + 1) fun s r h => ?_
  obtain ⟨h1, h2⟩ := ite_some h
  unfold allPl_run
  rw [allPl_loop s (isM_le h1) _ _ s 0 _ (At.start s) (by omega), ← h2]
  cases allP isPl s <;> rfl

theorem splains_loop (l : Bytes) (hl : l.length ≤ 4611686018427387904) (k0 k1 : Option Rs) : ∀ (r : Bytes) (i : Int) (n : Nat), At l i r → r.length < n → splains_F2 n l i k0 k1 = bif allP isPl r then k1 else k0 := by
  intro r; induction r with
  | nil => intro i n h hn; obtain ⟨n, rfl⟩ := fuel hn; unfold splains_F2 splains_T2; simp only [h.dge, cond_false, allP, List.all_nil, cond_true]
  | cons a r ih =>
    intro i n h hn; obtain ⟨n, rfl⟩ := fuel hn
    have hs := ih (i + 1) n h.step (by simp at hn; omega)
    unfold splains_F2 splains_T2; simp only [h.dlt, h.dnn, h.str, cond_true, h.next hl, hs, allP, List.all_cons]
    cases isPl (by8 a) <;> rfl
theorem splains_okQ : Sound Kx 143 (t1_s fun s => .bool (allP isPl s)) := by
  refine of_u1 (splains_okOf (fun s => s.length + 1) fun s r h => ?_) fun _ _ => rfl
  obtain ⟨h1, h2⟩ := ite_some h
  unfold splains_run
  rw [splains_loop s (isM_le h1) _ _ s 0 _ (At.start s) (by omega), ← h2]
  cases allP isPl s <;> rfl

theorem svis_loop (l : Bytes) (hl : l.length ≤ 4611686018427387904) (k0 k1 : Bytes → Option Rs) : ∀ (r : Bytes) (i : Int) (n : Nat), At l i r → r.length < n → svis_F2 n l i k0 k1 = bif allP isVis r then k1 l else k0 l := by
  intro r; induction r with
  | nil => intro i n h hn; obtain ⟨n, rfl⟩ := fuel hn; unfold svis_F2 svis_T2; simp only [h.dge, cond_false, allP, List.all_nil, cond_true]
  | cons a r ih =>
    intro i n h hn; obtain ⟨n, rfl⟩ := fuel hn
    have hs := ih (i + 1) n h.step (by simp at hn; omega)
    unfold svis_F2 svis_T2; simp only [h.dlt, h.dnn, h.str, cond_true, h.next hl, hs, allP, List.all_cons, isVis]
    by_cases g1 : by8 a < 33 <;> by_cases g2 : 126 < by8 a
    · have e1 : ¬ 33 ≤ by8 a := by omega
      simp only [g1, e1, decide_true, decide_false, cond_true, Bool.false_and, cond_false]
    · have e1 : ¬ 33 ≤ by8 a := by omega
      simp only [g1, e1, decide_true, decide_false, cond_true, Bool.false_and, cond_false]
    · have e1 : 33 ≤ by8 a := by omega
      have e2 : ¬ by8 a ≤ 126 := by omega
      simp only [g1, g2, e1, e2, decide_true, decide_false, cond_true, Bool.false_and, Bool.and_false, cond_false]
    · have e1 : 33 ≤ by8 a := by omega
      have e2 : by8 a ≤ 126 := by omega
      simp only [g1, g2, e1, e2, decide_true, decide_false, cond_true, Bool.true_and, cond_false]
theorem svis_okQ : Sound Kx 157 (t1_s fun s => .bool (allP isVis s && decide ((0 : Int) < (s.length : Int)))) := by
  refine of_u1 (svis_okOf (fun s => s.length + 1) fun s r h => ?_) fun _ _ => rfl
  obtain ⟨h1, h2⟩ := ite_some h
  unfold svis_run
  rw [svis_loop s (isM_le h1) _ _ s 0 _ (At.start s) (by omega), ← h2]
  cases allP isVis s <;> rfl

end
end Go.Proofs.YtmmjaomfonknnaaGreatDoor.Ev

namespace Go.Proofs.YtmmjaomfonknnaaGreatDoor.Ev
open Go Go.RowKit
set_option linter.unusedVariables false
set_option linter.unusedSimpArgs false
noncomputable section

def isFree_O : Opt := { cons := [], keepNil := false, mutF := [], live := [], outs := [] }
def isFree_C : Spec := (add (add (add noS 219 (pr_s isLow)) 152 (pr_s isUp)) 171 (pr_s isDig))
theorem isFree_C_ok : ∀ fn, Sound Kx fn (isFree_C fn) := (sound_add (sound_add (sound_add (sound_no Kx) isLower_okQ) isUpper_okQ) isDigit_okQ)
def isFree_br (b : Int) : Br := (Br.ite (isLow b) (Br.ret (AV.bool true) ([] : List Ob)) (Br.ite (isUp b) (Br.ret (AV.bool true) ([] : List Ob)) (Br.ite (isDig b) (Br.ret (AV.bool true) ([] : List Ob)) (Br.ite (decide (b = (45 : Int))) (Br.ret (AV.bool true) ([] : List Ob)) (Br.ite (decide (b = (46 : Int))) (Br.ret (AV.bool true) ([] : List Ob)) (Br.ite (decide (b = (95 : Int))) (Br.ret (AV.bool true) ([] : List Ob)) (Br.ret (AV.bool (decide (b = (126 : Int)))) ([] : List Ob))))))))
theorem isFree_run (b : Int) : runF Kx isFree_C isFree_O 1 Tryz.f259 ([.int .u8 b]) ([]) = (isFree_br b).val := by kernel_rfl
def isFree_s : List AV → List Ob → Br
  | [.int .u8 b], [] => isFree_br b
  | _, _ => .fail
theorem isFree_ok : Sound Kx 259 isFree_s := by
  refine sound_run (C := isFree_C) (O := isFree_O) KOk isFree_C_ok Tryz.func259 (by kernel_rfl) fun args objs res os h => ?_
  unfold isFree_s at h
  split at h
  · exact ⟨1, (isFree_run _).trans h⟩
  · cases h

def hexOf_O : Opt := { cons := [], keepNil := false, mutF := [], live := [], outs := [] }
def hexOf_C : Spec := (add noS 171 (pr_s isDig))
theorem hexOf_C_ok : ∀ fn, Sound Kx fn (hexOf_C fn) := (sound_add (sound_no Kx) isDigit_okQ)
def hexOf_br (b : Int) : Br := (Br.ite (isDig b) (Br.ret (AV.int .i64 (wk64 (wk8 (b - (48 : Int))))) ([] : List Ob)) (Br.ite (decide ((97 : Int) ≤ b)) (Br.ite (decide (b ≤ (102 : Int))) (Br.ret (AV.int .i64 (wk64 ((wk64 (wk8 (b - (97 : Int)))) + (10 : Int)))) ([] : List Ob)) (Br.ite (decide ((65 : Int) ≤ b)) (Br.ite (decide (b ≤ (70 : Int))) (Br.ret (AV.int .i64 (wk64 ((wk64 (wk8 (b - (65 : Int)))) + (10 : Int)))) ([] : List Ob)) (Br.ret (AV.int .i64 (-(1 : Int))) ([] : List Ob))) (Br.ret (AV.int .i64 (-(1 : Int))) ([] : List Ob)))) (Br.ite (decide ((65 : Int) ≤ b)) (Br.ite (decide (b ≤ (70 : Int))) (Br.ret (AV.int .i64 (wk64 ((wk64 (wk8 (b - (65 : Int)))) + (10 : Int)))) ([] : List Ob)) (Br.ret (AV.int .i64 (-(1 : Int))) ([] : List Ob))) (Br.ret (AV.int .i64 (-(1 : Int))) ([] : List Ob)))))
theorem hexOf_run (b : Int) : runF Kx hexOf_C hexOf_O 1 Tryz.f258 ([.int .u8 b]) ([]) = (hexOf_br b).val := by kernel_rfl
def hexOf_s : List AV → List Ob → Br
  | [.int .u8 b], [] => hexOf_br b
  | _, _ => .fail
theorem hexOf_ok : Sound Kx 258 hexOf_s := by
  refine sound_run (C := hexOf_C) (O := hexOf_O) KOk hexOf_C_ok Tryz.func258 (by kernel_rfl) fun args objs res os h => ?_
  unfold hexOf_s at h
  split at h
  · exact ⟨1, (hexOf_run _).trans h⟩
  · cases h

def sfree_O : Opt := { cons := [], keepNil := false, mutF := [], live := [], outs := [] }
def sfree_C : Spec := (add (add (add noS 151 low_s) 125 (pr_s isDig)) 218 (has_s hasB))
theorem sfree_C_ok : ∀ fn, Sound Kx fn (sfree_C fn) := (sound_add (sound_add (sound_add (sound_no Kx) slower_okQ) sdigit_okQ) shas_okQ)
def sfree_br (b : Int) : Br := (Br.ite ((decide ((0 : Int) ≤ b)) && (decide (b < (256 : Int)))) (Br.ite (decide ((97 : Int) ≤ (lowI b))) (Br.ite (decide ((lowI b) ≤ (122 : Int))) (Br.ret (AV.bool true) ([] : List Ob)) (Br.ite (isDig b) (Br.ret (AV.bool true) ([] : List Ob)) (Br.ret (AV.bool (hasB ((45 : UInt8) :: ((46 : UInt8) :: ((95 : UInt8) :: ((126 : UInt8) :: ([] : Bytes))))) b)) ([] : List Ob)))) (Br.ite (isDig b) (Br.ret (AV.bool true) ([] : List Ob)) (Br.ret (AV.bool (hasB ((45 : UInt8) :: ((46 : UInt8) :: ((95 : UInt8) :: ((126 : UInt8) :: ([] : Bytes))))) b)) ([] : List Ob)))) Br.fail)
theorem sfree_run (b : Int) : runF Kx sfree_C sfree_O 1 Tryz.f250 ([.int .u8 b]) ([]) = (sfree_br b).val := by kernel_rfl
def sfree_s : List AV → List Ob → Br
  | [.int .u8 b], [] => sfree_br b
  | _, _ => .fail
theorem sfree_ok : Sound Kx 250 sfree_s := by
  refine sound_run (C := sfree_C) (O := sfree_O) KOk sfree_C_ok Tryz.func250 (by kernel_rfl) fun args objs res os h => ?_
  unfold sfree_s at h
  split at h
  · exact ⟨1, (sfree_run _).trans h⟩
  · cases h

def supper_O : Opt := { cons := [], keepNil := false, mutF := [], live := [], outs := [] }
def supper_br (b : Int) : Br := (Br.ite (decide ((97 : Int) ≤ b)) (Br.ite (decide (b ≤ (122 : Int))) (Br.ret (AV.int .u8 (wk8 (b - (32 : Int)))) ([] : List Ob)) (Br.ret (AV.int .u8 b) ([] : List Ob))) (Br.ret (AV.int .u8 b) ([] : List Ob)))
theorem supper_run (b : Int) : runF Kx noS supper_O 1 Tryz.f251 ([.int .u8 b]) ([]) = (supper_br b).val := by kernel_rfl
def supper_s : List AV → List Ob → Br
  | [.int .u8 b], [] => supper_br b
  | _, _ => .fail
theorem supper_ok : Sound Kx 251 supper_s := by
  refine sound_run (C := noS) (O := supper_O) KOk (sound_no Kx) Tryz.func251 (by kernel_rfl) fun args objs res os h => ?_
  unfold supper_s at h
  split at h
  · exact ⟨1, (supper_run _).trans h⟩
  · cases h

def hostB_O : Opt := { cons := [], keepNil := false, mutF := [], live := [], outs := [] }
def hostB_C : Spec := (add (add noS 219 (pr_s isLow)) 171 (pr_s isDig))
theorem hostB_C_ok : ∀ fn, Sound Kx fn (hostB_C fn) := (sound_add (sound_add (sound_no Kx) isLower_okQ) isDigit_okQ)
def hostB_br (b : Int) : Br := (Br.ite (isLow b) (Br.ret (AV.bool true) ([] : List Ob)) (Br.ite (isDig b) (Br.ret (AV.bool true) ([] : List Ob)) (Br.ite (decide (b = (45 : Int))) (Br.ret (AV.bool true) ([] : List Ob)) (Br.ret (AV.bool (decide (b = (46 : Int)))) ([] : List Ob)))))
theorem hostB_run (b : Int) : runF Kx hostB_C hostB_O 1 Tryz.f260 ([.int .u8 b]) ([]) = (hostB_br b).val := by kernel_rfl
def hostB_s : List AV → List Ob → Br
  | [.int .u8 b], [] => hostB_br b
  | _, _ => .fail
theorem hostB_ok : Sound Kx 260 hostB_s := by
  refine sound_run (C := hostB_C) (O := hostB_O) KOk hostB_C_ok Tryz.func260 (by kernel_rfl) fun args objs res os h => ?_
  unfold hostB_s at h
  split at h
  · exact ⟨1, (hostB_run _).trans h⟩
  · cases h

def sReadHex_O : Opt := { cons := [], keepNil := false, mutF := [], live := [(5, [0, 4, 5])], outs := [(5, [2, 3, 4])] }
def sReadHex_C : Spec := (add (add noS 151 low_s) 125 (pr_s isDig))
theorem sReadHex_C_ok : ∀ fn, Sound Kx fn (sReadHex_C fn) := (sound_add (sound_add (sound_no Kx) slower_okQ) sdigit_okQ)
def sReadHex_T5 (v5x0 : Bytes) (v5x1 : Int) (v5x2 : Int) (kR5 : Bytes → Int → Int → Option Rs) (k5e0 : Int → Option Rs) (k5e1 : Int → Option Rs) : Option Rs :=
  (bif (decide (v5x2 < ((List.length v5x0) : Int))) then (bif (decide ((0 : Int) ≤ v5x2)) then (bif (decide (v5x2 < ((List.length v5x0) : Int))) then (bif ((decide ((0 : Int) ≤ (strAt v5x0 v5x2))) && (decide ((strAt v5x0 v5x2) < (256 : Int)))) then (bif (isDig (lowI (strAt v5x0 v5x2))) then (kR5 v5x0 (wk64 ((wk64 (v5x1 * (16 : Int))) + (wk64 (wk8 ((lowI (strAt v5x0 v5x2)) - (48 : Int)))))) (wk64 (v5x2 + (1 : Int)))) else (bif (decide ((97 : Int) ≤ (lowI (strAt v5x0 v5x2)))) then (bif (decide ((lowI (strAt v5x0 v5x2)) ≤ (102 : Int))) then (kR5 v5x0 (wk64 ((wk64 ((wk64 (v5x1 * (16 : Int))) + (wk64 (wk8 ((lowI (strAt v5x0 v5x2)) - (97 : Int)))))) + (10 : Int))) (wk64 (v5x2 + (1 : Int)))) else (k5e0 v5x1)) else (k5e0 v5x1))) else (none)) else (none)) else (none)) else (k5e1 v5x1))
def sReadHex_F5 : Nat → Bytes → Int → Int → (Int → Option Rs) → (Int → Option Rs) → Option Rs
  | 0, _, _, _, _, _ => none
  | n + 1, v5x0, v5x1, v5x2, k5e0, k5e1 => sReadHex_T5 v5x0 v5x1 v5x2 (fun v5x0 v5x1 v5x2 => sReadHex_F5 n v5x0 v5x1 v5x2 k5e0 k5e1) k5e0 k5e1
def sReadHex_h5 (v5x0 : Bytes) (v5x1 : Int) (v5x2 : Int) : St := (St.mk (slots 0 49 [(0, (AV.str v5x0)), (4, (AV.int .i64 v5x1)), (5, (AV.int .i64 v5x2))]) ([] : (List (Nat × (Ob)))))
def sReadHex_x5e0 (x5x0x0 : Int) : St := (St.mk (slots 0 49 [(2, (AV.int .i64 (0 : Int))), (3, (AV.bool false)), (4, (AV.int .i64 x5x0x0))]) ([] : (List (Nat × (Ob)))))
def sReadHex_x5e1 (x5x1x0 : Int) : St := (St.mk (slots 0 49 [(4, (AV.int .i64 x5x1x0))]) ([] : (List (Nat × (Ob)))))
noncomputable def sReadHex_b5 : Code := codeAt (codeOf Tryz.f249) [1, 1, 1, 0, 1, 0, 0]
def sReadHex_L5 (N : Nat) (st : St) (k : Ex → St → Option Rs) : Option Rs := match takeF [0, 4, 5] 0 49 st.env, st.objs with
  | some [.str v5x0, .int .i64 v5x1, .int .i64 v5x2], [] => sReadHex_F5 N v5x0 v5x1 v5x2 (fun x5x0x0 => k Ex.ret (sReadHex_x5e0 x5x0x0)) (fun x5x1x0 => k (Ex.exit (0 : Nat)) (sReadHex_x5e1 x5x1x0))
  | _, _ => none
def sReadHex_L (N : Nat) : Lam := fun j st k => match j with
  | 5 => sReadHex_L5 N st k
  | _ => none
theorem sReadHex_round5 (N : Nat) (again : St → Option Rs) (k : Ex → St → Option Rs) (wv5x0 : Bytes) (wv5x1 : Int) (wv5x2 : Int) (v5x0 : Bytes) (v5x1 : Int) (v5x2 : Int) :
    roundK 0 (fun st k => evL Kx sReadHex_C sReadHex_O 0 (sReadHex_L N) sReadHex_b5 st k) (sReadHex_h5 wv5x0 wv5x1 wv5x2).env again (sReadHex_h5 v5x0 v5x1 v5x2) (outK sReadHex_O 0 sReadHex_b5 k) = sReadHex_T5 v5x0 v5x1 v5x2 (fun v5x0 v5x1 v5x2 => again (sReadHex_h5 v5x0 v5x1 v5x2)) (fun x5x0x0 => k Ex.ret (sReadHex_x5e0 x5x0x0)) (fun x5x1x0 => k (Ex.exit (0 : Nat)) (sReadHex_x5e1 x5x1x0)) := by kernel_rfl
theorem sReadHex_loop5 (N : Nat) (k : Ex → St → Option Rs) (wv5x0 : Bytes) (wv5x1 : Int) (wv5x2 : Int) : ∀ (n : Nat) (v5x0 : Bytes) (v5x1 : Int) (v5x2 : Int),
    loopK 0 (fun st k => evL Kx sReadHex_C sReadHex_O 0 (sReadHex_L N) sReadHex_b5 st k) (sReadHex_h5 wv5x0 wv5x1 wv5x2).env n (sReadHex_h5 v5x0 v5x1 v5x2) (outK sReadHex_O 0 sReadHex_b5 k) = sReadHex_F5 n v5x0 v5x1 v5x2 (fun x5x0x0 => k Ex.ret (sReadHex_x5e0 x5x0x0)) (fun x5x1x0 => k (Ex.exit (0 : Nat)) (sReadHex_x5e1 x5x1x0))
  | 0, _, _, _ => rfl
  | n + 1, v5x0, v5x1, v5x2 => by
    rw [loopK_succ, sReadHex_round5]
    simp only [sReadHex_loop5 N k wv5x0 wv5x1 wv5x2 n]
    rfl
theorem sReadHex_at5 (N : Nat) {s : St} {k : Ex → St → Option Rs} {r : Rs} (h : sReadHex_L5 N s k = some r) : ∃ (v5x0 : Bytes) (v5x1 : Int) (v5x2 : Int), s = (sReadHex_h5 v5x0 v5x1 v5x2) ∧ sReadHex_F5 N v5x0 v5x1 v5x2 (fun x5x0x0 => k Ex.ret (sReadHex_x5e0 x5x0x0)) (fun x5x1x0 => k (Ex.exit (0 : Nat)) (sReadHex_x5e1 x5x1x0)) = some r := by
  cases s with | mk env objs =>
  unfold sReadHex_L5 at h
  split at h
  · rename_i e1 e2
    have e3 := takeF_slots _ _ _ _ e1
    simp only at e2 e3
    subst e2 e3
    exact ⟨_, _, _, rfl, h⟩
  · cases h
theorem sReadHex_in5 : loops sReadHex_b5 = [] := by kernel_rfl
theorem sReadHex_lid5 : lid sReadHex_b5 = 5 := by kernel_rfl
theorem sReadHex_ok5 (N : Nat) : OkL Kx sReadHex_C sReadHex_O 0 N (sReadHex_L N) sReadHex_b5 := by
  intro s k k' r hk h
  rw [sReadHex_lid5] at h
  obtain ⟨v5x0, v5x1, v5x2, rfl, h⟩ := sReadHex_at5 N h
  refine loopL (Λ := sReadHex_L N) sReadHex_b5 ?_ N hk ((sReadHex_loop5 N k v5x0 v5x1 v5x2 N v5x0 v5x1 v5x2).trans h)
  rw [sReadHex_in5]
  exact fun _ h => nomatch h
def sReadHex_run (N : Nat) (s : Bytes) : Option Rs := (bif (decide (((List.length s) : Int) = (0 : Int))) then (some ((AV.tup ((AV.int .i64 (0 : Int)) :: ((AV.bool false) :: ([] : List AV)))), ([] : List Ob))) else (bif (decide ((7 : Int) < ((List.length s) : Int))) then (some ((AV.tup ((AV.int .i64 (0 : Int)) :: ((AV.bool false) :: ([] : List AV)))), ([] : List Ob))) else (sReadHex_F5 N s (0 : Int) (0 : Int) (fun x5x0x0 => (some ((AV.tup ((AV.int .i64 (0 : Int)) :: ((AV.bool false) :: ([] : List AV)))), ([] : List Ob)))) (fun x5x1x0 => (some ((AV.tup ((AV.int .i64 x5x1x0) :: ((AV.bool true) :: ([] : List AV)))), ([] : List Ob)))))))
theorem sReadHex_runL (N : Nat) (s : Bytes) : runL Kx sReadHex_C sReadHex_O (sReadHex_L N) Tryz.f249 ([.str s]) ([]) = sReadHex_run N s := by kernel_rfl
theorem sReadHex_body : Tryz.f249.body = some (codeOf Tryz.f249) := by kernel_rfl
theorem sReadHex_loops : loops (codeOf Tryz.f249) = [sReadHex_b5] := by kernel_rfl
theorem sReadHex_ev (N : Nat) (s : Bytes) {res_ : Rs} (hyp_ : sReadHex_run N s = some res_) : ∃ n_, runF Kx sReadHex_C sReadHex_O n_ Tryz.f249 ([.str s]) ([]) = some res_ :=
  ⟨N, runL_runF sReadHex_body (by rw [sReadHex_loops]; exact List.forall_mem_cons.2 ⟨sReadHex_ok5 N, fun _ h => nomatch h⟩) ((sReadHex_runL N s).trans hyp_)⟩
def sReadHex_sOf (φ : Bytes → Br) : List AV → List Ob → Br
  | [.str s], [] => φ s
  | _, _ => .fail
theorem sReadHex_okOf {φ : Bytes → Br} (fu : Bytes → Nat) (hv : ∀ s res_, (φ s).val = some res_ → sReadHex_run (fu s) s = some res_) : Sound Kx 249 (sReadHex_sOf φ) := by
  refine sound_run (C := sReadHex_C) (O := sReadHex_O) KOk sReadHex_C_ok Tryz.func249 (by kernel_rfl) fun args objs res os h => ?_
  unfold sReadHex_sOf at h
  split at h
  · exact sReadHex_ev _ _ (hv _ _ h)
  · cases h

def ssplit_O : Opt := { cons := [], keepNil := false, mutF := [], live := [(4, [0, 1, 5, 6, 7])], outs := [(4, [4, 5])] }
def ssplit_T4 (v4x0 : Bytes) (v4x1 : Int) (v4x2 : Int) (v4x3 : Int) (v4x4 : (List Bytes)) (kR4 : Bytes → Int → Int → Int → (List Bytes) → Option Rs) (k4e0 : (List Bytes) → Option Rs) : Option Rs :=
  (bif (decide (v4x3 ≤ ((List.length v4x0) : Int))) then (bif (decide (v4x3 = ((List.length v4x0) : Int))) then (bif (decide ((0 : Int) ≤ v4x2)) then (bif (decide (v4x2 ≤ v4x3)) then (bif (decide (v4x3 ≤ ((List.length v4x0) : Int))) then (bif (decide ((((List.length v4x4) + (List.length (List.set (List.replicate (1 : Nat) ([] : Bytes)) (0 : Nat) (cut v4x0 v4x2 v4x3)))) * (16 : Nat)) ≤ (140737488355328 : Nat))) then (kR4 v4x0 v4x1 (wk64 (v4x3 + (1 : Int))) (wk64 (v4x3 + (1 : Int))) (v4x4 ++ (List.set (List.replicate (1 : Nat) ([] : Bytes)) (0 : Nat) (cut v4x0 v4x2 v4x3)))) else (none)) else (none)) else (none)) else (none)) else (bif (decide ((0 : Int) ≤ v4x3)) then (bif (decide (v4x3 < ((List.length v4x0) : Int))) then (bif (decide ((strAt v4x0 v4x3) = v4x1)) then (bif (decide ((0 : Int) ≤ v4x2)) then (bif (decide (v4x2 ≤ v4x3)) then (bif (decide (v4x3 ≤ ((List.length v4x0) : Int))) then (bif (decide ((((List.length v4x4) + (List.length (List.set (List.replicate (1 : Nat) ([] : Bytes)) (0 : Nat) (cut v4x0 v4x2 v4x3)))) * (16 : Nat)) ≤ (140737488355328 : Nat))) then (kR4 v4x0 v4x1 (wk64 (v4x3 + (1 : Int))) (wk64 (v4x3 + (1 : Int))) (v4x4 ++ (List.set (List.replicate (1 : Nat) ([] : Bytes)) (0 : Nat) (cut v4x0 v4x2 v4x3)))) else (none)) else (none)) else (none)) else (none)) else (kR4 v4x0 v4x1 v4x2 (wk64 (v4x3 + (1 : Int))) v4x4)) else (none)) else (none))) else (k4e0 v4x4))
def ssplit_F4 : Nat → Bytes → Int → Int → Int → (List Bytes) → ((List Bytes) → Option Rs) → Option Rs
  | 0, _, _, _, _, _, _ => none
  | n + 1, v4x0, v4x1, v4x2, v4x3, v4x4, k4e0 => ssplit_T4 v4x0 v4x1 v4x2 v4x3 v4x4 (fun v4x0 v4x1 v4x2 v4x3 v4x4 => ssplit_F4 n v4x0 v4x1 v4x2 v4x3 v4x4 k4e0) k4e0
def ssplit_h4 (v4x0 : Bytes) (v4x1 : Int) (v4x2 : Int) (v4x3 : Int) (v4x4 : (List Bytes)) : St := (St.mk (slots 0 35 [(0, (AV.str v4x0)), (1, (AV.int .u8 v4x1)), (5, (AV.ref (384 : Nat) (0 : Nat))), (6, (AV.int .i64 v4x2)), (7, (AV.int .i64 v4x3))]) (((384 : Nat), (Ob.arr Ty.str (0 : Nat) false v4x4)) :: ([] : (List (Nat × (Ob))))))
def ssplit_x4e0 (x4x0x0 : (List Bytes)) : St := (St.mk (slots 0 35 [(5, (AV.ref (384 : Nat) (0 : Nat)))]) (((384 : Nat), (Ob.arr Ty.str (0 : Nat) false x4x0x0)) :: ([] : (List (Nat × (Ob))))))
noncomputable def ssplit_b4 : Code := codeAt (codeOf Tryz.f227) [1, 1, 1, 0, 1, 0, 0]
def ssplit_L4 (N : Nat) (st : St) (k : Ex → St → Option Rs) : Option Rs := match takeF [0, 1, 5, 6, 7] 0 35 st.env, st.objs with
  | some [.str v4x0, .int .u8 v4x1, .ref 384 0, .int .i64 v4x2, .int .i64 v4x3], [(384, .arr Ty.str 0 false v4x4)] => ssplit_F4 N v4x0 v4x1 v4x2 v4x3 v4x4 (fun x4x0x0 => k (Ex.exit (0 : Nat)) (ssplit_x4e0 x4x0x0))
  | _, _ => none
def ssplit_L (N : Nat) : Lam := fun j st k => match j with
  | 4 => ssplit_L4 N st k
  | _ => none
theorem ssplit_round4 (N : Nat) (again : St → Option Rs) (k : Ex → St → Option Rs) (wv4x0 : Bytes) (wv4x1 : Int) (wv4x2 : Int) (wv4x3 : Int) (wv4x4 : (List Bytes)) (v4x0 : Bytes) (v4x1 : Int) (v4x2 : Int) (v4x3 : Int) (v4x4 : (List Bytes)) :
    roundK 0 (fun st k => evL Kx noS ssplit_O 0 (ssplit_L N) ssplit_b4 st k) (ssplit_h4 wv4x0 wv4x1 wv4x2 wv4x3 wv4x4).env again (ssplit_h4 v4x0 v4x1 v4x2 v4x3 v4x4) (outK ssplit_O 0 ssplit_b4 k) = ssplit_T4 v4x0 v4x1 v4x2 v4x3 v4x4 (fun v4x0 v4x1 v4x2 v4x3 v4x4 => again (ssplit_h4 v4x0 v4x1 v4x2 v4x3 v4x4)) (fun x4x0x0 => k (Ex.exit (0 : Nat)) (ssplit_x4e0 x4x0x0)) := by kernel_rfl
theorem ssplit_loop4 (N : Nat) (k : Ex → St → Option Rs) (wv4x0 : Bytes) (wv4x1 : Int) (wv4x2 : Int) (wv4x3 : Int) (wv4x4 : (List Bytes)) : ∀ (n : Nat) (v4x0 : Bytes) (v4x1 : Int) (v4x2 : Int) (v4x3 : Int) (v4x4 : (List Bytes)),
    loopK 0 (fun st k => evL Kx noS ssplit_O 0 (ssplit_L N) ssplit_b4 st k) (ssplit_h4 wv4x0 wv4x1 wv4x2 wv4x3 wv4x4).env n (ssplit_h4 v4x0 v4x1 v4x2 v4x3 v4x4) (outK ssplit_O 0 ssplit_b4 k) = ssplit_F4 n v4x0 v4x1 v4x2 v4x3 v4x4 (fun x4x0x0 => k (Ex.exit (0 : Nat)) (ssplit_x4e0 x4x0x0))
  | 0, _, _, _, _, _ => rfl
  | n + 1, v4x0, v4x1, v4x2, v4x3, v4x4 => by
    rw [loopK_succ, ssplit_round4]
    simp only [ssplit_loop4 N k wv4x0 wv4x1 wv4x2 wv4x3 wv4x4 n]
    rfl
theorem ssplit_at4 (N : Nat) {s : St} {k : Ex → St → Option Rs} {r : Rs} (h : ssplit_L4 N s k = some r) : ∃ (v4x0 : Bytes) (v4x1 : Int) (v4x2 : Int) (v4x3 : Int) (v4x4 : (List Bytes)), s = (ssplit_h4 v4x0 v4x1 v4x2 v4x3 v4x4) ∧ ssplit_F4 N v4x0 v4x1 v4x2 v4x3 v4x4 (fun x4x0x0 => k (Ex.exit (0 : Nat)) (ssplit_x4e0 x4x0x0)) = some r := by
  cases s with | mk env objs =>
  unfold ssplit_L4 at h
  split at h
  · rename_i e1 e2
    have e3 := takeF_slots _ _ _ _ e1
    simp only at e2 e3
    subst e2 e3
    exact ⟨_, _, _, _, _, rfl, h⟩
  · cases h
theorem ssplit_in4 : loops ssplit_b4 = [] := by kernel_rfl
theorem ssplit_lid4 : lid ssplit_b4 = 4 := by kernel_rfl
theorem ssplit_ok4 (N : Nat) : OkL Kx noS ssplit_O 0 N (ssplit_L N) ssplit_b4 := by
  intro s k k' r hk h
  rw [ssplit_lid4] at h
  obtain ⟨v4x0, v4x1, v4x2, v4x3, v4x4, rfl, h⟩ := ssplit_at4 N h
  refine loopL (Λ := ssplit_L N) ssplit_b4 ?_ N hk ((ssplit_loop4 N k v4x0 v4x1 v4x2 v4x3 v4x4 N v4x0 v4x1 v4x2 v4x3 v4x4).trans h)
  rw [ssplit_in4]
  exact fun _ h => nomatch h
def ssplit_run (N : Nat) (s : Bytes) (b : Int) : Option Rs := (ssplit_F4 N s b (0 : Int) (0 : Int) ([] : (List Bytes)) (fun x4x0x0 => (some ((AV.ref (0 : Nat) (0 : Nat)), ((Ob.arr Ty.str (0 : Nat) false x4x0x0) :: ([] : List Ob))))))
theorem ssplit_runL (N : Nat) (s : Bytes) (b : Int) : runL Kx noS ssplit_O (ssplit_L N) Tryz.f227 ([.str s, .int .u8 b]) ([]) = ssplit_run N s b := by kernel_rfl
theorem ssplit_body : Tryz.f227.body = some (codeOf Tryz.f227) := by kernel_rfl
theorem ssplit_loops : loops (codeOf Tryz.f227) = [ssplit_b4] := by kernel_rfl
theorem ssplit_ev (N : Nat) (s : Bytes) (b : Int) {res_ : Rs} (hyp_ : ssplit_run N s b = some res_) : ∃ n_, runF Kx noS ssplit_O n_ Tryz.f227 ([.str s, .int .u8 b]) ([]) = some res_ :=
  ⟨N, runL_runF ssplit_body (by rw [ssplit_loops]; exact List.forall_mem_cons.2 ⟨ssplit_ok4 N, fun _ h => nomatch h⟩) ((ssplit_runL N s b).trans hyp_)⟩
def ssplit_sOf (φ : Bytes → Int → Br) : List AV → List Ob → Br
  | [.str s, .int .u8 b], [] => φ s b
  | _, _ => .fail
theorem ssplit_okOf {φ : Bytes → Int → Br} (fu : Bytes → Int → Nat) (hv : ∀ s b res_, (φ s b).val = some res_ → ssplit_run (fu s b) s b = some res_) : Sound Kx 227 (ssplit_sOf φ) := by
  refine sound_run (C := noS) (O := ssplit_O) KOk (sound_no Kx) Tryz.func227 (by kernel_rfl) fun args objs res os h => ?_
  unfold ssplit_sOf at h
  split at h
  · exact ssplit_ev _ _ _ (hv _ _ _ h)
  · cases h

def hpL_O : Opt := { cons := [], keepNil := false, mutF := [], live := [], outs := [] }
def hpL_br (s p : Bytes) : Br := (Br.ite (decide (((List.length p) : Int) ≤ ((List.length s) : Int))) (Br.ite (decide ((0 : Int) ≤ ((List.length p) : Int))) (Br.ite (decide (((List.length p) : Int) ≤ ((List.length s) : Int))) (Br.ret (AV.bool (decide ((cut s (0 : Int) ((List.length p) : Int)) = p))) ([] : List Ob)) Br.fail) Br.fail) (Br.ret (AV.bool false) ([] : List Ob)))
theorem hpL_run (s p : Bytes) : runF Kx noS hpL_O 1 Tryz.f170 ([.str s, .str p]) ([]) = (hpL_br s p).val := by kernel_rfl
def hpL_s : List AV → List Ob → Br
  | [.str s, .str p], [] => hpL_br s p
  | _, _ => .fail
theorem hpL_ok : Sound Kx 170 hpL_s := by
  refine sound_run (C := noS) (O := hpL_O) KOk (sound_no Kx) Tryz.func170 (by kernel_rfl) fun args objs res os h => ?_
  unfold hpL_s at h
  split at h
  · exact ⟨1, (hpL_run _ _).trans h⟩
  · cases h

def hpS_O : Opt := { cons := [], keepNil := false, mutF := [], live := [], outs := [] }
def hpS_C : Spec := (add noS 170 hpL_s)
theorem hpS_C_ok : ∀ fn, Sound Kx fn (hpS_C fn) := (sound_add (sound_no Kx) hpL_ok)
def hpS_br (s p : Bytes) : Br := (Br.ite (decide (((List.length p) : Int) ≤ ((List.length s) : Int))) (Br.ite (decide ((0 : Int) ≤ ((List.length p) : Int))) (Br.ite (decide (((List.length p) : Int) ≤ ((List.length s) : Int))) (Br.ret (AV.bool (decide ((cut s (0 : Int) ((List.length p) : Int)) = p))) ([] : List Ob)) Br.fail) Br.fail) (Br.ret (AV.bool false) ([] : List Ob)))
theorem hpS_run (s p : Bytes) : runF Kx hpS_C hpS_O 1 Tryz.f239 ([.str s, .str p]) ([]) = (hpS_br s p).val := by kernel_rfl
def hpS_s : List AV → List Ob → Br
  | [.str s, .str p], [] => hpS_br s p
  | _, _ => .fail
theorem hpS_ok : Sound Kx 239 hpS_s := by
  refine sound_run (C := hpS_C) (O := hpS_O) KOk hpS_C_ok Tryz.func239 (by kernel_rfl) fun args objs res os h => ?_
  unfold hpS_s at h
  split at h
  · exact ⟨1, (hpS_run _ _).trans h⟩
  · cases h

end
end Go.Proofs.YtmmjaomfonknnaaGreatDoor.Ev

namespace Go.Proofs.YtmmjaomfonknnaaGreatDoor.Ev
open Go Go.RowKit
set_option linter.unusedVariables false
set_option linter.unusedSimpArgs false
noncomputable section

def stchar_O : Opt := { cons := [], keepNil := false, mutF := [], live := [], outs := [] }
def stchar_C : Spec := (add (add (add noS 151 low_s) 125 (pr_s isDig)) 218 (has_s hasB))
theorem stchar_C_ok : ∀ fn, Sound Kx fn (stchar_C fn) := (sound_add (sound_add (sound_add (sound_no Kx) slower_okQ) sdigit_okQ) shas_okQ)
def stchar_br (b : Int) : Br := (Br.ite ((decide ((0 : Int) ≤ b)) && (decide (b < (256 : Int)))) (Br.ite (decide ((97 : Int) ≤ (lowI b))) (Br.ite (decide ((lowI b) ≤ (122 : Int))) (Br.ret (AV.bool true) ([] : List Ob)) (Br.ite (isDig b) (Br.ret (AV.bool true) ([] : List Ob)) (Br.ite (decide (b = (96 : Int))) (Br.ret (AV.bool true) ([] : List Ob)) (Br.ret (AV.bool (hasB ((33 : UInt8) :: ((35 : UInt8) :: ((36 : UInt8) :: ((37 : UInt8) :: ((38 : UInt8) :: ((39 : UInt8) :: ((42 : UInt8) :: ((43 : UInt8) :: ((45 : UInt8) :: ((46 : UInt8) :: ((94 : UInt8) :: ((95 : UInt8) :: ((124 : UInt8) :: ((126 : UInt8) :: ([] : Bytes))))))))))))))) b)) ([] : List Ob))))) (Br.ite (isDig b) (Br.ret (AV.bool true) ([] : List Ob)) (Br.ite (decide (b = (96 : Int))) (Br.ret (AV.bool true) ([] : List Ob)) (Br.ret (AV.bool (hasB ((33 : UInt8) :: ((35 : UInt8) :: ((36 : UInt8) :: ((37 : UInt8) :: ((38 : UInt8) :: ((39 : UInt8) :: ((42 : UInt8) :: ((43 : UInt8) :: ((45 : UInt8) :: ((46 : UInt8) :: ((94 : UInt8) :: ((95 : UInt8) :: ((124 : UInt8) :: ((126 : UInt8) :: ([] : Bytes))))))))))))))) b)) ([] : List Ob))))) Br.fail)
theorem stchar_run (b : Int) : runF Kx stchar_C stchar_O 1 Tryz.f183 ([.int .u8 b]) ([]) = (stchar_br b).val := by kernel_rfl
def stchar_s : List AV → List Ob → Br
  | [.int .u8 b], [] => stchar_br b
  | _, _ => .fail
theorem stchar_ok : Sound Kx 183 stchar_s := by
  refine sound_run (C := stchar_C) (O := stchar_O) KOk stchar_C_ok Tryz.func183 (by kernel_rfl) fun args objs res os h => ?_
  unfold stchar_s at h
  split at h
  · exact ⟨1, (stchar_run _).trans h⟩
  · cases h

def allTok_O : Opt := { cons := [], keepNil := false, mutF := [], live := [(2, [0, 1, 5])], outs := [(2, [4])] }
def allTok_C : Spec := (add noS 186 tok_s)
theorem allTok_C_ok : ∀ fn, Sound Kx fn (allTok_C fn) := (sound_add (sound_no Kx) isTokB_okQ)
def allTok_T2 (v2x0 : Bytes) (v2x1 : Int) (kR2 : Bytes → Int → Option Rs) (k2e0 : Option Rs) (k2e1 : Option Rs) : Option Rs :=
  (bif (decide (v2x1 < ((List.length v2x0) : Int))) then (bif (decide ((0 : Int) ≤ v2x1)) then (bif (decide (v2x1 < ((List.length v2x0) : Int))) then (bif ((decide ((0 : Int) ≤ (strAt v2x0 v2x1))) && (decide ((strAt v2x0 v2x1) < (256 : Int)))) then (bif (!(isTok (strAt v2x0 v2x1))) then k2e0 else (kR2 v2x0 (wk64 (v2x1 + (1 : Int))))) else (none)) else (none)) else (none)) else k2e1)
def allTok_F2 : Nat → Bytes → Int → (Option Rs) → (Option Rs) → Option Rs
  | 0, _, _, _, _ => none
  | n + 1, v2x0, v2x1, k2e0, k2e1 => allTok_T2 v2x0 v2x1 (fun v2x0 v2x1 => allTok_F2 n v2x0 v2x1 k2e0 k2e1) k2e0 k2e1
def allTok_h2 (v2x0 : Bytes) (v2x1 : Int) : St := (St.mk (slots 0 18 [(0, (AV.str v2x0)), (1, (AV.fn (186 : Nat) ([] : List AV))), (5, (AV.int .i64 v2x1))]) ([] : (List (Nat × (Ob)))))
def allTok_x2e0  : St := (St.mk (slots 0 18 [(4, (AV.bool false))]) ([] : (List (Nat × (Ob)))))
def allTok_x2e1  : St := (St.mk (slots 0 18 []) ([] : (List (Nat × (Ob)))))
noncomputable def allTok_b2 : Code := codeAt (codeOf Tryz.f95) [1, 0, 1, 0, 0]
def allTok_L2 (N : Nat) (st : St) (k : Ex → St → Option Rs) : Option Rs := match takeF [0, 1, 5] 0 18 st.env, st.objs with
  | some [.str v2x0, .fn 186 [], .int .i64 v2x1], [] => allTok_F2 N v2x0 v2x1 (k Ex.ret (allTok_x2e0)) (k (Ex.exit (0 : Nat)) (allTok_x2e1))
  | _, _ => none
def allTok_L (N : Nat) : Lam := fun j st k => match j with
  | 2 => allTok_L2 N st k
  | _ => none
theorem allTok_round2 (N : Nat) (again : St → Option Rs) (k : Ex → St → Option Rs) (wv2x0 : Bytes) (wv2x1 : Int) (v2x0 : Bytes) (v2x1 : Int) :
    roundK 0 (fun st k => evL Kx allTok_C allTok_O 0 (allTok_L N) allTok_b2 st k) (allTok_h2 wv2x0 wv2x1).env again (allTok_h2 v2x0 v2x1) (outK allTok_O 0 allTok_b2 k) = allTok_T2 v2x0 v2x1 (fun v2x0 v2x1 => again (allTok_h2 v2x0 v2x1)) (k Ex.ret (allTok_x2e0)) (k (Ex.exit (0 : Nat)) (allTok_x2e1)) := by kernel_rfl
theorem allTok_loop2 (N : Nat) (k : Ex → St → Option Rs) (wv2x0 : Bytes) (wv2x1 : Int) : ∀ (n : Nat) (v2x0 : Bytes) (v2x1 : Int),
    loopK 0 (fun st k => evL Kx allTok_C allTok_O 0 (allTok_L N) allTok_b2 st k) (allTok_h2 wv2x0 wv2x1).env n (allTok_h2 v2x0 v2x1) (outK allTok_O 0 allTok_b2 k) = allTok_F2 n v2x0 v2x1 (k Ex.ret (allTok_x2e0)) (k (Ex.exit (0 : Nat)) (allTok_x2e1))
  | 0, _, _ => rfl
  | n + 1, v2x0, v2x1 => by
    rw [loopK_succ, allTok_round2]
    simp only [allTok_loop2 N k wv2x0 wv2x1 n]
    rfl
theorem allTok_at2 (N : Nat) {s : St} {k : Ex → St → Option Rs} {r : Rs} (h : allTok_L2 N s k = some r) : ∃ (v2x0 : Bytes) (v2x1 : Int), s = (allTok_h2 v2x0 v2x1) ∧ allTok_F2 N v2x0 v2x1 (k Ex.ret (allTok_x2e0)) (k (Ex.exit (0 : Nat)) (allTok_x2e1)) = some r := by
  cases s with | mk env objs =>
  unfold allTok_L2 at h
  split at h
  · rename_i e1 e2
    have e3 := takeF_slots _ _ _ _ e1
    simp only at e2 e3
    subst e2 e3
    exact ⟨_, _, rfl, h⟩
  · cases h
theorem allTok_in2 : loops allTok_b2 = [] := by kernel_rfl
theorem allTok_lid2 : lid allTok_b2 = 2 := by kernel_rfl
theorem allTok_ok2 (N : Nat) : OkL Kx allTok_C allTok_O 0 N (allTok_L N) allTok_b2 := by
  intro s k k' r hk h
  rw [allTok_lid2] at h
  obtain ⟨v2x0, v2x1, rfl, h⟩ := allTok_at2 N h
  refine loopL (Λ := allTok_L N) allTok_b2 ?_ N hk ((allTok_loop2 N k v2x0 v2x1 N v2x0 v2x1).trans h)
  rw [allTok_in2]
  exact fun _ h => nomatch h
def allTok_run (N : Nat) (s : Bytes) : Option Rs := (allTok_F2 N s (0 : Int) (some ((AV.bool false), ([] : List Ob))) (some ((AV.bool true), ([] : List Ob))))
theorem allTok_runL (N : Nat) (s : Bytes) : runL Kx allTok_C allTok_O (allTok_L N) Tryz.f95 ([.str s, .fn 186 []]) ([]) = allTok_run N s := by kernel_rfl
theorem allTok_body : Tryz.f95.body = some (codeOf Tryz.f95) := by kernel_rfl
theorem allTok_loops : loops (codeOf Tryz.f95) = [allTok_b2] := by kernel_rfl
theorem allTok_ev (N : Nat) (s : Bytes) {res_ : Rs} (hyp_ : allTok_run N s = some res_) : ∃ n_, runF Kx allTok_C allTok_O n_ Tryz.f95 ([.str s, .fn 186 []]) ([]) = some res_ :=
  ⟨N, runL_runF allTok_body (by rw [allTok_loops]; exact List.forall_mem_cons.2 ⟨allTok_ok2 N, fun _ h => nomatch h⟩) ((allTok_runL N s).trans hyp_)⟩
def allTok_sOf (φ : Bytes → Br) : List AV → List Ob → Br
  | [.str s, .fn 186 []], [] => φ s
  | _, _ => .fail
theorem allTok_okOf {φ : Bytes → Br} (fu : Bytes → Nat) (hv : ∀ s res_, (φ s).val = some res_ → allTok_run (fu s) s = some res_) : Sound Kx 95 (allTok_sOf φ) := by
  refine sound_run (C := allTok_C) (O := allTok_O) KOk allTok_C_ok Tryz.func95 (by kernel_rfl) fun args objs res os h => ?_
  unfold allTok_sOf at h
  split at h
  · exact allTok_ev _ _ (hv _ _ h)
  · cases h

def isame_O : Opt := { cons := [], keepNil := false, mutF := [], live := [], outs := [] }
def isame_C : Spec := (add noS 107 (t1_s fun s => .str (foldP s)))
theorem isame_C_ok : ∀ fn, Sound Kx fn (isame_C fn) := (sound_add (sound_no Kx) ifold_okQ)
def isame_br (s t : Bytes) : Br := (Br.ite (isM s) (Br.ite (isM t) (Br.ret (AV.bool (decide ((foldP s) = (foldP t)))) ([] : List Ob)) Br.fail) Br.fail)
theorem isame_run (s t : Bytes) : runF Kx isame_C isame_O 1 Tryz.f133 ([.str s, .str t]) ([]) = (isame_br s t).val := by kernel_rfl
def isame_s : List AV → List Ob → Br
  | [.str s, .str t], [] => isame_br s t
  | _, _ => .fail
theorem isame_ok : Sound Kx 133 isame_s := by
  refine sound_run (C := isame_C) (O := isame_O) KOk isame_C_ok Tryz.func133 (by kernel_rfl) fun args objs res os h => ?_
  unfold isame_s at h
  split at h
  · exact ⟨1, (isame_run _ _).trans h⟩
  · cases h

def ssame_O : Opt := { cons := [], keepNil := false, mutF := [], live := [], outs := [] }
def ssame_C : Spec := (add noS 106 (t1_s fun s => .str (foldP s)))
theorem ssame_C_ok : ∀ fn, Sound Kx fn (ssame_C fn) := (sound_add (sound_no Kx) sfold_okQ)
def ssame_br (s t : Bytes) : Br := (Br.ite (isM s) (Br.ite (isM t) (Br.ret (AV.bool (decide ((foldP s) = (foldP t)))) ([] : List Ob)) Br.fail) Br.fail)
theorem ssame_run (s t : Bytes) : runF Kx ssame_C ssame_O 1 Tryz.f123 ([.str s, .str t]) ([]) = (ssame_br s t).val := by kernel_rfl
def ssame_s : List AV → List Ob → Br
  | [.str s, .str t], [] => ssame_br s t
  | _, _ => .fail
theorem ssame_ok : Sound Kx 123 ssame_s := by
  refine sound_run (C := ssame_C) (O := ssame_O) KOk ssame_C_ok Tryz.func123 (by kernel_rfl) fun args objs res os h => ?_
  unfold ssame_s at h
  split at h
  · exact ⟨1, (ssame_run _ _).trans h⟩
  · cases h

def isReason_O : Opt := { cons := [], keepNil := false, mutF := [], live := [], outs := [] }
def isReason_C : Spec := (add noS 95 allPl_s)
theorem isReason_C_ok : ∀ fn, Sound Kx fn (isReason_C fn) := (sound_add (sound_no Kx) allPl_okQ)
def isReason_br (s : Bytes) : Br := (Br.ite (decide (((List.length s) : Int) ≤ (40 : Int))) (Br.ite (isM s) (Br.ret (AV.bool (allP isPl s)) ([] : List Ob)) Br.fail) (Br.ret (AV.bool false) ([] : List Ob)))
theorem isReason_run (s : Bytes) : runF Kx isReason_C isReason_O 1 Tryz.f120 ([.str s]) ([]) = (isReason_br s).val := by kernel_rfl
def isReason_s : List AV → List Ob → Br
  | [.str s], [] => isReason_br s
  | _, _ => .fail
theorem isReason_ok : Sound Kx 120 isReason_s := by
  refine sound_run (C := isReason_C) (O := isReason_O) KOk isReason_C_ok Tryz.func120 (by kernel_rfl) fun args objs res os h => ?_
  unfold isReason_s at h
  split at h
  · exact ⟨1, (isReason_run _).trans h⟩
  · cases h

def isTarget_O : Opt := { cons := [], keepNil := false, mutF := [], live := [], outs := [] }
def isTarget_C : Spec := (add (add noS 84 iwithin_s) 95 allVis_s)
theorem isTarget_C_ok : ∀ fn, Sound Kx fn (isTarget_C fn) := (sound_add (sound_add (sound_no Kx) iwithin_ok) allVis_okQ)
def isTarget_br (s : Bytes) : Br := (Br.ite (decide ((1 : Int) ≤ ((List.length s) : Int))) (Br.ite (decide (((List.length s) : Int) ≤ (200 : Int))) (Br.ite (isM s) (Br.ret (AV.bool (allP isVis s)) ([] : List Ob)) Br.fail) (Br.ret (AV.bool false) ([] : List Ob))) (Br.ret (AV.bool false) ([] : List Ob)))
theorem isTarget_run (s : Bytes) : runF Kx isTarget_C isTarget_O 1 Tryz.f118 ([.str s]) ([]) = (isTarget_br s).val := by kernel_rfl
def isTarget_s : List AV → List Ob → Br
  | [.str s], [] => isTarget_br s
  | _, _ => .fail
theorem isTarget_ok : Sound Kx 118 isTarget_s := by
  refine sound_run (C := isTarget_C) (O := isTarget_O) KOk isTarget_C_ok Tryz.func118 (by kernel_rfl) fun args objs res os h => ?_
  unfold isTarget_s at h
  split at h
  · exact ⟨1, (isTarget_run _).trans h⟩
  · cases h

end
end Go.Proofs.YtmmjaomfonknnaaGreatDoor.Ev

namespace Go.Proofs.YtmmjaomfonknnaaGreatDoor.Ev
open Go Go.RowKit
set_option linter.unusedVariables false
set_option linter.unusedSimpArgs false
noncomputable section

theorem stchar_okQ : Sound Kx 183 tok_s := stchar_ok.of fun args objs r h => by
  unfold tok_s at h; split at h
  · rename_i b
    obtain ⟨h1, h2⟩ := ite_some h
    have h3 := h1
    simp only [Bool.and_eq_true, decide_eq_true_eq] at h3
    rw [← h2]
    show (stchar_br b).val = _
    unfold stchar_br isTok isLow
    have hm : isM ((33 : UInt8) :: 35 :: 36 :: 37 :: 38 :: 39 :: 42 :: 43 :: 45 :: 46 :: 94 :: 95 :: 124 :: 126 :: []) = true := by decide
    have hh : hasB ((33 : UInt8) :: 35 :: 36 :: 37 :: 38 :: 39 :: 42 :: 43 :: 45 :: 46 :: 94 :: 95 :: 124 :: 126 :: []) b = tokSet.any fun c => decide (by8 c = b) := rfl
    simp only [Br.val, h1, hm, hh]
    unfold lowI isUp
    by_cases g1 : 65 ≤ b <;> by_cases g2 : b ≤ 90 <;> by_cases g3 : 97 ≤ b <;> by_cases g4 : b ≤ 122 <;> first | (exfalso; omega) | skip
    all_goals simp only [g1, g2, g3, g4, decide_true, decide_false, Bool.and_true, Bool.and_false, Bool.false_and, Bool.true_and, cond_true, cond_false, Bool.true_or, Bool.false_or]
    all_goals first
      | rfl
      | (have e1 : (97 : Int) ≤ b + 32 := by omega
         have e2 : b + 32 ≤ 122 := by omega
         simp only [e1, e2, decide_true])
      | (cases isDig b <;> cases decide (b = 96) <;> rfl)
  · cases h
theorem allTok_loop (l : Bytes) (hl : l.length ≤ 4611686018427387904) (k0 k1 : Option Rs) : ∀ (r : Bytes) (i : Int) (n : Nat), At l i r → r.length < n → allTok_F2 n l i k0 k1 = bif allP isTok r then k1 else k0 := by
  intro r; induction r with
  | nil => intro i n h hn; obtain ⟨n, rfl⟩ := fuel hn; unfold allTok_F2 allTok_T2; simp only [h.dge, cond_false, allP, List.all_nil, cond_true]
  | cons a r ih =>
    intro i n h hn; obtain ⟨n, rfl⟩ := fuel hn
    have hs := ih (i + 1) n h.step (by simp at hn; omega)
    have e0 : (decide (0 ≤ by8 a) && decide (by8 a < 256)) = true := by simp only [Bool.and_eq_true, decide_eq_true_eq]; exact ⟨by8_nn a, by8_lt a⟩
    unfold allTok_F2 allTok_T2; simp only [h.dlt, h.dnn, h.str, cond_true, h.next hl, hs, allP, List.all_cons, e0]
    cases isTok (by8 a) <;> rfl
def allTok_s := allTok_sOf fun s => .ite (isM s) (.ret (.bool (allP isTok s)) []) .fail
theorem allTok_okQ : Sound Kx 95 allTok_s := by
  refine allTok_okOf (fun s => s.length + 1) fun s r h => ?_
  obtain ⟨h1, h2⟩ := ite_some h
  unfold allTok_run
  rw [allTok_loop s (isM_le h1) _ _ s 0 _ (At.start s) (by omega), ← h2]
  cases allP isTok s <;> rfl
def sameP (s t : Bytes) : Bool := decide (foldP s = foldP t)
def same_s : List AV → List Ob → Br
  | [.str s, .str t], [] => .ite (isM s && isM t) (.ret (.bool (sameP s t)) []) .fail
  | _, _ => .fail
theorem isame_okQ : Sound Kx 133 same_s := isame_ok.of fun args objs r h => by
  unfold same_s at h; split at h
  · rename_i s t
    obtain ⟨h1, h2⟩ := ite_some h
    rw [Bool.and_eq_true] at h1
    rw [← h2]
    show (isame_br s t).val = _
    unfold isame_br sameP
    simp only [Br.val, h1.1, h1.2]
  · cases h
theorem ssame_okQ : Sound Kx 123 same_s := ssame_ok.of fun args objs r h => by
  unfold same_s at h; split at h
  · rename_i s t
    obtain ⟨h1, h2⟩ := ite_some h
    rw [Bool.and_eq_true] at h1
    rw [← h2]
    show (ssame_br s t).val = _
    unfold ssame_br sameP
    simp only [Br.val, h1.1, h1.2]
  · cases h
def t0_s (p : Bytes → AV) : List AV → List Ob → Br
  | [.str s], [] => .ret (p s) []
  | _, _ => .fail
theorem of_t0 {n : Nat} {s : List AV → List Ob → Br} (hs : Sound Kx n s) {p : Bytes → AV} (h : ∀ x, (s [.str x] []).val = some (p x, [])) : Sound Kx n (t0_s p) := hs.of fun args objs r hv => by
  unfold t0_s at hv
  split at hv
  · rw [h]; exact hv
  · cases hv
theorem isM_of {s : Bytes} {n : Nat} (h : s.length ≤ n) (hn : n ≤ 4611686018427387904 := by decide) : isM s = true := decide_eq_true (Nat.le_trans h hn)
def reasonP (s : Bytes) : Bool := decide (s.length ≤ 40) && allP isPl s
def targetP (s : Bytes) : Bool := decide (1 ≤ s.length) && decide (s.length ≤ 200) && allP isVis s
theorem lenle (s : Bytes) (n : Nat) : decide ((s.length : Int) ≤ (n : Int)) = decide (s.length ≤ n) := by congr 1; apply propext; omega
theorem isReason_okQ : Sound Kx 120 (t0_s fun s => .bool (reasonP s)) := of_t0 isReason_ok fun s => by
  show (isReason_br s).val = _
  unfold isReason_br reasonP
  by_cases h : s.length ≤ 40
  · have h' : (s.length : Int) ≤ 40 := by omega
    simp only [Br.val, h, h', decide_true, isM_of h, Bool.true_and]
  · have h' : ¬ (s.length : Int) ≤ 40 := by omega
    simp only [Br.val, h, h', decide_false, Bool.false_and]
theorem isTarget_okQ : Sound Kx 118 (t0_s fun s => .bool (targetP s)) := of_t0 isTarget_ok fun s => by
  show (isTarget_br s).val = _
  unfold isTarget_br targetP
  by_cases h : 1 ≤ s.length
  · have h' : (1 : Int) ≤ (s.length : Int) := by omega
    by_cases g : s.length ≤ 200
    · have g' : (s.length : Int) ≤ 200 := by omega
      simp only [Br.val, h, h', g, g', decide_true, isM_of g, Bool.true_and]
    · have g' : ¬ (s.length : Int) ≤ 200 := by omega
      simp only [Br.val, h, h', g, g', decide_true, decide_false, Bool.true_and, Bool.false_and]
  · have h' : ¬ (1 : Int) ≤ (s.length : Int) := by omega
    simp only [Br.val, h, h', decide_false, Bool.false_and]

end
end Go.Proofs.YtmmjaomfonknnaaGreatDoor.Ev

namespace Go.Proofs.YtmmjaomfonknnaaGreatDoor.Ev
open Go Go.RowKit
set_option linter.unusedVariables false
set_option linter.unusedSimpArgs false
noncomputable section

def iToken_O : Opt := { cons := [], keepNil := false, mutF := [], live := [], outs := [] }
def iToken_C : Spec := (add (add noS 84 iwithin_s) 95 allTok_s)
theorem iToken_C_ok : ∀ fn, Sound Kx fn (iToken_C fn) := (sound_add (sound_add (sound_no Kx) iwithin_ok) allTok_okQ)
def iToken_br (s : Bytes) : Br := (Br.ite (decide ((1 : Int) ≤ ((List.length s) : Int))) (Br.ite (decide (((List.length s) : Int) ≤ (4000 : Int))) (Br.ite (isM s) (Br.ret (AV.bool (allP isTok s)) ([] : List Ob)) Br.fail) (Br.ret (AV.bool false) ([] : List Ob))) (Br.ret (AV.bool false) ([] : List Ob)))
theorem iToken_run (s : Bytes) : runF Kx iToken_C iToken_O 1 Tryz.f145 ([.str s]) ([]) = (iToken_br s).val := by kernel_rfl
def iToken_s : List AV → List Ob → Br
  | [.str s], [] => iToken_br s
  | _, _ => .fail
theorem iToken_ok : Sound Kx 145 iToken_s := by
  refine sound_run (C := iToken_C) (O := iToken_O) KOk iToken_C_ok Tryz.func145 (by kernel_rfl) fun args objs res os h => ?_
  unfold iToken_s at h
  split at h
  · exact ⟨1, (iToken_run _).trans h⟩
  · cases h

def sToken_O : Opt := { cons := [], keepNil := false, mutF := [], live := [(4, [0, 3])], outs := [(4, [2])] }
def sToken_C : Spec := (add noS 183 tok_s)
theorem sToken_C_ok : ∀ fn, Sound Kx fn (sToken_C fn) := (sound_add (sound_no Kx) stchar_okQ)
def sToken_T4 (v4x0 : Bytes) (v4x1 : Int) (kR4 : Bytes → Int → Option Rs) (k4e0 : Option Rs) (k4e1 : Option Rs) : Option Rs :=
  (bif (decide (v4x1 < ((List.length v4x0) : Int))) then (bif (decide ((0 : Int) ≤ v4x1)) then (bif (decide (v4x1 < ((List.length v4x0) : Int))) then (bif ((decide ((0 : Int) ≤ (strAt v4x0 v4x1))) && (decide ((strAt v4x0 v4x1) < (256 : Int)))) then (bif (!(isTok (strAt v4x0 v4x1))) then k4e0 else (kR4 v4x0 (wk64 (v4x1 + (1 : Int))))) else (none)) else (none)) else (none)) else k4e1)
def sToken_F4 : Nat → Bytes → Int → (Option Rs) → (Option Rs) → Option Rs
  | 0, _, _, _, _ => none
  | n + 1, v4x0, v4x1, k4e0, k4e1 => sToken_T4 v4x0 v4x1 (fun v4x0 v4x1 => sToken_F4 n v4x0 v4x1 k4e0 k4e1) k4e0 k4e1
def sToken_h4 (v4x0 : Bytes) (v4x1 : Int) : St := (St.mk (slots 0 23 [(0, (AV.str v4x0)), (3, (AV.int .i64 v4x1))]) ([] : (List (Nat × (Ob)))))
def sToken_x4e0  : St := (St.mk (slots 0 23 [(2, (AV.bool false))]) ([] : (List (Nat × (Ob)))))
def sToken_x4e1  : St := (St.mk (slots 0 23 []) ([] : (List (Nat × (Ob)))))
noncomputable def sToken_b4 : Code := codeAt (codeOf Tryz.f142) [1, 1, 0, 1, 0, 0]
def sToken_L4 (N : Nat) (st : St) (k : Ex → St → Option Rs) : Option Rs := match takeF [0, 3] 0 23 st.env, st.objs with
  | some [.str v4x0, .int .i64 v4x1], [] => sToken_F4 N v4x0 v4x1 (k Ex.ret (sToken_x4e0)) (k (Ex.exit (0 : Nat)) (sToken_x4e1))
  | _, _ => none
def sToken_L (N : Nat) : Lam := fun j st k => match j with
  | 4 => sToken_L4 N st k
  | _ => none
theorem sToken_round4 (N : Nat) (again : St → Option Rs) (k : Ex → St → Option Rs) (wv4x0 : Bytes) (wv4x1 : Int) (v4x0 : Bytes) (v4x1 : Int) :
    roundK 0 (fun st k => evL Kx sToken_C sToken_O 0 (sToken_L N) sToken_b4 st k) (sToken_h4 wv4x0 wv4x1).env again (sToken_h4 v4x0 v4x1) (outK sToken_O 0 sToken_b4 k) = sToken_T4 v4x0 v4x1 (fun v4x0 v4x1 => again (sToken_h4 v4x0 v4x1)) (k Ex.ret (sToken_x4e0)) (k (Ex.exit (0 : Nat)) (sToken_x4e1)) := by kernel_rfl
theorem sToken_loop4 (N : Nat) (k : Ex → St → Option Rs) (wv4x0 : Bytes) (wv4x1 : Int) : ∀ (n : Nat) (v4x0 : Bytes) (v4x1 : Int),
    loopK 0 (fun st k => evL Kx sToken_C sToken_O 0 (sToken_L N) sToken_b4 st k) (sToken_h4 wv4x0 wv4x1).env n (sToken_h4 v4x0 v4x1) (outK sToken_O 0 sToken_b4 k) = sToken_F4 n v4x0 v4x1 (k Ex.ret (sToken_x4e0)) (k (Ex.exit (0 : Nat)) (sToken_x4e1))
  | 0, _, _ => rfl
  | n + 1, v4x0, v4x1 => by
    rw [loopK_succ, sToken_round4]
    simp only [sToken_loop4 N k wv4x0 wv4x1 n]
    rfl
theorem sToken_at4 (N : Nat) {s : St} {k : Ex → St → Option Rs} {r : Rs} (h : sToken_L4 N s k = some r) : ∃ (v4x0 : Bytes) (v4x1 : Int), s = (sToken_h4 v4x0 v4x1) ∧ sToken_F4 N v4x0 v4x1 (k Ex.ret (sToken_x4e0)) (k (Ex.exit (0 : Nat)) (sToken_x4e1)) = some r := by
  cases s with | mk env objs =>
  unfold sToken_L4 at h
  split at h
  · rename_i e1 e2
    have e3 := takeF_slots _ _ _ _ e1
    simp only at e2 e3
    subst e2 e3
    exact ⟨_, _, rfl, h⟩
  · cases h
theorem sToken_in4 : loops sToken_b4 = [] := by kernel_rfl
theorem sToken_lid4 : lid sToken_b4 = 4 := by kernel_rfl
theorem sToken_ok4 (N : Nat) : OkL Kx sToken_C sToken_O 0 N (sToken_L N) sToken_b4 := by
  intro s k k' r hk h
  rw [sToken_lid4] at h
  obtain ⟨v4x0, v4x1, rfl, h⟩ := sToken_at4 N h
  refine loopL (Λ := sToken_L N) sToken_b4 ?_ N hk ((sToken_loop4 N k v4x0 v4x1 N v4x0 v4x1).trans h)
  rw [sToken_in4]
  exact fun _ h => nomatch h
def sToken_run (N : Nat) (s : Bytes) : Option Rs := (bif (decide (((List.length s) : Int) = (0 : Int))) then (some ((AV.bool false), ([] : List Ob))) else (bif (decide ((4000 : Int) < ((List.length s) : Int))) then (some ((AV.bool false), ([] : List Ob))) else (sToken_F4 N s (0 : Int) (some ((AV.bool false), ([] : List Ob))) (some ((AV.bool true), ([] : List Ob))))))
theorem sToken_runL (N : Nat) (s : Bytes) : runL Kx sToken_C sToken_O (sToken_L N) Tryz.f142 ([.str s]) ([]) = sToken_run N s := by kernel_rfl
theorem sToken_body : Tryz.f142.body = some (codeOf Tryz.f142) := by kernel_rfl
theorem sToken_loops : loops (codeOf Tryz.f142) = [sToken_b4] := by kernel_rfl
theorem sToken_ev (N : Nat) (s : Bytes) {res_ : Rs} (hyp_ : sToken_run N s = some res_) : ∃ n_, runF Kx sToken_C sToken_O n_ Tryz.f142 ([.str s]) ([]) = some res_ :=
  ⟨N, runL_runF sToken_body (by rw [sToken_loops]; exact List.forall_mem_cons.2 ⟨sToken_ok4 N, fun _ h => nomatch h⟩) ((sToken_runL N s).trans hyp_)⟩
def sToken_sOf (φ : Bytes → Br) : List AV → List Ob → Br
  | [.str s], [] => φ s
  | _, _ => .fail
theorem sToken_okOf {φ : Bytes → Br} (fu : Bytes → Nat) (hv : ∀ s res_, (φ s).val = some res_ → sToken_run (fu s) s = some res_) : Sound Kx 142 (sToken_sOf φ) := by
  refine sound_run (C := sToken_C) (O := sToken_O) KOk sToken_C_ok Tryz.func142 (by kernel_rfl) fun args objs res os h => ?_
  unfold sToken_sOf at h
  split at h
  · exact sToken_ev _ _ (hv _ _ h)
  · cases h

end
end Go.Proofs.YtmmjaomfonknnaaGreatDoor.Ev

namespace Go.Proofs.YtmmjaomfonknnaaGreatDoor.Ev
open Go Go.RowKit
set_option linter.unusedVariables false
set_option linter.unusedSimpArgs false
noncomputable section

theorem iToken_okQ : Sound Kx 145 (t0_s fun s => .bool (tokP s)) := of_t0 iToken_ok fun s => by
  show (iToken_br s).val = _
  unfold iToken_br tokP
  by_cases h : 1 ≤ s.length
  · have h' : (1 : Int) ≤ (s.length : Int) := by omega
    by_cases g : s.length ≤ 4000
    · have g' : (s.length : Int) ≤ 4000 := by omega
      simp only [Br.val, h, h', g, g', decide_true, isM_of g, Bool.true_and]
    · have g' : ¬ (s.length : Int) ≤ 4000 := by omega
      simp only [Br.val, h, h', g, g', decide_true, decide_false, Bool.true_and, Bool.false_and]
  · have h' : ¬ (1 : Int) ≤ (s.length : Int) := by omega
    simp only [Br.val, h, h', decide_false, Bool.false_and]
theorem sToken_loop (l : Bytes) (hl : l.length ≤ 4611686018427387904) (k0 k1 : Option Rs) : ∀ (r : Bytes) (i : Int) (n : Nat), At l i r → r.length < n → sToken_F4 n l i k0 k1 = bif allP isTok r then k1 else k0 := by
  intro r; induction r with
  | nil => intro i n h hn; obtain ⟨n, rfl⟩ := fuel hn; unfold sToken_F4 sToken_T4; simp only [h.dge, cond_false, allP, List.all_nil, cond_true]
  | cons a r ih =>
    intro i n h hn; obtain ⟨n, rfl⟩ := fuel hn
    have hs := ih (i + 1) n h.step (by simp at hn; omega)
    have e0 : (decide (0 ≤ by8 a) && decide (by8 a < 256)) = true := by simp only [Bool.and_eq_true, decide_eq_true_eq]; exact ⟨by8_nn a, by8_lt a⟩
    unfold sToken_F4 sToken_T4; simp only [h.dlt, h.dnn, h.str, cond_true, h.next hl, hs, allP, List.all_cons, e0]
    cases isTok (by8 a) <;> rfl
theorem sToken_okQ : Sound Kx 142 (t0_s fun s => .bool (tokP s)) := by
  refine of_t0 (sToken_okOf (φ := fun s => .ret (.bool (tokP s)) []) (fun s => s.length + 1) fun s r h => ?_) fun _ => rfl
  cases h
  unfold sToken_run tokP
  by_cases h : s.length = 0
  · have : s = [] := List.length_eq_zero_iff.1 h
    subst this; rfl
  · by_cases g : s.length ≤ 4000
    · have h' : ¬ (s.length : Int) = 0 := by omega
      have h1 : 1 ≤ s.length := by omega
      have g' : ¬ (4000 : Int) < (s.length : Int) := by omega
      simp only [h', g', g, h1, decide_true, decide_false, cond_false, Bool.true_and]
      rw [sToken_loop s (by omega) _ _ s 0 _ (At.start s) (by omega)]
      cases allP isTok s <;> rfl
    · have h' : ¬ (s.length : Int) = 0 := by omega
      have g' : (4000 : Int) < (s.length : Int) := by omega
      simp only [h', g', g, decide_true, decide_false, cond_false, cond_true, Bool.and_false, Bool.false_and]

end
end Go.Proofs.YtmmjaomfonknnaaGreatDoor.Ev

namespace Go.Proofs.YtmmjaomfonknnaaGreatDoor.Ev
open Go Go.RowKit
set_option linter.unusedVariables false
set_option linter.unusedSimpArgs false
noncomputable section

def isMethod_O : Opt := { cons := [], keepNil := false, mutF := [], live := [], outs := [] }
def isMethod_C : Spec := (add noS 145 (t0_s fun s => .bool (tokP s)))
theorem isMethod_C_ok : ∀ fn, Sound Kx fn (isMethod_C fn) := (sound_add (sound_no Kx) iToken_okQ)
def isMethod_br (s : Bytes) : Br := (Br.ite (tokP s) (Br.ret (AV.bool (decide (((List.length s) : Int) ≤ (20 : Int)))) ([] : List Ob)) (Br.ret (AV.bool false) ([] : List Ob)))
theorem isMethod_run (s : Bytes) : runF Kx isMethod_C isMethod_O 1 Tryz.f117 ([.str s]) ([]) = (isMethod_br s).val := by kernel_rfl
def isMethod_s : List AV → List Ob → Br
  | [.str s], [] => isMethod_br s
  | _, _ => .fail
theorem isMethod_ok : Sound Kx 117 isMethod_s := by
  refine sound_run (C := isMethod_C) (O := isMethod_O) KOk isMethod_C_ok Tryz.func117 (by kernel_rfl) fun args objs res os h => ?_
  unfold isMethod_s at h
  split at h
  · exact ⟨1, (isMethod_run _).trans h⟩
  · cases h

def iFieldOk_O : Opt := { cons := [], keepNil := false, mutF := [], live := [], outs := [], split := true }
def iFieldOk_C : Spec := (add (add (add noS 145 (t0_s fun s => .bool (tokP s))) 95 allPl_s) 147 (t1_s fun s => .str (trimP s)))
theorem iFieldOk_C_ok : ∀ fn, Sound Kx fn (iFieldOk_C fn) := (sound_add (sound_add (sound_add (sound_no Kx) iToken_okQ) allPl_okQ) itrim_okQ)
def iFieldOk_br (a b : Bytes) : Br := (Br.ite (tokP a) (Br.ite (decide (((List.length a) : Int) ≤ (40 : Int))) (Br.ite (decide (((List.length b) : Int) ≤ (190 : Int))) (Br.ite (isM b) (Br.ite (allP isPl b) (Br.ite (isM b) (Br.ite (decide ((trimP b) = b)) (Br.ret (AV.bool true) ([] : List Ob)) (Br.ret (AV.bool false) ([] : List Ob))) Br.fail) (Br.ret (AV.bool false) ([] : List Ob))) Br.fail) (Br.ret (AV.bool false) ([] : List Ob))) (Br.ret (AV.bool false) ([] : List Ob))) (Br.ret (AV.bool false) ([] : List Ob)))
theorem iFieldOk_run (a b : Bytes) : runF Kx iFieldOk_C iFieldOk_O 1 Tryz.f101 ([.agg [.str a, .str b]]) ([]) = (iFieldOk_br a b).val := by kernel_rfl
def iFieldOk_s : List AV → List Ob → Br
  | [.agg [.str a, .str b]], [] => iFieldOk_br a b
  | _, _ => .fail
theorem iFieldOk_ok : Sound Kx 101 iFieldOk_s := by
  refine sound_run (C := iFieldOk_C) (O := iFieldOk_O) KOk iFieldOk_C_ok Tryz.func101 (by kernel_rfl) fun args objs res os h => ?_
  unfold iFieldOk_s at h
  split at h
  · exact ⟨1, (iFieldOk_run _ _).trans h⟩
  · cases h

def sFieldOk_O : Opt := { cons := [], keepNil := false, mutF := [], live := [], outs := [], split := true }
def sFieldOk_C : Spec := (add (add (add noS 142 (t0_s fun s => .bool (tokP s))) 143 (t1_s fun s => .bool (allP isPl s))) 144 (t1_s fun s => .str (trimP s)))
theorem sFieldOk_C_ok : ∀ fn, Sound Kx fn (sFieldOk_C fn) := (sound_add (sound_add (sound_add (sound_no Kx) sToken_okQ) splains_okQ) strim_okQ)
def sFieldOk_br (a b : Bytes) : Br := (Br.ite (decide (((List.length a) : Int) ≤ (40 : Int))) (Br.ite (tokP a) (Br.ite (decide (((List.length b) : Int) ≤ (190 : Int))) (Br.ite (isM b) (Br.ite (allP isPl b) (Br.ite (isM b) (Br.ite (decide ((trimP b) = b)) (Br.ret (AV.bool true) ([] : List Ob)) (Br.ret (AV.bool false) ([] : List Ob))) Br.fail) (Br.ret (AV.bool false) ([] : List Ob))) Br.fail) (Br.ret (AV.bool false) ([] : List Ob))) (Br.ret (AV.bool false) ([] : List Ob))) (Br.ret (AV.bool false) ([] : List Ob)))
theorem sFieldOk_run (a b : Bytes) : runF Kx sFieldOk_C sFieldOk_O 1 Tryz.f98 ([.agg [.str a, .str b]]) ([]) = (sFieldOk_br a b).val := by kernel_rfl
def sFieldOk_s : List AV → List Ob → Br
  | [.agg [.str a, .str b]], [] => sFieldOk_br a b
  | _, _ => .fail
theorem sFieldOk_ok : Sound Kx 98 sFieldOk_s := by
  refine sound_run (C := sFieldOk_C) (O := sFieldOk_O) KOk sFieldOk_C_ok Tryz.func98 (by kernel_rfl) fun args objs res os h => ?_
  unfold sFieldOk_s at h
  split at h
  · exact ⟨1, (sFieldOk_run _ _).trans h⟩
  · cases h

def srequest_O : Opt := { cons := [], keepNil := false, mutF := [], live := [], outs := [] }
def srequest_C : Spec := (add (add noS 142 (t0_s fun s => .bool (tokP s))) 157 (t1_s fun s => .bool (allP isVis s && decide ((0 : Int) < (s.length : Int)))))
theorem srequest_C_ok : ∀ fn, Sound Kx fn (srequest_C fn) := (sound_add (sound_add (sound_no Kx) sToken_okQ) svis_okQ)
def srequest_br (me ta : Bytes) (st : Int) (re : Bytes) (ba : Bool) (fs : List (Bytes × Bytes)) (bo : Bytes) : Br := (Br.ite (decide (((List.length me) : Int) ≤ (20 : Int))) (Br.ite (tokP me) (Br.ite (decide (((List.length ta) : Int) ≤ (200 : Int))) (Br.ite (isM ta) (Br.ite ((allP isVis ta) && (decide ((0 : Int) < ((List.length ta) : Int)))) (Br.ite (decide (st = (0 : Int))) (Br.ite (decide (re = ([] : Bytes))) (Br.ret (AV.bool (!ba)) ([] : List Ob)) (Br.ret (AV.bool false) ([] : List Ob))) (Br.ret (AV.bool false) ([] : List Ob))) (Br.ret (AV.bool false) ([] : List Ob))) Br.fail) (Br.ret (AV.bool false) ([] : List Ob))) (Br.ret (AV.bool false) ([] : List Ob))) (Br.ret (AV.bool false) ([] : List Ob)))
theorem srequest_run (me ta : Bytes) (st : Int) (re : Bytes) (ba : Bool) (fs : List (Bytes × Bytes)) (bo : Bytes) : runF Kx srequest_C srequest_O 1 Tryz.f112 ([.agg [.str me, .str ta, .int .i64 st, .str re, .bool ba, .sh (.pair .str .str) fs, .str bo]]) ([]) = (srequest_br me ta st re ba fs bo).val := by kernel_rfl
def srequest_s : List AV → List Ob → Br
  | [.agg [.str me, .str ta, .int .i64 st, .str re, .bool ba, .sh (.pair .str .str) fs, .str bo]], [] => srequest_br me ta st re ba fs bo
  | _, _ => .fail
theorem srequest_ok : Sound Kx 112 srequest_s := by
  refine sound_run (C := srequest_C) (O := srequest_O) KOk srequest_C_ok Tryz.func112 (by kernel_rfl) fun args objs res os h => ?_
  unfold srequest_s at h
  split at h
  · exact ⟨1, (srequest_run _ _ _ _ _ _ _).trans h⟩
  · cases h

def sanswer2_O : Opt := { cons := [], keepNil := false, mutF := [], live := [], outs := [] }
def sanswer2_C : Spec := (add (add noS 143 (t1_s fun s => .bool (allP isPl s))) 158 (pn_s isBar))
theorem sanswer2_C_ok : ∀ fn, Sound Kx fn (sanswer2_C fn) := (sound_add (sound_add (sound_no Kx) splains_okQ) sbare_okQ)
def sanswer2_br (me ta : Bytes) (st : Int) (re : Bytes) (ba : Bool) (fs : List (Bytes × Bytes)) (bo : Bytes) : Br := (Br.ite (!(decide (ta = ([] : Bytes)))) (Br.ret (AV.bool false) ([] : List Ob)) (Br.ite (decide (st < (200 : Int))) (Br.ret (AV.bool false) ([] : List Ob)) (Br.ite (decide ((599 : Int) < st)) (Br.ret (AV.bool false) ([] : List Ob)) (Br.ite (decide ((40 : Int) < ((List.length re) : Int))) (Br.ret (AV.bool false) ([] : List Ob)) (Br.ite (isM re) (Br.ite (!(allP isPl re)) (Br.ret (AV.bool false) ([] : List Ob)) (Br.ite ba (Br.ite (!(decide (bo = ([] : Bytes)))) (Br.ret (AV.bool false) ([] : List Ob)) (Br.ite ba (Br.ret (AV.bool true) ([] : List Ob)) (Br.ret (AV.bool (!(isBar st))) ([] : List Ob)))) (Br.ite ba (Br.ret (AV.bool true) ([] : List Ob)) (Br.ret (AV.bool (!(isBar st))) ([] : List Ob))))) Br.fail)))))
theorem sanswer2_run (me ta : Bytes) (st : Int) (re : Bytes) (ba : Bool) (fs : List (Bytes × Bytes)) (bo : Bytes) : runF Kx sanswer2_C sanswer2_O 1 Tryz.f113 ([.agg [.str me, .str ta, .int .i64 st, .str re, .bool ba, .sh (.pair .str .str) fs, .str bo]]) ([]) = (sanswer2_br me ta st re ba fs bo).val := by kernel_rfl
def sanswer2_s : List AV → List Ob → Br
  | [.agg [.str me, .str ta, .int .i64 st, .str re, .bool ba, .sh (.pair .str .str) fs, .str bo]], [] => sanswer2_br me ta st re ba fs bo
  | _, _ => .fail
theorem sanswer2_ok : Sound Kx 113 sanswer2_s := by
  refine sound_run (C := sanswer2_C) (O := sanswer2_O) KOk sanswer2_C_ok Tryz.func113 (by kernel_rfl) fun args objs res os h => ?_
  unfold sanswer2_s at h
  split at h
  · exact ⟨1, (sanswer2_run _ _ _ _ _ _ _).trans h⟩
  · cases h

end
end Go.Proofs.YtmmjaomfonknnaaGreatDoor.Ev

namespace Go.Proofs.YtmmjaomfonknnaaGreatDoor.Ev
open Go Go.RowKit
set_option linter.unusedVariables false
set_option linter.unusedSimpArgs false
noncomputable section

abbrev Fd := Bytes × Bytes
def fdOk (f : Fd) : Bool := tokP f.1 && decide (f.1.length ≤ 40) && decide (f.2.length ≤ 190) && allP isPl f.2 && decide (trimP f.2 = f.2)
def fd_s (p : Fd → AV) : List AV → List Ob → Br
  | [.agg [.str a, .str b]], [] => .ret (p (a, b)) []
  | _, _ => .fail
theorem of_fd {n : Nat} {s : List AV → List Ob → Br} (hs : Sound Kx n s) {p : Fd → AV} (h : ∀ a b, (s [.agg [.str a, .str b]] []).val = some (p (a, b), [])) : Sound Kx n (fd_s p) := hs.of fun args objs r hv => by
  unfold fd_s at hv
  split at hv
  · rw [h]; exact hv
  · cases hv
theorem iFieldOk_okQ : Sound Kx 101 (fd_s fun f => .bool (fdOk f)) := of_fd iFieldOk_ok fun a b => by
  show (iFieldOk_br a b).val = _
  unfold iFieldOk_br fdOk
  have e1 : decide ((a.length : Int) ≤ 40) = decide (a.length ≤ 40) := lenle a 40
  have e2 : decide ((b.length : Int) ≤ 190) = decide (b.length ≤ 190) := lenle b 190
  simp only [e1, e2]
  by_cases h : b.length ≤ 190
  · simp only [h, isM_of h, decide_true, Bool.and_true]
    cases tokP a <;> cases decide (a.length ≤ 40) <;> cases allP isPl b <;> cases decide (trimP b = b) <;> rfl
  · simp only [h, decide_false]
    cases tokP a <;> cases decide (a.length ≤ 40) <;> rfl
theorem sFieldOk_okQ : Sound Kx 98 (fd_s fun f => .bool (fdOk f)) := of_fd sFieldOk_ok fun a b => by
  show (sFieldOk_br a b).val = _
  unfold sFieldOk_br fdOk
  have e1 : decide ((a.length : Int) ≤ 40) = decide (a.length ≤ 40) := lenle a 40
  have e2 : decide ((b.length : Int) ≤ 190) = decide (b.length ≤ 190) := lenle b 190
  simp only [e1, e2]
  by_cases h : b.length ≤ 190
  · simp only [h, isM_of h, decide_true, Bool.and_true]
    cases tokP a <;> cases decide (a.length ≤ 40) <;> cases allP isPl b <;> cases decide (trimP b = b) <;> rfl
  · simp only [h, decide_false]
    cases tokP a <;> cases decide (a.length ≤ 40) <;> rfl
def methodP (s : Bytes) : Bool := tokP s && decide (s.length ≤ 20)
theorem isMethod_okQ : Sound Kx 117 (t0_s fun s => .bool (methodP s)) := of_t0 isMethod_ok fun s => by
  show (isMethod_br s).val = _
  unfold isMethod_br methodP
  have e1 : decide ((s.length : Int) ≤ 20) = decide (s.length ≤ 20) := lenle s 20
  simp only [e1]
  exact v_and _ _

abbrev Mg := Bytes × Bytes × Int × Bytes × Bool × List Fd × Bytes
def reqP (me ta : Bytes) (st : Int) (re : Bytes) (ba : Bool) : Bool := methodP me && targetP ta && decide (st = 0) && decide (re = []) && !ba
def ansP (ta : Bytes) (st : Int) (re : Bytes) (ba : Bool) (bo : Bytes) : Bool := decide (ta = []) && isSta st && reasonP re && !(ba && !decide (bo = [])) && !(isBar st && !ba)
def mg_s (p : Mg → AV) : List AV → List Ob → Br
  | [.agg [.str me, .str ta, .int .i64 st, .str re, .bool ba, .sh (.pair .str .str) fs, .str bo]], [] => .ret (p (me, ta, st, re, ba, fs, bo)) []
  | _, _ => .fail
theorem of_mg {n : Nat} {s : List AV → List Ob → Br} (hs : Sound Kx n s) {p : Mg → AV} (h : ∀ me ta st re ba fs bo, (s [.agg [.str me, .str ta, .int .i64 st, .str re, .bool ba, .sh (.pair .str .str) fs, .str bo]] []).val = some (p (me, ta, st, re, ba, fs, bo), [])) : Sound Kx n (mg_s p) := hs.of fun args objs r hv => by
  unfold mg_s at hv
  split at hv
  · rw [h]; exact hv
  · cases hv
theorem srequest_okQ : Sound Kx 112 (mg_s fun m => .bool (reqP m.1 m.2.1 m.2.2.1 m.2.2.2.1 m.2.2.2.2.1)) := of_mg srequest_ok fun me ta st re ba fs bo => by
  show (srequest_br me ta st re ba fs bo).val = some (.bool (reqP me ta st re ba), [])
  unfold srequest_br reqP methodP targetP
  have e1 : decide ((me.length : Int) ≤ 20) = decide (me.length ≤ 20) := lenle me 20
  have e2 : decide ((ta.length : Int) ≤ 200) = decide (ta.length ≤ 200) := lenle ta 200
  have e3 : decide ((0 : Int) < (ta.length : Int)) = decide (1 ≤ ta.length) := by congr 1; apply propext; omega
  simp only [e1, e2, e3]
  by_cases h : ta.length ≤ 200
  · simp only [h, isM_of h, decide_true, Bool.and_true]
    cases decide (me.length ≤ 20) <;> cases tokP me <;> cases allP isVis ta <;> cases decide (1 ≤ ta.length) <;> cases decide (st = 0) <;> cases decide (re = []) <;> rfl
  · simp only [h, decide_false, Bool.and_false, Bool.false_and]
    cases decide (me.length ≤ 20) <;> cases tokP me <;> rfl
theorem sanswer_okQ : Sound Kx 113 (mg_s fun m => .bool (ansP m.2.1 m.2.2.1 m.2.2.2.1 m.2.2.2.2.1 m.2.2.2.2.2.2)) := of_mg sanswer2_ok fun me ta st re ba fs bo => by
  show (sanswer2_br me ta st re ba fs bo).val = some (.bool (ansP ta st re ba bo), [])
  unfold sanswer2_br ansP reasonP isSta
  have e1 : decide ((40 : Int) < (re.length : Int)) = !decide (re.length ≤ 40) := by by_cases h : re.length ≤ 40 <;> simp [h] <;> omega
  have e2 : decide (st < 200) = !decide (200 ≤ st) := by by_cases h : 200 ≤ st <;> simp [h] <;> omega
  have e3 : decide (599 < st) = !decide (st ≤ 599) := by by_cases h : st ≤ 599 <;> simp [h] <;> omega
  simp only [e1, e2, e3]
  by_cases h : re.length ≤ 40
  · simp only [h, isM_of h, decide_true, Bool.not_true, Bool.true_and]
    cases decide (ta = []) <;> cases decide (200 ≤ st) <;> cases decide (st ≤ 599) <;> cases allP isPl re <;> cases ba <;> cases decide (bo = []) <;> cases isBar st <;> rfl
  · simp only [h, decide_false, Bool.not_false, Bool.false_and, Bool.and_false]
    cases decide (ta = []) <;> cases decide (200 ≤ st) <;> cases decide (st ≤ 599) <;> rfl

end
end Go.Proofs.YtmmjaomfonknnaaGreatDoor.Ev

namespace Go.Proofs.YtmmjaomfonknnaaGreatDoor.Ev
open Go Go.RowKit
set_option linter.unusedVariables false
set_option linter.unusedSimpArgs false
noncomputable section

def iFieldsOk_O : Opt := { cons := [], keepNil := false, mutF := [], live := [(4, [8, 9, 10])], outs := [(4, [2])] }
def iFieldsOk_C : Spec := (add noS 101 (fd_s fun f => .bool (fdOk f)))
theorem iFieldsOk_C_ok : ∀ fn, Sound Kx fn (iFieldsOk_C fn) := (sound_add (sound_no Kx) iFieldOk_okQ)
def iFieldsOk_T4 (v4x0 : (List Fd)) (v4x1 : Int) (v4x2 : Int) (kR4 : (List Fd) → Int → Int → Option Rs) (k4e0 : Option Rs) (k4e1 : Option Rs) : Option Rs :=
  (bif (decide (v4x2 < v4x1)) then (bif (decide ((0 : Int) ≤ v4x2)) then (bif (decide (v4x2 < ((List.length v4x0) : Int))) then (bif (!(fdOk ((List.getD v4x0 (Int.toNat v4x2) (([] : Bytes), ([] : Bytes))).1, (List.getD v4x0 (Int.toNat v4x2) (([] : Bytes), ([] : Bytes))).2))) then k4e0 else (kR4 v4x0 v4x1 (wk64 (v4x2 + (1 : Int))))) else (none)) else (none)) else k4e1)
def iFieldsOk_F4 : Nat → (List Fd) → Int → Int → (Option Rs) → (Option Rs) → Option Rs
  | 0, _, _, _, _, _ => none
  | n + 1, v4x0, v4x1, v4x2, k4e0, k4e1 => iFieldsOk_T4 v4x0 v4x1 v4x2 (fun v4x0 v4x1 v4x2 => iFieldsOk_F4 n v4x0 v4x1 v4x2 k4e0 k4e1) k4e0 k4e1
def iFieldsOk_h4 (v4x0 : (List Fd)) (v4x1 : Int) (v4x2 : Int) : St := (St.mk (slots 0 18 [(8, (AV.sh (Ty.pair Ty.str Ty.str) v4x0)), (9, (AV.int .i64 v4x1)), (10, (AV.int .i64 v4x2))]) ([] : (List (Nat × (Ob)))))
def iFieldsOk_x4e0  : St := (St.mk (slots 0 18 [(2, (AV.bool false))]) ([] : (List (Nat × (Ob)))))
def iFieldsOk_x4e1  : St := (St.mk (slots 0 18 []) ([] : (List (Nat × (Ob)))))
noncomputable def iFieldsOk_b4 : Code := codeAt (codeOf Tryz.f65) [1, 1, 0, 1, 0, 0]
def iFieldsOk_L4 (N : Nat) (st : St) (k : Ex → St → Option Rs) : Option Rs := match takeF [8, 9, 10] 0 18 st.env, st.objs with
  | some [.sh (Ty.pair Ty.str Ty.str) v4x0, .int .i64 v4x1, .int .i64 v4x2], [] => iFieldsOk_F4 N v4x0 v4x1 v4x2 (k Ex.ret (iFieldsOk_x4e0)) (k (Ex.exit (0 : Nat)) (iFieldsOk_x4e1))
  | _, _ => none
def iFieldsOk_L (N : Nat) : Lam := fun j st k => match j with
  | 4 => iFieldsOk_L4 N st k
  | _ => none
theorem iFieldsOk_round4 (N : Nat) (again : St → Option Rs) (k : Ex → St → Option Rs) (wv4x0 : (List Fd)) (wv4x1 : Int) (wv4x2 : Int) (v4x0 : (List Fd)) (v4x1 : Int) (v4x2 : Int) :
    roundK 0 (fun st k => evL Kx iFieldsOk_C iFieldsOk_O 0 (iFieldsOk_L N) iFieldsOk_b4 st k) (iFieldsOk_h4 wv4x0 wv4x1 wv4x2).env again (iFieldsOk_h4 v4x0 v4x1 v4x2) (outK iFieldsOk_O 0 iFieldsOk_b4 k) = iFieldsOk_T4 v4x0 v4x1 v4x2 (fun v4x0 v4x1 v4x2 => again (iFieldsOk_h4 v4x0 v4x1 v4x2)) (k Ex.ret (iFieldsOk_x4e0)) (k (Ex.exit (0 : Nat)) (iFieldsOk_x4e1)) := by kernel_rfl
theorem iFieldsOk_loop4 (N : Nat) (k : Ex → St → Option Rs) (wv4x0 : (List Fd)) (wv4x1 : Int) (wv4x2 : Int) : ∀ (n : Nat) (v4x0 : (List Fd)) (v4x1 : Int) (v4x2 : Int),
    loopK 0 (fun st k => evL Kx iFieldsOk_C iFieldsOk_O 0 (iFieldsOk_L N) iFieldsOk_b4 st k) (iFieldsOk_h4 wv4x0 wv4x1 wv4x2).env n (iFieldsOk_h4 v4x0 v4x1 v4x2) (outK iFieldsOk_O 0 iFieldsOk_b4 k) = iFieldsOk_F4 n v4x0 v4x1 v4x2 (k Ex.ret (iFieldsOk_x4e0)) (k (Ex.exit (0 : Nat)) (iFieldsOk_x4e1))
  | 0, _, _, _ => rfl
  | n + 1, v4x0, v4x1, v4x2 => by
    rw [loopK_succ, iFieldsOk_round4]
    simp only [iFieldsOk_loop4 N k wv4x0 wv4x1 wv4x2 n]
    rfl
theorem iFieldsOk_at4 (N : Nat) {s : St} {k : Ex → St → Option Rs} {r : Rs} (h : iFieldsOk_L4 N s k = some r) : ∃ (v4x0 : (List Fd)) (v4x1 : Int) (v4x2 : Int), s = (iFieldsOk_h4 v4x0 v4x1 v4x2) ∧ iFieldsOk_F4 N v4x0 v4x1 v4x2 (k Ex.ret (iFieldsOk_x4e0)) (k (Ex.exit (0 : Nat)) (iFieldsOk_x4e1)) = some r := by
  cases s with | mk env objs =>
  unfold iFieldsOk_L4 at h
  split at h
  · rename_i e1 e2
    have e3 := takeF_slots _ _ _ _ e1
    simp only at e2 e3
    subst e2 e3
    exact ⟨_, _, _, rfl, h⟩
  · cases h
theorem iFieldsOk_in4 : loops iFieldsOk_b4 = [] := by kernel_rfl
theorem iFieldsOk_lid4 : lid iFieldsOk_b4 = 4 := by kernel_rfl
theorem iFieldsOk_ok4 (N : Nat) : OkL Kx iFieldsOk_C iFieldsOk_O 0 N (iFieldsOk_L N) iFieldsOk_b4 := by
  intro s k k' r hk h
  rw [iFieldsOk_lid4] at h
  obtain ⟨v4x0, v4x1, v4x2, rfl, h⟩ := iFieldsOk_at4 N h
  refine loopL (Λ := iFieldsOk_L N) iFieldsOk_b4 ?_ N hk ((iFieldsOk_loop4 N k v4x0 v4x1 v4x2 N v4x0 v4x1 v4x2).trans h)
  rw [iFieldsOk_in4]
  exact fun _ h => nomatch h
def iFieldsOk_run (N : Nat) (l : List Fd) : Option Rs := (bif (decide ((20 : Int) < ((List.length l) : Int))) then (some ((AV.bool false), ([] : List Ob))) else (iFieldsOk_F4 N l ((List.length l) : Int) (0 : Int) (some ((AV.bool false), ([] : List Ob))) (some ((AV.bool true), ([] : List Ob)))))
theorem iFieldsOk_runL (N : Nat) (l : List Fd) : runL Kx iFieldsOk_C iFieldsOk_O (iFieldsOk_L N) Tryz.f65 ([.sh (.pair .str .str) l]) ([]) = iFieldsOk_run N l := by kernel_rfl
theorem iFieldsOk_body : Tryz.f65.body = some (codeOf Tryz.f65) := by kernel_rfl
theorem iFieldsOk_loops : loops (codeOf Tryz.f65) = [iFieldsOk_b4] := by kernel_rfl
theorem iFieldsOk_ev (N : Nat) (l : List Fd) {res_ : Rs} (hyp_ : iFieldsOk_run N l = some res_) : ∃ n_, runF Kx iFieldsOk_C iFieldsOk_O n_ Tryz.f65 ([.sh (.pair .str .str) l]) ([]) = some res_ :=
  ⟨N, runL_runF iFieldsOk_body (by rw [iFieldsOk_loops]; exact List.forall_mem_cons.2 ⟨iFieldsOk_ok4 N, fun _ h => nomatch h⟩) ((iFieldsOk_runL N l).trans hyp_)⟩
def iFieldsOk_sOf (φ : (List Fd) → Br) : List AV → List Ob → Br
  | [.sh (.pair .str .str) l], [] => φ l
  | _, _ => .fail
theorem iFieldsOk_okOf {φ : (List Fd) → Br} (fu : (List Fd) → Nat) (hv : ∀ l res_, (φ l).val = some res_ → iFieldsOk_run (fu l) l = some res_) : Sound Kx 65 (iFieldsOk_sOf φ) := by
  refine sound_run (C := iFieldsOk_C) (O := iFieldsOk_O) KOk iFieldsOk_C_ok Tryz.func65 (by kernel_rfl) fun args objs res os h => ?_
  unfold iFieldsOk_sOf at h
  split at h
  · exact iFieldsOk_ev _ _ (hv _ _ h)
  · cases h

def sFieldsOk_O : Opt := { cons := [], keepNil := false, mutF := [], live := [(4, [0, 3])], outs := [(4, [2])] }
def sFieldsOk_C : Spec := (add noS 98 (fd_s fun f => .bool (fdOk f)))
theorem sFieldsOk_C_ok : ∀ fn, Sound Kx fn (sFieldsOk_C fn) := (sound_add (sound_no Kx) sFieldOk_okQ)
def sFieldsOk_T4 (v4x0 : (List Fd)) (v4x1 : Int) (kR4 : (List Fd) → Int → Option Rs) (k4e0 : Option Rs) (k4e1 : Option Rs) : Option Rs :=
  (bif (decide (v4x1 < ((List.length v4x0) : Int))) then (bif (decide ((0 : Int) ≤ v4x1)) then (bif (decide (v4x1 < ((List.length v4x0) : Int))) then (bif (!(fdOk ((List.getD v4x0 (Int.toNat v4x1) (([] : Bytes), ([] : Bytes))).1, (List.getD v4x0 (Int.toNat v4x1) (([] : Bytes), ([] : Bytes))).2))) then k4e0 else (kR4 v4x0 (wk64 (v4x1 + (1 : Int))))) else (none)) else (none)) else k4e1)
def sFieldsOk_F4 : Nat → (List Fd) → Int → (Option Rs) → (Option Rs) → Option Rs
  | 0, _, _, _, _ => none
  | n + 1, v4x0, v4x1, k4e0, k4e1 => sFieldsOk_T4 v4x0 v4x1 (fun v4x0 v4x1 => sFieldsOk_F4 n v4x0 v4x1 k4e0 k4e1) k4e0 k4e1
def sFieldsOk_h4 (v4x0 : (List Fd)) (v4x1 : Int) : St := (St.mk (slots 0 19 [(0, (AV.sh (Ty.pair Ty.str Ty.str) v4x0)), (3, (AV.int .i64 v4x1))]) ([] : (List (Nat × (Ob)))))
def sFieldsOk_x4e0  : St := (St.mk (slots 0 19 [(2, (AV.bool false))]) ([] : (List (Nat × (Ob)))))
def sFieldsOk_x4e1  : St := (St.mk (slots 0 19 []) ([] : (List (Nat × (Ob)))))
noncomputable def sFieldsOk_b4 : Code := codeAt (codeOf Tryz.f59) [1, 1, 0, 1, 0, 0]
def sFieldsOk_L4 (N : Nat) (st : St) (k : Ex → St → Option Rs) : Option Rs := match takeF [0, 3] 0 19 st.env, st.objs with
  | some [.sh (Ty.pair Ty.str Ty.str) v4x0, .int .i64 v4x1], [] => sFieldsOk_F4 N v4x0 v4x1 (k Ex.ret (sFieldsOk_x4e0)) (k (Ex.exit (0 : Nat)) (sFieldsOk_x4e1))
  | _, _ => none
def sFieldsOk_L (N : Nat) : Lam := fun j st k => match j with
  | 4 => sFieldsOk_L4 N st k
  | _ => none
theorem sFieldsOk_round4 (N : Nat) (again : St → Option Rs) (k : Ex → St → Option Rs) (wv4x0 : (List Fd)) (wv4x1 : Int) (v4x0 : (List Fd)) (v4x1 : Int) :
    roundK 0 (fun st k => evL Kx sFieldsOk_C sFieldsOk_O 0 (sFieldsOk_L N) sFieldsOk_b4 st k) (sFieldsOk_h4 wv4x0 wv4x1).env again (sFieldsOk_h4 v4x0 v4x1) (outK sFieldsOk_O 0 sFieldsOk_b4 k) = sFieldsOk_T4 v4x0 v4x1 (fun v4x0 v4x1 => again (sFieldsOk_h4 v4x0 v4x1)) (k Ex.ret (sFieldsOk_x4e0)) (k (Ex.exit (0 : Nat)) (sFieldsOk_x4e1)) := by kernel_rfl
theorem sFieldsOk_loop4 (N : Nat) (k : Ex → St → Option Rs) (wv4x0 : (List Fd)) (wv4x1 : Int) : ∀ (n : Nat) (v4x0 : (List Fd)) (v4x1 : Int),
    loopK 0 (fun st k => evL Kx sFieldsOk_C sFieldsOk_O 0 (sFieldsOk_L N) sFieldsOk_b4 st k) (sFieldsOk_h4 wv4x0 wv4x1).env n (sFieldsOk_h4 v4x0 v4x1) (outK sFieldsOk_O 0 sFieldsOk_b4 k) = sFieldsOk_F4 n v4x0 v4x1 (k Ex.ret (sFieldsOk_x4e0)) (k (Ex.exit (0 : Nat)) (sFieldsOk_x4e1))
  | 0, _, _ => rfl
  | n + 1, v4x0, v4x1 => by
    rw [loopK_succ, sFieldsOk_round4]
    simp only [sFieldsOk_loop4 N k wv4x0 wv4x1 n]
    rfl
theorem sFieldsOk_at4 (N : Nat) {s : St} {k : Ex → St → Option Rs} {r : Rs} (h : sFieldsOk_L4 N s k = some r) : ∃ (v4x0 : (List Fd)) (v4x1 : Int), s = (sFieldsOk_h4 v4x0 v4x1) ∧ sFieldsOk_F4 N v4x0 v4x1 (k Ex.ret (sFieldsOk_x4e0)) (k (Ex.exit (0 : Nat)) (sFieldsOk_x4e1)) = some r := by
  cases s with | mk env objs =>
  unfold sFieldsOk_L4 at h
  split at h
  · rename_i e1 e2
    have e3 := takeF_slots _ _ _ _ e1
    simp only at e2 e3
    subst e2 e3
    exact ⟨_, _, rfl, h⟩
  · cases h
theorem sFieldsOk_in4 : loops sFieldsOk_b4 = [] := by kernel_rfl
theorem sFieldsOk_lid4 : lid sFieldsOk_b4 = 4 := by kernel_rfl
theorem sFieldsOk_ok4 (N : Nat) : OkL Kx sFieldsOk_C sFieldsOk_O 0 N (sFieldsOk_L N) sFieldsOk_b4 := by
  intro s k k' r hk h
  rw [sFieldsOk_lid4] at h
  obtain ⟨v4x0, v4x1, rfl, h⟩ := sFieldsOk_at4 N h
  refine loopL (Λ := sFieldsOk_L N) sFieldsOk_b4 ?_ N hk ((sFieldsOk_loop4 N k v4x0 v4x1 N v4x0 v4x1).trans h)
  rw [sFieldsOk_in4]
  exact fun _ h => nomatch h
def sFieldsOk_run (N : Nat) (l : List Fd) : Option Rs := (bif (decide ((20 : Int) < ((List.length l) : Int))) then (some ((AV.bool false), ([] : List Ob))) else (sFieldsOk_F4 N l (0 : Int) (some ((AV.bool false), ([] : List Ob))) (some ((AV.bool true), ([] : List Ob)))))
theorem sFieldsOk_runL (N : Nat) (l : List Fd) : runL Kx sFieldsOk_C sFieldsOk_O (sFieldsOk_L N) Tryz.f59 ([.sh (.pair .str .str) l]) ([]) = sFieldsOk_run N l := by kernel_rfl
theorem sFieldsOk_body : Tryz.f59.body = some (codeOf Tryz.f59) := by kernel_rfl
theorem sFieldsOk_loops : loops (codeOf Tryz.f59) = [sFieldsOk_b4] := by kernel_rfl
theorem sFieldsOk_ev (N : Nat) (l : List Fd) {res_ : Rs} (hyp_ : sFieldsOk_run N l = some res_) : ∃ n_, runF Kx sFieldsOk_C sFieldsOk_O n_ Tryz.f59 ([.sh (.pair .str .str) l]) ([]) = some res_ :=
  ⟨N, runL_runF sFieldsOk_body (by rw [sFieldsOk_loops]; exact List.forall_mem_cons.2 ⟨sFieldsOk_ok4 N, fun _ h => nomatch h⟩) ((sFieldsOk_runL N l).trans hyp_)⟩
def sFieldsOk_sOf (φ : (List Fd) → Br) : List AV → List Ob → Br
  | [.sh (.pair .str .str) l], [] => φ l
  | _, _ => .fail
theorem sFieldsOk_okOf {φ : (List Fd) → Br} (fu : (List Fd) → Nat) (hv : ∀ l res_, (φ l).val = some res_ → sFieldsOk_run (fu l) l = some res_) : Sound Kx 59 (sFieldsOk_sOf φ) := by
  refine sound_run (C := sFieldsOk_C) (O := sFieldsOk_O) KOk sFieldsOk_C_ok Tryz.func59 (by kernel_rfl) fun args objs res os h => ?_
  unfold sFieldsOk_sOf at h
  split at h
  · exact sFieldsOk_ev _ _ (hv _ _ h)
  · cases h

def sFieldText_O : Opt := { cons := [], keepNil := false, mutF := [], live := [], outs := [] }
def sFieldText_C : Spec := (add noS 98 (fd_s fun f => .bool (fdOk f)))
theorem sFieldText_C_ok : ∀ fn, Sound Kx fn (sFieldText_C fn) := (sound_add (sound_no Kx) sFieldOk_okQ)
def sFieldText_br (a b : Bytes) : Br := (Br.ite (!(fdOk (a, b))) (Br.ret (AV.str ([] : Bytes)) ([] : List Ob)) (Br.ite (decide (((List.length a) + (2 : Nat)) ≤ (9223372036854775807 : Nat))) (Br.ite (decide (((List.length (a ++ ((58 : UInt8) :: ((32 : UInt8) :: ([] : Bytes))))) + (List.length b)) ≤ (9223372036854775807 : Nat))) (Br.ret (AV.str ((a ++ ((58 : UInt8) :: ((32 : UInt8) :: ([] : Bytes)))) ++ b)) ([] : List Ob)) Br.fail) Br.fail))
theorem sFieldText_run (a b : Bytes) : runF Kx sFieldText_C sFieldText_O 1 Tryz.f159 ([.agg [.str a, .str b]]) ([]) = (sFieldText_br a b).val := by kernel_rfl
def sFieldText_s : List AV → List Ob → Br
  | [.agg [.str a, .str b]], [] => sFieldText_br a b
  | _, _ => .fail
theorem sFieldText_ok : Sound Kx 159 sFieldText_s := by
  refine sound_run (C := sFieldText_C) (O := sFieldText_O) KOk sFieldText_C_ok Tryz.func159 (by kernel_rfl) fun args objs res os h => ?_
  unfold sFieldText_s at h
  split at h
  · exact ⟨1, (sFieldText_run _ _).trans h⟩
  · cases h

end
end Go.Proofs.YtmmjaomfonknnaaGreatDoor.Ev

namespace Go.Proofs.YtmmjaomfonknnaaGreatDoor.Ev
open Go Go.RowKit
set_option linter.unusedVariables false
set_option linter.unusedSimpArgs false
noncomputable section

def fdsOk (l : List Fd) : Bool := decide (l.length ≤ 20) && l.all fdOk
def fl_s (p : List Fd → AV) : List AV → List Ob → Br
  | [.sh (.pair .str .str) l], [] => .ret (p l) []
  | _, _ => .fail
theorem of_fl {n : Nat} {s : List AV → List Ob → Br} (hs : Sound Kx n s) {p : List Fd → AV} (h : ∀ l, (s [.sh (.pair .str .str) l] []).val = some (p l, [])) : Sound Kx n (fl_s p) := hs.of fun args objs r hv => by
  unfold fl_s at hv
  split at hv
  · rw [h]; exact hv
  · cases hv
theorem lengtI {α : Type} (l : List α) (n : Nat) : decide ((n : Int) < (l.length : Int)) = !decide (l.length ≤ n) := by by_cases h : l.length ≤ n <;> simp [h] <;> omega
theorem iFieldsOk_loop (l : List Fd) (hl : l.length ≤ 4611686018427387904) (k0 k1 : Option Rs) : ∀ (r : List Fd) (i : Int) (n : Nat), At l i r → r.length < n → iFieldsOk_F4 n l (l.length : Int) i k0 k1 = bif r.all fdOk then k1 else k0 := by
  intro r; induction r with
  | nil => intro i n h hn; obtain ⟨n, rfl⟩ := fuel hn; unfold iFieldsOk_F4 iFieldsOk_T4; simp only [h.dge, cond_false, List.all_nil, cond_true]
  | cons a r ih =>
    intro i n h hn; obtain ⟨n, rfl⟩ := fuel hn
    have hs := ih (i + 1) n h.step (by simp at hn; omega)
    unfold iFieldsOk_F4 iFieldsOk_T4; simp only [h.dlt, h.dnn, h.get, cond_true, h.next hl, hs, List.all_cons]
    cases fdOk a <;> rfl
theorem iFieldsOk_okQ : Sound Kx 65 (fl_s fun l => .bool (fdsOk l)) := by
  refine of_fl (iFieldsOk_okOf (φ := fun l => .ret (.bool (fdsOk l)) []) (fun l => l.length + 1) fun l r h => ?_) fun _ => rfl
  cases h
  unfold iFieldsOk_run fdsOk
  have e := lengtI l 20
  simp only [show ((20 : Nat) : Int) = 20 from rfl] at e
  rw [e]
  by_cases h : l.length ≤ 20
  · simp only [h, decide_true, Bool.not_true, cond_false, Bool.true_and]
    rw [iFieldsOk_loop l (by omega) _ _ l 0 _ (At.start l) (by omega)]
    cases l.all fdOk <;> rfl
  · simp only [h, decide_false, Bool.not_false, cond_true, Bool.false_and]
theorem sFieldsOk_loop (l : List Fd) (hl : l.length ≤ 4611686018427387904) (k0 k1 : Option Rs) : ∀ (r : List Fd) (i : Int) (n : Nat), At l i r → r.length < n → sFieldsOk_F4 n l i k0 k1 = bif r.all fdOk then k1 else k0 := by
  intro r; induction r with
  | nil => intro i n h hn; obtain ⟨n, rfl⟩ := fuel hn; unfold sFieldsOk_F4 sFieldsOk_T4; simp only [h.dge, cond_false, List.all_nil, cond_true]
  | cons a r ih =>
    intro i n h hn; obtain ⟨n, rfl⟩ := fuel hn
    have hs := ih (i + 1) n h.step (by simp at hn; omega)
    unfold sFieldsOk_F4 sFieldsOk_T4; simp only [h.dlt, h.dnn, h.get, cond_true, h.next hl, hs, List.all_cons]
    cases fdOk a <;> rfl
theorem sFieldsOk_okQ : Sound Kx 59 (fl_s fun l => .bool (fdsOk l)) := by
  refine of_fl (sFieldsOk_okOf (φ := fun l => .ret (.bool (fdsOk l)) []) (fun l => l.length + 1) fun l r h => ?_) fun _ => rfl
  cases h
  unfold sFieldsOk_run fdsOk
  have e := lengtI l 20
  simp only [show ((20 : Nat) : Int) = 20 from rfl] at e
  rw [e]
  by_cases h : l.length ≤ 20
  · simp only [h, decide_true, Bool.not_true, cond_false, Bool.true_and]
    rw [sFieldsOk_loop l (by omega) _ _ l 0 _ (At.start l) (by omega)]
    cases l.all fdOk <;> rfl
  · simp only [h, decide_false, Bool.not_false, cond_true, Bool.false_and]
def fTextP (f : Fd) : Bytes := f.1 ++ 58 :: 32 :: f.2
theorem fdOk_len {f : Fd} (h : fdOk f = true) : f.1.length ≤ 40 ∧ f.2.length ≤ 190 := by
  unfold fdOk at h; simp only [Bool.and_eq_true, decide_eq_true_eq] at h; exact ⟨h.1.1.1.2, h.1.1.2⟩
theorem sFieldText_okQ : Sound Kx 159 (fd_s fun f => .str (bif fdOk f then fTextP f else [])) := of_fd sFieldText_ok fun a b => by
  show (sFieldText_br a b).val = _
  unfold sFieldText_br
  by_cases h : fdOk (a, b) = true
  · have hl := fdOk_len h
    simp only at hl
    have e1 : decide (a.length + 2 ≤ 9223372036854775807) = true := decide_eq_true (by omega)
    have e2 : decide ((a ++ [58, 32]).length + b.length ≤ 9223372036854775807) = true := decide_eq_true (by simp; omega)
    simp only [h, Br.val, Bool.not_true, e1, e2, cond_true]
    simp [fTextP]
  · simp only [Bool.not_eq_true] at h
    simp only [h, Br.val, Bool.not_false, cond_false]

end
end Go.Proofs.YtmmjaomfonknnaaGreatDoor.Ev

namespace Go.Proofs.YtmmjaomfonknnaaGreatDoor.Ev
open Go Go.RowKit
set_option linter.unusedVariables false
set_option linter.unusedSimpArgs false
noncomputable section

def iValues_O : Opt := { cons := [], keepNil := false, mutF := [], live := [(5, [1, 5, 11, 12, 13])], outs := [(5, [4, 5])] }
def iValues_C : Spec := (add (add noS 65 (fl_s fun l => .bool (fdsOk l))) 133 same_s)
theorem iValues_C_ok : ∀ fn, Sound Kx fn (iValues_C fn) := (sound_add (sound_add (sound_no Kx) iFieldsOk_okQ) isame_okQ)
def iValues_T5 (v5x0 : Bytes) (v5x1 : (List Fd)) (v5x2 : Int) (v5x3 : Int) (v5x4 : (List Bytes)) (kR5 : Bytes → (List Fd) → Int → Int → (List Bytes) → Option Rs) (k5e0 : (List Bytes) → Option Rs) : Option Rs :=
  (bif (decide (v5x3 < v5x2)) then (bif (decide ((0 : Int) ≤ v5x3)) then (bif (decide (v5x3 < ((List.length v5x1) : Int))) then (bif ((isM (List.getD v5x1 (Int.toNat v5x3) (([] : Bytes), ([] : Bytes))).1) && (isM v5x0)) then (bif (sameP (List.getD v5x1 (Int.toNat v5x3) (([] : Bytes), ([] : Bytes))).1 v5x0) then (bif (decide ((((List.length v5x4) + (List.length (List.set (List.replicate (1 : Nat) ([] : Bytes)) (0 : Nat) (List.getD v5x1 (Int.toNat v5x3) (([] : Bytes), ([] : Bytes))).2))) * (16 : Nat)) ≤ (140737488355328 : Nat))) then (kR5 v5x0 v5x1 v5x2 (wk64 (v5x3 + (1 : Int))) (v5x4 ++ (List.set (List.replicate (1 : Nat) ([] : Bytes)) (0 : Nat) (List.getD v5x1 (Int.toNat v5x3) (([] : Bytes), ([] : Bytes))).2))) else (none)) else (kR5 v5x0 v5x1 v5x2 (wk64 (v5x3 + (1 : Int))) v5x4)) else (none)) else (none)) else (none)) else (k5e0 v5x4))
def iValues_F5 : Nat → Bytes → (List Fd) → Int → Int → (List Bytes) → ((List Bytes) → Option Rs) → Option Rs
  | 0, _, _, _, _, _, _ => none
  | n + 1, v5x0, v5x1, v5x2, v5x3, v5x4, k5e0 => iValues_T5 v5x0 v5x1 v5x2 v5x3 v5x4 (fun v5x0 v5x1 v5x2 v5x3 v5x4 => iValues_F5 n v5x0 v5x1 v5x2 v5x3 v5x4 k5e0) k5e0
def iValues_h5 (v5x0 : Bytes) (v5x1 : (List Fd)) (v5x2 : Int) (v5x3 : Int) (v5x4 : (List Bytes)) : St := (St.mk (slots 0 28 [(1, (AV.str v5x0)), (5, (AV.ref (384 : Nat) (0 : Nat))), (11, (AV.sh (Ty.pair Ty.str Ty.str) v5x1)), (12, (AV.int .i64 v5x2)), (13, (AV.int .i64 v5x3))]) (((384 : Nat), (Ob.arr Ty.str (0 : Nat) false v5x4)) :: ([] : (List (Nat × (Ob))))))
def iValues_x5e0 (x5x0x0 : (List Bytes)) : St := (St.mk (slots 0 28 [(5, (AV.ref (384 : Nat) (0 : Nat)))]) (((384 : Nat), (Ob.arr Ty.str (0 : Nat) false x5x0x0)) :: ([] : (List (Nat × (Ob))))))
noncomputable def iValues_b5 : Code := codeAt (codeOf Tryz.f93) [1, 1, 1, 0, 1, 0, 0]
def iValues_L5 (N : Nat) (st : St) (k : Ex → St → Option Rs) : Option Rs := match takeF [1, 5, 11, 12, 13] 0 28 st.env, st.objs with
  | some [.str v5x0, .ref 384 0, .sh (Ty.pair Ty.str Ty.str) v5x1, .int .i64 v5x2, .int .i64 v5x3], [(384, .arr Ty.str 0 false v5x4)] => iValues_F5 N v5x0 v5x1 v5x2 v5x3 v5x4 (fun x5x0x0 => k (Ex.exit (0 : Nat)) (iValues_x5e0 x5x0x0))
  | _, _ => none
def iValues_L (N : Nat) : Lam := fun j st k => match j with
  | 5 => iValues_L5 N st k
  | _ => none
theorem iValues_round5 (N : Nat) (again : St → Option Rs) (k : Ex → St → Option Rs) (wv5x0 : Bytes) (wv5x1 : (List Fd)) (wv5x2 : Int) (wv5x3 : Int) (wv5x4 : (List Bytes)) (v5x0 : Bytes) (v5x1 : (List Fd)) (v5x2 : Int) (v5x3 : Int) (v5x4 : (List Bytes)) :
    roundK 0 (fun st k => evL Kx iValues_C iValues_O 0 (iValues_L N) iValues_b5 st k) (iValues_h5 wv5x0 wv5x1 wv5x2 wv5x3 wv5x4).env again (iValues_h5 v5x0 v5x1 v5x2 v5x3 v5x4) (outK iValues_O 0 iValues_b5 k) = iValues_T5 v5x0 v5x1 v5x2 v5x3 v5x4 (fun v5x0 v5x1 v5x2 v5x3 v5x4 => again (iValues_h5 v5x0 v5x1 v5x2 v5x3 v5x4)) (fun x5x0x0 => k (Ex.exit (0 : Nat)) (iValues_x5e0 x5x0x0)) := by kernel_rfl
theorem iValues_loop5 (N : Nat) (k : Ex → St → Option Rs) (wv5x0 : Bytes) (wv5x1 : (List Fd)) (wv5x2 : Int) (wv5x3 : Int) (wv5x4 : (List Bytes)) : ∀ (n : Nat) (v5x0 : Bytes) (v5x1 : (List Fd)) (v5x2 : Int) (v5x3 : Int) (v5x4 : (List Bytes)),
    loopK 0 (fun st k => evL Kx iValues_C iValues_O 0 (iValues_L N) iValues_b5 st k) (iValues_h5 wv5x0 wv5x1 wv5x2 wv5x3 wv5x4).env n (iValues_h5 v5x0 v5x1 v5x2 v5x3 v5x4) (outK iValues_O 0 iValues_b5 k) = iValues_F5 n v5x0 v5x1 v5x2 v5x3 v5x4 (fun x5x0x0 => k (Ex.exit (0 : Nat)) (iValues_x5e0 x5x0x0))
  | 0, _, _, _, _, _ => rfl
  | n + 1, v5x0, v5x1, v5x2, v5x3, v5x4 => by
    rw [loopK_succ, iValues_round5]
    simp only [iValues_loop5 N k wv5x0 wv5x1 wv5x2 wv5x3 wv5x4 n]
    rfl
theorem iValues_at5 (N : Nat) {s : St} {k : Ex → St → Option Rs} {r : Rs} (h : iValues_L5 N s k = some r) : ∃ (v5x0 : Bytes) (v5x1 : (List Fd)) (v5x2 : Int) (v5x3 : Int) (v5x4 : (List Bytes)), s = (iValues_h5 v5x0 v5x1 v5x2 v5x3 v5x4) ∧ iValues_F5 N v5x0 v5x1 v5x2 v5x3 v5x4 (fun x5x0x0 => k (Ex.exit (0 : Nat)) (iValues_x5e0 x5x0x0)) = some r := by
  cases s with | mk env objs =>
  unfold iValues_L5 at h
  split at h
  · rename_i e1 e2
    have e3 := takeF_slots _ _ _ _ e1
    simp only at e2 e3
    subst e2 e3
    exact ⟨_, _, _, _, _, rfl, h⟩
  · cases h
theorem iValues_in5 : loops iValues_b5 = [] := by kernel_rfl
theorem iValues_lid5 : lid iValues_b5 = 5 := by kernel_rfl
theorem iValues_ok5 (N : Nat) : OkL Kx iValues_C iValues_O 0 N (iValues_L N) iValues_b5 := by
  intro s k k' r hk h
  rw [iValues_lid5] at h
  obtain ⟨v5x0, v5x1, v5x2, v5x3, v5x4, rfl, h⟩ := iValues_at5 N h
  refine loopL (Λ := iValues_L N) iValues_b5 ?_ N hk ((iValues_loop5 N k v5x0 v5x1 v5x2 v5x3 v5x4 N v5x0 v5x1 v5x2 v5x3 v5x4).trans h)
  rw [iValues_in5]
  exact fun _ h => nomatch h
def iValues_run (N : Nat) (l : List Fd) (name : Bytes) : Option Rs := (bif (!(fdsOk l)) then (some ((AV.ref (0 : Nat) (0 : Nat)), ((Ob.arr Ty.str (0 : Nat) false ([] : (List Bytes))) :: ([] : List Ob)))) else (iValues_F5 N name l ((List.length l) : Int) (0 : Int) ([] : (List Bytes)) (fun x5x0x0 => (some ((AV.ref (0 : Nat) (0 : Nat)), ((Ob.arr Ty.str (0 : Nat) false x5x0x0) :: ([] : List Ob)))))))
theorem iValues_runL (N : Nat) (l : List Fd) (name : Bytes) : runL Kx iValues_C iValues_O (iValues_L N) Tryz.f93 ([.sh (.pair .str .str) l, .str name]) ([]) = iValues_run N l name := by kernel_rfl
theorem iValues_body : Tryz.f93.body = some (codeOf Tryz.f93) := by kernel_rfl
theorem iValues_loops : loops (codeOf Tryz.f93) = [iValues_b5] := by kernel_rfl
theorem iValues_ev (N : Nat) (l : List Fd) (name : Bytes) {res_ : Rs} (hyp_ : iValues_run N l name = some res_) : ∃ n_, runF Kx iValues_C iValues_O n_ Tryz.f93 ([.sh (.pair .str .str) l, .str name]) ([]) = some res_ :=
  ⟨N, runL_runF iValues_body (by rw [iValues_loops]; exact List.forall_mem_cons.2 ⟨iValues_ok5 N, fun _ h => nomatch h⟩) ((iValues_runL N l name).trans hyp_)⟩
def iValues_sOf (φ : (List Fd) → Bytes → Br) : List AV → List Ob → Br
  | [.sh (.pair .str .str) l, .str name], [] => φ l name
  | _, _ => .fail
theorem iValues_okOf {φ : (List Fd) → Bytes → Br} (fu : (List Fd) → Bytes → Nat) (hv : ∀ l name res_, (φ l name).val = some res_ → iValues_run (fu l name) l name = some res_) : Sound Kx 93 (iValues_sOf φ) := by
  refine sound_run (C := iValues_C) (O := iValues_O) KOk iValues_C_ok Tryz.func93 (by kernel_rfl) fun args objs res os h => ?_
  unfold iValues_sOf at h
  split at h
  · exact iValues_ev _ _ _ (hv _ _ _ h)
  · cases h

def sValues_O : Opt := { cons := [], keepNil := false, mutF := [], live := [(5, [0, 1, 5, 6])], outs := [(5, [4, 5])] }
def sValues_C : Spec := (add (add noS 59 (fl_s fun l => .bool (fdsOk l))) 123 same_s)
theorem sValues_C_ok : ∀ fn, Sound Kx fn (sValues_C fn) := (sound_add (sound_add (sound_no Kx) sFieldsOk_okQ) ssame_okQ)
def sValues_T5 (v5x0 : (List Fd)) (v5x1 : Bytes) (v5x2 : Int) (v5x3 : (List Bytes)) (kR5 : (List Fd) → Bytes → Int → (List Bytes) → Option Rs) (k5e0 : (List Bytes) → Option Rs) : Option Rs :=
  (bif (decide (v5x2 < ((List.length v5x0) : Int))) then (bif (decide ((0 : Int) ≤ v5x2)) then (bif (decide (v5x2 < ((List.length v5x0) : Int))) then (bif ((isM (List.getD v5x0 (Int.toNat v5x2) (([] : Bytes), ([] : Bytes))).1) && (isM v5x1)) then (bif (sameP (List.getD v5x0 (Int.toNat v5x2) (([] : Bytes), ([] : Bytes))).1 v5x1) then (bif (decide ((0 : Int) ≤ v5x2)) then (bif (decide (v5x2 < ((List.length v5x0) : Int))) then (bif (decide ((((List.length v5x3) + (List.length (List.set (List.replicate (1 : Nat) ([] : Bytes)) (0 : Nat) (List.getD v5x0 (Int.toNat v5x2) (([] : Bytes), ([] : Bytes))).2))) * (16 : Nat)) ≤ (140737488355328 : Nat))) then (kR5 v5x0 v5x1 (wk64 (v5x2 + (1 : Int))) (v5x3 ++ (List.set (List.replicate (1 : Nat) ([] : Bytes)) (0 : Nat) (List.getD v5x0 (Int.toNat v5x2) (([] : Bytes), ([] : Bytes))).2))) else (none)) else (none)) else (none)) else (kR5 v5x0 v5x1 (wk64 (v5x2 + (1 : Int))) v5x3)) else (none)) else (none)) else (none)) else (k5e0 v5x3))
def sValues_F5 : Nat → (List Fd) → Bytes → Int → (List Bytes) → ((List Bytes) → Option Rs) → Option Rs
  | 0, _, _, _, _, _ => none
  | n + 1, v5x0, v5x1, v5x2, v5x3, k5e0 => sValues_T5 v5x0 v5x1 v5x2 v5x3 (fun v5x0 v5x1 v5x2 v5x3 => sValues_F5 n v5x0 v5x1 v5x2 v5x3 k5e0) k5e0
def sValues_h5 (v5x0 : (List Fd)) (v5x1 : Bytes) (v5x2 : Int) (v5x3 : (List Bytes)) : St := (St.mk (slots 0 32 [(0, (AV.sh (Ty.pair Ty.str Ty.str) v5x0)), (1, (AV.str v5x1)), (5, (AV.ref (384 : Nat) (0 : Nat))), (6, (AV.int .i64 v5x2))]) (((384 : Nat), (Ob.arr Ty.str (0 : Nat) false v5x3)) :: ([] : (List (Nat × (Ob))))))
def sValues_x5e0 (x5x0x0 : (List Bytes)) : St := (St.mk (slots 0 32 [(5, (AV.ref (384 : Nat) (0 : Nat)))]) (((384 : Nat), (Ob.arr Ty.str (0 : Nat) false x5x0x0)) :: ([] : (List (Nat × (Ob))))))
noncomputable def sValues_b5 : Code := codeAt (codeOf Tryz.f85) [1, 1, 1, 0, 1, 0, 0]
def sValues_L5 (N : Nat) (st : St) (k : Ex → St → Option Rs) : Option Rs := match takeF [0, 1, 5, 6] 0 32 st.env, st.objs with
  | some [.sh (Ty.pair Ty.str Ty.str) v5x0, .str v5x1, .ref 384 0, .int .i64 v5x2], [(384, .arr Ty.str 0 false v5x3)] => sValues_F5 N v5x0 v5x1 v5x2 v5x3 (fun x5x0x0 => k (Ex.exit (0 : Nat)) (sValues_x5e0 x5x0x0))
  | _, _ => none
def sValues_L (N : Nat) : Lam := fun j st k => match j with
  | 5 => sValues_L5 N st k
  | _ => none
theorem sValues_round5 (N : Nat) (again : St → Option Rs) (k : Ex → St → Option Rs) (wv5x0 : (List Fd)) (wv5x1 : Bytes) (wv5x2 : Int) (wv5x3 : (List Bytes)) (v5x0 : (List Fd)) (v5x1 : Bytes) (v5x2 : Int) (v5x3 : (List Bytes)) :
    roundK 0 (fun st k => evL Kx sValues_C sValues_O 0 (sValues_L N) sValues_b5 st k) (sValues_h5 wv5x0 wv5x1 wv5x2 wv5x3).env again (sValues_h5 v5x0 v5x1 v5x2 v5x3) (outK sValues_O 0 sValues_b5 k) = sValues_T5 v5x0 v5x1 v5x2 v5x3 (fun v5x0 v5x1 v5x2 v5x3 => again (sValues_h5 v5x0 v5x1 v5x2 v5x3)) (fun x5x0x0 => k (Ex.exit (0 : Nat)) (sValues_x5e0 x5x0x0)) := by kernel_rfl
theorem sValues_loop5 (N : Nat) (k : Ex → St → Option Rs) (wv5x0 : (List Fd)) (wv5x1 : Bytes) (wv5x2 : Int) (wv5x3 : (List Bytes)) : ∀ (n : Nat) (v5x0 : (List Fd)) (v5x1 : Bytes) (v5x2 : Int) (v5x3 : (List Bytes)),
    loopK 0 (fun st k => evL Kx sValues_C sValues_O 0 (sValues_L N) sValues_b5 st k) (sValues_h5 wv5x0 wv5x1 wv5x2 wv5x3).env n (sValues_h5 v5x0 v5x1 v5x2 v5x3) (outK sValues_O 0 sValues_b5 k) = sValues_F5 n v5x0 v5x1 v5x2 v5x3 (fun x5x0x0 => k (Ex.exit (0 : Nat)) (sValues_x5e0 x5x0x0))
  | 0, _, _, _, _ => rfl
  | n + 1, v5x0, v5x1, v5x2, v5x3 => by
    rw [loopK_succ, sValues_round5]
    simp only [sValues_loop5 N k wv5x0 wv5x1 wv5x2 wv5x3 n]
    rfl
theorem sValues_at5 (N : Nat) {s : St} {k : Ex → St → Option Rs} {r : Rs} (h : sValues_L5 N s k = some r) : ∃ (v5x0 : (List Fd)) (v5x1 : Bytes) (v5x2 : Int) (v5x3 : (List Bytes)), s = (sValues_h5 v5x0 v5x1 v5x2 v5x3) ∧ sValues_F5 N v5x0 v5x1 v5x2 v5x3 (fun x5x0x0 => k (Ex.exit (0 : Nat)) (sValues_x5e0 x5x0x0)) = some r := by
  cases s with | mk env objs =>
  unfold sValues_L5 at h
  split at h
  · rename_i e1 e2
    have e3 := takeF_slots _ _ _ _ e1
    simp only at e2 e3
    subst e2 e3
    exact ⟨_, _, _, _, rfl, h⟩
  · cases h
theorem sValues_in5 : loops sValues_b5 = [] := by kernel_rfl
theorem sValues_lid5 : lid sValues_b5 = 5 := by kernel_rfl
theorem sValues_ok5 (N : Nat) : OkL Kx sValues_C sValues_O 0 N (sValues_L N) sValues_b5 := by
  intro s k k' r hk h
  rw [sValues_lid5] at h
  obtain ⟨v5x0, v5x1, v5x2, v5x3, rfl, h⟩ := sValues_at5 N h
  refine loopL (Λ := sValues_L N) sValues_b5 ?_ N hk ((sValues_loop5 N k v5x0 v5x1 v5x2 v5x3 N v5x0 v5x1 v5x2 v5x3).trans h)
  rw [sValues_in5]
  exact fun _ h => nomatch h
def sValues_run (N : Nat) (l : List Fd) (name : Bytes) : Option Rs := (bif (!(fdsOk l)) then (some ((AV.ref (0 : Nat) (0 : Nat)), ((Ob.arr Ty.str (0 : Nat) false ([] : (List Bytes))) :: ([] : List Ob)))) else (sValues_F5 N l name (0 : Int) ([] : (List Bytes)) (fun x5x0x0 => (some ((AV.ref (0 : Nat) (0 : Nat)), ((Ob.arr Ty.str (0 : Nat) false x5x0x0) :: ([] : List Ob)))))))
theorem sValues_runL (N : Nat) (l : List Fd) (name : Bytes) : runL Kx sValues_C sValues_O (sValues_L N) Tryz.f85 ([.sh (.pair .str .str) l, .str name]) ([]) = sValues_run N l name := by kernel_rfl
theorem sValues_body : Tryz.f85.body = some (codeOf Tryz.f85) := by kernel_rfl
theorem sValues_loops : loops (codeOf Tryz.f85) = [sValues_b5] := by kernel_rfl
theorem sValues_ev (N : Nat) (l : List Fd) (name : Bytes) {res_ : Rs} (hyp_ : sValues_run N l name = some res_) : ∃ n_, runF Kx sValues_C sValues_O n_ Tryz.f85 ([.sh (.pair .str .str) l, .str name]) ([]) = some res_ :=
  ⟨N, runL_runF sValues_body (by rw [sValues_loops]; exact List.forall_mem_cons.2 ⟨sValues_ok5 N, fun _ h => nomatch h⟩) ((sValues_runL N l name).trans hyp_)⟩
def sValues_sOf (φ : (List Fd) → Bytes → Br) : List AV → List Ob → Br
  | [.sh (.pair .str .str) l, .str name], [] => φ l name
  | _, _ => .fail
theorem sValues_okOf {φ : (List Fd) → Bytes → Br} (fu : (List Fd) → Bytes → Nat) (hv : ∀ l name res_, (φ l name).val = some res_ → sValues_run (fu l name) l name = some res_) : Sound Kx 85 (sValues_sOf φ) := by
  refine sound_run (C := sValues_C) (O := sValues_O) KOk sValues_C_ok Tryz.func85 (by kernel_rfl) fun args objs res os h => ?_
  unfold sValues_sOf at h
  split at h
  · exact sValues_ev _ _ _ (hv _ _ _ h)
  · cases h

def sframed_O : Opt := { cons := [], keepNil := false, mutF := [], live := [(2, [0, 3])], outs := [(2, [2])] }
def sframed_C : Spec := (add noS 106 (t1_s fun s => .str (foldP s)))
theorem sframed_C_ok : ∀ fn, Sound Kx fn (sframed_C fn) := (sound_add (sound_no Kx) sfold_okQ)
def sframed_T2 (v2x0 : (List Fd)) (v2x1 : Int) (kR2 : (List Fd) → Int → Option Rs) (k2e0 : Option Rs) (k2e1 : Option Rs) : Option Rs :=
  (bif (decide (v2x1 < ((List.length v2x0) : Int))) then (bif (decide ((0 : Int) ≤ v2x1)) then (bif (decide (v2x1 < ((List.length v2x0) : Int))) then (bif (isM (List.getD v2x0 (Int.toNat v2x1) (([] : Bytes), ([] : Bytes))).1) then (bif (decide ((foldP (List.getD v2x0 (Int.toNat v2x1) (([] : Bytes), ([] : Bytes))).1) = ((99 : UInt8) :: ((111 : UInt8) :: ((110 : UInt8) :: ((116 : UInt8) :: ((101 : UInt8) :: ((110 : UInt8) :: ((116 : UInt8) :: ((45 : UInt8) :: ((108 : UInt8) :: ((101 : UInt8) :: ((110 : UInt8) :: ((103 : UInt8) :: ((116 : UInt8) :: ((104 : UInt8) :: ([] : Bytes))))))))))))))))) then k2e0 else (bif (decide ((foldP (List.getD v2x0 (Int.toNat v2x1) (([] : Bytes), ([] : Bytes))).1) = ((116 : UInt8) :: ((114 : UInt8) :: ((97 : UInt8) :: ((110 : UInt8) :: ((115 : UInt8) :: ((102 : UInt8) :: ((101 : UInt8) :: ((114 : UInt8) :: ((45 : UInt8) :: ((101 : UInt8) :: ((110 : UInt8) :: ((99 : UInt8) :: ((111 : UInt8) :: ((100 : UInt8) :: ((105 : UInt8) :: ((110 : UInt8) :: ((103 : UInt8) :: ([] : Bytes)))))))))))))))))))) then k2e0 else (bif (decide ((foldP (List.getD v2x0 (Int.toNat v2x1) (([] : Bytes), ([] : Bytes))).1) = ((116 : UInt8) :: ((114 : UInt8) :: ((97 : UInt8) :: ((105 : UInt8) :: ((108 : UInt8) :: ((101 : UInt8) :: ((114 : UInt8) :: ([] : Bytes)))))))))) then k2e0 else (kR2 v2x0 (wk64 (v2x1 + (1 : Int))))))) else (none)) else (none)) else (none)) else k2e1)
def sframed_F2 : Nat → (List Fd) → Int → (Option Rs) → (Option Rs) → Option Rs
  | 0, _, _, _, _ => none
  | n + 1, v2x0, v2x1, k2e0, k2e1 => sframed_T2 v2x0 v2x1 (fun v2x0 v2x1 => sframed_F2 n v2x0 v2x1 k2e0 k2e1) k2e0 k2e1
def sframed_h2 (v2x0 : (List Fd)) (v2x1 : Int) : St := (St.mk (slots 0 27 [(0, (AV.sh (Ty.pair Ty.str Ty.str) v2x0)), (3, (AV.int .i64 v2x1))]) ([] : (List (Nat × (Ob)))))
def sframed_x2e0  : St := (St.mk (slots 0 27 [(2, (AV.bool true))]) ([] : (List (Nat × (Ob)))))
def sframed_x2e1  : St := (St.mk (slots 0 27 []) ([] : (List (Nat × (Ob)))))
noncomputable def sframed_b2 : Code := codeAt (codeOf Tryz.f111) [1, 0, 1, 0, 0]
def sframed_L2 (N : Nat) (st : St) (k : Ex → St → Option Rs) : Option Rs := match takeF [0, 3] 0 27 st.env, st.objs with
  | some [.sh (Ty.pair Ty.str Ty.str) v2x0, .int .i64 v2x1], [] => sframed_F2 N v2x0 v2x1 (k Ex.ret (sframed_x2e0)) (k (Ex.exit (0 : Nat)) (sframed_x2e1))
  | _, _ => none
def sframed_L (N : Nat) : Lam := fun j st k => match j with
  | 2 => sframed_L2 N st k
  | _ => none
theorem sframed_round2 (N : Nat) (again : St → Option Rs) (k : Ex → St → Option Rs) (wv2x0 : (List Fd)) (wv2x1 : Int) (v2x0 : (List Fd)) (v2x1 : Int) :
    roundK 0 (fun st k => evL Kx sframed_C sframed_O 0 (sframed_L N) sframed_b2 st k) (sframed_h2 wv2x0 wv2x1).env again (sframed_h2 v2x0 v2x1) (outK sframed_O 0 sframed_b2 k) = sframed_T2 v2x0 v2x1 (fun v2x0 v2x1 => again (sframed_h2 v2x0 v2x1)) (k Ex.ret (sframed_x2e0)) (k (Ex.exit (0 : Nat)) (sframed_x2e1)) := by kernel_rfl
theorem sframed_loop2 (N : Nat) (k : Ex → St → Option Rs) (wv2x0 : (List Fd)) (wv2x1 : Int) : ∀ (n : Nat) (v2x0 : (List Fd)) (v2x1 : Int),
    loopK 0 (fun st k => evL Kx sframed_C sframed_O 0 (sframed_L N) sframed_b2 st k) (sframed_h2 wv2x0 wv2x1).env n (sframed_h2 v2x0 v2x1) (outK sframed_O 0 sframed_b2 k) = sframed_F2 n v2x0 v2x1 (k Ex.ret (sframed_x2e0)) (k (Ex.exit (0 : Nat)) (sframed_x2e1))
  | 0, _, _ => rfl
  | n + 1, v2x0, v2x1 => by
    rw [loopK_succ, sframed_round2]
    simp only [sframed_loop2 N k wv2x0 wv2x1 n]
    rfl
theorem sframed_at2 (N : Nat) {s : St} {k : Ex → St → Option Rs} {r : Rs} (h : sframed_L2 N s k = some r) : ∃ (v2x0 : (List Fd)) (v2x1 : Int), s = (sframed_h2 v2x0 v2x1) ∧ sframed_F2 N v2x0 v2x1 (k Ex.ret (sframed_x2e0)) (k (Ex.exit (0 : Nat)) (sframed_x2e1)) = some r := by
  cases s with | mk env objs =>
  unfold sframed_L2 at h
  split at h
  · rename_i e1 e2
    have e3 := takeF_slots _ _ _ _ e1
    simp only at e2 e3
    subst e2 e3
    exact ⟨_, _, rfl, h⟩
  · cases h
theorem sframed_in2 : loops sframed_b2 = [] := by kernel_rfl
theorem sframed_lid2 : lid sframed_b2 = 2 := by kernel_rfl
theorem sframed_ok2 (N : Nat) : OkL Kx sframed_C sframed_O 0 N (sframed_L N) sframed_b2 := by
  intro s k k' r hk h
  rw [sframed_lid2] at h
  obtain ⟨v2x0, v2x1, rfl, h⟩ := sframed_at2 N h
  refine loopL (Λ := sframed_L N) sframed_b2 ?_ N hk ((sframed_loop2 N k v2x0 v2x1 N v2x0 v2x1).trans h)
  rw [sframed_in2]
  exact fun _ h => nomatch h
def sframed_run (N : Nat) (l : List Fd) : Option Rs := (sframed_F2 N l (0 : Int) (some ((AV.bool true), ([] : List Ob))) (some ((AV.bool false), ([] : List Ob))))
theorem sframed_runL (N : Nat) (l : List Fd) : runL Kx sframed_C sframed_O (sframed_L N) Tryz.f111 ([.sh (.pair .str .str) l]) ([]) = sframed_run N l := by kernel_rfl
theorem sframed_body : Tryz.f111.body = some (codeOf Tryz.f111) := by kernel_rfl
theorem sframed_loops : loops (codeOf Tryz.f111) = [sframed_b2] := by kernel_rfl
theorem sframed_ev (N : Nat) (l : List Fd) {res_ : Rs} (hyp_ : sframed_run N l = some res_) : ∃ n_, runF Kx sframed_C sframed_O n_ Tryz.f111 ([.sh (.pair .str .str) l]) ([]) = some res_ :=
  ⟨N, runL_runF sframed_body (by rw [sframed_loops]; exact List.forall_mem_cons.2 ⟨sframed_ok2 N, fun _ h => nomatch h⟩) ((sframed_runL N l).trans hyp_)⟩
def sframed_sOf (φ : (List Fd) → Br) : List AV → List Ob → Br
  | [.sh (.pair .str .str) l], [] => φ l
  | _, _ => .fail
theorem sframed_okOf {φ : (List Fd) → Br} (fu : (List Fd) → Nat) (hv : ∀ l res_, (φ l).val = some res_ → sframed_run (fu l) l = some res_) : Sound Kx 111 (sframed_sOf φ) := by
  refine sound_run (C := sframed_C) (O := sframed_O) KOk sframed_C_ok Tryz.func111 (by kernel_rfl) fun args objs res os h => ?_
  unfold sframed_sOf at h
  split at h
  · exact sframed_ev _ _ (hv _ _ h)
  · cases h

def szFieldS_O : Opt := { cons := [], keepNil := false, mutF := [], live := [(5, [0, 1, 5])], outs := [(5, [1, 4])] }
def szFieldS_C : Spec := (add noS 58 szField_s)
theorem szFieldS_C_ok : ∀ fn, Sound Kx fn (szFieldS_C fn) := (sound_add (sound_no Kx) szField_ok)
def szFieldS_T5 (v5x0 : (List Fd)) (v5x1 : Int) (v5x2 : Int) (kR5 : (List Fd) → Int → Int → Option Rs) (k5e0 : Int → Option Rs) (k5e1 : Int → Option Rs) : Option Rs :=
  (bif (decide (v5x2 < ((List.length v5x0) : Int))) then (bif (decide ((0 : Int) ≤ v5x2)) then (bif (decide (v5x2 < ((List.length v5x0) : Int))) then (bif (decide ((wk64 (v5x1 - ((List.length (List.getD v5x0 (Int.toNat v5x2) (([] : Bytes), ([] : Bytes))).1) : Int))) < (0 : Int))) then (k5e0 (-(1 : Int))) else (bif (decide ((wk64 ((wk64 (v5x1 - ((List.length (List.getD v5x0 (Int.toNat v5x2) (([] : Bytes), ([] : Bytes))).1) : Int))) - ((List.length (List.getD v5x0 (Int.toNat v5x2) (([] : Bytes), ([] : Bytes))).2) : Int))) < (0 : Int))) then (k5e0 (-(1 : Int))) else (bif (decide ((wk64 ((wk64 (v5x1 - ((List.length (List.getD v5x0 (Int.toNat v5x2) (([] : Bytes), ([] : Bytes))).1) : Int))) - ((List.length (List.getD v5x0 (Int.toNat v5x2) (([] : Bytes), ([] : Bytes))).2) : Int))) < (0 : Int))) then (k5e0 (wk64 ((wk64 (v5x1 - ((List.length (List.getD v5x0 (Int.toNat v5x2) (([] : Bytes), ([] : Bytes))).1) : Int))) - ((List.length (List.getD v5x0 (Int.toNat v5x2) (([] : Bytes), ([] : Bytes))).2) : Int)))) else (kR5 v5x0 (wk64 ((wk64 (v5x1 - ((List.length (List.getD v5x0 (Int.toNat v5x2) (([] : Bytes), ([] : Bytes))).1) : Int))) - ((List.length (List.getD v5x0 (Int.toNat v5x2) (([] : Bytes), ([] : Bytes))).2) : Int))) (wk64 (v5x2 + (1 : Int))))))) else (none)) else (none)) else (k5e1 v5x1))
def szFieldS_F5 : Nat → (List Fd) → Int → Int → (Int → Option Rs) → (Int → Option Rs) → Option Rs
  | 0, _, _, _, _, _ => none
  | n + 1, v5x0, v5x1, v5x2, k5e0, k5e1 => szFieldS_T5 v5x0 v5x1 v5x2 (fun v5x0 v5x1 v5x2 => szFieldS_F5 n v5x0 v5x1 v5x2 k5e0 k5e1) k5e0 k5e1
def szFieldS_h5 (v5x0 : (List Fd)) (v5x1 : Int) (v5x2 : Int) : St := (St.mk (slots 0 27 [(0, (AV.sh (Ty.pair Ty.str Ty.str) v5x0)), (1, (AV.int .i64 v5x1)), (5, (AV.int .i64 v5x2))]) ([] : (List (Nat × (Ob)))))
def szFieldS_x5e0 (x5x0x0 : Int) : St := (St.mk (slots 0 27 [(1, (AV.int .i64 x5x0x0)), (4, (AV.int .i64 (-(1 : Int))))]) ([] : (List (Nat × (Ob)))))
def szFieldS_x5e1 (x5x1x0 : Int) : St := (St.mk (slots 0 27 [(1, (AV.int .i64 x5x1x0))]) ([] : (List (Nat × (Ob)))))
noncomputable def szFieldS_b5 : Code := codeAt (codeOf Tryz.f28) [1, 1, 1, 0, 1, 0, 0]
def szFieldS_L5 (N : Nat) (st : St) (k : Ex → St → Option Rs) : Option Rs := match takeF [0, 1, 5] 0 27 st.env, st.objs with
  | some [.sh (Ty.pair Ty.str Ty.str) v5x0, .int .i64 v5x1, .int .i64 v5x2], [] => szFieldS_F5 N v5x0 v5x1 v5x2 (fun x5x0x0 => k Ex.ret (szFieldS_x5e0 x5x0x0)) (fun x5x1x0 => k (Ex.exit (0 : Nat)) (szFieldS_x5e1 x5x1x0))
  | _, _ => none
def szFieldS_L (N : Nat) : Lam := fun j st k => match j with
  | 5 => szFieldS_L5 N st k
  | _ => none
theorem szFieldS_round5 (N : Nat) (again : St → Option Rs) (k : Ex → St → Option Rs) (wv5x0 : (List Fd)) (wv5x1 : Int) (wv5x2 : Int) (v5x0 : (List Fd)) (v5x1 : Int) (v5x2 : Int) :
    roundK 0 (fun st k => evL Kx szFieldS_C szFieldS_O 0 (szFieldS_L N) szFieldS_b5 st k) (szFieldS_h5 wv5x0 wv5x1 wv5x2).env again (szFieldS_h5 v5x0 v5x1 v5x2) (outK szFieldS_O 0 szFieldS_b5 k) = szFieldS_T5 v5x0 v5x1 v5x2 (fun v5x0 v5x1 v5x2 => again (szFieldS_h5 v5x0 v5x1 v5x2)) (fun x5x0x0 => k Ex.ret (szFieldS_x5e0 x5x0x0)) (fun x5x1x0 => k (Ex.exit (0 : Nat)) (szFieldS_x5e1 x5x1x0)) := by kernel_rfl
theorem szFieldS_loop5 (N : Nat) (k : Ex → St → Option Rs) (wv5x0 : (List Fd)) (wv5x1 : Int) (wv5x2 : Int) : ∀ (n : Nat) (v5x0 : (List Fd)) (v5x1 : Int) (v5x2 : Int),
    loopK 0 (fun st k => evL Kx szFieldS_C szFieldS_O 0 (szFieldS_L N) szFieldS_b5 st k) (szFieldS_h5 wv5x0 wv5x1 wv5x2).env n (szFieldS_h5 v5x0 v5x1 v5x2) (outK szFieldS_O 0 szFieldS_b5 k) = szFieldS_F5 n v5x0 v5x1 v5x2 (fun x5x0x0 => k Ex.ret (szFieldS_x5e0 x5x0x0)) (fun x5x1x0 => k (Ex.exit (0 : Nat)) (szFieldS_x5e1 x5x1x0))
  | 0, _, _, _ => rfl
  | n + 1, v5x0, v5x1, v5x2 => by
    rw [loopK_succ, szFieldS_round5]
    simp only [szFieldS_loop5 N k wv5x0 wv5x1 wv5x2 n]
    rfl
theorem szFieldS_at5 (N : Nat) {s : St} {k : Ex → St → Option Rs} {r : Rs} (h : szFieldS_L5 N s k = some r) : ∃ (v5x0 : (List Fd)) (v5x1 : Int) (v5x2 : Int), s = (szFieldS_h5 v5x0 v5x1 v5x2) ∧ szFieldS_F5 N v5x0 v5x1 v5x2 (fun x5x0x0 => k Ex.ret (szFieldS_x5e0 x5x0x0)) (fun x5x1x0 => k (Ex.exit (0 : Nat)) (szFieldS_x5e1 x5x1x0)) = some r := by
  cases s with | mk env objs =>
  unfold szFieldS_L5 at h
  split at h
  · rename_i e1 e2
    have e3 := takeF_slots _ _ _ _ e1
    simp only at e2 e3
    subst e2 e3
    exact ⟨_, _, _, rfl, h⟩
  · cases h
theorem szFieldS_in5 : loops szFieldS_b5 = [] := by kernel_rfl
theorem szFieldS_lid5 : lid szFieldS_b5 = 5 := by kernel_rfl
theorem szFieldS_ok5 (N : Nat) : OkL Kx szFieldS_C szFieldS_O 0 N (szFieldS_L N) szFieldS_b5 := by
  intro s k k' r hk h
  rw [szFieldS_lid5] at h
  obtain ⟨v5x0, v5x1, v5x2, rfl, h⟩ := szFieldS_at5 N h
  refine loopL (Λ := szFieldS_L N) szFieldS_b5 ?_ N hk ((szFieldS_loop5 N k v5x0 v5x1 v5x2 N v5x0 v5x1 v5x2).trans h)
  rw [szFieldS_in5]
  exact fun _ h => nomatch h
def szFieldS_run (N : Nat) (l : List Fd) (left : Int) : Option Rs := (bif (decide ((wk64 (left - ((List.length l) : Int))) < (0 : Int))) then (some ((AV.int .i64 (-(1 : Int))), ([] : List Ob))) else (szFieldS_F5 N l (wk64 (left - ((List.length l) : Int))) (0 : Int) (fun x5x0x0 => (some ((AV.int .i64 (-(1 : Int))), ([] : List Ob)))) (fun x5x1x0 => (some ((AV.int .i64 x5x1x0), ([] : List Ob))))))
theorem szFieldS_runL (N : Nat) (l : List Fd) (left : Int) : runL Kx szFieldS_C szFieldS_O (szFieldS_L N) Tryz.f28 ([.sh (.pair .str .str) l, .int .i64 left]) ([]) = szFieldS_run N l left := by kernel_rfl
theorem szFieldS_body : Tryz.f28.body = some (codeOf Tryz.f28) := by kernel_rfl
theorem szFieldS_loops : loops (codeOf Tryz.f28) = [szFieldS_b5] := by kernel_rfl
theorem szFieldS_ev (N : Nat) (l : List Fd) (left : Int) {res_ : Rs} (hyp_ : szFieldS_run N l left = some res_) : ∃ n_, runF Kx szFieldS_C szFieldS_O n_ Tryz.f28 ([.sh (.pair .str .str) l, .int .i64 left]) ([]) = some res_ :=
  ⟨N, runL_runF szFieldS_body (by rw [szFieldS_loops]; exact List.forall_mem_cons.2 ⟨szFieldS_ok5 N, fun _ h => nomatch h⟩) ((szFieldS_runL N l left).trans hyp_)⟩
def szFieldS_sOf (φ : (List Fd) → Int → Br) : List AV → List Ob → Br
  | [.sh (.pair .str .str) l, .int .i64 left], [] => φ l left
  | _, _ => .fail
theorem szFieldS_okOf {φ : (List Fd) → Int → Br} (fu : (List Fd) → Int → Nat) (hv : ∀ l left res_, (φ l left).val = some res_ → szFieldS_run (fu l left) l left = some res_) : Sound Kx 28 (szFieldS_sOf φ) := by
  refine sound_run (C := szFieldS_C) (O := szFieldS_O) KOk szFieldS_C_ok Tryz.func28 (by kernel_rfl) fun args objs res os h => ?_
  unfold szFieldS_sOf at h
  split at h
  · exact szFieldS_ev _ _ _ (hv _ _ _ h)
  · cases h

def toFieldS_O : Opt := { cons := [], keepNil := false, mutF := [], live := [(3, [0, 3, 4])], outs := [(3, [2, 3])] }
def toFieldS_C : Spec := (add noS 64 toField_s)
theorem toFieldS_C_ok : ∀ fn, Sound Kx fn (toFieldS_C fn) := (sound_add (sound_no Kx) toField_ok)
def toFieldS_T3 (v3x0 : (List Fd)) (v3x1 : Int) (v3x2 : (List Fd)) (kR3 : (List Fd) → Int → (List Fd) → Option Rs) (k3e0 : (List Fd) → Option Rs) : Option Rs :=
  (bif (decide (v3x1 < ((List.length v3x0) : Int))) then (bif (decide ((0 : Int) ≤ v3x1)) then (bif (decide (v3x1 < ((List.length v3x0) : Int))) then (bif (decide ((0 : Int) ≤ v3x1)) then (bif (decide (v3x1 < ((List.length v3x2) : Int))) then (kR3 v3x0 (wk64 (v3x1 + (1 : Int))) (List.set v3x2 (Int.toNat v3x1) ((List.getD v3x0 (Int.toNat v3x1) (([] : Bytes), ([] : Bytes))).1, (List.getD v3x0 (Int.toNat v3x1) (([] : Bytes), ([] : Bytes))).2))) else (none)) else (none)) else (none)) else (none)) else (k3e0 v3x2))
def toFieldS_F3 : Nat → (List Fd) → Int → (List Fd) → ((List Fd) → Option Rs) → Option Rs
  | 0, _, _, _, _ => none
  | n + 1, v3x0, v3x1, v3x2, k3e0 => toFieldS_T3 v3x0 v3x1 v3x2 (fun v3x0 v3x1 v3x2 => toFieldS_F3 n v3x0 v3x1 v3x2 k3e0) k3e0
def toFieldS_h3 (v3x0 : (List Fd)) (v3x1 : Int) (v3x2 : (List Fd)) : St := (St.mk (slots 0 23 [(0, (AV.sh (Ty.pair Ty.str Ty.str) v3x0)), (3, (AV.ref (256 : Nat) (0 : Nat))), (4, (AV.int .i64 v3x1))]) (((256 : Nat), (Ob.arr (Ty.pair Ty.str Ty.str) (0 : Nat) false v3x2)) :: ([] : (List (Nat × (Ob))))))
def toFieldS_x3e0 (x3x0x0 : (List Fd)) : St := (St.mk (slots 0 23 [(3, (AV.ref (256 : Nat) (0 : Nat)))]) (((256 : Nat), (Ob.arr (Ty.pair Ty.str Ty.str) (0 : Nat) false x3x0x0)) :: ([] : (List (Nat × (Ob))))))
noncomputable def toFieldS_b3 : Code := codeAt (codeOf Tryz.f30) [1, 1, 0, 1, 0, 0]
def toFieldS_L3 (N : Nat) (st : St) (k : Ex → St → Option Rs) : Option Rs := match takeF [0, 3, 4] 0 23 st.env, st.objs with
  | some [.sh (Ty.pair Ty.str Ty.str) v3x0, .ref 256 0, .int .i64 v3x1], [(256, .arr (Ty.pair Ty.str Ty.str) 0 false v3x2)] => toFieldS_F3 N v3x0 v3x1 v3x2 (fun x3x0x0 => k (Ex.exit (0 : Nat)) (toFieldS_x3e0 x3x0x0))
  | _, _ => none
def toFieldS_L (N : Nat) : Lam := fun j st k => match j with
  | 3 => toFieldS_L3 N st k
  | _ => none
theorem toFieldS_round3 (N : Nat) (again : St → Option Rs) (k : Ex → St → Option Rs) (wv3x0 : (List Fd)) (wv3x1 : Int) (wv3x2 : (List Fd)) (v3x0 : (List Fd)) (v3x1 : Int) (v3x2 : (List Fd)) :
    roundK 0 (fun st k => evL Kx toFieldS_C toFieldS_O 0 (toFieldS_L N) toFieldS_b3 st k) (toFieldS_h3 wv3x0 wv3x1 wv3x2).env again (toFieldS_h3 v3x0 v3x1 v3x2) (outK toFieldS_O 0 toFieldS_b3 k) = toFieldS_T3 v3x0 v3x1 v3x2 (fun v3x0 v3x1 v3x2 => again (toFieldS_h3 v3x0 v3x1 v3x2)) (fun x3x0x0 => k (Ex.exit (0 : Nat)) (toFieldS_x3e0 x3x0x0)) := by kernel_rfl
theorem toFieldS_loop3 (N : Nat) (k : Ex → St → Option Rs) (wv3x0 : (List Fd)) (wv3x1 : Int) (wv3x2 : (List Fd)) : ∀ (n : Nat) (v3x0 : (List Fd)) (v3x1 : Int) (v3x2 : (List Fd)),
    loopK 0 (fun st k => evL Kx toFieldS_C toFieldS_O 0 (toFieldS_L N) toFieldS_b3 st k) (toFieldS_h3 wv3x0 wv3x1 wv3x2).env n (toFieldS_h3 v3x0 v3x1 v3x2) (outK toFieldS_O 0 toFieldS_b3 k) = toFieldS_F3 n v3x0 v3x1 v3x2 (fun x3x0x0 => k (Ex.exit (0 : Nat)) (toFieldS_x3e0 x3x0x0))
  | 0, _, _, _ => rfl
  | n + 1, v3x0, v3x1, v3x2 => by
    rw [loopK_succ, toFieldS_round3]
    simp only [toFieldS_loop3 N k wv3x0 wv3x1 wv3x2 n]
    rfl
theorem toFieldS_at3 (N : Nat) {s : St} {k : Ex → St → Option Rs} {r : Rs} (h : toFieldS_L3 N s k = some r) : ∃ (v3x0 : (List Fd)) (v3x1 : Int) (v3x2 : (List Fd)), s = (toFieldS_h3 v3x0 v3x1 v3x2) ∧ toFieldS_F3 N v3x0 v3x1 v3x2 (fun x3x0x0 => k (Ex.exit (0 : Nat)) (toFieldS_x3e0 x3x0x0)) = some r := by
  cases s with | mk env objs =>
  unfold toFieldS_L3 at h
  split at h
  · rename_i e1 e2
    have e3 := takeF_slots _ _ _ _ e1
    simp only at e2 e3
    subst e2 e3
    exact ⟨_, _, _, rfl, h⟩
  · cases h
theorem toFieldS_in3 : loops toFieldS_b3 = [] := by kernel_rfl
theorem toFieldS_lid3 : lid toFieldS_b3 = 3 := by kernel_rfl
theorem toFieldS_ok3 (N : Nat) : OkL Kx toFieldS_C toFieldS_O 0 N (toFieldS_L N) toFieldS_b3 := by
  intro s k k' r hk h
  rw [toFieldS_lid3] at h
  obtain ⟨v3x0, v3x1, v3x2, rfl, h⟩ := toFieldS_at3 N h
  refine loopL (Λ := toFieldS_L N) toFieldS_b3 ?_ N hk ((toFieldS_loop3 N k v3x0 v3x1 v3x2 N v3x0 v3x1 v3x2).trans h)
  rw [toFieldS_in3]
  exact fun _ h => nomatch h
def toFieldS_run (N : Nat) (l : List Fd) : Option Rs := (bif (decide ((0 : Int) ≤ ((List.length l) : Int))) then (bif (decide (((List.length l) : Int) = ((List.length l) : Int))) then (bif (decide ((((List.length l) : Int) * (32 : Int)) ≤ (140737488355328 : Int))) then (toFieldS_F3 N l (0 : Int) (List.replicate (Int.toNat ((List.length l) : Int)) (([] : Bytes), ([] : Bytes))) (fun x3x0x0 => (some ((AV.ref (0 : Nat) (0 : Nat)), ((Ob.arr (Ty.pair Ty.str Ty.str) (0 : Nat) false x3x0x0) :: ([] : List Ob)))))) else (none)) else (none)) else (none))
theorem toFieldS_runL (N : Nat) (l : List Fd) : runL Kx toFieldS_C toFieldS_O (toFieldS_L N) Tryz.f30 ([.sh (.pair .str .str) l]) ([]) = toFieldS_run N l := by kernel_rfl
theorem toFieldS_body : Tryz.f30.body = some (codeOf Tryz.f30) := by kernel_rfl
theorem toFieldS_loops : loops (codeOf Tryz.f30) = [toFieldS_b3] := by kernel_rfl
theorem toFieldS_ev (N : Nat) (l : List Fd) {res_ : Rs} (hyp_ : toFieldS_run N l = some res_) : ∃ n_, runF Kx toFieldS_C toFieldS_O n_ Tryz.f30 ([.sh (.pair .str .str) l]) ([]) = some res_ :=
  ⟨N, runL_runF toFieldS_body (by rw [toFieldS_loops]; exact List.forall_mem_cons.2 ⟨toFieldS_ok3 N, fun _ h => nomatch h⟩) ((toFieldS_runL N l).trans hyp_)⟩
def toFieldS_sOf (φ : (List Fd) → Br) : List AV → List Ob → Br
  | [.sh (.pair .str .str) l], [] => φ l
  | _, _ => .fail
theorem toFieldS_okOf {φ : (List Fd) → Br} (fu : (List Fd) → Nat) (hv : ∀ l res_, (φ l).val = some res_ → toFieldS_run (fu l) l = some res_) : Sound Kx 30 (toFieldS_sOf φ) := by
  refine sound_run (C := toFieldS_C) (O := toFieldS_O) KOk toFieldS_C_ok Tryz.func30 (by kernel_rfl) fun args objs res os h => ?_
  unfold toFieldS_sOf at h
  split at h
  · exact toFieldS_ev _ _ (hv _ _ h)
  · cases h

def eqFieldS_O : Opt := { cons := [], keepNil := false, mutF := [], live := [(4, [0, 1, 5])], outs := [(4, [4])] }
def eqFieldS_C : Spec := (add noS 55 eqField_s)
theorem eqFieldS_C_ok : ∀ fn, Sound Kx fn (eqFieldS_C fn) := (sound_add (sound_no Kx) eqField_ok)
def eqFieldS_T4 (v4x0 : (List Fd)) (v4x1 : (List Fd)) (v4x2 : Int) (kR4 : (List Fd) → (List Fd) → Int → Option Rs) (k4e0 : Option Rs) (k4e1 : Option Rs) : Option Rs :=
  (bif (decide (v4x2 < ((List.length v4x0) : Int))) then (bif (decide ((0 : Int) ≤ v4x2)) then (bif (decide (v4x2 < ((List.length v4x0) : Int))) then (bif (decide ((0 : Int) ≤ v4x2)) then (bif (decide (v4x2 < ((List.length v4x1) : Int))) then (bif (!(decide ((List.getD v4x0 (Int.toNat v4x2) (([] : Bytes), ([] : Bytes))).1 = (List.getD v4x1 (Int.toNat v4x2) (([] : Bytes), ([] : Bytes))).1))) then k4e0 else (bif (!(decide ((List.getD v4x0 (Int.toNat v4x2) (([] : Bytes), ([] : Bytes))).2 = (List.getD v4x1 (Int.toNat v4x2) (([] : Bytes), ([] : Bytes))).2))) then k4e0 else (kR4 v4x0 v4x1 (wk64 (v4x2 + (1 : Int)))))) else (none)) else (none)) else (none)) else (none)) else k4e1)
def eqFieldS_F4 : Nat → (List Fd) → (List Fd) → Int → (Option Rs) → (Option Rs) → Option Rs
  | 0, _, _, _, _, _ => none
  | n + 1, v4x0, v4x1, v4x2, k4e0, k4e1 => eqFieldS_T4 v4x0 v4x1 v4x2 (fun v4x0 v4x1 v4x2 => eqFieldS_F4 n v4x0 v4x1 v4x2 k4e0 k4e1) k4e0 k4e1
def eqFieldS_h4 (v4x0 : (List Fd)) (v4x1 : (List Fd)) (v4x2 : Int) : St := (St.mk (slots 0 27 [(0, (AV.sh (Ty.pair Ty.str Ty.str) v4x0)), (1, (AV.sh (Ty.pair Ty.str Ty.str) v4x1)), (5, (AV.int .i64 v4x2))]) ([] : (List (Nat × (Ob)))))
def eqFieldS_x4e0  : St := (St.mk (slots 0 27 [(4, (AV.bool false))]) ([] : (List (Nat × (Ob)))))
def eqFieldS_x4e1  : St := (St.mk (slots 0 27 []) ([] : (List (Nat × (Ob)))))
noncomputable def eqFieldS_b4 : Code := codeAt (codeOf Tryz.f24) [1, 1, 0, 1, 0, 0]
def eqFieldS_L4 (N : Nat) (st : St) (k : Ex → St → Option Rs) : Option Rs := match takeF [0, 1, 5] 0 27 st.env, st.objs with
  | some [.sh (Ty.pair Ty.str Ty.str) v4x0, .sh (Ty.pair Ty.str Ty.str) v4x1, .int .i64 v4x2], [] => eqFieldS_F4 N v4x0 v4x1 v4x2 (k Ex.ret (eqFieldS_x4e0)) (k (Ex.exit (0 : Nat)) (eqFieldS_x4e1))
  | _, _ => none
def eqFieldS_L (N : Nat) : Lam := fun j st k => match j with
  | 4 => eqFieldS_L4 N st k
  | _ => none
theorem eqFieldS_round4 (N : Nat) (again : St → Option Rs) (k : Ex → St → Option Rs) (wv4x0 : (List Fd)) (wv4x1 : (List Fd)) (wv4x2 : Int) (v4x0 : (List Fd)) (v4x1 : (List Fd)) (v4x2 : Int) :
    roundK 0 (fun st k => evL Kx eqFieldS_C eqFieldS_O 0 (eqFieldS_L N) eqFieldS_b4 st k) (eqFieldS_h4 wv4x0 wv4x1 wv4x2).env again (eqFieldS_h4 v4x0 v4x1 v4x2) (outK eqFieldS_O 0 eqFieldS_b4 k) = eqFieldS_T4 v4x0 v4x1 v4x2 (fun v4x0 v4x1 v4x2 => again (eqFieldS_h4 v4x0 v4x1 v4x2)) (k Ex.ret (eqFieldS_x4e0)) (k (Ex.exit (0 : Nat)) (eqFieldS_x4e1)) := by kernel_rfl
theorem eqFieldS_loop4 (N : Nat) (k : Ex → St → Option Rs) (wv4x0 : (List Fd)) (wv4x1 : (List Fd)) (wv4x2 : Int) : ∀ (n : Nat) (v4x0 : (List Fd)) (v4x1 : (List Fd)) (v4x2 : Int),
    loopK 0 (fun st k => evL Kx eqFieldS_C eqFieldS_O 0 (eqFieldS_L N) eqFieldS_b4 st k) (eqFieldS_h4 wv4x0 wv4x1 wv4x2).env n (eqFieldS_h4 v4x0 v4x1 v4x2) (outK eqFieldS_O 0 eqFieldS_b4 k) = eqFieldS_F4 n v4x0 v4x1 v4x2 (k Ex.ret (eqFieldS_x4e0)) (k (Ex.exit (0 : Nat)) (eqFieldS_x4e1))
  | 0, _, _, _ => rfl
  | n + 1, v4x0, v4x1, v4x2 => by
    rw [loopK_succ, eqFieldS_round4]
    simp only [eqFieldS_loop4 N k wv4x0 wv4x1 wv4x2 n]
    rfl
theorem eqFieldS_at4 (N : Nat) {s : St} {k : Ex → St → Option Rs} {r : Rs} (h : eqFieldS_L4 N s k = some r) : ∃ (v4x0 : (List Fd)) (v4x1 : (List Fd)) (v4x2 : Int), s = (eqFieldS_h4 v4x0 v4x1 v4x2) ∧ eqFieldS_F4 N v4x0 v4x1 v4x2 (k Ex.ret (eqFieldS_x4e0)) (k (Ex.exit (0 : Nat)) (eqFieldS_x4e1)) = some r := by
  cases s with | mk env objs =>
  unfold eqFieldS_L4 at h
  split at h
  · rename_i e1 e2
    have e3 := takeF_slots _ _ _ _ e1
    simp only at e2 e3
    subst e2 e3
    exact ⟨_, _, _, rfl, h⟩
  · cases h
theorem eqFieldS_in4 : loops eqFieldS_b4 = [] := by kernel_rfl
theorem eqFieldS_lid4 : lid eqFieldS_b4 = 4 := by kernel_rfl
theorem eqFieldS_ok4 (N : Nat) : OkL Kx eqFieldS_C eqFieldS_O 0 N (eqFieldS_L N) eqFieldS_b4 := by
  intro s k k' r hk h
  rw [eqFieldS_lid4] at h
  obtain ⟨v4x0, v4x1, v4x2, rfl, h⟩ := eqFieldS_at4 N h
  refine loopL (Λ := eqFieldS_L N) eqFieldS_b4 ?_ N hk ((eqFieldS_loop4 N k v4x0 v4x1 v4x2 N v4x0 v4x1 v4x2).trans h)
  rw [eqFieldS_in4]
  exact fun _ h => nomatch h
def eqFieldS_run (N : Nat) (l l' : List Fd) : Option Rs := (bif (!(decide (((List.length l) : Int) = ((List.length l') : Int)))) then (some ((AV.bool false), ([] : List Ob))) else (eqFieldS_F4 N l l' (0 : Int) (some ((AV.bool false), ([] : List Ob))) (some ((AV.bool true), ([] : List Ob)))))
theorem eqFieldS_runL (N : Nat) (l l' : List Fd) : runL Kx eqFieldS_C eqFieldS_O (eqFieldS_L N) Tryz.f24 ([.sh (.pair .str .str) l, .sh (.pair .str .str) l']) ([]) = eqFieldS_run N l l' := by kernel_rfl
theorem eqFieldS_body : Tryz.f24.body = some (codeOf Tryz.f24) := by kernel_rfl
theorem eqFieldS_loops : loops (codeOf Tryz.f24) = [eqFieldS_b4] := by kernel_rfl
theorem eqFieldS_ev (N : Nat) (l l' : List Fd) {res_ : Rs} (hyp_ : eqFieldS_run N l l' = some res_) : ∃ n_, runF Kx eqFieldS_C eqFieldS_O n_ Tryz.f24 ([.sh (.pair .str .str) l, .sh (.pair .str .str) l']) ([]) = some res_ :=
  ⟨N, runL_runF eqFieldS_body (by rw [eqFieldS_loops]; exact List.forall_mem_cons.2 ⟨eqFieldS_ok4 N, fun _ h => nomatch h⟩) ((eqFieldS_runL N l l').trans hyp_)⟩
def eqFieldS_sOf (φ : (List Fd) → (List Fd) → Br) : List AV → List Ob → Br
  | [.sh (.pair .str .str) l, .sh (.pair .str .str) l'], [] => φ l l'
  | _, _ => .fail
theorem eqFieldS_okOf {φ : (List Fd) → (List Fd) → Br} (fu : (List Fd) → (List Fd) → Nat) (hv : ∀ l l' res_, (φ l l').val = some res_ → eqFieldS_run (fu l l') l l' = some res_) : Sound Kx 24 (eqFieldS_sOf φ) := by
  refine sound_run (C := eqFieldS_C) (O := eqFieldS_O) KOk eqFieldS_C_ok Tryz.func24 (by kernel_rfl) fun args objs res os h => ?_
  unfold eqFieldS_sOf at h
  split at h
  · exact eqFieldS_ev _ _ _ (hv _ _ _ h)
  · cases h

end
end Go.Proofs.YtmmjaomfonknnaaGreatDoor.Ev

namespace Go.Proofs.YtmmjaomfonknnaaGreatDoor.Ev
open Go Go.RowKit
set_option linter.unusedVariables false
set_option linter.unusedSimpArgs false
noncomputable section

theorem one_set {α : Type} (d x : α) : List.set (List.replicate 1 d) 0 x = [x] := rfl
theorem eta2 {α β : Type} (x : α × β) : (x.1, x.2) = x := rfl
def valsR (l : List Fd) (name : Bytes) : List Bytes := (l.filter fun f => sameP f.1 name).map (·.2)
def vals (l : List Fd) (name : Bytes) : List Bytes := bif fdsOk l then valsR l name else []
theorem fdsOk_mem {l : List Fd} (h : fdsOk l = true) : l.length ≤ 20 ∧ ∀ f ∈ l, fdOk f = true := by
  unfold fdsOk at h; rw [Bool.and_eq_true, decide_eq_true_eq, List.all_eq_true] at h; exact h
theorem fdOk_isM {f : Fd} (h : fdOk f = true) : isM f.1 = true ∧ isM f.2 = true := ⟨isM_of (fdOk_len h).1, isM_of (fdOk_len h).2⟩
theorem iValues_loop (name : Bytes) (hm : isM name = true) (l : List Fd) (hl : l.length ≤ 20) (k : List Bytes → Option Rs) : ∀ (r : List Fd) (i : Int) (n : Nat) (out : List Bytes), At l i r → r.length < n → (∀ f ∈ r, fdOk f = true) → out.length + r.length ≤ 20 →
    iValues_F5 n name l (l.length : Int) i out k = k (out ++ valsR r name) := by
  intro r; induction r with
  | nil => intro i n out h hn hf ho; obtain ⟨n, rfl⟩ := fuel hn; unfold iValues_F5 iValues_T5; simp only [h.dge, cond_false]; simp [valsR]
  | cons a r ih =>
    intro i n out h hn hf ho; obtain ⟨n, rfl⟩ := fuel hn
    have ha := fdOk_isM (hf a (List.mem_cons_self ..))
    have hr := fun f h => hf f (List.mem_cons_of_mem _ h)
    simp only [List.length_cons] at ho hn
    have e0 : decide ((out.length + [a.2].length) * 16 ≤ 140737488355328) = true := decide_eq_true (by simp only [List.length_singleton]; omega)
    unfold iValues_F5 iValues_T5; simp only [h.dlt, h.dnn, h.get, cond_true, h.next (by omega), ha.1, hm, Bool.and_self, one_set, e0]
    cases hs : sameP a.1 name
    · rw [cond_false, ih (i + 1) n out h.step (by omega) hr (by omega)]; simp [valsR, hs]
    · rw [cond_true, ih (i + 1) n (out ++ [a.2]) h.step (by omega) hr (by simp; omega)]; simp [valsR, hs]
def val_s : List AV → List Ob → Br
  | [.sh (.pair .str .str) l, .str name], [] => .ite (isM name) (.ret (.ref 0 0) [.arr .str 0 false (vals l name)]) .fail
  | _, _ => .fail
theorem iValues_okQ : Sound Kx 93 val_s := by
  refine (iValues_okOf (φ := fun l name => .ite (isM name) (.ret (.ref 0 0) [.arr .str 0 false (vals l name)]) .fail) (fun l _ => l.length + 1) fun l name r h => ?_).of fun args objs r h => ?_
  · obtain ⟨h1, h2⟩ := ite_some h
    cases h2
    unfold iValues_run vals
    cases hf : fdsOk l
    · rfl
    · obtain ⟨g1, g2⟩ := fdsOk_mem hf
      simp only [Bool.not_true, cond_false, cond_true]
      rw [iValues_loop name h1 l g1 _ l 0 _ [] (At.start l) (by omega) g2 (by simpa using g1)]
      rfl
  · unfold val_s at h; split at h
    · exact h
    · cases h
theorem sValues_loop (name : Bytes) (hm : isM name = true) (l : List Fd) (hl : l.length ≤ 20) (k : List Bytes → Option Rs) : ∀ (r : List Fd) (i : Int) (n : Nat) (out : List Bytes), At l i r → r.length < n → (∀ f ∈ r, fdOk f = true) → out.length + r.length ≤ 20 →
    sValues_F5 n l name i out k = k (out ++ valsR r name) := by
  intro r; induction r with
  | nil => intro i n out h hn hf ho; obtain ⟨n, rfl⟩ := fuel hn; unfold sValues_F5 sValues_T5; simp only [h.dge, cond_false]; simp [valsR]
  | cons a r ih =>
    intro i n out h hn hf ho; obtain ⟨n, rfl⟩ := fuel hn
    have ha := fdOk_isM (hf a (List.mem_cons_self ..))
    have hr := fun f h => hf f (List.mem_cons_of_mem _ h)
    simp only [List.length_cons] at ho hn
    have e0 : decide ((out.length + [a.2].length) * 16 ≤ 140737488355328) = true := decide_eq_true (by simp only [List.length_singleton]; omega)
    unfold sValues_F5 sValues_T5; simp only [h.dlt, h.dnn, h.get, cond_true, h.next (by omega), ha.1, hm, Bool.and_self, one_set, e0]
    cases hs : sameP a.1 name
    · rw [cond_false, ih (i + 1) n out h.step (by omega) hr (by omega)]; simp [valsR, hs]
    · rw [cond_true, ih (i + 1) n (out ++ [a.2]) h.step (by omega) hr (by simp; omega)]; simp [valsR, hs]
theorem sValues_okQ : Sound Kx 85 val_s := by
  refine (sValues_okOf (φ := fun l name => .ite (isM name) (.ret (.ref 0 0) [.arr .str 0 false (vals l name)]) .fail) (fun l _ => l.length + 1) fun l name r h => ?_).of fun args objs r h => ?_
  · obtain ⟨h1, h2⟩ := ite_some h
    cases h2
    unfold sValues_run vals
    cases hf : fdsOk l
    · rfl
    · obtain ⟨g1, g2⟩ := fdsOk_mem hf
      simp only [Bool.not_true, cond_false, cond_true]
      rw [sValues_loop name h1 l g1 _ l 0 _ [] (At.start l) (by omega) g2 (by simpa using g1)]
      rfl
  · unfold val_s at h; split at h
    · exact h
    · cases h

def frC : Bytes := [99, 111, 110, 116, 101, 110, 116, 45, 108, 101, 110, 103, 116, 104]
def frT : Bytes := [116, 114, 97, 110, 115, 102, 101, 114, 45, 101, 110, 99, 111, 100, 105, 110, 103]
def frR : Bytes := [116, 114, 97, 105, 108, 101, 114]
def isFr (f : Fd) : Bool := decide (foldP f.1 = frC) || decide (foldP f.1 = frT) || decide (foldP f.1 = frR)
theorem sframed_loop (l : List Fd) (hl : l.length ≤ 20) (k0 k1 : Option Rs) : ∀ (r : List Fd) (i : Int) (n : Nat), At l i r → r.length < n → (∀ f ∈ r, fdOk f = true) → sframed_F2 n l i k0 k1 = bif r.any isFr then k0 else k1 := by
  intro r; induction r with
  | nil => intro i n h hn hf; obtain ⟨n, rfl⟩ := fuel hn; unfold sframed_F2 sframed_T2; simp only [h.dge, cond_false, List.any_nil]
  | cons a r ih =>
    intro i n h hn hf; obtain ⟨n, rfl⟩ := fuel hn
    have ha := fdOk_isM (hf a (List.mem_cons_self ..))
    have hs := ih (i + 1) n h.step (by simp at hn; omega) fun f h => hf f (List.mem_cons_of_mem _ h)
    unfold sframed_F2 sframed_T2; simp only [h.dlt, h.dnn, h.get, cond_true, h.next (by omega), hs, ha.1, List.any_cons]
    show (bif decide (foldP a.1 = frC) then k0 else bif decide (foldP a.1 = frT) then k0 else bif decide (foldP a.1 = frR) then k0 else _) = bif isFr a || _ then _ else _
    unfold isFr
    cases decide (foldP a.1 = frC) <;> cases decide (foldP a.1 = frT) <;> cases decide (foldP a.1 = frR) <;> rfl
def sfr_s : List AV → List Ob → Br
  | [.sh (.pair .str .str) l], [] => .ite (fdsOk l) (.ret (.bool (l.any isFr)) []) .fail
  | _, _ => .fail
theorem sframed_okQ : Sound Kx 111 sfr_s := by
  refine (sframed_okOf (φ := fun l => .ite (fdsOk l) (.ret (.bool (l.any isFr)) []) .fail) (fun l => l.length + 1) fun l r h => ?_).of fun args objs r h => ?_
  · obtain ⟨h1, h2⟩ := ite_some h
    cases h2
    obtain ⟨g1, g2⟩ := fdsOk_mem h1
    unfold sframed_run
    rw [sframed_loop l g1 _ _ l 0 _ (At.start l) (by omega) g2]
    cases l.any isFr <;> rfl
  · unfold sfr_s at h; split at h
    · exact h
    · cases h

def totF : List Fd → Int
  | [] => 0
  | a :: r => (a.1.length : Int) + (a.2.length : Int) + totF r
def isMF (f : Fd) : Bool := isM f.1 && isM f.2
def smF (l : List Fd) : Bool := decide (l.length ≤ 4611686018427387904) && l.all isMF
theorem totF_nn : ∀ l, 0 ≤ totF l
  | [] => Int.le_refl 0
  | a :: r => by have := totF_nn r; simp only [totF]; omega
def szFl (l : List Fd) (left : Int) : Int := bif decide ((l.length : Int) + totF l ≤ left) then left - ((l.length : Int) + totF l) else -1
def okLeft (left : Int) : Bool := decide (0 ≤ left) && decide (left ≤ 1048576)
theorem szFieldS_loop (l : List Fd) (hl : l.length ≤ 4611686018427387904) (ka kb : Int → Option Rs) : ∀ (r : List Fd) (i left : Int) (n : Nat), At l i r → r.length < n → (∀ f ∈ r, isMF f = true) → 0 ≤ left → left ≤ 1048576 →
    szFieldS_F5 n l left i ka kb = bif decide (totF r ≤ left) then kb (left - totF r) else ka (-1) := by
  intro r; induction r with
  | nil =>
    intro i left n h hn hf h0 h1; obtain ⟨n, rfl⟩ := fuel hn; unfold szFieldS_F5 szFieldS_T5
    have e : decide (totF [] ≤ left) = true := decide_eq_true h0
    simp only [h.dge, cond_false, e, cond_true]; simp only [totF, Int.sub_zero]
  | cons a r ih =>
    intro i left n h hn hf h0 h1; obtain ⟨n, rfl⟩ := fuel hn
    have ha := hf a (List.mem_cons_self ..)
    unfold isMF at ha; rw [Bool.and_eq_true] at ha
    have g1 := isM_le ha.1
    have g2 := isM_le ha.2
    have ht := totF_nn r
    have hs := fun left => ih (i + 1) left n h.step (by simp at hn; omega) (fun f h => hf f (List.mem_cons_of_mem _ h))
    unfold szFieldS_F5 szFieldS_T5; simp only [h.dlt, h.dnn, h.get, cond_true, h.next hl]
    rw [w64 (n := left - (a.1.length : Int)) (by omega) (by omega)]
    by_cases c1 : left - (a.1.length : Int) < 0
    · have : ¬ totF (a :: r) ≤ left := by simp only [totF]; omega
      simp only [c1, this, decide_true, decide_false, cond_true, cond_false]
    · rw [w64 (n := left - (a.1.length : Int) - (a.2.length : Int)) (by omega) (by omega)]
      by_cases c2 : left - (a.1.length : Int) - (a.2.length : Int) < 0
      · have : ¬ totF (a :: r) ≤ left := by simp only [totF]; omega
        simp only [c1, c2, this, decide_true, decide_false, cond_true, cond_false]
      · simp only [c1, c2, decide_false, cond_false]
        rw [hs _ (by omega) (by omega)]
        by_cases c3 : totF (a :: r) ≤ left
        · have c3' := c3
          simp only [totF] at c3'
          have e : totF r ≤ left - (a.1.length : Int) - (a.2.length : Int) := by omega
          simp only [e, c3, decide_true, cond_true]
          congr 1; simp only [totF]; omega
        · have c3' := c3
          simp only [totF] at c3'
          have e : ¬ totF r ≤ left - (a.1.length : Int) - (a.2.length : Int) := by omega
          simp only [e, c3, decide_false, cond_false]
theorem szFieldS_okQ : Sound Kx 28 (szFieldS_sOf fun l left => .ite (smF l && okLeft left) (.ret (.int .i64 (szFl l left)) []) .fail) := by
  refine szFieldS_okOf (fun l _ => l.length + 1) fun l left r h => ?_
  obtain ⟨h1, h2⟩ := ite_some h
  cases h2
  simp only [smF, okLeft, Bool.and_eq_true, decide_eq_true_eq, List.all_eq_true] at h1
  unfold szFieldS_run szFl
  have ht := totF_nn l
  rw [w64 (by omega) (by omega)]
  by_cases c : left - (l.length : Int) < 0
  · have : ¬ (l.length : Int) + totF l ≤ left := by omega
    simp only [c, this, decide_true, decide_false, cond_true, cond_false]
  · simp only [c, decide_false, cond_false]
    rw [szFieldS_loop l h1.1.1 _ _ l 0 _ _ (At.start l) (by omega) h1.1.2 (by omega) (by omega)]
    by_cases c2 : (l.length : Int) + totF l ≤ left
    · have e : totF l ≤ left - (l.length : Int) := by omega
      simp only [c2, e, decide_true, cond_true]
      rw [show left - (l.length : Int) - totF l = left - ((l.length : Int) + totF l) by omega]
    · have e : ¬ totF l ≤ left - (l.length : Int) := by omega
      simp only [c2, e, decide_false, cond_false]
theorem toFieldS_loop (l : List Fd) (hl : l.length ≤ 4611686018427387904) (k : List Fd → Option Rs) : ∀ (r pre : List Fd) (i : Int) (n : Nat), l = pre ++ r → i = pre.length → r.length < n →
    toFieldS_F3 n l i (pre ++ List.replicate r.length ([], [])) k = k l := by
  intro r; induction r with
  | nil =>
    intro pre i n h hi hn; obtain ⟨n, rfl⟩ := fuel hn; subst h; subst hi
    have e : decide ((pre.length : Int) < ((pre ++ ([] : List Fd)).length : Int)) = false := by simp
    unfold toFieldS_F3 toFieldS_T3; simp only [e, cond_false]; rfl
  | cons a r ih =>
    intro pre i n h hi hn; obtain ⟨n, rfl⟩ := fuel hn
    have ha : At l i (a :: r) := ⟨pre, h, hi⟩
    have e1 : decide (i < ((pre ++ List.replicate (a :: r).length (([], []) : Fd)).length : Int)) = true := decide_eq_true (by rw [hi]; simp; omega)
    unfold toFieldS_F3 toFieldS_T3; simp only [ha.dlt, ha.dnn, ha.get, cond_true, ha.next hl, e1]
    have := ih (pre ++ [a]) (i + 1) n (by rw [h]; simp) (by rw [hi]; simp) (by simp at hn; omega)
    rw [← this]
    congr 1
    rw [hi]
    simp only [List.length_cons, List.replicate_succ, Int.toNat_natCast, set_mid]
    simp
theorem toFieldS_okQ : Sound Kx 30 (toFieldS_sOf fun l => .ite (decide (l.length ≤ 1048576)) (.ret (.ref 0 0) [.arr (.pair .str .str) 0 false l]) .fail) := by
  refine toFieldS_okOf (fun l => l.length + 1) fun l r h => ?_
  obtain ⟨h1, h2⟩ := ite_some h
  cases h2
  rw [decide_eq_true_eq] at h1
  unfold toFieldS_run
  have e1 : decide ((0 : Int) ≤ (l.length : Int)) = true := by simp
  have e2 : decide ((l.length : Int) * 32 ≤ 140737488355328) = true := decide_eq_true (by omega)
  simp only [e1, e2, decide_true, cond_true, Int.toNat_natCast]
  exact toFieldS_loop l (by omega) _ l [] 0 _ rfl rfl (by omega)
theorem eqFieldS_loop (l l' : List Fd) (hl : l.length ≤ 4611686018427387904) (k0 k1 : Option Rs) : ∀ (r r' : List Fd) (i : Int) (n : Nat), At l i r → At l' i r' → r.length = r'.length → r.length < n →
    eqFieldS_F4 n l l' i k0 k1 = bif decide (r = r') then k1 else k0 := by
  intro r; induction r with
  | nil =>
    intro r' i n h h' he hn; obtain ⟨n, rfl⟩ := fuel hn
    have : r' = [] := List.length_eq_zero_iff.1 he.symm
    subst this
    unfold eqFieldS_F4 eqFieldS_T4; simp only [h.dge, cond_false, decide_true, cond_true]
  | cons a r ih =>
    intro r' i n h h' he hn; obtain ⟨n, rfl⟩ := fuel hn
    cases r' with
    | nil => cases he
    | cons b r' =>
      have hs := ih r' (i + 1) n h.step h'.step (by simpa using he) (by simp at hn; omega)
      unfold eqFieldS_F4 eqFieldS_T4; simp only [h.dlt, h'.dlt, h.dnn, h.get, h'.get, cond_true, h.next hl, hs]
      obtain ⟨a1, a2⟩ := a
      obtain ⟨b1, b2⟩ := b
      by_cases c1 : a1 = b1 <;> by_cases c2 : a2 = b2 <;> by_cases c3 : r = r' <;> simp [c1, c2, c3]
theorem eqFieldS_okQ : Sound Kx 24 (eqFieldS_sOf fun l l' => .ite (decide (l.length ≤ 4611686018427387904)) (.ret (.bool (decide (l = l'))) []) .fail) := by
  refine eqFieldS_okOf (fun l _ => l.length + 1) fun l l' r h => ?_
  obtain ⟨h1, h2⟩ := ite_some h
  cases h2
  rw [decide_eq_true_eq] at h1
  unfold eqFieldS_run
  by_cases c : l.length = l'.length
  · have c' : (l.length : Int) = (l'.length : Int) := by omega
    simp only [c', decide_true, Bool.not_true, cond_false]
    rw [eqFieldS_loop l l' h1 _ _ l l' 0 _ (At.start l) (At.start l') c (by omega)]
    cases decide (l = l') <;> rfl
  · have c' : ¬ (l.length : Int) = (l'.length : Int) := by omega
    have c2 : ¬ l = l' := fun e => c (by rw [e])
    simp only [c', c2, decide_false, Bool.not_false, cond_true]

end
end Go.Proofs.YtmmjaomfonknnaaGreatDoor.Ev

namespace Go.Proofs.YtmmjaomfonknnaaGreatDoor.Ev
open Go Go.RowKit
set_option linter.unusedVariables false
set_option linter.unusedSimpArgs false
noncomputable section

def iAdd_O : Opt := { cons := [], keepNil := false, mutF := [], live := [], outs := [] }
def iAdd_C : Spec := (add noS 147 (t1_s fun s => .str (trimP s)))
theorem iAdd_C_ok : ∀ fn, Sound Kx fn (iAdd_C fn) := (sound_add (sound_no Kx) itrim_okQ)
def iAdd_br (el : Bytes) (out : List Bytes) : Br := (Br.ite (isM el) (Br.ite (!(decide ((trimP el) = ([] : Bytes)))) (Br.ite (decide ((((List.length out) + (List.length (List.set (List.replicate (1 : Nat) ([] : Bytes)) (0 : Nat) (trimP el)))) * (16 : Nat)) ≤ (140737488355328 : Nat))) (Br.ret (AV.tup ([] : List AV)) ((Ob.var ((AV.ref (1 : Nat) (1 : Nat)) :: ([] : List AV))) :: ((Ob.arr Ty.str (1 : Nat) false (out ++ (List.set (List.replicate (1 : Nat) ([] : Bytes)) (0 : Nat) (trimP el)))) :: ([] : List Ob)))) Br.fail) (Br.ret (AV.tup ([] : List AV)) ((Ob.var ((AV.ref (1 : Nat) (0 : Nat)) :: ([] : List AV))) :: ((Ob.arr Ty.str (0 : Nat) false out) :: ([] : List Ob))))) Br.fail)
theorem iAdd_run (el : Bytes) (out : List Bytes) : runF Kx iAdd_C iAdd_O 1 Tryz.f148 ([.str el, .ptr 0 0]) ([.var [.ref 1 0], .arr .str 0 false out]) = (iAdd_br el out).val := by kernel_rfl
def iAdd_s : List AV → List Ob → Br
  | [.str el, .ptr 0 0], [.var [.ref 1 0], .arr .str 0 false out] => iAdd_br el out
  | _, _ => .fail
theorem iAdd_ok : Sound Kx 148 iAdd_s := by
  refine sound_run (C := iAdd_C) (O := iAdd_O) KOk iAdd_C_ok Tryz.func148 (by kernel_rfl) fun args objs res os h => ?_
  unfold iAdd_s at h
  split at h
  · exact ⟨1, (iAdd_run _ _).trans h⟩
  · cases h

def iAddN_O : Opt := { cons := [], keepNil := false, mutF := [], live := [], outs := [] }
def iAddN_C : Spec := (add noS 147 (t1_s fun s => .str (trimP s)))
theorem iAddN_C_ok : ∀ fn, Sound Kx fn (iAddN_C fn) := (sound_add (sound_no Kx) itrim_okQ)
def iAddN_br (el : Bytes) : Br := (Br.ite (isM el) (Br.ite (!(decide ((trimP el) = ([] : Bytes)))) (Br.ite (decide (((List.length (List.set (List.replicate (1 : Nat) ([] : Bytes)) (0 : Nat) (trimP el))) * (16 : Nat)) ≤ (140737488355328 : Nat))) (Br.ret (AV.tup ([] : List AV)) ((Ob.var ((AV.ref (1 : Nat) (0 : Nat)) :: ([] : List AV))) :: ((Ob.arr Ty.str (0 : Nat) false (List.set (List.replicate (1 : Nat) ([] : Bytes)) (0 : Nat) (trimP el))) :: ([] : List Ob)))) Br.fail) (Br.ret (AV.tup ([] : List AV)) ((Ob.var ((AV.nil Ty.str) :: ([] : List AV))) :: ([] : List Ob)))) Br.fail)
theorem iAddN_run (el : Bytes) : runF Kx iAddN_C iAddN_O 1 Tryz.f148 ([.str el, .ptr 0 0]) ([.var [.nil .str]]) = (iAddN_br el).val := by kernel_rfl
def iAddN_s : List AV → List Ob → Br
  | [.str el, .ptr 0 0], [.var [.nil .str]] => iAddN_br el
  | _, _ => .fail
theorem iAddN_ok : Sound Kx 148 iAddN_s := by
  refine sound_run (C := iAddN_C) (O := iAddN_O) KOk iAddN_C_ok Tryz.func148 (by kernel_rfl) fun args objs res os h => ?_
  unfold iAddN_s at h
  split at h
  · exact ⟨1, (iAddN_run _).trans h⟩
  · cases h

def sElements_O : Opt := { cons := [], keepNil := false, mutF := [], live := [(7, [0, 3, 4, 5, 6])], outs := [(7, [2, 3])] }
def sElements_C : Spec := (add noS 144 (t1_s fun s => .str (trimP s)))
theorem sElements_C_ok : ∀ fn, Sound Kx fn (sElements_C fn) := (sound_add (sound_no Kx) strim_okQ)
def sElements_T7 (v7x0 : Bytes) (v7x1 : Int) (v7x2 : Bool) (v7x3 : Int) (v7x4 : (List Bytes)) (kR7 : Bytes → Int → Bool → Int → (List Bytes) → Option Rs) (k7e0 : (List Bytes) → Option Rs) : Option Rs :=
  (bif (decide (v7x3 ≤ ((List.length v7x0) : Int))) then (bif (decide (v7x3 = ((List.length v7x0) : Int))) then (bif (decide ((0 : Int) ≤ v7x1)) then (bif (decide (v7x1 ≤ v7x3)) then (bif (decide (v7x3 ≤ ((List.length v7x0) : Int))) then (bif (isM (cut v7x0 v7x1 v7x3)) then (bif (decide ((0 : Int) < ((List.length (trimP (cut v7x0 v7x1 v7x3))) : Int))) then (bif (decide ((((List.length v7x4) + (List.length (List.set (List.replicate (1 : Nat) ([] : Bytes)) (0 : Nat) (trimP (cut v7x0 v7x1 v7x3))))) * (16 : Nat)) ≤ (140737488355328 : Nat))) then (kR7 v7x0 (wk64 (v7x3 + (1 : Int))) v7x2 (wk64 (v7x3 + (1 : Int))) (v7x4 ++ (List.set (List.replicate (1 : Nat) ([] : Bytes)) (0 : Nat) (trimP (cut v7x0 v7x1 v7x3))))) else (none)) else (kR7 v7x0 (wk64 (v7x3 + (1 : Int))) v7x2 (wk64 (v7x3 + (1 : Int))) v7x4)) else (none)) else (none)) else (none)) else (none)) else (bif (!v7x2) then (bif (decide ((0 : Int) ≤ v7x3)) then (bif (decide (v7x3 < ((List.length v7x0) : Int))) then (bif (decide ((strAt v7x0 v7x3) = (44 : Int))) then (bif (decide ((0 : Int) ≤ v7x1)) then (bif (decide (v7x1 ≤ v7x3)) then (bif (decide (v7x3 ≤ ((List.length v7x0) : Int))) then (bif (isM (cut v7x0 v7x1 v7x3)) then (bif (decide ((0 : Int) < ((List.length (trimP (cut v7x0 v7x1 v7x3))) : Int))) then (bif (decide ((((List.length v7x4) + (List.length (List.set (List.replicate (1 : Nat) ([] : Bytes)) (0 : Nat) (trimP (cut v7x0 v7x1 v7x3))))) * (16 : Nat)) ≤ (140737488355328 : Nat))) then (kR7 v7x0 (wk64 (v7x3 + (1 : Int))) v7x2 (wk64 (v7x3 + (1 : Int))) (v7x4 ++ (List.set (List.replicate (1 : Nat) ([] : Bytes)) (0 : Nat) (trimP (cut v7x0 v7x1 v7x3))))) else (none)) else (kR7 v7x0 (wk64 (v7x3 + (1 : Int))) v7x2 (wk64 (v7x3 + (1 : Int))) v7x4)) else (none)) else (none)) else (none)) else (none)) else (bif (decide ((0 : Int) ≤ v7x3)) then (bif (decide (v7x3 < ((List.length v7x0) : Int))) then (bif (decide ((strAt v7x0 v7x3) = (34 : Int))) then (kR7 v7x0 v7x1 (!v7x2) (wk64 (v7x3 + (1 : Int))) v7x4) else (bif v7x2 then (bif (decide ((0 : Int) ≤ v7x3)) then (bif (decide (v7x3 < ((List.length v7x0) : Int))) then (bif (decide ((strAt v7x0 v7x3) = (92 : Int))) then (bif (decide ((wk64 (v7x3 + (1 : Int))) < ((List.length v7x0) : Int))) then (kR7 v7x0 v7x1 v7x2 (wk64 ((wk64 (v7x3 + (1 : Int))) + (1 : Int))) v7x4) else (kR7 v7x0 v7x1 v7x2 (wk64 (v7x3 + (1 : Int))) v7x4)) else (kR7 v7x0 v7x1 v7x2 (wk64 (v7x3 + (1 : Int))) v7x4)) else (none)) else (none)) else (kR7 v7x0 v7x1 v7x2 (wk64 (v7x3 + (1 : Int))) v7x4))) else (none)) else (none))) else (none)) else (none)) else (bif (decide ((0 : Int) ≤ v7x3)) then (bif (decide (v7x3 < ((List.length v7x0) : Int))) then (bif (decide ((strAt v7x0 v7x3) = (34 : Int))) then (kR7 v7x0 v7x1 (!v7x2) (wk64 (v7x3 + (1 : Int))) v7x4) else (bif v7x2 then (bif (decide ((0 : Int) ≤ v7x3)) then (bif (decide (v7x3 < ((List.length v7x0) : Int))) then (bif (decide ((strAt v7x0 v7x3) = (92 : Int))) then (bif (decide ((wk64 (v7x3 + (1 : Int))) < ((List.length v7x0) : Int))) then (kR7 v7x0 v7x1 v7x2 (wk64 ((wk64 (v7x3 + (1 : Int))) + (1 : Int))) v7x4) else (kR7 v7x0 v7x1 v7x2 (wk64 (v7x3 + (1 : Int))) v7x4)) else (kR7 v7x0 v7x1 v7x2 (wk64 (v7x3 + (1 : Int))) v7x4)) else (none)) else (none)) else (kR7 v7x0 v7x1 v7x2 (wk64 (v7x3 + (1 : Int))) v7x4))) else (none)) else (none)))) else (k7e0 v7x4))
def sElements_F7 : Nat → Bytes → Int → Bool → Int → (List Bytes) → ((List Bytes) → Option Rs) → Option Rs
  | 0, _, _, _, _, _, _ => none
  | n + 1, v7x0, v7x1, v7x2, v7x3, v7x4, k7e0 => sElements_T7 v7x0 v7x1 v7x2 v7x3 v7x4 (fun v7x0 v7x1 v7x2 v7x3 v7x4 => sElements_F7 n v7x0 v7x1 v7x2 v7x3 v7x4 k7e0) k7e0
def sElements_h7 (v7x0 : Bytes) (v7x1 : Int) (v7x2 : Bool) (v7x3 : Int) (v7x4 : (List Bytes)) : St := (St.mk (slots 0 70 [(0, (AV.str v7x0)), (3, (AV.ref (256 : Nat) (0 : Nat))), (4, (AV.int .i64 v7x1)), (5, (AV.bool v7x2)), (6, (AV.int .i64 v7x3))]) (((256 : Nat), (Ob.arr Ty.str (0 : Nat) false v7x4)) :: ([] : (List (Nat × (Ob))))))
def sElements_x7e0 (x7x0x0 : (List Bytes)) : St := (St.mk (slots 0 70 [(3, (AV.ref (256 : Nat) (0 : Nat)))]) (((256 : Nat), (Ob.arr Ty.str (0 : Nat) false x7x0x0)) :: ([] : (List (Nat × (Ob))))))
noncomputable def sElements_b7 : Code := codeAt (codeOf Tryz.f99) [1, 1, 1, 1, 1, 0, 1, 0, 0]
def sElements_L7 (N : Nat) (st : St) (k : Ex → St → Option Rs) : Option Rs := match takeF [0, 3, 4, 5, 6] 0 70 st.env, st.objs with
  | some [.str v7x0, .ref 256 0, .int .i64 v7x1, .bool v7x2, .int .i64 v7x3], [(256, .arr Ty.str 0 false v7x4)] => sElements_F7 N v7x0 v7x1 v7x2 v7x3 v7x4 (fun x7x0x0 => k (Ex.exit (0 : Nat)) (sElements_x7e0 x7x0x0))
  | _, _ => none
def sElements_L (N : Nat) : Lam := fun j st k => match j with
  | 7 => sElements_L7 N st k
  | _ => none
theorem sElements_round7 (N : Nat) (again : St → Option Rs) (k : Ex → St → Option Rs) (wv7x0 : Bytes) (wv7x1 : Int) (wv7x2 : Bool) (wv7x3 : Int) (wv7x4 : (List Bytes)) (v7x0 : Bytes) (v7x1 : Int) (v7x2 : Bool) (v7x3 : Int) (v7x4 : (List Bytes)) :
    roundK 0 (fun st k => evL Kx sElements_C sElements_O 0 (sElements_L N) sElements_b7 st k) (sElements_h7 wv7x0 wv7x1 wv7x2 wv7x3 wv7x4).env again (sElements_h7 v7x0 v7x1 v7x2 v7x3 v7x4) (outK sElements_O 0 sElements_b7 k) = sElements_T7 v7x0 v7x1 v7x2 v7x3 v7x4 (fun v7x0 v7x1 v7x2 v7x3 v7x4 => again (sElements_h7 v7x0 v7x1 v7x2 v7x3 v7x4)) (fun x7x0x0 => k (Ex.exit (0 : Nat)) (sElements_x7e0 x7x0x0)) := by kernel_rfl
theorem sElements_loop7 (N : Nat) (k : Ex → St → Option Rs) (wv7x0 : Bytes) (wv7x1 : Int) (wv7x2 : Bool) (wv7x3 : Int) (wv7x4 : (List Bytes)) : ∀ (n : Nat) (v7x0 : Bytes) (v7x1 : Int) (v7x2 : Bool) (v7x3 : Int) (v7x4 : (List Bytes)),
    loopK 0 (fun st k => evL Kx sElements_C sElements_O 0 (sElements_L N) sElements_b7 st k) (sElements_h7 wv7x0 wv7x1 wv7x2 wv7x3 wv7x4).env n (sElements_h7 v7x0 v7x1 v7x2 v7x3 v7x4) (outK sElements_O 0 sElements_b7 k) = sElements_F7 n v7x0 v7x1 v7x2 v7x3 v7x4 (fun x7x0x0 => k (Ex.exit (0 : Nat)) (sElements_x7e0 x7x0x0))
  | 0, _, _, _, _, _ => rfl
  | n + 1, v7x0, v7x1, v7x2, v7x3, v7x4 => by
    rw [loopK_succ, sElements_round7]
    simp only [sElements_loop7 N k wv7x0 wv7x1 wv7x2 wv7x3 wv7x4 n]
    rfl
theorem sElements_at7 (N : Nat) {s : St} {k : Ex → St → Option Rs} {r : Rs} (h : sElements_L7 N s k = some r) : ∃ (v7x0 : Bytes) (v7x1 : Int) (v7x2 : Bool) (v7x3 : Int) (v7x4 : (List Bytes)), s = (sElements_h7 v7x0 v7x1 v7x2 v7x3 v7x4) ∧ sElements_F7 N v7x0 v7x1 v7x2 v7x3 v7x4 (fun x7x0x0 => k (Ex.exit (0 : Nat)) (sElements_x7e0 x7x0x0)) = some r := by
  cases s with | mk env objs =>
  unfold sElements_L7 at h
  split at h
  · rename_i e1 e2
    have e3 := takeF_slots _ _ _ _ e1
    simp only at e2 e3
    subst e2 e3
    exact ⟨_, _, _, _, _, rfl, h⟩
  · cases h
theorem sElements_in7 : loops sElements_b7 = [] := by kernel_rfl
theorem sElements_lid7 : lid sElements_b7 = 7 := by kernel_rfl
theorem sElements_ok7 (N : Nat) : OkL Kx sElements_C sElements_O 0 N (sElements_L N) sElements_b7 := by
  intro s k k' r hk h
  rw [sElements_lid7] at h
  obtain ⟨v7x0, v7x1, v7x2, v7x3, v7x4, rfl, h⟩ := sElements_at7 N h
  refine loopL (Λ := sElements_L N) sElements_b7 ?_ N hk ((sElements_loop7 N k v7x0 v7x1 v7x2 v7x3 v7x4 N v7x0 v7x1 v7x2 v7x3 v7x4).trans h)
  rw [sElements_in7]
  exact fun _ h => nomatch h
def sElements_run (N : Nat) (s : Bytes) : Option Rs := (bif (decide ((4000 : Int) < ((List.length s) : Int))) then (some ((AV.ref (0 : Nat) (0 : Nat)), ((Ob.arr Ty.str (0 : Nat) false ([] : (List Bytes))) :: ([] : List Ob)))) else (sElements_F7 N s (0 : Int) false (0 : Int) ([] : (List Bytes)) (fun x7x0x0 => (some ((AV.ref (0 : Nat) (0 : Nat)), ((Ob.arr Ty.str (0 : Nat) false x7x0x0) :: ([] : List Ob)))))))
theorem sElements_runL (N : Nat) (s : Bytes) : runL Kx sElements_C sElements_O (sElements_L N) Tryz.f99 ([.str s]) ([]) = sElements_run N s := by kernel_rfl
theorem sElements_body : Tryz.f99.body = some (codeOf Tryz.f99) := by kernel_rfl
theorem sElements_loops : loops (codeOf Tryz.f99) = [sElements_b7] := by kernel_rfl
theorem sElements_ev (N : Nat) (s : Bytes) {res_ : Rs} (hyp_ : sElements_run N s = some res_) : ∃ n_, runF Kx sElements_C sElements_O n_ Tryz.f99 ([.str s]) ([]) = some res_ :=
  ⟨N, runL_runF sElements_body (by rw [sElements_loops]; exact List.forall_mem_cons.2 ⟨sElements_ok7 N, fun _ h => nomatch h⟩) ((sElements_runL N s).trans hyp_)⟩
def sElements_sOf (φ : Bytes → Br) : List AV → List Ob → Br
  | [.str s], [] => φ s
  | _, _ => .fail
theorem sElements_okOf {φ : Bytes → Br} (fu : Bytes → Nat) (hv : ∀ s res_, (φ s).val = some res_ → sElements_run (fu s) s = some res_) : Sound Kx 99 (sElements_sOf φ) := by
  refine sound_run (C := sElements_C) (O := sElements_O) KOk sElements_C_ok Tryz.func99 (by kernel_rfl) fun args objs res os h => ?_
  unfold sElements_sOf at h
  split at h
  · exact sElements_ev _ _ (hv _ _ h)
  · cases h

def sJoined_O : Opt := { cons := [], keepNil := false, mutF := [], live := [(4, [5, 6, 7])], outs := [(4, [4, 6])] }
def sJoined_C : Spec := (add noS 85 val_s)
theorem sJoined_C_ok : ∀ fn, Sound Kx fn (sJoined_C fn) := (sound_add (sound_no Kx) sValues_okQ)
def sJoined_T4 (v4x0 : Bytes) (v4x1 : Int) (v4x2 : (List Bytes)) (kR4 : Bytes → Int → (List Bytes) → Option Rs) (k4e0 : Bytes → Option Rs) : Option Rs :=
  (bif (decide (v4x1 < ((List.length v4x2) : Int))) then (bif (decide ((0 : Int) < v4x1)) then (bif (decide (((List.length v4x0) + (2 : Nat)) ≤ (9223372036854775807 : Nat))) then (bif (decide ((0 : Int) ≤ v4x1)) then (bif (decide (v4x1 < ((List.length v4x2) : Int))) then (bif (decide (((List.length (v4x0 ++ ((44 : UInt8) :: ((32 : UInt8) :: ([] : Bytes))))) + (List.length (List.getD v4x2 (Int.toNat v4x1) ([] : Bytes)))) ≤ (9223372036854775807 : Nat))) then (kR4 ((v4x0 ++ ((44 : UInt8) :: ((32 : UInt8) :: ([] : Bytes)))) ++ (List.getD v4x2 (Int.toNat v4x1) ([] : Bytes))) (wk64 (v4x1 + (1 : Int))) v4x2) else (none)) else (none)) else (none)) else (none)) else (bif (decide ((0 : Int) ≤ v4x1)) then (bif (decide (v4x1 < ((List.length v4x2) : Int))) then (bif (decide (((List.length v4x0) + (List.length (List.getD v4x2 (Int.toNat v4x1) ([] : Bytes)))) ≤ (9223372036854775807 : Nat))) then (kR4 (v4x0 ++ (List.getD v4x2 (Int.toNat v4x1) ([] : Bytes))) (wk64 (v4x1 + (1 : Int))) v4x2) else (none)) else (none)) else (none))) else (k4e0 v4x0))
def sJoined_F4 : Nat → Bytes → Int → (List Bytes) → (Bytes → Option Rs) → Option Rs
  | 0, _, _, _, _ => none
  | n + 1, v4x0, v4x1, v4x2, k4e0 => sJoined_T4 v4x0 v4x1 v4x2 (fun v4x0 v4x1 v4x2 => sJoined_F4 n v4x0 v4x1 v4x2 k4e0) k4e0
def sJoined_h4 (v4x0 : Bytes) (v4x1 : Int) (v4x2 : (List Bytes)) : St := (St.mk (slots 0 28 [(5, (AV.ref (384 : Nat) (0 : Nat))), (6, (AV.str v4x0)), (7, (AV.int .i64 v4x1))]) (((384 : Nat), (Ob.arr Ty.str (0 : Nat) false v4x2)) :: ([] : (List (Nat × (Ob))))))
def sJoined_x4e0 (x4x0x0 : Bytes) : St := (St.mk (slots 0 28 [(6, (AV.str x4x0x0))]) ([] : (List (Nat × (Ob)))))
noncomputable def sJoined_b4 : Code := codeAt (codeOf Tryz.f100) [1, 1, 1, 0, 1, 0, 0]
def sJoined_L4 (N : Nat) (st : St) (k : Ex → St → Option Rs) : Option Rs := match takeF [5, 6, 7] 0 28 st.env, st.objs with
  | some [.ref 384 0, .str v4x0, .int .i64 v4x1], [(384, .arr Ty.str 0 false v4x2)] => sJoined_F4 N v4x0 v4x1 v4x2 (fun x4x0x0 => k (Ex.exit (0 : Nat)) (sJoined_x4e0 x4x0x0))
  | _, _ => none
def sJoined_L (N : Nat) : Lam := fun j st k => match j with
  | 4 => sJoined_L4 N st k
  | _ => none
theorem sJoined_round4 (N : Nat) (again : St → Option Rs) (k : Ex → St → Option Rs) (wv4x0 : Bytes) (wv4x1 : Int) (wv4x2 : (List Bytes)) (v4x0 : Bytes) (v4x1 : Int) (v4x2 : (List Bytes)) :
    roundK 0 (fun st k => evL Kx sJoined_C sJoined_O 0 (sJoined_L N) sJoined_b4 st k) (sJoined_h4 wv4x0 wv4x1 wv4x2).env again (sJoined_h4 v4x0 v4x1 v4x2) (outK sJoined_O 0 sJoined_b4 k) = sJoined_T4 v4x0 v4x1 v4x2 (fun v4x0 v4x1 v4x2 => again (sJoined_h4 v4x0 v4x1 v4x2)) (fun x4x0x0 => k (Ex.exit (0 : Nat)) (sJoined_x4e0 x4x0x0)) := by kernel_rfl
theorem sJoined_loop4 (N : Nat) (k : Ex → St → Option Rs) (wv4x0 : Bytes) (wv4x1 : Int) (wv4x2 : (List Bytes)) : ∀ (n : Nat) (v4x0 : Bytes) (v4x1 : Int) (v4x2 : (List Bytes)),
    loopK 0 (fun st k => evL Kx sJoined_C sJoined_O 0 (sJoined_L N) sJoined_b4 st k) (sJoined_h4 wv4x0 wv4x1 wv4x2).env n (sJoined_h4 v4x0 v4x1 v4x2) (outK sJoined_O 0 sJoined_b4 k) = sJoined_F4 n v4x0 v4x1 v4x2 (fun x4x0x0 => k (Ex.exit (0 : Nat)) (sJoined_x4e0 x4x0x0))
  | 0, _, _, _ => rfl
  | n + 1, v4x0, v4x1, v4x2 => by
    rw [loopK_succ, sJoined_round4]
    simp only [sJoined_loop4 N k wv4x0 wv4x1 wv4x2 n]
    rfl
theorem sJoined_at4 (N : Nat) {s : St} {k : Ex → St → Option Rs} {r : Rs} (h : sJoined_L4 N s k = some r) : ∃ (v4x0 : Bytes) (v4x1 : Int) (v4x2 : (List Bytes)), s = (sJoined_h4 v4x0 v4x1 v4x2) ∧ sJoined_F4 N v4x0 v4x1 v4x2 (fun x4x0x0 => k (Ex.exit (0 : Nat)) (sJoined_x4e0 x4x0x0)) = some r := by
  cases s with | mk env objs =>
  unfold sJoined_L4 at h
  split at h
  · rename_i e1 e2
    have e3 := takeF_slots _ _ _ _ e1
    simp only at e2 e3
    subst e2 e3
    exact ⟨_, _, _, rfl, h⟩
  · cases h
theorem sJoined_in4 : loops sJoined_b4 = [] := by kernel_rfl
theorem sJoined_lid4 : lid sJoined_b4 = 4 := by kernel_rfl
theorem sJoined_ok4 (N : Nat) : OkL Kx sJoined_C sJoined_O 0 N (sJoined_L N) sJoined_b4 := by
  intro s k k' r hk h
  rw [sJoined_lid4] at h
  obtain ⟨v4x0, v4x1, v4x2, rfl, h⟩ := sJoined_at4 N h
  refine loopL (Λ := sJoined_L N) sJoined_b4 ?_ N hk ((sJoined_loop4 N k v4x0 v4x1 v4x2 N v4x0 v4x1 v4x2).trans h)
  rw [sJoined_in4]
  exact fun _ h => nomatch h
def sJoined_run (N : Nat) (l : List Fd) (name : Bytes) : Option Rs := (bif (isM name) then (sJoined_F4 N ([] : Bytes) (0 : Int) (vals l name) (fun x4x0x0 => (some ((AV.str x4x0x0), ([] : List Ob))))) else (none))
theorem sJoined_runL (N : Nat) (l : List Fd) (name : Bytes) : runL Kx sJoined_C sJoined_O (sJoined_L N) Tryz.f100 ([.sh (.pair .str .str) l, .str name]) ([]) = sJoined_run N l name := by kernel_rfl
theorem sJoined_body : Tryz.f100.body = some (codeOf Tryz.f100) := by kernel_rfl
theorem sJoined_loops : loops (codeOf Tryz.f100) = [sJoined_b4] := by kernel_rfl
theorem sJoined_ev (N : Nat) (l : List Fd) (name : Bytes) {res_ : Rs} (hyp_ : sJoined_run N l name = some res_) : ∃ n_, runF Kx sJoined_C sJoined_O n_ Tryz.f100 ([.sh (.pair .str .str) l, .str name]) ([]) = some res_ :=
  ⟨N, runL_runF sJoined_body (by rw [sJoined_loops]; exact List.forall_mem_cons.2 ⟨sJoined_ok4 N, fun _ h => nomatch h⟩) ((sJoined_runL N l name).trans hyp_)⟩
def sJoined_sOf (φ : (List Fd) → Bytes → Br) : List AV → List Ob → Br
  | [.sh (.pair .str .str) l, .str name], [] => φ l name
  | _, _ => .fail
theorem sJoined_okOf {φ : (List Fd) → Bytes → Br} (fu : (List Fd) → Bytes → Nat) (hv : ∀ l name res_, (φ l name).val = some res_ → sJoined_run (fu l name) l name = some res_) : Sound Kx 100 (sJoined_sOf φ) := by
  refine sound_run (C := sJoined_C) (O := sJoined_O) KOk sJoined_C_ok Tryz.func100 (by kernel_rfl) fun args objs res os h => ?_
  unfold sJoined_sOf at h
  split at h
  · exact sJoined_ev _ _ _ (hv _ _ _ h)
  · cases h

def sl5in_O : Opt := { cons := [], keepNil := false, mutF := [], live := [(2, [0, 1, 5])], outs := [(2, [4])] }
def sl5in_T2 (v2x0 : (List Bytes)) (v2x1 : Bytes) (v2x2 : Int) (kR2 : (List Bytes) → Bytes → Int → Option Rs) (k2e0 : Option Rs) (k2e1 : Option Rs) : Option Rs :=
  (bif (decide (v2x2 < ((List.length v2x0) : Int))) then (bif (decide ((0 : Int) ≤ v2x2)) then (bif (decide (v2x2 < ((List.length v2x0) : Int))) then (bif (decide ((List.getD v2x0 (Int.toNat v2x2) ([] : Bytes)) = v2x1)) then k2e0 else (kR2 v2x0 v2x1 (wk64 (v2x2 + (1 : Int))))) else (none)) else (none)) else k2e1)
def sl5in_F2 : Nat → (List Bytes) → Bytes → Int → (Option Rs) → (Option Rs) → Option Rs
  | 0, _, _, _, _, _ => none
  | n + 1, v2x0, v2x1, v2x2, k2e0, k2e1 => sl5in_T2 v2x0 v2x1 v2x2 (fun v2x0 v2x1 v2x2 => sl5in_F2 n v2x0 v2x1 v2x2 k2e0 k2e1) k2e0 k2e1
def sl5in_h2 (v2x0 : (List Bytes)) (v2x1 : Bytes) (v2x2 : Int) : St := (St.mk (slots 0 18 [(0, (AV.sh Ty.str v2x0)), (1, (AV.str v2x1)), (5, (AV.int .i64 v2x2))]) ([] : (List (Nat × (Ob)))))
def sl5in_x2e0  : St := (St.mk (slots 0 18 [(4, (AV.bool true))]) ([] : (List (Nat × (Ob)))))
def sl5in_x2e1  : St := (St.mk (slots 0 18 []) ([] : (List (Nat × (Ob)))))
noncomputable def sl5in_b2 : Code := codeAt (codeOf Tryz.f150) [1, 0, 1, 0, 0]
def sl5in_L2 (N : Nat) (st : St) (k : Ex → St → Option Rs) : Option Rs := match takeF [0, 1, 5] 0 18 st.env, st.objs with
  | some [.sh Ty.str v2x0, .str v2x1, .int .i64 v2x2], [] => sl5in_F2 N v2x0 v2x1 v2x2 (k Ex.ret (sl5in_x2e0)) (k (Ex.exit (0 : Nat)) (sl5in_x2e1))
  | _, _ => none
def sl5in_L (N : Nat) : Lam := fun j st k => match j with
  | 2 => sl5in_L2 N st k
  | _ => none
theorem sl5in_round2 (N : Nat) (again : St → Option Rs) (k : Ex → St → Option Rs) (wv2x0 : (List Bytes)) (wv2x1 : Bytes) (wv2x2 : Int) (v2x0 : (List Bytes)) (v2x1 : Bytes) (v2x2 : Int) :
    roundK 0 (fun st k => evL Kx noS sl5in_O 0 (sl5in_L N) sl5in_b2 st k) (sl5in_h2 wv2x0 wv2x1 wv2x2).env again (sl5in_h2 v2x0 v2x1 v2x2) (outK sl5in_O 0 sl5in_b2 k) = sl5in_T2 v2x0 v2x1 v2x2 (fun v2x0 v2x1 v2x2 => again (sl5in_h2 v2x0 v2x1 v2x2)) (k Ex.ret (sl5in_x2e0)) (k (Ex.exit (0 : Nat)) (sl5in_x2e1)) := by kernel_rfl
theorem sl5in_loop2 (N : Nat) (k : Ex → St → Option Rs) (wv2x0 : (List Bytes)) (wv2x1 : Bytes) (wv2x2 : Int) : ∀ (n : Nat) (v2x0 : (List Bytes)) (v2x1 : Bytes) (v2x2 : Int),
    loopK 0 (fun st k => evL Kx noS sl5in_O 0 (sl5in_L N) sl5in_b2 st k) (sl5in_h2 wv2x0 wv2x1 wv2x2).env n (sl5in_h2 v2x0 v2x1 v2x2) (outK sl5in_O 0 sl5in_b2 k) = sl5in_F2 n v2x0 v2x1 v2x2 (k Ex.ret (sl5in_x2e0)) (k (Ex.exit (0 : Nat)) (sl5in_x2e1))
  | 0, _, _, _ => rfl
  | n + 1, v2x0, v2x1, v2x2 => by
    rw [loopK_succ, sl5in_round2]
    simp only [sl5in_loop2 N k wv2x0 wv2x1 wv2x2 n]
    rfl
theorem sl5in_at2 (N : Nat) {s : St} {k : Ex → St → Option Rs} {r : Rs} (h : sl5in_L2 N s k = some r) : ∃ (v2x0 : (List Bytes)) (v2x1 : Bytes) (v2x2 : Int), s = (sl5in_h2 v2x0 v2x1 v2x2) ∧ sl5in_F2 N v2x0 v2x1 v2x2 (k Ex.ret (sl5in_x2e0)) (k (Ex.exit (0 : Nat)) (sl5in_x2e1)) = some r := by
  cases s with | mk env objs =>
  unfold sl5in_L2 at h
  split at h
  · rename_i e1 e2
    have e3 := takeF_slots _ _ _ _ e1
    simp only at e2 e3
    subst e2 e3
    exact ⟨_, _, _, rfl, h⟩
  · cases h
theorem sl5in_in2 : loops sl5in_b2 = [] := by kernel_rfl
theorem sl5in_lid2 : lid sl5in_b2 = 2 := by kernel_rfl
theorem sl5in_ok2 (N : Nat) : OkL Kx noS sl5in_O 0 N (sl5in_L N) sl5in_b2 := by
  intro s k k' r hk h
  rw [sl5in_lid2] at h
  obtain ⟨v2x0, v2x1, v2x2, rfl, h⟩ := sl5in_at2 N h
  refine loopL (Λ := sl5in_L N) sl5in_b2 ?_ N hk ((sl5in_loop2 N k v2x0 v2x1 v2x2 N v2x0 v2x1 v2x2).trans h)
  rw [sl5in_in2]
  exact fun _ h => nomatch h
def sl5in_run (N : Nat) (l : List Bytes) (s : Bytes) : Option Rs := (sl5in_F2 N l s (0 : Int) (some ((AV.bool true), ([] : List Ob))) (some ((AV.bool false), ([] : List Ob))))
theorem sl5in_runL (N : Nat) (l : List Bytes) (s : Bytes) : runL Kx noS sl5in_O (sl5in_L N) Tryz.f150 ([.sh .str l, .str s]) ([]) = sl5in_run N l s := by kernel_rfl
theorem sl5in_body : Tryz.f150.body = some (codeOf Tryz.f150) := by kernel_rfl
theorem sl5in_loops : loops (codeOf Tryz.f150) = [sl5in_b2] := by kernel_rfl
theorem sl5in_ev (N : Nat) (l : List Bytes) (s : Bytes) {res_ : Rs} (hyp_ : sl5in_run N l s = some res_) : ∃ n_, runF Kx noS sl5in_O n_ Tryz.f150 ([.sh .str l, .str s]) ([]) = some res_ :=
  ⟨N, runL_runF sl5in_body (by rw [sl5in_loops]; exact List.forall_mem_cons.2 ⟨sl5in_ok2 N, fun _ h => nomatch h⟩) ((sl5in_runL N l s).trans hyp_)⟩
def sl5in_sOf (φ : (List Bytes) → Bytes → Br) : List AV → List Ob → Br
  | [.sh .str l, .str s], [] => φ l s
  | _, _ => .fail
theorem sl5in_okOf {φ : (List Bytes) → Bytes → Br} (fu : (List Bytes) → Bytes → Nat) (hv : ∀ l s res_, (φ l s).val = some res_ → sl5in_run (fu l s) l s = some res_) : Sound Kx 150 (sl5in_sOf φ) := by
  refine sound_run (C := noS) (O := sl5in_O) KOk (sound_no Kx) Tryz.func150 (by kernel_rfl) fun args objs res os h => ?_
  unfold sl5in_sOf at h
  split at h
  · exact sl5in_ev _ _ _ (hv _ _ _ h)
  · cases h

end
end Go.Proofs.YtmmjaomfonknnaaGreatDoor.Ev

namespace Go.Proofs.YtmmjaomfonknnaaGreatDoor.Ev
open Go Go.RowKit
set_option linter.unusedVariables false
set_option linter.unusedSimpArgs false
noncomputable section

def add_s : List AV → List Ob → Br
  | [.str el, .ptr 0 0], [.var [.ref 1 0], .arr .str 0 false out] => .ite (isM el && decide (out.length ≤ 100000)) (.ite (decide (trimP el = [])) (.ret (.tup []) [.var [.ref 1 0], .arr .str 0 false out]) (.ret (.tup []) [.var [.ref 1 1], .arr .str 1 false (out ++ [trimP el])])) .fail
  | [.str el, .ptr 0 0], [.var [.nil .str]] => .ite (isM el) (.ite (decide (trimP el = [])) (.ret (.tup []) [.var [.nil .str]]) (.ret (.tup []) [.var [.ref 1 0], .arr .str 0 false [trimP el]])) .fail
  | _, _ => .fail
theorem add_okQ : Sound Kx 148 add_s := by
  intro args objs res objs' hv
  unfold add_s at hv
  split at hv
  · rename_i el out
    refine iAdd_ok _ _ _ _ ?_
    show (iAdd_br el out).val = _
    obtain ⟨h1, h2⟩ := ite_some hv
    rw [Bool.and_eq_true, decide_eq_true_eq] at h1
    unfold iAdd_br
    refine (val_t h1.1).trans (Eq.trans ?_ h2)
    rw [one_set]
    cases c : decide (trimP el = [])
    · exact val_t (decide_eq_true (by simp only [List.length_singleton]; omega))
    · rfl
  · rename_i el
    refine iAddN_ok _ _ _ _ ?_
    show (iAddN_br el).val = _
    obtain ⟨h1, h2⟩ := ite_some hv
    unfold iAddN_br
    refine (val_t h1).trans (Eq.trans ?_ h2)
    rw [one_set]
    cases c : decide (trimP el = [])
    · rfl
    · rfl
  · cases hv
end
end Go.Proofs.YtmmjaomfonknnaaGreatDoor.Ev

namespace Go.Proofs.YtmmjaomfonknnaaGreatDoor.Ev
open Go Go.RowKit
set_option linter.unusedVariables false
set_option linter.unusedSimpArgs false
noncomputable section

def iElements_O : Opt := { cons := [], keepNil := false, mutF := [], live := [(7, [0, 3, 4, 5, 6, 7])], outs := [(7, [0, 2, 3, 4, 5])] }
def iElements_C : Spec := (add noS 148 add_s)
theorem iElements_C_ok : ∀ fn, Sound Kx fn (iElements_C fn) := (sound_add (sound_no Kx) add_okQ)
def iElements_T7 (v7x0 : Bytes) (v7x1 : Int) (v7x2 : Bool) (v7x3 : Int) (v7x4 : (List Bytes)) (kR7 : Bytes → Int → Bool → Int → (List Bytes) → Option Rs) (k7e0 : Bytes → Int → (List Bytes) → Option Rs) : Option Rs :=
  (bif (decide (v7x3 < ((List.length v7x0) : Int))) then (bif (decide ((0 : Int) ≤ v7x3)) then (bif (decide (v7x3 < ((List.length v7x0) : Int))) then (bif (decide ((strAt v7x0 v7x3) = (34 : Int))) then (kR7 v7x0 v7x1 (!v7x2) (wk64 (v7x3 + (1 : Int))) v7x4) else (bif v7x2 then (bif (decide ((0 : Int) ≤ v7x3)) then (bif (decide (v7x3 < ((List.length v7x0) : Int))) then (bif (decide ((strAt v7x0 v7x3) = (92 : Int))) then (kR7 v7x0 v7x1 v7x2 (wk64 ((wk64 (v7x3 + (1 : Int))) + (1 : Int))) v7x4) else (bif (!v7x2) then (bif (decide ((0 : Int) ≤ v7x3)) then (bif (decide (v7x3 < ((List.length v7x0) : Int))) then (bif (decide ((strAt v7x0 v7x3) = (44 : Int))) then (bif (decide ((0 : Int) ≤ v7x1)) then (bif (decide (v7x1 ≤ v7x3)) then (bif (decide (v7x3 ≤ ((List.length v7x0) : Int))) then (bif ((isM (cut v7x0 v7x1 v7x3)) && (decide ((List.length v7x4) ≤ (100000 : Nat)))) then (bif (decide ((trimP (cut v7x0 v7x1 v7x3)) = ([] : Bytes))) then (kR7 v7x0 (wk64 (v7x3 + (1 : Int))) v7x2 (wk64 (v7x3 + (1 : Int))) v7x4) else (kR7 v7x0 (wk64 (v7x3 + (1 : Int))) v7x2 (wk64 (v7x3 + (1 : Int))) (v7x4 ++ ((trimP (cut v7x0 v7x1 v7x3)) :: ([] : (List Bytes)))))) else (none)) else (none)) else (none)) else (none)) else (kR7 v7x0 v7x1 v7x2 (wk64 (v7x3 + (1 : Int))) v7x4)) else (none)) else (none)) else (kR7 v7x0 v7x1 v7x2 (wk64 (v7x3 + (1 : Int))) v7x4))) else (none)) else (none)) else (bif (!v7x2) then (bif (decide ((0 : Int) ≤ v7x3)) then (bif (decide (v7x3 < ((List.length v7x0) : Int))) then (bif (decide ((strAt v7x0 v7x3) = (44 : Int))) then (bif (decide ((0 : Int) ≤ v7x1)) then (bif (decide (v7x1 ≤ v7x3)) then (bif (decide (v7x3 ≤ ((List.length v7x0) : Int))) then (bif ((isM (cut v7x0 v7x1 v7x3)) && (decide ((List.length v7x4) ≤ (100000 : Nat)))) then (bif (decide ((trimP (cut v7x0 v7x1 v7x3)) = ([] : Bytes))) then (kR7 v7x0 (wk64 (v7x3 + (1 : Int))) v7x2 (wk64 (v7x3 + (1 : Int))) v7x4) else (kR7 v7x0 (wk64 (v7x3 + (1 : Int))) v7x2 (wk64 (v7x3 + (1 : Int))) (v7x4 ++ ((trimP (cut v7x0 v7x1 v7x3)) :: ([] : (List Bytes)))))) else (none)) else (none)) else (none)) else (none)) else (kR7 v7x0 v7x1 v7x2 (wk64 (v7x3 + (1 : Int))) v7x4)) else (none)) else (none)) else (kR7 v7x0 v7x1 v7x2 (wk64 (v7x3 + (1 : Int))) v7x4)))) else (none)) else (none)) else (k7e0 v7x0 v7x1 v7x4))
def iElements_F7 : Nat → Bytes → Int → Bool → Int → (List Bytes) → (Bytes → Int → (List Bytes) → Option Rs) → Option Rs
  | 0, _, _, _, _, _, _ => none
  | n + 1, v7x0, v7x1, v7x2, v7x3, v7x4, k7e0 => iElements_T7 v7x0 v7x1 v7x2 v7x3 v7x4 (fun v7x0 v7x1 v7x2 v7x3 v7x4 => iElements_F7 n v7x0 v7x1 v7x2 v7x3 v7x4 k7e0) k7e0
def iElements_h7 (v7x0 : Bytes) (v7x1 : Int) (v7x2 : Bool) (v7x3 : Int) (v7x4 : (List Bytes)) : St := (St.mk (slots 0 58 [(0, (AV.str v7x0)), (3, (AV.ptr (256 : Nat) (0 : Nat))), (4, (AV.fn (148 : Nat) ((AV.ptr (256 : Nat) (0 : Nat)) :: ([] : List AV)))), (5, (AV.int .i64 v7x1)), (6, (AV.bool v7x2)), (7, (AV.int .i64 v7x3))]) (((256 : Nat), (Ob.var ((AV.ref (257 : Nat) (0 : Nat)) :: ([] : List AV)))) :: (((257 : Nat), (Ob.arr Ty.str (0 : Nat) false v7x4)) :: ([] : (List (Nat × (Ob)))))))
def iElements_x7e0 (x7x0x0 : Bytes) (x7x0x1 : Int) (x7x0x2 : (List Bytes)) : St := (St.mk (slots 0 58 [(0, (AV.str x7x0x0)), (3, (AV.ptr (256 : Nat) (0 : Nat))), (4, (AV.fn (148 : Nat) ((AV.ptr (256 : Nat) (0 : Nat)) :: ([] : List AV)))), (5, (AV.int .i64 x7x0x1))]) (((256 : Nat), (Ob.var ((AV.ref (257 : Nat) (0 : Nat)) :: ([] : List AV)))) :: (((257 : Nat), (Ob.arr Ty.str (0 : Nat) false x7x0x2)) :: ([] : (List (Nat × (Ob)))))))
noncomputable def iElements_b7 : Code := codeAt (codeOf Tryz.f103) [1, 1, 1, 1, 1, 0, 1, 0, 0]
def iElements_L7 (N : Nat) (st : St) (k : Ex → St → Option Rs) : Option Rs := match takeF [0, 3, 4, 5, 6, 7] 0 58 st.env, st.objs with
  | some [.str v7x0, .ptr 256 0, .fn 148 [.ptr 256 0], .int .i64 v7x1, .bool v7x2, .int .i64 v7x3], [(256, .var [.ref 257 0]), (257, .arr Ty.str 0 false v7x4)] => iElements_F7 N v7x0 v7x1 v7x2 v7x3 v7x4 (fun x7x0x0 x7x0x1 x7x0x2 => k (Ex.exit (0 : Nat)) (iElements_x7e0 x7x0x0 x7x0x1 x7x0x2))
  | _, _ => none
def iElements_L (N : Nat) : Lam := fun j st k => match j with
  | 7 => iElements_L7 N st k
  | _ => none
theorem iElements_round7 (N : Nat) (again : St → Option Rs) (k : Ex → St → Option Rs) (wv7x0 : Bytes) (wv7x1 : Int) (wv7x2 : Bool) (wv7x3 : Int) (wv7x4 : (List Bytes)) (v7x0 : Bytes) (v7x1 : Int) (v7x2 : Bool) (v7x3 : Int) (v7x4 : (List Bytes)) :
    roundK 0 (fun st k => evL Kx iElements_C iElements_O 0 (iElements_L N) iElements_b7 st k) (iElements_h7 wv7x0 wv7x1 wv7x2 wv7x3 wv7x4).env again (iElements_h7 v7x0 v7x1 v7x2 v7x3 v7x4) (outK iElements_O 0 iElements_b7 k) = iElements_T7 v7x0 v7x1 v7x2 v7x3 v7x4 (fun v7x0 v7x1 v7x2 v7x3 v7x4 => again (iElements_h7 v7x0 v7x1 v7x2 v7x3 v7x4)) (fun x7x0x0 x7x0x1 x7x0x2 => k (Ex.exit (0 : Nat)) (iElements_x7e0 x7x0x0 x7x0x1 x7x0x2)) := by kernel_rfl
theorem iElements_loop7 (N : Nat) (k : Ex → St → Option Rs) (wv7x0 : Bytes) (wv7x1 : Int) (wv7x2 : Bool) (wv7x3 : Int) (wv7x4 : (List Bytes)) : ∀ (n : Nat) (v7x0 : Bytes) (v7x1 : Int) (v7x2 : Bool) (v7x3 : Int) (v7x4 : (List Bytes)),
    loopK 0 (fun st k => evL Kx iElements_C iElements_O 0 (iElements_L N) iElements_b7 st k) (iElements_h7 wv7x0 wv7x1 wv7x2 wv7x3 wv7x4).env n (iElements_h7 v7x0 v7x1 v7x2 v7x3 v7x4) (outK iElements_O 0 iElements_b7 k) = iElements_F7 n v7x0 v7x1 v7x2 v7x3 v7x4 (fun x7x0x0 x7x0x1 x7x0x2 => k (Ex.exit (0 : Nat)) (iElements_x7e0 x7x0x0 x7x0x1 x7x0x2))
  | 0, _, _, _, _, _ => rfl
  | n + 1, v7x0, v7x1, v7x2, v7x3, v7x4 => by
    rw [loopK_succ, iElements_round7]
    simp only [iElements_loop7 N k wv7x0 wv7x1 wv7x2 wv7x3 wv7x4 n]
    rfl
theorem iElements_at7 (N : Nat) {s : St} {k : Ex → St → Option Rs} {r : Rs} (h : iElements_L7 N s k = some r) : ∃ (v7x0 : Bytes) (v7x1 : Int) (v7x2 : Bool) (v7x3 : Int) (v7x4 : (List Bytes)), s = (iElements_h7 v7x0 v7x1 v7x2 v7x3 v7x4) ∧ iElements_F7 N v7x0 v7x1 v7x2 v7x3 v7x4 (fun x7x0x0 x7x0x1 x7x0x2 => k (Ex.exit (0 : Nat)) (iElements_x7e0 x7x0x0 x7x0x1 x7x0x2)) = some r := by
  cases s with | mk env objs =>
  unfold iElements_L7 at h
  split at h
  · rename_i e1 e2
    have e3 := takeF_slots _ _ _ _ e1
    simp only at e2 e3
    subst e2 e3
    exact ⟨_, _, _, _, _, rfl, h⟩
  · cases h
theorem iElements_in7 : loops iElements_b7 = [] := by kernel_rfl
theorem iElements_lid7 : lid iElements_b7 = 7 := by kernel_rfl
theorem iElements_ok7 (N : Nat) : OkL Kx iElements_C iElements_O 0 N (iElements_L N) iElements_b7 := by
  intro s k k' r hk h
  rw [iElements_lid7] at h
  obtain ⟨v7x0, v7x1, v7x2, v7x3, v7x4, rfl, h⟩ := iElements_at7 N h
  refine loopL (Λ := iElements_L N) iElements_b7 ?_ N hk ((iElements_loop7 N k v7x0 v7x1 v7x2 v7x3 v7x4 N v7x0 v7x1 v7x2 v7x3 v7x4).trans h)
  rw [iElements_in7]
  exact fun _ h => nomatch h
def iElements_run (N : Nat) (s : Bytes) : Option Rs := (bif (decide ((4000 : Int) < ((List.length s) : Int))) then (some ((AV.ref (0 : Nat) (0 : Nat)), ((Ob.arr Ty.str (0 : Nat) false ([] : (List Bytes))) :: ([] : List Ob)))) else (iElements_F7 N s (0 : Int) false (0 : Int) ([] : (List Bytes)) (fun x7x0x0 => (fun x7x0x1 => (fun x7x0x2 => (bif (decide ((0 : Int) ≤ x7x0x1)) then (bif (decide (x7x0x1 ≤ ((List.length x7x0x0) : Int))) then (bif ((isM (cut x7x0x0 x7x0x1 ((List.length x7x0x0) : Int))) && (decide ((List.length x7x0x2) ≤ (100000 : Nat)))) then (bif (decide ((trimP (cut x7x0x0 x7x0x1 ((List.length x7x0x0) : Int))) = ([] : Bytes))) then (some ((AV.ref (0 : Nat) (0 : Nat)), ((Ob.arr Ty.str (0 : Nat) false x7x0x2) :: ([] : List Ob)))) else (some ((AV.ref (0 : Nat) (0 : Nat)), ((Ob.arr Ty.str (0 : Nat) false (x7x0x2 ++ ((trimP (cut x7x0x0 x7x0x1 ((List.length x7x0x0) : Int))) :: ([] : (List Bytes))))) :: ([] : List Ob))))) else (none)) else (none)) else (none)))))))
theorem iElements_runL (N : Nat) (s : Bytes) : runL Kx iElements_C iElements_O (iElements_L N) Tryz.f103 ([.str s]) ([]) = iElements_run N s := by kernel_rfl
theorem iElements_body : Tryz.f103.body = some (codeOf Tryz.f103) := by kernel_rfl
theorem iElements_loops : loops (codeOf Tryz.f103) = [iElements_b7] := by kernel_rfl
theorem iElements_ev (N : Nat) (s : Bytes) {res_ : Rs} (hyp_ : iElements_run N s = some res_) : ∃ n_, runF Kx iElements_C iElements_O n_ Tryz.f103 ([.str s]) ([]) = some res_ :=
  ⟨N, runL_runF iElements_body (by rw [iElements_loops]; exact List.forall_mem_cons.2 ⟨iElements_ok7 N, fun _ h => nomatch h⟩) ((iElements_runL N s).trans hyp_)⟩
def iElements_sOf (φ : Bytes → Br) : List AV → List Ob → Br
  | [.str s], [] => φ s
  | _, _ => .fail
theorem iElements_okOf {φ : Bytes → Br} (fu : Bytes → Nat) (hv : ∀ s res_, (φ s).val = some res_ → iElements_run (fu s) s = some res_) : Sound Kx 103 (iElements_sOf φ) := by
  refine sound_run (C := iElements_C) (O := iElements_O) KOk iElements_C_ok Tryz.func103 (by kernel_rfl) fun args objs res os h => ?_
  unfold iElements_sOf at h
  split at h
  · exact iElements_ev _ _ (hv _ _ h)
  · cases h

end
end Go.Proofs.YtmmjaomfonknnaaGreatDoor.Ev
