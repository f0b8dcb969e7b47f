/- internal/bytealg.IndexByteString, for which the model stands in. -/
import Derived.Test.YthdiildelpmknaaEvC
import Derived.Lib.Bytealg
namespace Go.Proofs.Ythdiildelpmknaa.Ev
open Go Go.RowKit
set_option linter.unusedVariables false
set_option linter.unusedSimpArgs false

def ixOf (s : List UInt8) (c : Int) : Int := Go.Lib.indexByte s c.toNat.toUInt8
def ixBS_br (s : List UInt8) (c : Int) : Br := .ret (.int .i64 (ixOf s c)) []
def ixBS_s : List AV → List Ob → Br
  | [.str s, .int .u8 c], [] => ixBS_br s c
  | _, _ => .fail
theorem ixBS_ok : Sound Kx 119 ixBS_s := by
  intro args objs res objs' hv w L vs hR ho hr
  unfold ixBS_s at hv
  split at hv
  · rename_i s c
    cases hv
    simp only [rels, rel] at hr
    obtain ⟨v1, cs1, rfl, rfl, v2, cs2, rfl, rfl, rfl⟩ := hr
    refine .inr ⟨.int .i64 (Go.Lib.indexByte s c.toNat.toUInt8), w, ?_, L, hR, ho, ?_, by simp [rel, ixOf]⟩
    · have := run_callFunc_extern (P := Kx.P) (f := 119) (e := Extern.BytealgIndexByte.indexByte) Try.func119 (by kernel_rfl) (by kernel_rfl) (by kernel_rfl) (by kernel_rfl) #[.string ⟨s.toArray⟩, .int .u8 c] w
      refine this.trans ?_
      rw [Go.Lib.run_indexByteString]
      simp [Result.andThen, ixOf]
    · exact Kept.refl _ _
  · cases hv

end Go.Proofs.Ythdiildelpmknaa.Ev
