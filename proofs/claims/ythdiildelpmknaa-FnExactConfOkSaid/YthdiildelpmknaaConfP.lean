/- The law of ConfOk holds. -/
import Derived.Test.YthdiildelpmknaaConfL
namespace Go.Proofs.Ythdiildelpmknaa.Ev
open Go Go.RowKit
theorem lConfOk_val (a b c d : Int) (s : List UInt8) : (lConfOk_br a b c d s).val = some (.bool true, []) := by
  unfold lConfOk_br
  simp only [Br.val, beq_self_eq_true, Bool.not_true]
  split
  · rfl
  · split <;> rfl
theorem fnExactConfOk_true (xs : List AV) (h : Args [(.pair (.int .i64) (.pair (.int .i64) (.pair (.int .i64) (.pair (.int .i64) .str))), true)] xs) : (lConfOk_s xs []).val = some (.bool true, []) := by
  obtain ⟨⟨a, b, c, d, s⟩, a', _, rfl, rfl⟩ := h
  exact lConfOk_val a b c d s
end Go.Proofs.Ythdiildelpmknaa.Ev
