/- ConfOk: the two agree. -/
import Derived.Test.YthdiildelpmknaaConfG
namespace Go.Proofs.Ythdiildelpmknaa.Ev
open Go Go.RowKit
set_option linter.unusedVariables false
set_option linter.unusedSimpArgs false

def confP (a b c d : Int) (s : List UInt8) : Bool :=
  decide (0 ≤ a) && decide (a ≤ 60000) && (decide (1 ≤ b) && decide (b ≤ 60000)) && (decide (1 ≤ c) && decide (c ≤ 100)) && (decide (0 ≤ d) && decide (d ≤ 20000)) && (tokS s && decide ((s.length : Int) ≤ 20))
theorem nlt (x y : Int) : decide (x < y) = !decide (y ≤ x) := by by_cases h : y ≤ x <;> simp [h] <;> omega
theorem okStore_one (a : Int) : okStore (List.set (List.replicate 1 (([] : List UInt8), (0 : Int))) 0 ([], 0)) a = (decide (0 ≤ a) && decide (a ≤ 60000)) := by
  unfold okStore
  by_cases h : 0 ≤ a <;> simp [h, shape, total]
theorem sConf_val (a b c d : Int) (s : List UInt8) : (sConf_br a b c d s).val = some (.bool (confP a b c d s), []) := by
  unfold sConf_br confP
  rw [okStore_one]
  simp only [nlt]
  generalize decide (0 ≤ a) = b1
  generalize decide (a ≤ 60000) = b2
  generalize decide (1 ≤ b) = b3
  generalize decide (b ≤ 60000) = b4
  generalize decide (1 ≤ c) = b5
  generalize decide (c ≤ 100) = b6
  generalize decide (0 ≤ d) = b7
  generalize decide (d ≤ 20000) = b8
  generalize tokS s = b9
  generalize decide ((s.length : Int) ≤ 20) = b0
  cases b1 <;> cases b2 <;> (try rfl) <;> cases b3 <;> cases b4 <;> (try rfl) <;> cases b5 <;> cases b6 <;> (try rfl) <;> cases b7 <;> cases b8 <;> (try rfl) <;> cases b9 <;> cases b0 <;> rfl
theorem iConf_val (a b c d : Int) (s : List UInt8) : (iConf_br a b c d s).val = some (.bool (confP a b c d s), []) := by
  unfold iConf_br confP
  generalize decide (0 ≤ a) = b1
  generalize decide (a ≤ 60000) = b2
  generalize decide (1 ≤ b) = b3
  generalize decide (b ≤ 60000) = b4
  generalize decide (1 ≤ c) = b5
  generalize decide (c ≤ 100) = b6
  generalize decide (0 ≤ d) = b7
  generalize decide (d ≤ 20000) = b8
  generalize tokS s = b9
  generalize decide ((s.length : Int) ≤ 20) = b0
  cases b1 <;> cases b2 <;> (try rfl) <;> cases b3 <;> cases b4 <;> (try rfl) <;> cases b5 <;> cases b6 <;> (try rfl) <;> cases b7 <;> cases b8 <;> (try rfl) <;> cases b9 <;> cases b0 <;> rfl
def confQ_s : List AV → List Ob → Br
  | [.agg [.int .i64 a, .int .i64 b, .int .i64 c, .int .i64 d, .str s]], [] => .ret (.bool (confP a b c d s)) []
  | _, _ => .fail
theorem sConf_okQ : Sound Kx 20 confQ_s := sConf_ok.of fun args objs r h => by
  unfold confQ_s at h
  split at h
  · exact (sConf_val _ _ _ _ _).trans h
  · cases h
theorem iConf_okQ : Sound Kx 22 confQ_s := iConf_ok.of fun args objs r h => by
  unfold confQ_s at h
  split at h
  · exact (iConf_val _ _ _ _ _).trans h
  · cases h

end Go.Proofs.Ythdiildelpmknaa.Ev
