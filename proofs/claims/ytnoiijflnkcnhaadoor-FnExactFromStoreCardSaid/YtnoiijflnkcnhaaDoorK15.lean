/- The texts ItoaS, one behind the other. -/
import Derived.Test.YtnoiijflnkcnhaaDoorK12
import Derived.Test.YtnoiijflnkcnhaaDoorK14
namespace Go.Proofs.YtnoiijflnkcnhaaDoor.Ev
open Go Go.RowKit
set_option linter.unusedVariables false
set_option linter.unusedSimpArgs false

/-- A number in decimal. -/
noncomputable def decD : Int → Bytes := sealed fun n => Lib.decDigits n.toNat
theorem decD_eq (n : Int) : decD n = Lib.decDigits n.toNat := by unfold decD; rw [sealed_eq]
def num15 (n : Int) : Bool := decide (0 ≤ n) && decide (n ≤ 999999999999999)
noncomputable def itoa_s : List AV → List Ob → Br
  | [.int .i64 n], [] => .ite (num15 n) (.ret (.str (decD n)) []) .fail
  | _, _ => .fail
theorem tab_there : (Tryd.prog.globalNamed "internal/strconv.uint64pow10").isNone = false := by kernel_rfl
theorem below_draws (w : World) (k : Nat) (os : Array Obj) : Below w.heap.size w (Go.Sort.grow (w.drewN k) os) :=
  ⟨rfl, rfl, rfl, by show w.heap.size ≤ (w.heap ++ os).size; rw [Array.size_append]; omega, fun j hj => Go.Sort.heap_grow_old (w.drewN k) os (by exact hj)⟩
theorem itoa_ok : Sound Kx 50 itoa_s := by
  refine sound_calls Tryd.func50 (by kernel_rfl) rfl fun args objs res objs' hv w L vs hR hr => ?_
  unfold itoa_s at hv
  split at hv
  case h_2 => cases hv
  rename_i n
  obtain ⟨h1, h2⟩ := ite_some hv
  simp only [num15, Bool.and_eq_true, decide_eq_true_eq] at h1
  cases h2
  refine ⟨rfl, ?_⟩
  simp only [rels, rel] at hr
  obtain ⟨v, vs', rfl, rfl, rfl⟩ := hr
  have ht : Tab10 w := by
    rcases hR.g with h | h
    · have := tab_there; rw [h] at this; cases this
    · exact h
  refine (Tryd.strconv_Itoa n (by omega) (by omega) w ht).mono ?_
  rintro e w' ⟨rfl, k, os, rfl⟩
  refine ⟨_, rfl, below_draws w k os, ?_⟩
  simp only [rel]
  rw [decD_eq]
  unfold Lib.itoa
  rw [if_neg (by omega)]
end Go.Proofs.YtnoiijflnkcnhaaDoor.Ev
