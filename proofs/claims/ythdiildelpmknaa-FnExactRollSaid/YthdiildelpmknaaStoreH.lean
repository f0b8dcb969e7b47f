/- spec.Append, and what the laws' tests come to. -/
import Derived.Test.YthdiildelpmknaaStoreG
namespace Go.Proofs.Ythdiildelpmknaa.Ev
open Go Go.RowKit
set_option linter.unusedVariables false
set_option linter.unusedSimpArgs false

theorem sAppend_val (l : Segs) (c : Int) (b : List UInt8) : (sAppend_br l c b).val = stRet2 (appendP l c b) := by
  unfold sAppend_br appendP
  cases hk : okStore l c with
  | false => rfl
  | true =>
    obtain ⟨pre, a, rfl, hp, h1, h2, h3, h4, h5, h6⟩ := okStore_last hk
    have g2 : wrap64 (c - ((allB (pre ++ [a])).length : Int)) = c - (total (pre ++ [a]) : Int) := by rw [allB_len]; exact w64 (by omega) (by omega)
    simp only [Bool.not_true, Br.val, cond_true, g2, f1 pre a hp, f3 pre a hp, f4, f5, f5', Int.toNat_natCast, f6, f7, updS_snoc, lastS_snoc]
    by_cases h7 : c - (total (pre ++ [a]) : Int) < (b.length : Int)
    · simp only [h7, decide_true, cond_true]; rfl
    · have g3 : decide (((a.1.length + b.length : Nat) : Int) ≤ 9223372036854775807) = true := by rw [decide_eq_true_eq]; omega
      simp only [h7, g3, decide_false, cond_false]; rfl
theorem sAppend_okQ : Sound Kx 34 appendQ_s := sAppend_ok.of fun args objs r h => by
  unfold appendQ_s at h
  split at h
  · exact (sAppend_val _ _ _).trans (ite_some h).2
  · cases h

/-! Sizes. -/
theorem updS_len (l : Segs) (f : List UInt8 × Int → List UInt8 × Int) : (updS l f).length ≤ l.length + 1 := by
  simp only [updS, List.length_append, List.length_take, List.length_singleton]; omega
theorem syncP_len (l : Segs) (c : Int) : (syncP l c).1.length ≤ l.length + 1 := by
  unfold syncP
  cases okStore l c
  · simp
  · simp only [cond_true, cond_false]; exact updS_len ..
theorem crashP_len (l : Segs) (c k : Int) : (crashP l c k).1.length ≤ l.length + 1 := by
  unfold crashP
  cases okStore l c
  · simp
  · simp only [cond_true, cond_false]; exact updS_len ..
theorem cutP_len (l : Segs) (c k : Int) : (cutP l c k).1.length ≤ l.length + 1 := by
  unfold cutP
  cases okStore l c
  · simp
  · simp only [cond_true]
    cases (decide (k < 0) || decide (((lastS l).1.length : Int) < k))
    · cases (decide (k = 0) && decide (1 < l.length))
      · simp only [cond_true, cond_false]; exact updS_len ..
      · simp only [cond_false, cond_true, List.length_take]; omega
    · simp
theorem rollP_len (l : Segs) (c : Int) : (rollP l c).1.length ≤ l.length + 2 := by
  unfold rollP
  cases okStore l c
  · simp
  · simp only [cond_true]
    cases decide ((lastS l).1 = [])
    · cases decide ((l.length : Int) = 40)
      · simp only [cond_false, List.length_append, List.length_singleton]
        have := updS_len l fun a => (a.1, (a.1.length : Int))
        omega
      · simp
    · simp
theorem appendP_len (l : Segs) (c : Int) (b : List UInt8) : (appendP l c b).1.length ≤ l.length + 1 := by
  unfold appendP
  cases okStore l c
  · simp
  · simp only [cond_true]
    cases decide (c - (total l : Int) < (b.length : Int))
    · simp only [cond_true, cond_false]; exact updS_len ..
    · simp
theorem szOf_len {l : Segs} {n : Int} (h : ¬ szOf l n < 0) : (l.length : Int) ≤ n := by
  unfold szOf at h
  split at h
  · exact absurd (by omega) h
  · omega
theorem smS_of {l : Segs} {c : Int} (h : Good (.pair (.slice (.pair .str (.int .i64))) (.int .i64)) (l, c)) : smS l = true ∧ l.length ≤ 140737488351232 := by
  obtain ⟨⟨h1, h2⟩, _⟩ := h
  have e : reachBytes = 140737488351232 := rfl
  rw [e] at h1
  simp only at h1 h2
  refine ⟨?_, h1⟩
  unfold smS
  simp only [Bool.and_eq_true, decide_eq_true_eq, List.all_eq_true]
  refine ⟨by omega, fun x hx => ?_⟩
  have := (h2 x hx).1
  unfold Good at this
  rw [e] at this
  omega
theorem t1 (n : Nat) : decide ((1 : Int) + 2 * (n : Int) < 0) = false := by simp; omega
theorem t2 (l : Segs) : decide (held (marks l 1) 1 < 0) = false := by rw [held_marks]; exact t1 _
theorem t3 (l : Segs) : decide (held (marks l 1) 1 = 1 + 2 * (l.length : Int)) = true := by rw [held_marks]; simp
theorem small {n m : Nat} (h : n ≤ 281474976710656) : decide (n ≤ 281474976710656) = true := by simpa using h

end Go.Proofs.Ythdiildelpmknaa.Ev
