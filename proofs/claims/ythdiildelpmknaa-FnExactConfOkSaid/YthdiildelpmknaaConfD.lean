/- Words. -/
import Derived.Test.YthdiildelpmknaaConfC
namespace Go.Proofs.Ythdiildelpmknaa.Ev
open Go Go.RowKit
set_option linter.unusedVariables false
set_option linter.unusedSimpArgs false

theorem tchar_val (b : Int) (h1 : 0 ≤ b) (h2 : b < 256) : (tchar_br b).val = some (.bool (tokB b), []) := by
  unfold tchar_br tokB
  change _ = some (AV.bool ((decide (97 ≤ b) && decide (b ≤ 122)) || ((decide (65 ≤ b) && decide (b ≤ 90)) || ((decide (48 ≤ b) && decide (b ≤ 57)) || (decide (b = 96) || hasB [33, 35, 36, 37, 38, 39, 42, 43, 45, 46, 94, 95, 124, 126] b)))), [])
  generalize hasB [33, 35, 36, 37, 38, 39, 42, 43, 45, 46, 94, 95, 124, 126] b = b0
  by_cases h3 : 65 ≤ b
  · by_cases h4 : b ≤ 90
    · have e : (b + 32) % 256 = b + 32 := by omega
      have g1 : (97 : Int) ≤ b + 32 := by omega
      have g2 : b + 32 ≤ (122 : Int) := by omega
      have g3 : ¬ (97 : Int) ≤ b := by omega
      simp only [h3, h4, e, g1, g2, g3, decide_true, decide_false, Bool.and_self, Bool.false_and, Bool.true_or, Bool.false_or, Bool.or_true, Br.val]
    · simp only [h3, h4, decide_true, decide_false, Br.val, Bool.and_false, Bool.false_or]
      generalize decide (97 ≤ b) = b1
      generalize decide (b ≤ 122) = b2
      generalize decide (48 ≤ b) = b5
      generalize decide (b ≤ 57) = b6
      generalize decide (b = 96) = b7
      cases b1 <;> cases b2 <;> cases b5 <;> cases b6 <;> cases b7 <;> cases b0 <;> rfl
  · simp only [h3, decide_false, Br.val, Bool.false_and, Bool.false_or]
    generalize decide (97 ≤ b) = b1
    generalize decide (b ≤ 122) = b2
    generalize decide (48 ≤ b) = b5
    generalize decide (b ≤ 57) = b6
    generalize decide (b = 96) = b7
    cases b1 <;> cases b2 <;> cases b5 <;> cases b6 <;> cases b7 <;> cases b0 <;> rfl
theorem tchar_okQ : Sound Kx 103 tokQ_s := tchar_ok.of fun args objs r h => by
  unfold tokQ_s at h
  split at h
  · obtain ⟨h1, h2⟩ := br_ite h
    simp only [Bool.and_eq_true, decide_eq_true_eq] at h1
    exact (tchar_val _ h1.1 h1.2).trans h2
  · cases h

/-! all -/
def allTok (s : List UInt8) : Bool := s.all fun x => tokB (x.toNat : Int)
theorem byte_in (a : UInt8) : (decide ((0 : Int) ≤ (a.toNat : Int)) && decide ((a.toNat : Int) < 256)) = true := by
  have := a.toNat_lt
  simp only [Bool.and_eq_true, decide_eq_true_eq]; omega
theorem all_loop (k0 k1 : Option Rs) (s : List UInt8) (hs : s.length ≤ 281474976710656) (r : List UInt8) : ∀ (pre : List UInt8) (n : Nat), r.length < n → pre ++ r = s →
    all_F2 n s (pre.length : Int) k0 k1 = bif allTok r then k1 else k0 := by
  induction r with
  | nil =>
    intro pre n hn hp
    obtain ⟨n, rfl⟩ : ∃ m, n = m + 1 := ⟨n - 1, by simp at hn; omega⟩
    have e1 : decide ((pre.length : Int) < (s.length : Int)) = false := by rw [← hp]; simp
    unfold all_F2 all_T2
    simp only [e1, cond_false, allTok, List.all_nil, cond_true]
  | cons a r ihr =>
    intro pre n hn hp
    obtain ⟨n, rfl⟩ : ∃ m, n = m + 1 := ⟨n - 1, by omega⟩
    have hlen : s.length = pre.length + r.length + 1 := by rw [← hp]; simp; omega
    have e1 : decide ((pre.length : Int) < (s.length : Int)) = true := by rw [hlen]; simp; omega
    have e2 : decide ((0 : Int) ≤ (pre.length : Int)) = true := by simp
    have e4 : strAt s (pre.length : Int) = (a.toNat : Int) := by rw [← hp]; exact strAt_mid ..
    have ih := ihr (pre ++ [a]) n (by simp at hn; omega) (by rw [← cat_one]; exact hp)
    unfold all_F2 all_T2
    simp only [e1, e2, e4, cond_true, byte_in]
    rw [next_len pre a (by omega), ih]
    simp only [allTok, List.all_cons]
    generalize tokB (a.toNat : Int) = b1
    cases b1 <;> rfl
def all_br (s : List UInt8) : Br := .ite (decide (s.length ≤ 281474976710656)) (.ret (.bool (allTok s)) []) .fail
def all_s := all_sOf all_br
theorem all_ok : Sound Kx 104 all_s := by
  refine all_okOf (fun s => s.length + 1) fun s r h => ?_
  unfold all_br at h
  simp only [Br.val] at h
  split at h
  · rename_i hb
    simp only [decide_eq_true_eq] at hb
    rw [← h]
    refine (all_loop (some (.bool false, [])) (some (.bool true, [])) s hb s [] (s.length + 1) (by omega) rfl).trans ?_
    cases allTok s <;> rfl
  · cases h

end Go.Proofs.Ythdiildelpmknaa.Ev
