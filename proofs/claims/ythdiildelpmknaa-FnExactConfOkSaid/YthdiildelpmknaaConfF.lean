/- Tokens. -/
import Derived.Test.YthdiildelpmknaaConfE
namespace Go.Proofs.Ythdiildelpmknaa.Ev
open Go Go.RowKit
set_option linter.unusedVariables false
set_option linter.unusedSimpArgs false

theorem sToken_loop (k0 k1 : Option Rs) (s : List UInt8) (hs : s.length ≤ 281474976710656) (r : List UInt8) : ∀ (pre : List UInt8) (n : Nat), r.length < n → pre ++ r = s →
    sToken_F4 n s (pre.length : Int) k0 k1 = bif allTok r then k1 else k0 := by
  induction r with
  | nil =>
    intro pre n hn hp
    obtain ⟨n, rfl⟩ : ∃ m, n = m + 1 := ⟨n - 1, by simp at hn; omega⟩
    have e1 : decide ((pre.length : Int) < (s.length : Int)) = false := by rw [← hp]; simp
    unfold sToken_F4 sToken_T4
    simp only [e1, cond_false, allTok, List.all_nil, cond_true]
  | cons a r ihr =>
    intro pre n hn hp
    obtain ⟨n, rfl⟩ : ∃ m, n = m + 1 := ⟨n - 1, by omega⟩
    have hlen : s.length = pre.length + r.length + 1 := by rw [← hp]; simp; omega
    have e1 : decide ((pre.length : Int) < (s.length : Int)) = true := by rw [hlen]; simp; omega
    have e2 : decide ((0 : Int) ≤ (pre.length : Int)) = true := by simp
    have e4 : strAt s (pre.length : Int) = (a.toNat : Int) := by rw [← hp]; exact strAt_mid ..
    have ih := ihr (pre ++ [a]) n (by simp at hn; omega) (by rw [← cat_one]; exact hp)
    unfold sToken_F4 sToken_T4
    simp only [e1, e2, e4, cond_true, byte_in]
    rw [next_len pre a (by omega), ih]
    simp only [allTok, List.all_cons]
    generalize tokB (a.toNat : Int) = b1
    cases b1 <;> rfl
/-- Is it a token? -/
def tokS (s : List UInt8) : Bool := decide ((1 : Int) ≤ (s.length : Int)) && decide ((s.length : Int) ≤ 4000) && allTok s
def tokenQ_s : List AV → List Ob → Br
  | [.str s], [] => .ret (.bool (tokS s)) []
  | _, _ => .fail
theorem sToken_ok : Sound Kx 88 tokenQ_s := by
  refine (sToken_okOf (φ := fun s => .ret (.bool (tokS s)) []) (fun s => s.length + 1) fun s r h => ?_).of fun args objs r h => by
    unfold tokenQ_s at h
    unfold sToken_sOf
    split at h
    · exact h
    · cases h
  cases h
  unfold sToken_run tokS
  by_cases h1 : (s.length : Int) = 0
  · have g : ¬ (1 : Int) ≤ (s.length : Int) := by omega
    simp only [h1, g, decide_true, decide_false, cond_true, Bool.false_and]; rfl
  · by_cases h2 : 4000 < (s.length : Int)
    · have g : ¬ (s.length : Int) ≤ 4000 := by omega
      simp only [h1, h2, g, decide_true, decide_false, cond_true, cond_false, Bool.and_false, Bool.false_and]
    · have g1 : (1 : Int) ≤ (s.length : Int) := by omega
      have g2 : (s.length : Int) ≤ 4000 := by omega
      simp only [h1, h2, g1, g2, decide_true, decide_false, cond_false, Bool.true_and]
      refine (sToken_loop (some (.bool false, [])) (some (.bool true, [])) s (by omega) s [] (s.length + 1) (by omega) rfl).trans ?_
      cases allTok s <;> rfl
theorem iToken_okQ : Sound Kx 89 tokenQ_s := iToken_ok.of fun args objs r h => by
  unfold tokenQ_s at h
  split at h
  · cases h
    rename_i s
    show (iToken_br s).val = _
    unfold iToken_br tokS
    by_cases h1 : (1 : Int) ≤ (s.length : Int)
    · by_cases h2 : (s.length : Int) ≤ 4000
      · have g : decide (s.length ≤ 281474976710656) = true := by rw [decide_eq_true_eq]; omega
        simp only [h1, h2, g, decide_true, Bool.true_and, Br.val]
      · simp only [h1, h2, decide_true, decide_false, Bool.and_false, Bool.false_and, Br.val]
    · simp only [h1, decide_false, Bool.false_and, Br.val]
  · cases h

end Go.Proofs.Ythdiildelpmknaa.Ev
