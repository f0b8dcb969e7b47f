/- Bytes of words. -/
import Derived.Test.YthdiildelpmknaaConfA
namespace Go.Proofs.Ythdiildelpmknaa.Ev
open Go Go.RowKit
set_option linter.unusedVariables false
set_option linter.unusedSimpArgs false

theorem strAt_mid (pre : List UInt8) (a : UInt8) (r : List UInt8) : strAt (pre ++ a :: r) (pre.length : Int) = (a.toNat : Int) := by
  unfold strAt
  rw [Int.toNat_natCast, getD_mid]

/-! l1has -/
def hasB (s : List UInt8) (b : Int) : Bool := s.any fun x => decide ((x.toNat : Int) = b)
theorem l1has_loop (b : Int) (k0 k1 : Option Rs) (s : List UInt8) (hs : s.length ≤ 281474976710656) (r : List UInt8) : ∀ (pre : List UInt8) (n : Nat), r.length < n → pre ++ r = s →
    l1has_F2 n s b (pre.length : Int) k0 k1 = bif hasB r b then k0 else k1 := by
  induction r with
  | nil =>
    intro pre n hn hp
    obtain ⟨n, rfl⟩ : ∃ m, n = m + 1 := ⟨n - 1, by simp at hn; omega⟩
    have e1 : decide ((pre.length : Int) < (s.length : Int)) = false := by rw [← hp]; simp
    unfold l1has_F2 l1has_T2
    simp only [e1, cond_false, hasB, List.any_nil]
  | cons a r ihr =>
    intro pre n hn hp
    obtain ⟨n, rfl⟩ : ∃ m, n = m + 1 := ⟨n - 1, by omega⟩
    have hlen : s.length = pre.length + r.length + 1 := by rw [← hp]; simp; omega
    have e1 : decide ((pre.length : Int) < (s.length : Int)) = true := by rw [hlen]; simp; omega
    have e2 : decide ((0 : Int) ≤ (pre.length : Int)) = true := by simp
    have e4 : strAt s (pre.length : Int) = (a.toNat : Int) := by rw [← hp]; exact strAt_mid ..
    have ih := ihr (pre ++ [a]) n (by simp at hn; omega) (by rw [← cat_one]; exact hp)
    unfold l1has_F2 l1has_T2
    simp only [e1, e2, e4, cond_true]
    rw [next_len pre a (by omega), ih]
    simp only [hasB, List.any_cons]
    generalize decide ((a.toNat : Int) = b) = b1
    cases b1 <;> rfl
def l1has_br (s : List UInt8) (b : Int) : Br := .ite (decide (s.length ≤ 281474976710656)) (.ret (.bool (hasB s b)) []) .fail
def l1has_s := l1has_sOf l1has_br
theorem l1has_ok : Sound Kx 111 l1has_s := by
  refine l1has_okOf (fun s _ => s.length + 1) fun s b r h => ?_
  unfold l1has_br at h
  simp only [Br.val] at h
  split at h
  · rename_i hb
    simp only [decide_eq_true_eq] at hb
    rw [← h]
    refine (l1has_loop b (some (.bool true, [])) (some (.bool false, [])) s hb s [] (s.length + 1) (by omega) rfl).trans ?_
    cases hasB s b <;> rfl
  · cases h

/-! The first place of a byte. -/
theorem ix_has (c : UInt8) : ∀ s : List UInt8, decide (0 ≤ Go.Lib.indexByte s c) = s.any (· == c)
  | [] => rfl
  | x :: s => by
    have ih := ix_has c s
    have hge := Go.Lib.indexByte_ge s c
    unfold Go.Lib.indexByte
    cases hx : (x == c) with
    | true => simp [hx]
    | false =>
      simp only [List.any_cons, hx, Bool.false_or, ← ih, Bool.false_eq_true, if_false]
      by_cases h1 : Go.Lib.indexByte s c = -1
      · simp [h1]
      · have : (Go.Lib.indexByte s c == -1) = false := by simpa using h1
        simp only [this, Bool.false_eq_true, if_false]
        congr 1; apply propext; omega
theorem ixOf_has (s : List UInt8) (b : Int) (h1 : 0 ≤ b) (h2 : b < 256) : decide (0 ≤ ixOf s b) = hasB s b := by
  unfold ixOf hasB
  rw [ix_has]
  congr 1
  funext x
  have e : (b.toNat.toUInt8).toNat = b.toNat := by
    rw [Nat.toUInt8_eq, UInt8.toNat_ofNat']; omega
  by_cases h : (x.toNat : Int) = b
  · have : x = b.toNat.toUInt8 := UInt8.toNat_inj.1 (by rw [e]; omega)
    rw [beq_iff_eq.2 this, decide_eq_true h]
  · have : ¬ x = b.toNat.toUInt8 := by
      intro hx
      apply h
      rw [hx, e]; omega
    rw [beq_eq_false_iff_ne.2 this, decide_eq_false h]

/-! isTokenByte -/
def tokSet : List UInt8 := [33, 35, 36, 37, 38, 39, 42, 43, 45, 46, 94, 95, 124, 126]
def tokB (b : Int) : Bool := (decide (97 ≤ b) && decide (b ≤ 122)) || ((decide (65 ≤ b) && decide (b ≤ 90)) || ((decide (48 ≤ b) && decide (b ≤ 57)) || (decide (b = 96) || hasB tokSet b)))
theorem isTok_val (b : Int) (h1 : 0 ≤ b) (h2 : b < 256) : (isTok_br b).val = some (.bool (tokB b), []) := by
  have e := ixOf_has tokSet b h1 h2
  unfold isTok_br tokB
  unfold tokSet at e ⊢
  simp only [e]
  generalize hasB [33, 35, 36, 37, 38, 39, 42, 43, 45, 46, 94, 95, 124, 126] b = b0
  generalize decide (97 ≤ b) = b1
  generalize decide (b ≤ 122) = b2
  generalize decide (65 ≤ b) = b3
  generalize decide (b ≤ 90) = b4
  generalize decide (48 ≤ b) = b5
  generalize decide (b ≤ 57) = b6
  generalize decide (b = 96) = b7
  cases b1 <;> cases b2 <;> cases b3 <;> cases b4 <;> cases b5 <;> cases b6 <;> cases b7 <;> cases b0 <;> rfl
def tokQ_s : List AV → List Ob → Br
  | [.int .u8 b], [] => .ite (decide (0 ≤ b) && decide (b < 256)) (.ret (.bool (tokB b)) []) .fail
  | _, _ => .fail
theorem br_ite {b : Bool} {x : Br} {r : AV × List Ob} (h : (Br.ite b x .fail).val = some r) : b = true ∧ x.val = some r := by
  cases b with
  | true => exact ⟨rfl, h⟩
  | false => cases h
theorem isTok_okQ : Sound Kx 105 tokQ_s := isTok_ok.of fun args objs r h => by
  unfold tokQ_s at h
  split at h
  · obtain ⟨h1, h2⟩ := br_ite h
    simp only [Bool.and_eq_true, decide_eq_true_eq] at h1
    exact (isTok_val _ h1.1 h1.2).trans h2
  · cases h

end Go.Proofs.Ythdiildelpmknaa.Ev
