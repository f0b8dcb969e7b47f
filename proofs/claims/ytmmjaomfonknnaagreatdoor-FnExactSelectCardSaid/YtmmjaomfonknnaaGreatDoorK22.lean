/- The texts DecR, AtoiS, Ta, one behind the other. -/
import Derived.Test.YtmmjaomfonknnaaGreatDoorK17
import Derived.Lib.AtoiAllCases
import Derived.Lib.ItoaNum
import Derived.Test.YtmmjaomfonknnaaGreatDoorK12
import Derived.Test.YtmmjaomfonknnaaGreatDoorK15
namespace Go.Proofs.YtmmjaomfonknnaaGreatDoor.Ev
open Go Go.RowKit
set_option linter.unusedVariables false
set_option linter.unusedSimpArgs false
noncomputable section

def digN (r : Bytes) (n : Int) : Int := r.foldl (fun v c => v * 10 + (by8 c - 48)) n
def decR (s : Bytes) : Int × Bool := bif decide (1 ≤ s.length) && decide (s.length ≤ 15) && allP isDig s && decide (decD (digN s 0) = s) then (digN s 0, true) else (0, false)
theorem by8_digit (d : Nat) (h : d < 10) : by8 (UInt8.ofNat (48 + d)) = 48 + (d : Int) := by
  unfold by8
  rw [UInt8.toNat_ofNat']
  omega
theorem digN_snoc (a : Bytes) (c : UInt8) (n : Int) : digN (a ++ [c]) n = digN a n * 10 + (by8 c - 48) := by
  unfold digN; rw [List.foldl_append]; rfl
theorem digN_dec (u : Nat) : digN (Lib.decDigits u) 0 = (u : Int) := by
  induction u using Nat.strongRecOn with
  | ind u ih =>
    rw [Lib.decDigits]
    by_cases h : u < 10
    · rw [dif_pos h]
      show 0 * 10 + (by8 _ - 48) = _
      rw [by8_digit u h]; omega
    · rw [dif_neg h, digN_snoc, ih (u / 10) (by omega), by8_digit _ (by omega)]; omega
theorem allP_app (p : Int → Bool) (a b : Bytes) : allP p (a ++ b) = (allP p a && allP p b) := by unfold allP; rw [List.all_append]
theorem dec_digs (u : Nat) : allP isDig (Lib.decDigits u) = true := by
  induction u using Nat.strongRecOn with
  | ind u ih =>
    have one : ∀ d : Nat, d < 10 → allP isDig [UInt8.ofNat (48 + d)] = true := by
      intro d h
      show (isDig (by8 _) && true) = true
      rw [by8_digit d h, Bool.and_true]
      unfold isDig
      rw [decide_eq_true (by omega), decide_eq_true (by omega)]; rfl
    rw [Lib.decDigits]
    by_cases h : u < 10
    · rw [dif_pos h]; exact one u h
    · rw [dif_neg h, allP_app, ih (u / 10) (by omega), one _ (by omega)]; rfl
theorem dec_len1 (u : Nat) : 1 ≤ (Lib.decDigits u).length := by rw [Lib.decDigits_length]; exact Lib.nDigits_pos u
theorem nDig_le : ∀ (k u : Nat), u < 10 ^ (k + 1) → Lib.nDigits u ≤ k + 1
  | 0, u, h => by rw [Lib.nDigits_small (by simpa using h)]; exact Nat.le_refl _
  | k + 1, u, h => by
    by_cases c : u < 10
    · rw [Lib.nDigits_small c]; omega
    · rw [Lib.nDigits_big c]
      have := nDig_le k (u / 10) (by rw [Nat.pow_succ] at h; omega)
      omega
theorem dec_len15 (u : Nat) (h : u ≤ 999999999999999) : (Lib.decDigits u).length ≤ 15 := by
  rw [Lib.decDigits_length]; exact nDig_le 14 u (by simpa using (show u < 1000000000000000 by omega))
theorem digN_bd : ∀ (s : Bytes) (n : Int), allP isDig s = true → 0 ≤ n → 0 ≤ digN s n ∧ digN s n < (n + 1) * 10 ^ s.length
  | [], n, _, h => by
    refine ⟨h, ?_⟩
    show n < (n + 1) * 10 ^ 0
    omega
  | c :: r, n, ha, h => by
    have e : allP isDig (c :: r) = (isDig (by8 c) && allP isDig r) := rfl
    rw [e, Bool.and_eq_true] at ha
    have hd := ha.1
    simp only [isDig, Bool.and_eq_true, decide_eq_true_eq] at hd
    have ih := digN_bd r (n * 10 + (by8 c - 48)) ha.2 (by omega)
    show 0 ≤ digN r (n * 10 + (by8 c - 48)) ∧ digN r (n * 10 + (by8 c - 48)) < (n + 1) * 10 ^ (r.length + 1)
    refine ⟨ih.1, Int.lt_of_lt_of_le ih.2 ?_⟩
    rw [Int.pow_succ, Int.mul_comm (10 ^ r.length) 10, ← Int.mul_assoc]
    exact Int.mul_le_mul_of_nonneg_right (by omega) (Int.le_of_lt (Int.pow_pos (by decide)))
theorem digN_max (s : Bytes) (ha : allP isDig s = true) (hl : s.length ≤ 15) : 0 ≤ digN s 0 ∧ digN s 0 ≤ 999999999999999 := by
  have h := digN_bd s 0 ha (Int.le_refl 0)
  refine ⟨h.1, ?_⟩
  have h3 : (10 : Nat) ^ s.length ≤ 10 ^ 15 := Nat.pow_le_pow_right (by decide) hl
  have h2 := h.2
  rw [Int.zero_add, Int.one_mul] at h2
  have e : (10 : Int) ^ s.length = ((10 ^ s.length : Nat) : Int) := by rw [Int.natCast_pow]; rfl
  rw [e] at h2
  have e2 : (10 : Nat) ^ 15 = 1000000000000000 := by decide
  rw [e2] at h3
  omega
theorem decR_iff (s : Bytes) (v : Int) (h0 : 0 ≤ v) (h1 : v ≤ 999999999999999) (h : decD v = s) : decR s = (v, true) := by
  subst h
  have e : digN (decD v) 0 = v := by rw [decD_eq, digN_dec]; omega
  unfold decR
  rw [e, decide_eq_true (show 1 ≤ (decD v).length by rw [decD_eq]; exact dec_len1 _), decide_eq_true (show (decD v).length ≤ 15 by rw [decD_eq]; exact dec_len15 _ (by omega)), show allP isDig (decD v) = true by rw [decD_eq]; exact dec_digs _, decide_eq_true rfl]
  rfl
theorem decR_of (s : Bytes) (h : (decR s).2 = true) : 0 ≤ digN s 0 ∧ digN s 0 ≤ 999999999999999 ∧ decD (digN s 0) = s := by
  unfold decR at h
  cases c : decide (1 ≤ s.length) && decide (s.length ≤ 15) && allP isDig s && decide (decD (digN s 0) = s)
  · rw [c] at h; cases h
  · simp only [Bool.and_eq_true, decide_eq_true_eq] at c
    have := digN_max s c.1.2 c.1.1.2
    exact ⟨this.1, this.2, c.2⟩
def atoiOk (s : Bytes) : Bool := match Lib.atoiAll s with | .ok _ => true | _ => false
def atoiV (s : Bytes) : Int := match Lib.atoiAll s with | .ok v => v | .range => Lib.atoiSat s | _ => 0
theorem parse_app : ∀ (a b : Bytes) (acc v : Nat), Lib.parseUint10 acc a = .ok v → Lib.parseUint10 acc (a ++ b) = Lib.parseUint10 v b
  | [], b, acc, v, h => by
    simp only [Lib.parseUint10] at h
    injection h with h; subst h; rfl
  | c :: a, b, acc, v, h => by
    simp only [Lib.parseUint10, List.cons_append] at h ⊢
    split at h
    · split at h
      · cases h
      · split at h
        · cases h
        · rename_i g1 g2 g3
          rw [if_pos g1, if_neg g2, if_neg g3]
          exact parse_app a b _ v h
    · cases h
theorem parse_dec (u : Nat) (h : u ≤ 999999999999999) : Lib.parseUint10 0 (Lib.decDigits u) = .ok u := by
  induction u using Nat.strongRecOn with
  | ind u ih =>
    have one : ∀ (d acc : Nat), d < 10 → acc ≤ 999999999999999 → Lib.parseUint10 acc [UInt8.ofNat (48 + d)] = .ok (acc * 10 + d) := by
      intro d acc hd ha
      have e : (UInt8.ofNat (48 + d)).toNat = 48 + d := by rw [UInt8.toNat_ofNat']; omega
      simp only [Lib.parseUint10]
      rw [e, if_pos (by omega), if_neg (by omega), if_neg (by omega)]
      congr 1; omega
    rw [Lib.decDigits]
    by_cases c : u < 10
    · rw [dif_pos c, one u 0 c (by omega)]; congr 1; omega
    · rw [dif_neg c, parse_app _ _ _ _ (ih (u / 10) (by omega) (by omega)), one _ _ (by omega) (by omega)]
      congr 1; omega
theorem atoi_dec (v : Int) (h0 : 0 ≤ v) (h1 : v ≤ 999999999999999) : Lib.atoiAll (decD v) = .ok v := by
  rw [decD_eq]
  have hp := parse_dec v.toNat (by omega)
  have hl := dec_len1 v.toNat
  have hd := dec_digs v.toNat
  generalize Lib.decDigits v.toNat = l at hp hl hd
  cases l with
  | nil => simp at hl
  | cons c r =>
    have e : allP isDig (c :: r) = (isDig (by8 c) && allP isDig r) := rfl
    rw [e, Bool.and_eq_true] at hd
    have hc := hd.1
    simp only [isDig, Bool.and_eq_true, decide_eq_true_eq] at hc
    have hc' : 48 ≤ (c.toNat : Int) ∧ (c.toNat : Int) ≤ 57 := hc
    have h43 : c.toNat ≠ 43 := by intro g; rw [g] at hc'; exact absurd hc'.1 (by decide)
    have h45 : c.toNat ≠ 45 := by intro g; rw [g] at hc'; exact absurd hc'.1 (by decide)
    rw [Lib.atoiAll_plain c r h43 h45]
    unfold Lib.parseMag
    rw [if_neg (by simp), hp]
    unfold Lib.signless
    simp only
    rw [if_neg (by omega)]
    congr 1; omega
theorem atoi_ok (v : Int) (h0 : 0 ≤ v) (h1 : v ≤ 999999999999999) : atoiOk (decD v) = true ∧ atoiV (decD v) = v := by
  unfold atoiOk atoiV; rw [atoi_dec v h0 h1]; exact ⟨rfl, rfl⟩
theorem decR_atoi (s : Bytes) : decR s = bif atoiOk s && (decide (0 ≤ atoiV s) && decide (atoiV s ≤ 999999999999999)) && decide (decD (atoiV s) = s) then (atoiV s, true) else (0, false) := by
  cases c : atoiOk s && (decide (0 ≤ atoiV s) && decide (atoiV s ≤ 999999999999999)) && decide (decD (atoiV s) = s)
  · rw [cond_false]
    cases h : (decR s).2
    · unfold decR at h ⊢
      cases d : decide (1 ≤ s.length) && decide (s.length ≤ 15) && allP isDig s && decide (decD (digN s 0) = s)
      · rfl
      · rw [d] at h; cases h
    · have g := decR_of s h
      have k := atoi_ok _ g.1 g.2.1
      rw [g.2.2] at k
      rw [k.1, k.2, decide_eq_true g.1, decide_eq_true g.2.1, decide_eq_true g.2.2] at c
      cases c
  · rw [cond_true]
    simp only [Bool.and_eq_true, decide_eq_true_eq] at c
    exact decR_iff s _ c.1.2.1 c.1.2.2 c.2
end
end Go.Proofs.YtmmjaomfonknnaaGreatDoor.Ev

namespace Go.Proofs.YtmmjaomfonknnaaGreatDoor.Ev
open Go Go.RowKit
set_option linter.unusedVariables false
set_option linter.unusedSimpArgs false
noncomputable section
def atoi_s : List AV → List Ob → Br
  | [.str s], [] => .ite (decide (s.length ≤ 1000000)) (.ite (atoiOk s) (.ret (.tup [.int .i64 (atoiV s), .noerr]) []) (.ret (.tup [.int .i64 (atoiV s), .err]) [])) .fail
  | _, _ => .fail
theorem atoi_okQ : Sound Kx 237 atoi_s := by
  refine sound_calls Tryz.func237 (by kernel_rfl) rfl fun args objs res objs' hv w L vs hR hr => ?_
  unfold atoi_s at hv
  split at hv
  case h_2 => cases hv
  rename_i s
  obtain ⟨h1, h2⟩ := ite_some hv
  rw [decide_eq_true_eq] at h1
  have hsz : (⟨s.toArray⟩ : ByteArray).size = s.length := by show s.toArray.size = _; simp
  simp only [rels, rel] at hr
  obtain ⟨v, vs', rfl, rfl, rfl⟩ := hr
  cases ha : Lib.atoiAll s with
  | ok n =>
    have e1 : atoiOk s = true := by unfold atoiOk; rw [ha]
    have e2 : atoiV s = n := by unfold atoiV; rw [ha]
    rw [e1] at h2
    cases h2
    refine ⟨rfl, (Tryz.strconv_Atoi_ok ⟨s.toArray⟩ (by rw [hsz]; omega) n ha w).mono ?_⟩
    rintro e w' ⟨rfl, hw⟩
    refine ⟨_, rfl, ?_, ?_⟩
    · rcases hw with rfl | ⟨t, rfl⟩
      · exact Below.refl _ _
      · exact Lib.bytesWorld_below _ _ _
    · rw [e2]
      simp only [rel, rels]
      exact ⟨_, rfl, _, _, rfl, rfl, _, _, rfl, rfl, rfl⟩
  | range =>
    have e1 : atoiOk s = false := by unfold atoiOk; rw [ha]
    have e2 : atoiV s = Lib.atoiSat s := by unfold atoiV; rw [ha]
    rw [e1] at h2
    cases h2
    obtain ⟨tp, p, hp⟩ := hR.g.2.2.2 3 (by kernel_rfl)
    refine ⟨rfl, (Tryz.strconv_Atoi_range ⟨s.toArray⟩ (by rw [hsz]; omega) ha _ w hp (.inr ⟨tp, p, rfl⟩)).mono ?_⟩
    rintro e w' ⟨k, rfl, _, _, hb⟩
    refine ⟨_, rfl, hb, ?_⟩
    rw [e2]
    simp only [rel, rels]
    exact ⟨_, rfl, _, _, rfl, rfl, _, _, rfl, ⟨_, _, rfl⟩, rfl⟩
  | _ =>
    have e1 : atoiOk s = false := by unfold atoiOk; rw [ha]
    have e2 : atoiV s = 0 := by unfold atoiV; rw [ha]
    rw [e1] at h2
    cases h2
    obtain ⟨tp, p, hp⟩ := hR.g.2.2.1 2 (by kernel_rfl)
    refine ⟨rfl, (Tryz.strconv_Atoi_syntax ⟨s.toArray⟩ (by rw [hsz]; omega) ha _ w hp (.inr ⟨tp, p, rfl⟩)).mono ?_⟩
    rintro e w' ⟨k, rfl, _, _, hb⟩
    refine ⟨_, rfl, hb, ?_⟩
    rw [e2]
    simp only [rel, rels]
    exact ⟨_, rfl, _, _, rfl, rfl, _, _, rfl, ⟨_, _, rfl⟩, rfl⟩
end
end Go.Proofs.YtmmjaomfonknnaaGreatDoor.Ev

namespace Go.Proofs.YtmmjaomfonknnaaGreatDoor.Ev
open Go Go.RowKit
set_option linter.unusedVariables false
set_option linter.unusedSimpArgs false
noncomputable section

structure Cv where
  y : Int
  m : Int
  d : Int
  h : Int
  i : Int
  s : Int
def c0 : Cv := ⟨0, 0, 0, 0, 0, 0⟩
def timB (t : Int) : Bool := decide (0 ≤ t) && decide (t ≤ 253402300799)
end
end Go.Proofs.YtmmjaomfonknnaaGreatDoor.Ev
