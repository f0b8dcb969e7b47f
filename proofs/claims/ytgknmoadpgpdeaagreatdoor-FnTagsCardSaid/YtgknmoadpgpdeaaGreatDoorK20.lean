/- The texts Tb, one behind the other. -/
import Derived.Test.YtgknmoadpgpdeaaGreatDoorK19
import Derived.Lib.IndexMore
namespace Go.Proofs.YtgknmoadpgpdeaaGreatDoor.Ev
open Go Go.RowKit
set_option linter.unusedVariables false
set_option linter.unusedSimpArgs false
noncomputable section

def dg (n : Int) : UInt8 := UInt8.ofNat (48 + (n % 10).toNat)
def padP : Nat → Int → Bytes
  | 0, _ => []
  | k + 1, n => padP k (n / 10) ++ [dg n]
theorem by8_dg (n : Int) : by8 (dg n) = 48 + n % 10 := by
  unfold dg
  rw [by8_digit _ (by omega)]; omega
theorem padP_len : ∀ (k : Nat) (n : Int), (padP k n).length = k
  | 0, _ => rfl
  | k + 1, n => by unfold padP; rw [List.length_append, padP_len k]; rfl
def dayN (w : Int) : Bytes :=
  bif decide (w = 0) then [77, 111, 110, 100, 97, 121] else bif decide (w = 1) then [84, 117, 101, 115, 100, 97, 121] else bif decide (w = 2) then [87, 101, 100, 110, 101, 115, 100, 97, 121]
  else bif decide (w = 3) then [84, 104, 117, 114, 115, 100, 97, 121] else bif decide (w = 4) then [70, 114, 105, 100, 97, 121] else bif decide (w = 5) then [83, 97, 116, 117, 114, 100, 97, 121] else [83, 117, 110, 100, 97, 121]
def monT : Bytes := [74, 97, 110, 70, 101, 98, 77, 97, 114, 65, 112, 114, 77, 97, 121, 74, 117, 110, 74, 117, 108, 65, 117, 103, 83, 101, 112, 79, 99, 116, 78, 111, 118, 68, 101, 99]
def monN (m : Int) : Bytes := cut monT (3 * m - 3) (3 * m)
def gmtB : Bytes := [32, 71, 77, 84]
def clockP (c : Cv) : Bytes := padP 2 c.h ++ 58 :: padP 2 c.i ++ 58 :: padP 2 c.s
def httpC (w : Int) (c : Cv) : Bytes := (dayN w).take 3 ++ [44, 32] ++ padP 2 c.d ++ 32 :: monN c.m ++ 32 :: padP 4 c.y ++ 32 :: clockP c ++ gmtB
def longC (w : Int) (c : Cv) : Bytes := dayN w ++ [44, 32] ++ padP 2 c.d ++ 45 :: monN c.m ++ 45 :: padP 2 c.y ++ 32 :: clockP c ++ gmtB
def dayL (d : Int) : Bytes := bif decide (d < 10) then [32, dg d] else padP 2 d
def lineC (w : Int) (c : Cv) : Bytes := (dayN w).take 3 ++ 32 :: monN c.m ++ 32 :: dayL c.d ++ 32 :: clockP c ++ 32 :: padP 4 c.y
def httpP (t : Int) : Bytes := bif timB t then httpC (wdP t) (civP t) else []
def longP (t : Int) : Bytes := bif timB t && decide ((civP t).y ≤ 2069) then longC (wdP t) (civP t) else []
def lineD (t : Int) : Bytes := bif timB t then lineC (wdP t) (civP t) else []
def formP (s : Bytes) (t : Int) : Prop := timB t = true ∧ s ≠ [] ∧ (httpP t = s ∨ longP t = s ∨ lineD t = s)
open Classical in
def dateR (s : Bytes) : Int × Bool := if h : ∃ t, formP s t then (Classical.choose h, true) else (0, false)
theorem dateR_of {r : Bytes → Int × Bool} (h1 : ∀ s t, formP s t → r s = (t, true)) (h2 : ∀ s, (∀ t, ¬ formP s t) → r s = (0, false)) (s : Bytes) : r s = dateR s := by
  unfold dateR
  split
  · rename_i h; exact h1 s _ (Classical.choose_spec h)
  · rename_i h; exact h2 s fun t ht => h ⟨t, ht⟩
def numG : Option (Int × Nat) → Bytes → List Int
  | none, [] => []
  | some (n, _), [] => [n]
  | none, c :: r => bif isDig (by8 c) then numG (some (by8 c - 48, 1)) r else numG none r
  | some (n, k), c :: r => bif isDig (by8 c) then (bif decide (k < 9) then numG (some (10 * n + (by8 c - 48), k + 1)) r else n :: numG (some (by8 c - 48, 1)) r) else n :: numG none r
def numsP (s : Bytes) : List Int := numG none s
theorem dg_dig (n : Int) : isDig (by8 (dg n)) = true := by
  unfold isDig; rw [by8_dg, decide_eq_true (by omega), decide_eq_true (by omega)]; rfl
theorem numG_skip {c : UInt8} {r : Bytes} (h : isDig (by8 c) = false) : numG none (c :: r) = numG none r := by
  rw [numG, h]; rfl
theorem numG_lits : ∀ (l r : Bytes), allP (fun n => !isDig n) l = true → numG none (l ++ r) = numG none r
  | [], r, _ => rfl
  | c :: l, r, h => by
    have e : allP (fun n => !isDig n) (c :: l) = (!isDig (by8 c) && allP (fun n => !isDig n) l) := rfl
    rw [e, Bool.and_eq_true, Bool.not_eq_true'] at h
    rw [List.cons_append, numG_skip h.1]
    exact numG_lits l r h.2
theorem numG_end {n : Int} {k : Nat} {c : UInt8} {r : Bytes} (h : isDig (by8 c) = false) : numG (some (n, k)) (c :: r) = n :: numG none (c :: r) := by
  rw [numG_skip h, numG, h]; rfl
theorem numG_two (n : Int) (h0 : 0 ≤ n) (h1 : n ≤ 99) (r : Bytes) : numG none (padP 2 n ++ r) = numG (some (n, 2)) r := by
  show numG none (dg (n / 10) :: dg n :: r) = _
  rw [numG, dg_dig, cond_true, numG, dg_dig, cond_true]
  show numG (some (10 * (by8 (dg (n / 10)) - 48) + (by8 (dg n) - 48), 2)) r = _
  rw [by8_dg, by8_dg]
  congr 3; omega
theorem numG_four (n : Int) (h0 : 0 ≤ n) (h1 : n ≤ 9999) (r : Bytes) : numG none (padP 4 n ++ r) = numG (some (n, 4)) r := by
  show numG none (dg (n / 10 / 10 / 10) :: dg (n / 10 / 10) :: dg (n / 10) :: dg n :: r) = _
  rw [numG, dg_dig, cond_true, numG, dg_dig, cond_true, show decide (1 < 9) = true from rfl, cond_true, numG, dg_dig, cond_true, show decide (1 + 1 < 9) = true from rfl, cond_true, numG, dg_dig, cond_true, show decide (1 + 1 + 1 < 9) = true from rfl, cond_true]
  rw [by8_dg, by8_dg, by8_dg, by8_dg]
  congr 3; omega
theorem numG_one (n : Int) (h0 : 0 ≤ n) (h1 : n ≤ 9) (r : Bytes) : numG none (dg n :: r) = numG (some (n, 1)) r := by
  rw [numG, dg_dig, cond_true, by8_dg]
  congr 3; omega
theorem day_lits (w : Int) : allP (fun n => !isDig n) (dayN w) = true := by
  unfold dayN
  cases decide (w = 0) <;> cases decide (w = 1) <;> cases decide (w = 2) <;> cases decide (w = 3) <;> cases decide (w = 4) <;> cases decide (w = 5) <;> decide
theorem day3_lits (w : Int) : allP (fun n => !isDig n) ((dayN w).take 3) = true := by
  unfold dayN
  cases decide (w = 0) <;> cases decide (w = 1) <;> cases decide (w = 2) <;> cases decide (w = 3) <;> cases decide (w = 4) <;> cases decide (w = 5) <;> decide
theorem mon_cases {m : Int} (h0 : 1 ≤ m) (h1 : m ≤ 12) : m = 1 ∨ m = 2 ∨ m = 3 ∨ m = 4 ∨ m = 5 ∨ m = 6 ∨ m = 7 ∨ m = 8 ∨ m = 9 ∨ m = 10 ∨ m = 11 ∨ m = 12 := by omega
theorem mon_lits {m : Int} (h0 : 1 ≤ m) (h1 : m ≤ 12) : allP (fun n => !isDig n) (monN m) = true := by
  rcases mon_cases h0 h1 with h | h | h | h | h | h | h | h | h | h | h | h <;> subst h <;> decide
theorem clock_nums (c : Cv) (h : civOk c = true) (r : Bytes) : numG none (clockP c ++ r) = c.h :: c.i :: numG (some (c.s, 2)) r := by
  unfold civOk at h
  simp only [Bool.and_eq_true, decide_eq_true_eq] at h
  unfold clockP
  simp only [List.append_assoc, List.cons_append]
  rw [numG_two _ (by omega) (by omega), numG_end (by decide), numG_skip (by decide), numG_two _ (by omega) (by omega), numG_end (by decide), numG_skip (by decide), numG_two _ (by omega) (by omega)]

def conP (s sub : Bytes) : Bool := Lib.contains s sub
theorem con_cons (b : UInt8) (l sub : Bytes) : conP (b :: l) sub = (sub.isPrefixOf (b :: l) || conP l sub) := by
  unfold conP Lib.contains
  rw [show Lib.index (b :: l) sub = if sub.isPrefixOf (b :: l) then 0 else if Lib.index l sub == -1 then -1 else Lib.index l sub + 1 from rfl]
  have := Lib.index_ge l sub
  cases sub.isPrefixOf (b :: l)
  · simp only [Bool.false_eq_true, if_false, Bool.false_or]
    by_cases h : Lib.index l sub = -1
    · rw [h]; rfl
    · rw [if_neg (by simpa using h), decide_eq_true (show 0 ≤ Lib.index l sub + 1 by omega), decide_eq_true (show 0 ≤ Lib.index l sub by omega)]
  · rfl
theorem con_skip {b a : UInt8} {l sub : Bytes} (h : a ≠ b) : conP (b :: l) (a :: sub) = conP l (a :: sub) := by
  rw [con_cons]
  have e : (a :: sub).isPrefixOf (b :: l) = false := by
    simp only [List.isPrefixOf, Bool.and_eq_false_iff, beq_eq_false_iff_ne, ne_eq]; exact .inl h
  rw [e, Bool.false_or]
theorem con_lits (a : UInt8) (sub : Bytes) (ha : 65 ≤ by8 a) : ∀ (l r : Bytes), allP (fun n => decide (n < 65)) l = true → conP (l ++ r) (a :: sub) = conP r (a :: sub)
  | [], r, _ => rfl
  | c :: l, r, h => by
    have e : allP (fun n => decide (n < 65)) (c :: l) = (decide (by8 c < 65) && allP (fun n => decide (n < 65)) l) := rfl
    rw [e, Bool.and_eq_true, decide_eq_true_eq] at h
    rw [List.cons_append, con_skip (fun g => by subst g; omega)]
    exact con_lits a sub ha l r h.2
theorem pad_low : ∀ (k : Nat) (n : Int), allP (fun n => decide (n < 65)) (padP k n) = true
  | 0, _ => rfl
  | k + 1, n => by
    unfold padP
    rw [allP_app, pad_low k]
    show (true && (decide (by8 (dg n) < 65) && true)) = true
    rw [by8_dg, decide_eq_true (by omega)]; rfl
theorem clock_low (c : Cv) : allP (fun n => decide (n < 65)) (clockP c) = true := by
  unfold clockP
  have e : ∀ l : Bytes, allP (fun n => decide (n < 65)) (58 :: l) = allP (fun n => decide (n < 65)) l := fun l => rfl
  rw [allP_app, e, allP_app, e, pad_low, pad_low, pad_low]; rfl
theorem mon_parts {m : Int} (h0 : 1 ≤ m) (h1 : m ≤ 12) : ∃ a b c, monN m = [a, b, c] ∧ 65 ≤ by8 a ∧ by8 a ≤ 90 ∧ 97 ≤ by8 b ∧ 97 ≤ by8 c := by
  rcases mon_cases h0 h1 with h | h | h | h | h | h | h | h | h | h | h | h <;> subst h <;> exact ⟨_, _, _, rfl, by decide, by decide, by decide, by decide⟩
theorem mon_inj {m k : Int} (h0 : 1 ≤ m) (h1 : m ≤ 12) (k0 : 1 ≤ k) (k1 : k ≤ 12) (h : monN m = monN k) : m = k := by
  rcases mon_cases h0 h1 with g | g | g | g | g | g | g | g | g | g | g | g <;> rcases mon_cases k0 k1 with f | f | f | f | f | f | f | f | f | f | f | f <;> subst g <;> subst f <;> first | rfl | (exact absurd h (by decide))
def noMon (T : Bytes) : Prop := ∀ k : Int, 1 ≤ k → k ≤ 12 → conP T (monN k) = false
theorem noMon_gmt : noMon gmtB := by
  intro k h0 h1
  rcases mon_cases h0 h1 with g | g | g | g | g | g | g | g | g | g | g | g <;> subst g <;> decide
theorem noMon_nil : noMon [] := by
  intro k h0 h1
  rcases mon_cases h0 h1 with g | g | g | g | g | g | g | g | g | g | g | g <;> subst g <;> decide
theorem noMon_low {l T : Bytes} (hl : allP (fun n => decide (n < 65)) l = true) (hT : noMon T) : noMon (l ++ T) := by
  intro k h0 h1
  obtain ⟨a, b, c, e, ha, _⟩ := mon_parts h0 h1
  have := hT k h0 h1
  rw [e] at this ⊢
  rw [con_lits a _ ha l T hl]; exact this
theorem con_mon {m k : Int} (h0 : 1 ≤ m) (h1 : m ≤ 12) (k0 : 1 ≤ k) (k1 : k ≤ 12) {T : Bytes} (hT : noMon T) : conP (monN m ++ T) (monN k) = decide (k = m) := by
  have h := hT k k0 k1
  obtain ⟨a, b, c, e, ha, ha', hb, hc⟩ := mon_parts h0 h1
  obtain ⟨a2, b2, c2, e2, ha2, ha2', hb2, hc2⟩ := mon_parts k0 k1
  have inj : [a2, b2, c2] = [a, b, c] ↔ k = m := by
    rw [← e, ← e2]; exact ⟨fun g => mon_inj k0 k1 h0 h1 g, fun g => by rw [g]⟩
  rw [e2] at h
  rw [e, e2]
  show conP (a :: b :: c :: T) (a2 :: [b2, c2]) = _
  rw [con_cons, con_skip (fun g => by subst g; omega), con_skip (fun g => by subst g; omega), h, Bool.or_false]
  rw [Bool.eq_iff_iff, decide_eq_true_eq, ← inj]
  simp [List.isPrefixOf]
def monI (s : Bytes) : Int :=
  bif conP s (monN 1) then 1 else bif conP s (monN 2) then 2 else bif conP s (monN 3) then 3 else bif conP s (monN 4) then 4 else bif conP s (monN 5) then 5 else bif conP s (monN 6) then 6
  else bif conP s (monN 7) then 7 else bif conP s (monN 8) then 8 else bif conP s (monN 9) then 9 else bif conP s (monN 10) then 10 else bif conP s (monN 11) then 11 else bif conP s (monN 12) then 12 else 0
theorem monI_at {m : Int} (h0 : 1 ≤ m) (h1 : m ≤ 12) {l T : Bytes} (hl : allP (fun n => decide (n < 65)) l = true) (hT : noMon T) : monI (l ++ (monN m ++ T)) = m := by
  have key : ∀ k : Int, 1 ≤ k → k ≤ 12 → conP (l ++ (monN m ++ T)) (monN k) = decide (k = m) := fun k k0 k1 => by
    obtain ⟨a, b, c, e, ha, _⟩ := mon_parts k0 k1
    have := con_mon h0 h1 k0 k1 hT
    rw [e] at this ⊢
    rw [con_lits a _ ha l _ hl]; exact this
  unfold monI
  rw [key 1 (by decide) (by decide), key 2 (by decide) (by decide), key 3 (by decide) (by decide), key 4 (by decide) (by decide), key 5 (by decide) (by decide), key 6 (by decide) (by decide), key 7 (by decide) (by decide), key 8 (by decide) (by decide), key 9 (by decide) (by decide), key 10 (by decide) (by decide), key 11 (by decide) (by decide), key 12 (by decide) (by decide)]
  rcases mon_cases h0 h1 with g | g | g | g | g | g | g | g | g | g | g | g <;> subst g <;> rfl
end
end Go.Proofs.YtgknmoadpgpdeaaGreatDoor.Ev
