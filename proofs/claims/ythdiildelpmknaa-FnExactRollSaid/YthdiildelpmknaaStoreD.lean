/- More of the store's loops. -/
import Derived.Test.YthdiildelpmknaaStoreC
namespace Go.Proofs.Ythdiildelpmknaa.Ev
open Go Go.RowKit
set_option linter.unusedVariables false
set_option linter.unusedSimpArgs false

/-! impl.StoreOk -/
theorem iOk_loop (c : Int) (k0 k1 : Segs → Int → Option Rs) (l : Segs) (hl : l.length ≤ 40) (r : Segs) : ∀ (pre : Segs) (n : Nat), r.length < n → pre ++ r = l →
    iOk_F4 n l (l.length : Int) (pre.length : Int) l c k0 k1 = bif shape r then k1 l c else k0 l c := by
  induction r with
  | nil =>
    intro pre n hn hp
    obtain ⟨n, rfl⟩ : ∃ m, n = m + 1 := ⟨n - 1, by simp at hn; omega⟩
    have e1 : decide ((pre.length : Int) < (l.length : Int)) = false := by rw [← hp]; simp
    unfold iOk_F4 iOk_T4
    simp only [e1, cond_false, shape, cond_true]
  | cons a r ihr =>
    intro pre n hn hp
    obtain ⟨n, rfl⟩ : ∃ m, n = m + 1 := ⟨n - 1, by omega⟩
    have hlen : l.length = pre.length + r.length + 1 := by rw [← hp]; simp; omega
    have e1 : decide ((pre.length : Int) < (l.length : Int)) = true := by rw [hlen]; simp; omega
    have e2 : decide ((0 : Int) ≤ (pre.length : Int)) = true := by simp
    have e4 : l.getD pre.length ([], 0) = a := by rw [← hp]; exact getD_mid ..
    have ih := ihr (pre ++ [a]) n (by simp at hn; omega) (by rw [← cat_one]; exact hp)
    have e3 : decide ((pre.length : Int) < wrap64 ((l.length : Int) - 1)) = !r.isEmpty := by
      rw [w64 (by omega) (by omega), hlen]
      cases r with
      | nil => simp
      | cons b r => simp; omega
    have e5 : decide (a.1 = []) = decide ((a.1.length : Int) = 0) := by
      congr 1; apply propext
      constructor
      · intro h; rw [h]; rfl
      · intro h; exact List.length_eq_zero_iff.1 (by omega)
    unfold iOk_F4 iOk_T4
    simp only [e1, e2, e3, e4, e5, cond_true, Int.toNat_natCast]
    rw [next_len pre a (by omega), ih]
    simp only [shape]
    generalize decide (0 ≤ a.2) = b1
    generalize decide (a.2 ≤ (a.1.length : Int)) = b2
    generalize decide ((a.1.length : Int) = 0) = b3
    generalize decide (a.2 = (a.1.length : Int)) = b4
    generalize r.isEmpty = b7
    generalize shape r = b8
    cases b1 <;> cases b2 <;> cases b3 <;> cases b4 <;> cases b7 <;> cases b8 <;> rfl
theorem total_le : ∀ (l : Segs), (∀ a ∈ l, a.1.length ≤ 281474976710656) → total l ≤ l.length * 281474976710656
  | [], _ => by simp [total]
  | a :: r, h => by
    have h1 := h a (List.mem_cons_self ..)
    have h2 := total_le r fun x hx => h x (List.mem_cons_of_mem _ hx)
    simp only [total, List.length_cons]
    omega
def iOk_br (l : Segs) (c : Int) : Br := .ite (smS l) (.ret (.bool (okStore l c)) []) .fail
def iOk_s := iOk_sOf iOk_br
theorem iOk_ok : Sound Kx 49 iOk_s := by
  refine iOk_okOf (fun l _ => l.length + 1) fun l c r h => ?_
  unfold iOk_br at h
  simp only [Br.val] at h
  split at h
  · rename_i hb
    simp only [smS, Bool.and_eq_true, decide_eq_true_eq, List.all_eq_true] at hb
    rw [← h]
    unfold iOk_run okStore
    by_cases h1 : 0 ≤ c
    · by_cases h2 : c ≤ 60000
      · by_cases h3 : 1 ≤ l.length
        · by_cases h4 : l.length ≤ 40
          · have g3 : (1 : Int) ≤ (l.length : Int) := by omega
            have g4 : (l.length : Int) ≤ 40 := by omega
            have ht := total_le l hb.2
            have e1 : decide (l.length ≤ 281474976710656) = true := by simp; omega
            have e2 : decide (total l ≤ 4611686018427387904) = true := by simp; omega
            simp only [h1, h2, h3, h4, g3, g4, decide_true, Bool.not_true, cond_true, cond_false, Bool.true_and]
            refine (iOk_loop c (fun _ _ => some (.bool false, [])) (fun x4x1x0 x4x1x1 => bif (decide (x4x1x0.length ≤ 281474976710656) && decide (total x4x1x0 ≤ 4611686018427387904)) then some (.bool (decide (((total x4x1x0 : Nat) : Int) ≤ x4x1x1)), []) else none) l h4 l [] (l.length + 1) (by omega) rfl).trans ?_
            simp only [e1, e2, Bool.and_self, cond_true]
            cases shape l <;> rfl
          · have g3 : (1 : Int) ≤ (l.length : Int) := by omega
            have g4 : ¬ (l.length : Int) ≤ 40 := by omega
            simp only [h1, h2, h3, h4, g3, g4, decide_true, decide_false, Bool.not_true, Bool.not_false, cond_true, cond_false, Bool.true_and, Bool.and_false, Bool.false_and]
        · have g3 : ¬ (1 : Int) ≤ (l.length : Int) := by omega
          simp only [h1, h2, h3, g3, decide_true, decide_false, Bool.not_true, Bool.not_false, cond_true, cond_false, Bool.true_and, Bool.and_false, Bool.false_and]
      · simp only [h1, h2, decide_true, decide_false, Bool.not_true, Bool.not_false, cond_true, cond_false, Bool.true_and, Bool.and_false, Bool.false_and]
    · simp only [h1, decide_true, decide_false, Bool.not_true, Bool.not_false, cond_true, cond_false, Bool.true_and, Bool.and_false, Bool.false_and]
  · cases h

/-! markSegS -/
def marks : Segs → Int → Segs
  | [], _ => []
  | _ :: r, k => (mt k, k + 1) :: marks r (k + 2)
theorem marks_len : ∀ (l : Segs) (k : Int), (marks l k).length = l.length
  | [], _ => rfl
  | _ :: r, k => by simp [marks, marks_len r]
theorem markSegS_loop (c : Int → Segs → Option Rs) (r : Segs) : ∀ (pre : Segs) (n : Nat) (k : Int), r.length < n → (pre ++ r).length ≤ 281474976710656 → 0 ≤ k → k + 2 * r.length ≤ 1152921504606846976 →
    markSegS_F2 n k (pre.length : Int) (pre ++ r) c = c (k + 2 * r.length) (pre ++ marks r k) := by
  induction r with
  | nil =>
    intro pre n k hn hl hk hm
    obtain ⟨n, rfl⟩ : ∃ m, n = m + 1 := ⟨n - 1, by simp at hn; omega⟩
    have e1 : decide ((pre.length : Int) < ((pre ++ ([] : Segs)).length : Int)) = false := by simp
    unfold markSegS_F2 markSegS_T2
    simp only [e1, cond_false, marks, List.append_nil, List.length_nil]
    simp
  | cons a r ihr =>
    intro pre n k hn hl hk hm
    obtain ⟨n, rfl⟩ : ∃ m, n = m + 1 := ⟨n - 1, by omega⟩
    have hlen : ∀ b : List UInt8 × Int, (pre ++ b :: r).length = pre.length + r.length + 1 := by intro b; simp; omega
    have e1 : ∀ b : List UInt8 × Int, decide ((pre.length : Int) < ((pre ++ b :: r).length : Int)) = true := by intro b; rw [hlen]; simp; omega
    have e2 : decide ((0 : Int) ≤ (pre.length : Int)) = true := by simp
    have e3 : decide (k ≤ 1152921504606846976) = true := by simp; omega
    have hlen' := hlen a
    simp only [List.length_cons] at hm
    have ih := ihr (pre ++ [(mt k, k + 1)]) n (k + 2) (by simp at hn; omega) (by rw [← cat_one, hlen]; omega) (by omega) (by omega)
    unfold markSegS_F2 markSegS_T2
    simp only [e1, e2, e3, cond_true, Int.toNat_natCast, getD_mid, set_mid]
    rw [next_len pre (mt k, k + 1) (by omega), w64 (n := k + 1) (by omega) (by omega), w64 (n := k + 1 + 1) (by omega) (by omega)]
    rw [show k + 1 + 1 = k + 2 by omega, cat_one pre (mt k, k + 1) r, ih, ← cat_one pre (mt k, k + 1)]
    simp only [marks, List.length_cons]
    congr 1
    omega
def markSegS_br (l : Segs) (k : Int) : Br := .ite (decide (l.length ≤ 281474976710656) && decide (0 ≤ k) && decide (k ≤ 281474976710656)) (.ret (.int .i64 (k + 2 * l.length)) [.arr (.pair .str (.int .i64)) 0 false (marks l k)]) .fail
def markSegS_s := markSegS_sOf markSegS_br
theorem markSegS_ok : Sound Kx 71 markSegS_s := by
  refine markSegS_okOf (fun l _ => l.length + 1) fun l k r h => ?_
  unfold markSegS_br at h
  simp only [Br.val] at h
  split at h
  · rename_i hb
    simp only [Bool.and_eq_true, decide_eq_true_eq] at hb
    rw [← h]
    exact markSegS_loop _ l [] (l.length + 1) k (by omega) (by simpa using hb.1.1) hb.1.2 (by omega)
  · cases h

/-! heldSegS -/
def held : Segs → Int → Int
  | [], k => k
  | a :: r, k => bif !decide (a.1 = mt k) then -1 else bif !decide (a.2 = k + 1) then -1 else held r (k + 2)
theorem held_marks : ∀ (l : Segs) (k : Int), held (marks l k) k = k + 2 * l.length
  | [], k => by simp [held, marks]
  | a :: r, k => by simp only [held, marks, decide_true, Bool.not_true, cond_false, held_marks r, List.length_cons]; omega
theorem held_neg : ∀ (l : Segs) (k : Int), 0 ≤ k → held l k < 0 → held l k = -1
  | [], k, h, h1 => by simp only [held] at h1; omega
  | a :: r, k, h, h1 => by
    simp only [held] at h1 ⊢
    generalize decide (a.1 = mt k) = b1 at *
    generalize decide (a.2 = k + 1) = b2 at *
    cases b1 <;> cases b2 <;> simp only [Bool.not_true, Bool.not_false, cond_true, cond_false] at h1 ⊢
    exact held_neg r _ (by omega) h1
def neg (x : Int) : Bool := decide (x < 0)
theorem heldSegS_loop (c0 c1 : Int → Option Rs) (hc : ∀ x, c0 x = c0 0) (l : Segs) (hl : l.length ≤ 281474976710656) (r : Segs) : ∀ (pre : Segs) (n : Nat) (k : Int), r.length < n → pre ++ r = l → 0 ≤ k → k + 2 * r.length ≤ 1152921504606846976 →
    heldSegS_F2 n l k (pre.length : Int) c0 c1 = bif neg (held r k) then c0 0 else c1 (held r k) := by
  induction r with
  | nil =>
    intro pre n k hn hp hk hm
    obtain ⟨n, rfl⟩ : ∃ m, n = m + 1 := ⟨n - 1, by simp at hn; omega⟩
    have e1 : decide ((pre.length : Int) < (l.length : Int)) = false := by rw [← hp]; simp
    have e2 : neg k = false := by unfold neg; simp; omega
    unfold heldSegS_F2 heldSegS_T2
    simp only [e1, cond_false, held, e2]
  | cons a r ihr =>
    intro pre n k hn hp hk hm
    obtain ⟨n, rfl⟩ : ∃ m, n = m + 1 := ⟨n - 1, by omega⟩
    have hlen : l.length = pre.length + r.length + 1 := by rw [← hp]; simp; omega
    have e1 : decide ((pre.length : Int) < (l.length : Int)) = true := by rw [hlen]; simp; omega
    have e2 : decide ((0 : Int) ≤ (pre.length : Int)) = true := by simp
    have e3 : decide (k ≤ 1152921504606846976) = true := by simp; omega
    have e4 : l.getD pre.length ([], 0) = a := by rw [← hp]; exact getD_mid ..
    simp only [List.length_cons] at hm
    have ih := ihr (pre ++ [a]) n (k + 2) (by simp at hn; omega) (by rw [← cat_one]; exact hp) (by omega) (by omega)
    unfold heldSegS_F2 heldSegS_T2
    simp only [e1, e2, e3, e4, cond_true, Int.toNat_natCast]
    rw [next_len pre a (by omega), w64 (n := k + 1) (by omega) (by omega), w64 (n := k + 1 + 1) (by omega) (by omega)]
    rw [show k + 1 + 1 = k + 2 by omega, ih, hc k, hc (k + 1)]
    simp only [held]
    generalize decide (a.1 = mt k) = b1
    generalize decide (a.2 = k + 1) = b2
    cases b1 <;> cases b2 <;> rfl
def heldSegS_br (l : Segs) (k : Int) : Br := .ite (decide (l.length ≤ 281474976710656) && decide (0 ≤ k) && decide (k ≤ 281474976710656)) (.ret (.int .i64 (held l k)) []) .fail
def heldSegS_s := heldSegS_sOf heldSegS_br
theorem heldSegS_ok : Sound Kx 72 heldSegS_s := by
  refine heldSegS_okOf (fun l _ => l.length + 1) fun l k r h => ?_
  unfold heldSegS_br at h
  simp only [Br.val] at h
  split at h
  · rename_i hb
    simp only [Bool.and_eq_true, decide_eq_true_eq] at hb
    rw [← h]
    refine (heldSegS_loop (fun _ => some (.int .i64 (-1), [])) (fun x => some (.int .i64 x, [])) (fun _ => rfl) l hb.1.1 l [] (l.length + 1) k (by omega) rfl hb.1.2 (by omega)).trans ?_
    by_cases h1 : held l k < 0
    · have := held_neg l k hb.1.2 h1
      rw [this]; rfl
    · have : neg (held l k) = false := by unfold neg; simpa using h1
      rw [this]; rfl
  · cases h

end Go.Proofs.Ythdiildelpmknaa.Ev
