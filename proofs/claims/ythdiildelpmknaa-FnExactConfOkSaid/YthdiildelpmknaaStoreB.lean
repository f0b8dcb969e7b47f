/- The store's loops: what they come to. -/
import Derived.Test.YthdiildelpmknaaStoreA
namespace Go.Proofs.Ythdiildelpmknaa.Ev
open Go Go.RowKit
set_option linter.unusedVariables false
set_option linter.unusedSimpArgs false

abbrev Segs := List (List UInt8 × Int)

theorem w64 {n : Int} (h1 : -9223372036854775808 ≤ n) (h2 : n ≤ 9223372036854775807) : wrap64 n = n := by unfold wrap64; omega
theorem getD_mid {α : Type} (pre : List α) (a : α) (r : List α) (d : α) : (pre ++ a :: r).getD pre.length d = a := by simp [List.getD_eq_getElem?_getD]
theorem next_len {α : Type} (pre : List α) (a : α) (h : pre.length < 4611686018427387904) : wrap64 ((pre.length : Int) + 1) = ((pre ++ [a]).length : Int) := by
  rw [w64 (by omega) (by omega)]; simp
theorem cat_one {α : Type} (pre : List α) (a : α) (r : List α) : pre ++ a :: r = (pre ++ [a]) ++ r := by simp

/-- All bytes of some segments. -/
def total : Segs → Nat
  | [] => 0
  | a :: r => a.1.length + total r

/-! used -/
theorem used_loop (c : Int) (k : Int → Option Rs) : ∀ (r pre : Segs) (n : Nat) (acc : Int), r.length < n → (pre ++ r).length ≤ 281474976710656 → 0 ≤ acc → acc + total r ≤ 4611686018427387904 →
    used_F3 n acc (pre ++ r) ((pre ++ r).length : Int) (pre.length : Int) k = k (acc + total r)
  | [], pre, n + 1, acc, hn, hl, ha, ht => by
    unfold used_F3 used_T3
    simp [total]
  | a :: r, pre, n + 1, acc, hn, hl, ha, ht => by
    have hlen : (pre ++ a :: r).length = pre.length + r.length + 1 := by simp; omega
    have e1 : decide ((pre.length : Int) < ((pre ++ a :: r).length : Int)) = true := by rw [hlen]; simp; omega
    have e2 : decide ((0 : Int) ≤ (pre.length : Int)) = true := by simp
    unfold used_F3 used_T3
    simp only [e1, e2, cond_true, Int.toNat_natCast, getD_mid]
    simp only [total] at ht
    rw [next_len pre a (by omega), w64 (by omega) (by omega)]
    conv => lhs; rw [cat_one]
    rw [used_loop c k r (pre ++ [a]) n _ (by simp at hn; omega) (by rw [← cat_one]; exact hl) (by omega) (by omega)]
    simp only [total]
    congr 1
    push_cast
    omega
def used_br (l : Segs) (c : Int) : Br := .ite (decide (l.length ≤ 281474976710656) && decide (total l ≤ 4611686018427387904)) (.ret (.int .i64 (total l)) []) .fail
def used_s := used_sOf used_br
theorem used_ok : Sound Kx 74 used_s := by
  refine used_okOf (fun l _ => l.length + 1) fun l c r h => ?_
  unfold used_br at h
  simp only [Br.val] at h
  split at h
  · rename_i hb
    simp only [Bool.and_eq_true, decide_eq_true_eq] at hb
    unfold used_run
    have := used_loop c (fun x => some (AV.int .i64 x, ([] : List Ob))) l [] (l.length + 1) 0 (by omega) (by simpa using hb.1) (by omega) (by have := hb.2; omega)
    simp only [List.nil_append, List.length_nil, Int.zero_add] at this
    rw [← h]
    exact this
  · cases h

/-! spec.StoreOk -/
/-- A store's segments, the room that is left aside. -/
def shape : Segs → Bool
  | [] => true
  | a :: r => decide (0 ≤ a.2) && decide (a.2 ≤ (a.1.length : Int)) && (r.isEmpty || (!decide ((a.1.length : Int) = 0) && decide (a.2 = (a.1.length : Int)))) && shape r

/-- As spec.StoreOk goes through them. -/
def walk : Segs → Int → Bool
  | [], _ => true
  | a :: r, left => bif decide (left < (a.1.length : Int)) then false else bif decide (a.2 < 0) then false else bif decide ((a.1.length : Int) < a.2) then false else
    bif !r.isEmpty then (bif decide ((a.1.length : Int) = 0) then false else bif !decide (a.2 = (a.1.length : Int)) then false else walk r (left - a.1.length)) else walk r (left - a.1.length)
theorem walk_eq : ∀ (l : Segs) (left : Int), 0 ≤ left → walk l left = (shape l && decide ((total l : Int) ≤ left))
  | [], left, h => by simp [walk, shape, total, h]
  | a :: r, left, h => by
    have ht : (total (a :: r) : Int) = (a.1.length : Int) + total r := by simp only [total]; push_cast; rfl
    simp only [walk, shape]
    by_cases h1 : left < (a.1.length : Int)
    · have : ¬ (total (a :: r) : Int) ≤ left := by omega
      simp only [h1, this, decide_true, decide_false, cond_true, Bool.and_false]
    · have ih := walk_eq r (left - a.1.length) (by omega)
      have e : decide ((total (a :: r) : Int) ≤ left) = decide ((total r : Int) ≤ left - (a.1.length : Int)) := by congr 1; apply propext; omega
      have e1 : decide (a.2 < 0) = !decide (0 ≤ a.2) := by by_cases h : 0 ≤ a.2 <;> simp [h] <;> omega
      have e2 : decide ((a.1.length : Int) < a.2) = !decide (a.2 ≤ (a.1.length : Int)) := by by_cases h : a.2 ≤ (a.1.length : Int) <;> simp [h] <;> omega
      rw [e, ih, e1, e2]
      simp only [h1, decide_false, cond_false]
      generalize decide (0 ≤ a.2) = b1
      generalize decide (a.2 ≤ (a.1.length : Int)) = b2
      generalize decide ((a.1.length : Int) = 0) = b3
      generalize decide (a.2 = (a.1.length : Int)) = b4
      generalize decide ((total r : Int) ≤ left - (a.1.length : Int)) = b5
      generalize shape r = b6
      generalize r.isEmpty = b7
      revert b1 b2 b3 b4 b5 b6 b7
      decide
theorem sOk_loop (c : Int) (k0 k1 : Option Rs) (r : Segs) : ∀ (pre : Segs) (n : Nat) (left : Int), r.length < n → (pre ++ r).length ≤ 40 → 0 ≤ left → left ≤ 60000 →
    sOk_F5 n left (pre.length : Int) (pre ++ r) c k0 k1 = bif walk r left then k1 else k0 := by
  induction r with
  | nil =>
    intro pre n left hn hl ha ht
    obtain ⟨n, rfl⟩ : ∃ m, n = m + 1 := ⟨n - 1, by simp at hn; omega⟩
    have e1 : decide ((pre.length : Int) < ((pre ++ ([] : Segs)).length : Int)) = false := by simp
    unfold sOk_F5 sOk_T5
    simp only [e1, cond_false, walk, cond_true]
  | cons a r ihr =>
    intro pre n left hn hl ha ht
    obtain ⟨n, rfl⟩ : ∃ m, n = m + 1 := ⟨n - 1, by omega⟩
    have hlen : (pre ++ a :: r).length = pre.length + r.length + 1 := by simp; omega
    have e1 : decide ((pre.length : Int) < ((pre ++ a :: r).length : Int)) = true := by rw [hlen]; simp; omega
    have e2 : decide ((0 : Int) ≤ (pre.length : Int)) = true := by simp
    have ih := fun h1 h2 => ihr (pre ++ [a]) n (left - (a.1.length : Int)) (by simp at hn; omega) (by rw [← cat_one]; exact hl) h1 h2
    rw [← cat_one] at ih
    unfold sOk_F5 sOk_T5
    simp only [e1, e2, cond_true, Int.toNat_natCast, getD_mid]
    rw [next_len pre a (by omega)]
    have e3 : decide (((pre ++ [a]).length : Int) < ((pre ++ a :: r).length : Int)) = !r.isEmpty := by
      rw [hlen]
      cases r with
      | nil => simp
      | cons b r => simp; omega
    simp only [e3, walk]
    by_cases h1 : left < (a.1.length : Int)
    · simp only [h1, decide_true, cond_true, cond_false]
    · rw [w64 (by omega) (by omega), ih (by omega) (by omega)]
      simp only [h1, decide_false, cond_false]
      generalize decide (a.2 < 0) = b1
      generalize decide ((a.1.length : Int) < a.2) = b2
      generalize decide ((a.1.length : Int) = 0) = b3
      generalize decide (a.2 = (a.1.length : Int)) = b4
      generalize r.isEmpty = b7
      generalize walk r (left - (a.1.length : Int)) = b8
      cases b1 <;> cases b2 <;> cases b3 <;> cases b4 <;> cases b7 <;> rfl

/-- Is it a store? -/
def okStore (l : Segs) (c : Int) : Bool := decide (0 ≤ c) && decide (c ≤ 60000) && decide (1 ≤ l.length) && decide (l.length ≤ 40) && (shape l && decide ((total l : Int) ≤ c))
def sOk_br (l : Segs) (c : Int) : Br := .ret (.bool (okStore l c)) []
def sOk_s := sOk_sOf sOk_br
theorem sOk_ok : Sound Kx 51 sOk_s := by
  refine sOk_okOf (fun l _ => l.length + 1) fun l c r h => ?_
  cases h
  unfold sOk_run okStore
  by_cases h1 : c < 0
  · have : ¬ 0 ≤ c := by omega
    simp [h1, this]
  · by_cases h2 : 60000 < c
    · have : ¬ c ≤ 60000 := by omega
      simp [h1, h2, this]
    · by_cases h3 : (l.length : Int) < 1
      · have : ¬ 1 ≤ l.length := by omega
        simp [h1, h2, h3, this]
      · by_cases h4 : 40 < (l.length : Int)
        · have : ¬ l.length ≤ 40 := by omega
          simp [h1, h2, h3, h4, this]
        · have f1 : (0 : Int) ≤ c := by omega
          have f2 : c ≤ 60000 := by omega
          have f3 : 1 ≤ l.length := by omega
          have f4 : l.length ≤ 40 := by omega
          have := sOk_loop c (some (.bool false, [])) (some (.bool true, [])) l [] (l.length + 1) c (by omega) (by simpa using f4) f1 f2
          simp only [List.nil_append, List.length_nil] at this
          simp only [h1, h2, h3, h4, f1, f2, f3, f4, decide_true, decide_false, cond_true, cond_false, Bool.true_and]
          refine Eq.trans this ?_
          rw [walk_eq l c f1]
          cases shape l && decide ((total l : Int) ≤ c) <;> rfl

/-! szSegS -/
/-- What is left, or less than nothing. -/
def szs : Segs → Int → Int
  | [], left => left
  | a :: r, left => if left - a.1.length < 0 then -1 else szs r (left - a.1.length)
/-- Small enough for the machine. -/
def smS (l : Segs) : Bool := decide (l.length ≤ 281474976710656) && l.all fun a => decide (a.1.length ≤ 281474976710656)
theorem szSegS_loop (k0 k1 : Int → Option Rs) : ∀ (r pre : Segs) (n : Nat) (left : Int), r.length < n → (pre ++ r).length ≤ 281474976710656 → (∀ a ∈ r, a.1.length ≤ 281474976710656) → 0 ≤ left → left ≤ 1048576 →
    szSegS_F5 n (pre ++ r) left (pre.length : Int) k0 k1 = bif decide (szs r left < 0) then k0 (-1) else k1 (szs r left)
  | [], pre, n + 1, left, hn, hl, hm, ha, ht => by
    have : ¬ left < 0 := by omega
    unfold szSegS_F5 szSegS_T5
    simp [szs, this]
  | a :: r, pre, n + 1, left, hn, hl, hm, ha, ht => by
    have hlen : (pre ++ a :: r).length = pre.length + r.length + 1 := by simp; omega
    have e1 : decide ((pre.length : Int) < ((pre ++ a :: r).length : Int)) = true := by rw [hlen]; simp; omega
    have e2 : decide ((0 : Int) ≤ (pre.length : Int)) = true := by simp
    have ih := fun h1 h2 => szSegS_loop k0 k1 r (pre ++ [a]) n (left - (a.1.length : Int)) (by simp at hn; omega) (by rw [← cat_one]; exact hl) (fun x hx => hm x (List.mem_cons_of_mem _ hx)) h1 h2
    rw [← cat_one] at ih
    unfold szSegS_F5 szSegS_T5
    simp only [e1, e2, cond_true, Int.toNat_natCast, getD_mid]
    have hma := hm a (List.mem_cons_self ..)
    rw [next_len pre a (by omega), w64 (by omega) (by omega)]
    by_cases h1 : left - (a.1.length : Int) < 0
    · simp [h1, szs]
    · simp only [h1, decide_false, cond_false, szs, if_false]
      exact ih (by omega) (by omega)
def szOf (l : Segs) (left : Int) : Int := if left - l.length < 0 then -1 else szs l (left - l.length)
def szSegS_br (l : Segs) (left : Int) : Br := .ite (smS l && decide (0 ≤ left) && decide (left ≤ 1048576)) (.ret (.int .i64 (szOf l left)) []) .fail
def szSegS_s := szSegS_sOf szSegS_br
theorem szs_neg : ∀ (l : Segs) (left : Int), 0 ≤ left → szs l left < 0 → szs l left = -1
  | [], left, h, h1 => by simp only [szs] at h1; omega
  | a :: r, left, h, h1 => by
    simp only [szs] at h1 ⊢
    split at h1
    · rename_i h2; rw [if_pos h2]
    · rename_i h2; rw [if_neg h2]; exact szs_neg r _ (by omega) h1
theorem szSegS_ok : Sound Kx 66 szSegS_s := by
  refine szSegS_okOf (fun l _ => l.length + 1) fun l left r h => ?_
  unfold szSegS_br at h
  simp only [Br.val] at h
  split at h
  · rename_i hb
    simp only [smS, Bool.and_eq_true, decide_eq_true_eq, List.all_eq_true] at hb
    obtain ⟨⟨⟨h1, h2⟩, h3⟩, h4⟩ := hb
    unfold szSegS_run
    rw [← h, w64 (by omega) (by omega)]
    unfold szOf
    by_cases h5 : left - (l.length : Int) < 0
    · simp [h5]
    · have := szSegS_loop (fun _ => some (.int .i64 (-1), [])) (fun x => some (.int .i64 x, [])) l [] (l.length + 1) (left - l.length) (by omega) (by simpa using h1) h2 (by omega) (by omega)
      simp only [List.nil_append, List.length_nil] at this
      simp only [h5, decide_false, cond_false, if_false]
      refine this.trans ?_
      by_cases h6 : szs l (left - l.length) < 0
      · have := szs_neg l _ (by omega) h6
        simp [h6, this]
      · simp [h6]
  · cases h

/-! toSegS -/
theorem set_mid {α : Type} (pre : List α) (a b : α) (r : List α) : (pre ++ a :: r).set pre.length b = pre ++ b :: r := by simp
theorem toSegS_loop (k : Segs → Option Rs) : ∀ (r pre : Segs) (n : Nat), r.length < n → (pre ++ r).length ≤ 281474976710656 →
    toSegS_F3 n (pre ++ r) (pre.length : Int) (pre ++ List.replicate r.length ([], 0)) k = k (pre ++ r)
  | [], pre, n + 1, hn, hl => by
    unfold toSegS_F3 toSegS_T3
    simp
  | a :: r, pre, n + 1, hn, hl => by
    have hlen : (pre ++ a :: r).length = pre.length + r.length + 1 := by simp; omega
    have e1 : decide ((pre.length : Int) < ((pre ++ a :: r).length : Int)) = true := by rw [hlen]; simp; omega
    have e2 : decide ((0 : Int) ≤ (pre.length : Int)) = true := by simp
    have e3 : decide ((pre.length : Int) < ((pre ++ List.replicate (a :: r).length (([], 0) : List UInt8 × Int)).length : Int)) = true := by simp; omega
    have ih := toSegS_loop k r (pre ++ [a]) n (by simp at hn; omega) (by rw [← cat_one]; exact hl)
    rw [← cat_one, ← cat_one] at ih
    unfold toSegS_F3 toSegS_T3
    simp only [e1, e2, e3, cond_true, Int.toNat_natCast, getD_mid]
    rw [next_len pre a (by omega)]
    simp only [List.length_cons, List.replicate_succ, set_mid]
    exact ih
def segT : Ty := .pair .str (.int .i64)
def toSegS_br (l : Segs) : Br := .ite (decide (l.length ≤ 1048576)) (.ret (.ref 0 0) [.arr (.pair .str (.int .i64)) 0 false l]) .fail
def toSegS_s := toSegS_sOf toSegS_br
theorem toSegS_ok : Sound Kx 68 toSegS_s := by
  refine toSegS_okOf (fun l => l.length + 1) fun l r h => ?_
  unfold toSegS_br at h
  simp only [Br.val] at h
  split at h
  · rename_i hb
    simp only [decide_eq_true_eq] at hb
    unfold toSegS_run
    rw [← h]
    have e1 : decide ((0 : Int) ≤ (l.length : Int)) = true := by simp
    have e2 : decide ((l.length : Int) = (l.length : Int)) = true := by simp
    have e3 : decide (((l.length : Int) * 24) ≤ 140737488355328) = true := by simp; omega
    simp only [e1, e2, e3, cond_true, Int.toNat_natCast]
    have := toSegS_loop (fun x => some (.ref 0 0, [.arr (.pair .str (.int .i64)) 0 false x])) l [] (l.length + 1) (by omega) (by simp; omega)
    simpa using this
  · cases h

/-! eqSegS -/
theorem eqSegS_loop (k0 k1 : Option Rs) : ∀ (r r' pre pre' : Segs) (n : Nat), r.length < n → (pre ++ r).length ≤ 281474976710656 → pre.length = pre'.length → r.length = r'.length →
    eqSegS_F4 n (pre ++ r) (pre' ++ r') (pre.length : Int) k0 k1 = bif decide (r = r') then k1 else k0
  | [], [], pre, pre', n + 1, hn, hl, hp, hr => by
    unfold eqSegS_F4 eqSegS_T4
    simp
  | [], _ :: _, _, _, _, _, _, _, hr => by simp at hr
  | _ :: _, [], _, _, _, _, _, _, hr => by simp at hr
  | a :: r, b :: r', pre, pre', n + 1, hn, hl, hp, hr => by
    have hlen : (pre ++ a :: r).length = pre.length + r.length + 1 := by simp; omega
    have e1 : decide ((pre.length : Int) < ((pre ++ a :: r).length : Int)) = true := by rw [hlen]; simp; omega
    have e2 : decide ((0 : Int) ≤ (pre.length : Int)) = true := by simp
    have e3 : decide ((pre.length : Int) < ((pre' ++ b :: r').length : Int)) = true := by simp; omega
    have ih := eqSegS_loop k0 k1 r r' (pre ++ [a]) (pre' ++ [b]) n (by simp at hn; omega) (by rw [← cat_one]; exact hl) (by simp [hp]) (by simpa using hr)
    rw [← cat_one, ← cat_one] at ih
    have e4 : (pre' ++ b :: r').getD pre.length ([], 0) = b := by rw [hp]; exact getD_mid ..
    unfold eqSegS_F4 eqSegS_T4
    simp only [e1, e2, e3, cond_true, Int.toNat_natCast, getD_mid, e4]
    rw [next_len pre a (by omega), ih]
    obtain ⟨a1, a2⟩ := a
    obtain ⟨b1, b2⟩ := b
    by_cases h1 : a1 = b1
    · by_cases h2 : a2 = b2
      · simp [h1, h2]
      · simp [h1, h2]
    · simp [h1]
def eqSegS_br (l l' : Segs) : Br := .ite (decide (l.length ≤ 281474976710656)) (.ret (.bool (decide (l = l'))) []) .fail
def eqSegS_s := eqSegS_sOf eqSegS_br
theorem eqSegS_ok : Sound Kx 70 eqSegS_s := by
  refine eqSegS_okOf (fun l _ => l.length + 1) fun l l' r h => ?_
  unfold eqSegS_br at h
  simp only [Br.val] at h
  split at h
  · rename_i hb
    simp only [decide_eq_true_eq] at hb
    unfold eqSegS_run
    rw [← h]
    by_cases h1 : (l.length : Int) = (l'.length : Int)
    · have := eqSegS_loop (some (.bool false, [])) (some (.bool true, [])) l l' [] [] (l.length + 1) (by omega) (by simpa using hb) rfl (by omega)
      simp only [List.nil_append, List.length_nil] at this
      simp only [h1, decide_true, Bool.not_true, cond_false]
      refine this.trans ?_
      cases decide (l = l') <;> rfl
    · have h2 : ¬ l = l' := fun e => h1 (by rw [e])
      simp [h1, h2]
  · cases h

/-! markText -/
def dig : Nat → Int → List UInt8 → List UInt8
  | 0, _, acc => acc
  | n + 1, k, acc => bif decide (0 < k) then dig n (wrap64 (Int.tdiv k 10)) ((ofBytes (List.set (List.replicate 1 (0 : Int)) 0 ((wrap64 (48 + Int.tmod k 10)) % 256))) ++ acc) else acc
theorem dig_len : ∀ (n : Nat) (k : Int) (acc : List UInt8), (dig n k acc).length ≤ acc.length + n
  | 0, _, _ => by simp [dig]
  | n + 1, k, acc => by
    simp only [dig]
    cases decide (0 < k) with
    | true => exact Nat.le_trans (dig_len n _ _) (by simp [ofBytes]; omega)
    | false => simp
theorem markText_loop (k : List UInt8 → Option Rs) : ∀ (n : Nat) (x : Int) (acc : List UInt8), x.toNat < n → x ≤ 1152921504606846976 → acc.length + n ≤ 2305843009213693952 → markText_F4 n x acc k = k (dig n x acc)
  | 0, x, acc, h, h', hl => by omega
  | n + 1, x, acc, h, h', hl => by
    unfold markText_F4 markText_T4 dig
    by_cases h1 : 0 < x
    · have e1 : ∀ y : Int, decide ((((List.length (ofBytes (List.set (List.replicate (1 : Nat) (0 : Int)) (0 : Nat) y)) + List.length acc : Nat)) : Int) ≤ 9223372036854775807) = true := by
        intro y; simp [ofBytes]; omega
      have e2 : Int.tdiv x 10 = x / 10 := Int.tdiv_eq_ediv_of_nonneg (by omega)
      simp only [h1, decide_true, cond_true, e1]
      refine markText_loop k n _ _ ?_ ?_ ?_
      · rw [e2, w64 (by omega) (by omega)]; omega
      · rw [e2, w64 (by omega) (by omega)]; omega
      · simp [ofBytes]; omega
    · simp [h1]
def mt (k : Int) : List UInt8 := bif decide (k ≤ 0) then [109, 48] else [109] ++ dig (k.toNat + 1) k []
def markText_br (k : Int) : Br := .ite (decide (k ≤ 1152921504606846976)) (.ret (.str (mt k)) []) .fail
def markText_s := markText_sOf markText_br
theorem markText_ok : Sound Kx 93 markText_s := by
  refine markText_okOf (fun k => k.toNat + 1) fun k r h => ?_
  unfold markText_br at h
  simp only [Br.val] at h
  split at h
  · rename_i hb
    simp only [decide_eq_true_eq] at hb
    unfold markText_run
    rw [← h]
    unfold mt
    by_cases h1 : k ≤ 0
    · simp [h1]
    · simp only [h1, decide_false, cond_false]
      rw [markText_loop _ _ _ _ (by omega) hb (by simp; omega)]
      have := dig_len (k.toNat + 1) k []
      have e1 : decide ((((1 : Nat) + List.length (dig (k.toNat + 1) k []) : Nat) : Int) ≤ 9223372036854775807) = true := by simp at this ⊢; omega
      simp only [e1, cond_true]
  · cases h

end Go.Proofs.Ythdiildelpmknaa.Ev
