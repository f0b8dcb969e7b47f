/- The store's operations: what they come to. -/
import Derived.Test.YthdiildelpmknaaStoreE
namespace Go.Proofs.Ythdiildelpmknaa.Ev
open Go Go.RowKit
set_option linter.unusedVariables false
set_option linter.unusedSimpArgs false

/-! The last segment. -/
theorem total_snoc : ∀ (pre : Segs) (a : List UInt8 × Int), total (pre ++ [a]) = total pre + a.1.length
  | [], a => by simp [total]
  | b :: r, a => by simp only [List.cons_append, total, total_snoc r a]; omega
theorem shape_snoc : ∀ (pre : Segs) (a : List UInt8 × Int), shape (pre ++ [a]) = true → 0 ≤ a.2 ∧ a.2 ≤ (a.1.length : Int)
  | [], a, h => by simpa [shape] using h
  | b :: r, a, h => by
    simp only [List.cons_append, shape, Bool.and_eq_true] at h
    exact shape_snoc r a h.2
theorem okStore_last {l : Segs} {c : Int} (h : okStore l c = true) : ∃ pre a, l = pre ++ [a] ∧ pre.length ≤ 39 ∧ 0 ≤ a.2 ∧ a.2 ≤ (a.1.length : Int) ∧ a.1.length ≤ 60000 ∧ 0 ≤ c ∧ c ≤ 60000 ∧ (total l : Int) ≤ c := by
  unfold okStore at h
  simp only [Bool.and_eq_true, decide_eq_true_eq] at h
  obtain ⟨⟨⟨⟨h1, h2⟩, h3⟩, h4⟩, h5, h6⟩ := h
  have hne : l ≠ [] := by intro e; rw [e] at h3; simp at h3
  refine ⟨l.dropLast, l.getLast hne, (List.dropLast_concat_getLast hne).symm, by simp; omega, ?_⟩
  have e := List.dropLast_concat_getLast hne
  rw [← e] at h5
  have h7 := shape_snoc _ _ h5
  have h8 := total_snoc l.dropLast (l.getLast hne)
  rw [e] at h8
  exact ⟨h7.1, h7.2, by omega, h1, h2, h6⟩

def lastS (l : Segs) : List UInt8 × Int := l.getD (l.length - 1) ([], 0)
theorem lastS_snoc (pre : Segs) (a : List UInt8 × Int) : lastS (pre ++ [a]) = a := by simp [lastS]
/-- The last segment, changed. -/
def updS (l : Segs) (f : List UInt8 × Int → List UInt8 × Int) : Segs := l.take (l.length - 1) ++ [f (lastS l)]
theorem updS_snoc (pre : Segs) (a : List UInt8 × Int) (f : List UInt8 × Int → List UInt8 × Int) : updS (pre ++ [a]) f = pre ++ [f a] := by simp [updS, lastS_snoc]

section
variable (pre : Segs) (a : List UInt8 × Int) (hp : pre.length ≤ 39)
include hp
theorem f1 : decide (((0 : Nat) + (pre ++ [a]).length) * 24 ≤ 140737488355328) = true := by rw [decide_eq_true_eq, List.length_append, List.length_singleton]; omega
theorem f3 : wrap64 (((pre ++ [a]).length : Int) - 1) = (pre.length : Int) := by rw [List.length_append, List.length_singleton, w64 (by omega) (by omega)]; omega
omit hp
theorem f4 : decide ((0 : Int) ≤ (pre.length : Int)) = true := by simp
theorem f5 : decide ((pre.length : Int) < ((pre ++ [a]).length : Int)) = true := by rw [decide_eq_true_eq, List.length_append, List.length_singleton]; omega
theorem f5' : decide ((pre.length : Int) ≤ ((pre ++ [a]).length : Int)) = true := by rw [decide_eq_true_eq, List.length_append, List.length_singleton]; omega
theorem f6 : (pre ++ [a]).getD pre.length ([], 0) = a := getD_mid pre a [] _
theorem f7 (b : List UInt8 × Int) : (pre ++ [a]).set pre.length b = pre ++ [b] := set_mid pre a b []
theorem f8 (b : List UInt8 × Int) : (pre ++ [b]).length = (pre ++ [a]).length := by simp
end

def segsOb (l : Segs) : List Ob := [.arr (.pair .str (.int .i64)) 0 false l]
def stRet (p : Segs × Int) : Option Rs := some (.agg [.ref 0 0, .int .i64 p.2], segsOb p.1)
def stRet2 (p : Segs × Int × Int) : Option Rs := some (.tup [.agg [.ref 0 0, .int .i64 p.2.1], .int .i64 p.2.2], segsOb p.1)

/-! Sync -/
def syncP (l : Segs) (c : Int) : Segs × Int := bif okStore l c then (updS l fun a => (a.1, (a.1.length : Int)), c) else ([], 0)
theorem sSync_val (l : Segs) (c : Int) : (sSync_br l c).val = stRet (syncP l c) := by
  unfold sSync_br syncP
  cases hk : okStore l c with
  | false => rfl
  | true =>
    obtain ⟨pre, a, rfl, hp, h1, h2, h3, h4, h5, h6⟩ := okStore_last hk
    simp only [Bool.not_true, Br.val, f1 pre a hp, f3 pre a hp, f4, f5, Int.toNat_natCast, f6, f7, cond_true, updS_snoc]
    rfl
theorem iSync_val (l : Segs) (c : Int) (hs : smS l = true) : (iSync_br l c).val = stRet (syncP l c) := by
  unfold iSync_br syncP
  cases hk : okStore l c with
  | false => simp only [hs]; rfl
  | true =>
    obtain ⟨pre, a, rfl, hp, h1, h2, h3, h4, h5, h6⟩ := okStore_last hk
    simp only [hs, Bool.not_true, Br.val, f1 pre a hp, f3 pre a hp, f4, f5, Int.toNat_natCast, f6, f7, cond_true, updS_snoc]
    rfl

/-! Crash -/
def crashN (a : List UInt8 × Int) (keep : Int) : Int := bif decide (keep < (a.1.length : Int) - a.2) then (bif decide (0 < keep) then a.2 + keep else a.2) else (a.1.length : Int)
def crashP (l : Segs) (c keep : Int) : Segs × Int := bif okStore l c then (updS l fun a => (cut a.1 0 (crashN a keep), crashN a keep), c) else ([], 0)
theorem crashN_in (a : List UInt8 × Int) (keep : Int) (h1 : 0 ≤ a.2) (h2 : a.2 ≤ (a.1.length : Int)) : 0 ≤ crashN a keep ∧ crashN a keep ≤ (a.1.length : Int) := by
  unfold crashN
  by_cases h3 : keep < (a.1.length : Int) - a.2
  · by_cases h4 : 0 < keep
    · simp only [h3, h4, decide_true, cond_true]; omega
    · simp only [h3, h4, decide_true, decide_false, cond_true, cond_false]; omega
  · simp only [h3, decide_false, cond_false]; omega
theorem sCrash_val (l : Segs) (c keep : Int) : (sCrash_br l c keep).val = stRet (crashP l c keep) := by
  unfold sCrash_br crashP
  cases hk : okStore l c with
  | false => rfl
  | true =>
    obtain ⟨pre, a, rfl, hp, h1, h2, h3, h4, h5, h6⟩ := okStore_last hk
    have hc := crashN_in a keep h1 h2
    have e1 : wrap64 ((a.1.length : Int) - a.2) = (a.1.length : Int) - a.2 := w64 (by omega) (by omega)
    simp only [Bool.not_true, Br.val, f1 pre a hp, f3 pre a hp, f4, f5, Int.toNat_natCast, f6, f7, cond_true, updS_snoc, e1]
    unfold crashN at hc ⊢
    by_cases h7 : keep < (a.1.length : Int) - a.2
    · by_cases h8 : 0 < keep
      · have e2 : wrap64 (a.2 + keep) = a.2 + keep := w64 (by omega) (by omega)
        simp only [h7, h8, decide_true, cond_true, e2] at hc ⊢
        simp only [hc, decide_true]
        rfl
      · simp only [h7, h8, decide_true, decide_false, cond_true, cond_false] at hc ⊢
        simp only [hc, decide_true]
        rfl
    · simp only [h7, decide_false, cond_false] at hc ⊢
      by_cases h8 : 0 < (a.1.length : Int) - a.2
      · have e2 : wrap64 (a.2 + ((a.1.length : Int) - a.2)) = (a.1.length : Int) := by rw [w64 (by omega) (by omega)]; omega
        simp only [h8, e2, hc, decide_true]
        rfl
      · have e2 : a.2 = (a.1.length : Int) := by omega
        simp only [h8, decide_false, decide_true, e2, hc]
        have e3 : decide ((0 : Int) < (a.1.length : Int) - (a.1.length : Int)) = false := by simp
        simp only [e3]
        rfl
theorem iCrash_val (l : Segs) (c keep : Int) (hs : smS l = true) : (iCrash_br l c keep).val = stRet (crashP l c keep) := by
  unfold iCrash_br crashP
  cases hk : okStore l c with
  | false => simp only [hs]; rfl
  | true =>
    obtain ⟨pre, a, rfl, hp, h1, h2, h3, h4, h5, h6⟩ := okStore_last hk
    have hc := crashN_in a keep h1 h2
    have e1 : wrap64 ((a.1.length : Int) - a.2) = (a.1.length : Int) - a.2 := w64 (by omega) (by omega)
    have e2 : wrap64 (a.2 + (if (a.1.length : Int) - a.2 < (if 0 < keep then keep else 0) then (a.1.length : Int) - a.2 else (if 0 < keep then keep else 0))) = crashN a keep := by
      unfold crashN
      by_cases h7 : keep < (a.1.length : Int) - a.2
      · by_cases h8 : 0 < keep
        · have : ¬ (a.1.length : Int) - a.2 < keep := by omega
          simp only [h7, h8, this, if_true, if_false, decide_true, cond_true]
          exact w64 (by omega) (by omega)
        · have : ¬ (a.1.length : Int) - a.2 < 0 := by omega
          simp only [h7, h8, this, if_true, if_false, decide_true, decide_false, cond_true, cond_false]
          rw [w64 (by omega) (by omega)]; omega
      · by_cases h8 : 0 < keep
        · simp only [h7, h8, if_true, decide_true, decide_false, cond_true, cond_false]
          by_cases h9 : (a.1.length : Int) - a.2 < keep
          · simp only [h9, if_true]; rw [w64 (by omega) (by omega)]; omega
          · simp only [h9, if_false]; rw [w64 (by omega) (by omega)]; omega
        · have : ¬ (a.1.length : Int) - a.2 < 0 := by omega
          simp only [h7, h8, this, if_false, decide_true, decide_false, cond_true, cond_false]
          rw [w64 (by omega) (by omega)]; omega
    simp only [hs, Bool.not_true, Br.val, f1 pre a hp, f3 pre a hp, f4, f5, Int.toNat_natCast, f6, f7, cond_true, updS_snoc, e1, e2]
    simp only [hc, decide_true, f4, f5, f6, f7]
    rfl

/-! Cut -/
def cutP (l : Segs) (c n : Int) : Segs × Int × Int := bif okStore l c then (bif decide (n < 0) || decide (((lastS l).1.length : Int) < n) then ([], 0, 3) else bif decide (n = 0) && decide (1 < l.length) then (l.take (l.length - 1), c, 0) else (updS l fun a => (cut a.1 0 n, n), c, 0)) else ([], 0, 1)
theorem cut_pre (pre : Segs) (a : List UInt8 × Int) : cut (pre ++ [a]) 0 (pre.length : Int) = (pre ++ [a]).take ((pre ++ [a]).length - 1) := by simp [cut]
theorem len1 (pre : Segs) (a : List UInt8 × Int) : decide ((0 : Int) < (pre.length : Int)) = decide (1 < (pre ++ [a]).length) := by
  congr 1; apply propext; rw [List.length_append, List.length_singleton]; omega
theorem len2 (pre : Segs) (a : List UInt8 × Int) : decide ((1 : Int) < ((pre ++ [a]).length : Int)) = decide (1 < (pre ++ [a]).length) := by
  congr 1; apply propext; omega
theorem sCut_val (l : Segs) (c n : Int) : (sCut_br l c n).val = stRet2 (cutP l c n) := by
  unfold sCut_br cutP
  cases hk : okStore l c with
  | false => rfl
  | true =>
    obtain ⟨pre, a, rfl, hp, h1, h2, h3, h4, h5, h6⟩ := okStore_last hk
    simp only [Bool.not_true, Br.val, f1 pre a hp, f3 pre a hp, f4, f5, f5', Int.toNat_natCast, f6, f7, cond_true, updS_snoc, lastS_snoc, cut_pre, len1 pre a]
    by_cases h7 : n < 0
    · simp only [h7, decide_true, Bool.true_or, cond_true]; rfl
    · by_cases h8 : (a.1.length : Int) < n
      · simp only [h7, h8, decide_true, decide_false, Bool.or_true, cond_true]; rfl
      · have g1 : 0 ≤ n := by omega
        have g2 : n ≤ (a.1.length : Int) := by omega
        simp only [h7, h8, g1, g2, decide_true, decide_false, Bool.or_false, cond_false]
        cases hn : decide (n = 0) with
        | false => rfl
        | true =>
          simp only [Bool.true_and]
          cases decide (1 < (pre ++ [a]).length) <;> rfl
theorem iCut_val (l : Segs) (c n : Int) (hs : smS l = true) : (iCut_br l c n).val = stRet2 (cutP l c n) := by
  unfold iCut_br cutP
  cases hk : okStore l c with
  | false => simp only [hs]; rfl
  | true =>
    obtain ⟨pre, a, rfl, hp, h1, h2, h3, h4, h5, h6⟩ := okStore_last hk
    simp only [hs, Bool.not_true, Br.val, f1 pre a hp, f3 pre a hp, f4, f5, f5', Int.toNat_natCast, f6, f7, cond_true, updS_snoc, lastS_snoc, cut_pre, len2 pre a]
    by_cases h7 : n < 0
    · have g1 : ¬ 0 ≤ n := by omega
      simp only [h7, g1, decide_true, decide_false, Bool.true_or, cond_true]; rfl
    · have g1 : 0 ≤ n := by omega
      by_cases h8 : (a.1.length : Int) < n
      · have g2 : ¬ n ≤ (a.1.length : Int) := by omega
        simp only [h7, h8, g1, g2, decide_true, decide_false, Bool.or_true, cond_true, Bool.not_false]; rfl
      · have g2 : n ≤ (a.1.length : Int) := by omega
        simp only [h7, h8, g1, g2, decide_true, decide_false, Bool.or_false, cond_false, Bool.not_true]
        cases hn : decide (n = 0) with
        | false => rfl
        | true =>
          simp only [Bool.true_and]
          cases decide (1 < (pre ++ [a]).length) <;> rfl

/-! Roll -/
def rollP (l : Segs) (c : Int) : Segs × Int × Int := bif okStore l c then (bif decide ((lastS l).1 = []) then ([], 0, 3) else bif decide ((l.length : Int) = 40) then ([], 0, 2) else ((updS l fun a => (a.1, (a.1.length : Int))) ++ [([], 0)], c, 0)) else ([], 0, 1)
theorem nil_len (d : List UInt8) : decide ((d.length : Int) = 0) = decide (d = []) := by
  congr 1; apply propext
  exact ⟨fun h => List.length_eq_zero_iff.1 (by omega), fun h => by rw [h]; rfl⟩
theorem f9 (pre : Segs) (hp : pre.length ≤ 39) (b : List UInt8 × Int) : decide (((pre ++ [b]).length + 1) * 24 ≤ 140737488355328) = true := by rw [decide_eq_true_eq, List.length_append, List.length_singleton]; omega
theorem sRoll_val (l : Segs) (c : Int) : (sRoll_br l c).val = stRet2 (rollP l c) := by
  unfold sRoll_br rollP
  cases hk : okStore l c with
  | false => rfl
  | true =>
    obtain ⟨pre, a, rfl, hp, h1, h2, h3, h4, h5, h6⟩ := okStore_last hk
    simp only [Bool.not_true, Br.val, f1 pre a hp, f3 pre a hp, f4, f5, f5', Int.toNat_natCast, f6, f7, cond_true, updS_snoc, lastS_snoc, nil_len, f9 pre hp]
    cases decide (a.1 = []) <;> cases decide (((pre ++ [a]).length : Int) = 40) <;> rfl
theorem iRoll_val (l : Segs) (c : Int) (hs : smS l = true) : (iRoll_br l c).val = stRet2 (rollP l c) := by
  unfold iRoll_br rollP
  cases hk : okStore l c with
  | false => simp only [hs]; rfl
  | true =>
    obtain ⟨pre, a, rfl, hp, h1, h2, h3, h4, h5, h6⟩ := okStore_last hk
    simp only [hs, Bool.not_true, Br.val, f1 pre a hp, f3 pre a hp, f4, f5, f5', Int.toNat_natCast, f6, f7, cond_true, updS_snoc, lastS_snoc, nil_len, f9 pre hp]
    cases decide (a.1 = []) <;> cases decide (((pre ++ [a]).length : Int) = 40) <;> rfl

/-! Append -/
def appendP (l : Segs) (c : Int) (b : List UInt8) : Segs × Int × Int := bif okStore l c then (bif decide (c - (total l : Int) < (b.length : Int)) then ([], 0, 2) else (updS l fun a => (a.1 ++ b, a.2), c, 0)) else ([], 0, 1)
theorem iAppend_val (l : Segs) (c : Int) (b : List UInt8) (hs : smS l = true) : (iAppend_br l c b).val = stRet2 (appendP l c b) := by
  unfold iAppend_br appendP
  cases hk : okStore l c with
  | false => simp only [hs]; rfl
  | true =>
    obtain ⟨pre, a, rfl, hp, h1, h2, h3, h4, h5, h6⟩ := okStore_last hk
    have g1 : (decide ((pre ++ [a]).length ≤ 281474976710656) && decide (total (pre ++ [a]) ≤ 4611686018427387904)) = true := by
      rw [Bool.and_eq_true, decide_eq_true_eq, decide_eq_true_eq, List.length_append, List.length_singleton]; omega
    have g2 : wrap64 (c - ((total (pre ++ [a]) : Nat) : Int)) = c - (total (pre ++ [a]) : Int) := w64 (by omega) (by omega)
    simp only [hs, g1, g2, Bool.not_true, Br.val, f1 pre a hp, f3 pre a hp, f4, f5, f5', Int.toNat_natCast, f6, f7, cond_true, updS_snoc, lastS_snoc]
    by_cases h7 : c - (total (pre ++ [a]) : Int) < (b.length : Int)
    · simp only [h7, decide_true, cond_true]; rfl
    · have g3 : decide (((a.1.length + b.length : Nat) : Int) ≤ 9223372036854775807) = true := by rw [decide_eq_true_eq]; omega
      simp only [h7, g3, decide_false, cond_false]; rfl

/-! spec.AllBytes -/
def allB : Segs → List UInt8
  | [] => []
  | a :: r => a.1 ++ allB r
theorem allB_len : ∀ (l : Segs), (allB l).length = total l
  | [] => rfl
  | a :: r => by simp [allB, total, allB_len r]
theorem ofBytes_bytesOf (s : List UInt8) : ofBytes (bytesOf s) = s := by
  induction s with
  | nil => rfl
  | cons a s ih =>
    simp only [bytesOf, ofBytes, List.map_cons, Int.toNat_natCast] at ih ⊢
    rw [ih]; simp
theorem sAll_loop (c : Int) (l : Segs) (hl : l.length ≤ 40) (k : List Int → Option Rs) (r : Segs) : ∀ (pre : Segs) (n : Nat) (acc : List UInt8), r.length < n → pre ++ r = l → acc.length + total r ≤ 60000 →
    sAll_F5 n (pre.length : Int) l c (bytesOf acc) k = k (bytesOf (acc ++ allB r)) := by
  induction r with
  | nil =>
    intro pre n acc hn hp ht
    obtain ⟨n, rfl⟩ : ∃ m, n = m + 1 := ⟨n - 1, by simp at hn; omega⟩
    have e1 : decide ((pre.length : Int) < (l.length : Int)) = false := by rw [← hp]; simp
    unfold sAll_F5 sAll_T5
    simp only [e1, cond_false, allB, List.append_nil]
  | cons a r ihr =>
    intro pre n acc hn hp ht
    obtain ⟨n, rfl⟩ : ∃ m, n = m + 1 := ⟨n - 1, by omega⟩
    have hlen : l.length = pre.length + r.length + 1 := by rw [← hp]; simp; omega
    have e1 : decide ((pre.length : Int) < (l.length : Int)) = true := by rw [hlen]; simp; omega
    have e2 : decide ((0 : Int) ≤ (pre.length : Int)) = true := by simp
    have e4 : l.getD pre.length ([], 0) = a := by rw [← hp]; exact getD_mid ..
    simp only [total] at ht
    have e5 : decide (((bytesOf acc).length + (bytesOf a.1).length) * 1 ≤ 140737488355328) = true := by rw [decide_eq_true_eq]; simp only [bytesOf, List.length_map]; omega
    have ih := ihr (pre ++ [a]) n (acc ++ a.1) (by simp at hn; omega) (by rw [← cat_one]; exact hp) (by rw [List.length_append]; omega)
    unfold sAll_F5 sAll_T5
    simp only [e1, e2, e4, e5, cond_true, Int.toNat_natCast]
    rw [next_len pre a (by omega), show bytesOf acc ++ bytesOf a.1 = bytesOf (acc ++ a.1) by simp [bytesOf], ih]
    simp only [allB, List.append_assoc]
def sAll_br (l : Segs) (c : Int) : Br := .ret (.str (bif okStore l c then allB l else [])) []
def sAll_s := sAll_sOf sAll_br
theorem sAll_ok : Sound Kx 52 sAll_s := by
  refine sAll_okOf (fun l _ => l.length + 1) fun l c r h => ?_
  cases h
  unfold sAll_run
  cases hk : okStore l c with
  | false => rfl
  | true =>
    unfold okStore at hk
    simp only [Bool.and_eq_true, decide_eq_true_eq] at hk
    refine (sAll_loop c l hk.1.2 (fun x => some (.str (ofBytes x), [])) l [] (l.length + 1) [] (by omega) rfl (by simp only [List.length_nil]; omega)).trans ?_
    simp only [ofBytes_bytesOf, List.nil_append, cond_true]

/-! The short specs. -/
def retP (p : Segs × Int) : Br := .ret (.agg [.ref 0 0, .int .i64 p.2]) (segsOb p.1)
def retP2 (p : Segs × Int × Int) : Br := .ret (.tup [.agg [.ref 0 0, .int .i64 p.2.1], .int .i64 p.2.2]) (segsOb p.1)
def syncQ_s : List AV → List Ob → Br
  | [.agg [.sh (.pair .str (.int .i64)) l, .int .i64 c]], [] => .ite (smS l) (retP (syncP l c)) .fail
  | _, _ => .fail
def crashQ_s : List AV → List Ob → Br
  | [.agg [.sh (.pair .str (.int .i64)) l, .int .i64 c], .int .i64 k], [] => .ite (smS l) (retP (crashP l c k)) .fail
  | _, _ => .fail
def cutQ_s : List AV → List Ob → Br
  | [.agg [.sh (.pair .str (.int .i64)) l, .int .i64 c], .int .i64 k], [] => .ite (smS l) (retP2 (cutP l c k)) .fail
  | _, _ => .fail
def rollQ_s : List AV → List Ob → Br
  | [.agg [.sh (.pair .str (.int .i64)) l, .int .i64 c]], [] => .ite (smS l) (retP2 (rollP l c)) .fail
  | _, _ => .fail
def appendQ_s : List AV → List Ob → Br
  | [.agg [.sh (.pair .str (.int .i64)) l, .int .i64 c], .str b], [] => .ite (smS l) (retP2 (appendP l c b)) .fail
  | _, _ => .fail
theorem ite_some {b : Bool} {x : Br} {r : AV × List Ob} (h : (Br.ite b x .fail).val = some r) : b = true ∧ x.val = some r := by
  cases b with
  | true => exact ⟨rfl, h⟩
  | false => cases h
theorem sSync_okQ : Sound Kx 24 syncQ_s := sSync_ok.of fun args objs r h => by
  unfold syncQ_s at h
  split at h
  · exact (sSync_val _ _).trans (ite_some h).2
  · cases h
theorem iSync_okQ : Sound Kx 26 syncQ_s := iSync_ok.of fun args objs r h => by
  unfold syncQ_s at h
  split at h
  · exact (iSync_val _ _ (ite_some h).1).trans (ite_some h).2
  · cases h
theorem sCrash_okQ : Sound Kx 30 crashQ_s := sCrash_ok.of fun args objs r h => by
  unfold crashQ_s at h
  split at h
  · exact (sCrash_val _ _ _).trans (ite_some h).2
  · cases h
theorem iCrash_okQ : Sound Kx 31 crashQ_s := iCrash_ok.of fun args objs r h => by
  unfold crashQ_s at h
  split at h
  · exact (iCrash_val _ _ _ (ite_some h).1).trans (ite_some h).2
  · cases h
theorem sCut_okQ : Sound Kx 32 cutQ_s := sCut_ok.of fun args objs r h => by
  unfold cutQ_s at h
  split at h
  · exact (sCut_val _ _ _).trans (ite_some h).2
  · cases h
theorem iCut_okQ : Sound Kx 33 cutQ_s := iCut_ok.of fun args objs r h => by
  unfold cutQ_s at h
  split at h
  · exact (iCut_val _ _ _ (ite_some h).1).trans (ite_some h).2
  · cases h
theorem sRoll_okQ : Sound Kx 36 rollQ_s := sRoll_ok.of fun args objs r h => by
  unfold rollQ_s at h
  split at h
  · exact (sRoll_val _ _).trans (ite_some h).2
  · cases h
theorem iRoll_okQ : Sound Kx 37 rollQ_s := iRoll_ok.of fun args objs r h => by
  unfold rollQ_s at h
  split at h
  · exact (iRoll_val _ _ (ite_some h).1).trans (ite_some h).2
  · cases h
theorem iAppend_okQ : Sound Kx 35 appendQ_s := iAppend_ok.of fun args objs r h => by
  unfold appendQ_s at h
  split at h
  · exact (iAppend_val _ _ _ (ite_some h).1).trans (ite_some h).2
  · cases h

end Go.Proofs.Ythdiildelpmknaa.Ev
