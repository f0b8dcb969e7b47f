/- The laws of the store: each holds. -/
import Derived.Test.YthdiildelpmknaaStoreL
namespace Go.Proofs.Ythdiildelpmknaa.Ev
open Go Go.RowKit
set_option linter.unusedVariables false
set_option linter.unusedSimpArgs false

theorem lSync_val (l : Segs) (c : Int) (h : Good (.pair (.slice (.pair .str (.int .i64))) (.int .i64)) (l, c)) : (lSync_br l c).val = some (.bool true, []) := by
  obtain ⟨h1, h2⟩ := smS_of h
  unfold lSync_br
  have e1 : decide (l.length ≤ 281474976710656) = true := small (m := 0) (by omega)
  have e2 : decide ((syncP l c).1.length ≤ 281474976710656) = true := small (m := 0) (Nat.le_trans (syncP_len l c) (by omega))
  by_cases h3 : szOf l 1048576 < 0
  · simp only [Br.val, h1, h3, decide_true, Bool.and_self]
  · have h4 := szOf_len h3
    have e3 : decide (l.length ≤ 1048576) = true := by rw [decide_eq_true_eq]; omega
    simp only [Br.val, h1, h3, e1, e2, e3, marks_len, t1, t2, t3, decide_true, decide_false, Bool.not_true, Bool.not_false, Bool.and_self, Bool.and_true, Bool.true_and]

theorem lCrash_val (l : Segs) (c : Int) (k : Int) (h : Good (.pair (.slice (.pair .str (.int .i64))) (.int .i64)) (l, c)) : (lCrash_br l c k).val = some (.bool true, []) := by
  obtain ⟨h1, h2⟩ := smS_of h
  unfold lCrash_br
  have e1 : decide (l.length ≤ 281474976710656) = true := small (m := 0) (by omega)
  have e2 : decide ((crashP l c k).1.length ≤ 281474976710656) = true := small (m := 0) (Nat.le_trans (crashP_len l c k) (by omega))
  by_cases h3 : szOf l 1048576 < 0
  · simp only [Br.val, h1, h3, decide_true, Bool.and_self]
  · have h4 := szOf_len h3
    have e3 : decide (l.length ≤ 1048576) = true := by rw [decide_eq_true_eq]; omega
    simp only [Br.val, h1, h3, e1, e2, e3, marks_len, t1, t2, t3, decide_true, decide_false, Bool.not_true, Bool.not_false, Bool.and_self, Bool.and_true, Bool.true_and]

theorem lCut_val (l : Segs) (c : Int) (k : Int) (h : Good (.pair (.slice (.pair .str (.int .i64))) (.int .i64)) (l, c)) : (lCut_br l c k).val = some (.bool true, []) := by
  obtain ⟨h1, h2⟩ := smS_of h
  unfold lCut_br
  have e1 : decide (l.length ≤ 281474976710656) = true := small (m := 0) (by omega)
  have e2 : decide ((cutP l c k).1.length ≤ 281474976710656) = true := small (m := 0) (Nat.le_trans (cutP_len l c k) (by omega))
  by_cases h3 : szOf l 1048576 < 0
  · simp only [Br.val, h1, h3, decide_true, Bool.and_self]
  · have h4 := szOf_len h3
    have e3 : decide (l.length ≤ 1048576) = true := by rw [decide_eq_true_eq]; omega
    simp only [Br.val, h1, h3, e1, e2, e3, marks_len, t1, t2, t3, decide_true, decide_false, Bool.not_true, Bool.not_false, Bool.and_self, Bool.and_true, Bool.true_and]

theorem lAppend_val (l : Segs) (c : Int) (b : List UInt8) (h : Good (.pair (.slice (.pair .str (.int .i64))) (.int .i64)) (l, c)) : (lAppend_br l c b).val = some (.bool true, []) := by
  obtain ⟨h1, h2⟩ := smS_of h
  unfold lAppend_br
  have e1 : decide (l.length ≤ 281474976710656) = true := small (m := 0) (by omega)
  have e2 : decide ((appendP l c b).1.length ≤ 281474976710656) = true := small (m := 0) (Nat.le_trans (appendP_len l c b) (by omega))
  cases e4 : decide ((1048576 : Int) < (b.length : Int))
  rotate_left
  · rfl
  by_cases h3 : szOf l 1048576 < 0
  · simp only [Br.val, h1, h3, decide_true, Bool.and_self, e4]
  · have h4 := szOf_len h3
    have e3 : decide (l.length ≤ 1048576) = true := by rw [decide_eq_true_eq]; omega
    simp only [Br.val, h1, h3, e1, e2, e3, marks_len, t1, t2, t3, decide_true, decide_false, Bool.not_true, Bool.not_false, Bool.and_self, Bool.and_true, Bool.true_and, e4]

theorem lRoll_val (l : Segs) (c : Int) (h : Good (.pair (.slice (.pair .str (.int .i64))) (.int .i64)) (l, c)) : (lRoll_br l c).val = some (.bool true, []) := by
  obtain ⟨h1, h2⟩ := smS_of h
  unfold lRoll_br
  have e1 : decide (l.length ≤ 281474976710656) = true := small (m := 0) (by omega)
  have e2 : decide ((rollP l c).1.length ≤ 281474976710656) = true := small (m := 0) (Nat.le_trans (rollP_len l c) (by omega))
  by_cases h3 : szOf l 1048576 < 0
  · simp only [Br.val, h1, h3, decide_true, Bool.and_self]
  · have h4 := szOf_len h3
    have e3 : decide (l.length ≤ 1048576) = true := by rw [decide_eq_true_eq]; omega
    simp only [Br.val, h1, h3, e1, e2, e3, marks_len, t1, t2, t3, decide_true, decide_false, Bool.not_true, Bool.not_false, Bool.and_self, Bool.and_true, Bool.true_and]

theorem fnExactSync_true (xs : List AV) (h : Args [(.pair (.slice (.pair .str (.int .i64))) (.int .i64), true)] xs) : (lSync_s xs []).val = some (.bool true, []) := by
  obtain ⟨⟨l, c⟩, a', hg, rfl, h'⟩ := h
  obtain rfl := h'
  exact lSync_val l c hg

theorem fnExactRoll_true (xs : List AV) (h : Args [(.pair (.slice (.pair .str (.int .i64))) (.int .i64), true)] xs) : (lRoll_s xs []).val = some (.bool true, []) := by
  obtain ⟨⟨l, c⟩, a', hg, rfl, h'⟩ := h
  obtain rfl := h'
  exact lRoll_val l c hg

theorem fnExactCrash_true (xs : List AV) (h : Args [(.pair (.slice (.pair .str (.int .i64))) (.int .i64), true), (.int .i64, false)] xs) : (lCrash_s xs []).val = some (.bool true, []) := by
  obtain ⟨⟨l, c⟩, a', hg, rfl, h'⟩ := h
  obtain ⟨x, a'', _, rfl, rfl⟩ := h'
  exact lCrash_val l c x hg

theorem fnExactCut_true (xs : List AV) (h : Args [(.pair (.slice (.pair .str (.int .i64))) (.int .i64), true), (.int .i64, false)] xs) : (lCut_s xs []).val = some (.bool true, []) := by
  obtain ⟨⟨l, c⟩, a', hg, rfl, h'⟩ := h
  obtain ⟨x, a'', _, rfl, rfl⟩ := h'
  exact lCut_val l c x hg

theorem fnExactAppend_true (xs : List AV) (h : Args [(.pair (.slice (.pair .str (.int .i64))) (.int .i64), true), (.str, false)] xs) : (lAppend_s xs []).val = some (.bool true, []) := by
  obtain ⟨⟨l, c⟩, a', hg, rfl, h'⟩ := h
  obtain ⟨x, a'', _, rfl, rfl⟩ := h'
  exact lAppend_val l c x hg

end Go.Proofs.Ythdiildelpmknaa.Ev
