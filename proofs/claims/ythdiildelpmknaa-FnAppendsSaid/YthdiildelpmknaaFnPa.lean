/- The law FnAppends holds. -/
import Derived.Test.YthdiildelpmknaaFnA2
import Derived.Test.YthdiildelpmknaaFnM
namespace Go.Proofs.Ythdiildelpmknaa.Ev
open Go Go.RowKit
set_option linter.unusedVariables false
set_option linter.unusedSimpArgs false

theorem len_all (pre : Segs) (d : List UInt8) : ((allB pre ++ d).length : Int) = (total pre : Int) + d.length := by
  rw [List.length_append, allB_len]; push_cast; rfl
theorem dec_eq {α : Type} [DecidableEq α] {x y : α} (h : x = y) : decide (x = y) = true := decide_eq_true h

theorem lAppends_val (code : List Int) (h : code.length ≤ 281474976710656) : (lAppends_br F0 code).val = some (.bool true, []) := by
  have hs := good_smS (rL_good h)
  have hb := aB_len code
  unfold lAppends_br
  dsimp only [F0]
  by_cases h0 : (appendP (rL code) (rC code) (aB code)).2.2 = 0
  · obtain ⟨pre, a, hl, hi, hx, hA⟩ := append_ok h0
    rw [hl] at hA hs
    have q1 := hi.len
    have q2 := hi.tot
    have q3 := hi.hc
    have q4 := hi.h1
    have q5 := hi.h2
    have q6 := hx.tot
    have g1 : decide ((((allB pre ++ a.1).length + (aB code).length : Nat) : Int) ≤ 9223372036854775807) = true := by
      rw [decide_eq_true_eq]; push_cast; rw [len_all]; omega
    have g2 : decide (allB pre ++ (a.1 ++ (aB code)) = allB pre ++ a.1 ++ (aB code)) = true := dec_eq (by rw [List.append_assoc])
    have g3 : decide (((a.1 ++ (aB code)).length : Int) - a.2 = wrap64 ((a.1.length : Int) - a.2 + ((aB code).length : Int))) = true := by
      refine dec_eq ?_
      rw [w64 (by omega) (by omega), List.length_append]; push_cast; omega
    have g4 : decide ((total pre : Int) + ((a.1 ++ (aB code)).length : Int) ≤ (rC code)) = true := by rw [decide_eq_true_eq]; exact q6
    have e1 := hx.sm
    have e2 := hx.all
    have e3 := hx.loose
    have e4 := hx.used
    have e5 := hx.ok
    have e6 := (append_read hx).1
    have e7 := (append_read hx).2
    simp only [hl, hA, h, hs, f3 pre a hi.hp, f4, f5, Int.toNat_natCast, f6, e1, e2, e3, e4, e5, e6, e7, hi.all, hi.loose, g1, g2, g3, g4, Br.val, decide_true, eq_self, Bool.not_true]
  · have hA := append_code h0
    simp only [hA, h, hs, h0, Br.val, decide_true, decide_false, eq_self, Bool.not_true, Bool.not_false, List.length_nil]
    rfl

theorem code_small {x : List Int} (h : Good (.slice (.int .u8)) x) : x.length ≤ 281474976710656 := by
  have e : reachBytes = 140737488351232 := rfl
  have := h.1
  rw [e] at this
  omega
def lAppends_s : List AV → List Ob → Br
  | [.sh (.int .u8) code], [] => .ite (decide (code.length ≤ 281474976710656)) (.ret (.bool true) []) .fail
  | _, _ => .fail
theorem lAppends_ok : Sound Kx 11 lAppends_s := by
  refine sound_run (C := lAppends_C F0) (O := lAppends_O) KOk lAppends_C_ok Try.func11 (by kernel_rfl) fun args objs res os h => ?_
  unfold lAppends_s at h
  split at h
  · obtain ⟨h1, h2⟩ := ite_some h
    refine ⟨1, (lAppends_run F0 _).trans ?_⟩
    rw [← h2]
    exact lAppends_val _ (of_decide_eq_true h1)
  · cases h
theorem fnAppends_true (xs : List AV) (h : Args [(.slice (.int .u8), false)] xs) : (lAppends_s xs []).val = some (.bool true, []) := by
  obtain ⟨x, a', hg, rfl, rfl⟩ := h
  show (Br.ite (decide (x.length ≤ 281474976710656)) (.ret (.bool true) []) .fail).val = _
  rw [decide_eq_true (code_small hg)]
  rfl

end Go.Proofs.Ythdiildelpmknaa.Ev
