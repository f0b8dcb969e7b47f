/- The law FnCuts holds. -/
import Derived.Test.YthdiildelpmknaaFnD
import Derived.Test.YthdiildelpmknaaFnM
namespace Go.Proofs.Ythdiildelpmknaa.Ev
open Go Go.RowKit
set_option linter.unusedVariables false
set_option linter.unusedSimpArgs false

theorem len_all (pre : Segs) (d : List UInt8) : ((allB pre ++ d).length : Int) = (total pre : Int) + d.length := by
  rw [List.length_append, allB_len]; push_cast; rfl
theorem dec_eq {α : Type} [DecidableEq α] {x y : α} (h : x = y) : decide (x = y) = true := decide_eq_true h

theorem lCuts_val (code : List Int) (h : code.length ≤ 281474976710656) : (lCuts_br code).val = some (.bool true, []) := by
  have hs := good_smS (rL_good h)
  unfold lCuts_br
  generalize rL code = l at *
  generalize rC code = c at *
  generalize kCut code = k at *
  by_cases h0 : (cutP l c k).2.2 = 0
  · obtain ⟨pre, a, q, d, rfl, hi, hx, hA, k0, k1, hd, hall⟩ := cut_ok h0
    have q1 := hi.len
    have q2 := hi.tot
    have q3 := hi.hc
    have e1 := hx.sm
    have e2 := hx.all
    have e3 := hx.loose
    have e4 := hx.used
    have hlen : (total q : Int) + d.1.length = (total pre : Int) + k := by
      have := congrArg List.length hall
      rw [List.length_append, List.length_append, allB_len, allB_len, List.length_take] at this
      omega
    have g1 : prefixB (allB q ++ d.1) (allB pre ++ a.1) = true := by
      have hl1 := len_all q d.1
      have hl2 := len_all pre a.1
      unfold prefixB
      rw [Bool.and_eq_true, decide_eq_true_eq, decide_eq_true_eq, cut_take]
      refine ⟨by omega, ?_⟩
      rw [Int.toNat_natCast, hall, List.take_append]
      have w1 : (allB pre ++ a.1.take k.toNat).length = (allB pre).length + k.toNat := by
        rw [List.length_append, List.length_take]; omega
      rw [w1, List.take_of_length_le (by omega)]
      congr 1
      congr 1
      omega
    have g2 : decide ((total q : Int) + (d.1.length : Int) = wrap64 ((total pre : Int) + (a.1.length : Int) - wrap64 ((a.1.length : Int) - k))) = true := by
      refine dec_eq ?_
      rw [w64 (n := (a.1.length : Int) - k) (by omega) (by omega), w64 (by omega) (by omega)]; omega
    have g3 : decide ((d.1.length : Int) - d.2 = 0) = true := dec_eq (by omega)
    simp only [hA, h, hs, f3 pre a hi.hp, f4, f5, Int.toNat_natCast, f6, e1, e2, e3, e4, hi.all, hi.used, g1, g2, g3, Br.val, decide_true, eq_self, Bool.not_true]
  · have hA := cut_code h0
    simp only [hA, h, hs, h0, Br.val, decide_true, decide_false, eq_self, Bool.not_true, Bool.not_false, List.length_nil]
    rfl

theorem code_small {x : List Int} (h : Good (.slice (.int .u8)) x) : x.length ≤ 281474976710656 := by
  have e : reachBytes = 140737488351232 := rfl
  have := h.1
  rw [e] at this
  omega
theorem fnCuts_true (xs : List AV) (h : Args [(.slice (.int .u8), false)] xs) : (lCuts_s xs []).val = some (.bool true, []) := by
  obtain ⟨x, a', hg, rfl, rfl⟩ := h
  exact lCuts_val x (code_small hg)

end Go.Proofs.Ythdiildelpmknaa.Ev
