/- The law FnCrashes holds. -/
import Derived.Test.YtmigffdeghfbhaaFnQ
namespace Go.Proofs.Ytmigffdeghfbhaa.Ev
open Go Go.RowKit
set_option linter.unusedVariables false
set_option linter.unusedSimpArgs false

theorem len_all (pre : Segs) (d : List UInt8) : ((allB pre ++ d).length : Int) = (total pre : Int) + d.length := by
  rw [List.length_append, allB_len]; push_cast; rfl
theorem dec_eq {α : Type} [DecidableEq α] {x y : α} (h : x = y) : decide (x = y) = true := decide_eq_true h

theorem prefix_cut (x d : List UInt8) (n : Int) (h0 : 0 ≤ n) (h1 : n ≤ (d.length : Int)) : prefixB (x ++ cut d 0 n) (x ++ d) = true := by
  unfold prefixB
  rw [Bool.and_eq_true, decide_eq_true_eq, decide_eq_true_eq, cut_take, cut_take]
  have w1 : (x ++ d.take n.toNat).length = x.length + n.toNat := by
    rw [List.length_append, List.length_take]; omega
  refine ⟨?_, ?_⟩
  · rw [w1, List.length_append]; omega
  · rw [w1, Int.toNat_natCast, List.take_append, List.take_of_length_le (by omega)]
    congr 2
    omega
theorem val_t {b : Bool} {x y : Br} (h : b = true) : (Br.ite b x y).val = x.val := by rw [h]; rfl
theorem val_f {b : Bool} {x y : Br} (h : b = false) : (Br.ite b x y).val = y.val := by rw [h]; rfl
/-- The tree, over any plain functions: where each test is known, the answer is yes. -/
theorem crash_bad_tree (F : Fs) (code : List Int) (h' : code.length ≤ 281474976710656) (hs : Fs.fsm F (Fs.fdl F code) = true)
    (f1 : Fs.fok F (Fs.fdl F code) (Fs.fdc F code) = false) (f2 : ((Fs.fcr F (Fs.fdl F code) (Fs.fdc F code) (Fs.fkc F code)).1.length : Int) = 0) : (lCrashes_br F code).val = some (.bool true, []) := by
  have h'' := decide_eq_true h'
  have f1' : (!Fs.fok F (Fs.fdl F code) (Fs.fdc F code)) = true := by rw [f1]; rfl
  have f2' := decide_eq_true f2
  unfold lCrashes_br
  exact Eq.trans (val_t h'') (Eq.trans (val_t hs) (Eq.trans (val_t f1') (Eq.trans (val_t f2') rfl)))
theorem crash_tree (F : Fs) (code : List Int) (h' : code.length ≤ 281474976710656) (hs : Fs.fsm F (Fs.fdl F code) = true)
    (f1 : Fs.fok F (Fs.fdl F code) (Fs.fdc F code) = true)
    (f2 : Fs.fsm F (Fs.fcr F (Fs.fdl F code) (Fs.fdc F code) (Fs.fkc F code)).1 = true)
    (f3 : Fs.fpf F (Fs.fal F (Fs.fcr F (Fs.fdl F code) (Fs.fdc F code) (Fs.fkc F code)).1 (Fs.fcr F (Fs.fdl F code) (Fs.fdc F code) (Fs.fkc F code)).2) (Fs.fal F (Fs.fdl F code) (Fs.fdc F code)) = true)
    (f4 : Fs.flo F (Fs.fcr F (Fs.fdl F code) (Fs.fdc F code) (Fs.fkc F code)).1 (Fs.fcr F (Fs.fdl F code) (Fs.fdc F code) (Fs.fkc F code)).2 = 0)
    (f5 : (Fs.fcr F (Fs.fcr F (Fs.fdl F code) (Fs.fdc F code) (Fs.fkc F code)).1 (Fs.fcr F (Fs.fdl F code) (Fs.fdc F code) (Fs.fkc F code)).2 (Fs.fat F code 2)).1.length ≤ 281474976710656)
    (f6 : Fs.fcr F (Fs.fcr F (Fs.fdl F code) (Fs.fdc F code) (Fs.fkc F code)).1 (Fs.fcr F (Fs.fdl F code) (Fs.fdc F code) (Fs.fkc F code)).2 (Fs.fat F code 2) = (Fs.fcr F (Fs.fdl F code) (Fs.fdc F code) (Fs.fkc F code)))
    (f7 : Fs.fsm F (Fs.fsy F (Fs.fdl F code) (Fs.fdc F code)).1 = true)
    (f8 : Fs.fsm F (Fs.fcr F (Fs.fsy F (Fs.fdl F code) (Fs.fdc F code)).1 (Fs.fsy F (Fs.fdl F code) (Fs.fdc F code)).2 (-1)).1 = true)
    (f9 : Fs.fal F (Fs.fcr F (Fs.fsy F (Fs.fdl F code) (Fs.fdc F code)).1 (Fs.fsy F (Fs.fdl F code) (Fs.fdc F code)).2 (-1)).1 (Fs.fcr F (Fs.fsy F (Fs.fdl F code) (Fs.fdc F code)).1 (Fs.fsy F (Fs.fdl F code) (Fs.fdc F code)).2 (-1)).2 = (Fs.fal F (Fs.fdl F code) (Fs.fdc F code)))
    (hg : (0 < Fs.fkc F code ∧ Fs.fkc F code < Fs.flo F (Fs.fdl F code) (Fs.fdc F code) ∧ ((Fs.fal F (Fs.fcr F (Fs.fdl F code) (Fs.fdc F code) (Fs.fkc F code)).1 (Fs.fcr F (Fs.fdl F code) (Fs.fdc F code) (Fs.fkc F code)).2).length : Int) = wrap64 (wrap64 (((Fs.fal F (Fs.fdl F code) (Fs.fdc F code)).length : Int) - Fs.flo F (Fs.fdl F code) (Fs.fdc F code)) + Fs.fkc F code)) ∨
      (0 < Fs.fkc F code ∧ ¬ Fs.fkc F code < Fs.flo F (Fs.fdl F code) (Fs.fdc F code) ∧ ((Fs.fal F (Fs.fcr F (Fs.fdl F code) (Fs.fdc F code) (Fs.fkc F code)).1 (Fs.fcr F (Fs.fdl F code) (Fs.fdc F code) (Fs.fkc F code)).2).length : Int) = ((Fs.fal F (Fs.fdl F code) (Fs.fdc F code)).length : Int)) ∨
      (¬ 0 < Fs.fkc F code ∧ ((Fs.fal F (Fs.fcr F (Fs.fdl F code) (Fs.fdc F code) (Fs.fkc F code)).1 (Fs.fcr F (Fs.fdl F code) (Fs.fdc F code) (Fs.fkc F code)).2).length : Int) = wrap64 (((Fs.fal F (Fs.fdl F code) (Fs.fdc F code)).length : Int) - Fs.flo F (Fs.fdl F code) (Fs.fdc F code)))) : (lCrashes_br F code).val = some (.bool true, []) := by
  replace h' := decide_eq_true h'
  have f1' : (!Fs.fok F (Fs.fdl F code) (Fs.fdc F code)) = false := by rw [f1]; rfl
  replace f4 := decide_eq_true f4
  replace f5 := decide_eq_true f5
  have f6a := decide_eq_true (congrArg Prod.snd f6)
  have f6b := decide_eq_true (congrArg Prod.fst f6)
  have f6' : (decide ((Fs.fcr F (Fs.fcr F (Fs.fdl F code) (Fs.fdc F code) (Fs.fkc F code)).1 (Fs.fcr F (Fs.fdl F code) (Fs.fdc F code) (Fs.fkc F code)).2 (Fs.fat F code 2)).2 = (Fs.fcr F (Fs.fdl F code) (Fs.fdc F code) (Fs.fkc F code)).2) && decide ((Fs.fcr F (Fs.fcr F (Fs.fdl F code) (Fs.fdc F code) (Fs.fkc F code)).1 (Fs.fcr F (Fs.fdl F code) (Fs.fdc F code) (Fs.fkc F code)).2 (Fs.fat F code 2)).1 = (Fs.fcr F (Fs.fdl F code) (Fs.fdc F code) (Fs.fkc F code)).1)) = true := by rw [Bool.and_eq_true]; exact ⟨f6a, f6b⟩
  replace f9 := decide_eq_true f9
  unfold lCrashes_br
  rcases hg with ⟨c1, c2, g1⟩ | ⟨c1, c2, g1⟩ | ⟨c1, g1⟩
  · replace c1 := decide_eq_true c1
    replace c2 := decide_eq_true c2
    replace g1 := decide_eq_true g1
    repeat (first | (refine Eq.trans (val_t (by assumption)) ?_) | (refine Eq.trans (val_f (by assumption)) ?_))
    rfl
  · replace c1 := decide_eq_true c1
    replace c2 := decide_eq_false c2
    replace g1 := decide_eq_true g1
    repeat (first | (refine Eq.trans (val_t (by assumption)) ?_) | (refine Eq.trans (val_f (by assumption)) ?_))
    rfl
  · replace c1 := decide_eq_false c1
    replace g1 := decide_eq_true g1
    cases c2 : decide (Fs.fkc F code < Fs.flo F (Fs.fdl F code) (Fs.fdc F code)) <;>
    · repeat (first | (refine Eq.trans (val_t (by assumption)) ?_) | (refine Eq.trans (val_f (by assumption)) ?_))
      rfl
theorem crash_numA {T al a2 k N : Int} (hN : N = bif decide (k < al - a2) then (bif decide (0 < k) then a2 + k else a2) else al) (h1 : 0 < k) (h2 : k < al - a2) (b0 : 0 ≤ T) (b1 : T + al ≤ 1000000) (b2 : 0 ≤ a2) (b3 : a2 ≤ al) : T + N = wrap64 (wrap64 (T + al - (al - a2)) + k) := by
  rw [decide_eq_true h1, decide_eq_true h2, cond_true, cond_true] at hN
  rw [w64 (n := T + al - (al - a2)) (by omega) (by omega), w64 (by omega) (by omega)]; omega
theorem crash_numB {T al a2 k N : Int} (hN : N = bif decide (k < al - a2) then (bif decide (0 < k) then a2 + k else a2) else al) (h2 : ¬ k < al - a2) : T + N = T + al := by
  rw [decide_eq_false h2, cond_false] at hN
  rw [hN]
theorem crash_numC {T al a2 k N : Int} (hN : N = bif decide (k < al - a2) then (bif decide (0 < k) then a2 + k else a2) else al) (h1 : ¬ 0 < k) (b0 : 0 ≤ T) (b1 : T + al ≤ 1000000) (b2 : 0 ≤ a2) (b3 : a2 ≤ al) : T + N = wrap64 (T + al - (al - a2)) := by
  rw [decide_eq_false h1, cond_false] at hN
  rw [w64 (by omega) (by omega)]
  cases h2 : decide (k < al - a2)
  · have := of_decide_eq_false h2
    rw [h2, cond_false] at hN; omega
  · rw [h2, cond_true] at hN; omega
theorem lCrashes_val (code : List Int) (h : code.length ≤ 281474976710656) : (lCrashes_br F0 code).val = some (.bool true, []) := by
  have hs : smS (rL code) = true := good_smS (rL_good h)
  cases hk : okStore (rL code) (rC code) with
  | false =>
    have f2 : (((crashP (rL code) (rC code) (kCrash code)).1).length : Int) = 0 := by rw [crash_bad hk]; rfl
    exact crash_bad_tree F0 code h hs hk f2
  | true =>
    obtain ⟨pre, a, hl1, hi⟩ := isSt_of hk
    obtain ⟨hA0, hx⟩ := crash_ok (kCrash code) hi
    have hA : (crashP (rL code) (rC code) (kCrash code)) = (pre ++ [(cut a.1 0 (crashN a (kCrash code)), crashN a (kCrash code))], rC code) := by rw [hl1]; exact hA0
    have hn := crashN_in a (kCrash code) hi.h1 hi.h2
    have hl := cut_len a.1 _ hn.1 hn.2
    have hag := crash_again (latV code 2) hx hl.symm
    obtain ⟨hS0, hy⟩ := sync_ok hi
    have hS : (syncP (rL code) (rC code)) = (pre ++ [(a.1, (a.1.length : Int))], rC code) := by rw [hl1]; exact hS0
    have hsc := crash_again (-1) hy rfl
    have q1 := hi.len
    have q2 := hi.tot
    have q3 := hi.hc
    have q4 := hi.h1
    have q5 := hi.h2
    have b0 : (0 : Int) ≤ (total pre : Int) := by omega
    have b1 : (total pre : Int) + (a.1.length : Int) ≤ 1000000 := by omega
    have hN : crashN a (kCrash code) = bif decide (kCrash code < (a.1.length : Int) - a.2) then (bif decide (0 < kCrash code) then a.2 + kCrash code else a.2) else (a.1.length : Int) := rfl
    have u0 : allP (crashP (rL code) (rC code) (kCrash code)).1 (crashP (rL code) (rC code) (kCrash code)).2 = allB pre ++ cut a.1 0 (crashN a (kCrash code)) := by rw [hA]; exact hx.all
    have u1 : allP (rL code) (rC code) = allB pre ++ a.1 := by rw [hl1]; exact hi.all
    have hU : ((allP (crashP (rL code) (rC code) (kCrash code)).1 (crashP (rL code) (rC code) (kCrash code)).2).length : Int) = (total pre : Int) + crashN a (kCrash code) := by rw [u0, len_all, hl]
    have hV : ((allP (rL code) (rC code)).length : Int) = (total pre : Int) + a.1.length := by rw [u1]; exact len_all pre a.1
    have hW : looseP (rL code) (rC code) = (a.1.length : Int) - a.2 := by rw [hl1]; exact hi.loose
    have f2 : smS (crashP (rL code) (rC code) (kCrash code)).1 = true := by rw [hA]; exact hx.sm
    have f3 : prefixB (allP (crashP (rL code) (rC code) (kCrash code)).1 (crashP (rL code) (rC code) (kCrash code)).2) (allP (rL code) (rC code)) = true := by rw [u0, u1]; exact prefix_cut _ _ _ hn.1 hn.2
    have f4 : looseP (crashP (rL code) (rC code) (kCrash code)).1 (crashP (rL code) (rC code) (kCrash code)).2 = 0 := by rw [hA]; refine hx.loose.trans ?_; simp only; omega
    have f5 : ((crashP (crashP (rL code) (rC code) (kCrash code)).1 (crashP (rL code) (rC code) (kCrash code)).2 (latV code 2)).1).length ≤ 281474976710656 := by rw [hA]; simp only; rw [hag]; have := hi.hp; simp only [List.length_append, List.length_singleton]; omega
    have f6 : (crashP (crashP (rL code) (rC code) (kCrash code)).1 (crashP (rL code) (rC code) (kCrash code)).2 (latV code 2)) = (crashP (rL code) (rC code) (kCrash code)) := by rw [hA]; exact hag
    have f7 : smS (syncP (rL code) (rC code)).1 = true := by rw [hS]; exact hy.sm
    have hC : (crashP (syncP (rL code) (rC code)).1 (syncP (rL code) (rC code)).2 (-1)) = (pre ++ [(a.1, (a.1.length : Int))], rC code) := by rw [hS]; exact hsc
    have f8 : smS (crashP (syncP (rL code) (rC code)).1 (syncP (rL code) (rC code)).2 (-1)).1 = true := by rw [hC]; exact hy.sm
    have f9 : allP (crashP (syncP (rL code) (rC code)).1 (syncP (rL code) (rC code)).2 (-1)).1 (crashP (syncP (rL code) (rC code)).1 (syncP (rL code) (rC code)).2 (-1)).2 = allP (rL code) (rC code) := by rw [hC, u1]; exact hy.all
    by_cases h1 : 0 < kCrash code
    · by_cases h2 : kCrash code < (a.1.length : Int) - a.2
      · have c2 : kCrash code < looseP (rL code) (rC code) := by rw [hW]; exact h2
        have g1 : ((allP (crashP (rL code) (rC code) (kCrash code)).1 (crashP (rL code) (rC code) (kCrash code)).2).length : Int) = wrap64 (wrap64 (((allP (rL code) (rC code)).length : Int) - looseP (rL code) (rC code)) + kCrash code) := by
          rw [hU, hV, hW]; exact crash_numA hN h1 h2 b0 b1 q4 q5
        exact crash_tree F0 code h hs hk f2 f3 f4 f5 f6 f7 f8 f9 (.inl ⟨h1, c2, g1⟩)
      · have c2 : ¬ kCrash code < looseP (rL code) (rC code) := by rw [hW]; exact h2
        have g1 : ((allP (crashP (rL code) (rC code) (kCrash code)).1 (crashP (rL code) (rC code) (kCrash code)).2).length : Int) = ((allP (rL code) (rC code)).length : Int) := by
          rw [hU, hV]; exact crash_numB hN h2
        exact crash_tree F0 code h hs hk f2 f3 f4 f5 f6 f7 f8 f9 (.inr (.inl ⟨h1, c2, g1⟩))
    · have g1 : ((allP (crashP (rL code) (rC code) (kCrash code)).1 (crashP (rL code) (rC code) (kCrash code)).2).length : Int) = wrap64 (((allP (rL code) (rC code)).length : Int) - looseP (rL code) (rC code)) := by
        rw [hU, hV, hW]; exact crash_numC hN h1 b0 b1 q4 q5
      exact crash_tree F0 code h hs hk f2 f3 f4 f5 f6 f7 f8 f9 (.inr (.inr ⟨h1, g1⟩))

theorem code_small {x : List Int} (h : Good (.slice (.int .u8)) x) : x.length ≤ 281474976710656 := by
  have e : reachBytes = 140737488351232 := rfl
  have := h.1
  rw [e] at this
  omega
def lCrashes_s : List AV → List Ob → Br
  | [.sh (.int .u8) code], [] => .ite (decide (code.length ≤ 281474976710656)) (.ret (.bool true) []) .fail
  | _, _ => .fail
theorem lCrashes_ok : Sound Kx 3 lCrashes_s := by
  refine sound_run (C := lCrashes_C F0) (O := lCrashes_O) KOk lCrashes_C_ok Try.func3 (by kernel_rfl) fun args objs res os h => ?_
  unfold lCrashes_s at h
  split at h
  · obtain ⟨h1, h2⟩ := ite_some h
    refine ⟨1, (lCrashes_run F0 _).trans ?_⟩
    rw [← h2]
    exact lCrashes_val _ (of_decide_eq_true h1)
  · cases h
theorem fnCrashes_true (xs : List AV) (h : Args [(.slice (.int .u8), false)] xs) : (lCrashes_s xs []).val = some (.bool true, []) := by
  obtain ⟨x, a', hg, rfl, rfl⟩ := h
  show (Br.ite (decide (x.length ≤ 281474976710656)) (.ret (.bool true) []) .fail).val = _
  rw [decide_eq_true (code_small hg)]
  rfl

end Go.Proofs.Ytmigffdeghfbhaa.Ev
