/- The texts Pd, one behind the other. -/
import Derived.Test.YtgknmoadpgpdeaaGreatDoorK22
import Derived.Lib.IndexBytes
namespace Go.Proofs.YtgknmoadpgpdeaaGreatDoor.Ev
open Go Go.RowKit
set_option linter.unusedVariables false
set_option linter.unusedSimpArgs false
noncomputable section

def coS_s : List AV → List Ob → Br
  | [.sh .str l, .str x], [] => .ite (decide (l.length ≤ 1000000)) (.ret (.bool (inP l x)) []) .fail
  | _, _ => .fail
theorem conS_okQ : Sound Kx 103 coS_s := conS_ok.of fun args objs r h => by
  unfold coS_s at h
  split at h
  · rename_i l x
    obtain ⟨h1, h2⟩ := ite_some h
    cases h2
    show (conS_br l x).val = _
    unfold conS_br
    rw [idx_nn x l 0 (Int.le_refl 0)]
    exact val_t h1
  · cases h
def uptoP (s : Bytes) (b : Int) : Bytes := s.takeWhile fun x => !decide (by8 x = b)
theorem cut_upto (c : UInt8) : ∀ s : Bytes, cutP s [c] = (uptoP s (by8 c), s.drop ((uptoP s (by8 c)).length + 1), !decide ((uptoP s (by8 c)).length = s.length))
  | [] => by simp [cutP, Lib.cut, Lib.index, uptoP]
  | a :: r => by
    have ih := cut_upto c r
    unfold cutP Lib.cut at ih ⊢
    rw [Lib.index_one] at ih ⊢
    unfold uptoP at ih ⊢
    rw [List.takeWhile_cons]
    unfold Lib.indexByte
    by_cases h : a = c
    · subst h; simp
    · have hb : (a == c) = false := by simpa using h
      have hd : decide (by8 a = by8 c) = false := decide_eq_false fun e => h (by8_inj e)
      have hge := Lib.indexByte_ge r c
      rw [hb, hd]
      simp only [Bool.false_eq_true, if_false, Bool.not_false, if_true]
      by_cases hm : Lib.indexByte r c = -1
      · rw [hm] at ih
        simp only [Prod.mk.injEq, show ¬ (0 : Int) ≤ -1 by decide, if_false] at ih
        have e : (Lib.indexByte r c == -1) = true := by simpa using hm
        rw [e]
        simp only [if_true, show ¬ (0 : Int) ≤ -1 by decide, if_false, Prod.mk.injEq]
        refine ⟨by rw [← ih.1], ?_, ?_⟩
        · rw [← ih.1]; simp
        · rw [← ih.1]; simp
      · have e : (Lib.indexByte r c == -1) = false := by simpa using hm
        rw [e]
        have h0 : 0 ≤ Lib.indexByte r c := by omega
        rw [if_pos h0] at ih
        simp only [Prod.mk.injEq] at ih
        simp only [Bool.false_eq_true, if_false]
        rw [if_pos (by omega)]
        have e1 : (Lib.indexByte r c + 1).toNat = (Lib.indexByte r c).toNat + 1 := by omega
        obtain ⟨i1, i2, i3⟩ := ih
        rw [e1]
        simp only [Prod.mk.injEq, List.take_succ_cons, List.length_cons, List.length_singleton, List.length_nil]
        refine ⟨by rw [i1], ?_, ?_⟩
        · rw [show (Lib.indexByte r c).toNat + 1 + (0 + 1) = ((Lib.indexByte r c).toNat + 1) + 1 by omega, List.drop_succ_cons, List.drop_succ_cons]
          simpa using i2
        · have := i3
          simp only [Bool.true_eq, Bool.not_eq_true', decide_eq_false_iff_not] at this ⊢
          omega
end
end Go.Proofs.YtgknmoadpgpdeaaGreatDoor.Ev
