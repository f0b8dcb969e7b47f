/- The texts Um, Un, Uo, Va, Vb, Vc, Vd, Ve, Vf, Vg, Vh, Xa, Xb, Xc, Xd, Vi, Vj, Vk, Vl, Vm, Vn, Wa, Wb, Vo, Xe, Xf, Xg, Xh, Xi, Xj, one behind the other. -/
import Derived.Test.YtmmjaomfonknnaaGreatDoorK23
import Derived.Test.YtmmjaomfonknnaaGreatDoorK22
import Derived.Test.YtmmjaomfonknnaaGreatDoorK19
import Derived.Test.YtmmjaomfonknnaaGreatDoorK21
namespace Go.Proofs.YtmmjaomfonknnaaGreatDoor.Ev
open Go Go.RowKit
set_option linter.unusedVariables false
set_option linter.unusedSimpArgs false
noncomputable section

theorem upto_drop (b : Int) : ∀ (r : Bytes) (k : Nat), k ≤ (uptoP r b).length → uptoP (r.drop k) b = (uptoP r b).drop k
  | r, 0, _ => rfl
  | [], k + 1, h => by simp [uptoP] at h
  | x :: r, k + 1, h => by
    have ih := upto_drop b r k
    unfold uptoP at ih h ⊢
    rw [List.takeWhile_cons] at h ⊢
    cases c : decide (by8 x = b)
    · rw [c] at h
      simp only [Bool.not_false, if_true, List.length_cons] at h ⊢
      rw [List.drop_succ_cons, List.drop_succ_cons]
      exact ih (by omega)
    · rw [c] at h; simp at h
theorem cut_end {l : Bytes} {k : Nat} {i : Int} (h : i = (k : Int)) : cut l i (l.length : Int) = l.drop k := by
  subst h; unfold cut; simp
theorem cut_take {l : Bytes} {k : Nat} {i : Int} (h : i = (k : Int)) : cut l 0 i = l.take k := by
  subst h; unfold cut; simp
theorem nat_lt (a b : Nat) : decide ((a : Int) < (b : Int)) = decide (a < b) := by
  rw [Bool.eq_iff_iff, decide_eq_true_eq, decide_eq_true_eq]; omega
theorem clean_len (p : Bytes) : (cleanP p).length ≤ 1000 := by
  cases p with
  | nil => exact Nat.zero_le _
  | cons c r =>
    by_cases hc : c = 47
    · subst hc
      rw [cleanP_at]
      cases ho : pathOk (47 :: r)
      · exact Nat.zero_le _
      · unfold pathOk at ho
        simp only [Bool.and_eq_true, decide_eq_true_eq, List.length_cons] at ho
        have h1 := segs_bd r (by omega)
        have h2 := slash_segs (splP (pctP r) 47)
        have h3 := join_len (segsP (splP (pctP r) 47))
        simp only [cond_true, List.length_cons]; omega
    · rw [cleanP_not c r hc]; exact Nat.zero_le _
def urA (u : Ur) : AV := .agg [.str u.h, .int .i64 u.po, .str u.pa, .str u.q, .bool u.hq]
theorem readU_no {s : Bytes} (h : readOk s = false) : readUP s = (u0, false) := by unfold readUP; rw [h]; rfl
/-- What both sides come to, once the front is as it must be. -/
theorem readU_yes {s : Bytes} (h : readOk s = true) : readUP s = bif (portR (authP (s.drop 7))).2 && (urlR (s.drop 7)).ok then (urlR (s.drop 7), true) else (u0, false) := by
  unfold readUP; rw [h, Bool.true_and]
theorem readOk_parts (s : Bytes) : readOk s = (decide (s.length ≤ 200) && decide (7 ≤ s.length) && allP isVis s && !hasB s 35 && decide (foldP (s.take 7) = httpB)) := rfl
/-- Seven letters alone are none. -/
theorem urlR_nil : (urlR []).ok = false := by
  unfold urlR Ur.ok urlOkP
  have e : hostP (foldP (uptoP (authP []) 58)) = false := rfl
  simp only [e, Bool.false_and]
def ru_s : List AV → List Ob → Br := t1_s fun s => .tup [urA (readUP s).1, .bool (readUP s).2]
theorem sReadUrl_okQ : Sound Kx 155 ru_s := sReadUrl_ok.of fun args objs r h => by
  unfold ru_s t1_s at h
  split at h
  case h_2 => cases h
  rename_i s
  obtain ⟨hM, h2⟩ := ite_some h
  cases h2
  show (sReadUrl_br s).val = some (.tup [urA (readUP s).1, .bool (readUP s).2], [])
  unfold sReadUrl_br
  have hok := readOk_parts s
  cases d1 : decide ((200 : Int) < (s.length : Int))
  case true =>
    have := of_decide_eq_true d1
    rw [decide_eq_false (show ¬ s.length ≤ 200 by omega)] at hok
    rw [readU_no (by rw [hok]; rfl)]; rfl
  have d1' := of_decide_eq_false d1
  rw [decide_eq_true (show s.length ≤ 200 by omega)] at hok
  cases d2 : decide ((s.length : Int) < 8)
  case true =>
    have d2' := of_decide_eq_true d2
    refine (val_f rfl).trans ((val_t rfl).trans ?_)
    have : readUP s = (u0, false) := by
      cases hr : readOk s
      · exact readU_no hr
      · rw [readU_yes hr]
        rw [hok] at hr
        simp only [Bool.and_eq_true, decide_eq_true_eq] at hr
        have e : s.drop 7 = [] := List.drop_eq_nil_of_le (by omega)
        rw [e, urlR_nil, Bool.and_false]; rfl
    rw [this]; rfl
  have d2' := of_decide_eq_false d2
  rw [decide_eq_true (show 7 ≤ s.length by omega)] at hok
  rw [hM, upto_has, decide_eq_true (show (0 : Int) < (s.length : Int) by omega), decide_eq_true (show (7 : Int) ≤ (s.length : Int) by omega), show cut s 0 7 = s.take 7 from cut_take (k := 7) rfl, show cut s 7 (s.length : Int) = s.drop 7 from cut_end (k := 7) rfl]
  cases d3 : allP isVis s
  · rw [d3] at hok
    rw [readU_no (by rw [hok]; rfl)]; rfl
  rw [d3] at hok
  cases d4 : hasB s 35
  case true =>
    rw [d4] at hok
    rw [readU_no (by rw [hok]; rfl)]; rfl
  rw [d4] at hok
  have e7 : isM (s.take 7) = true := isM_of (n := 7) (by rw [List.length_take]; exact Nat.min_le_left _ _)
  rw [e7]
  cases d5 : decide (foldP (s.take 7) = [104, 116, 116, 112, 58, 47, 47])
  · rw [show decide (foldP (s.take 7) = httpB) = false from d5] at hok
    rw [readU_no (by rw [hok]; rfl)]; rfl
  rw [show decide (foldP (s.take 7) = httpB) = true from d5] at hok
  rw [readU_yes (by rw [hok]; rfl)]
  generalize hr : s.drop 7 = r
  have hrl : r.length ≤ 200 := by rw [← hr, List.length_drop]; omega
  refine (val_f rfl).trans ((val_f rfl).trans ((val_t rfl).trans ((val_f rfl).trans ((val_t rfl).trans ((val_f rfl).trans ((val_t rfl).trans ((val_t rfl).trans ((val_f rfl).trans ((val_t rfl).trans ?_)))))))))
  unfold urlR pathR portR authP frontP Ur.ok urA
  have lF := upto_le r 63
  generalize hF : uptoP r 63 = F at lF
  have lA := upto_le F 47
  generalize hA : uptoP F 47 = A at lA
  have lH := upto_le A 58
  generalize hH : uptoP A 58 = H at lH
  have w1 : wk64 ((H.length : Int) + 1) = ((H.length + 1 : Nat) : Int) := by rw [w64 (by omega) (by omega)]; rfl
  have w2 : wk64 ((F.length : Int) + 1) = ((F.length + 1 : Nat) : Int) := by rw [w64 (by omega) (by omega)]; rfl
  have m1 : isM r = true := isM_of (n := 200) (by omega)
  have m2 : isM F = true := isM_of (n := 200) (by omega)
  have m3 : isM A = true := isM_of (n := 200) (by omega)
  have m4 : isM H = true := isM_of (n := 200) (by omega)
  have m5 : isM (foldP H) = true := isM_of (n := 200) (by rw [foldP_len]; omega)
  have m6 : ∀ p, isM (cleanP p) = true := fun p => isM_of (n := 1000) (clean_len p)
  have m7 : isM (F.drop A.length) = true := isM_of (n := 200) (by rw [List.length_drop]; omega)
  have m8 : isM (r.drop (F.length + 1)) = true := isM_of (n := 200) (by rw [List.length_drop]; omega)
  have q0 : ∀ n : Nat, decide ((0 : Int) ≤ (n : Int)) = true := fun n => decide_eq_true (by omega)
  have qA : decide ((A.length : Int) ≤ (F.length : Int)) = true := decide_eq_true (by omega)
  rw [m1, m2, m3, m4, w1, w2, cut_end (l := A) rfl, cut_end (l := F) rfl, cut_end (l := r) rfl, m5, m7, m8, nat_lt, nat_lt, nat_lt, q0, q0, q0, qA]
  simp only [m6]
  cases t1 : decide (H.length < A.length)
  · cases t2 : decide (A.length < F.length)
    · cases t3 : decide (F.length < r.length)
      · simp only [Br.val, cond_true, cond_false, Bool.and_true, Bool.true_and]
        cases urlOkP (foldP H) 80 [47] [] false <;> rfl
      · have t3' := of_decide_eq_true t3
        rw [decide_eq_true (show ((F.length + 1 : Nat) : Int) ≤ (r.length : Int) by omega)]
        simp only [Br.val, cond_true, cond_false, Bool.and_true, Bool.true_and]
        cases urlOkP (foldP H) 80 [47] (r.drop (F.length + 1)) true <;> rfl
    · cases t3 : decide (F.length < r.length)
      · simp only [Br.val, cond_true, cond_false, Bool.and_true, Bool.true_and]
        cases urlOkP (foldP H) 80 (cleanP (F.drop A.length)) [] false <;> rfl
      · have t3' := of_decide_eq_true t3
        rw [decide_eq_true (show ((F.length + 1 : Nat) : Int) ≤ (r.length : Int) by omega)]
        simp only [Br.val, cond_true, cond_false, Bool.and_true, Bool.true_and]
        cases urlOkP (foldP H) 80 (cleanP (F.drop A.length)) (r.drop (F.length + 1)) true <;> rfl
  · have t1' := of_decide_eq_true t1
    rw [decide_eq_true (show ((H.length + 1 : Nat) : Int) ≤ (A.length : Int) by omega)]
    cases t4 : (decR (A.drop (H.length + 1))).2
    · simp only [Br.val, cond_true, cond_false, Bool.false_and, t4, Bool.not_false]; rfl
    · cases t2 : decide (A.length < F.length)
      · cases t3 : decide (F.length < r.length)
        · simp only [Br.val, cond_true, cond_false, Bool.and_true, Bool.true_and, t4, Bool.not_true]
          cases urlOkP (foldP H) (decR (A.drop (H.length + 1))).1 [47] [] false <;> rfl
        · have t3' := of_decide_eq_true t3
          rw [decide_eq_true (show ((F.length + 1 : Nat) : Int) ≤ (r.length : Int) by omega)]
          simp only [Br.val, cond_true, cond_false, Bool.and_true, Bool.true_and, t4, Bool.not_true]
          cases urlOkP (foldP H) (decR (A.drop (H.length + 1))).1 [47] (r.drop (F.length + 1)) true <;> rfl
      · cases t3 : decide (F.length < r.length)
        · simp only [Br.val, cond_true, cond_false, Bool.and_true, Bool.true_and, t4, Bool.not_true]
          cases urlOkP (foldP H) (decR (A.drop (H.length + 1))).1 (cleanP (F.drop A.length)) [] false <;> rfl
        · have t3' := of_decide_eq_true t3
          rw [decide_eq_true (show ((F.length + 1 : Nat) : Int) ≤ (r.length : Int) by omega)]
          simp only [Br.val, cond_true, cond_false, Bool.and_true, Bool.true_and, t4, Bool.not_true]
          cases urlOkP (foldP H) (decR (A.drop (H.length + 1))).1 (cleanP (F.drop A.length)) (r.drop (F.length + 1)) true <;> rfl
/-- The program's way to find where a host ends. -/
theorem auth_take (r : Bytes) : r.take (uptoP (uptoP r 63) 47).length = uptoP (uptoP r 63) 47 := by
  have h1 := upto_take r 63
  have h2 := upto_take (uptoP r 63) 47
  have h3 := upto_le (uptoP r 63) 47
  calc r.take (uptoP (uptoP r 63) 47).length = (r.take (uptoP r 63).length).take (uptoP (uptoP r 63) 47).length := by rw [List.take_take, Nat.min_eq_left h3]
    _ = (uptoP r 63).take (uptoP (uptoP r 63) 47).length := by rw [h1]
    _ = uptoP (uptoP r 63) 47 := h2
theorem any_end (r : Bytes) : (decide (anyIx r [47, 63] < 0) = true → (uptoP (uptoP r 63) 47).length = r.length) ∧ (decide (anyIx r [47, 63] < 0) = false → anyIx r [47, 63] = ((uptoP (uptoP r 63) 47).length : Int)) := by
  rw [anyIx_cases, show by8 47 = 47 from rfl, show by8 63 = 63 from rfl]
  cases h : hasB r 47 || hasB r 63
  · rw [cond_false]
    rw [Bool.or_eq_false_iff] at h
    have h1 : uptoP r 63 = r := by have := upto_has r 63; rw [h.2] at this; exact of_decide_eq_true this
    have h2 : uptoP r 47 = r := by have := upto_has r 47; rw [h.1] at this; exact of_decide_eq_true this
    rw [h1, h2]
    exact ⟨fun _ => rfl, fun e => by simp at e⟩
  · rw [cond_true]
    exact ⟨fun e => by have := of_decide_eq_true e; omega, fun _ => rfl⟩
theorem drop_nil {l : Bytes} {k : Nat} : decide (l.drop k = []) = !decide (k < l.length) := by
  rw [Bool.eq_iff_iff]; simp
theorem lt_ne {a b : Nat} (h : a ≤ b) : (!decide (a = b)) = decide (a < b) := by
  rw [Bool.eq_iff_iff]; simp; omega
theorem iReadUrl_okQ : Sound Kx 160 ru_s := iReadUrl_ok.of fun args objs r h => by
  unfold ru_s t1_s at h
  split at h
  case h_2 => cases h
  rename_i s
  obtain ⟨hM, h2⟩ := ite_some h
  cases h2
  show (iReadUrl_br s).val = some (.tup [urA (readUP s).1, .bool (readUP s).2], [])
  unfold iReadUrl_br
  have hok := readOk_parts s
  cases d1 : decide ((200 : Int) < (s.length : Int))
  case true =>
    have := of_decide_eq_true d1
    rw [decide_eq_false (show ¬ s.length ≤ 200 by omega)] at hok
    rw [readU_no (by rw [hok]; rfl)]; rfl
  have d1' := of_decide_eq_false d1
  rw [decide_eq_true (show s.length ≤ 200 by omega)] at hok
  rw [hM]
  cases d3 : allP isVis s
  · rw [d3] at hok
    rw [readU_no (by rw [hok]; simp)]; rfl
  rw [d3] at hok
  cases d4 : hasB s 35
  case true =>
    rw [d4] at hok
    rw [readU_no (by rw [hok]; simp)]; rfl
  rw [d4] at hok
  cases d2 : decide ((s.length : Int) < 7)
  case true =>
    have d2' := of_decide_eq_true d2
    rw [decide_eq_false (show ¬ 7 ≤ s.length by omega)] at hok
    rw [readU_no (by rw [hok]; rfl)]; rfl
  have d2' := of_decide_eq_false d2
  rw [decide_eq_true (show 7 ≤ s.length by omega)] at hok
  rw [decide_eq_true (show (7 : Int) ≤ (s.length : Int) by omega), show cut s 0 7 = s.take 7 from cut_take (k := 7) rfl, show cut s 7 (s.length : Int) = s.drop 7 from cut_end (k := 7) rfl]
  have e7 : isM (s.take 7) = true := isM_of (n := 7) (by rw [List.length_take]; exact Nat.min_le_left _ _)
  rw [e7]
  cases d5 : decide (foldP (s.take 7) = [104, 116, 116, 112, 58, 47, 47])
  · rw [show decide (foldP (s.take 7) = httpB) = false from d5] at hok
    rw [readU_no (by rw [hok]; rfl)]; rfl
  rw [show decide (foldP (s.take 7) = httpB) = true from d5] at hok
  rw [readU_yes (by rw [hok]; rfl)]
  have hvis : allP isVis (s.drop 7) = true := by
    have e := allP_app isVis (s.take 7) (s.drop 7)
    rw [List.take_append_drop, d3] at e
    cases hh : allP isVis (s.drop 7)
    · rw [hh, Bool.and_false] at e; cases e
    · rfl
  have hasc := vis_asc _ hvis
  generalize hr : s.drop 7 = r at hasc
  have hrl : r.length ≤ 200 := by rw [← hr, List.length_drop]; omega
  have hend := any_end r
  have hat := auth_take r
  have mr : decide (r.length ≤ 1000000) = true := decide_eq_true (by omega)
  refine (val_f rfl).trans ((val_t rfl).trans ((val_f rfl).trans ((val_f rfl).trans ((val_f rfl).trans ((val_t rfl).trans ((val_t rfl).trans ((val_f rfl).trans ((val_t rfl).trans ((val_t (by rw [mr, hasc]; rfl)).trans ?_)))))))))
  unfold urlR pathR portR authP frontP Ur.ok urA
  have lF := upto_le r 63
  have ud := upto_drop 63 r (uptoP (uptoP r 63) 47).length (upto_le _ _)
  generalize hF : uptoP r 63 = F at lF hend hat ud
  have lA := upto_le F 47
  generalize hA : uptoP F 47 = A at lA hend hat ud
  have lH := upto_le A 58
  have ct : cut r 0 (A.length : Int) = A := (cut_take rfl).trans hat
  have cd : cut r (A.length : Int) (r.length : Int) = r.drop A.length := cut_end rfl
  have x1 := cut_upto 58 A
  rw [show by8 58 = 58 from rfl] at x1
  have x2 := cut_upto 63 (r.drop A.length)
  rw [show by8 63 = 63 from rfl, ud] at x2
  generalize hH : uptoP A 58 = H at lH x1
  have y1 : (cutP A [58]).1 = H := by rw [x1]
  have y2 : (cutP A [58]).2.1 = A.drop (H.length + 1) := by rw [x1]
  have y3 : (cutP A [58]).2.2 = decide (H.length < A.length) := by rw [x1]; exact lt_ne lH
  have z1 : (cutP (r.drop A.length) [63]).1 = F.drop A.length := by rw [x2]
  have z2 : (cutP (r.drop A.length) [63]).2.1 = bif decide (F.length < r.length) then r.drop (F.length + 1) else [] := by
    rw [x2]
    simp only [List.length_drop, List.drop_drop]
    cases t : decide (F.length < r.length)
    · have := of_decide_eq_false t
      rw [cond_false]
      exact List.drop_eq_nil_of_le (by omega)
    · rw [cond_true]
      congr 1; omega
  have z3 : (cutP (r.drop A.length) [63]).2.2 = decide (F.length < r.length) := by
    rw [x2]
    simp only [List.length_drop]
    rw [lt_ne (by omega), Bool.eq_iff_iff, decide_eq_true_eq, decide_eq_true_eq]; omega
  have m4 : isM H = true := isM_of (n := 200) (by omega)
  have m5 : isM (foldP H) = true := isM_of (n := 200) (by rw [foldP_len]; omega)
  have m6 : ∀ p, isM (cleanP p) = true := fun p => isM_of (n := 1000) (clean_len p)
  have m7 : isM (F.drop A.length) = true := isM_of (n := 200) (by rw [List.length_drop]; omega)
  have m8 : isM (bif decide (F.length < r.length) then r.drop (F.length + 1) else []) = true := by
    refine isM_of (n := 200) ?_
    cases decide (F.length < r.length)
    · exact Nat.zero_le _
    · rw [cond_true, List.length_drop]; omega
  have q0 : ∀ n : Nat, decide ((0 : Int) ≤ (n : Int)) = true := fun n => decide_eq_true (by omega)
  have qA : decide ((A.length : Int) ≤ (r.length : Int)) = true := decide_eq_true (by omega)
  have q1 : decide (A.length ≤ 1000000) = true := decide_eq_true (by omega)
  have q2 : decide ((r.drop A.length).length ≤ 1000000) = true := decide_eq_true (by rw [List.length_drop]; omega)
  have q3 : decide ((A.drop (H.length + 1)).length ≤ 1000000) = true := decide_eq_true (by rw [List.length_drop]; omega)
  cases t0 : decide (anyIx r [47, 63] < 0)
  · rw [hend.2 t0]
    simp only [Br.val, cond_true, cond_false, q0, qA, ct, cd, q1, q2, y1, y2, y3, z1, z2, z3, m4, m5, m6, m7, m8, q3, Bool.and_self, Bool.and_true, drop_nil]
    cases t1 : decide (H.length < A.length)
    · cases t2 : decide (A.length < F.length)
      · simp only [Br.val, cond_true, cond_false, Bool.not_false, Bool.true_and]
        cases urlOkP (foldP H) 80 [47] (bif decide (F.length < r.length) then r.drop (F.length + 1) else []) (decide (F.length < r.length)) <;> rfl
      · simp only [Br.val, cond_true, cond_false, Bool.not_true, Bool.true_and]
        cases urlOkP (foldP H) 80 (cleanP (F.drop A.length)) (bif decide (F.length < r.length) then r.drop (F.length + 1) else []) (decide (F.length < r.length)) <;> rfl
    · cases t4 : (decR (A.drop (H.length + 1))).2
      · simp only [Br.val, cond_true, cond_false, Bool.not_false, Bool.false_and, t4]; rfl
      · cases t2 : decide (A.length < F.length)
        · simp only [Br.val, cond_true, cond_false, Bool.not_false, Bool.not_true, Bool.true_and, t4]
          cases urlOkP (foldP H) (decR (A.drop (H.length + 1))).1 [47] (bif decide (F.length < r.length) then r.drop (F.length + 1) else []) (decide (F.length < r.length)) <;> rfl
        · simp only [Br.val, cond_true, cond_false, Bool.not_true, Bool.true_and, t4]
          cases urlOkP (foldP H) (decR (A.drop (H.length + 1))).1 (cleanP (F.drop A.length)) (bif decide (F.length < r.length) then r.drop (F.length + 1) else []) (decide (F.length < r.length)) <;> rfl
  · have hl := hend.1 t0
    have ct2 : cut r 0 (r.length : Int) = A := by rw [hl] at ct; exact ct
    have cd2 : cut r (r.length : Int) (r.length : Int) = r.drop A.length := by
      rw [cut_end (l := r) (k := r.length) rfl, hl]
    have qB : decide ((r.length : Int) ≤ (r.length : Int)) = true := decide_eq_true (Int.le_refl _)
    simp only [Br.val, cond_true, cond_false, q0, qB, ct2, cd2, q1, q2, y1, y2, y3, z1, z2, z3, m4, m5, m6, m7, m8, q3, Bool.and_self, Bool.and_true, drop_nil]
    cases t1 : decide (H.length < A.length)
    · cases t2 : decide (A.length < F.length)
      · simp only [Br.val, cond_true, cond_false, Bool.not_false, Bool.true_and]
        cases urlOkP (foldP H) 80 [47] (bif decide (F.length < r.length) then r.drop (F.length + 1) else []) (decide (F.length < r.length)) <;> rfl
      · simp only [Br.val, cond_true, cond_false, Bool.not_true, Bool.true_and]
        cases urlOkP (foldP H) 80 (cleanP (F.drop A.length)) (bif decide (F.length < r.length) then r.drop (F.length + 1) else []) (decide (F.length < r.length)) <;> rfl
    · cases t4 : (decR (A.drop (H.length + 1))).2
      · simp only [Br.val, cond_true, cond_false, Bool.not_false, Bool.false_and, t4]; rfl
      · cases t2 : decide (A.length < F.length)
        · simp only [Br.val, cond_true, cond_false, Bool.not_false, Bool.not_true, Bool.true_and, t4]
          cases urlOkP (foldP H) (decR (A.drop (H.length + 1))).1 [47] (bif decide (F.length < r.length) then r.drop (F.length + 1) else []) (decide (F.length < r.length)) <;> rfl
        · simp only [Br.val, cond_true, cond_false, Bool.not_true, Bool.true_and, t4]
          cases urlOkP (foldP H) (decR (A.drop (H.length + 1))).1 (cleanP (F.drop A.length)) (bif decide (F.length < r.length) then r.drop (F.length + 1) else []) (decide (F.length < r.length)) <;> rfl
theorem sUrlText_okQ : Sound Kx 156 (ur_s (fun h po pa q _ => isM h && isM pa && isM q) (fun h po pa q hq => .str (bif urlOkP h po pa q hq then urlT h po pa q hq else []))) := of_ur sUrlText_ok fun h po pa q hq hs => by
  show (sUrlText_br h po pa q hq).val = some (.str (bif urlOkP h po pa q hq then urlT h po pa q hq else []), [])
  unfold sUrlText_br
  refine (val_t hs).trans ?_
  cases ho : urlOkP h po pa q hq
  · rfl
  · simp only [Bool.and_eq_true] at hs
    have ho' := ho
    unfold urlOkP at ho'
    simp only [Bool.and_eq_true, Bool.not_eq_true', decide_eq_false_iff_not] at ho'
    obtain ⟨⟨⟨⟨⟨⟨⟨h1, h2, h3⟩, h4⟩, h5⟩, _⟩, _⟩, _⟩, _⟩ := ho'
    exact (val_f rfl).trans ((val_t (smU_mk h1 h2 h3 (decide_eq_false h4) h5 hs.2)).trans rfl)
end
end Go.Proofs.YtmmjaomfonknnaaGreatDoor.Ev

namespace Go.Proofs.YtmmjaomfonknnaaGreatDoor.Ev
open Go Go.RowKit
set_option linter.unusedVariables false
set_option linter.unusedSimpArgs false
noncomputable section

/-! impl.Canon -/
def iCanon_O : Opt := { cons := [], keepNil := false, mutF := [], live := [], outs := [] }
def iCanon_C : Spec := (add (add noS 160 ru_s) 161 ut_s)
theorem iCanon_C_ok : ∀ fn, Sound Kx fn (iCanon_C fn) := (sound_add (sound_add (sound_no Kx) iReadUrl_okQ) iUrlT_okQ)
def iCanon_br (s : Bytes) : Br := (Br.ite (isM s) (Br.ite (!(readUP s).2) (Br.ret (AV.tup ((AV.str ([] : (List UInt8))) :: ((AV.bool false) :: ([] : (List (AV)))))) ([] : (List (Ob)))) (Br.ite (smU (readUP s).1.1 (readUP s).1.2 (readUP s).1.3 (readUP s).1.4) (Br.ret (AV.tup ((AV.str (urlT (readUP s).1.1 (readUP s).1.2 (readUP s).1.3 (readUP s).1.4 (readUP s).1.5)) :: ((AV.bool true) :: ([] : (List (AV)))))) ([] : (List (Ob)))) Br.fail)) Br.fail)
theorem iCanon_run (s : Bytes) : runF Kx iCanon_C iCanon_O 1 Tryz.f115 ([.str s]) ([]) = (iCanon_br s).val := by kernel_rfl
def iCanon_s : List AV → List Ob → Br
  | [.str s], [] => iCanon_br s
  | _, _ => .fail
theorem iCanon_ok : Sound Kx 115 iCanon_s := by
  refine sound_run (C := iCanon_C) (O := iCanon_O) KOk iCanon_C_ok Tryz.func115 (by kernel_rfl) fun args objs res os h => ?_
  unfold iCanon_s at h
  split at h
  · exact ⟨1, (iCanon_run _).trans h⟩
  · cases h

/-! spec.Canon -/
def sCanon_O : Opt := { cons := [], keepNil := false, mutF := [], live := [], outs := [] }
def sCanon_C : Spec := (add (add noS 155 ru_s) 156 (ur_s (fun h po pa q _ => isM h && isM pa && isM q) (fun h po pa q hq => .str (bif urlOkP h po pa q hq then urlT h po pa q hq else []))))
theorem sCanon_C_ok : ∀ fn, Sound Kx fn (sCanon_C fn) := (sound_add (sound_add (sound_no Kx) sReadUrl_okQ) sUrlText_okQ)
def sCanon_br (s : Bytes) : Br := (Br.ite (isM s) (Br.ite (!(readUP s).2) (Br.ret (AV.tup ((AV.str ([] : (List UInt8))) :: ((AV.bool false) :: ([] : (List (AV)))))) ([] : (List (Ob)))) (Br.ite (((isM (readUP s).1.1) && (isM (readUP s).1.3)) && (isM (readUP s).1.4)) (Br.ret (AV.tup ((AV.str (bif (urlOkP (readUP s).1.1 (readUP s).1.2 (readUP s).1.3 (readUP s).1.4 (readUP s).1.5) then (urlT (readUP s).1.1 (readUP s).1.2 (readUP s).1.3 (readUP s).1.4 (readUP s).1.5) else ([] : (List UInt8)))) :: ((AV.bool true) :: ([] : (List (AV)))))) ([] : (List (Ob)))) Br.fail)) Br.fail)
theorem sCanon_run (s : Bytes) : runF Kx sCanon_C sCanon_O 1 Tryz.f110 ([.str s]) ([]) = (sCanon_br s).val := by kernel_rfl
def sCanon_s : List AV → List Ob → Br
  | [.str s], [] => sCanon_br s
  | _, _ => .fail
theorem sCanon_ok : Sound Kx 110 sCanon_s := by
  refine sound_run (C := sCanon_C) (O := sCanon_O) KOk sCanon_C_ok Tryz.func110 (by kernel_rfl) fun args objs res os h => ?_
  unfold sCanon_s at h
  split at h
  · exact ⟨1, (sCanon_run _).trans h⟩
  · cases h

end
end Go.Proofs.YtmmjaomfonknnaaGreatDoor.Ev

namespace Go.Proofs.YtmmjaomfonknnaaGreatDoor.Ev
open Go Go.RowKit
set_option linter.unusedVariables false
set_option linter.unusedSimpArgs false
noncomputable section

theorem readU_ok {s : Bytes} (h : (readUP s).2 = true) : (readUP s).1.ok = true := by
  unfold readUP at h ⊢
  cases c : readOk s && (portR (authP (s.drop 7))).2 && (urlR (s.drop 7)).ok
  · rw [c] at h; cases h
  · rw [cond_true]
    simp only [Bool.and_eq_true] at c
    exact c.2
theorem ok_parts {h : Bytes} {po : Int} {pa q : Bytes} {hq : Bool} (ho : urlOkP h po pa q hq = true) : hostP h = true ∧ decide (1 ≤ po) = true ∧ decide (po ≤ 65535) = true ∧ decide (pa = []) = false ∧ decide (cleanP pa = pa) = true ∧ (urlT h po pa q hq).length ≤ 200 := by
  unfold urlOkP at ho
  simp only [Bool.and_eq_true, Bool.not_eq_true', decide_eq_false_iff_not] at ho
  obtain ⟨⟨⟨⟨⟨⟨⟨h1, h2, h3⟩, h4⟩, h5⟩, _⟩, _⟩, _⟩, h8⟩ := ho
  exact ⟨h1, h2, h3, decide_eq_false h4, h5, of_decide_eq_true h8⟩
theorem q_len {h : Bytes} {po : Int} {pa q : Bytes} {hq : Bool} (ho : urlOkP h po pa q hq = true) : q.length ≤ 200 := by
  have hl := (ok_parts ho).2.2.2.2.2
  unfold urlOkP at ho
  simp only [Bool.and_eq_true, Bool.or_eq_true, decide_eq_true_eq] at ho
  rcases ho.1.2 with h' | h'
  · subst h'
    have := urlT_q h po pa q; omega
  · rw [h']; exact Nat.zero_le _
theorem ur_sizes {u : Ur} (ho : u.ok = true) : smU u.h u.po u.pa u.q = true ∧ (isM u.h && isM u.pa && isM u.q) = true := by
  unfold Ur.ok at ho
  obtain ⟨h1, h2, h3, h4, h5, _⟩ := ok_parts ho
  have hq : isM u.q = true := isM_of (n := 200) (q_len ho)
  have a := host_len h1
  have b := clean_fix (of_decide_eq_true h5) (of_decide_eq_false h4)
  exact ⟨smU_mk h1 h2 h3 h4 h5 hq, by rw [hq, isM_of (n := 60) a, isM_of (n := 200) b]; rfl⟩
def ca_s : List AV → List Ob → Br := t1_s fun s => .tup [.str (canonP s).1, .bool (canonP s).2]
theorem iCanon_okQ : Sound Kx 115 ca_s := iCanon_ok.of fun args objs r h => by
  unfold ca_s t1_s at h
  split at h
  case h_2 => cases h
  rename_i s
  obtain ⟨hM, h2⟩ := ite_some h
  cases h2
  show (iCanon_br s).val = some (.tup [.str (canonP s).1, .bool (canonP s).2], [])
  unfold iCanon_br canonP
  refine (val_t hM).trans ?_
  cases c : (readUP s).2
  · rfl
  · exact (val_f rfl).trans ((val_t (ur_sizes (readU_ok c)).1).trans rfl)
theorem sCanon_okQ : Sound Kx 110 ca_s := sCanon_ok.of fun args objs r h => by
  unfold ca_s t1_s at h
  split at h
  case h_2 => cases h
  rename_i s
  obtain ⟨hM, h2⟩ := ite_some h
  cases h2
  show (sCanon_br s).val = some (.tup [.str (canonP s).1, .bool (canonP s).2], [])
  unfold sCanon_br canonP
  refine (val_t hM).trans ?_
  cases c : (readUP s).2
  · rfl
  · have ho := readU_ok c
    have ho' : urlOkP (readUP s).1.h (readUP s).1.po (readUP s).1.pa (readUP s).1.q (readUP s).1.hq = true := ho
    refine (val_f rfl).trans ((val_t (ur_sizes ho).2).trans ?_)
    rw [ho']; rfl
end
end Go.Proofs.YtmmjaomfonknnaaGreatDoor.Ev

namespace Go.Proofs.YtmmjaomfonknnaaGreatDoor.Ev
open Go Go.RowKit
set_option linter.unusedVariables false
set_option linter.unusedSimpArgs false
noncomputable section

/-! impl.isCanonical -/
def iIsCan_O : Opt := { cons := [], keepNil := false, mutF := [], live := [], outs := [] }
def iIsCan_C : Spec := (add noS 115 ca_s)
theorem iIsCan_C_ok : ∀ fn, Sound Kx fn (iIsCan_C fn) := (sound_add (sound_no Kx) iCanon_okQ)
def iIsCan_br (s : Bytes) : Br := (Br.ite (isM s) (Br.ite (canonP s).2 (Br.ret (AV.bool (decide ((canonP s).1 = s))) ([] : (List (Ob)))) (Br.ret (AV.bool false) ([] : (List (Ob))))) Br.fail)
theorem iIsCan_run (s : Bytes) : runF Kx iIsCan_C iIsCan_O 1 Tryz.f80 ([.str s]) ([]) = (iIsCan_br s).val := by kernel_rfl
def iIsCan_s : List AV → List Ob → Br
  | [.str s], [] => iIsCan_br s
  | _, _ => .fail
theorem iIsCan_ok : Sound Kx 80 iIsCan_s := by
  refine sound_run (C := iIsCan_C) (O := iIsCan_O) KOk iIsCan_C_ok Tryz.func80 (by kernel_rfl) fun args objs res os h => ?_
  unfold iIsCan_s at h
  split at h
  · exact ⟨1, (iIsCan_run _).trans h⟩
  · cases h

/-! spec.l8canon -/
def sIsCan_O : Opt := { cons := [], keepNil := false, mutF := [], live := [], outs := [] }
def sIsCan_C : Spec := (add noS 110 ca_s)
theorem sIsCan_C_ok : ∀ fn, Sound Kx fn (sIsCan_C fn) := (sound_add (sound_no Kx) sCanon_okQ)
def sIsCan_br (s : Bytes) : Br := (Br.ite (isM s) (Br.ite (canonP s).2 (Br.ret (AV.bool (decide ((canonP s).1 = s))) ([] : (List (Ob)))) (Br.ret (AV.bool false) ([] : (List (Ob))))) Br.fail)
theorem sIsCan_run (s : Bytes) : runF Kx sIsCan_C sIsCan_O 1 Tryz.f76 ([.str s]) ([]) = (sIsCan_br s).val := by kernel_rfl
def sIsCan_s : List AV → List Ob → Br
  | [.str s], [] => sIsCan_br s
  | _, _ => .fail
theorem sIsCan_ok : Sound Kx 76 sIsCan_s := by
  refine sound_run (C := sIsCan_C) (O := sIsCan_O) KOk sIsCan_C_ok Tryz.func76 (by kernel_rfl) fun args objs res os h => ?_
  unfold sIsCan_s at h
  split at h
  · exact ⟨1, (sIsCan_run _).trans h⟩
  · cases h

/-! impl.isTime -/
def iTime_O : Opt := { cons := [], keepNil := false, mutF := [], live := [], outs := [] }
def iTime_C : Spec := (add noS 84 iwithin_s)
theorem iTime_C_ok : ∀ fn, Sound Kx fn (iTime_C fn) := (sound_add (sound_no Kx) iwithin_ok)
def iTime_br (n : Int) : Br := (Br.ite (decide ((0 : Int) ≤ n)) (Br.ret (AV.bool (decide (n ≤ (253402300799 : Int)))) ([] : (List (Ob)))) (Br.ret (AV.bool false) ([] : (List (Ob)))))
theorem iTime_run (n : Int) : runF Kx iTime_C iTime_O 1 Tryz.f81 ([.int .i64 n]) ([]) = (iTime_br n).val := by kernel_rfl
def iTime_s : List AV → List Ob → Br
  | [.int .i64 n], [] => iTime_br n
  | _, _ => .fail
theorem iTime_ok : Sound Kx 81 iTime_s := by
  refine sound_run (C := iTime_C) (O := iTime_O) KOk iTime_C_ok Tryz.func81 (by kernel_rfl) fun args objs res os h => ?_
  unfold iTime_s at h
  split at h
  · exact ⟨1, (iTime_run _).trans h⟩
  · cases h

/-! spec.l2time -/
def sTime_O : Opt := { cons := [], keepNil := false, mutF := [], live := [], outs := [] }
def sTime_br (n : Int) : Br := (Br.ite (decide ((0 : Int) ≤ n)) (Br.ret (AV.bool (decide (n ≤ (253402300799 : Int)))) ([] : (List (Ob)))) (Br.ret (AV.bool false) ([] : (List (Ob)))))
theorem sTime_run (n : Int) : runF Kx noS sTime_O 1 Tryz.f77 ([.int .i64 n]) ([]) = (sTime_br n).val := by kernel_rfl
def sTime_s : List AV → List Ob → Br
  | [.int .i64 n], [] => sTime_br n
  | _, _ => .fail
theorem sTime_ok : Sound Kx 77 sTime_s := by
  refine sound_run (C := noS) (O := sTime_O) KOk (sound_no Kx) Tryz.func77 (by kernel_rfl) fun args objs res os h => ?_
  unfold sTime_s at h
  split at h
  · exact ⟨1, (sTime_run _).trans h⟩
  · cases h

/-! impl.WriteMsg -/
/-! spec.WriteMsg -/
/-! laws.szEntry -/
def szEntry_O : Opt := { cons := [], keepNil := false, mutF := [], live := [], outs := [] }
def szEntry_C : Spec := (add (add noS 28 (szFieldS_sOf fun l left => .ite (smF l && okLeft left) (.ret (.int .i64 (szFl l left)) []) .fail)) 36 szM_s)
theorem szEntry_C_ok : ∀ fn, Sound Kx fn (szEntry_C fn) := (sound_add (sound_add (sound_no Kx) szFieldS_okQ) szMsg_okQ)
def szEntry_br (ur : Bytes) (t1 t2 : Int) (ak : List Fd) (me ta : Bytes) (st : Int) (re : Bytes) (ba : Bool) (fs : List Fd) (bo : Bytes) (left : Int) : Br := (Br.ite (decide ((wk64 (left - ((List.length ur) : Int))) < (0 : Int))) (Br.ret (AV.int .i64 (-(1 : Int))) ([] : (List (Ob)))) (Br.ite ((smF ak) && (okLeft (wk64 (left - ((List.length ur) : Int))))) (Br.ite (decide ((szFl ak (wk64 (left - ((List.length ur) : Int)))) < (0 : Int))) (Br.ret (AV.int .i64 (-(1 : Int))) ([] : (List (Ob)))) (Br.ite ((smM me ta re fs bo) && (okLeft (szFl ak (wk64 (left - ((List.length ur) : Int)))))) (Br.ite (decide ((szM (msgW me ta re fs bo) (szFl ak (wk64 (left - ((List.length ur) : Int))))) < (0 : Int))) (Br.ret (AV.int .i64 (-(1 : Int))) ([] : (List (Ob)))) (Br.ret (AV.int .i64 (szM (msgW me ta re fs bo) (szFl ak (wk64 (left - ((List.length ur) : Int)))))) ([] : (List (Ob))))) Br.fail)) Br.fail))
theorem szEntry_run (ur : Bytes) (t1 t2 : Int) (ak : List Fd) (me ta : Bytes) (st : Int) (re : Bytes) (ba : Bool) (fs : List Fd) (bo : Bytes) (left : Int) : runF Kx szEntry_C szEntry_O 1 Tryz.f10 ([.agg [.str ur, .int .i64 t1, .int .i64 t2, .sh (.pair .str .str) ak, .str me, .str ta, .int .i64 st, .str re, .bool ba, .sh (.pair .str .str) fs, .str bo], .int .i64 left]) ([]) = (szEntry_br ur t1 t2 ak me ta st re ba fs bo left).val := by kernel_rfl
def szEntry_s : List AV → List Ob → Br
  | [.agg [.str ur, .int .i64 t1, .int .i64 t2, .sh (.pair .str .str) ak, .str me, .str ta, .int .i64 st, .str re, .bool ba, .sh (.pair .str .str) fs, .str bo], .int .i64 left], [] => szEntry_br ur t1 t2 ak me ta st re ba fs bo left
  | _, _ => .fail
theorem szEntry_ok : Sound Kx 10 szEntry_s := by
  refine sound_run (C := szEntry_C) (O := szEntry_O) KOk szEntry_C_ok Tryz.func10 (by kernel_rfl) fun args objs res os h => ?_
  unfold szEntry_s at h
  split at h
  · exact ⟨1, (szEntry_run _ _ _ _ _ _ _ _ _ _ _ _).trans h⟩
  · cases h

/-! laws.toEntry -/
def toEntry_O : Opt := { cons := [], keepNil := false, mutF := [], live := [], outs := [] }
def toEntry_C : Spec := (add (add noS 30 (toFieldS_sOf fun l => .ite (decide (l.length ≤ 1048576)) (.ret (.ref 0 0) [.arr (.pair .str .str) 0 false l]) .fail)) 39 toMsg_s)
theorem toEntry_C_ok : ∀ fn, Sound Kx fn (toEntry_C fn) := (sound_add (sound_add (sound_no Kx) toFieldS_okQ) toMsg_ok)
def toEntry_br (ur : Bytes) (t1 t2 : Int) (ak : List Fd) (me ta : Bytes) (st : Int) (re : Bytes) (ba : Bool) (fs : List Fd) (bo : Bytes) : Br := (Br.ite (decide ((List.length ak) ≤ (1048576 : Nat))) (Br.ite (decide ((List.length fs) ≤ (1048576 : Nat))) (Br.ret (AV.agg ((AV.str ur) :: ((AV.int .i64 t1) :: ((AV.int .i64 t2) :: ((AV.ref (0 : Nat) (0 : Nat)) :: ((AV.str me) :: ((AV.str ta) :: ((AV.int .i64 st) :: ((AV.str re) :: ((AV.bool ba) :: ((AV.ref (1 : Nat) (0 : Nat)) :: ((AV.str bo) :: ([] : (List (AV))))))))))))))) ((Ob.arr (Ty.pair Ty.str Ty.str) (0 : Nat) false ak) :: ((Ob.arr (Ty.pair Ty.str Ty.str) (0 : Nat) false fs) :: ([] : (List (Ob)))))) Br.fail) Br.fail)
theorem toEntry_run (ur : Bytes) (t1 t2 : Int) (ak : List Fd) (me ta : Bytes) (st : Int) (re : Bytes) (ba : Bool) (fs : List Fd) (bo : Bytes) : runF Kx toEntry_C toEntry_O 1 Tryz.f12 ([.agg [.str ur, .int .i64 t1, .int .i64 t2, .sh (.pair .str .str) ak, .str me, .str ta, .int .i64 st, .str re, .bool ba, .sh (.pair .str .str) fs, .str bo]]) ([]) = (toEntry_br ur t1 t2 ak me ta st re ba fs bo).val := by kernel_rfl
def toEntry_s : List AV → List Ob → Br
  | [.agg [.str ur, .int .i64 t1, .int .i64 t2, .sh (.pair .str .str) ak, .str me, .str ta, .int .i64 st, .str re, .bool ba, .sh (.pair .str .str) fs, .str bo]], [] => toEntry_br ur t1 t2 ak me ta st re ba fs bo
  | _, _ => .fail
theorem toEntry_ok : Sound Kx 12 toEntry_s := by
  refine sound_run (C := toEntry_C) (O := toEntry_O) KOk toEntry_C_ok Tryz.func12 (by kernel_rfl) fun args objs res os h => ?_
  unfold toEntry_s at h
  split at h
  · exact ⟨1, (toEntry_run _ _ _ _ _ _ _ _ _ _ _).trans h⟩
  · cases h

/-! laws.eqEntry -/
def eqEntry_O : Opt := { cons := [], keepNil := false, mutF := [], live := [], outs := [] }
def eqEntry_C : Spec := (add (add noS 24 (eqFieldS_sOf fun l l' => .ite (decide (l.length ≤ 4611686018427387904)) (.ret (.bool (decide (l = l'))) []) .fail)) 42 eqm_s)
theorem eqEntry_C_ok : ∀ fn, Sound Kx fn (eqEntry_C fn) := (sound_add (sound_add (sound_no Kx) eqFieldS_okQ) eqMsg_okQ)
def eqEntry_br (ur : Bytes) (t1 t2 : Int) (ak : List Fd) (me ta : Bytes) (st : Int) (re : Bytes) (ba : Bool) (fs : List Fd) (bo : Bytes) (ur' : Bytes) (t1' t2' : Int) (ak' : List Fd) (me' ta' : Bytes) (st' : Int) (re' : Bytes) (ba' : Bool) (fs' : List Fd) (bo' : Bytes) : Br := (Br.ite (!(decide (ur = ur'))) (Br.ret (AV.bool false) ([] : (List (Ob)))) (Br.ite (!(decide (t1 = t1'))) (Br.ret (AV.bool false) ([] : (List (Ob)))) (Br.ite (!(decide (t2 = t2'))) (Br.ret (AV.bool false) ([] : (List (Ob)))) (Br.ite (decide ((List.length ak) ≤ (4611686018427387904 : Nat))) (Br.ite (!(decide (ak = ak'))) (Br.ret (AV.bool false) ([] : (List (Ob)))) (Br.ite ((((((((decide (me = me')) && (decide (ta = ta'))) && (decide (st = st'))) && (decide (re = re'))) && (decide (ba = ba'))) && (decide (fs = fs'))) && (decide (bo = bo'))) && (decide ((List.length fs) ≤ (1048576 : Nat)))) (Br.ret (AV.bool true) ([] : (List (Ob)))) Br.fail)) Br.fail))))
theorem eqEntry_run (ur : Bytes) (t1 t2 : Int) (ak : List Fd) (me ta : Bytes) (st : Int) (re : Bytes) (ba : Bool) (fs : List Fd) (bo : Bytes) (ur' : Bytes) (t1' t2' : Int) (ak' : List Fd) (me' ta' : Bytes) (st' : Int) (re' : Bytes) (ba' : Bool) (fs' : List Fd) (bo' : Bytes) : runF Kx eqEntry_C eqEntry_O 1 Tryz.f14 ([.agg [.str ur, .int .i64 t1, .int .i64 t2, .sh (.pair .str .str) ak, .str me, .str ta, .int .i64 st, .str re, .bool ba, .sh (.pair .str .str) fs, .str bo], .agg [.str ur', .int .i64 t1', .int .i64 t2', .sh (.pair .str .str) ak', .str me', .str ta', .int .i64 st', .str re', .bool ba', .sh (.pair .str .str) fs', .str bo']]) ([]) = (eqEntry_br ur t1 t2 ak me ta st re ba fs bo ur' t1' t2' ak' me' ta' st' re' ba' fs' bo').val := by kernel_rfl
def eqEntry_s : List AV → List Ob → Br
  | [.agg [.str ur, .int .i64 t1, .int .i64 t2, .sh (.pair .str .str) ak, .str me, .str ta, .int .i64 st, .str re, .bool ba, .sh (.pair .str .str) fs, .str bo], .agg [.str ur', .int .i64 t1', .int .i64 t2', .sh (.pair .str .str) ak', .str me', .str ta', .int .i64 st', .str re', .bool ba', .sh (.pair .str .str) fs', .str bo']], [] => eqEntry_br ur t1 t2 ak me ta st re ba fs bo ur' t1' t2' ak' me' ta' st' re' ba' fs' bo'
  | _, _ => .fail
theorem eqEntry_ok : Sound Kx 14 eqEntry_s := by
  refine sound_run (C := eqEntry_C) (O := eqEntry_O) KOk eqEntry_C_ok Tryz.func14 (by kernel_rfl) fun args objs res os h => ?_
  unfold eqEntry_s at h
  split at h
  · exact ⟨1, (eqEntry_run _ _ _ _ _ _ _ _ _ _ _ _ _ _ _ _ _ _ _ _ _ _).trans h⟩
  · cases h

end
end Go.Proofs.YtmmjaomfonknnaaGreatDoor.Ev

namespace Go.Proofs.YtmmjaomfonknnaaGreatDoor.Ev
open Go Go.RowKit
set_option linter.unusedVariables false
set_option linter.unusedSimpArgs false
noncomputable section

theorem iIsCan_okQ : Sound Kx 80 (t1_s fun s => .bool (isCanP s)) := iIsCan_ok.of fun args objs r h => by
  unfold t1_s at h
  split at h
  case h_2 => cases h
  rename_i s
  obtain ⟨hM, h2⟩ := ite_some h
  cases h2
  show (iIsCan_br s).val = some (.bool (isCanP s), [])
  unfold iIsCan_br isCanP
  refine (val_t hM).trans ?_
  cases (canonP s).2 <;> rfl
theorem sIsCan_okQ : Sound Kx 76 (t1_s fun s => .bool (isCanP s)) := sIsCan_ok.of fun args objs r h => by
  unfold t1_s at h
  split at h
  case h_2 => cases h
  rename_i s
  obtain ⟨hM, h2⟩ := ite_some h
  cases h2
  show (sIsCan_br s).val = some (.bool (isCanP s), [])
  unfold sIsCan_br isCanP
  refine (val_t hM).trans ?_
  cases (canonP s).2 <;> rfl
theorem iTime_okQ : Sound Kx 81 (pn_s timB) := of_pn iTime_ok fun b => v_and _ _
theorem sTime_okQ : Sound Kx 77 (pn_s timB) := of_pn sTime_ok fun b => v_and _ _
/-! entries -/
abbrev En := Bytes × Int × Int × List Fd × Mg
def en_s (g : En → Bool) (p : En → AV) : List AV → List Ob → Br
  | [.agg [.str ur, .int .i64 t1, .int .i64 t2, .sh (.pair .str .str) ak, .str me, .str ta, .int .i64 st, .str re, .bool ba, .sh (.pair .str .str) fs, .str bo]], [] =>
    .ite (g (ur, t1, t2, ak, me, ta, st, re, ba, fs, bo)) (.ret (p (ur, t1, t2, ak, me, ta, st, re, ba, fs, bo)) []) .fail
  | _, _ => .fail
theorem of_en {n : Nat} {s : List AV → List Ob → Br} (hs : Sound Kx n s) {g : En → Bool} {p : En → AV}
    (h : ∀ ur t1 t2 ak me ta st re ba fs bo, g (ur, t1, t2, ak, me, ta, st, re, ba, fs, bo) = true → (s [.agg [.str ur, .int .i64 t1, .int .i64 t2, .sh (.pair .str .str) ak, .str me, .str ta, .int .i64 st, .str re, .bool ba, .sh (.pair .str .str) fs, .str bo]] []).val = some (p (ur, t1, t2, ak, me, ta, st, re, ba, fs, bo), [])) : Sound Kx n (en_s g p) := hs.of fun args objs r hv => by
  unfold en_s at hv
  split at hv
  case h_2 => cases hv
  obtain ⟨h1, h2⟩ := ite_some hv
  cases h2
  exact h _ _ _ _ _ _ _ _ _ _ _ h1
def smE (e : En) : Bool := isM e.1 && smF e.2.2.2.1 && smM e.2.2.2.2.1 e.2.2.2.2.2.1 e.2.2.2.2.2.2.2.1 e.2.2.2.2.2.2.2.2.2.1 e.2.2.2.2.2.2.2.2.2.2
def enW (e : En) : Int := (e.1.length : Int) + ((e.2.2.2.1.length : Int) + totF e.2.2.2.1) + msgW e.2.2.2.2.1 e.2.2.2.2.2.1 e.2.2.2.2.2.2.2.1 e.2.2.2.2.2.2.2.2.2.1 e.2.2.2.2.2.2.2.2.2.2
theorem msgW_nn (me ta re : Bytes) (fs : List Fd) (bo : Bytes) : 0 ≤ msgW me ta re fs bo := by
  have := totF_nn fs
  unfold msgW; omega
def szE_s : List AV → List Ob → Br
  | [.agg [.str ur, .int .i64 t1, .int .i64 t2, .sh (.pair .str .str) ak, .str me, .str ta, .int .i64 st, .str re, .bool ba, .sh (.pair .str .str) fs, .str bo], .int .i64 left], [] =>
    .ite (smE (ur, t1, t2, ak, me, ta, st, re, ba, fs, bo) && okLeft left) (.ret (.int .i64 (szM (enW (ur, t1, t2, ak, me, ta, st, re, ba, fs, bo)) left)) []) .fail
  | _, _ => .fail
theorem szEntry_okQ : Sound Kx 10 szE_s := szEntry_ok.of fun args objs r h => by
  unfold szE_s at h
  split at h
  case h_2 => cases h
  rename_i ur t1 t2 ak me ta st re ba fs bo left
  obtain ⟨h1, h2⟩ := ite_some h
  cases h2
  show (szEntry_br ur t1 t2 ak me ta st re ba fs bo left).val = some (.int .i64 (szM (enW (ur, t1, t2, ak, me, ta, st, re, ba, fs, bo)) left), [])
  simp only [smE, Bool.and_eq_true] at h1
  obtain ⟨⟨⟨m1, m2⟩, m3⟩, h0⟩ := h1
  have g1 := isM_le m1
  simp only [okLeft, Bool.and_eq_true, decide_eq_true_eq] at h0
  have ha := totF_nn ak
  have hm := msgW_nn me ta re fs bo
  unfold szEntry_br enW
  simp only
  rw [w64 (n := left - _) (by omega) (by omega)]
  by_cases c1 : left - (ur.length : Int) < 0
  · rw [val_t (decide_eq_true c1)]
    unfold szM
    rw [decide_eq_false (by omega)]; rfl
  rw [val_f (decide_eq_false c1)]
  have hk : okLeft (left - (ur.length : Int)) = true := by simp only [okLeft, Bool.and_eq_true, decide_eq_true_eq]; omega
  refine (val_t (by rw [m2, hk]; rfl)).trans ?_
  unfold szFl
  by_cases c4 : (ak.length : Int) + totF ak ≤ left - (ur.length : Int)
  · simp only [decide_eq_true c4, cond_true]
    refine (val_f (decide_eq_false (by omega))).trans ?_
    have hk2 : okLeft (left - (ur.length : Int) - ((ak.length : Int) + totF ak)) = true := by simp only [okLeft, Bool.and_eq_true, decide_eq_true_eq]; omega
    refine (val_t (by rw [m3, hk2]; rfl)).trans ?_
    unfold szM
    by_cases c5 : msgW me ta re fs bo ≤ left - (ur.length : Int) - ((ak.length : Int) + totF ak)
    · simp only [decide_eq_true c5, cond_true]
      refine (val_f (decide_eq_false (by omega))).trans ?_
      rw [decide_eq_true (by omega), cond_true, val_ret]
      rw [show left - (ur.length : Int) - ((ak.length : Int) + totF ak) - msgW me ta re fs bo = left - ((ur.length : Int) + ((ak.length : Int) + totF ak) + msgW me ta re fs bo) by omega]
    · simp only [decide_eq_false c5, cond_false]
      refine (val_t (by decide)).trans ?_
      rw [decide_eq_false (by omega)]; rfl
  · simp only [decide_eq_false c4, cond_false]
    refine (val_t (by decide)).trans ?_
    unfold szM
    rw [decide_eq_false (by omega)]; rfl
/-- Two entries that are the same. -/
def eqEb (a b : En) : Bool := decide (a.1 = b.1) && decide (a.2.1 = b.2.1) && decide (a.2.2.1 = b.2.2.1) && decide (a.2.2.2.1 = b.2.2.2.1) && decide (a.2.2.2.2.1 = b.2.2.2.2.1) && decide (a.2.2.2.2.2.1 = b.2.2.2.2.2.1) && decide (a.2.2.2.2.2.2.1 = b.2.2.2.2.2.2.1) && decide (a.2.2.2.2.2.2.2.1 = b.2.2.2.2.2.2.2.1) && decide (a.2.2.2.2.2.2.2.2.1 = b.2.2.2.2.2.2.2.2.1) && decide (a.2.2.2.2.2.2.2.2.2.1 = b.2.2.2.2.2.2.2.2.2.1) && decide (a.2.2.2.2.2.2.2.2.2.2 = b.2.2.2.2.2.2.2.2.2.2)
theorem eqEb_self (a : En) : eqEb a a = true := by unfold eqEb; simp only [decide_true, Bool.and_self]
def eqE_s : List AV → List Ob → Br
  | [.agg [.str ur, .int .i64 t1, .int .i64 t2, .sh (.pair .str .str) ak, .str me, .str ta, .int .i64 st, .str re, .bool ba, .sh (.pair .str .str) fs, .str bo], .agg [.str ur', .int .i64 t1', .int .i64 t2', .sh (.pair .str .str) ak', .str me', .str ta', .int .i64 st', .str re', .bool ba', .sh (.pair .str .str) fs', .str bo']], [] =>
    .ite (eqEb (ur, t1, t2, ak, me, ta, st, re, ba, fs, bo) (ur', t1', t2', ak', me', ta', st', re', ba', fs', bo') && decide (ak.length ≤ 1048576) && decide (fs.length ≤ 1048576)) (.ret (.bool true) []) .fail
  | _, _ => .fail
theorem eqEntry_okQ : Sound Kx 14 eqE_s := eqEntry_ok.of fun args objs r h => by
  unfold eqE_s at h
  split at h
  case h_2 => cases h
  obtain ⟨h1, h2⟩ := ite_some h
  cases h2
  simp only [eqEb, Bool.and_eq_true, decide_eq_true_eq] at h1
  obtain ⟨⟨⟨⟨⟨⟨⟨⟨⟨⟨⟨⟨rfl, rfl⟩, rfl⟩, rfl⟩, rfl⟩, rfl⟩, rfl⟩, rfl⟩, rfl⟩, rfl⟩, rfl⟩, ha⟩, hl⟩ := h1
  rename_i ur t1 t2 ak me ta st re ba fs bo
  show (eqEntry_br ur t1 t2 ak me ta st re ba fs bo ur t1 t2 ak me ta st re ba fs bo).val = _
  unfold eqEntry_br
  simp only [decide_true, Bool.not_true, Bool.true_and]
  exact (val_f rfl).trans ((val_f rfl).trans ((val_f rfl).trans ((val_t (decide_eq_true (by omega))).trans ((val_f rfl).trans ((val_t (decide_eq_true hl)).trans rfl)))))
/-- Is it an entry? -/
def entP (e : En) : Bool :=
  isCanP e.1 && timB e.2.1 && timB e.2.2.1 && decide (e.2.1 ≤ e.2.2.1) && fdsOk e.2.2.2.1 && msgOkP e.2.2.2.2.1 e.2.2.2.2.2.1 e.2.2.2.2.2.2.1 e.2.2.2.2.2.2.2.1 e.2.2.2.2.2.2.2.2.1 e.2.2.2.2.2.2.2.2.2.1 e.2.2.2.2.2.2.2.2.2.2 && decide (e.2.2.2.2.1 = []) && !e.2.2.2.2.2.2.2.2.1
end
end Go.Proofs.YtmmjaomfonknnaaGreatDoor.Ev

namespace Go.Proofs.YtmmjaomfonknnaaGreatDoor.Ev
open Go Go.RowKit
set_option linter.unusedVariables false
set_option linter.unusedSimpArgs false
noncomputable section

/-! impl.EntryOk -/
def iEntryOk_O : Opt := { cons := [], keepNil := false, mutF := [], live := [], outs := [], split := true }
def iEntryOk_C : Spec := (add (add (add (add noS 80 (t1_s fun s => .bool (isCanP s))) 81 (pn_s timB)) 65 (fl_s fun l => .bool (fdsOk l))) 82 mgOk_s)
theorem iEntryOk_C_ok : ∀ fn, Sound Kx fn (iEntryOk_C fn) := (sound_add (sound_add (sound_add (sound_add (sound_no Kx) iIsCan_okQ) iTime_okQ) iFieldsOk_okQ) iMsgOk_okQ)
def iEntryOk_br (ur : Bytes) (t1 t2 : Int) (ak : List Fd) (me ta : Bytes) (st : Int) (re : Bytes) (ba : Bool) (fs : List Fd) (bo : Bytes) : Br := (Br.ite (isM ur) (Br.ite (isCanP ur) (Br.ite (timB t1) (Br.ite (timB t2) (Br.ite (decide (t1 ≤ t2)) (Br.ite (fdsOk ak) (Br.ite (msgOkP me ta st re ba fs bo) (Br.ite (decide (me = ([] : (List UInt8)))) (Br.ret (AV.bool (!ba)) ([] : (List (Ob)))) (Br.ret (AV.bool false) ([] : (List (Ob))))) (Br.ret (AV.bool false) ([] : (List (Ob))))) (Br.ret (AV.bool false) ([] : (List (Ob))))) (Br.ret (AV.bool false) ([] : (List (Ob))))) (Br.ret (AV.bool false) ([] : (List (Ob))))) (Br.ret (AV.bool false) ([] : (List (Ob))))) (Br.ret (AV.bool false) ([] : (List (Ob))))) Br.fail)
theorem iEntryOk_run (ur : Bytes) (t1 t2 : Int) (ak : List Fd) (me ta : Bytes) (st : Int) (re : Bytes) (ba : Bool) (fs : List Fd) (bo : Bytes) : runF Kx iEntryOk_C iEntryOk_O 1 Tryz.f40 ([.agg [.str ur, .int .i64 t1, .int .i64 t2, .sh (.pair .str .str) ak, .str me, .str ta, .int .i64 st, .str re, .bool ba, .sh (.pair .str .str) fs, .str bo]]) ([]) = (iEntryOk_br ur t1 t2 ak me ta st re ba fs bo).val := by kernel_rfl
def iEntryOk_s : List AV → List Ob → Br
  | [.agg [.str ur, .int .i64 t1, .int .i64 t2, .sh (.pair .str .str) ak, .str me, .str ta, .int .i64 st, .str re, .bool ba, .sh (.pair .str .str) fs, .str bo]], [] => iEntryOk_br ur t1 t2 ak me ta st re ba fs bo
  | _, _ => .fail
theorem iEntryOk_ok : Sound Kx 40 iEntryOk_s := by
  refine sound_run (C := iEntryOk_C) (O := iEntryOk_O) KOk iEntryOk_C_ok Tryz.func40 (by kernel_rfl) fun args objs res os h => ?_
  unfold iEntryOk_s at h
  split at h
  · exact ⟨1, (iEntryOk_run _ _ _ _ _ _ _ _ _ _ _).trans h⟩
  · cases h

/-! spec.EntryOk -/
def sEntryOk_O : Opt := { cons := [], keepNil := false, mutF := [], live := [], outs := [], split := true }
def sEntryOk_C : Spec := (add (add (add (add noS 76 (t1_s fun s => .bool (isCanP s))) 77 (pn_s timB)) 59 (fl_s fun l => .bool (fdsOk l))) 78 mgOk_s)
theorem sEntryOk_C_ok : ∀ fn, Sound Kx fn (sEntryOk_C fn) := (sound_add (sound_add (sound_add (sound_add (sound_no Kx) sIsCan_okQ) sTime_okQ) sFieldsOk_okQ) sMsgOk_okQ)
def sEntryOk_br (ur : Bytes) (t1 t2 : Int) (ak : List Fd) (me ta : Bytes) (st : Int) (re : Bytes) (ba : Bool) (fs : List Fd) (bo : Bytes) : Br := (Br.ite (isM ur) (Br.ite (isCanP ur) (Br.ite (timB t1) (Br.ite (timB t2) (Br.ite (decide (t1 ≤ t2)) (Br.ite (fdsOk ak) (Br.ite (msgOkP me ta st re ba fs bo) (Br.ite (decide (me = ([] : (List UInt8)))) (Br.ret (AV.bool (!ba)) ([] : (List (Ob)))) (Br.ret (AV.bool false) ([] : (List (Ob))))) (Br.ret (AV.bool false) ([] : (List (Ob))))) (Br.ret (AV.bool false) ([] : (List (Ob))))) (Br.ret (AV.bool false) ([] : (List (Ob))))) (Br.ret (AV.bool false) ([] : (List (Ob))))) (Br.ret (AV.bool false) ([] : (List (Ob))))) (Br.ret (AV.bool false) ([] : (List (Ob))))) Br.fail)
theorem sEntryOk_run (ur : Bytes) (t1 t2 : Int) (ak : List Fd) (me ta : Bytes) (st : Int) (re : Bytes) (ba : Bool) (fs : List Fd) (bo : Bytes) : runF Kx sEntryOk_C sEntryOk_O 1 Tryz.f37 ([.agg [.str ur, .int .i64 t1, .int .i64 t2, .sh (.pair .str .str) ak, .str me, .str ta, .int .i64 st, .str re, .bool ba, .sh (.pair .str .str) fs, .str bo]]) ([]) = (sEntryOk_br ur t1 t2 ak me ta st re ba fs bo).val := by kernel_rfl
def sEntryOk_s : List AV → List Ob → Br
  | [.agg [.str ur, .int .i64 t1, .int .i64 t2, .sh (.pair .str .str) ak, .str me, .str ta, .int .i64 st, .str re, .bool ba, .sh (.pair .str .str) fs, .str bo]], [] => sEntryOk_br ur t1 t2 ak me ta st re ba fs bo
  | _, _ => .fail
theorem sEntryOk_ok : Sound Kx 37 sEntryOk_s := by
  refine sound_run (C := sEntryOk_C) (O := sEntryOk_O) KOk sEntryOk_C_ok Tryz.func37 (by kernel_rfl) fun args objs res os h => ?_
  unfold sEntryOk_s at h
  split at h
  · exact ⟨1, (sEntryOk_run _ _ _ _ _ _ _ _ _ _ _).trans h⟩
  · cases h

end
end Go.Proofs.YtmmjaomfonknnaaGreatDoor.Ev

namespace Go.Proofs.YtmmjaomfonknnaaGreatDoor.Ev
open Go Go.RowKit
set_option linter.unusedVariables false
set_option linter.unusedSimpArgs false
noncomputable section
def ek_s : List AV → List Ob → Br := en_s (fun e => isM e.1) (fun e => .bool (entP e))
theorem iEntryOk_okQ : Sound Kx 40 ek_s := of_en iEntryOk_ok fun ur t1 t2 ak me ta st re ba fs bo h => by
  show (iEntryOk_br ur t1 t2 ak me ta st re ba fs bo).val = some (.bool (entP (ur, t1, t2, ak, me, ta, st, re, ba, fs, bo)), [])
  unfold iEntryOk_br entP
  refine (val_t h).trans ?_
  simp only
  cases isCanP ur <;> cases timB t1 <;> cases timB t2 <;> cases decide (t1 ≤ t2) <;> cases fdsOk ak <;> cases msgOkP me ta st re ba fs bo <;> cases decide (me = []) <;> rfl
theorem sEntryOk_okQ : Sound Kx 37 ek_s := of_en sEntryOk_ok fun ur t1 t2 ak me ta st re ba fs bo h => by
  show (sEntryOk_br ur t1 t2 ak me ta st re ba fs bo).val = some (.bool (entP (ur, t1, t2, ak, me, ta, st, re, ba, fs, bo)), [])
  unfold sEntryOk_br entP
  refine (val_t h).trans ?_
  simp only
  cases isCanP ur <;> cases timB t1 <;> cases timB t2 <;> cases decide (t1 ≤ t2) <;> cases fdsOk ak <;> cases msgOkP me ta st re ba fs bo <;> cases decide (me = []) <;> rfl
end
end Go.Proofs.YtmmjaomfonknnaaGreatDoor.Ev

namespace Go.Proofs.YtmmjaomfonknnaaGreatDoor.Ev
open Go Go.RowKit
set_option linter.unusedVariables false
set_option linter.unusedSimpArgs false
noncomputable section

/-! (impl.Entry).size -/
/-! spec.l15size -/
end
end Go.Proofs.YtmmjaomfonknnaaGreatDoor.Ev

namespace Go.Proofs.YtmmjaomfonknnaaGreatDoor.Ev
open Go Go.RowKit
set_option linter.unusedVariables false
set_option linter.unusedSimpArgs false
noncomputable section
end
end Go.Proofs.YtmmjaomfonknnaaGreatDoor.Ev

namespace Go.Proofs.YtmmjaomfonknnaaGreatDoor.Ev
open Go Go.RowKit
set_option linter.unusedVariables false
set_option linter.unusedSimpArgs false
noncomputable section

/-! impl.EntrySize -/
/-! spec.EntrySize -/
/-! (impl.Cache).size -/
/-! spec.l15sum -/
/-! laws.szEntryS -/
/-! laws.toEntryS -/
/-! laws.eqEntryS -/
end
end Go.Proofs.YtmmjaomfonknnaaGreatDoor.Ev

namespace Go.Proofs.YtmmjaomfonknnaaGreatDoor.Ev
open Go Go.RowKit
set_option linter.unusedVariables false
set_option linter.unusedSimpArgs false
noncomputable section
end
end Go.Proofs.YtmmjaomfonknnaaGreatDoor.Ev

namespace Go.Proofs.YtmmjaomfonknnaaGreatDoor.Ev
open Go Go.RowKit
set_option linter.unusedVariables false
set_option linter.unusedSimpArgs false
noncomputable section

/-! slices.Equal[[]string,string] -/
def eqSl_O : Opt := { cons := [], keepNil := false, mutF := [], live := [(4, [0, 1, 12, 13])], outs := [(4, [4])] }
def eqSl_T4 (v4x0 : (List (List UInt8))) (v4x1 : (List (List UInt8))) (v4x2 : Int) (v4x3 : Int) (kR4 : (List (List UInt8)) → (List (List UInt8)) → Int → Int → Option Rs) (k4e0 : Option Rs) (k4e1 : Option Rs) : Option Rs :=
  (bif (decide (v4x3 < v4x2)) then (bif (decide ((0 : Int) ≤ v4x3)) then (bif (decide (v4x3 < ((List.length v4x0) : Int))) then (bif (decide ((0 : Int) ≤ v4x3)) then (bif (decide (v4x3 < ((List.length v4x1) : Int))) then (bif (!(decide ((List.getD v4x0 (Int.toNat v4x3) ([] : (List UInt8))) = (List.getD v4x1 (Int.toNat v4x3) ([] : (List UInt8)))))) then k4e0 else (kR4 v4x0 v4x1 v4x2 (wk64 (v4x3 + (1 : Int))))) else (none)) else (none)) else (none)) else (none)) else k4e1)
def eqSl_F4 : Nat → (List (List UInt8)) → (List (List UInt8)) → Int → Int → (Option Rs) → (Option Rs) → Option Rs
  | 0, _, _, _, _, _, _ => none
  | n + 1, v4x0, v4x1, v4x2, v4x3, k4e0, k4e1 => eqSl_T4 v4x0 v4x1 v4x2 v4x3 (fun v4x0 v4x1 v4x2 v4x3 => eqSl_F4 n v4x0 v4x1 v4x2 v4x3 k4e0 k4e1) k4e0 k4e1
def eqSl_h4 (v4x0 : (List (List UInt8))) (v4x1 : (List (List UInt8))) (v4x2 : Int) (v4x3 : Int) : St := (St.mk (slots 0 26 [(0, (AV.sh Ty.str v4x0)), (1, (AV.sh Ty.str v4x1)), (12, (AV.int .i64 v4x2)), (13, (AV.int .i64 v4x3))]) ([] : (List (Nat × (Ob)))))
def eqSl_x4e0  : St := (St.mk (slots 0 26 [(4, (AV.bool false))]) ([] : (List (Nat × (Ob)))))
def eqSl_x4e1  : St := (St.mk (slots 0 26 []) ([] : (List (Nat × (Ob)))))
noncomputable def eqSl_b4 : Code := codeAt (codeOf Tryz.f74) [1, 1, 0, 1, 0, 0]
def eqSl_L4 (N : Nat) (st : St) (k : Ex → St → Option Rs) : Option Rs := match takeF [0, 1, 12, 13] 0 26 st.env, st.objs with
  | some [.sh Ty.str v4x0, .sh Ty.str v4x1, .int .i64 v4x2, .int .i64 v4x3], [] => eqSl_F4 N v4x0 v4x1 v4x2 v4x3 (k Ex.ret (eqSl_x4e0)) (k (Ex.exit (0 : Nat)) (eqSl_x4e1))
  | _, _ => none
def eqSl_L (N : Nat) : Lam := fun j st k => match j with
  | 4 => eqSl_L4 N st k
  | _ => none
theorem eqSl_round4 (N : Nat) (again : St → Option Rs) (k : Ex → St → Option Rs) (wv4x0 : (List (List UInt8))) (wv4x1 : (List (List UInt8))) (wv4x2 : Int) (wv4x3 : Int) (v4x0 : (List (List UInt8))) (v4x1 : (List (List UInt8))) (v4x2 : Int) (v4x3 : Int) :
    roundK 0 (fun st k => evL Kx noS eqSl_O 0 (eqSl_L N) eqSl_b4 st k) (eqSl_h4 wv4x0 wv4x1 wv4x2 wv4x3).env again (eqSl_h4 v4x0 v4x1 v4x2 v4x3) (outK eqSl_O 0 eqSl_b4 k) = eqSl_T4 v4x0 v4x1 v4x2 v4x3 (fun v4x0 v4x1 v4x2 v4x3 => again (eqSl_h4 v4x0 v4x1 v4x2 v4x3)) (k Ex.ret (eqSl_x4e0)) (k (Ex.exit (0 : Nat)) (eqSl_x4e1)) := by kernel_rfl
theorem eqSl_loop4 (N : Nat) (k : Ex → St → Option Rs) (wv4x0 : (List (List UInt8))) (wv4x1 : (List (List UInt8))) (wv4x2 : Int) (wv4x3 : Int) : ∀ (n : Nat) (v4x0 : (List (List UInt8))) (v4x1 : (List (List UInt8))) (v4x2 : Int) (v4x3 : Int),
    loopK 0 (fun st k => evL Kx noS eqSl_O 0 (eqSl_L N) eqSl_b4 st k) (eqSl_h4 wv4x0 wv4x1 wv4x2 wv4x3).env n (eqSl_h4 v4x0 v4x1 v4x2 v4x3) (outK eqSl_O 0 eqSl_b4 k) = eqSl_F4 n v4x0 v4x1 v4x2 v4x3 (k Ex.ret (eqSl_x4e0)) (k (Ex.exit (0 : Nat)) (eqSl_x4e1))
  | 0, _, _, _, _ => rfl
  | n + 1, v4x0, v4x1, v4x2, v4x3 => by
    rw [loopK_succ, eqSl_round4]
    simp only [eqSl_loop4 N k wv4x0 wv4x1 wv4x2 wv4x3 n]
    rfl
theorem eqSl_at4 (N : Nat) {s : St} {k : Ex → St → Option Rs} {r : Rs} (h : eqSl_L4 N s k = some r) : ∃ (v4x0 : (List (List UInt8))) (v4x1 : (List (List UInt8))) (v4x2 : Int) (v4x3 : Int), s = (eqSl_h4 v4x0 v4x1 v4x2 v4x3) ∧ eqSl_F4 N v4x0 v4x1 v4x2 v4x3 (k Ex.ret (eqSl_x4e0)) (k (Ex.exit (0 : Nat)) (eqSl_x4e1)) = some r := by
  cases s with | mk env objs =>
  unfold eqSl_L4 at h
  split at h
  · rename_i e1 e2
    have e3 := takeF_slots _ _ _ _ e1
    simp only at e2 e3
    subst e2 e3
    exact ⟨_, _, _, _, rfl, h⟩
  · cases h
theorem eqSl_in4 : loops eqSl_b4 = [] := by kernel_rfl
theorem eqSl_lid4 : lid eqSl_b4 = 4 := by kernel_rfl
theorem eqSl_ok4 (N : Nat) : OkL Kx noS eqSl_O 0 N (eqSl_L N) eqSl_b4 := by
  intro s k k' r hk h
  rw [eqSl_lid4] at h
  obtain ⟨v4x0, v4x1, v4x2, v4x3, rfl, h⟩ := eqSl_at4 N h
  refine loopL (Λ := eqSl_L N) eqSl_b4 ?_ N hk ((eqSl_loop4 N k v4x0 v4x1 v4x2 v4x3 N v4x0 v4x1 v4x2 v4x3).trans h)
  rw [eqSl_in4]
  exact fun _ h => nomatch h
def eqSl_run (N : Nat) (a b : List Bytes) : Option Rs := (bif (!(decide (((List.length a) : Int) = ((List.length b) : Int)))) then (some ((AV.bool false), ([] : (List (Ob))))) else (eqSl_F4 N a b ((List.length a) : Int) (0 : Int) (some ((AV.bool false), ([] : (List (Ob))))) (some ((AV.bool true), ([] : (List (Ob)))))))
theorem eqSl_runL (N : Nat) (a b : List Bytes) : runL Kx noS eqSl_O (eqSl_L N) Tryz.f74 ([.sh .str a, .sh .str b]) ([]) = eqSl_run N a b := by kernel_rfl
theorem eqSl_body : Tryz.f74.body = some (codeOf Tryz.f74) := by kernel_rfl
theorem eqSl_loops : loops (codeOf Tryz.f74) = [eqSl_b4] := by kernel_rfl
theorem eqSl_ev (N : Nat) (a b : List Bytes) {res_ : Rs} (hyp_ : eqSl_run N a b = some res_) : ∃ n_, runF Kx noS eqSl_O n_ Tryz.f74 ([.sh .str a, .sh .str b]) ([]) = some res_ :=
  ⟨N, runL_runF eqSl_body (by rw [eqSl_loops]; exact List.forall_mem_cons.2 ⟨eqSl_ok4 N, fun _ h => nomatch h⟩) ((eqSl_runL N a b).trans hyp_)⟩
def eqSl_sOf (φ : (List Bytes) → (List Bytes) → Br) : List AV → List Ob → Br
  | [.sh .str a, .sh .str b], [] => φ a b
  | _, _ => .fail
theorem eqSl_okOf {φ : (List Bytes) → (List Bytes) → Br} (fu : (List Bytes) → (List Bytes) → Nat) (hv : ∀ a b res_, (φ a b).val = some res_ → eqSl_run (fu a b) a b = some res_) : Sound Kx 74 (eqSl_sOf φ) := by
  refine sound_run (C := noS) (O := eqSl_O) KOk (sound_no Kx) Tryz.func74 (by kernel_rfl) fun args objs res os h => ?_
  unfold eqSl_sOf at h
  split at h
  · exact eqSl_ev _ _ _ (hv _ _ _ h)
  · cases h

/-! spec.l14sameTexts -/
def sSame_O : Opt := { cons := [], keepNil := false, mutF := [], live := [(4, [0, 1, 5])], outs := [(4, [4])] }
def sSame_T4 (v4x0 : (List (List UInt8))) (v4x1 : (List (List UInt8))) (v4x2 : Int) (kR4 : (List (List UInt8)) → (List (List UInt8)) → Int → Option Rs) (k4e0 : Option Rs) (k4e1 : Option Rs) : Option Rs :=
  (bif (decide (v4x2 < ((List.length v4x0) : Int))) then (bif (decide ((0 : Int) ≤ v4x2)) then (bif (decide (v4x2 < ((List.length v4x0) : Int))) then (bif (decide ((0 : Int) ≤ v4x2)) then (bif (decide (v4x2 < ((List.length v4x1) : Int))) then (bif (!(decide ((List.getD v4x0 (Int.toNat v4x2) ([] : (List UInt8))) = (List.getD v4x1 (Int.toNat v4x2) ([] : (List UInt8)))))) then k4e0 else (kR4 v4x0 v4x1 (wk64 (v4x2 + (1 : Int))))) else (none)) else (none)) else (none)) else (none)) else k4e1)
def sSame_F4 : Nat → (List (List UInt8)) → (List (List UInt8)) → Int → (Option Rs) → (Option Rs) → Option Rs
  | 0, _, _, _, _, _ => none
  | n + 1, v4x0, v4x1, v4x2, k4e0, k4e1 => sSame_T4 v4x0 v4x1 v4x2 (fun v4x0 v4x1 v4x2 => sSame_F4 n v4x0 v4x1 v4x2 k4e0 k4e1) k4e0 k4e1
def sSame_h4 (v4x0 : (List (List UInt8))) (v4x1 : (List (List UInt8))) (v4x2 : Int) : St := (St.mk (slots 0 26 [(0, (AV.sh Ty.str v4x0)), (1, (AV.sh Ty.str v4x1)), (5, (AV.int .i64 v4x2))]) ([] : (List (Nat × (Ob)))))
def sSame_x4e0  : St := (St.mk (slots 0 26 [(4, (AV.bool false))]) ([] : (List (Nat × (Ob)))))
def sSame_x4e1  : St := (St.mk (slots 0 26 []) ([] : (List (Nat × (Ob)))))
noncomputable def sSame_b4 : Code := codeAt (codeOf Tryz.f72) [1, 1, 0, 1, 0, 0]
def sSame_L4 (N : Nat) (st : St) (k : Ex → St → Option Rs) : Option Rs := match takeF [0, 1, 5] 0 26 st.env, st.objs with
  | some [.sh Ty.str v4x0, .sh Ty.str v4x1, .int .i64 v4x2], [] => sSame_F4 N v4x0 v4x1 v4x2 (k Ex.ret (sSame_x4e0)) (k (Ex.exit (0 : Nat)) (sSame_x4e1))
  | _, _ => none
def sSame_L (N : Nat) : Lam := fun j st k => match j with
  | 4 => sSame_L4 N st k
  | _ => none
theorem sSame_round4 (N : Nat) (again : St → Option Rs) (k : Ex → St → Option Rs) (wv4x0 : (List (List UInt8))) (wv4x1 : (List (List UInt8))) (wv4x2 : Int) (v4x0 : (List (List UInt8))) (v4x1 : (List (List UInt8))) (v4x2 : Int) :
    roundK 0 (fun st k => evL Kx noS sSame_O 0 (sSame_L N) sSame_b4 st k) (sSame_h4 wv4x0 wv4x1 wv4x2).env again (sSame_h4 v4x0 v4x1 v4x2) (outK sSame_O 0 sSame_b4 k) = sSame_T4 v4x0 v4x1 v4x2 (fun v4x0 v4x1 v4x2 => again (sSame_h4 v4x0 v4x1 v4x2)) (k Ex.ret (sSame_x4e0)) (k (Ex.exit (0 : Nat)) (sSame_x4e1)) := by kernel_rfl
theorem sSame_loop4 (N : Nat) (k : Ex → St → Option Rs) (wv4x0 : (List (List UInt8))) (wv4x1 : (List (List UInt8))) (wv4x2 : Int) : ∀ (n : Nat) (v4x0 : (List (List UInt8))) (v4x1 : (List (List UInt8))) (v4x2 : Int),
    loopK 0 (fun st k => evL Kx noS sSame_O 0 (sSame_L N) sSame_b4 st k) (sSame_h4 wv4x0 wv4x1 wv4x2).env n (sSame_h4 v4x0 v4x1 v4x2) (outK sSame_O 0 sSame_b4 k) = sSame_F4 n v4x0 v4x1 v4x2 (k Ex.ret (sSame_x4e0)) (k (Ex.exit (0 : Nat)) (sSame_x4e1))
  | 0, _, _, _ => rfl
  | n + 1, v4x0, v4x1, v4x2 => by
    rw [loopK_succ, sSame_round4]
    simp only [sSame_loop4 N k wv4x0 wv4x1 wv4x2 n]
    rfl
theorem sSame_at4 (N : Nat) {s : St} {k : Ex → St → Option Rs} {r : Rs} (h : sSame_L4 N s k = some r) : ∃ (v4x0 : (List (List UInt8))) (v4x1 : (List (List UInt8))) (v4x2 : Int), s = (sSame_h4 v4x0 v4x1 v4x2) ∧ sSame_F4 N v4x0 v4x1 v4x2 (k Ex.ret (sSame_x4e0)) (k (Ex.exit (0 : Nat)) (sSame_x4e1)) = some r := by
  cases s with | mk env objs =>
  unfold sSame_L4 at h
  split at h
  · rename_i e1 e2
    have e3 := takeF_slots _ _ _ _ e1
    simp only at e2 e3
    subst e2 e3
    exact ⟨_, _, _, rfl, h⟩
  · cases h
theorem sSame_in4 : loops sSame_b4 = [] := by kernel_rfl
theorem sSame_lid4 : lid sSame_b4 = 4 := by kernel_rfl
theorem sSame_ok4 (N : Nat) : OkL Kx noS sSame_O 0 N (sSame_L N) sSame_b4 := by
  intro s k k' r hk h
  rw [sSame_lid4] at h
  obtain ⟨v4x0, v4x1, v4x2, rfl, h⟩ := sSame_at4 N h
  refine loopL (Λ := sSame_L N) sSame_b4 ?_ N hk ((sSame_loop4 N k v4x0 v4x1 v4x2 N v4x0 v4x1 v4x2).trans h)
  rw [sSame_in4]
  exact fun _ h => nomatch h
def sSame_run (N : Nat) (a b : List Bytes) : Option Rs := (bif (!(decide (((List.length a) : Int) = ((List.length b) : Int)))) then (some ((AV.bool false), ([] : (List (Ob))))) else (sSame_F4 N a b (0 : Int) (some ((AV.bool false), ([] : (List (Ob))))) (some ((AV.bool true), ([] : (List (Ob)))))))
theorem sSame_runL (N : Nat) (a b : List Bytes) : runL Kx noS sSame_O (sSame_L N) Tryz.f72 ([.sh .str a, .sh .str b]) ([]) = sSame_run N a b := by kernel_rfl
theorem sSame_body : Tryz.f72.body = some (codeOf Tryz.f72) := by kernel_rfl
theorem sSame_loops : loops (codeOf Tryz.f72) = [sSame_b4] := by kernel_rfl
theorem sSame_ev (N : Nat) (a b : List Bytes) {res_ : Rs} (hyp_ : sSame_run N a b = some res_) : ∃ n_, runF Kx noS sSame_O n_ Tryz.f72 ([.sh .str a, .sh .str b]) ([]) = some res_ :=
  ⟨N, runL_runF sSame_body (by rw [sSame_loops]; exact List.forall_mem_cons.2 ⟨sSame_ok4 N, fun _ h => nomatch h⟩) ((sSame_runL N a b).trans hyp_)⟩
def sSame_sOf (φ : (List Bytes) → (List Bytes) → Br) : List AV → List Ob → Br
  | [.sh .str a, .sh .str b], [] => φ a b
  | _, _ => .fail
theorem sSame_okOf {φ : (List Bytes) → (List Bytes) → Br} (fu : (List Bytes) → (List Bytes) → Nat) (hv : ∀ a b res_, (φ a b).val = some res_ → sSame_run (fu a b) a b = some res_) : Sound Kx 72 (sSame_sOf φ) := by
  refine sound_run (C := noS) (O := sSame_O) KOk (sound_no Kx) Tryz.func72 (by kernel_rfl) fun args objs res os h => ?_
  unfold sSame_sOf at h
  split at h
  · exact sSame_ev _ _ _ (hv _ _ _ h)
  · cases h

end
end Go.Proofs.YtmmjaomfonknnaaGreatDoor.Ev

namespace Go.Proofs.YtmmjaomfonknnaaGreatDoor.Ev
open Go Go.RowKit
set_option linter.unusedVariables false
set_option linter.unusedSimpArgs false
noncomputable section
def tt_s : List AV → List Ob → Br
  | [.sh .str a, .sh .str b], [] => .ite (decide (a.length ≤ 1000000)) (.ret (.bool (decide (a = b))) []) .fail
  | _, _ => .fail
theorem eqSl_loop (a b : List Bytes) (hl : a.length ≤ 4611686018427387904) (k0 k1 : Option Rs) : ∀ (r r' : List Bytes) (i : Int) (n : Nat), At a i r → At b i r' → r.length = r'.length → r.length < n →
    eqSl_F4 n a b (a.length : Int) i k0 k1 = bif decide (r = r') then k1 else k0 := by
  intro r; induction r with
  | nil =>
    intro r' i n h h' he hn; obtain ⟨n, rfl⟩ := fuel hn
    obtain rfl : r' = [] := List.length_eq_zero_iff.1 he.symm
    unfold eqSl_F4 eqSl_T4; simp only [h.dge, cond_false, decide_true, cond_true]
  | cons x r ih =>
    intro r' i n h h' he hn; obtain ⟨n, rfl⟩ := fuel hn
    cases r' with
    | nil => cases he
    | cons y r' =>
      have hs := ih r' (i + 1) n h.step h'.step (by simpa using he) (by simp at hn; omega)
      unfold eqSl_F4 eqSl_T4; simp only [h.dlt, h'.dlt, h.dnn, h.get, h'.get, cond_true, h.next hl, hs]
      by_cases c1 : x = y <;> by_cases c2 : r = r' <;> simp [c1, c2]
theorem sSame_loop (a b : List Bytes) (hl : a.length ≤ 4611686018427387904) (k0 k1 : Option Rs) : ∀ (r r' : List Bytes) (i : Int) (n : Nat), At a i r → At b i r' → r.length = r'.length → r.length < n →
    sSame_F4 n a b i k0 k1 = bif decide (r = r') then k1 else k0 := by
  intro r; induction r with
  | nil =>
    intro r' i n h h' he hn; obtain ⟨n, rfl⟩ := fuel hn
    obtain rfl : r' = [] := List.length_eq_zero_iff.1 he.symm
    unfold sSame_F4 sSame_T4; simp only [h.dge, cond_false, decide_true, cond_true]
  | cons x r ih =>
    intro r' i n h h' he hn; obtain ⟨n, rfl⟩ := fuel hn
    cases r' with
    | nil => cases he
    | cons y r' =>
      have hs := ih r' (i + 1) n h.step h'.step (by simpa using he) (by simp at hn; omega)
      unfold sSame_F4 sSame_T4; simp only [h.dlt, h'.dlt, h.dnn, h.get, h'.get, cond_true, h.next hl, hs]
      by_cases c1 : x = y <;> by_cases c2 : r = r' <;> simp [c1, c2]
theorem eqSl_okQ : Sound Kx 74 tt_s := by
  refine (eqSl_okOf (φ := fun a b => .ite (decide (a.length ≤ 1000000)) (.ret (.bool (decide (a = b))) []) .fail) (fun a _ => a.length + 1) fun a b r h => ?_).of fun args objs r h => ?_
  · obtain ⟨h1, h2⟩ := ite_some h
    cases h2
    rw [decide_eq_true_eq] at h1
    unfold eqSl_run
    by_cases c : a.length = b.length
    · rw [decide_eq_true (show (a.length : Int) = (b.length : Int) by omega)]
      refine (eqSl_loop a b (by omega) _ _ a b 0 _ (At.start a) (At.start b) c (by omega)).trans ?_
      cases decide (a = b) <;> rfl
    · rw [decide_eq_false (show ¬ (a.length : Int) = (b.length : Int) by omega), decide_eq_false (show ¬ a = b from fun e => c (by rw [e]))]
      rfl
  · unfold tt_s at h; split at h
    · exact h
    · cases h
theorem sSame_okQ : Sound Kx 72 tt_s := by
  refine (sSame_okOf (φ := fun a b => .ite (decide (a.length ≤ 1000000)) (.ret (.bool (decide (a = b))) []) .fail) (fun a _ => a.length + 1) fun a b r h => ?_).of fun args objs r h => ?_
  · obtain ⟨h1, h2⟩ := ite_some h
    cases h2
    rw [decide_eq_true_eq] at h1
    unfold sSame_run
    by_cases c : a.length = b.length
    · rw [decide_eq_true (show (a.length : Int) = (b.length : Int) by omega)]
      refine (sSame_loop a b (by omega) _ _ a b 0 _ (At.start a) (At.start b) c (by omega)).trans ?_
      cases decide (a = b) <;> rfl
    · rw [decide_eq_false (show ¬ (a.length : Int) = (b.length : Int) by omega), decide_eq_false (show ¬ a = b from fun e => c (by rw [e]))]
      rfl
  · unfold tt_s at h; split at h
    · exact h
    · cases h
theorem ins_mem (s : Bytes) : ∀ (l : List Bytes) (x : Bytes), x ∈ insP l s → x = s ∨ x ∈ l
  | [], x, h => by simp [insP] at h; exact .inl h
  | a :: l, x, h => by
    unfold insP at h
    cases c : bytesLess s a
    · rw [c, cond_false] at h
      rcases List.mem_cons.1 h with rfl | h
      · exact .inr (List.mem_cons_self ..)
      · rcases ins_mem s l x h with h | h
        · exact .inl h
        · exact .inr (List.mem_cons_of_mem _ h)
    · rw [c, cond_true] at h
      rcases List.mem_cons.1 h with h | h
      · exact .inl h
      · exact .inr h
theorem put_mem (l : List Bytes) (s x : Bytes) (h : x ∈ putP l s) : x = s ∨ x ∈ l := by
  unfold putP at h
  cases c : inP l s
  · rw [c, cond_false] at h; exact ins_mem s l x h
  · rw [c, cond_true] at h; exact .inr h
theorem fold_put : ∀ (ws out : List Bytes), (∀ x ∈ out, x.length ≤ 4000) → (∀ x ∈ ws, x.length ≤ 4000) → ∀ x ∈ ws.foldl (fun o w => putP o (foldP w)) out, x.length ≤ 4000
  | [], out, h, _ => h
  | w :: ws, out, h, hw => by
    rw [List.foldl_cons]
    refine fold_put ws _ (fun x hx => ?_) fun x hx => hw x (List.mem_cons_of_mem _ hx)
    rcases put_mem _ _ _ hx with rfl | hx
    · rw [foldP_len]; exact hw w (List.mem_cons_self ..)
    · exact h x hx
theorem vary_mem (l : List Fd) : ∀ x ∈ varyP l, x.length ≤ 4000 := fold_put _ [] (fun x h => by cases h) fun x hx => (elem_bd _).2 x hx
end
end Go.Proofs.YtmmjaomfonknnaaGreatDoor.Ev

namespace Go.Proofs.YtmmjaomfonknnaaGreatDoor.Ev
open Go Go.RowKit
set_option linter.unusedVariables false
set_option linter.unusedSimpArgs false
noncomputable section

/-! impl.Chosen -/
def iChosen_O : Opt := { cons := [], keepNil := false, mutF := [], live := [(4, [1, 2, 18, 19, 20])], outs := [(4, [4])] }
def iChosen_C : Spec := (add (add (add (add (add noS 40 ek_s) 65 (fl_s fun l => .bool (fdsOk l))) 73 vaR_s) 68 wo_s) 74 tt_s)
theorem iChosen_C_ok : ∀ fn, Sound Kx fn (iChosen_C fn) := (sound_add (sound_add (sound_add (sound_add (sound_add (sound_no Kx) iEntryOk_okQ) iFieldsOk_okQ) iVary_okQ) iWords_okQ) eqSl_okQ)
def iChosen_T4 (v4x0 : (List ((List UInt8) × (List UInt8)))) (v4x1 : Int) (v4x2 : Int) (v4x3 : (List UInt8)) (v4x4 : Int) (v4x5 : Int) (v4x6 : (List ((List UInt8) × (List UInt8)))) (v4x7 : (List UInt8)) (v4x8 : (List UInt8)) (v4x9 : Int) (v4x10 : (List UInt8)) (v4x11 : Bool) (v4x12 : (List ((List UInt8) × (List UInt8)))) (v4x13 : (List UInt8)) (v4x14 : (List (List UInt8))) (kR4 : (List ((List UInt8) × (List UInt8))) → Int → Int → (List UInt8) → Int → Int → (List ((List UInt8) × (List UInt8))) → (List UInt8) → (List UInt8) → Int → (List UInt8) → Bool → (List ((List UInt8) × (List UInt8))) → (List UInt8) → (List (List UInt8)) → Option Rs) (k4e0 : Option Rs) (k4e1 : Option Rs) : Option Rs :=
  (bif (decide (v4x2 < v4x1)) then (bif (decide ((0 : Int) ≤ v4x2)) then (bif (decide (v4x2 < ((List.length v4x14) : Int))) then (bif (decide ((List.getD v4x14 (Int.toNat v4x2) ([] : (List UInt8))) = ((42 : UInt8) :: ([] : (List UInt8))))) then k4e0 else (bif (isM (List.getD v4x14 (Int.toNat v4x2) ([] : (List UInt8)))) then (bif (isM (List.getD v4x14 (Int.toNat v4x2) ([] : (List UInt8)))) then (bif (decide ((List.length (wordsP v4x6 (List.getD v4x14 (Int.toNat v4x2) ([] : (List UInt8))))) ≤ (1000000 : Nat))) then (bif (!(decide ((wordsP v4x6 (List.getD v4x14 (Int.toNat v4x2) ([] : (List UInt8)))) = (wordsP v4x0 (List.getD v4x14 (Int.toNat v4x2) ([] : (List UInt8))))))) then k4e0 else (kR4 v4x0 v4x1 (wk64 (v4x2 + (1 : Int))) v4x3 v4x4 v4x5 v4x6 v4x7 v4x8 v4x9 v4x10 v4x11 v4x12 v4x13 v4x14)) else (none)) else (none)) else (none))) else (none)) else (none)) else k4e1)
def iChosen_F4 : Nat → (List ((List UInt8) × (List UInt8))) → Int → Int → (List UInt8) → Int → Int → (List ((List UInt8) × (List UInt8))) → (List UInt8) → (List UInt8) → Int → (List UInt8) → Bool → (List ((List UInt8) × (List UInt8))) → (List UInt8) → (List (List UInt8)) → (Option Rs) → (Option Rs) → Option Rs
  | 0, _, _, _, _, _, _, _, _, _, _, _, _, _, _, _, _, _ => none
  | n + 1, v4x0, v4x1, v4x2, v4x3, v4x4, v4x5, v4x6, v4x7, v4x8, v4x9, v4x10, v4x11, v4x12, v4x13, v4x14, k4e0, k4e1 => iChosen_T4 v4x0 v4x1 v4x2 v4x3 v4x4 v4x5 v4x6 v4x7 v4x8 v4x9 v4x10 v4x11 v4x12 v4x13 v4x14 (fun v4x0 v4x1 v4x2 v4x3 v4x4 v4x5 v4x6 v4x7 v4x8 v4x9 v4x10 v4x11 v4x12 v4x13 v4x14 => iChosen_F4 n v4x0 v4x1 v4x2 v4x3 v4x4 v4x5 v4x6 v4x7 v4x8 v4x9 v4x10 v4x11 v4x12 v4x13 v4x14 k4e0 k4e1) k4e0 k4e1
def iChosen_h4 (v4x0 : (List ((List UInt8) × (List UInt8)))) (v4x1 : Int) (v4x2 : Int) (v4x3 : (List UInt8)) (v4x4 : Int) (v4x5 : Int) (v4x6 : (List ((List UInt8) × (List UInt8)))) (v4x7 : (List UInt8)) (v4x8 : (List UInt8)) (v4x9 : Int) (v4x10 : (List UInt8)) (v4x11 : Bool) (v4x12 : (List ((List UInt8) × (List UInt8)))) (v4x13 : (List UInt8)) (v4x14 : (List (List UInt8))) : St := (St.mk (slots 0 38 [(1, (AV.sh (Ty.pair Ty.str Ty.str) v4x0)), (2, (AV.ptr (192 : Nat) (0 : Nat))), (18, (AV.ref (1216 : Nat) (0 : Nat))), (19, (AV.int .i64 v4x1)), (20, (AV.int .i64 v4x2))]) (((192 : Nat), (Ob.var ((AV.str v4x3) :: ((AV.int .i64 v4x4) :: ((AV.int .i64 v4x5) :: ((AV.sh (Ty.pair Ty.str Ty.str) v4x6) :: ((AV.str v4x7) :: ((AV.str v4x8) :: ((AV.int .i64 v4x9) :: ((AV.str v4x10) :: ((AV.bool v4x11) :: ((AV.sh (Ty.pair Ty.str Ty.str) v4x12) :: ((AV.str v4x13) :: ([] : (List (AV)))))))))))))))) :: (((1216 : Nat), (Ob.arr Ty.str (0 : Nat) false v4x14)) :: ([] : (List (Nat × (Ob)))))))
def iChosen_x4e0  : St := (St.mk (slots 0 38 [(4, (AV.bool false))]) ([] : (List (Nat × (Ob)))))
def iChosen_x4e1  : St := (St.mk (slots 0 38 []) ([] : (List (Nat × (Ob)))))
noncomputable def iChosen_b4 : Code := codeAt (codeOf Tryz.f33) [1, 1, 0, 1, 0, 0]
def iChosen_L4 (N : Nat) (st : St) (k : Ex → St → Option Rs) : Option Rs := match takeF [1, 2, 18, 19, 20] 0 38 st.env, st.objs with
  | some [.sh (Ty.pair Ty.str Ty.str) v4x0, .ptr 192 0, .ref 1216 0, .int .i64 v4x1, .int .i64 v4x2], [(192, .var [.str v4x3, .int .i64 v4x4, .int .i64 v4x5, .sh (Ty.pair Ty.str Ty.str) v4x6, .str v4x7, .str v4x8, .int .i64 v4x9, .str v4x10, .bool v4x11, .sh (Ty.pair Ty.str Ty.str) v4x12, .str v4x13]), (1216, .arr Ty.str 0 false v4x14)] => iChosen_F4 N v4x0 v4x1 v4x2 v4x3 v4x4 v4x5 v4x6 v4x7 v4x8 v4x9 v4x10 v4x11 v4x12 v4x13 v4x14 (k Ex.ret (iChosen_x4e0)) (k (Ex.exit (0 : Nat)) (iChosen_x4e1))
  | _, _ => none
def iChosen_L (N : Nat) : Lam := fun j st k => match j with
  | 4 => iChosen_L4 N st k
  | _ => none
theorem iChosen_round4 (N : Nat) (again : St → Option Rs) (k : Ex → St → Option Rs) (wv4x0 : (List ((List UInt8) × (List UInt8)))) (wv4x1 : Int) (wv4x2 : Int) (wv4x3 : (List UInt8)) (wv4x4 : Int) (wv4x5 : Int) (wv4x6 : (List ((List UInt8) × (List UInt8)))) (wv4x7 : (List UInt8)) (wv4x8 : (List UInt8)) (wv4x9 : Int) (wv4x10 : (List UInt8)) (wv4x11 : Bool) (wv4x12 : (List ((List UInt8) × (List UInt8)))) (wv4x13 : (List UInt8)) (wv4x14 : (List (List UInt8))) (v4x0 : (List ((List UInt8) × (List UInt8)))) (v4x1 : Int) (v4x2 : Int) (v4x3 : (List UInt8)) (v4x4 : Int) (v4x5 : Int) (v4x6 : (List ((List UInt8) × (List UInt8)))) (v4x7 : (List UInt8)) (v4x8 : (List UInt8)) (v4x9 : Int) (v4x10 : (List UInt8)) (v4x11 : Bool) (v4x12 : (List ((List UInt8) × (List UInt8)))) (v4x13 : (List UInt8)) (v4x14 : (List (List UInt8))) :
    roundK 0 (fun st k => evL Kx iChosen_C iChosen_O 0 (iChosen_L N) iChosen_b4 st k) (iChosen_h4 wv4x0 wv4x1 wv4x2 wv4x3 wv4x4 wv4x5 wv4x6 wv4x7 wv4x8 wv4x9 wv4x10 wv4x11 wv4x12 wv4x13 wv4x14).env again (iChosen_h4 v4x0 v4x1 v4x2 v4x3 v4x4 v4x5 v4x6 v4x7 v4x8 v4x9 v4x10 v4x11 v4x12 v4x13 v4x14) (outK iChosen_O 0 iChosen_b4 k) = iChosen_T4 v4x0 v4x1 v4x2 v4x3 v4x4 v4x5 v4x6 v4x7 v4x8 v4x9 v4x10 v4x11 v4x12 v4x13 v4x14 (fun v4x0 v4x1 v4x2 v4x3 v4x4 v4x5 v4x6 v4x7 v4x8 v4x9 v4x10 v4x11 v4x12 v4x13 v4x14 => again (iChosen_h4 v4x0 v4x1 v4x2 v4x3 v4x4 v4x5 v4x6 v4x7 v4x8 v4x9 v4x10 v4x11 v4x12 v4x13 v4x14)) (k Ex.ret (iChosen_x4e0)) (k (Ex.exit (0 : Nat)) (iChosen_x4e1)) := by kernel_rfl
theorem iChosen_loop4 (N : Nat) (k : Ex → St → Option Rs) (wv4x0 : (List ((List UInt8) × (List UInt8)))) (wv4x1 : Int) (wv4x2 : Int) (wv4x3 : (List UInt8)) (wv4x4 : Int) (wv4x5 : Int) (wv4x6 : (List ((List UInt8) × (List UInt8)))) (wv4x7 : (List UInt8)) (wv4x8 : (List UInt8)) (wv4x9 : Int) (wv4x10 : (List UInt8)) (wv4x11 : Bool) (wv4x12 : (List ((List UInt8) × (List UInt8)))) (wv4x13 : (List UInt8)) (wv4x14 : (List (List UInt8))) : ∀ (n : Nat) (v4x0 : (List ((List UInt8) × (List UInt8)))) (v4x1 : Int) (v4x2 : Int) (v4x3 : (List UInt8)) (v4x4 : Int) (v4x5 : Int) (v4x6 : (List ((List UInt8) × (List UInt8)))) (v4x7 : (List UInt8)) (v4x8 : (List UInt8)) (v4x9 : Int) (v4x10 : (List UInt8)) (v4x11 : Bool) (v4x12 : (List ((List UInt8) × (List UInt8)))) (v4x13 : (List UInt8)) (v4x14 : (List (List UInt8))),
    loopK 0 (fun st k => evL Kx iChosen_C iChosen_O 0 (iChosen_L N) iChosen_b4 st k) (iChosen_h4 wv4x0 wv4x1 wv4x2 wv4x3 wv4x4 wv4x5 wv4x6 wv4x7 wv4x8 wv4x9 wv4x10 wv4x11 wv4x12 wv4x13 wv4x14).env n (iChosen_h4 v4x0 v4x1 v4x2 v4x3 v4x4 v4x5 v4x6 v4x7 v4x8 v4x9 v4x10 v4x11 v4x12 v4x13 v4x14) (outK iChosen_O 0 iChosen_b4 k) = iChosen_F4 n v4x0 v4x1 v4x2 v4x3 v4x4 v4x5 v4x6 v4x7 v4x8 v4x9 v4x10 v4x11 v4x12 v4x13 v4x14 (k Ex.ret (iChosen_x4e0)) (k (Ex.exit (0 : Nat)) (iChosen_x4e1))
  | 0, _, _, _, _, _, _, _, _, _, _, _, _, _, _, _ => rfl
  | n + 1, v4x0, v4x1, v4x2, v4x3, v4x4, v4x5, v4x6, v4x7, v4x8, v4x9, v4x10, v4x11, v4x12, v4x13, v4x14 => by
    rw [loopK_succ, iChosen_round4]
    simp only [iChosen_loop4 N k wv4x0 wv4x1 wv4x2 wv4x3 wv4x4 wv4x5 wv4x6 wv4x7 wv4x8 wv4x9 wv4x10 wv4x11 wv4x12 wv4x13 wv4x14 n]
    rfl
theorem iChosen_at4 (N : Nat) {s : St} {k : Ex → St → Option Rs} {r : Rs} (h : iChosen_L4 N s k = some r) : ∃ (v4x0 : (List ((List UInt8) × (List UInt8)))) (v4x1 : Int) (v4x2 : Int) (v4x3 : (List UInt8)) (v4x4 : Int) (v4x5 : Int) (v4x6 : (List ((List UInt8) × (List UInt8)))) (v4x7 : (List UInt8)) (v4x8 : (List UInt8)) (v4x9 : Int) (v4x10 : (List UInt8)) (v4x11 : Bool) (v4x12 : (List ((List UInt8) × (List UInt8)))) (v4x13 : (List UInt8)) (v4x14 : (List (List UInt8))), s = (iChosen_h4 v4x0 v4x1 v4x2 v4x3 v4x4 v4x5 v4x6 v4x7 v4x8 v4x9 v4x10 v4x11 v4x12 v4x13 v4x14) ∧ iChosen_F4 N v4x0 v4x1 v4x2 v4x3 v4x4 v4x5 v4x6 v4x7 v4x8 v4x9 v4x10 v4x11 v4x12 v4x13 v4x14 (k Ex.ret (iChosen_x4e0)) (k (Ex.exit (0 : Nat)) (iChosen_x4e1)) = some r := by
  cases s with | mk env objs =>
  unfold iChosen_L4 at h
  split at h
  · rename_i e1 e2
    have e3 := takeF_slots _ _ _ _ e1
    simp only at e2 e3
    subst e2 e3
    exact ⟨_, _, _, _, _, _, _, _, _, _, _, _, _, _, _, rfl, h⟩
  · cases h
theorem iChosen_in4 : loops iChosen_b4 = [] := by kernel_rfl
theorem iChosen_lid4 : lid iChosen_b4 = 4 := by kernel_rfl
theorem iChosen_ok4 (N : Nat) : OkL Kx iChosen_C iChosen_O 0 N (iChosen_L N) iChosen_b4 := by
  intro s k k' r hk h
  rw [iChosen_lid4] at h
  obtain ⟨v4x0, v4x1, v4x2, v4x3, v4x4, v4x5, v4x6, v4x7, v4x8, v4x9, v4x10, v4x11, v4x12, v4x13, v4x14, rfl, h⟩ := iChosen_at4 N h
  refine loopL (Λ := iChosen_L N) iChosen_b4 ?_ N hk ((iChosen_loop4 N k v4x0 v4x1 v4x2 v4x3 v4x4 v4x5 v4x6 v4x7 v4x8 v4x9 v4x10 v4x11 v4x12 v4x13 v4x14 N v4x0 v4x1 v4x2 v4x3 v4x4 v4x5 v4x6 v4x7 v4x8 v4x9 v4x10 v4x11 v4x12 v4x13 v4x14).trans h)
  rw [iChosen_in4]
  exact fun _ h => nomatch h
def iChosen_run (N : Nat) (ur : Bytes) (t1 t2 : Int) (ak : List Fd) (me ta : Bytes) (st : Int) (re : Bytes) (ba : Bool) (fs : List Fd) (bo : Bytes) (l : List Fd) : Option Rs := (bif (isM ur) then (bif (!(entP (ur, (t1, (t2, (ak, (me, (ta, (st, (re, (ba, (fs, bo)))))))))))) then (some ((AV.bool false), ([] : (List (Ob))))) else (bif (!(fdsOk l)) then (some ((AV.bool false), ([] : (List (Ob))))) else (iChosen_F4 N l ((List.length (varyP fs)) : Int) (0 : Int) ur t1 t2 ak me ta st re ba fs bo (varyP fs) (some ((AV.bool false), ([] : (List (Ob))))) (some ((AV.bool true), ([] : (List (Ob)))))))) else (none))
theorem iChosen_runL (N : Nat) (ur : Bytes) (t1 t2 : Int) (ak : List Fd) (me ta : Bytes) (st : Int) (re : Bytes) (ba : Bool) (fs : List Fd) (bo : Bytes) (l : List Fd) : runL Kx iChosen_C iChosen_O (iChosen_L N) Tryz.f33 ([.agg [.str ur, .int .i64 t1, .int .i64 t2, .sh (.pair .str .str) ak, .str me, .str ta, .int .i64 st, .str re, .bool ba, .sh (.pair .str .str) fs, .str bo], .sh (.pair .str .str) l]) ([]) = iChosen_run N ur t1 t2 ak me ta st re ba fs bo l := by kernel_rfl
theorem iChosen_body : Tryz.f33.body = some (codeOf Tryz.f33) := by kernel_rfl
theorem iChosen_loops : loops (codeOf Tryz.f33) = [iChosen_b4] := by kernel_rfl
theorem iChosen_ev (N : Nat) (ur : Bytes) (t1 t2 : Int) (ak : List Fd) (me ta : Bytes) (st : Int) (re : Bytes) (ba : Bool) (fs : List Fd) (bo : Bytes) (l : List Fd) {res_ : Rs} (hyp_ : iChosen_run N ur t1 t2 ak me ta st re ba fs bo l = some res_) : ∃ n_, runF Kx iChosen_C iChosen_O n_ Tryz.f33 ([.agg [.str ur, .int .i64 t1, .int .i64 t2, .sh (.pair .str .str) ak, .str me, .str ta, .int .i64 st, .str re, .bool ba, .sh (.pair .str .str) fs, .str bo], .sh (.pair .str .str) l]) ([]) = some res_ :=
  ⟨N, runL_runF iChosen_body (by rw [iChosen_loops]; exact List.forall_mem_cons.2 ⟨iChosen_ok4 N, fun _ h => nomatch h⟩) ((iChosen_runL N ur t1 t2 ak me ta st re ba fs bo l).trans hyp_)⟩
def iChosen_sOf (φ : Bytes → Int → Int → (List Fd) → Bytes → Bytes → Int → Bytes → Bool → (List Fd) → Bytes → (List Fd) → Br) : List AV → List Ob → Br
  | [.agg [.str ur, .int .i64 t1, .int .i64 t2, .sh (.pair .str .str) ak, .str me, .str ta, .int .i64 st, .str re, .bool ba, .sh (.pair .str .str) fs, .str bo], .sh (.pair .str .str) l], [] => φ ur t1 t2 ak me ta st re ba fs bo l
  | _, _ => .fail
theorem iChosen_okOf {φ : Bytes → Int → Int → (List Fd) → Bytes → Bytes → Int → Bytes → Bool → (List Fd) → Bytes → (List Fd) → Br} (fu : Bytes → Int → Int → (List Fd) → Bytes → Bytes → Int → Bytes → Bool → (List Fd) → Bytes → (List Fd) → Nat) (hv : ∀ ur t1 t2 ak me ta st re ba fs bo l res_, (φ ur t1 t2 ak me ta st re ba fs bo l).val = some res_ → iChosen_run (fu ur t1 t2 ak me ta st re ba fs bo l) ur t1 t2 ak me ta st re ba fs bo l = some res_) : Sound Kx 33 (iChosen_sOf φ) := by
  refine sound_run (C := iChosen_C) (O := iChosen_O) KOk iChosen_C_ok Tryz.func33 (by kernel_rfl) fun args objs res os h => ?_
  unfold iChosen_sOf at h
  split at h
  · exact iChosen_ev _ _ _ _ _ _ _ _ _ _ _ _ _ (hv _ _ _ _ _ _ _ _ _ _ _ _ _ h)
  · cases h

/-! spec.Chosen -/
def sChosen_O : Opt := { cons := [], keepNil := false, mutF := [], live := [(5, [1, 2, 5, 6])], outs := [(5, [4])], split := true }
def sChosen_C : Spec := (add (add (add (add (add noS 37 ek_s) 59 (fl_s fun l => .bool (fdsOk l))) 71 vaS_s) 61 wo_s) 72 tt_s)
theorem sChosen_C_ok : ∀ fn, Sound Kx fn (sChosen_C fn) := (sound_add (sound_add (sound_add (sound_add (sound_add (sound_no Kx) sEntryOk_okQ) sFieldsOk_okQ) sVary_okQ) sWords_okQ) sSame_okQ)
def sChosen_T5 (v5x0 : (List ((List UInt8) × (List UInt8)))) (v5x1 : (List (List UInt8))) (v5x2 : Int) (v5x3 : (List UInt8)) (v5x4 : Int) (v5x5 : Int) (v5x6 : (List ((List UInt8) × (List UInt8)))) (v5x7 : (List UInt8)) (v5x8 : (List UInt8)) (v5x9 : Int) (v5x10 : (List UInt8)) (v5x11 : Bool) (v5x12 : (List ((List UInt8) × (List UInt8)))) (v5x13 : (List UInt8)) (kR5 : (List ((List UInt8) × (List UInt8))) → (List (List UInt8)) → Int → (List UInt8) → Int → Int → (List ((List UInt8) × (List UInt8))) → (List UInt8) → (List UInt8) → Int → (List UInt8) → Bool → (List ((List UInt8) × (List UInt8))) → (List UInt8) → Option Rs) (k5e0 : Option Rs) (k5e1 : Option Rs) : Option Rs :=
  (bif (decide (v5x2 < ((List.length v5x1) : Int))) then (bif (decide ((0 : Int) ≤ v5x2)) then (bif (decide (v5x2 < ((List.length v5x1) : Int))) then (bif (decide ((List.getD v5x1 (Int.toNat v5x2) ([] : (List UInt8))) = ((42 : UInt8) :: ([] : (List UInt8))))) then k5e0 else (bif (decide ((0 : Int) ≤ v5x2)) then (bif (decide (v5x2 < ((List.length v5x1) : Int))) then (bif (isM (List.getD v5x1 (Int.toNat v5x2) ([] : (List UInt8)))) then (bif (decide ((0 : Int) ≤ v5x2)) then (bif (decide (v5x2 < ((List.length v5x1) : Int))) then (bif (isM (List.getD v5x1 (Int.toNat v5x2) ([] : (List UInt8)))) then (bif (decide ((List.length (wordsP v5x6 (List.getD v5x1 (Int.toNat v5x2) ([] : (List UInt8))))) ≤ (1000000 : Nat))) then (bif (decide ((wordsP v5x6 (List.getD v5x1 (Int.toNat v5x2) ([] : (List UInt8)))) = (wordsP v5x0 (List.getD v5x1 (Int.toNat v5x2) ([] : (List UInt8)))))) then (kR5 v5x0 v5x1 (wk64 (v5x2 + (1 : Int))) v5x3 v5x4 v5x5 v5x6 v5x7 v5x8 v5x9 v5x10 v5x11 v5x12 v5x13) else k5e0) else (none)) else (none)) else (none)) else (none)) else (none)) else (none)) else (none))) else (none)) else (none)) else k5e1)
def sChosen_F5 : Nat → (List ((List UInt8) × (List UInt8))) → (List (List UInt8)) → Int → (List UInt8) → Int → Int → (List ((List UInt8) × (List UInt8))) → (List UInt8) → (List UInt8) → Int → (List UInt8) → Bool → (List ((List UInt8) × (List UInt8))) → (List UInt8) → (Option Rs) → (Option Rs) → Option Rs
  | 0, _, _, _, _, _, _, _, _, _, _, _, _, _, _, _, _ => none
  | n + 1, v5x0, v5x1, v5x2, v5x3, v5x4, v5x5, v5x6, v5x7, v5x8, v5x9, v5x10, v5x11, v5x12, v5x13, k5e0, k5e1 => sChosen_T5 v5x0 v5x1 v5x2 v5x3 v5x4 v5x5 v5x6 v5x7 v5x8 v5x9 v5x10 v5x11 v5x12 v5x13 (fun v5x0 v5x1 v5x2 v5x3 v5x4 v5x5 v5x6 v5x7 v5x8 v5x9 v5x10 v5x11 v5x12 v5x13 => sChosen_F5 n v5x0 v5x1 v5x2 v5x3 v5x4 v5x5 v5x6 v5x7 v5x8 v5x9 v5x10 v5x11 v5x12 v5x13 k5e0 k5e1) k5e0 k5e1
def sChosen_h5 (v5x0 : (List ((List UInt8) × (List UInt8)))) (v5x1 : (List (List UInt8))) (v5x2 : Int) (v5x3 : (List UInt8)) (v5x4 : Int) (v5x5 : Int) (v5x6 : (List ((List UInt8) × (List UInt8)))) (v5x7 : (List UInt8)) (v5x8 : (List UInt8)) (v5x9 : Int) (v5x10 : (List UInt8)) (v5x11 : Bool) (v5x12 : (List ((List UInt8) × (List UInt8)))) (v5x13 : (List UInt8)) : St := (St.mk (slots 0 47 [(1, (AV.sh (Ty.pair Ty.str Ty.str) v5x0)), (2, (AV.ptr (192 : Nat) (0 : Nat))), (5, (AV.sh Ty.str v5x1)), (6, (AV.int .i64 v5x2))]) (((192 : Nat), (Ob.var ((AV.str v5x3) :: ((AV.int .i64 v5x4) :: ((AV.int .i64 v5x5) :: ((AV.sh (Ty.pair Ty.str Ty.str) v5x6) :: ((AV.str v5x7) :: ((AV.str v5x8) :: ((AV.int .i64 v5x9) :: ((AV.str v5x10) :: ((AV.bool v5x11) :: ((AV.sh (Ty.pair Ty.str Ty.str) v5x12) :: ((AV.str v5x13) :: ([] : (List (AV)))))))))))))))) :: ([] : (List (Nat × (Ob))))))
def sChosen_x5e0  : St := (St.mk (slots 0 47 [(4, (AV.bool false))]) ([] : (List (Nat × (Ob)))))
def sChosen_x5e1  : St := (St.mk (slots 0 47 []) ([] : (List (Nat × (Ob)))))
noncomputable def sChosen_b5 : Code := codeAt (codeOf Tryz.f32) [1, 1, 1, 0, 1, 0, 0]
def sChosen_L5 (N : Nat) (st : St) (k : Ex → St → Option Rs) : Option Rs := match takeF [1, 2, 5, 6] 0 47 st.env, st.objs with
  | some [.sh (Ty.pair Ty.str Ty.str) v5x0, .ptr 192 0, .sh Ty.str v5x1, .int .i64 v5x2], [(192, .var [.str v5x3, .int .i64 v5x4, .int .i64 v5x5, .sh (Ty.pair Ty.str Ty.str) v5x6, .str v5x7, .str v5x8, .int .i64 v5x9, .str v5x10, .bool v5x11, .sh (Ty.pair Ty.str Ty.str) v5x12, .str v5x13])] => sChosen_F5 N v5x0 v5x1 v5x2 v5x3 v5x4 v5x5 v5x6 v5x7 v5x8 v5x9 v5x10 v5x11 v5x12 v5x13 (k Ex.ret (sChosen_x5e0)) (k (Ex.exit (0 : Nat)) (sChosen_x5e1))
  | _, _ => none
def sChosen_L (N : Nat) : Lam := fun j st k => match j with
  | 5 => sChosen_L5 N st k
  | _ => none
theorem sChosen_round5 (N : Nat) (again : St → Option Rs) (k : Ex → St → Option Rs) (wv5x0 : (List ((List UInt8) × (List UInt8)))) (wv5x1 : (List (List UInt8))) (wv5x2 : Int) (wv5x3 : (List UInt8)) (wv5x4 : Int) (wv5x5 : Int) (wv5x6 : (List ((List UInt8) × (List UInt8)))) (wv5x7 : (List UInt8)) (wv5x8 : (List UInt8)) (wv5x9 : Int) (wv5x10 : (List UInt8)) (wv5x11 : Bool) (wv5x12 : (List ((List UInt8) × (List UInt8)))) (wv5x13 : (List UInt8)) (v5x0 : (List ((List UInt8) × (List UInt8)))) (v5x1 : (List (List UInt8))) (v5x2 : Int) (v5x3 : (List UInt8)) (v5x4 : Int) (v5x5 : Int) (v5x6 : (List ((List UInt8) × (List UInt8)))) (v5x7 : (List UInt8)) (v5x8 : (List UInt8)) (v5x9 : Int) (v5x10 : (List UInt8)) (v5x11 : Bool) (v5x12 : (List ((List UInt8) × (List UInt8)))) (v5x13 : (List UInt8)) :
    roundK 0 (fun st k => evL Kx sChosen_C sChosen_O 0 (sChosen_L N) sChosen_b5 st k) (sChosen_h5 wv5x0 wv5x1 wv5x2 wv5x3 wv5x4 wv5x5 wv5x6 wv5x7 wv5x8 wv5x9 wv5x10 wv5x11 wv5x12 wv5x13).env again (sChosen_h5 v5x0 v5x1 v5x2 v5x3 v5x4 v5x5 v5x6 v5x7 v5x8 v5x9 v5x10 v5x11 v5x12 v5x13) (outK sChosen_O 0 sChosen_b5 k) = sChosen_T5 v5x0 v5x1 v5x2 v5x3 v5x4 v5x5 v5x6 v5x7 v5x8 v5x9 v5x10 v5x11 v5x12 v5x13 (fun v5x0 v5x1 v5x2 v5x3 v5x4 v5x5 v5x6 v5x7 v5x8 v5x9 v5x10 v5x11 v5x12 v5x13 => again (sChosen_h5 v5x0 v5x1 v5x2 v5x3 v5x4 v5x5 v5x6 v5x7 v5x8 v5x9 v5x10 v5x11 v5x12 v5x13)) (k Ex.ret (sChosen_x5e0)) (k (Ex.exit (0 : Nat)) (sChosen_x5e1)) := by kernel_rfl
theorem sChosen_loop5 (N : Nat) (k : Ex → St → Option Rs) (wv5x0 : (List ((List UInt8) × (List UInt8)))) (wv5x1 : (List (List UInt8))) (wv5x2 : Int) (wv5x3 : (List UInt8)) (wv5x4 : Int) (wv5x5 : Int) (wv5x6 : (List ((List UInt8) × (List UInt8)))) (wv5x7 : (List UInt8)) (wv5x8 : (List UInt8)) (wv5x9 : Int) (wv5x10 : (List UInt8)) (wv5x11 : Bool) (wv5x12 : (List ((List UInt8) × (List UInt8)))) (wv5x13 : (List UInt8)) : ∀ (n : Nat) (v5x0 : (List ((List UInt8) × (List UInt8)))) (v5x1 : (List (List UInt8))) (v5x2 : Int) (v5x3 : (List UInt8)) (v5x4 : Int) (v5x5 : Int) (v5x6 : (List ((List UInt8) × (List UInt8)))) (v5x7 : (List UInt8)) (v5x8 : (List UInt8)) (v5x9 : Int) (v5x10 : (List UInt8)) (v5x11 : Bool) (v5x12 : (List ((List UInt8) × (List UInt8)))) (v5x13 : (List UInt8)),
    loopK 0 (fun st k => evL Kx sChosen_C sChosen_O 0 (sChosen_L N) sChosen_b5 st k) (sChosen_h5 wv5x0 wv5x1 wv5x2 wv5x3 wv5x4 wv5x5 wv5x6 wv5x7 wv5x8 wv5x9 wv5x10 wv5x11 wv5x12 wv5x13).env n (sChosen_h5 v5x0 v5x1 v5x2 v5x3 v5x4 v5x5 v5x6 v5x7 v5x8 v5x9 v5x10 v5x11 v5x12 v5x13) (outK sChosen_O 0 sChosen_b5 k) = sChosen_F5 n v5x0 v5x1 v5x2 v5x3 v5x4 v5x5 v5x6 v5x7 v5x8 v5x9 v5x10 v5x11 v5x12 v5x13 (k Ex.ret (sChosen_x5e0)) (k (Ex.exit (0 : Nat)) (sChosen_x5e1))
  | 0, _, _, _, _, _, _, _, _, _, _, _, _, _, _ => rfl
  | n + 1, v5x0, v5x1, v5x2, v5x3, v5x4, v5x5, v5x6, v5x7, v5x8, v5x9, v5x10, v5x11, v5x12, v5x13 => by
    rw [loopK_succ, sChosen_round5]
    simp only [sChosen_loop5 N k wv5x0 wv5x1 wv5x2 wv5x3 wv5x4 wv5x5 wv5x6 wv5x7 wv5x8 wv5x9 wv5x10 wv5x11 wv5x12 wv5x13 n]
    rfl
theorem sChosen_at5 (N : Nat) {s : St} {k : Ex → St → Option Rs} {r : Rs} (h : sChosen_L5 N s k = some r) : ∃ (v5x0 : (List ((List UInt8) × (List UInt8)))) (v5x1 : (List (List UInt8))) (v5x2 : Int) (v5x3 : (List UInt8)) (v5x4 : Int) (v5x5 : Int) (v5x6 : (List ((List UInt8) × (List UInt8)))) (v5x7 : (List UInt8)) (v5x8 : (List UInt8)) (v5x9 : Int) (v5x10 : (List UInt8)) (v5x11 : Bool) (v5x12 : (List ((List UInt8) × (List UInt8)))) (v5x13 : (List UInt8)), s = (sChosen_h5 v5x0 v5x1 v5x2 v5x3 v5x4 v5x5 v5x6 v5x7 v5x8 v5x9 v5x10 v5x11 v5x12 v5x13) ∧ sChosen_F5 N v5x0 v5x1 v5x2 v5x3 v5x4 v5x5 v5x6 v5x7 v5x8 v5x9 v5x10 v5x11 v5x12 v5x13 (k Ex.ret (sChosen_x5e0)) (k (Ex.exit (0 : Nat)) (sChosen_x5e1)) = some r := by
  cases s with | mk env objs =>
  unfold sChosen_L5 at h
  split at h
  · rename_i e1 e2
    have e3 := takeF_slots _ _ _ _ e1
    simp only at e2 e3
    subst e2 e3
    exact ⟨_, _, _, _, _, _, _, _, _, _, _, _, _, _, rfl, h⟩
  · cases h
theorem sChosen_in5 : loops sChosen_b5 = [] := by kernel_rfl
theorem sChosen_lid5 : lid sChosen_b5 = 5 := by kernel_rfl
theorem sChosen_ok5 (N : Nat) : OkL Kx sChosen_C sChosen_O 0 N (sChosen_L N) sChosen_b5 := by
  intro s k k' r hk h
  rw [sChosen_lid5] at h
  obtain ⟨v5x0, v5x1, v5x2, v5x3, v5x4, v5x5, v5x6, v5x7, v5x8, v5x9, v5x10, v5x11, v5x12, v5x13, rfl, h⟩ := sChosen_at5 N h
  refine loopL (Λ := sChosen_L N) sChosen_b5 ?_ N hk ((sChosen_loop5 N k v5x0 v5x1 v5x2 v5x3 v5x4 v5x5 v5x6 v5x7 v5x8 v5x9 v5x10 v5x11 v5x12 v5x13 N v5x0 v5x1 v5x2 v5x3 v5x4 v5x5 v5x6 v5x7 v5x8 v5x9 v5x10 v5x11 v5x12 v5x13).trans h)
  rw [sChosen_in5]
  exact fun _ h => nomatch h
def sChosen_run (N : Nat) (ur : Bytes) (t1 t2 : Int) (ak : List Fd) (me ta : Bytes) (st : Int) (re : Bytes) (ba : Bool) (fs : List Fd) (bo : Bytes) (l : List Fd) : Option Rs := (bif (isM ur) then (bif (!(entP (ur, (t1, (t2, (ak, (me, (ta, (st, (re, (ba, (fs, bo)))))))))))) then (some ((AV.bool false), ([] : (List (Ob))))) else (bif (!(fdsOk l)) then (some ((AV.bool false), ([] : (List (Ob))))) else (sChosen_F5 N l (varyP fs) (0 : Int) ur t1 t2 ak me ta st re ba fs bo (some ((AV.bool false), ([] : (List (Ob))))) (some ((AV.bool true), ([] : (List (Ob)))))))) else (none))
theorem sChosen_runL (N : Nat) (ur : Bytes) (t1 t2 : Int) (ak : List Fd) (me ta : Bytes) (st : Int) (re : Bytes) (ba : Bool) (fs : List Fd) (bo : Bytes) (l : List Fd) : runL Kx sChosen_C sChosen_O (sChosen_L N) Tryz.f32 ([.agg [.str ur, .int .i64 t1, .int .i64 t2, .sh (.pair .str .str) ak, .str me, .str ta, .int .i64 st, .str re, .bool ba, .sh (.pair .str .str) fs, .str bo], .sh (.pair .str .str) l]) ([]) = sChosen_run N ur t1 t2 ak me ta st re ba fs bo l := by kernel_rfl
theorem sChosen_body : Tryz.f32.body = some (codeOf Tryz.f32) := by kernel_rfl
theorem sChosen_loops : loops (codeOf Tryz.f32) = [sChosen_b5] := by kernel_rfl
theorem sChosen_ev (N : Nat) (ur : Bytes) (t1 t2 : Int) (ak : List Fd) (me ta : Bytes) (st : Int) (re : Bytes) (ba : Bool) (fs : List Fd) (bo : Bytes) (l : List Fd) {res_ : Rs} (hyp_ : sChosen_run N ur t1 t2 ak me ta st re ba fs bo l = some res_) : ∃ n_, runF Kx sChosen_C sChosen_O n_ Tryz.f32 ([.agg [.str ur, .int .i64 t1, .int .i64 t2, .sh (.pair .str .str) ak, .str me, .str ta, .int .i64 st, .str re, .bool ba, .sh (.pair .str .str) fs, .str bo], .sh (.pair .str .str) l]) ([]) = some res_ :=
  ⟨N, runL_runF sChosen_body (by rw [sChosen_loops]; exact List.forall_mem_cons.2 ⟨sChosen_ok5 N, fun _ h => nomatch h⟩) ((sChosen_runL N ur t1 t2 ak me ta st re ba fs bo l).trans hyp_)⟩
def sChosen_sOf (φ : Bytes → Int → Int → (List Fd) → Bytes → Bytes → Int → Bytes → Bool → (List Fd) → Bytes → (List Fd) → Br) : List AV → List Ob → Br
  | [.agg [.str ur, .int .i64 t1, .int .i64 t2, .sh (.pair .str .str) ak, .str me, .str ta, .int .i64 st, .str re, .bool ba, .sh (.pair .str .str) fs, .str bo], .sh (.pair .str .str) l], [] => φ ur t1 t2 ak me ta st re ba fs bo l
  | _, _ => .fail
theorem sChosen_okOf {φ : Bytes → Int → Int → (List Fd) → Bytes → Bytes → Int → Bytes → Bool → (List Fd) → Bytes → (List Fd) → Br} (fu : Bytes → Int → Int → (List Fd) → Bytes → Bytes → Int → Bytes → Bool → (List Fd) → Bytes → (List Fd) → Nat) (hv : ∀ ur t1 t2 ak me ta st re ba fs bo l res_, (φ ur t1 t2 ak me ta st re ba fs bo l).val = some res_ → sChosen_run (fu ur t1 t2 ak me ta st re ba fs bo l) ur t1 t2 ak me ta st re ba fs bo l = some res_) : Sound Kx 32 (sChosen_sOf φ) := by
  refine sound_run (C := sChosen_C) (O := sChosen_O) KOk sChosen_C_ok Tryz.func32 (by kernel_rfl) fun args objs res os h => ?_
  unfold sChosen_sOf at h
  split at h
  · exact sChosen_ev _ _ _ _ _ _ _ _ _ _ _ _ _ (hv _ _ _ _ _ _ _ _ _ _ _ _ _ h)
  · cases h

end
end Go.Proofs.YtmmjaomfonknnaaGreatDoor.Ev

namespace Go.Proofs.YtmmjaomfonknnaaGreatDoor.Ev
open Go Go.RowKit
set_option linter.unusedVariables false
set_option linter.unusedSimpArgs false
noncomputable section
def sameW (ak l : List Fd) (n : Bytes) : Bool := bif decide (n = [42]) then false else decide (wordsP ak n = wordsP l n)
def chosenP (e : En) (l : List Fd) : Bool := entP e && fdsOk l && (varyP e.2.2.2.2.2.2.2.2.2.1).all (sameW e.2.2.2.1 l)
theorem words_dec (ak : List Fd) (n : Bytes) : decide ((wordsP ak n).length ≤ 1000000) = true := decide_eq_true (by have := (words_bd ak n).1; omega)
theorem iChosen_loop (ws : List Bytes) (hl : ws.length ≤ 100000) (ur : Bytes) (t1 t2 : Int) (ak : List Fd) (me ta : Bytes) (st : Int) (re : Bytes) (ba : Bool) (fs : List Fd) (bo : Bytes) (l : List Fd) (k0 k1 : Option Rs) :
    ∀ (r : List Bytes) (i : Int) (n : Nat), At ws i r → r.length < n → (∀ x ∈ r, x.length ≤ 4000) →
    iChosen_F4 n l (ws.length : Int) i ur t1 t2 ak me ta st re ba fs bo ws k0 k1 = bif r.all (sameW ak l) then k1 else k0 := by
  intro r; induction r with
  | nil => intro i n h hn hm; obtain ⟨n, rfl⟩ := fuel hn; unfold iChosen_F4 iChosen_T4; simp only [h.dge, cond_false, List.all_nil, cond_true]
  | cons e r ih =>
    intro i n h hn hm; obtain ⟨n, rfl⟩ := fuel hn
    simp only [List.length_cons] at hn
    have hM : isM e = true := isM_of (n := 4000) (hm e (List.mem_cons_self ..))
    have hr := ih (i + 1) n h.step (by omega) (fun x hx => hm x (List.mem_cons_of_mem _ hx))
    unfold iChosen_F4 iChosen_T4
    simp only [h.dlt, h.dnn, h.get, cond_true, h.next (show ws.length ≤ 4611686018427387904 by omega), hM, hr, List.all_cons, words_dec]
    unfold sameW
    cases decide (e = [42]) <;> cases decide (wordsP ak e = wordsP l e) <;> rfl
theorem sChosen_loop (ws : List Bytes) (hl : ws.length ≤ 100000) (ur : Bytes) (t1 t2 : Int) (ak : List Fd) (me ta : Bytes) (st : Int) (re : Bytes) (ba : Bool) (fs : List Fd) (bo : Bytes) (l : List Fd) (k0 k1 : Option Rs) :
    ∀ (r : List Bytes) (i : Int) (n : Nat), At ws i r → r.length < n → (∀ x ∈ r, x.length ≤ 4000) →
    sChosen_F5 n l ws i ur t1 t2 ak me ta st re ba fs bo k0 k1 = bif r.all (sameW ak l) then k1 else k0 := by
  intro r; induction r with
  | nil => intro i n h hn hm; obtain ⟨n, rfl⟩ := fuel hn; unfold sChosen_F5 sChosen_T5; simp only [h.dge, cond_false, List.all_nil, cond_true]
  | cons e r ih =>
    intro i n h hn hm; obtain ⟨n, rfl⟩ := fuel hn
    simp only [List.length_cons] at hn
    have hM : isM e = true := isM_of (n := 4000) (hm e (List.mem_cons_self ..))
    have hr := ih (i + 1) n h.step (by omega) (fun x hx => hm x (List.mem_cons_of_mem _ hx))
    unfold sChosen_F5 sChosen_T5
    simp only [h.dlt, h.dnn, h.get, cond_true, h.next (show ws.length ≤ 4611686018427387904 by omega), hM, hr, List.all_cons, words_dec]
    unfold sameW
    cases decide (e = [42]) <;> cases decide (wordsP ak e = wordsP l e) <;> rfl
def ch_s : List AV → List Ob → Br
  | [.agg [.str ur, .int .i64 t1, .int .i64 t2, .sh (.pair .str .str) ak, .str me, .str ta, .int .i64 st, .str re, .bool ba, .sh (.pair .str .str) fs, .str bo], .sh (.pair .str .str) l], [] => .ite (isM ur) (.ret (.bool (chosenP (ur, t1, t2, ak, me, ta, st, re, ba, fs, bo) l)) []) .fail
  | _, _ => .fail
theorem iChosen_okQ : Sound Kx 33 ch_s := by
  refine (iChosen_okOf (φ := fun ur t1 t2 ak me ta st re ba fs bo l => .ite (isM ur) (.ret (.bool (chosenP (ur, t1, t2, ak, me, ta, st, re, ba, fs, bo) l)) []) .fail) (fun _ _ _ _ _ _ _ _ _ fs _ _ => (varyP fs).length + 1)
    fun ur t1 t2 ak me ta st re ba fs bo l r h => ?_).of fun args objs r h => ?_
  · obtain ⟨h1, h2⟩ := ite_some h
    cases h2
    unfold iChosen_run chosenP
    rw [h1, cond_true, iChosen_loop (varyP fs) (by have := vary_len fs; omega) ur t1 t2 ak me ta st re ba fs bo l _ _ (varyP fs) 0 ((varyP fs).length + 1) (At.start _) (by omega) (vary_mem fs)]
    cases entP (ur, t1, t2, ak, me, ta, st, re, ba, fs, bo) <;> cases fdsOk l <;> cases (varyP fs).all (sameW ak l) <;> rfl
  · unfold ch_s at h; split at h
    · exact h
    · cases h
theorem sChosen_okQ : Sound Kx 32 ch_s := by
  refine (sChosen_okOf (φ := fun ur t1 t2 ak me ta st re ba fs bo l => .ite (isM ur) (.ret (.bool (chosenP (ur, t1, t2, ak, me, ta, st, re, ba, fs, bo) l)) []) .fail) (fun _ _ _ _ _ _ _ _ _ fs _ _ => (varyP fs).length + 1)
    fun ur t1 t2 ak me ta st re ba fs bo l r h => ?_).of fun args objs r h => ?_
  · obtain ⟨h1, h2⟩ := ite_some h
    cases h2
    unfold sChosen_run chosenP
    rw [h1, cond_true, sChosen_loop (varyP fs) (by have := vary_len fs; omega) ur t1 t2 ak me ta st re ba fs bo l _ _ (varyP fs) 0 ((varyP fs).length + 1) (At.start _) (by omega) (vary_mem fs)]
    cases entP (ur, t1, t2, ak, me, ta, st, re, ba, fs, bo) <;> cases fdsOk l <;> cases (varyP fs).all (sameW ak l) <;> rfl
  · unfold ch_s at h; split at h
    · exact h
    · cases h
end
end Go.Proofs.YtmmjaomfonknnaaGreatDoor.Ev

namespace Go.Proofs.YtmmjaomfonknnaaGreatDoor.Ev
open Go Go.RowKit
set_option linter.unusedVariables false
set_option linter.unusedSimpArgs false
noncomputable section

/-! what the laws do -/
end
end Go.Proofs.YtmmjaomfonknnaaGreatDoor.Ev

namespace Go.Proofs.YtmmjaomfonknnaaGreatDoor.Ev
open Go Go.RowKit
set_option linter.unusedVariables false
set_option linter.unusedSimpArgs false
noncomputable section

/-! impl.isBudget -/
/-! impl.CacheOk -/
/-! spec.CacheOk -/
/-! laws.szCache -/
/-! laws.toCache -/
/-! laws.eqCache -/
end
end Go.Proofs.YtmmjaomfonknnaaGreatDoor.Ev

namespace Go.Proofs.YtmmjaomfonknnaaGreatDoor.Ev
open Go Go.RowKit
set_option linter.unusedVariables false
set_option linter.unusedSimpArgs false
noncomputable section
end
end Go.Proofs.YtmmjaomfonknnaaGreatDoor.Ev

namespace Go.Proofs.YtmmjaomfonknnaaGreatDoor.Ev
open Go Go.RowKit
set_option linter.unusedVariables false
set_option linter.unusedSimpArgs false
noncomputable section

/-! impl.CacheSize -/
/-! spec.CacheSize -/
end
end Go.Proofs.YtmmjaomfonknnaaGreatDoor.Ev

namespace Go.Proofs.YtmmjaomfonknnaaGreatDoor.Ev
open Go Go.RowKit
set_option linter.unusedVariables false
set_option linter.unusedSimpArgs false
noncomputable section
end
end Go.Proofs.YtmmjaomfonknnaaGreatDoor.Ev

namespace Go.Proofs.YtmmjaomfonknnaaGreatDoor.Ev
open Go Go.RowKit
set_option linter.unusedVariables false
set_option linter.unusedSimpArgs false
noncomputable section

/-! laws.FnExactCacheOk -/
/-! laws.FnExactCacheSize -/
end
end Go.Proofs.YtmmjaomfonknnaaGreatDoor.Ev

namespace Go.Proofs.YtmmjaomfonknnaaGreatDoor.Ev
open Go Go.RowKit
set_option linter.unusedVariables false
set_option linter.unusedSimpArgs false
noncomputable section

/-! laws.FnExactEntrySize -/
end
end Go.Proofs.YtmmjaomfonknnaaGreatDoor.Ev

namespace Go.Proofs.YtmmjaomfonknnaaGreatDoor.Ev
open Go Go.RowKit
set_option linter.unusedVariables false
set_option linter.unusedSimpArgs false

/-- An entry as an argument. -/
abbrev tyMsgE : Ty := .pair .str (.pair .str (.pair (.int .i64) (.pair .str (.pair .bool (.pair (.slice (.pair .str .str)) .str)))))
abbrev tyEnt : Ty := .pair .str (.pair (.int .i64) (.pair (.int .i64) (.pair (.slice (.pair .str .str)) tyMsgE)))
theorem reach_E {s : Bytes} (h : s.length ≤ reachBytes) : isM s = true := isM_of h (by decide)
theorem good_smFE {fs : List Fd} (h : Good (.slice (.pair .str .str)) fs) : smF fs = true := by
  simp only [Good] at h
  unfold smF
  rw [decide_eq_true (Nat.le_trans h.1 (by decide)), Bool.true_and, List.all_eq_true]
  intro f hf
  obtain ⟨h1, h2⟩ := h.2 f hf
  unfold isMF
  rw [reach_E h1, reach_E h2]; rfl
theorem good_smME {me ta re bo : Bytes} {st : Int} {ba : Bool} {fs : List Fd} (h : Good tyMsgE (me, ta, st, re, ba, fs, bo)) : smM me ta re fs bo = true := by
  simp only [tyMsgE, Good] at h
  obtain ⟨h1, h2, _, h4, _, h6, h7⟩ := h
  unfold smM
  rw [reach_E h1, reach_E h2, reach_E h4, reach_E h7, good_smFE (by simp only [Good]; exact h6)]; rfl
theorem good_smE {e : En} (h : Good tyEnt e) : smE e = true := by
  obtain ⟨ur, t1, t2, ak, me, ta, st, re, ba, fs, bo⟩ := e
  obtain ⟨h1, _, _, h4, h5⟩ := h
  unfold smE
  rw [reach_E h1, good_smFE h4, good_smME h5]; rfl
/-- What is left of the room bounds both lists. -/
theorem szE_small {e : En} {left : Int} (h : ¬ szM (enW e) left < 0) : (e.2.2.2.1.length : Int) ≤ left ∧ (e.2.2.2.2.2.2.2.2.2.1.length : Int) ≤ left ∧ 0 ≤ szM (enW e) left ∧ szM (enW e) left ≤ left := by
  have h1 := totF_nn e.2.2.2.1
  have h2 := totF_nn e.2.2.2.2.2.2.2.2.2.1
  unfold szM at h ⊢
  cases hc : decide (enW e ≤ left)
  · rw [hc, cond_false] at h; omega
  · have := of_decide_eq_true hc
    rw [cond_true]
    unfold enW msgW at this ⊢; omega
end Go.Proofs.YtmmjaomfonknnaaGreatDoor.Ev

namespace Go.Proofs.YtmmjaomfonknnaaGreatDoor.Ev
open Go Go.RowKit
set_option linter.unusedVariables false
set_option linter.unusedSimpArgs false

end Go.Proofs.YtmmjaomfonknnaaGreatDoor.Ev

namespace Go.Proofs.YtmmjaomfonknnaaGreatDoor.Ev
open Go Go.RowKit
set_option linter.unusedVariables false
set_option linter.unusedSimpArgs false
noncomputable section

/-! (impl.Cache).chosen -/
/-! spec.Select -/
end
end Go.Proofs.YtmmjaomfonknnaaGreatDoor.Ev

namespace Go.Proofs.YtmmjaomfonknnaaGreatDoor.Ev
open Go Go.RowKit
set_option linter.unusedVariables false
set_option linter.unusedSimpArgs false
noncomputable section
end
end Go.Proofs.YtmmjaomfonknnaaGreatDoor.Ev

namespace Go.Proofs.YtmmjaomfonknnaaGreatDoor.Ev
open Go Go.RowKit
set_option linter.unusedVariables false
set_option linter.unusedSimpArgs false
noncomputable section

/-! impl.Select -/
/-! laws.FnExactChosen -/
def lChosen_O : Opt := { cons := [], keepNil := false, mutF := [], live := [], outs := [] }
def lChosen_C : Spec := (add (add (add (add (add (add (add (add noS 10 szE_s) 28 (szFieldS_sOf fun l left => .ite (smF l && okLeft left) (.ret (.int .i64 (szFl l left)) []) .fail)) 12 toEntry_s) 30 (toFieldS_sOf fun l => .ite (decide (l.length ≤ 1048576)) (.ret (.ref 0 0) [.arr (.pair .str .str) 0 false l]) .fail)) 14 eqE_s) 24 (eqFieldS_sOf fun l l' => .ite (decide (l.length ≤ 4611686018427387904)) (.ret (.bool (decide (l = l'))) []) .fail)) 33 ch_s) 32 ch_s)
theorem lChosen_C_ok : ∀ fn, Sound Kx fn (lChosen_C fn) := (sound_add (sound_add (sound_add (sound_add (sound_add (sound_add (sound_add (sound_add (sound_no Kx) szEntry_okQ) szFieldS_okQ) toEntry_ok) toFieldS_okQ) eqEntry_okQ) eqFieldS_okQ) iChosen_okQ) sChosen_okQ)
def lChosen_br (ur : Bytes) (t1 t2 : Int) (ak : List Fd) (me ta : Bytes) (st : Int) (re : Bytes) (ba : Bool) (fs : List Fd) (bo : Bytes) (l : List Fd) : Br := (Br.ite ((smE (ur, (t1, (t2, (ak, (me, (ta, (st, (re, (ba, (fs, bo))))))))))) && true) (Br.ite (decide ((szM (enW (ur, (t1, (t2, (ak, (me, (ta, (st, (re, (ba, (fs, bo))))))))))) (1048576 : Int)) < (0 : Int))) (Br.ret (AV.bool true) ([] : (List (Ob)))) (Br.ite ((smF l) && (okLeft (szM (enW (ur, (t1, (t2, (ak, (me, (ta, (st, (re, (ba, (fs, bo))))))))))) (1048576 : Int)))) (Br.ite (decide ((szFl l (szM (enW (ur, (t1, (t2, (ak, (me, (ta, (st, (re, (ba, (fs, bo))))))))))) (1048576 : Int))) < (0 : Int))) (Br.ret (AV.bool true) ([] : (List (Ob)))) (Br.ite (decide ((List.length ak) ≤ (1048576 : Nat))) (Br.ite (decide ((List.length fs) ≤ (1048576 : Nat))) (Br.ite (decide ((List.length l) ≤ (1048576 : Nat))) (Br.ite (isM ur) (Br.ite (decide ((List.length ak) ≤ (1048576 : Nat))) (Br.ite (decide ((List.length fs) ≤ (1048576 : Nat))) (Br.ite (decide ((List.length l) ≤ (1048576 : Nat))) (Br.ite (isM ur) (Br.ite (!((chosenP (ur, (t1, (t2, (ak, (me, (ta, (st, (re, (ba, (fs, bo)))))))))) l) == (chosenP (ur, (t1, (t2, (ak, (me, (ta, (st, (re, (ba, (fs, bo)))))))))) l))) (Br.ret (AV.bool false) ([] : (List (Ob)))) (Br.ite (decide ((List.length ak) ≤ (1048576 : Nat))) (Br.ite (decide ((List.length fs) ≤ (1048576 : Nat))) (Br.ite (((eqEb (ur, (t1, (t2, (ak, (me, (ta, (st, (re, (ba, (fs, bo)))))))))) (ur, (t1, (t2, (ak, (me, (ta, (st, (re, (ba, (fs, bo))))))))))) && (decide ((List.length ak) ≤ (1048576 : Nat)))) && (decide ((List.length fs) ≤ (1048576 : Nat)))) (Br.ite (decide ((List.length l) ≤ (1048576 : Nat))) (Br.ite (decide ((List.length l) ≤ (4611686018427387904 : Nat))) (Br.ite (!(decide (l = l))) (Br.ret (AV.bool false) ([] : (List (Ob)))) (Br.ret (AV.bool true) ([] : (List (Ob))))) Br.fail) Br.fail) Br.fail) Br.fail) Br.fail)) Br.fail) Br.fail) Br.fail) Br.fail) Br.fail) Br.fail) Br.fail) Br.fail)) Br.fail)) Br.fail)
theorem lChosen_run (ur : Bytes) (t1 t2 : Int) (ak : List Fd) (me ta : Bytes) (st : Int) (re : Bytes) (ba : Bool) (fs : List Fd) (bo : Bytes) (l : List Fd) : runF Kx lChosen_C lChosen_O 1 Tryz.f8 ([.agg [.str ur, .int .i64 t1, .int .i64 t2, .sh (.pair .str .str) ak, .str me, .str ta, .int .i64 st, .str re, .bool ba, .sh (.pair .str .str) fs, .str bo], .sh (.pair .str .str) l]) ([]) = (lChosen_br ur t1 t2 ak me ta st re ba fs bo l).val := by kernel_rfl
def lChosen_s : List AV → List Ob → Br
  | [.agg [.str ur, .int .i64 t1, .int .i64 t2, .sh (.pair .str .str) ak, .str me, .str ta, .int .i64 st, .str re, .bool ba, .sh (.pair .str .str) fs, .str bo], .sh (.pair .str .str) l], [] => lChosen_br ur t1 t2 ak me ta st re ba fs bo l
  | _, _ => .fail
theorem lChosen_ok : Sound Kx 8 lChosen_s := by
  refine sound_run (C := lChosen_C) (O := lChosen_O) KOk lChosen_C_ok Tryz.func8 (by kernel_rfl) fun args objs res os h => ?_
  unfold lChosen_s at h
  split at h
  · exact ⟨1, (lChosen_run _ _ _ _ _ _ _ _ _ _ _ _).trans h⟩
  · cases h

end
end Go.Proofs.YtmmjaomfonknnaaGreatDoor.Ev

namespace Go.Proofs.YtmmjaomfonknnaaGreatDoor.Ev
open Go Go.RowKit
set_option linter.unusedVariables false
set_option linter.unusedSimpArgs false
noncomputable section
end
end Go.Proofs.YtmmjaomfonknnaaGreatDoor.Ev

namespace Go.Proofs.YtmmjaomfonknnaaGreatDoor.Ev
open Go Go.RowKit
set_option linter.unusedVariables false
set_option linter.unusedSimpArgs false
noncomputable section

/-! laws.FnExactSelect -/
end
end Go.Proofs.YtmmjaomfonknnaaGreatDoor.Ev

namespace Go.Proofs.YtmmjaomfonknnaaGreatDoor.Ev
open Go Go.RowKit
set_option linter.unusedVariables false
set_option linter.unusedSimpArgs false
theorem okLeft_of {x : Int} (h : 0 ≤ x) (h1 : x ≤ 1048576) : okLeft x = true := by
  unfold okLeft; rw [decide_eq_true h, decide_eq_true h1]; rfl
theorem szFl_small {l : List Fd} {left : Int} (hl : left ≤ 1048576) (h : ¬ szFl l left < 0) : l.length ≤ 1048576 := by
  unfold szFl at h
  have ht := totF_nn l
  cases hc : decide ((l.length : Int) + totF l ≤ left)
  · rw [hc, cond_false] at h; omega
  · have hc := of_decide_eq_true hc; omega
theorem lChosen_val (ur : Bytes) (t1 t2 : Int) (ak : List Fd) (me ta : Bytes) (st : Int) (re : Bytes) (ba : Bool) (fs : List Fd) (bo : Bytes) (l : List Fd) (h : smE (ur, t1, t2, ak, me, ta, st, re, ba, fs, bo) = true) (h' : smF l = true) : (lChosen_br ur t1 t2 ak me ta st re ba fs bo l).val = some (.bool true, []) := by
  unfold lChosen_br
  refine (val_t (by rw [h]; rfl)).trans ?_
  by_cases c : szM (enW (ur, t1, t2, ak, me, ta, st, re, ba, fs, bo)) 1048576 < 0
  · exact val_t (decide_eq_true c)
  obtain ⟨hl, hl2, hl3, hl4⟩ := szE_small c
  simp only at hl hl2
  refine (val_f (decide_eq_false c)).trans ?_
  refine (val_t (by rw [h', okLeft_of hl3 hl4]; rfl)).trans ?_
  by_cases c2 : szFl l (szM (enW (ur, t1, t2, ak, me, ta, st, re, ba, fs, bo)) 1048576) < 0
  · exact val_t (decide_eq_true c2)
  refine (val_f (decide_eq_false c2)).trans ?_
  have hs := szFl_small hl4 c2
  have e1 : decide (ak.length ≤ 1048576) = true := decide_eq_true (by omega)
  have e2 : decide (fs.length ≤ 1048576) = true := decide_eq_true (by omega)
  have e3 : decide (l.length ≤ 1048576) = true := decide_eq_true hs
  have e4 : decide (l.length ≤ 4611686018427387904) = true := decide_eq_true (by omega)
  have hm : isM ur = true := by unfold smE at h; simp only [Bool.and_eq_true] at h; exact h.1.1
  have hq := eqEb_self (ur, t1, t2, ak, me, ta, st, re, ba, fs, bo)
  simp only [Br.val, e1, e2, e3, e4, hm, hq, decide_true, Bool.not_true, Bool.and_self, Bool.true_and, Bool.and_true, cond_true, cond_false, beq_self_eq_true]
theorem fnExactChosen_true (xs : List AV) (h : Args [(tyEnt, true), (.slice (.pair .str .str), false)] xs) : (lChosen_s xs []).val = some (.bool true, []) := by
  obtain ⟨⟨ur, t1, t2, ak, me, ta, st, re, ba, fs, bo⟩, a', g, rfl, ⟨l, b', g', rfl, rfl⟩⟩ := h
  exact lChosen_val ur t1 t2 ak me ta st re ba fs bo l (good_smE g) (good_smFE g')
end Go.Proofs.YtmmjaomfonknnaaGreatDoor.Ev
