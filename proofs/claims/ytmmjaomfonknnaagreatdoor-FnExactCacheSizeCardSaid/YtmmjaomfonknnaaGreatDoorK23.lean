/- The texts Um, Un, Uo, Va, Vb, Vc, Vd, Ve, Vf, Vg, Vh, Vi, Vj, Vk, Vl, Vm, Vn, Wa, Wb, Vo, one behind the other. -/
import Derived.Test.YtmmjaomfonknnaaGreatDoorK22
import Derived.Test.YtmmjaomfonknnaaGreatDoorK21
namespace Go.Proofs.YtmmjaomfonknnaaGreatDoor.Ev
open Go Go.RowKit
set_option linter.unusedVariables false
set_option linter.unusedSimpArgs false
noncomputable section

theorem upto_drop (b : Int) : ∀ (r : Bytes) (k : Nat), k ≤ (uptoP r b).length → uptoP (r.drop k) b = (uptoP r b).drop k
  | r, 0, _ => rfl
  | [], k + 1, h => by simp [uptoP] at h
  | x :: r, k + 1, h => by
    have ih := upto_drop b r k
    unfold uptoP at ih h ⊢
    rw [List.takeWhile_cons] at h ⊢
    cases c : decide (by8 x = b)
    · rw [c] at h
      simp only [Bool.not_false, if_true, List.length_cons] at h ⊢
      rw [List.drop_succ_cons, List.drop_succ_cons]
      exact ih (by omega)
    · rw [c] at h; simp at h
theorem cut_end {l : Bytes} {k : Nat} {i : Int} (h : i = (k : Int)) : cut l i (l.length : Int) = l.drop k := by
  subst h; unfold cut; simp
theorem cut_take {l : Bytes} {k : Nat} {i : Int} (h : i = (k : Int)) : cut l 0 i = l.take k := by
  subst h; unfold cut; simp
theorem nat_lt (a b : Nat) : decide ((a : Int) < (b : Int)) = decide (a < b) := by
  rw [Bool.eq_iff_iff, decide_eq_true_eq, decide_eq_true_eq]; omega
theorem clean_len (p : Bytes) : (cleanP p).length ≤ 1000 := by
  cases p with
  | nil => exact Nat.zero_le _
  | cons c r =>
    by_cases hc : c = 47
    · subst hc
      rw [cleanP_at]
      cases ho : pathOk (47 :: r)
      · exact Nat.zero_le _
      · unfold pathOk at ho
        simp only [Bool.and_eq_true, decide_eq_true_eq, List.length_cons] at ho
        have h1 := segs_bd r (by omega)
        have h2 := slash_segs (splP (pctP r) 47)
        have h3 := join_len (segsP (splP (pctP r) 47))
        simp only [cond_true, List.length_cons]; omega
    · rw [cleanP_not c r hc]; exact Nat.zero_le _
def urA (u : Ur) : AV := .agg [.str u.h, .int .i64 u.po, .str u.pa, .str u.q, .bool u.hq]
theorem readU_no {s : Bytes} (h : readOk s = false) : readUP s = (u0, false) := by unfold readUP; rw [h]; rfl
/-- What both sides come to, once the front is as it must be. -/
theorem readU_yes {s : Bytes} (h : readOk s = true) : readUP s = bif (portR (authP (s.drop 7))).2 && (urlR (s.drop 7)).ok then (urlR (s.drop 7), true) else (u0, false) := by
  unfold readUP; rw [h, Bool.true_and]
theorem readOk_parts (s : Bytes) : readOk s = (decide (s.length ≤ 200) && decide (7 ≤ s.length) && allP isVis s && !hasB s 35 && decide (foldP (s.take 7) = httpB)) := rfl
/-- Seven letters alone are none. -/
theorem urlR_nil : (urlR []).ok = false := by
  unfold urlR Ur.ok urlOkP
  have e : hostP (foldP (uptoP (authP []) 58)) = false := rfl
  simp only [e, Bool.false_and]
def ru_s : List AV → List Ob → Br := t1_s fun s => .tup [urA (readUP s).1, .bool (readUP s).2]
theorem sReadUrl_okQ : Sound Kx 155 ru_s := sReadUrl_ok.of fun args objs r h => by
  unfold ru_s t1_s at h
  split at h
  case h_2 => cases h
  rename_i s
  obtain ⟨hM, h2⟩ := ite_some h
  cases h2
  show (sReadUrl_br s).val = some (.tup [urA (readUP s).1, .bool (readUP s).2], [])
  unfold sReadUrl_br
  have hok := readOk_parts s
  cases d1 : decide ((200 : Int) < (s.length : Int))
  case true =>
    have := of_decide_eq_true d1
    rw [decide_eq_false (show ¬ s.length ≤ 200 by omega)] at hok
    rw [readU_no (by rw [hok]; rfl)]; rfl
  have d1' := of_decide_eq_false d1
  rw [decide_eq_true (show s.length ≤ 200 by omega)] at hok
  cases d2 : decide ((s.length : Int) < 8)
  case true =>
    have d2' := of_decide_eq_true d2
    refine (val_f rfl).trans ((val_t rfl).trans ?_)
    have : readUP s = (u0, false) := by
      cases hr : readOk s
      · exact readU_no hr
      · rw [readU_yes hr]
        rw [hok] at hr
        simp only [Bool.and_eq_true, decide_eq_true_eq] at hr
        have e : s.drop 7 = [] := List.drop_eq_nil_of_le (by omega)
        rw [e, urlR_nil, Bool.and_false]; rfl
    rw [this]; rfl
  have d2' := of_decide_eq_false d2
  rw [decide_eq_true (show 7 ≤ s.length by omega)] at hok
  rw [hM, upto_has, decide_eq_true (show (0 : Int) < (s.length : Int) by omega), decide_eq_true (show (7 : Int) ≤ (s.length : Int) by omega), show cut s 0 7 = s.take 7 from cut_take (k := 7) rfl, show cut s 7 (s.length : Int) = s.drop 7 from cut_end (k := 7) rfl]
  cases d3 : allP isVis s
  · rw [d3] at hok
    rw [readU_no (by rw [hok]; rfl)]; rfl
  rw [d3] at hok
  cases d4 : hasB s 35
  case true =>
    rw [d4] at hok
    rw [readU_no (by rw [hok]; rfl)]; rfl
  rw [d4] at hok
  have e7 : isM (s.take 7) = true := isM_of (n := 7) (by rw [List.length_take]; exact Nat.min_le_left _ _)
  rw [e7]
  cases d5 : decide (foldP (s.take 7) = [104, 116, 116, 112, 58, 47, 47])
  · rw [show decide (foldP (s.take 7) = httpB) = false from d5] at hok
    rw [readU_no (by rw [hok]; rfl)]; rfl
  rw [show decide (foldP (s.take 7) = httpB) = true from d5] at hok
  rw [readU_yes (by rw [hok]; rfl)]
  generalize hr : s.drop 7 = r
  have hrl : r.length ≤ 200 := by rw [← hr, List.length_drop]; omega
  refine (val_f rfl).trans ((val_f rfl).trans ((val_t rfl).trans ((val_f rfl).trans ((val_t rfl).trans ((val_f rfl).trans ((val_t rfl).trans ((val_t rfl).trans ((val_f rfl).trans ((val_t rfl).trans ?_)))))))))
  unfold urlR pathR portR authP frontP Ur.ok urA
  have lF := upto_le r 63
  generalize hF : uptoP r 63 = F at lF
  have lA := upto_le F 47
  generalize hA : uptoP F 47 = A at lA
  have lH := upto_le A 58
  generalize hH : uptoP A 58 = H at lH
  have w1 : wk64 ((H.length : Int) + 1) = ((H.length + 1 : Nat) : Int) := by rw [w64 (by omega) (by omega)]; rfl
  have w2 : wk64 ((F.length : Int) + 1) = ((F.length + 1 : Nat) : Int) := by rw [w64 (by omega) (by omega)]; rfl
  have m1 : isM r = true := isM_of (n := 200) (by omega)
  have m2 : isM F = true := isM_of (n := 200) (by omega)
  have m3 : isM A = true := isM_of (n := 200) (by omega)
  have m4 : isM H = true := isM_of (n := 200) (by omega)
  have m5 : isM (foldP H) = true := isM_of (n := 200) (by rw [foldP_len]; omega)
  have m6 : ∀ p, isM (cleanP p) = true := fun p => isM_of (n := 1000) (clean_len p)
  have m7 : isM (F.drop A.length) = true := isM_of (n := 200) (by rw [List.length_drop]; omega)
  have m8 : isM (r.drop (F.length + 1)) = true := isM_of (n := 200) (by rw [List.length_drop]; omega)
  have q0 : ∀ n : Nat, decide ((0 : Int) ≤ (n : Int)) = true := fun n => decide_eq_true (by omega)
  have qA : decide ((A.length : Int) ≤ (F.length : Int)) = true := decide_eq_true (by omega)
  rw [m1, m2, m3, m4, w1, w2, cut_end (l := A) rfl, cut_end (l := F) rfl, cut_end (l := r) rfl, m5, m7, m8, nat_lt, nat_lt, nat_lt, q0, q0, q0, qA]
  simp only [m6]
  cases t1 : decide (H.length < A.length)
  · cases t2 : decide (A.length < F.length)
    · cases t3 : decide (F.length < r.length)
      · simp only [Br.val, cond_true, cond_false, Bool.and_true, Bool.true_and]
        cases urlOkP (foldP H) 80 [47] [] false <;> rfl
      · have t3' := of_decide_eq_true t3
        rw [decide_eq_true (show ((F.length + 1 : Nat) : Int) ≤ (r.length : Int) by omega)]
        simp only [Br.val, cond_true, cond_false, Bool.and_true, Bool.true_and]
        cases urlOkP (foldP H) 80 [47] (r.drop (F.length + 1)) true <;> rfl
    · cases t3 : decide (F.length < r.length)
      · simp only [Br.val, cond_true, cond_false, Bool.and_true, Bool.true_and]
        cases urlOkP (foldP H) 80 (cleanP (F.drop A.length)) [] false <;> rfl
      · have t3' := of_decide_eq_true t3
        rw [decide_eq_true (show ((F.length + 1 : Nat) : Int) ≤ (r.length : Int) by omega)]
        simp only [Br.val, cond_true, cond_false, Bool.and_true, Bool.true_and]
        cases urlOkP (foldP H) 80 (cleanP (F.drop A.length)) (r.drop (F.length + 1)) true <;> rfl
  · have t1' := of_decide_eq_true t1
    rw [decide_eq_true (show ((H.length + 1 : Nat) : Int) ≤ (A.length : Int) by omega)]
    cases t4 : (decR (A.drop (H.length + 1))).2
    · simp only [Br.val, cond_true, cond_false, Bool.false_and, t4, Bool.not_false]; rfl
    · cases t2 : decide (A.length < F.length)
      · cases t3 : decide (F.length < r.length)
        · simp only [Br.val, cond_true, cond_false, Bool.and_true, Bool.true_and, t4, Bool.not_true]
          cases urlOkP (foldP H) (decR (A.drop (H.length + 1))).1 [47] [] false <;> rfl
        · have t3' := of_decide_eq_true t3
          rw [decide_eq_true (show ((F.length + 1 : Nat) : Int) ≤ (r.length : Int) by omega)]
          simp only [Br.val, cond_true, cond_false, Bool.and_true, Bool.true_and, t4, Bool.not_true]
          cases urlOkP (foldP H) (decR (A.drop (H.length + 1))).1 [47] (r.drop (F.length + 1)) true <;> rfl
      · cases t3 : decide (F.length < r.length)
        · simp only [Br.val, cond_true, cond_false, Bool.and_true, Bool.true_and, t4, Bool.not_true]
          cases urlOkP (foldP H) (decR (A.drop (H.length + 1))).1 (cleanP (F.drop A.length)) [] false <;> rfl
        · have t3' := of_decide_eq_true t3
          rw [decide_eq_true (show ((F.length + 1 : Nat) : Int) ≤ (r.length : Int) by omega)]
          simp only [Br.val, cond_true, cond_false, Bool.and_true, Bool.true_and, t4, Bool.not_true]
          cases urlOkP (foldP H) (decR (A.drop (H.length + 1))).1 (cleanP (F.drop A.length)) (r.drop (F.length + 1)) true <;> rfl
/-- The program's way to find where a host ends. -/
theorem auth_take (r : Bytes) : r.take (uptoP (uptoP r 63) 47).length = uptoP (uptoP r 63) 47 := by
  have h1 := upto_take r 63
  have h2 := upto_take (uptoP r 63) 47
  have h3 := upto_le (uptoP r 63) 47
  calc r.take (uptoP (uptoP r 63) 47).length = (r.take (uptoP r 63).length).take (uptoP (uptoP r 63) 47).length := by rw [List.take_take, Nat.min_eq_left h3]
    _ = (uptoP r 63).take (uptoP (uptoP r 63) 47).length := by rw [h1]
    _ = uptoP (uptoP r 63) 47 := h2
theorem any_end (r : Bytes) : (decide (anyIx r [47, 63] < 0) = true → (uptoP (uptoP r 63) 47).length = r.length) ∧ (decide (anyIx r [47, 63] < 0) = false → anyIx r [47, 63] = ((uptoP (uptoP r 63) 47).length : Int)) := by
  rw [anyIx_cases, show by8 47 = 47 from rfl, show by8 63 = 63 from rfl]
  cases h : hasB r 47 || hasB r 63
  · rw [cond_false]
    rw [Bool.or_eq_false_iff] at h
    have h1 : uptoP r 63 = r := by have := upto_has r 63; rw [h.2] at this; exact of_decide_eq_true this
    have h2 : uptoP r 47 = r := by have := upto_has r 47; rw [h.1] at this; exact of_decide_eq_true this
    rw [h1, h2]
    exact ⟨fun _ => rfl, fun e => by simp at e⟩
  · rw [cond_true]
    exact ⟨fun e => by have := of_decide_eq_true e; omega, fun _ => rfl⟩
theorem drop_nil {l : Bytes} {k : Nat} : decide (l.drop k = []) = !decide (k < l.length) := by
  rw [Bool.eq_iff_iff]; simp
theorem lt_ne {a b : Nat} (h : a ≤ b) : (!decide (a = b)) = decide (a < b) := by
  rw [Bool.eq_iff_iff]; simp; omega
theorem iReadUrl_okQ : Sound Kx 160 ru_s := iReadUrl_ok.of fun args objs r h => by
  unfold ru_s t1_s at h
  split at h
  case h_2 => cases h
  rename_i s
  obtain ⟨hM, h2⟩ := ite_some h
  cases h2
  show (iReadUrl_br s).val = some (.tup [urA (readUP s).1, .bool (readUP s).2], [])
  unfold iReadUrl_br
  have hok := readOk_parts s
  cases d1 : decide ((200 : Int) < (s.length : Int))
  case true =>
    have := of_decide_eq_true d1
    rw [decide_eq_false (show ¬ s.length ≤ 200 by omega)] at hok
    rw [readU_no (by rw [hok]; rfl)]; rfl
  have d1' := of_decide_eq_false d1
  rw [decide_eq_true (show s.length ≤ 200 by omega)] at hok
  rw [hM]
  cases d3 : allP isVis s
  · rw [d3] at hok
    rw [readU_no (by rw [hok]; simp)]; rfl
  rw [d3] at hok
  cases d4 : hasB s 35
  case true =>
    rw [d4] at hok
    rw [readU_no (by rw [hok]; simp)]; rfl
  rw [d4] at hok
  cases d2 : decide ((s.length : Int) < 7)
  case true =>
    have d2' := of_decide_eq_true d2
    rw [decide_eq_false (show ¬ 7 ≤ s.length by omega)] at hok
    rw [readU_no (by rw [hok]; rfl)]; rfl
  have d2' := of_decide_eq_false d2
  rw [decide_eq_true (show 7 ≤ s.length by omega)] at hok
  rw [decide_eq_true (show (7 : Int) ≤ (s.length : Int) by omega), show cut s 0 7 = s.take 7 from cut_take (k := 7) rfl, show cut s 7 (s.length : Int) = s.drop 7 from cut_end (k := 7) rfl]
  have e7 : isM (s.take 7) = true := isM_of (n := 7) (by rw [List.length_take]; exact Nat.min_le_left _ _)
  rw [e7]
  cases d5 : decide (foldP (s.take 7) = [104, 116, 116, 112, 58, 47, 47])
  · rw [show decide (foldP (s.take 7) = httpB) = false from d5] at hok
    rw [readU_no (by rw [hok]; rfl)]; rfl
  rw [show decide (foldP (s.take 7) = httpB) = true from d5] at hok
  rw [readU_yes (by rw [hok]; rfl)]
  have hvis : allP isVis (s.drop 7) = true := by
    have e := allP_app isVis (s.take 7) (s.drop 7)
    rw [List.take_append_drop, d3] at e
    cases hh : allP isVis (s.drop 7)
    · rw [hh, Bool.and_false] at e; cases e
    · rfl
  have hasc := vis_asc _ hvis
  generalize hr : s.drop 7 = r at hasc
  have hrl : r.length ≤ 200 := by rw [← hr, List.length_drop]; omega
  have hend := any_end r
  have hat := auth_take r
  have mr : decide (r.length ≤ 1000000) = true := decide_eq_true (by omega)
  refine (val_f rfl).trans ((val_t rfl).trans ((val_f rfl).trans ((val_f rfl).trans ((val_f rfl).trans ((val_t rfl).trans ((val_t rfl).trans ((val_f rfl).trans ((val_t rfl).trans ((val_t (by rw [mr, hasc]; rfl)).trans ?_)))))))))
  unfold urlR pathR portR authP frontP Ur.ok urA
  have lF := upto_le r 63
  have ud := upto_drop 63 r (uptoP (uptoP r 63) 47).length (upto_le _ _)
  generalize hF : uptoP r 63 = F at lF hend hat ud
  have lA := upto_le F 47
  generalize hA : uptoP F 47 = A at lA hend hat ud
  have lH := upto_le A 58
  have ct : cut r 0 (A.length : Int) = A := (cut_take rfl).trans hat
  have cd : cut r (A.length : Int) (r.length : Int) = r.drop A.length := cut_end rfl
  have x1 := cut_upto 58 A
  rw [show by8 58 = 58 from rfl] at x1
  have x2 := cut_upto 63 (r.drop A.length)
  rw [show by8 63 = 63 from rfl, ud] at x2
  generalize hH : uptoP A 58 = H at lH x1
  have y1 : (cutP A [58]).1 = H := by rw [x1]
  have y2 : (cutP A [58]).2.1 = A.drop (H.length + 1) := by rw [x1]
  have y3 : (cutP A [58]).2.2 = decide (H.length < A.length) := by rw [x1]; exact lt_ne lH
  have z1 : (cutP (r.drop A.length) [63]).1 = F.drop A.length := by rw [x2]
  have z2 : (cutP (r.drop A.length) [63]).2.1 = bif decide (F.length < r.length) then r.drop (F.length + 1) else [] := by
    rw [x2]
    simp only [List.length_drop, List.drop_drop]
    cases t : decide (F.length < r.length)
    · have := of_decide_eq_false t
      rw [cond_false]
      exact List.drop_eq_nil_of_le (by omega)
    · rw [cond_true]
      congr 1; omega
  have z3 : (cutP (r.drop A.length) [63]).2.2 = decide (F.length < r.length) := by
    rw [x2]
    simp only [List.length_drop]
    rw [lt_ne (by omega), Bool.eq_iff_iff, decide_eq_true_eq, decide_eq_true_eq]; omega
  have m4 : isM H = true := isM_of (n := 200) (by omega)
  have m5 : isM (foldP H) = true := isM_of (n := 200) (by rw [foldP_len]; omega)
  have m6 : ∀ p, isM (cleanP p) = true := fun p => isM_of (n := 1000) (clean_len p)
  have m7 : isM (F.drop A.length) = true := isM_of (n := 200) (by rw [List.length_drop]; omega)
  have m8 : isM (bif decide (F.length < r.length) then r.drop (F.length + 1) else []) = true := by
    refine isM_of (n := 200) ?_
    cases decide (F.length < r.length)
    · exact Nat.zero_le _
    · rw [cond_true, List.length_drop]; omega
  have q0 : ∀ n : Nat, decide ((0 : Int) ≤ (n : Int)) = true := fun n => decide_eq_true (by omega)
  have qA : decide ((A.length : Int) ≤ (r.length : Int)) = true := decide_eq_true (by omega)
  have q1 : decide (A.length ≤ 1000000) = true := decide_eq_true (by omega)
  have q2 : decide ((r.drop A.length).length ≤ 1000000) = true := decide_eq_true (by rw [List.length_drop]; omega)
  have q3 : decide ((A.drop (H.length + 1)).length ≤ 1000000) = true := decide_eq_true (by rw [List.length_drop]; omega)
  cases t0 : decide (anyIx r [47, 63] < 0)
  · rw [hend.2 t0]
    simp only [Br.val, cond_true, cond_false, q0, qA, ct, cd, q1, q2, y1, y2, y3, z1, z2, z3, m4, m5, m6, m7, m8, q3, Bool.and_self, Bool.and_true, drop_nil]
    cases t1 : decide (H.length < A.length)
    · cases t2 : decide (A.length < F.length)
      · simp only [Br.val, cond_true, cond_false, Bool.not_false, Bool.true_and]
        cases urlOkP (foldP H) 80 [47] (bif decide (F.length < r.length) then r.drop (F.length + 1) else []) (decide (F.length < r.length)) <;> rfl
      · simp only [Br.val, cond_true, cond_false, Bool.not_true, Bool.true_and]
        cases urlOkP (foldP H) 80 (cleanP (F.drop A.length)) (bif decide (F.length < r.length) then r.drop (F.length + 1) else []) (decide (F.length < r.length)) <;> rfl
    · cases t4 : (decR (A.drop (H.length + 1))).2
      · simp only [Br.val, cond_true, cond_false, Bool.not_false, Bool.false_and, t4]; rfl
      · cases t2 : decide (A.length < F.length)
        · simp only [Br.val, cond_true, cond_false, Bool.not_false, Bool.not_true, Bool.true_and, t4]
          cases urlOkP (foldP H) (decR (A.drop (H.length + 1))).1 [47] (bif decide (F.length < r.length) then r.drop (F.length + 1) else []) (decide (F.length < r.length)) <;> rfl
        · simp only [Br.val, cond_true, cond_false, Bool.not_true, Bool.true_and, t4]
          cases urlOkP (foldP H) (decR (A.drop (H.length + 1))).1 (cleanP (F.drop A.length)) (bif decide (F.length < r.length) then r.drop (F.length + 1) else []) (decide (F.length < r.length)) <;> rfl
  · have hl := hend.1 t0
    have ct2 : cut r 0 (r.length : Int) = A := by rw [hl] at ct; exact ct
    have cd2 : cut r (r.length : Int) (r.length : Int) = r.drop A.length := by
      rw [cut_end (l := r) (k := r.length) rfl, hl]
    have qB : decide ((r.length : Int) ≤ (r.length : Int)) = true := decide_eq_true (Int.le_refl _)
    simp only [Br.val, cond_true, cond_false, q0, qB, ct2, cd2, q1, q2, y1, y2, y3, z1, z2, z3, m4, m5, m6, m7, m8, q3, Bool.and_self, Bool.and_true, drop_nil]
    cases t1 : decide (H.length < A.length)
    · cases t2 : decide (A.length < F.length)
      · simp only [Br.val, cond_true, cond_false, Bool.not_false, Bool.true_and]
        cases urlOkP (foldP H) 80 [47] (bif decide (F.length < r.length) then r.drop (F.length + 1) else []) (decide (F.length < r.length)) <;> rfl
      · simp only [Br.val, cond_true, cond_false, Bool.not_true, Bool.true_and]
        cases urlOkP (foldP H) 80 (cleanP (F.drop A.length)) (bif decide (F.length < r.length) then r.drop (F.length + 1) else []) (decide (F.length < r.length)) <;> rfl
    · cases t4 : (decR (A.drop (H.length + 1))).2
      · simp only [Br.val, cond_true, cond_false, Bool.not_false, Bool.false_and, t4]; rfl
      · cases t2 : decide (A.length < F.length)
        · simp only [Br.val, cond_true, cond_false, Bool.not_false, Bool.not_true, Bool.true_and, t4]
          cases urlOkP (foldP H) (decR (A.drop (H.length + 1))).1 [47] (bif decide (F.length < r.length) then r.drop (F.length + 1) else []) (decide (F.length < r.length)) <;> rfl
        · simp only [Br.val, cond_true, cond_false, Bool.not_true, Bool.true_and, t4]
          cases urlOkP (foldP H) (decR (A.drop (H.length + 1))).1 (cleanP (F.drop A.length)) (bif decide (F.length < r.length) then r.drop (F.length + 1) else []) (decide (F.length < r.length)) <;> rfl
theorem sUrlText_okQ : Sound Kx 156 (ur_s (fun h po pa q _ => isM h && isM pa && isM q) (fun h po pa q hq => .str (bif urlOkP h po pa q hq then urlT h po pa q hq else []))) := of_ur sUrlText_ok fun h po pa q hq hs => by
  show (sUrlText_br h po pa q hq).val = some (.str (bif urlOkP h po pa q hq then urlT h po pa q hq else []), [])
  unfold sUrlText_br
  refine (val_t hs).trans ?_
  cases ho : urlOkP h po pa q hq
  · rfl
  · simp only [Bool.and_eq_true] at hs
    have ho' := ho
    unfold urlOkP at ho'
    simp only [Bool.and_eq_true, Bool.not_eq_true', decide_eq_false_iff_not] at ho'
    obtain ⟨⟨⟨⟨⟨⟨⟨h1, h2, h3⟩, h4⟩, h5⟩, _⟩, _⟩, _⟩, _⟩ := ho'
    exact (val_f rfl).trans ((val_t (smU_mk h1 h2 h3 (decide_eq_false h4) h5 hs.2)).trans rfl)
end
end Go.Proofs.YtmmjaomfonknnaaGreatDoor.Ev

namespace Go.Proofs.YtmmjaomfonknnaaGreatDoor.Ev
open Go Go.RowKit
set_option linter.unusedVariables false
set_option linter.unusedSimpArgs false
noncomputable section

/-! impl.Canon -/
def iCanon_O : Opt := { cons := [], keepNil := false, mutF := [], live := [], outs := [] }
def iCanon_C : Spec := (add (add noS 160 ru_s) 161 ut_s)
theorem iCanon_C_ok : ∀ fn, Sound Kx fn (iCanon_C fn) := (sound_add (sound_add (sound_no Kx) iReadUrl_okQ) iUrlT_okQ)
def iCanon_br (s : Bytes) : Br := (Br.ite (isM s) (Br.ite (!(readUP s).2) (Br.ret (AV.tup ((AV.str ([] : (List UInt8))) :: ((AV.bool false) :: ([] : (List (AV)))))) ([] : (List (Ob)))) (Br.ite (smU (readUP s).1.1 (readUP s).1.2 (readUP s).1.3 (readUP s).1.4) (Br.ret (AV.tup ((AV.str (urlT (readUP s).1.1 (readUP s).1.2 (readUP s).1.3 (readUP s).1.4 (readUP s).1.5)) :: ((AV.bool true) :: ([] : (List (AV)))))) ([] : (List (Ob)))) Br.fail)) Br.fail)
theorem iCanon_run (s : Bytes) : runF Kx iCanon_C iCanon_O 1 Tryz.f115 ([.str s]) ([]) = (iCanon_br s).val := by kernel_rfl
def iCanon_s : List AV → List Ob → Br
  | [.str s], [] => iCanon_br s
  | _, _ => .fail
theorem iCanon_ok : Sound Kx 115 iCanon_s := by
  refine sound_run (C := iCanon_C) (O := iCanon_O) KOk iCanon_C_ok Tryz.func115 (by kernel_rfl) fun args objs res os h => ?_
  unfold iCanon_s at h
  split at h
  · exact ⟨1, (iCanon_run _).trans h⟩
  · cases h

/-! spec.Canon -/
def sCanon_O : Opt := { cons := [], keepNil := false, mutF := [], live := [], outs := [] }
def sCanon_C : Spec := (add (add noS 155 ru_s) 156 (ur_s (fun h po pa q _ => isM h && isM pa && isM q) (fun h po pa q hq => .str (bif urlOkP h po pa q hq then urlT h po pa q hq else []))))
theorem sCanon_C_ok : ∀ fn, Sound Kx fn (sCanon_C fn) := (sound_add (sound_add (sound_no Kx) sReadUrl_okQ) sUrlText_okQ)
def sCanon_br (s : Bytes) : Br := (Br.ite (isM s) (Br.ite (!(readUP s).2) (Br.ret (AV.tup ((AV.str ([] : (List UInt8))) :: ((AV.bool false) :: ([] : (List (AV)))))) ([] : (List (Ob)))) (Br.ite (((isM (readUP s).1.1) && (isM (readUP s).1.3)) && (isM (readUP s).1.4)) (Br.ret (AV.tup ((AV.str (bif (urlOkP (readUP s).1.1 (readUP s).1.2 (readUP s).1.3 (readUP s).1.4 (readUP s).1.5) then (urlT (readUP s).1.1 (readUP s).1.2 (readUP s).1.3 (readUP s).1.4 (readUP s).1.5) else ([] : (List UInt8)))) :: ((AV.bool true) :: ([] : (List (AV)))))) ([] : (List (Ob)))) Br.fail)) Br.fail)
theorem sCanon_run (s : Bytes) : runF Kx sCanon_C sCanon_O 1 Tryz.f110 ([.str s]) ([]) = (sCanon_br s).val := by kernel_rfl
def sCanon_s : List AV → List Ob → Br
  | [.str s], [] => sCanon_br s
  | _, _ => .fail
theorem sCanon_ok : Sound Kx 110 sCanon_s := by
  refine sound_run (C := sCanon_C) (O := sCanon_O) KOk sCanon_C_ok Tryz.func110 (by kernel_rfl) fun args objs res os h => ?_
  unfold sCanon_s at h
  split at h
  · exact ⟨1, (sCanon_run _).trans h⟩
  · cases h

end
end Go.Proofs.YtmmjaomfonknnaaGreatDoor.Ev

namespace Go.Proofs.YtmmjaomfonknnaaGreatDoor.Ev
open Go Go.RowKit
set_option linter.unusedVariables false
set_option linter.unusedSimpArgs false
noncomputable section

theorem readU_ok {s : Bytes} (h : (readUP s).2 = true) : (readUP s).1.ok = true := by
  unfold readUP at h ⊢
  cases c : readOk s && (portR (authP (s.drop 7))).2 && (urlR (s.drop 7)).ok
  · rw [c] at h; cases h
  · rw [cond_true]
    simp only [Bool.and_eq_true] at c
    exact c.2
theorem ok_parts {h : Bytes} {po : Int} {pa q : Bytes} {hq : Bool} (ho : urlOkP h po pa q hq = true) : hostP h = true ∧ decide (1 ≤ po) = true ∧ decide (po ≤ 65535) = true ∧ decide (pa = []) = false ∧ decide (cleanP pa = pa) = true ∧ (urlT h po pa q hq).length ≤ 200 := by
  unfold urlOkP at ho
  simp only [Bool.and_eq_true, Bool.not_eq_true', decide_eq_false_iff_not] at ho
  obtain ⟨⟨⟨⟨⟨⟨⟨h1, h2, h3⟩, h4⟩, h5⟩, _⟩, _⟩, _⟩, h8⟩ := ho
  exact ⟨h1, h2, h3, decide_eq_false h4, h5, of_decide_eq_true h8⟩
theorem q_len {h : Bytes} {po : Int} {pa q : Bytes} {hq : Bool} (ho : urlOkP h po pa q hq = true) : q.length ≤ 200 := by
  have hl := (ok_parts ho).2.2.2.2.2
  unfold urlOkP at ho
  simp only [Bool.and_eq_true, Bool.or_eq_true, decide_eq_true_eq] at ho
  rcases ho.1.2 with h' | h'
  · subst h'
    have := urlT_q h po pa q; omega
  · rw [h']; exact Nat.zero_le _
theorem ur_sizes {u : Ur} (ho : u.ok = true) : smU u.h u.po u.pa u.q = true ∧ (isM u.h && isM u.pa && isM u.q) = true := by
  unfold Ur.ok at ho
  obtain ⟨h1, h2, h3, h4, h5, _⟩ := ok_parts ho
  have hq : isM u.q = true := isM_of (n := 200) (q_len ho)
  have a := host_len h1
  have b := clean_fix (of_decide_eq_true h5) (of_decide_eq_false h4)
  exact ⟨smU_mk h1 h2 h3 h4 h5 hq, by rw [hq, isM_of (n := 60) a, isM_of (n := 200) b]; rfl⟩
def ca_s : List AV → List Ob → Br := t1_s fun s => .tup [.str (canonP s).1, .bool (canonP s).2]
theorem iCanon_okQ : Sound Kx 115 ca_s := iCanon_ok.of fun args objs r h => by
  unfold ca_s t1_s at h
  split at h
  case h_2 => cases h
  rename_i s
  obtain ⟨hM, h2⟩ := ite_some h
  cases h2
  show (iCanon_br s).val = some (.tup [.str (canonP s).1, .bool (canonP s).2], [])
  unfold iCanon_br canonP
  refine (val_t hM).trans ?_
  cases c : (readUP s).2
  · rfl
  · exact (val_f rfl).trans ((val_t (ur_sizes (readU_ok c)).1).trans rfl)
theorem sCanon_okQ : Sound Kx 110 ca_s := sCanon_ok.of fun args objs r h => by
  unfold ca_s t1_s at h
  split at h
  case h_2 => cases h
  rename_i s
  obtain ⟨hM, h2⟩ := ite_some h
  cases h2
  show (sCanon_br s).val = some (.tup [.str (canonP s).1, .bool (canonP s).2], [])
  unfold sCanon_br canonP
  refine (val_t hM).trans ?_
  cases c : (readUP s).2
  · rfl
  · have ho := readU_ok c
    have ho' : urlOkP (readUP s).1.h (readUP s).1.po (readUP s).1.pa (readUP s).1.q (readUP s).1.hq = true := ho
    refine (val_f rfl).trans ((val_t (ur_sizes ho).2).trans ?_)
    rw [ho']; rfl
end
end Go.Proofs.YtmmjaomfonknnaaGreatDoor.Ev

namespace Go.Proofs.YtmmjaomfonknnaaGreatDoor.Ev
open Go Go.RowKit
set_option linter.unusedVariables false
set_option linter.unusedSimpArgs false
noncomputable section

/-! impl.isCanonical -/
def iIsCan_O : Opt := { cons := [], keepNil := false, mutF := [], live := [], outs := [] }
def iIsCan_C : Spec := (add noS 115 ca_s)
theorem iIsCan_C_ok : ∀ fn, Sound Kx fn (iIsCan_C fn) := (sound_add (sound_no Kx) iCanon_okQ)
def iIsCan_br (s : Bytes) : Br := (Br.ite (isM s) (Br.ite (canonP s).2 (Br.ret (AV.bool (decide ((canonP s).1 = s))) ([] : (List (Ob)))) (Br.ret (AV.bool false) ([] : (List (Ob))))) Br.fail)
theorem iIsCan_run (s : Bytes) : runF Kx iIsCan_C iIsCan_O 1 Tryz.f80 ([.str s]) ([]) = (iIsCan_br s).val := by kernel_rfl
def iIsCan_s : List AV → List Ob → Br
  | [.str s], [] => iIsCan_br s
  | _, _ => .fail
theorem iIsCan_ok : Sound Kx 80 iIsCan_s := by
  refine sound_run (C := iIsCan_C) (O := iIsCan_O) KOk iIsCan_C_ok Tryz.func80 (by kernel_rfl) fun args objs res os h => ?_
  unfold iIsCan_s at h
  split at h
  · exact ⟨1, (iIsCan_run _).trans h⟩
  · cases h

/-! spec.l8canon -/
def sIsCan_O : Opt := { cons := [], keepNil := false, mutF := [], live := [], outs := [] }
def sIsCan_C : Spec := (add noS 110 ca_s)
theorem sIsCan_C_ok : ∀ fn, Sound Kx fn (sIsCan_C fn) := (sound_add (sound_no Kx) sCanon_okQ)
def sIsCan_br (s : Bytes) : Br := (Br.ite (isM s) (Br.ite (canonP s).2 (Br.ret (AV.bool (decide ((canonP s).1 = s))) ([] : (List (Ob)))) (Br.ret (AV.bool false) ([] : (List (Ob))))) Br.fail)
theorem sIsCan_run (s : Bytes) : runF Kx sIsCan_C sIsCan_O 1 Tryz.f76 ([.str s]) ([]) = (sIsCan_br s).val := by kernel_rfl
def sIsCan_s : List AV → List Ob → Br
  | [.str s], [] => sIsCan_br s
  | _, _ => .fail
theorem sIsCan_ok : Sound Kx 76 sIsCan_s := by
  refine sound_run (C := sIsCan_C) (O := sIsCan_O) KOk sIsCan_C_ok Tryz.func76 (by kernel_rfl) fun args objs res os h => ?_
  unfold sIsCan_s at h
  split at h
  · exact ⟨1, (sIsCan_run _).trans h⟩
  · cases h

/-! impl.isTime -/
def iTime_O : Opt := { cons := [], keepNil := false, mutF := [], live := [], outs := [] }
def iTime_C : Spec := (add noS 84 iwithin_s)
theorem iTime_C_ok : ∀ fn, Sound Kx fn (iTime_C fn) := (sound_add (sound_no Kx) iwithin_ok)
def iTime_br (n : Int) : Br := (Br.ite (decide ((0 : Int) ≤ n)) (Br.ret (AV.bool (decide (n ≤ (253402300799 : Int)))) ([] : (List (Ob)))) (Br.ret (AV.bool false) ([] : (List (Ob)))))
theorem iTime_run (n : Int) : runF Kx iTime_C iTime_O 1 Tryz.f81 ([.int .i64 n]) ([]) = (iTime_br n).val := by kernel_rfl
def iTime_s : List AV → List Ob → Br
  | [.int .i64 n], [] => iTime_br n
  | _, _ => .fail
theorem iTime_ok : Sound Kx 81 iTime_s := by
  refine sound_run (C := iTime_C) (O := iTime_O) KOk iTime_C_ok Tryz.func81 (by kernel_rfl) fun args objs res os h => ?_
  unfold iTime_s at h
  split at h
  · exact ⟨1, (iTime_run _).trans h⟩
  · cases h

/-! spec.l2time -/
def sTime_O : Opt := { cons := [], keepNil := false, mutF := [], live := [], outs := [] }
def sTime_br (n : Int) : Br := (Br.ite (decide ((0 : Int) ≤ n)) (Br.ret (AV.bool (decide (n ≤ (253402300799 : Int)))) ([] : (List (Ob)))) (Br.ret (AV.bool false) ([] : (List (Ob)))))
theorem sTime_run (n : Int) : runF Kx noS sTime_O 1 Tryz.f77 ([.int .i64 n]) ([]) = (sTime_br n).val := by kernel_rfl
def sTime_s : List AV → List Ob → Br
  | [.int .i64 n], [] => sTime_br n
  | _, _ => .fail
theorem sTime_ok : Sound Kx 77 sTime_s := by
  refine sound_run (C := noS) (O := sTime_O) KOk (sound_no Kx) Tryz.func77 (by kernel_rfl) fun args objs res os h => ?_
  unfold sTime_s at h
  split at h
  · exact ⟨1, (sTime_run _).trans h⟩
  · cases h

/-! impl.WriteMsg -/
def iWrite_O : Opt := { cons := [], keepNil := false, mutF := [], live := [], outs := [] }
def iWrite_C : Spec := (add (add noS 82 mgOk_s) 122 head_s)
theorem iWrite_C_ok : ∀ fn, Sound Kx fn (iWrite_C fn) := (sound_add (sound_add (sound_no Kx) iMsgOk_okQ) head_okQ)
def iWrite_br (me ta : Bytes) (st : Int) (re : Bytes) (ba : Bool) (fs : List Fd) (bo : Bytes) : Br := (Br.ite (!(msgOkP me ta st re ba fs bo)) (Br.ret (AV.str ([] : (List UInt8))) ([] : (List (Ob)))) (Br.ite (hdG me ta st re fs bo) (Br.ite (decide (((List.length (headP me ta st re ba fs bo)) + (List.length bo)) ≤ (9223372036854775807 : Nat))) (Br.ret (AV.str ((headP me ta st re ba fs bo) ++ bo)) ([] : (List (Ob)))) Br.fail) Br.fail))
theorem iWrite_run (me ta : Bytes) (st : Int) (re : Bytes) (ba : Bool) (fs : List Fd) (bo : Bytes) : runF Kx iWrite_C iWrite_O 1 Tryz.f83 ([.agg [.str me, .str ta, .int .i64 st, .str re, .bool ba, .sh (.pair .str .str) fs, .str bo]]) ([]) = (iWrite_br me ta st re ba fs bo).val := by kernel_rfl
def iWrite_s : List AV → List Ob → Br
  | [.agg [.str me, .str ta, .int .i64 st, .str re, .bool ba, .sh (.pair .str .str) fs, .str bo]], [] => iWrite_br me ta st re ba fs bo
  | _, _ => .fail
theorem iWrite_ok : Sound Kx 83 iWrite_s := by
  refine sound_run (C := iWrite_C) (O := iWrite_O) KOk iWrite_C_ok Tryz.func83 (by kernel_rfl) fun args objs res os h => ?_
  unfold iWrite_s at h
  split at h
  · exact ⟨1, (iWrite_run _ _ _ _ _ _ _).trans h⟩
  · cases h

/-! spec.WriteMsg -/
def sWrite_O : Opt := { cons := [], keepNil := false, mutF := [], live := [], outs := [] }
def sWrite_C : Spec := (add (add noS 78 mgOk_s) 114 head_s)
theorem sWrite_C_ok : ∀ fn, Sound Kx fn (sWrite_C fn) := (sound_add (sound_add (sound_no Kx) sMsgOk_okQ) sHead_okQ)
def sWrite_br (me ta : Bytes) (st : Int) (re : Bytes) (ba : Bool) (fs : List Fd) (bo : Bytes) : Br := (Br.ite (!(msgOkP me ta st re ba fs bo)) (Br.ret (AV.str ([] : (List UInt8))) ([] : (List (Ob)))) (Br.ite (hdG me ta st re fs bo) (Br.ite (decide (((List.length (headP me ta st re ba fs bo)) + (List.length bo)) ≤ (9223372036854775807 : Nat))) (Br.ret (AV.str ((headP me ta st re ba fs bo) ++ bo)) ([] : (List (Ob)))) Br.fail) Br.fail))
theorem sWrite_run (me ta : Bytes) (st : Int) (re : Bytes) (ba : Bool) (fs : List Fd) (bo : Bytes) : runF Kx sWrite_C sWrite_O 1 Tryz.f79 ([.agg [.str me, .str ta, .int .i64 st, .str re, .bool ba, .sh (.pair .str .str) fs, .str bo]]) ([]) = (sWrite_br me ta st re ba fs bo).val := by kernel_rfl
def sWrite_s : List AV → List Ob → Br
  | [.agg [.str me, .str ta, .int .i64 st, .str re, .bool ba, .sh (.pair .str .str) fs, .str bo]], [] => sWrite_br me ta st re ba fs bo
  | _, _ => .fail
theorem sWrite_ok : Sound Kx 79 sWrite_s := by
  refine sound_run (C := sWrite_C) (O := sWrite_O) KOk sWrite_C_ok Tryz.func79 (by kernel_rfl) fun args objs res os h => ?_
  unfold sWrite_s at h
  split at h
  · exact ⟨1, (sWrite_run _ _ _ _ _ _ _).trans h⟩
  · cases h

/-! laws.szEntry -/
def szEntry_O : Opt := { cons := [], keepNil := false, mutF := [], live := [], outs := [] }
def szEntry_C : Spec := (add (add noS 28 (szFieldS_sOf fun l left => .ite (smF l && okLeft left) (.ret (.int .i64 (szFl l left)) []) .fail)) 36 szM_s)
theorem szEntry_C_ok : ∀ fn, Sound Kx fn (szEntry_C fn) := (sound_add (sound_add (sound_no Kx) szFieldS_okQ) szMsg_okQ)
def szEntry_br (ur : Bytes) (t1 t2 : Int) (ak : List Fd) (me ta : Bytes) (st : Int) (re : Bytes) (ba : Bool) (fs : List Fd) (bo : Bytes) (left : Int) : Br := (Br.ite (decide ((wk64 (left - ((List.length ur) : Int))) < (0 : Int))) (Br.ret (AV.int .i64 (-(1 : Int))) ([] : (List (Ob)))) (Br.ite ((smF ak) && (okLeft (wk64 (left - ((List.length ur) : Int))))) (Br.ite (decide ((szFl ak (wk64 (left - ((List.length ur) : Int)))) < (0 : Int))) (Br.ret (AV.int .i64 (-(1 : Int))) ([] : (List (Ob)))) (Br.ite ((smM me ta re fs bo) && (okLeft (szFl ak (wk64 (left - ((List.length ur) : Int)))))) (Br.ite (decide ((szM (msgW me ta re fs bo) (szFl ak (wk64 (left - ((List.length ur) : Int))))) < (0 : Int))) (Br.ret (AV.int .i64 (-(1 : Int))) ([] : (List (Ob)))) (Br.ret (AV.int .i64 (szM (msgW me ta re fs bo) (szFl ak (wk64 (left - ((List.length ur) : Int)))))) ([] : (List (Ob))))) Br.fail)) Br.fail))
theorem szEntry_run (ur : Bytes) (t1 t2 : Int) (ak : List Fd) (me ta : Bytes) (st : Int) (re : Bytes) (ba : Bool) (fs : List Fd) (bo : Bytes) (left : Int) : runF Kx szEntry_C szEntry_O 1 Tryz.f10 ([.agg [.str ur, .int .i64 t1, .int .i64 t2, .sh (.pair .str .str) ak, .str me, .str ta, .int .i64 st, .str re, .bool ba, .sh (.pair .str .str) fs, .str bo], .int .i64 left]) ([]) = (szEntry_br ur t1 t2 ak me ta st re ba fs bo left).val := by kernel_rfl
def szEntry_s : List AV → List Ob → Br
  | [.agg [.str ur, .int .i64 t1, .int .i64 t2, .sh (.pair .str .str) ak, .str me, .str ta, .int .i64 st, .str re, .bool ba, .sh (.pair .str .str) fs, .str bo], .int .i64 left], [] => szEntry_br ur t1 t2 ak me ta st re ba fs bo left
  | _, _ => .fail
theorem szEntry_ok : Sound Kx 10 szEntry_s := by
  refine sound_run (C := szEntry_C) (O := szEntry_O) KOk szEntry_C_ok Tryz.func10 (by kernel_rfl) fun args objs res os h => ?_
  unfold szEntry_s at h
  split at h
  · exact ⟨1, (szEntry_run _ _ _ _ _ _ _ _ _ _ _ _).trans h⟩
  · cases h

/-! laws.toEntry -/
def toEntry_O : Opt := { cons := [], keepNil := false, mutF := [], live := [], outs := [] }
def toEntry_C : Spec := (add (add noS 30 (toFieldS_sOf fun l => .ite (decide (l.length ≤ 1048576)) (.ret (.ref 0 0) [.arr (.pair .str .str) 0 false l]) .fail)) 39 toMsg_s)
theorem toEntry_C_ok : ∀ fn, Sound Kx fn (toEntry_C fn) := (sound_add (sound_add (sound_no Kx) toFieldS_okQ) toMsg_ok)
def toEntry_br (ur : Bytes) (t1 t2 : Int) (ak : List Fd) (me ta : Bytes) (st : Int) (re : Bytes) (ba : Bool) (fs : List Fd) (bo : Bytes) : Br := (Br.ite (decide ((List.length ak) ≤ (1048576 : Nat))) (Br.ite (decide ((List.length fs) ≤ (1048576 : Nat))) (Br.ret (AV.agg ((AV.str ur) :: ((AV.int .i64 t1) :: ((AV.int .i64 t2) :: ((AV.ref (0 : Nat) (0 : Nat)) :: ((AV.str me) :: ((AV.str ta) :: ((AV.int .i64 st) :: ((AV.str re) :: ((AV.bool ba) :: ((AV.ref (1 : Nat) (0 : Nat)) :: ((AV.str bo) :: ([] : (List (AV))))))))))))))) ((Ob.arr (Ty.pair Ty.str Ty.str) (0 : Nat) false ak) :: ((Ob.arr (Ty.pair Ty.str Ty.str) (0 : Nat) false fs) :: ([] : (List (Ob)))))) Br.fail) Br.fail)
theorem toEntry_run (ur : Bytes) (t1 t2 : Int) (ak : List Fd) (me ta : Bytes) (st : Int) (re : Bytes) (ba : Bool) (fs : List Fd) (bo : Bytes) : runF Kx toEntry_C toEntry_O 1 Tryz.f12 ([.agg [.str ur, .int .i64 t1, .int .i64 t2, .sh (.pair .str .str) ak, .str me, .str ta, .int .i64 st, .str re, .bool ba, .sh (.pair .str .str) fs, .str bo]]) ([]) = (toEntry_br ur t1 t2 ak me ta st re ba fs bo).val := by kernel_rfl
def toEntry_s : List AV → List Ob → Br
  | [.agg [.str ur, .int .i64 t1, .int .i64 t2, .sh (.pair .str .str) ak, .str me, .str ta, .int .i64 st, .str re, .bool ba, .sh (.pair .str .str) fs, .str bo]], [] => toEntry_br ur t1 t2 ak me ta st re ba fs bo
  | _, _ => .fail
theorem toEntry_ok : Sound Kx 12 toEntry_s := by
  refine sound_run (C := toEntry_C) (O := toEntry_O) KOk toEntry_C_ok Tryz.func12 (by kernel_rfl) fun args objs res os h => ?_
  unfold toEntry_s at h
  split at h
  · exact ⟨1, (toEntry_run _ _ _ _ _ _ _ _ _ _ _).trans h⟩
  · cases h

/-! laws.eqEntry -/
def eqEntry_O : Opt := { cons := [], keepNil := false, mutF := [], live := [], outs := [] }
def eqEntry_C : Spec := (add (add noS 24 (eqFieldS_sOf fun l l' => .ite (decide (l.length ≤ 4611686018427387904)) (.ret (.bool (decide (l = l'))) []) .fail)) 42 eqm_s)
theorem eqEntry_C_ok : ∀ fn, Sound Kx fn (eqEntry_C fn) := (sound_add (sound_add (sound_no Kx) eqFieldS_okQ) eqMsg_okQ)
def eqEntry_br (ur : Bytes) (t1 t2 : Int) (ak : List Fd) (me ta : Bytes) (st : Int) (re : Bytes) (ba : Bool) (fs : List Fd) (bo : Bytes) (ur' : Bytes) (t1' t2' : Int) (ak' : List Fd) (me' ta' : Bytes) (st' : Int) (re' : Bytes) (ba' : Bool) (fs' : List Fd) (bo' : Bytes) : Br := (Br.ite (!(decide (ur = ur'))) (Br.ret (AV.bool false) ([] : (List (Ob)))) (Br.ite (!(decide (t1 = t1'))) (Br.ret (AV.bool false) ([] : (List (Ob)))) (Br.ite (!(decide (t2 = t2'))) (Br.ret (AV.bool false) ([] : (List (Ob)))) (Br.ite (decide ((List.length ak) ≤ (4611686018427387904 : Nat))) (Br.ite (!(decide (ak = ak'))) (Br.ret (AV.bool false) ([] : (List (Ob)))) (Br.ite ((((((((decide (me = me')) && (decide (ta = ta'))) && (decide (st = st'))) && (decide (re = re'))) && (decide (ba = ba'))) && (decide (fs = fs'))) && (decide (bo = bo'))) && (decide ((List.length fs) ≤ (1048576 : Nat)))) (Br.ret (AV.bool true) ([] : (List (Ob)))) Br.fail)) Br.fail))))
theorem eqEntry_run (ur : Bytes) (t1 t2 : Int) (ak : List Fd) (me ta : Bytes) (st : Int) (re : Bytes) (ba : Bool) (fs : List Fd) (bo : Bytes) (ur' : Bytes) (t1' t2' : Int) (ak' : List Fd) (me' ta' : Bytes) (st' : Int) (re' : Bytes) (ba' : Bool) (fs' : List Fd) (bo' : Bytes) : runF Kx eqEntry_C eqEntry_O 1 Tryz.f14 ([.agg [.str ur, .int .i64 t1, .int .i64 t2, .sh (.pair .str .str) ak, .str me, .str ta, .int .i64 st, .str re, .bool ba, .sh (.pair .str .str) fs, .str bo], .agg [.str ur', .int .i64 t1', .int .i64 t2', .sh (.pair .str .str) ak', .str me', .str ta', .int .i64 st', .str re', .bool ba', .sh (.pair .str .str) fs', .str bo']]) ([]) = (eqEntry_br ur t1 t2 ak me ta st re ba fs bo ur' t1' t2' ak' me' ta' st' re' ba' fs' bo').val := by kernel_rfl
def eqEntry_s : List AV → List Ob → Br
  | [.agg [.str ur, .int .i64 t1, .int .i64 t2, .sh (.pair .str .str) ak, .str me, .str ta, .int .i64 st, .str re, .bool ba, .sh (.pair .str .str) fs, .str bo], .agg [.str ur', .int .i64 t1', .int .i64 t2', .sh (.pair .str .str) ak', .str me', .str ta', .int .i64 st', .str re', .bool ba', .sh (.pair .str .str) fs', .str bo']], [] => eqEntry_br ur t1 t2 ak me ta st re ba fs bo ur' t1' t2' ak' me' ta' st' re' ba' fs' bo'
  | _, _ => .fail
theorem eqEntry_ok : Sound Kx 14 eqEntry_s := by
  refine sound_run (C := eqEntry_C) (O := eqEntry_O) KOk eqEntry_C_ok Tryz.func14 (by kernel_rfl) fun args objs res os h => ?_
  unfold eqEntry_s at h
  split at h
  · exact ⟨1, (eqEntry_run _ _ _ _ _ _ _ _ _ _ _ _ _ _ _ _ _ _ _ _ _ _).trans h⟩
  · cases h

end
end Go.Proofs.YtmmjaomfonknnaaGreatDoor.Ev

namespace Go.Proofs.YtmmjaomfonknnaaGreatDoor.Ev
open Go Go.RowKit
set_option linter.unusedVariables false
set_option linter.unusedSimpArgs false
noncomputable section

theorem iIsCan_okQ : Sound Kx 80 (t1_s fun s => .bool (isCanP s)) := iIsCan_ok.of fun args objs r h => by
  unfold t1_s at h
  split at h
  case h_2 => cases h
  rename_i s
  obtain ⟨hM, h2⟩ := ite_some h
  cases h2
  show (iIsCan_br s).val = some (.bool (isCanP s), [])
  unfold iIsCan_br isCanP
  refine (val_t hM).trans ?_
  cases (canonP s).2 <;> rfl
theorem sIsCan_okQ : Sound Kx 76 (t1_s fun s => .bool (isCanP s)) := sIsCan_ok.of fun args objs r h => by
  unfold t1_s at h
  split at h
  case h_2 => cases h
  rename_i s
  obtain ⟨hM, h2⟩ := ite_some h
  cases h2
  show (sIsCan_br s).val = some (.bool (isCanP s), [])
  unfold sIsCan_br isCanP
  refine (val_t hM).trans ?_
  cases (canonP s).2 <;> rfl
theorem iTime_okQ : Sound Kx 81 (pn_s timB) := of_pn iTime_ok fun b => v_and _ _
theorem sTime_okQ : Sound Kx 77 (pn_s timB) := of_pn sTime_ok fun b => v_and _ _
/-- A message as bytes. -/
def writeP (m : Mg) : Bytes := bif msgOkP m.1 m.2.1 m.2.2.1 m.2.2.2.1 m.2.2.2.2.1 m.2.2.2.2.2.1 m.2.2.2.2.2.2 then headP m.1 m.2.1 m.2.2.1 m.2.2.2.1 m.2.2.2.2.1 m.2.2.2.2.2.1 m.2.2.2.2.2.2 ++ m.2.2.2.2.2.2 else []
theorem msgOk_more {me ta re bo : Bytes} {st : Int} {ba : Bool} {fs : List Fd} (h : msgOkP me ta st re ba fs bo = true) : hdG me ta st re fs bo = true ∧ (headP me ta st re ba fs bo).length ≤ 1500 ∧ bo.length ≤ 600 := by
  unfold msgOkP at h
  simp only [Bool.and_eq_true, Bool.not_eq_true', decide_eq_true_eq, decide_eq_false_iff_not] at h
  obtain ⟨⟨⟨⟨⟨h1, h2⟩, h3⟩, h4⟩, h5⟩, h6⟩ := h
  exact ⟨hdG_ok h1 h3 h5, by omega, by omega⟩
def wr_s : List AV → List Ob → Br := mg_s fun m => .str (writeP m)
theorem iWrite_okQ : Sound Kx 83 wr_s := of_mg iWrite_ok fun me ta st re ba fs bo => by
  show (iWrite_br me ta st re ba fs bo).val = some (.str (writeP (me, ta, st, re, ba, fs, bo)), [])
  unfold iWrite_br writeP
  simp only
  cases h : msgOkP me ta st re ba fs bo
  · rfl
  · obtain ⟨h1, h2, h3⟩ := msgOk_more h
    exact (val_f rfl).trans ((val_t h1).trans ((val_t (decide_eq_true (by omega))).trans rfl))
theorem sWrite_okQ : Sound Kx 79 wr_s := of_mg sWrite_ok fun me ta st re ba fs bo => by
  show (sWrite_br me ta st re ba fs bo).val = some (.str (writeP (me, ta, st, re, ba, fs, bo)), [])
  unfold sWrite_br writeP
  simp only
  cases h : msgOkP me ta st re ba fs bo
  · rfl
  · obtain ⟨h1, h2, h3⟩ := msgOk_more h
    exact (val_f rfl).trans ((val_t h1).trans ((val_t (decide_eq_true (by omega))).trans rfl))
theorem write_len (m : Mg) : (writeP m).length ≤ 2100 := by
  unfold writeP
  cases h : msgOkP m.1 m.2.1 m.2.2.1 m.2.2.2.1 m.2.2.2.2.1 m.2.2.2.2.2.1 m.2.2.2.2.2.2
  · exact Nat.zero_le _
  · obtain ⟨_, h2, h3⟩ := msgOk_more h
    rw [cond_true, List.length_append]; omega

/-! entries -/
abbrev En := Bytes × Int × Int × List Fd × Mg
def en_s (g : En → Bool) (p : En → AV) : List AV → List Ob → Br
  | [.agg [.str ur, .int .i64 t1, .int .i64 t2, .sh (.pair .str .str) ak, .str me, .str ta, .int .i64 st, .str re, .bool ba, .sh (.pair .str .str) fs, .str bo]], [] =>
    .ite (g (ur, t1, t2, ak, me, ta, st, re, ba, fs, bo)) (.ret (p (ur, t1, t2, ak, me, ta, st, re, ba, fs, bo)) []) .fail
  | _, _ => .fail
theorem of_en {n : Nat} {s : List AV → List Ob → Br} (hs : Sound Kx n s) {g : En → Bool} {p : En → AV}
    (h : ∀ ur t1 t2 ak me ta st re ba fs bo, g (ur, t1, t2, ak, me, ta, st, re, ba, fs, bo) = true → (s [.agg [.str ur, .int .i64 t1, .int .i64 t2, .sh (.pair .str .str) ak, .str me, .str ta, .int .i64 st, .str re, .bool ba, .sh (.pair .str .str) fs, .str bo]] []).val = some (p (ur, t1, t2, ak, me, ta, st, re, ba, fs, bo), [])) : Sound Kx n (en_s g p) := hs.of fun args objs r hv => by
  unfold en_s at hv
  split at hv
  case h_2 => cases hv
  obtain ⟨h1, h2⟩ := ite_some hv
  cases h2
  exact h _ _ _ _ _ _ _ _ _ _ _ h1
def smE (e : En) : Bool := isM e.1 && smF e.2.2.2.1 && smM e.2.2.2.2.1 e.2.2.2.2.2.1 e.2.2.2.2.2.2.2.1 e.2.2.2.2.2.2.2.2.2.1 e.2.2.2.2.2.2.2.2.2.2
def enW (e : En) : Int := (e.1.length : Int) + ((e.2.2.2.1.length : Int) + totF e.2.2.2.1) + msgW e.2.2.2.2.1 e.2.2.2.2.2.1 e.2.2.2.2.2.2.2.1 e.2.2.2.2.2.2.2.2.2.1 e.2.2.2.2.2.2.2.2.2.2
theorem msgW_nn (me ta re : Bytes) (fs : List Fd) (bo : Bytes) : 0 ≤ msgW me ta re fs bo := by
  have := totF_nn fs
  unfold msgW; omega
def szE_s : List AV → List Ob → Br
  | [.agg [.str ur, .int .i64 t1, .int .i64 t2, .sh (.pair .str .str) ak, .str me, .str ta, .int .i64 st, .str re, .bool ba, .sh (.pair .str .str) fs, .str bo], .int .i64 left], [] =>
    .ite (smE (ur, t1, t2, ak, me, ta, st, re, ba, fs, bo) && okLeft left) (.ret (.int .i64 (szM (enW (ur, t1, t2, ak, me, ta, st, re, ba, fs, bo)) left)) []) .fail
  | _, _ => .fail
theorem szEntry_okQ : Sound Kx 10 szE_s := szEntry_ok.of fun args objs r h => by
  unfold szE_s at h
  split at h
  case h_2 => cases h
  rename_i ur t1 t2 ak me ta st re ba fs bo left
  obtain ⟨h1, h2⟩ := ite_some h
  cases h2
  show (szEntry_br ur t1 t2 ak me ta st re ba fs bo left).val = some (.int .i64 (szM (enW (ur, t1, t2, ak, me, ta, st, re, ba, fs, bo)) left), [])
  simp only [smE, Bool.and_eq_true] at h1
  obtain ⟨⟨⟨m1, m2⟩, m3⟩, h0⟩ := h1
  have g1 := isM_le m1
  simp only [okLeft, Bool.and_eq_true, decide_eq_true_eq] at h0
  have ha := totF_nn ak
  have hm := msgW_nn me ta re fs bo
  unfold szEntry_br enW
  simp only
  rw [w64 (n := left - _) (by omega) (by omega)]
  by_cases c1 : left - (ur.length : Int) < 0
  · rw [val_t (decide_eq_true c1)]
    unfold szM
    rw [decide_eq_false (by omega)]; rfl
  rw [val_f (decide_eq_false c1)]
  have hk : okLeft (left - (ur.length : Int)) = true := by simp only [okLeft, Bool.and_eq_true, decide_eq_true_eq]; omega
  refine (val_t (by rw [m2, hk]; rfl)).trans ?_
  unfold szFl
  by_cases c4 : (ak.length : Int) + totF ak ≤ left - (ur.length : Int)
  · simp only [decide_eq_true c4, cond_true]
    refine (val_f (decide_eq_false (by omega))).trans ?_
    have hk2 : okLeft (left - (ur.length : Int) - ((ak.length : Int) + totF ak)) = true := by simp only [okLeft, Bool.and_eq_true, decide_eq_true_eq]; omega
    refine (val_t (by rw [m3, hk2]; rfl)).trans ?_
    unfold szM
    by_cases c5 : msgW me ta re fs bo ≤ left - (ur.length : Int) - ((ak.length : Int) + totF ak)
    · simp only [decide_eq_true c5, cond_true]
      refine (val_f (decide_eq_false (by omega))).trans ?_
      rw [decide_eq_true (by omega), cond_true, val_ret]
      rw [show left - (ur.length : Int) - ((ak.length : Int) + totF ak) - msgW me ta re fs bo = left - ((ur.length : Int) + ((ak.length : Int) + totF ak) + msgW me ta re fs bo) by omega]
    · simp only [decide_eq_false c5, cond_false]
      refine (val_t (by decide)).trans ?_
      rw [decide_eq_false (by omega)]; rfl
  · simp only [decide_eq_false c4, cond_false]
    refine (val_t (by decide)).trans ?_
    unfold szM
    rw [decide_eq_false (by omega)]; rfl
/-- Two entries that are the same. -/
def eqEb (a b : En) : Bool := decide (a.1 = b.1) && decide (a.2.1 = b.2.1) && decide (a.2.2.1 = b.2.2.1) && decide (a.2.2.2.1 = b.2.2.2.1) && decide (a.2.2.2.2.1 = b.2.2.2.2.1) && decide (a.2.2.2.2.2.1 = b.2.2.2.2.2.1) && decide (a.2.2.2.2.2.2.1 = b.2.2.2.2.2.2.1) && decide (a.2.2.2.2.2.2.2.1 = b.2.2.2.2.2.2.2.1) && decide (a.2.2.2.2.2.2.2.2.1 = b.2.2.2.2.2.2.2.2.1) && decide (a.2.2.2.2.2.2.2.2.2.1 = b.2.2.2.2.2.2.2.2.2.1) && decide (a.2.2.2.2.2.2.2.2.2.2 = b.2.2.2.2.2.2.2.2.2.2)
theorem eqEb_self (a : En) : eqEb a a = true := by unfold eqEb; simp only [decide_true, Bool.and_self]
def eqE_s : List AV → List Ob → Br
  | [.agg [.str ur, .int .i64 t1, .int .i64 t2, .sh (.pair .str .str) ak, .str me, .str ta, .int .i64 st, .str re, .bool ba, .sh (.pair .str .str) fs, .str bo], .agg [.str ur', .int .i64 t1', .int .i64 t2', .sh (.pair .str .str) ak', .str me', .str ta', .int .i64 st', .str re', .bool ba', .sh (.pair .str .str) fs', .str bo']], [] =>
    .ite (eqEb (ur, t1, t2, ak, me, ta, st, re, ba, fs, bo) (ur', t1', t2', ak', me', ta', st', re', ba', fs', bo') && decide (ak.length ≤ 1048576) && decide (fs.length ≤ 1048576)) (.ret (.bool true) []) .fail
  | _, _ => .fail
theorem eqEntry_okQ : Sound Kx 14 eqE_s := eqEntry_ok.of fun args objs r h => by
  unfold eqE_s at h
  split at h
  case h_2 => cases h
  obtain ⟨h1, h2⟩ := ite_some h
  cases h2
  simp only [eqEb, Bool.and_eq_true, decide_eq_true_eq] at h1
  obtain ⟨⟨⟨⟨⟨⟨⟨⟨⟨⟨⟨⟨rfl, rfl⟩, rfl⟩, rfl⟩, rfl⟩, rfl⟩, rfl⟩, rfl⟩, rfl⟩, rfl⟩, rfl⟩, ha⟩, hl⟩ := h1
  rename_i ur t1 t2 ak me ta st re ba fs bo
  show (eqEntry_br ur t1 t2 ak me ta st re ba fs bo ur t1 t2 ak me ta st re ba fs bo).val = _
  unfold eqEntry_br
  simp only [decide_true, Bool.not_true, Bool.true_and]
  exact (val_f rfl).trans ((val_f rfl).trans ((val_f rfl).trans ((val_t (decide_eq_true (by omega))).trans ((val_f rfl).trans ((val_t (decide_eq_true hl)).trans rfl)))))
/-- Is it an entry? -/
def entP (e : En) : Bool :=
  isCanP e.1 && timB e.2.1 && timB e.2.2.1 && decide (e.2.1 ≤ e.2.2.1) && fdsOk e.2.2.2.1 && msgOkP e.2.2.2.2.1 e.2.2.2.2.2.1 e.2.2.2.2.2.2.1 e.2.2.2.2.2.2.2.1 e.2.2.2.2.2.2.2.2.1 e.2.2.2.2.2.2.2.2.2.1 e.2.2.2.2.2.2.2.2.2.2 && decide (e.2.2.2.2.1 = []) && !e.2.2.2.2.2.2.2.2.1
end
end Go.Proofs.YtmmjaomfonknnaaGreatDoor.Ev

namespace Go.Proofs.YtmmjaomfonknnaaGreatDoor.Ev
open Go Go.RowKit
set_option linter.unusedVariables false
set_option linter.unusedSimpArgs false
noncomputable section

/-! impl.EntryOk -/
def iEntryOk_O : Opt := { cons := [], keepNil := false, mutF := [], live := [], outs := [], split := true }
def iEntryOk_C : Spec := (add (add (add (add noS 80 (t1_s fun s => .bool (isCanP s))) 81 (pn_s timB)) 65 (fl_s fun l => .bool (fdsOk l))) 82 mgOk_s)
theorem iEntryOk_C_ok : ∀ fn, Sound Kx fn (iEntryOk_C fn) := (sound_add (sound_add (sound_add (sound_add (sound_no Kx) iIsCan_okQ) iTime_okQ) iFieldsOk_okQ) iMsgOk_okQ)
def iEntryOk_br (ur : Bytes) (t1 t2 : Int) (ak : List Fd) (me ta : Bytes) (st : Int) (re : Bytes) (ba : Bool) (fs : List Fd) (bo : Bytes) : Br := (Br.ite (isM ur) (Br.ite (isCanP ur) (Br.ite (timB t1) (Br.ite (timB t2) (Br.ite (decide (t1 ≤ t2)) (Br.ite (fdsOk ak) (Br.ite (msgOkP me ta st re ba fs bo) (Br.ite (decide (me = ([] : (List UInt8)))) (Br.ret (AV.bool (!ba)) ([] : (List (Ob)))) (Br.ret (AV.bool false) ([] : (List (Ob))))) (Br.ret (AV.bool false) ([] : (List (Ob))))) (Br.ret (AV.bool false) ([] : (List (Ob))))) (Br.ret (AV.bool false) ([] : (List (Ob))))) (Br.ret (AV.bool false) ([] : (List (Ob))))) (Br.ret (AV.bool false) ([] : (List (Ob))))) (Br.ret (AV.bool false) ([] : (List (Ob))))) Br.fail)
theorem iEntryOk_run (ur : Bytes) (t1 t2 : Int) (ak : List Fd) (me ta : Bytes) (st : Int) (re : Bytes) (ba : Bool) (fs : List Fd) (bo : Bytes) : runF Kx iEntryOk_C iEntryOk_O 1 Tryz.f40 ([.agg [.str ur, .int .i64 t1, .int .i64 t2, .sh (.pair .str .str) ak, .str me, .str ta, .int .i64 st, .str re, .bool ba, .sh (.pair .str .str) fs, .str bo]]) ([]) = (iEntryOk_br ur t1 t2 ak me ta st re ba fs bo).val := by kernel_rfl
def iEntryOk_s : List AV → List Ob → Br
  | [.agg [.str ur, .int .i64 t1, .int .i64 t2, .sh (.pair .str .str) ak, .str me, .str ta, .int .i64 st, .str re, .bool ba, .sh (.pair .str .str) fs, .str bo]], [] => iEntryOk_br ur t1 t2 ak me ta st re ba fs bo
  | _, _ => .fail
theorem iEntryOk_ok : Sound Kx 40 iEntryOk_s := by
  refine sound_run (C := iEntryOk_C) (O := iEntryOk_O) KOk iEntryOk_C_ok Tryz.func40 (by kernel_rfl) fun args objs res os h => ?_
  unfold iEntryOk_s at h
  split at h
  · exact ⟨1, (iEntryOk_run _ _ _ _ _ _ _ _ _ _ _).trans h⟩
  · cases h

/-! spec.EntryOk -/
def sEntryOk_O : Opt := { cons := [], keepNil := false, mutF := [], live := [], outs := [], split := true }
def sEntryOk_C : Spec := (add (add (add (add noS 76 (t1_s fun s => .bool (isCanP s))) 77 (pn_s timB)) 59 (fl_s fun l => .bool (fdsOk l))) 78 mgOk_s)
theorem sEntryOk_C_ok : ∀ fn, Sound Kx fn (sEntryOk_C fn) := (sound_add (sound_add (sound_add (sound_add (sound_no Kx) sIsCan_okQ) sTime_okQ) sFieldsOk_okQ) sMsgOk_okQ)
def sEntryOk_br (ur : Bytes) (t1 t2 : Int) (ak : List Fd) (me ta : Bytes) (st : Int) (re : Bytes) (ba : Bool) (fs : List Fd) (bo : Bytes) : Br := (Br.ite (isM ur) (Br.ite (isCanP ur) (Br.ite (timB t1) (Br.ite (timB t2) (Br.ite (decide (t1 ≤ t2)) (Br.ite (fdsOk ak) (Br.ite (msgOkP me ta st re ba fs bo) (Br.ite (decide (me = ([] : (List UInt8)))) (Br.ret (AV.bool (!ba)) ([] : (List (Ob)))) (Br.ret (AV.bool false) ([] : (List (Ob))))) (Br.ret (AV.bool false) ([] : (List (Ob))))) (Br.ret (AV.bool false) ([] : (List (Ob))))) (Br.ret (AV.bool false) ([] : (List (Ob))))) (Br.ret (AV.bool false) ([] : (List (Ob))))) (Br.ret (AV.bool false) ([] : (List (Ob))))) (Br.ret (AV.bool false) ([] : (List (Ob))))) Br.fail)
theorem sEntryOk_run (ur : Bytes) (t1 t2 : Int) (ak : List Fd) (me ta : Bytes) (st : Int) (re : Bytes) (ba : Bool) (fs : List Fd) (bo : Bytes) : runF Kx sEntryOk_C sEntryOk_O 1 Tryz.f37 ([.agg [.str ur, .int .i64 t1, .int .i64 t2, .sh (.pair .str .str) ak, .str me, .str ta, .int .i64 st, .str re, .bool ba, .sh (.pair .str .str) fs, .str bo]]) ([]) = (sEntryOk_br ur t1 t2 ak me ta st re ba fs bo).val := by kernel_rfl
def sEntryOk_s : List AV → List Ob → Br
  | [.agg [.str ur, .int .i64 t1, .int .i64 t2, .sh (.pair .str .str) ak, .str me, .str ta, .int .i64 st, .str re, .bool ba, .sh (.pair .str .str) fs, .str bo]], [] => sEntryOk_br ur t1 t2 ak me ta st re ba fs bo
  | _, _ => .fail
theorem sEntryOk_ok : Sound Kx 37 sEntryOk_s := by
  refine sound_run (C := sEntryOk_C) (O := sEntryOk_O) KOk sEntryOk_C_ok Tryz.func37 (by kernel_rfl) fun args objs res os h => ?_
  unfold sEntryOk_s at h
  split at h
  · exact ⟨1, (sEntryOk_run _ _ _ _ _ _ _ _ _ _ _).trans h⟩
  · cases h

end
end Go.Proofs.YtmmjaomfonknnaaGreatDoor.Ev

namespace Go.Proofs.YtmmjaomfonknnaaGreatDoor.Ev
open Go Go.RowKit
set_option linter.unusedVariables false
set_option linter.unusedSimpArgs false
noncomputable section
def ek_s : List AV → List Ob → Br := en_s (fun e => isM e.1) (fun e => .bool (entP e))
theorem iEntryOk_okQ : Sound Kx 40 ek_s := of_en iEntryOk_ok fun ur t1 t2 ak me ta st re ba fs bo h => by
  show (iEntryOk_br ur t1 t2 ak me ta st re ba fs bo).val = some (.bool (entP (ur, t1, t2, ak, me, ta, st, re, ba, fs, bo)), [])
  unfold iEntryOk_br entP
  refine (val_t h).trans ?_
  simp only
  cases isCanP ur <;> cases timB t1 <;> cases timB t2 <;> cases decide (t1 ≤ t2) <;> cases fdsOk ak <;> cases msgOkP me ta st re ba fs bo <;> cases decide (me = []) <;> rfl
theorem sEntryOk_okQ : Sound Kx 37 ek_s := of_en sEntryOk_ok fun ur t1 t2 ak me ta st re ba fs bo h => by
  show (sEntryOk_br ur t1 t2 ak me ta st re ba fs bo).val = some (.bool (entP (ur, t1, t2, ak, me, ta, st, re, ba, fs, bo)), [])
  unfold sEntryOk_br entP
  refine (val_t h).trans ?_
  simp only
  cases isCanP ur <;> cases timB t1 <;> cases timB t2 <;> cases decide (t1 ≤ t2) <;> cases fdsOk ak <;> cases msgOkP me ta st re ba fs bo <;> cases decide (me = []) <;> rfl
end
end Go.Proofs.YtmmjaomfonknnaaGreatDoor.Ev

namespace Go.Proofs.YtmmjaomfonknnaaGreatDoor.Ev
open Go Go.RowKit
set_option linter.unusedVariables false
set_option linter.unusedSimpArgs false
noncomputable section

/-! (impl.Entry).size -/
def iSz_O : Opt := { cons := [], keepNil := false, mutF := [], live := [], outs := [] }
def iSz_C : Spec := (add noS 83 wr_s)
theorem iSz_C_ok : ∀ fn, Sound Kx fn (iSz_C fn) := (sound_add (sound_no Kx) iWrite_okQ)
def iSz_br (ur : Bytes) (t1 t2 : Int) (ak : List Fd) (me ta : Bytes) (st : Int) (re : Bytes) (ba : Bool) (fs : List Fd) (bo : Bytes) : Br := (Br.ret (AV.int .i64 (wk64 (((List.length ur) : Int) + ((List.length (writeP (me, (ta, (st, (re, (ba, (fs, bo)))))))) : Int)))) ([] : (List (Ob))))
theorem iSz_run (ur : Bytes) (t1 t2 : Int) (ak : List Fd) (me ta : Bytes) (st : Int) (re : Bytes) (ba : Bool) (fs : List Fd) (bo : Bytes) : runF Kx iSz_C iSz_O 1 Tryz.f41 ([.agg [.str ur, .int .i64 t1, .int .i64 t2, .sh (.pair .str .str) ak, .str me, .str ta, .int .i64 st, .str re, .bool ba, .sh (.pair .str .str) fs, .str bo]]) ([]) = (iSz_br ur t1 t2 ak me ta st re ba fs bo).val := by kernel_rfl
def iSz_s : List AV → List Ob → Br
  | [.agg [.str ur, .int .i64 t1, .int .i64 t2, .sh (.pair .str .str) ak, .str me, .str ta, .int .i64 st, .str re, .bool ba, .sh (.pair .str .str) fs, .str bo]], [] => iSz_br ur t1 t2 ak me ta st re ba fs bo
  | _, _ => .fail
theorem iSz_ok : Sound Kx 41 iSz_s := by
  refine sound_run (C := iSz_C) (O := iSz_O) KOk iSz_C_ok Tryz.func41 (by kernel_rfl) fun args objs res os h => ?_
  unfold iSz_s at h
  split at h
  · exact ⟨1, (iSz_run _ _ _ _ _ _ _ _ _ _ _).trans h⟩
  · cases h

/-! spec.l15size -/
def sSz_O : Opt := { cons := [], keepNil := false, mutF := [], live := [], outs := [] }
def sSz_C : Spec := (add noS 79 wr_s)
theorem sSz_C_ok : ∀ fn, Sound Kx fn (sSz_C fn) := (sound_add (sound_no Kx) sWrite_okQ)
def sSz_br (ur : Bytes) (t1 t2 : Int) (ak : List Fd) (me ta : Bytes) (st : Int) (re : Bytes) (ba : Bool) (fs : List Fd) (bo : Bytes) : Br := (Br.ret (AV.int .i64 (wk64 (((List.length ur) : Int) + ((List.length (writeP (me, (ta, (st, (re, (ba, (fs, bo)))))))) : Int)))) ([] : (List (Ob))))
theorem sSz_run (ur : Bytes) (t1 t2 : Int) (ak : List Fd) (me ta : Bytes) (st : Int) (re : Bytes) (ba : Bool) (fs : List Fd) (bo : Bytes) : runF Kx sSz_C sSz_O 1 Tryz.f38 ([.agg [.str ur, .int .i64 t1, .int .i64 t2, .sh (.pair .str .str) ak, .str me, .str ta, .int .i64 st, .str re, .bool ba, .sh (.pair .str .str) fs, .str bo]]) ([]) = (sSz_br ur t1 t2 ak me ta st re ba fs bo).val := by kernel_rfl
def sSz_s : List AV → List Ob → Br
  | [.agg [.str ur, .int .i64 t1, .int .i64 t2, .sh (.pair .str .str) ak, .str me, .str ta, .int .i64 st, .str re, .bool ba, .sh (.pair .str .str) fs, .str bo]], [] => sSz_br ur t1 t2 ak me ta st re ba fs bo
  | _, _ => .fail
theorem sSz_ok : Sound Kx 38 sSz_s := by
  refine sound_run (C := sSz_C) (O := sSz_O) KOk sSz_C_ok Tryz.func38 (by kernel_rfl) fun args objs res os h => ?_
  unfold sSz_s at h
  split at h
  · exact ⟨1, (sSz_run _ _ _ _ _ _ _ _ _ _ _).trans h⟩
  · cases h

end
end Go.Proofs.YtmmjaomfonknnaaGreatDoor.Ev

namespace Go.Proofs.YtmmjaomfonknnaaGreatDoor.Ev
open Go Go.RowKit
set_option linter.unusedVariables false
set_option linter.unusedSimpArgs false
noncomputable section
def entSz (e : En) : Int := (e.1.length : Int) + ((writeP e.2.2.2.2).length : Int)
def es_s : List AV → List Ob → Br := en_s (fun e => isM e.1) (fun e => .int .i64 (entSz e))
theorem iSz_okQ : Sound Kx 41 es_s := of_en iSz_ok fun ur t1 t2 ak me ta st re ba fs bo h => by
  show (iSz_br ur t1 t2 ak me ta st re ba fs bo).val = some (.int .i64 (entSz (ur, t1, t2, ak, me, ta, st, re, ba, fs, bo)), [])
  have h1 := isM_le h
  have h2 := write_len (me, ta, st, re, ba, fs, bo)
  unfold iSz_br entSz
  simp only at h1 ⊢
  rw [w64 (by omega) (by omega)]; rfl
theorem sSz_okQ : Sound Kx 38 es_s := of_en sSz_ok fun ur t1 t2 ak me ta st re ba fs bo h => by
  show (sSz_br ur t1 t2 ak me ta st re ba fs bo).val = some (.int .i64 (entSz (ur, t1, t2, ak, me, ta, st, re, ba, fs, bo)), [])
  have h1 := isM_le h
  have h2 := write_len (me, ta, st, re, ba, fs, bo)
  unfold sSz_br entSz
  simp only at h1 ⊢
  rw [w64 (by omega) (by omega)]; rfl
end
end Go.Proofs.YtmmjaomfonknnaaGreatDoor.Ev

namespace Go.Proofs.YtmmjaomfonknnaaGreatDoor.Ev
open Go Go.RowKit
set_option linter.unusedVariables false
set_option linter.unusedSimpArgs false
noncomputable section

/-! impl.EntrySize -/
/-! spec.EntrySize -/
/-! (impl.Cache).size -/
def iCSz_O : Opt := { cons := [], keepNil := false, mutF := [], live := [(3, [3, 7, 8, 9])], outs := [(3, [2, 3])] }
def iCSz_C : Spec := (add noS 41 es_s)
theorem iCSz_C_ok : ∀ fn, Sound Kx fn (iCSz_C fn) := (sound_add (sound_no Kx) iSz_okQ)
def iCSz_T3 (v3x0 : Int) (v3x1 : (List ((List UInt8) × (Int × (Int × ((List ((List UInt8) × (List UInt8))) × ((List UInt8) × ((List UInt8) × (Int × ((List UInt8) × (Bool × ((List ((List UInt8) × (List UInt8))) × (List UInt8))))))))))))) (v3x2 : Int) (v3x3 : Int) (kR3 : Int → (List ((List UInt8) × (Int × (Int × ((List ((List UInt8) × (List UInt8))) × ((List UInt8) × ((List UInt8) × (Int × ((List UInt8) × (Bool × ((List ((List UInt8) × (List UInt8))) × (List UInt8)))))))))))) → Int → Int → Option Rs) (k3e0 : Int → Option Rs) : Option Rs :=
  (bif (decide (v3x3 < v3x2)) then (bif (decide ((0 : Int) ≤ v3x3)) then (bif (decide (v3x3 < ((List.length v3x1) : Int))) then (bif (isM (List.getD v3x1 (Int.toNat v3x3) (([] : (List UInt8)), ((0 : Int), ((0 : Int), (([] : (List ((List UInt8) × (List UInt8)))), (([] : (List UInt8)), (([] : (List UInt8)), ((0 : Int), (([] : (List UInt8)), (false, (([] : (List ((List UInt8) × (List UInt8)))), ([] : (List UInt8))))))))))))).1) then (kR3 (wk64 (v3x0 + (entSz ((List.getD v3x1 (Int.toNat v3x3) (([] : (List UInt8)), ((0 : Int), ((0 : Int), (([] : (List ((List UInt8) × (List UInt8)))), (([] : (List UInt8)), (([] : (List UInt8)), ((0 : Int), (([] : (List UInt8)), (false, (([] : (List ((List UInt8) × (List UInt8)))), ([] : (List UInt8))))))))))))).1, ((List.getD v3x1 (Int.toNat v3x3) (([] : (List UInt8)), ((0 : Int), ((0 : Int), (([] : (List ((List UInt8) × (List UInt8)))), (([] : (List UInt8)), (([] : (List UInt8)), ((0 : Int), (([] : (List UInt8)), (false, (([] : (List ((List UInt8) × (List UInt8)))), ([] : (List UInt8))))))))))))).2.1, ((List.getD v3x1 (Int.toNat v3x3) (([] : (List UInt8)), ((0 : Int), ((0 : Int), (([] : (List ((List UInt8) × (List UInt8)))), (([] : (List UInt8)), (([] : (List UInt8)), ((0 : Int), (([] : (List UInt8)), (false, (([] : (List ((List UInt8) × (List UInt8)))), ([] : (List UInt8))))))))))))).2.2.1, ((List.getD v3x1 (Int.toNat v3x3) (([] : (List UInt8)), ((0 : Int), ((0 : Int), (([] : (List ((List UInt8) × (List UInt8)))), (([] : (List UInt8)), (([] : (List UInt8)), ((0 : Int), (([] : (List UInt8)), (false, (([] : (List ((List UInt8) × (List UInt8)))), ([] : (List UInt8))))))))))))).2.2.2.1, ((List.getD v3x1 (Int.toNat v3x3) (([] : (List UInt8)), ((0 : Int), ((0 : Int), (([] : (List ((List UInt8) × (List UInt8)))), (([] : (List UInt8)), (([] : (List UInt8)), ((0 : Int), (([] : (List UInt8)), (false, (([] : (List ((List UInt8) × (List UInt8)))), ([] : (List UInt8))))))))))))).2.2.2.2.1, ((List.getD v3x1 (Int.toNat v3x3) (([] : (List UInt8)), ((0 : Int), ((0 : Int), (([] : (List ((List UInt8) × (List UInt8)))), (([] : (List UInt8)), (([] : (List UInt8)), ((0 : Int), (([] : (List UInt8)), (false, (([] : (List ((List UInt8) × (List UInt8)))), ([] : (List UInt8))))))))))))).2.2.2.2.2.1, ((List.getD v3x1 (Int.toNat v3x3) (([] : (List UInt8)), ((0 : Int), ((0 : Int), (([] : (List ((List UInt8) × (List UInt8)))), (([] : (List UInt8)), (([] : (List UInt8)), ((0 : Int), (([] : (List UInt8)), (false, (([] : (List ((List UInt8) × (List UInt8)))), ([] : (List UInt8))))))))))))).2.2.2.2.2.2.1, ((List.getD v3x1 (Int.toNat v3x3) (([] : (List UInt8)), ((0 : Int), ((0 : Int), (([] : (List ((List UInt8) × (List UInt8)))), (([] : (List UInt8)), (([] : (List UInt8)), ((0 : Int), (([] : (List UInt8)), (false, (([] : (List ((List UInt8) × (List UInt8)))), ([] : (List UInt8))))))))))))).2.2.2.2.2.2.2.1, ((List.getD v3x1 (Int.toNat v3x3) (([] : (List UInt8)), ((0 : Int), ((0 : Int), (([] : (List ((List UInt8) × (List UInt8)))), (([] : (List UInt8)), (([] : (List UInt8)), ((0 : Int), (([] : (List UInt8)), (false, (([] : (List ((List UInt8) × (List UInt8)))), ([] : (List UInt8))))))))))))).2.2.2.2.2.2.2.2.1, ((List.getD v3x1 (Int.toNat v3x3) (([] : (List UInt8)), ((0 : Int), ((0 : Int), (([] : (List ((List UInt8) × (List UInt8)))), (([] : (List UInt8)), (([] : (List UInt8)), ((0 : Int), (([] : (List UInt8)), (false, (([] : (List ((List UInt8) × (List UInt8)))), ([] : (List UInt8))))))))))))).2.2.2.2.2.2.2.2.2.1, (List.getD v3x1 (Int.toNat v3x3) (([] : (List UInt8)), ((0 : Int), ((0 : Int), (([] : (List ((List UInt8) × (List UInt8)))), (([] : (List UInt8)), (([] : (List UInt8)), ((0 : Int), (([] : (List UInt8)), (false, (([] : (List ((List UInt8) × (List UInt8)))), ([] : (List UInt8))))))))))))).2.2.2.2.2.2.2.2.2.2))))))))))))) v3x1 v3x2 (wk64 (v3x3 + (1 : Int)))) else (none)) else (none)) else (none)) else (k3e0 v3x0))
def iCSz_F3 : Nat → Int → (List ((List UInt8) × (Int × (Int × ((List ((List UInt8) × (List UInt8))) × ((List UInt8) × ((List UInt8) × (Int × ((List UInt8) × (Bool × ((List ((List UInt8) × (List UInt8))) × (List UInt8)))))))))))) → Int → Int → (Int → Option Rs) → Option Rs
  | 0, _, _, _, _, _ => none
  | n + 1, v3x0, v3x1, v3x2, v3x3, k3e0 => iCSz_T3 v3x0 v3x1 v3x2 v3x3 (fun v3x0 v3x1 v3x2 v3x3 => iCSz_F3 n v3x0 v3x1 v3x2 v3x3 k3e0) k3e0
def iCSz_h3 (v3x0 : Int) (v3x1 : (List ((List UInt8) × (Int × (Int × ((List ((List UInt8) × (List UInt8))) × ((List UInt8) × ((List UInt8) × (Int × ((List UInt8) × (Bool × ((List ((List UInt8) × (List UInt8))) × (List UInt8))))))))))))) (v3x2 : Int) (v3x3 : Int) : St := (St.mk (slots 0 19 [(3, (AV.int .i64 v3x0)), (7, (AV.sh (Ty.pair Ty.str (Ty.pair (Ty.int .i64) (Ty.pair (Ty.int .i64) (Ty.pair (Ty.slice (Ty.pair Ty.str Ty.str)) (Ty.pair Ty.str (Ty.pair Ty.str (Ty.pair (Ty.int .i64) (Ty.pair Ty.str (Ty.pair Ty.bool (Ty.pair (Ty.slice (Ty.pair Ty.str Ty.str)) Ty.str)))))))))) v3x1)), (8, (AV.int .i64 v3x2)), (9, (AV.int .i64 v3x3))]) ([] : (List (Nat × (Ob)))))
def iCSz_x3e0 (x3x0x0 : Int) : St := (St.mk (slots 0 19 [(3, (AV.int .i64 x3x0x0))]) ([] : (List (Nat × (Ob)))))
noncomputable def iCSz_b3 : Code := codeAt (codeOf Tryz.f47) [1, 1, 0, 1, 0, 0]
def iCSz_L3 (N : Nat) (st : St) (k : Ex → St → Option Rs) : Option Rs := match takeF [3, 7, 8, 9] 0 19 st.env, st.objs with
  | some [.int .i64 v3x0, .sh (Ty.pair Ty.str (Ty.pair (Ty.int .i64) (Ty.pair (Ty.int .i64) (Ty.pair (Ty.slice (Ty.pair Ty.str Ty.str)) (Ty.pair Ty.str (Ty.pair Ty.str (Ty.pair (Ty.int .i64) (Ty.pair Ty.str (Ty.pair Ty.bool (Ty.pair (Ty.slice (Ty.pair Ty.str Ty.str)) Ty.str)))))))))) v3x1, .int .i64 v3x2, .int .i64 v3x3], [] => iCSz_F3 N v3x0 v3x1 v3x2 v3x3 (fun x3x0x0 => k (Ex.exit (0 : Nat)) (iCSz_x3e0 x3x0x0))
  | _, _ => none
def iCSz_L (N : Nat) : Lam := fun j st k => match j with
  | 3 => iCSz_L3 N st k
  | _ => none
theorem iCSz_round3 (N : Nat) (again : St → Option Rs) (k : Ex → St → Option Rs) (wv3x0 : Int) (wv3x1 : (List ((List UInt8) × (Int × (Int × ((List ((List UInt8) × (List UInt8))) × ((List UInt8) × ((List UInt8) × (Int × ((List UInt8) × (Bool × ((List ((List UInt8) × (List UInt8))) × (List UInt8))))))))))))) (wv3x2 : Int) (wv3x3 : Int) (v3x0 : Int) (v3x1 : (List ((List UInt8) × (Int × (Int × ((List ((List UInt8) × (List UInt8))) × ((List UInt8) × ((List UInt8) × (Int × ((List UInt8) × (Bool × ((List ((List UInt8) × (List UInt8))) × (List UInt8))))))))))))) (v3x2 : Int) (v3x3 : Int) :
    roundK 0 (fun st k => evL Kx iCSz_C iCSz_O 0 (iCSz_L N) iCSz_b3 st k) (iCSz_h3 wv3x0 wv3x1 wv3x2 wv3x3).env again (iCSz_h3 v3x0 v3x1 v3x2 v3x3) (outK iCSz_O 0 iCSz_b3 k) = iCSz_T3 v3x0 v3x1 v3x2 v3x3 (fun v3x0 v3x1 v3x2 v3x3 => again (iCSz_h3 v3x0 v3x1 v3x2 v3x3)) (fun x3x0x0 => k (Ex.exit (0 : Nat)) (iCSz_x3e0 x3x0x0)) := by kernel_rfl
theorem iCSz_loop3 (N : Nat) (k : Ex → St → Option Rs) (wv3x0 : Int) (wv3x1 : (List ((List UInt8) × (Int × (Int × ((List ((List UInt8) × (List UInt8))) × ((List UInt8) × ((List UInt8) × (Int × ((List UInt8) × (Bool × ((List ((List UInt8) × (List UInt8))) × (List UInt8))))))))))))) (wv3x2 : Int) (wv3x3 : Int) : ∀ (n : Nat) (v3x0 : Int) (v3x1 : (List ((List UInt8) × (Int × (Int × ((List ((List UInt8) × (List UInt8))) × ((List UInt8) × ((List UInt8) × (Int × ((List UInt8) × (Bool × ((List ((List UInt8) × (List UInt8))) × (List UInt8))))))))))))) (v3x2 : Int) (v3x3 : Int),
    loopK 0 (fun st k => evL Kx iCSz_C iCSz_O 0 (iCSz_L N) iCSz_b3 st k) (iCSz_h3 wv3x0 wv3x1 wv3x2 wv3x3).env n (iCSz_h3 v3x0 v3x1 v3x2 v3x3) (outK iCSz_O 0 iCSz_b3 k) = iCSz_F3 n v3x0 v3x1 v3x2 v3x3 (fun x3x0x0 => k (Ex.exit (0 : Nat)) (iCSz_x3e0 x3x0x0))
  | 0, _, _, _, _ => rfl
  | n + 1, v3x0, v3x1, v3x2, v3x3 => by
    rw [loopK_succ, iCSz_round3]
    simp only [iCSz_loop3 N k wv3x0 wv3x1 wv3x2 wv3x3 n]
    rfl
theorem iCSz_at3 (N : Nat) {s : St} {k : Ex → St → Option Rs} {r : Rs} (h : iCSz_L3 N s k = some r) : ∃ (v3x0 : Int) (v3x1 : (List ((List UInt8) × (Int × (Int × ((List ((List UInt8) × (List UInt8))) × ((List UInt8) × ((List UInt8) × (Int × ((List UInt8) × (Bool × ((List ((List UInt8) × (List UInt8))) × (List UInt8))))))))))))) (v3x2 : Int) (v3x3 : Int), s = (iCSz_h3 v3x0 v3x1 v3x2 v3x3) ∧ iCSz_F3 N v3x0 v3x1 v3x2 v3x3 (fun x3x0x0 => k (Ex.exit (0 : Nat)) (iCSz_x3e0 x3x0x0)) = some r := by
  cases s with | mk env objs =>
  unfold iCSz_L3 at h
  split at h
  · rename_i e1 e2
    have e3 := takeF_slots _ _ _ _ e1
    simp only at e2 e3
    subst e2 e3
    exact ⟨_, _, _, _, rfl, h⟩
  · cases h
theorem iCSz_in3 : loops iCSz_b3 = [] := by kernel_rfl
theorem iCSz_lid3 : lid iCSz_b3 = 3 := by kernel_rfl
theorem iCSz_ok3 (N : Nat) : OkL Kx iCSz_C iCSz_O 0 N (iCSz_L N) iCSz_b3 := by
  intro s k k' r hk h
  rw [iCSz_lid3] at h
  obtain ⟨v3x0, v3x1, v3x2, v3x3, rfl, h⟩ := iCSz_at3 N h
  refine loopL (Λ := iCSz_L N) iCSz_b3 ?_ N hk ((iCSz_loop3 N k v3x0 v3x1 v3x2 v3x3 N v3x0 v3x1 v3x2 v3x3).trans h)
  rw [iCSz_in3]
  exact fun _ h => nomatch h
def iCSz_run (N : Nat) (bu : Int) (l : List En) : Option Rs := (iCSz_F3 N (0 : Int) l ((List.length l) : Int) (0 : Int) (fun x3x0x0 => (some ((AV.int .i64 x3x0x0), ([] : (List (Ob)))))))
theorem iCSz_runL (N : Nat) (bu : Int) (l : List En) : runL Kx iCSz_C iCSz_O (iCSz_L N) Tryz.f47 ([.agg [.int .i64 bu, .sh (.pair .str (.pair (.int .i64) (.pair (.int .i64) (.pair (.slice (.pair .str .str)) (.pair .str (.pair .str (.pair (.int .i64) (.pair .str (.pair .bool (.pair (.slice (.pair .str .str)) .str)))))))))) l]]) ([]) = iCSz_run N bu l := by kernel_rfl
theorem iCSz_body : Tryz.f47.body = some (codeOf Tryz.f47) := by kernel_rfl
theorem iCSz_loops : loops (codeOf Tryz.f47) = [iCSz_b3] := by kernel_rfl
theorem iCSz_ev (N : Nat) (bu : Int) (l : List En) {res_ : Rs} (hyp_ : iCSz_run N bu l = some res_) : ∃ n_, runF Kx iCSz_C iCSz_O n_ Tryz.f47 ([.agg [.int .i64 bu, .sh (.pair .str (.pair (.int .i64) (.pair (.int .i64) (.pair (.slice (.pair .str .str)) (.pair .str (.pair .str (.pair (.int .i64) (.pair .str (.pair .bool (.pair (.slice (.pair .str .str)) .str)))))))))) l]]) ([]) = some res_ :=
  ⟨N, runL_runF iCSz_body (by rw [iCSz_loops]; exact List.forall_mem_cons.2 ⟨iCSz_ok3 N, fun _ h => nomatch h⟩) ((iCSz_runL N bu l).trans hyp_)⟩
def iCSz_sOf (φ : Int → (List En) → Br) : List AV → List Ob → Br
  | [.agg [.int .i64 bu, .sh (.pair .str (.pair (.int .i64) (.pair (.int .i64) (.pair (.slice (.pair .str .str)) (.pair .str (.pair .str (.pair (.int .i64) (.pair .str (.pair .bool (.pair (.slice (.pair .str .str)) .str)))))))))) l]], [] => φ bu l
  | _, _ => .fail
theorem iCSz_okOf {φ : Int → (List En) → Br} (fu : Int → (List En) → Nat) (hv : ∀ bu l res_, (φ bu l).val = some res_ → iCSz_run (fu bu l) bu l = some res_) : Sound Kx 47 (iCSz_sOf φ) := by
  refine sound_run (C := iCSz_C) (O := iCSz_O) KOk iCSz_C_ok Tryz.func47 (by kernel_rfl) fun args objs res os h => ?_
  unfold iCSz_sOf at h
  split at h
  · exact iCSz_ev _ _ _ (hv _ _ _ h)
  · cases h

/-! spec.l15sum -/
def sCSz_O : Opt := { cons := [], keepNil := false, mutF := [], live := [(3, [0, 3, 4])], outs := [(3, [2, 3])] }
def sCSz_C : Spec := (add noS 38 es_s)
theorem sCSz_C_ok : ∀ fn, Sound Kx fn (sCSz_C fn) := (sound_add (sound_no Kx) sSz_okQ)
def sCSz_T3 (v3x0 : (List ((List UInt8) × (Int × (Int × ((List ((List UInt8) × (List UInt8))) × ((List UInt8) × ((List UInt8) × (Int × ((List UInt8) × (Bool × ((List ((List UInt8) × (List UInt8))) × (List UInt8))))))))))))) (v3x1 : Int) (v3x2 : Int) (kR3 : (List ((List UInt8) × (Int × (Int × ((List ((List UInt8) × (List UInt8))) × ((List UInt8) × ((List UInt8) × (Int × ((List UInt8) × (Bool × ((List ((List UInt8) × (List UInt8))) × (List UInt8)))))))))))) → Int → Int → Option Rs) (k3e0 : Int → Option Rs) : Option Rs :=
  (bif (decide (v3x2 < ((List.length v3x0) : Int))) then (bif (decide ((0 : Int) ≤ v3x2)) then (bif (decide (v3x2 < ((List.length v3x0) : Int))) then (bif (isM (List.getD v3x0 (Int.toNat v3x2) (([] : (List UInt8)), ((0 : Int), ((0 : Int), (([] : (List ((List UInt8) × (List UInt8)))), (([] : (List UInt8)), (([] : (List UInt8)), ((0 : Int), (([] : (List UInt8)), (false, (([] : (List ((List UInt8) × (List UInt8)))), ([] : (List UInt8))))))))))))).1) then (kR3 v3x0 (wk64 (v3x1 + (entSz ((List.getD v3x0 (Int.toNat v3x2) (([] : (List UInt8)), ((0 : Int), ((0 : Int), (([] : (List ((List UInt8) × (List UInt8)))), (([] : (List UInt8)), (([] : (List UInt8)), ((0 : Int), (([] : (List UInt8)), (false, (([] : (List ((List UInt8) × (List UInt8)))), ([] : (List UInt8))))))))))))).1, ((List.getD v3x0 (Int.toNat v3x2) (([] : (List UInt8)), ((0 : Int), ((0 : Int), (([] : (List ((List UInt8) × (List UInt8)))), (([] : (List UInt8)), (([] : (List UInt8)), ((0 : Int), (([] : (List UInt8)), (false, (([] : (List ((List UInt8) × (List UInt8)))), ([] : (List UInt8))))))))))))).2.1, ((List.getD v3x0 (Int.toNat v3x2) (([] : (List UInt8)), ((0 : Int), ((0 : Int), (([] : (List ((List UInt8) × (List UInt8)))), (([] : (List UInt8)), (([] : (List UInt8)), ((0 : Int), (([] : (List UInt8)), (false, (([] : (List ((List UInt8) × (List UInt8)))), ([] : (List UInt8))))))))))))).2.2.1, ((List.getD v3x0 (Int.toNat v3x2) (([] : (List UInt8)), ((0 : Int), ((0 : Int), (([] : (List ((List UInt8) × (List UInt8)))), (([] : (List UInt8)), (([] : (List UInt8)), ((0 : Int), (([] : (List UInt8)), (false, (([] : (List ((List UInt8) × (List UInt8)))), ([] : (List UInt8))))))))))))).2.2.2.1, ((List.getD v3x0 (Int.toNat v3x2) (([] : (List UInt8)), ((0 : Int), ((0 : Int), (([] : (List ((List UInt8) × (List UInt8)))), (([] : (List UInt8)), (([] : (List UInt8)), ((0 : Int), (([] : (List UInt8)), (false, (([] : (List ((List UInt8) × (List UInt8)))), ([] : (List UInt8))))))))))))).2.2.2.2.1, ((List.getD v3x0 (Int.toNat v3x2) (([] : (List UInt8)), ((0 : Int), ((0 : Int), (([] : (List ((List UInt8) × (List UInt8)))), (([] : (List UInt8)), (([] : (List UInt8)), ((0 : Int), (([] : (List UInt8)), (false, (([] : (List ((List UInt8) × (List UInt8)))), ([] : (List UInt8))))))))))))).2.2.2.2.2.1, ((List.getD v3x0 (Int.toNat v3x2) (([] : (List UInt8)), ((0 : Int), ((0 : Int), (([] : (List ((List UInt8) × (List UInt8)))), (([] : (List UInt8)), (([] : (List UInt8)), ((0 : Int), (([] : (List UInt8)), (false, (([] : (List ((List UInt8) × (List UInt8)))), ([] : (List UInt8))))))))))))).2.2.2.2.2.2.1, ((List.getD v3x0 (Int.toNat v3x2) (([] : (List UInt8)), ((0 : Int), ((0 : Int), (([] : (List ((List UInt8) × (List UInt8)))), (([] : (List UInt8)), (([] : (List UInt8)), ((0 : Int), (([] : (List UInt8)), (false, (([] : (List ((List UInt8) × (List UInt8)))), ([] : (List UInt8))))))))))))).2.2.2.2.2.2.2.1, ((List.getD v3x0 (Int.toNat v3x2) (([] : (List UInt8)), ((0 : Int), ((0 : Int), (([] : (List ((List UInt8) × (List UInt8)))), (([] : (List UInt8)), (([] : (List UInt8)), ((0 : Int), (([] : (List UInt8)), (false, (([] : (List ((List UInt8) × (List UInt8)))), ([] : (List UInt8))))))))))))).2.2.2.2.2.2.2.2.1, ((List.getD v3x0 (Int.toNat v3x2) (([] : (List UInt8)), ((0 : Int), ((0 : Int), (([] : (List ((List UInt8) × (List UInt8)))), (([] : (List UInt8)), (([] : (List UInt8)), ((0 : Int), (([] : (List UInt8)), (false, (([] : (List ((List UInt8) × (List UInt8)))), ([] : (List UInt8))))))))))))).2.2.2.2.2.2.2.2.2.1, (List.getD v3x0 (Int.toNat v3x2) (([] : (List UInt8)), ((0 : Int), ((0 : Int), (([] : (List ((List UInt8) × (List UInt8)))), (([] : (List UInt8)), (([] : (List UInt8)), ((0 : Int), (([] : (List UInt8)), (false, (([] : (List ((List UInt8) × (List UInt8)))), ([] : (List UInt8))))))))))))).2.2.2.2.2.2.2.2.2.2))))))))))))) (wk64 (v3x2 + (1 : Int)))) else (none)) else (none)) else (none)) else (k3e0 v3x1))
def sCSz_F3 : Nat → (List ((List UInt8) × (Int × (Int × ((List ((List UInt8) × (List UInt8))) × ((List UInt8) × ((List UInt8) × (Int × ((List UInt8) × (Bool × ((List ((List UInt8) × (List UInt8))) × (List UInt8)))))))))))) → Int → Int → (Int → Option Rs) → Option Rs
  | 0, _, _, _, _ => none
  | n + 1, v3x0, v3x1, v3x2, k3e0 => sCSz_T3 v3x0 v3x1 v3x2 (fun v3x0 v3x1 v3x2 => sCSz_F3 n v3x0 v3x1 v3x2 k3e0) k3e0
def sCSz_h3 (v3x0 : (List ((List UInt8) × (Int × (Int × ((List ((List UInt8) × (List UInt8))) × ((List UInt8) × ((List UInt8) × (Int × ((List UInt8) × (Bool × ((List ((List UInt8) × (List UInt8))) × (List UInt8))))))))))))) (v3x1 : Int) (v3x2 : Int) : St := (St.mk (slots 0 19 [(0, (AV.sh (Ty.pair Ty.str (Ty.pair (Ty.int .i64) (Ty.pair (Ty.int .i64) (Ty.pair (Ty.slice (Ty.pair Ty.str Ty.str)) (Ty.pair Ty.str (Ty.pair Ty.str (Ty.pair (Ty.int .i64) (Ty.pair Ty.str (Ty.pair Ty.bool (Ty.pair (Ty.slice (Ty.pair Ty.str Ty.str)) Ty.str)))))))))) v3x0)), (3, (AV.int .i64 v3x1)), (4, (AV.int .i64 v3x2))]) ([] : (List (Nat × (Ob)))))
def sCSz_x3e0 (x3x0x0 : Int) : St := (St.mk (slots 0 19 [(3, (AV.int .i64 x3x0x0))]) ([] : (List (Nat × (Ob)))))
noncomputable def sCSz_b3 : Code := codeAt (codeOf Tryz.f44) [1, 1, 0, 1, 0, 0]
def sCSz_L3 (N : Nat) (st : St) (k : Ex → St → Option Rs) : Option Rs := match takeF [0, 3, 4] 0 19 st.env, st.objs with
  | some [.sh (Ty.pair Ty.str (Ty.pair (Ty.int .i64) (Ty.pair (Ty.int .i64) (Ty.pair (Ty.slice (Ty.pair Ty.str Ty.str)) (Ty.pair Ty.str (Ty.pair Ty.str (Ty.pair (Ty.int .i64) (Ty.pair Ty.str (Ty.pair Ty.bool (Ty.pair (Ty.slice (Ty.pair Ty.str Ty.str)) Ty.str)))))))))) v3x0, .int .i64 v3x1, .int .i64 v3x2], [] => sCSz_F3 N v3x0 v3x1 v3x2 (fun x3x0x0 => k (Ex.exit (0 : Nat)) (sCSz_x3e0 x3x0x0))
  | _, _ => none
def sCSz_L (N : Nat) : Lam := fun j st k => match j with
  | 3 => sCSz_L3 N st k
  | _ => none
theorem sCSz_round3 (N : Nat) (again : St → Option Rs) (k : Ex → St → Option Rs) (wv3x0 : (List ((List UInt8) × (Int × (Int × ((List ((List UInt8) × (List UInt8))) × ((List UInt8) × ((List UInt8) × (Int × ((List UInt8) × (Bool × ((List ((List UInt8) × (List UInt8))) × (List UInt8))))))))))))) (wv3x1 : Int) (wv3x2 : Int) (v3x0 : (List ((List UInt8) × (Int × (Int × ((List ((List UInt8) × (List UInt8))) × ((List UInt8) × ((List UInt8) × (Int × ((List UInt8) × (Bool × ((List ((List UInt8) × (List UInt8))) × (List UInt8))))))))))))) (v3x1 : Int) (v3x2 : Int) :
    roundK 0 (fun st k => evL Kx sCSz_C sCSz_O 0 (sCSz_L N) sCSz_b3 st k) (sCSz_h3 wv3x0 wv3x1 wv3x2).env again (sCSz_h3 v3x0 v3x1 v3x2) (outK sCSz_O 0 sCSz_b3 k) = sCSz_T3 v3x0 v3x1 v3x2 (fun v3x0 v3x1 v3x2 => again (sCSz_h3 v3x0 v3x1 v3x2)) (fun x3x0x0 => k (Ex.exit (0 : Nat)) (sCSz_x3e0 x3x0x0)) := by kernel_rfl
theorem sCSz_loop3 (N : Nat) (k : Ex → St → Option Rs) (wv3x0 : (List ((List UInt8) × (Int × (Int × ((List ((List UInt8) × (List UInt8))) × ((List UInt8) × ((List UInt8) × (Int × ((List UInt8) × (Bool × ((List ((List UInt8) × (List UInt8))) × (List UInt8))))))))))))) (wv3x1 : Int) (wv3x2 : Int) : ∀ (n : Nat) (v3x0 : (List ((List UInt8) × (Int × (Int × ((List ((List UInt8) × (List UInt8))) × ((List UInt8) × ((List UInt8) × (Int × ((List UInt8) × (Bool × ((List ((List UInt8) × (List UInt8))) × (List UInt8))))))))))))) (v3x1 : Int) (v3x2 : Int),
    loopK 0 (fun st k => evL Kx sCSz_C sCSz_O 0 (sCSz_L N) sCSz_b3 st k) (sCSz_h3 wv3x0 wv3x1 wv3x2).env n (sCSz_h3 v3x0 v3x1 v3x2) (outK sCSz_O 0 sCSz_b3 k) = sCSz_F3 n v3x0 v3x1 v3x2 (fun x3x0x0 => k (Ex.exit (0 : Nat)) (sCSz_x3e0 x3x0x0))
  | 0, _, _, _ => rfl
  | n + 1, v3x0, v3x1, v3x2 => by
    rw [loopK_succ, sCSz_round3]
    simp only [sCSz_loop3 N k wv3x0 wv3x1 wv3x2 n]
    rfl
theorem sCSz_at3 (N : Nat) {s : St} {k : Ex → St → Option Rs} {r : Rs} (h : sCSz_L3 N s k = some r) : ∃ (v3x0 : (List ((List UInt8) × (Int × (Int × ((List ((List UInt8) × (List UInt8))) × ((List UInt8) × ((List UInt8) × (Int × ((List UInt8) × (Bool × ((List ((List UInt8) × (List UInt8))) × (List UInt8))))))))))))) (v3x1 : Int) (v3x2 : Int), s = (sCSz_h3 v3x0 v3x1 v3x2) ∧ sCSz_F3 N v3x0 v3x1 v3x2 (fun x3x0x0 => k (Ex.exit (0 : Nat)) (sCSz_x3e0 x3x0x0)) = some r := by
  cases s with | mk env objs =>
  unfold sCSz_L3 at h
  split at h
  · rename_i e1 e2
    have e3 := takeF_slots _ _ _ _ e1
    simp only at e2 e3
    subst e2 e3
    exact ⟨_, _, _, rfl, h⟩
  · cases h
theorem sCSz_in3 : loops sCSz_b3 = [] := by kernel_rfl
theorem sCSz_lid3 : lid sCSz_b3 = 3 := by kernel_rfl
theorem sCSz_ok3 (N : Nat) : OkL Kx sCSz_C sCSz_O 0 N (sCSz_L N) sCSz_b3 := by
  intro s k k' r hk h
  rw [sCSz_lid3] at h
  obtain ⟨v3x0, v3x1, v3x2, rfl, h⟩ := sCSz_at3 N h
  refine loopL (Λ := sCSz_L N) sCSz_b3 ?_ N hk ((sCSz_loop3 N k v3x0 v3x1 v3x2 N v3x0 v3x1 v3x2).trans h)
  rw [sCSz_in3]
  exact fun _ h => nomatch h
def sCSz_run (N : Nat) (l : List En) : Option Rs := (sCSz_F3 N l (0 : Int) (0 : Int) (fun x3x0x0 => (some ((AV.int .i64 x3x0x0), ([] : (List (Ob)))))))
theorem sCSz_runL (N : Nat) (l : List En) : runL Kx sCSz_C sCSz_O (sCSz_L N) Tryz.f44 ([.sh (.pair .str (.pair (.int .i64) (.pair (.int .i64) (.pair (.slice (.pair .str .str)) (.pair .str (.pair .str (.pair (.int .i64) (.pair .str (.pair .bool (.pair (.slice (.pair .str .str)) .str)))))))))) l]) ([]) = sCSz_run N l := by kernel_rfl
theorem sCSz_body : Tryz.f44.body = some (codeOf Tryz.f44) := by kernel_rfl
theorem sCSz_loops : loops (codeOf Tryz.f44) = [sCSz_b3] := by kernel_rfl
theorem sCSz_ev (N : Nat) (l : List En) {res_ : Rs} (hyp_ : sCSz_run N l = some res_) : ∃ n_, runF Kx sCSz_C sCSz_O n_ Tryz.f44 ([.sh (.pair .str (.pair (.int .i64) (.pair (.int .i64) (.pair (.slice (.pair .str .str)) (.pair .str (.pair .str (.pair (.int .i64) (.pair .str (.pair .bool (.pair (.slice (.pair .str .str)) .str)))))))))) l]) ([]) = some res_ :=
  ⟨N, runL_runF sCSz_body (by rw [sCSz_loops]; exact List.forall_mem_cons.2 ⟨sCSz_ok3 N, fun _ h => nomatch h⟩) ((sCSz_runL N l).trans hyp_)⟩
def sCSz_sOf (φ : (List En) → Br) : List AV → List Ob → Br
  | [.sh (.pair .str (.pair (.int .i64) (.pair (.int .i64) (.pair (.slice (.pair .str .str)) (.pair .str (.pair .str (.pair (.int .i64) (.pair .str (.pair .bool (.pair (.slice (.pair .str .str)) .str)))))))))) l], [] => φ l
  | _, _ => .fail
theorem sCSz_okOf {φ : (List En) → Br} (fu : (List En) → Nat) (hv : ∀ l res_, (φ l).val = some res_ → sCSz_run (fu l) l = some res_) : Sound Kx 44 (sCSz_sOf φ) := by
  refine sound_run (C := sCSz_C) (O := sCSz_O) KOk sCSz_C_ok Tryz.func44 (by kernel_rfl) fun args objs res os h => ?_
  unfold sCSz_sOf at h
  split at h
  · exact sCSz_ev _ _ (hv _ _ h)
  · cases h

/-! laws.szEntryS -/
def szEntryS_O : Opt := { cons := [], keepNil := false, mutF := [], live := [(5, [0, 1, 5])], outs := [(5, [1, 4])] }
def szEntryS_C : Spec := (add noS 10 szE_s)
theorem szEntryS_C_ok : ∀ fn, Sound Kx fn (szEntryS_C fn) := (sound_add (sound_no Kx) szEntry_okQ)
def szEntryS_T5 (v5x0 : (List ((List UInt8) × (Int × (Int × ((List ((List UInt8) × (List UInt8))) × ((List UInt8) × ((List UInt8) × (Int × ((List UInt8) × (Bool × ((List ((List UInt8) × (List UInt8))) × (List UInt8))))))))))))) (v5x1 : Int) (v5x2 : Int) (kR5 : (List ((List UInt8) × (Int × (Int × ((List ((List UInt8) × (List UInt8))) × ((List UInt8) × ((List UInt8) × (Int × ((List UInt8) × (Bool × ((List ((List UInt8) × (List UInt8))) × (List UInt8)))))))))))) → Int → Int → Option Rs) (k5e0 : Int → Option Rs) (k5e1 : Int → Option Rs) : Option Rs :=
  (bif (decide (v5x2 < ((List.length v5x0) : Int))) then (bif (decide ((0 : Int) ≤ v5x2)) then (bif (decide (v5x2 < ((List.length v5x0) : Int))) then (bif ((smE ((List.getD v5x0 (Int.toNat v5x2) (([] : (List UInt8)), ((0 : Int), ((0 : Int), (([] : (List ((List UInt8) × (List UInt8)))), (([] : (List UInt8)), (([] : (List UInt8)), ((0 : Int), (([] : (List UInt8)), (false, (([] : (List ((List UInt8) × (List UInt8)))), ([] : (List UInt8))))))))))))).1, ((List.getD v5x0 (Int.toNat v5x2) (([] : (List UInt8)), ((0 : Int), ((0 : Int), (([] : (List ((List UInt8) × (List UInt8)))), (([] : (List UInt8)), (([] : (List UInt8)), ((0 : Int), (([] : (List UInt8)), (false, (([] : (List ((List UInt8) × (List UInt8)))), ([] : (List UInt8))))))))))))).2.1, ((List.getD v5x0 (Int.toNat v5x2) (([] : (List UInt8)), ((0 : Int), ((0 : Int), (([] : (List ((List UInt8) × (List UInt8)))), (([] : (List UInt8)), (([] : (List UInt8)), ((0 : Int), (([] : (List UInt8)), (false, (([] : (List ((List UInt8) × (List UInt8)))), ([] : (List UInt8))))))))))))).2.2.1, ((List.getD v5x0 (Int.toNat v5x2) (([] : (List UInt8)), ((0 : Int), ((0 : Int), (([] : (List ((List UInt8) × (List UInt8)))), (([] : (List UInt8)), (([] : (List UInt8)), ((0 : Int), (([] : (List UInt8)), (false, (([] : (List ((List UInt8) × (List UInt8)))), ([] : (List UInt8))))))))))))).2.2.2.1, ((List.getD v5x0 (Int.toNat v5x2) (([] : (List UInt8)), ((0 : Int), ((0 : Int), (([] : (List ((List UInt8) × (List UInt8)))), (([] : (List UInt8)), (([] : (List UInt8)), ((0 : Int), (([] : (List UInt8)), (false, (([] : (List ((List UInt8) × (List UInt8)))), ([] : (List UInt8))))))))))))).2.2.2.2.1, ((List.getD v5x0 (Int.toNat v5x2) (([] : (List UInt8)), ((0 : Int), ((0 : Int), (([] : (List ((List UInt8) × (List UInt8)))), (([] : (List UInt8)), (([] : (List UInt8)), ((0 : Int), (([] : (List UInt8)), (false, (([] : (List ((List UInt8) × (List UInt8)))), ([] : (List UInt8))))))))))))).2.2.2.2.2.1, ((List.getD v5x0 (Int.toNat v5x2) (([] : (List UInt8)), ((0 : Int), ((0 : Int), (([] : (List ((List UInt8) × (List UInt8)))), (([] : (List UInt8)), (([] : (List UInt8)), ((0 : Int), (([] : (List UInt8)), (false, (([] : (List ((List UInt8) × (List UInt8)))), ([] : (List UInt8))))))))))))).2.2.2.2.2.2.1, ((List.getD v5x0 (Int.toNat v5x2) (([] : (List UInt8)), ((0 : Int), ((0 : Int), (([] : (List ((List UInt8) × (List UInt8)))), (([] : (List UInt8)), (([] : (List UInt8)), ((0 : Int), (([] : (List UInt8)), (false, (([] : (List ((List UInt8) × (List UInt8)))), ([] : (List UInt8))))))))))))).2.2.2.2.2.2.2.1, ((List.getD v5x0 (Int.toNat v5x2) (([] : (List UInt8)), ((0 : Int), ((0 : Int), (([] : (List ((List UInt8) × (List UInt8)))), (([] : (List UInt8)), (([] : (List UInt8)), ((0 : Int), (([] : (List UInt8)), (false, (([] : (List ((List UInt8) × (List UInt8)))), ([] : (List UInt8))))))))))))).2.2.2.2.2.2.2.2.1, ((List.getD v5x0 (Int.toNat v5x2) (([] : (List UInt8)), ((0 : Int), ((0 : Int), (([] : (List ((List UInt8) × (List UInt8)))), (([] : (List UInt8)), (([] : (List UInt8)), ((0 : Int), (([] : (List UInt8)), (false, (([] : (List ((List UInt8) × (List UInt8)))), ([] : (List UInt8))))))))))))).2.2.2.2.2.2.2.2.2.1, (List.getD v5x0 (Int.toNat v5x2) (([] : (List UInt8)), ((0 : Int), ((0 : Int), (([] : (List ((List UInt8) × (List UInt8)))), (([] : (List UInt8)), (([] : (List UInt8)), ((0 : Int), (([] : (List UInt8)), (false, (([] : (List ((List UInt8) × (List UInt8)))), ([] : (List UInt8))))))))))))).2.2.2.2.2.2.2.2.2.2))))))))))) && (okLeft v5x1)) then (bif (decide ((szM (enW ((List.getD v5x0 (Int.toNat v5x2) (([] : (List UInt8)), ((0 : Int), ((0 : Int), (([] : (List ((List UInt8) × (List UInt8)))), (([] : (List UInt8)), (([] : (List UInt8)), ((0 : Int), (([] : (List UInt8)), (false, (([] : (List ((List UInt8) × (List UInt8)))), ([] : (List UInt8))))))))))))).1, ((List.getD v5x0 (Int.toNat v5x2) (([] : (List UInt8)), ((0 : Int), ((0 : Int), (([] : (List ((List UInt8) × (List UInt8)))), (([] : (List UInt8)), (([] : (List UInt8)), ((0 : Int), (([] : (List UInt8)), (false, (([] : (List ((List UInt8) × (List UInt8)))), ([] : (List UInt8))))))))))))).2.1, ((List.getD v5x0 (Int.toNat v5x2) (([] : (List UInt8)), ((0 : Int), ((0 : Int), (([] : (List ((List UInt8) × (List UInt8)))), (([] : (List UInt8)), (([] : (List UInt8)), ((0 : Int), (([] : (List UInt8)), (false, (([] : (List ((List UInt8) × (List UInt8)))), ([] : (List UInt8))))))))))))).2.2.1, ((List.getD v5x0 (Int.toNat v5x2) (([] : (List UInt8)), ((0 : Int), ((0 : Int), (([] : (List ((List UInt8) × (List UInt8)))), (([] : (List UInt8)), (([] : (List UInt8)), ((0 : Int), (([] : (List UInt8)), (false, (([] : (List ((List UInt8) × (List UInt8)))), ([] : (List UInt8))))))))))))).2.2.2.1, ((List.getD v5x0 (Int.toNat v5x2) (([] : (List UInt8)), ((0 : Int), ((0 : Int), (([] : (List ((List UInt8) × (List UInt8)))), (([] : (List UInt8)), (([] : (List UInt8)), ((0 : Int), (([] : (List UInt8)), (false, (([] : (List ((List UInt8) × (List UInt8)))), ([] : (List UInt8))))))))))))).2.2.2.2.1, ((List.getD v5x0 (Int.toNat v5x2) (([] : (List UInt8)), ((0 : Int), ((0 : Int), (([] : (List ((List UInt8) × (List UInt8)))), (([] : (List UInt8)), (([] : (List UInt8)), ((0 : Int), (([] : (List UInt8)), (false, (([] : (List ((List UInt8) × (List UInt8)))), ([] : (List UInt8))))))))))))).2.2.2.2.2.1, ((List.getD v5x0 (Int.toNat v5x2) (([] : (List UInt8)), ((0 : Int), ((0 : Int), (([] : (List ((List UInt8) × (List UInt8)))), (([] : (List UInt8)), (([] : (List UInt8)), ((0 : Int), (([] : (List UInt8)), (false, (([] : (List ((List UInt8) × (List UInt8)))), ([] : (List UInt8))))))))))))).2.2.2.2.2.2.1, ((List.getD v5x0 (Int.toNat v5x2) (([] : (List UInt8)), ((0 : Int), ((0 : Int), (([] : (List ((List UInt8) × (List UInt8)))), (([] : (List UInt8)), (([] : (List UInt8)), ((0 : Int), (([] : (List UInt8)), (false, (([] : (List ((List UInt8) × (List UInt8)))), ([] : (List UInt8))))))))))))).2.2.2.2.2.2.2.1, ((List.getD v5x0 (Int.toNat v5x2) (([] : (List UInt8)), ((0 : Int), ((0 : Int), (([] : (List ((List UInt8) × (List UInt8)))), (([] : (List UInt8)), (([] : (List UInt8)), ((0 : Int), (([] : (List UInt8)), (false, (([] : (List ((List UInt8) × (List UInt8)))), ([] : (List UInt8))))))))))))).2.2.2.2.2.2.2.2.1, ((List.getD v5x0 (Int.toNat v5x2) (([] : (List UInt8)), ((0 : Int), ((0 : Int), (([] : (List ((List UInt8) × (List UInt8)))), (([] : (List UInt8)), (([] : (List UInt8)), ((0 : Int), (([] : (List UInt8)), (false, (([] : (List ((List UInt8) × (List UInt8)))), ([] : (List UInt8))))))))))))).2.2.2.2.2.2.2.2.2.1, (List.getD v5x0 (Int.toNat v5x2) (([] : (List UInt8)), ((0 : Int), ((0 : Int), (([] : (List ((List UInt8) × (List UInt8)))), (([] : (List UInt8)), (([] : (List UInt8)), ((0 : Int), (([] : (List UInt8)), (false, (([] : (List ((List UInt8) × (List UInt8)))), ([] : (List UInt8))))))))))))).2.2.2.2.2.2.2.2.2.2))))))))))) v5x1) < (0 : Int))) then (k5e0 (szM (enW ((List.getD v5x0 (Int.toNat v5x2) (([] : (List UInt8)), ((0 : Int), ((0 : Int), (([] : (List ((List UInt8) × (List UInt8)))), (([] : (List UInt8)), (([] : (List UInt8)), ((0 : Int), (([] : (List UInt8)), (false, (([] : (List ((List UInt8) × (List UInt8)))), ([] : (List UInt8))))))))))))).1, ((List.getD v5x0 (Int.toNat v5x2) (([] : (List UInt8)), ((0 : Int), ((0 : Int), (([] : (List ((List UInt8) × (List UInt8)))), (([] : (List UInt8)), (([] : (List UInt8)), ((0 : Int), (([] : (List UInt8)), (false, (([] : (List ((List UInt8) × (List UInt8)))), ([] : (List UInt8))))))))))))).2.1, ((List.getD v5x0 (Int.toNat v5x2) (([] : (List UInt8)), ((0 : Int), ((0 : Int), (([] : (List ((List UInt8) × (List UInt8)))), (([] : (List UInt8)), (([] : (List UInt8)), ((0 : Int), (([] : (List UInt8)), (false, (([] : (List ((List UInt8) × (List UInt8)))), ([] : (List UInt8))))))))))))).2.2.1, ((List.getD v5x0 (Int.toNat v5x2) (([] : (List UInt8)), ((0 : Int), ((0 : Int), (([] : (List ((List UInt8) × (List UInt8)))), (([] : (List UInt8)), (([] : (List UInt8)), ((0 : Int), (([] : (List UInt8)), (false, (([] : (List ((List UInt8) × (List UInt8)))), ([] : (List UInt8))))))))))))).2.2.2.1, ((List.getD v5x0 (Int.toNat v5x2) (([] : (List UInt8)), ((0 : Int), ((0 : Int), (([] : (List ((List UInt8) × (List UInt8)))), (([] : (List UInt8)), (([] : (List UInt8)), ((0 : Int), (([] : (List UInt8)), (false, (([] : (List ((List UInt8) × (List UInt8)))), ([] : (List UInt8))))))))))))).2.2.2.2.1, ((List.getD v5x0 (Int.toNat v5x2) (([] : (List UInt8)), ((0 : Int), ((0 : Int), (([] : (List ((List UInt8) × (List UInt8)))), (([] : (List UInt8)), (([] : (List UInt8)), ((0 : Int), (([] : (List UInt8)), (false, (([] : (List ((List UInt8) × (List UInt8)))), ([] : (List UInt8))))))))))))).2.2.2.2.2.1, ((List.getD v5x0 (Int.toNat v5x2) (([] : (List UInt8)), ((0 : Int), ((0 : Int), (([] : (List ((List UInt8) × (List UInt8)))), (([] : (List UInt8)), (([] : (List UInt8)), ((0 : Int), (([] : (List UInt8)), (false, (([] : (List ((List UInt8) × (List UInt8)))), ([] : (List UInt8))))))))))))).2.2.2.2.2.2.1, ((List.getD v5x0 (Int.toNat v5x2) (([] : (List UInt8)), ((0 : Int), ((0 : Int), (([] : (List ((List UInt8) × (List UInt8)))), (([] : (List UInt8)), (([] : (List UInt8)), ((0 : Int), (([] : (List UInt8)), (false, (([] : (List ((List UInt8) × (List UInt8)))), ([] : (List UInt8))))))))))))).2.2.2.2.2.2.2.1, ((List.getD v5x0 (Int.toNat v5x2) (([] : (List UInt8)), ((0 : Int), ((0 : Int), (([] : (List ((List UInt8) × (List UInt8)))), (([] : (List UInt8)), (([] : (List UInt8)), ((0 : Int), (([] : (List UInt8)), (false, (([] : (List ((List UInt8) × (List UInt8)))), ([] : (List UInt8))))))))))))).2.2.2.2.2.2.2.2.1, ((List.getD v5x0 (Int.toNat v5x2) (([] : (List UInt8)), ((0 : Int), ((0 : Int), (([] : (List ((List UInt8) × (List UInt8)))), (([] : (List UInt8)), (([] : (List UInt8)), ((0 : Int), (([] : (List UInt8)), (false, (([] : (List ((List UInt8) × (List UInt8)))), ([] : (List UInt8))))))))))))).2.2.2.2.2.2.2.2.2.1, (List.getD v5x0 (Int.toNat v5x2) (([] : (List UInt8)), ((0 : Int), ((0 : Int), (([] : (List ((List UInt8) × (List UInt8)))), (([] : (List UInt8)), (([] : (List UInt8)), ((0 : Int), (([] : (List UInt8)), (false, (([] : (List ((List UInt8) × (List UInt8)))), ([] : (List UInt8))))))))))))).2.2.2.2.2.2.2.2.2.2))))))))))) v5x1)) else (kR5 v5x0 (szM (enW ((List.getD v5x0 (Int.toNat v5x2) (([] : (List UInt8)), ((0 : Int), ((0 : Int), (([] : (List ((List UInt8) × (List UInt8)))), (([] : (List UInt8)), (([] : (List UInt8)), ((0 : Int), (([] : (List UInt8)), (false, (([] : (List ((List UInt8) × (List UInt8)))), ([] : (List UInt8))))))))))))).1, ((List.getD v5x0 (Int.toNat v5x2) (([] : (List UInt8)), ((0 : Int), ((0 : Int), (([] : (List ((List UInt8) × (List UInt8)))), (([] : (List UInt8)), (([] : (List UInt8)), ((0 : Int), (([] : (List UInt8)), (false, (([] : (List ((List UInt8) × (List UInt8)))), ([] : (List UInt8))))))))))))).2.1, ((List.getD v5x0 (Int.toNat v5x2) (([] : (List UInt8)), ((0 : Int), ((0 : Int), (([] : (List ((List UInt8) × (List UInt8)))), (([] : (List UInt8)), (([] : (List UInt8)), ((0 : Int), (([] : (List UInt8)), (false, (([] : (List ((List UInt8) × (List UInt8)))), ([] : (List UInt8))))))))))))).2.2.1, ((List.getD v5x0 (Int.toNat v5x2) (([] : (List UInt8)), ((0 : Int), ((0 : Int), (([] : (List ((List UInt8) × (List UInt8)))), (([] : (List UInt8)), (([] : (List UInt8)), ((0 : Int), (([] : (List UInt8)), (false, (([] : (List ((List UInt8) × (List UInt8)))), ([] : (List UInt8))))))))))))).2.2.2.1, ((List.getD v5x0 (Int.toNat v5x2) (([] : (List UInt8)), ((0 : Int), ((0 : Int), (([] : (List ((List UInt8) × (List UInt8)))), (([] : (List UInt8)), (([] : (List UInt8)), ((0 : Int), (([] : (List UInt8)), (false, (([] : (List ((List UInt8) × (List UInt8)))), ([] : (List UInt8))))))))))))).2.2.2.2.1, ((List.getD v5x0 (Int.toNat v5x2) (([] : (List UInt8)), ((0 : Int), ((0 : Int), (([] : (List ((List UInt8) × (List UInt8)))), (([] : (List UInt8)), (([] : (List UInt8)), ((0 : Int), (([] : (List UInt8)), (false, (([] : (List ((List UInt8) × (List UInt8)))), ([] : (List UInt8))))))))))))).2.2.2.2.2.1, ((List.getD v5x0 (Int.toNat v5x2) (([] : (List UInt8)), ((0 : Int), ((0 : Int), (([] : (List ((List UInt8) × (List UInt8)))), (([] : (List UInt8)), (([] : (List UInt8)), ((0 : Int), (([] : (List UInt8)), (false, (([] : (List ((List UInt8) × (List UInt8)))), ([] : (List UInt8))))))))))))).2.2.2.2.2.2.1, ((List.getD v5x0 (Int.toNat v5x2) (([] : (List UInt8)), ((0 : Int), ((0 : Int), (([] : (List ((List UInt8) × (List UInt8)))), (([] : (List UInt8)), (([] : (List UInt8)), ((0 : Int), (([] : (List UInt8)), (false, (([] : (List ((List UInt8) × (List UInt8)))), ([] : (List UInt8))))))))))))).2.2.2.2.2.2.2.1, ((List.getD v5x0 (Int.toNat v5x2) (([] : (List UInt8)), ((0 : Int), ((0 : Int), (([] : (List ((List UInt8) × (List UInt8)))), (([] : (List UInt8)), (([] : (List UInt8)), ((0 : Int), (([] : (List UInt8)), (false, (([] : (List ((List UInt8) × (List UInt8)))), ([] : (List UInt8))))))))))))).2.2.2.2.2.2.2.2.1, ((List.getD v5x0 (Int.toNat v5x2) (([] : (List UInt8)), ((0 : Int), ((0 : Int), (([] : (List ((List UInt8) × (List UInt8)))), (([] : (List UInt8)), (([] : (List UInt8)), ((0 : Int), (([] : (List UInt8)), (false, (([] : (List ((List UInt8) × (List UInt8)))), ([] : (List UInt8))))))))))))).2.2.2.2.2.2.2.2.2.1, (List.getD v5x0 (Int.toNat v5x2) (([] : (List UInt8)), ((0 : Int), ((0 : Int), (([] : (List ((List UInt8) × (List UInt8)))), (([] : (List UInt8)), (([] : (List UInt8)), ((0 : Int), (([] : (List UInt8)), (false, (([] : (List ((List UInt8) × (List UInt8)))), ([] : (List UInt8))))))))))))).2.2.2.2.2.2.2.2.2.2))))))))))) v5x1) (wk64 (v5x2 + (1 : Int))))) else (none)) else (none)) else (none)) else (k5e1 v5x1))
def szEntryS_F5 : Nat → (List ((List UInt8) × (Int × (Int × ((List ((List UInt8) × (List UInt8))) × ((List UInt8) × ((List UInt8) × (Int × ((List UInt8) × (Bool × ((List ((List UInt8) × (List UInt8))) × (List UInt8)))))))))))) → Int → Int → (Int → Option Rs) → (Int → Option Rs) → Option Rs
  | 0, _, _, _, _, _ => none
  | n + 1, v5x0, v5x1, v5x2, k5e0, k5e1 => szEntryS_T5 v5x0 v5x1 v5x2 (fun v5x0 v5x1 v5x2 => szEntryS_F5 n v5x0 v5x1 v5x2 k5e0 k5e1) k5e0 k5e1
def szEntryS_h5 (v5x0 : (List ((List UInt8) × (Int × (Int × ((List ((List UInt8) × (List UInt8))) × ((List UInt8) × ((List UInt8) × (Int × ((List UInt8) × (Bool × ((List ((List UInt8) × (List UInt8))) × (List UInt8))))))))))))) (v5x1 : Int) (v5x2 : Int) : St := (St.mk (slots 0 27 [(0, (AV.sh (Ty.pair Ty.str (Ty.pair (Ty.int .i64) (Ty.pair (Ty.int .i64) (Ty.pair (Ty.slice (Ty.pair Ty.str Ty.str)) (Ty.pair Ty.str (Ty.pair Ty.str (Ty.pair (Ty.int .i64) (Ty.pair Ty.str (Ty.pair Ty.bool (Ty.pair (Ty.slice (Ty.pair Ty.str Ty.str)) Ty.str)))))))))) v5x0)), (1, (AV.int .i64 v5x1)), (5, (AV.int .i64 v5x2))]) ([] : (List (Nat × (Ob)))))
def szEntryS_x5e0 (x5x0x0 : Int) : St := (St.mk (slots 0 27 [(1, (AV.int .i64 x5x0x0)), (4, (AV.int .i64 (-(1 : Int))))]) ([] : (List (Nat × (Ob)))))
def szEntryS_x5e1 (x5x1x0 : Int) : St := (St.mk (slots 0 27 [(1, (AV.int .i64 x5x1x0))]) ([] : (List (Nat × (Ob)))))
noncomputable def szEntryS_b5 : Code := codeAt (codeOf Tryz.f43) [1, 1, 1, 0, 1, 0, 0]
def szEntryS_L5 (N : Nat) (st : St) (k : Ex → St → Option Rs) : Option Rs := match takeF [0, 1, 5] 0 27 st.env, st.objs with
  | some [.sh (Ty.pair Ty.str (Ty.pair (Ty.int .i64) (Ty.pair (Ty.int .i64) (Ty.pair (Ty.slice (Ty.pair Ty.str Ty.str)) (Ty.pair Ty.str (Ty.pair Ty.str (Ty.pair (Ty.int .i64) (Ty.pair Ty.str (Ty.pair Ty.bool (Ty.pair (Ty.slice (Ty.pair Ty.str Ty.str)) Ty.str)))))))))) v5x0, .int .i64 v5x1, .int .i64 v5x2], [] => szEntryS_F5 N v5x0 v5x1 v5x2 (fun x5x0x0 => k Ex.ret (szEntryS_x5e0 x5x0x0)) (fun x5x1x0 => k (Ex.exit (0 : Nat)) (szEntryS_x5e1 x5x1x0))
  | _, _ => none
def szEntryS_L (N : Nat) : Lam := fun j st k => match j with
  | 5 => szEntryS_L5 N st k
  | _ => none
theorem szEntryS_round5 (N : Nat) (again : St → Option Rs) (k : Ex → St → Option Rs) (wv5x0 : (List ((List UInt8) × (Int × (Int × ((List ((List UInt8) × (List UInt8))) × ((List UInt8) × ((List UInt8) × (Int × ((List UInt8) × (Bool × ((List ((List UInt8) × (List UInt8))) × (List UInt8))))))))))))) (wv5x1 : Int) (wv5x2 : Int) (v5x0 : (List ((List UInt8) × (Int × (Int × ((List ((List UInt8) × (List UInt8))) × ((List UInt8) × ((List UInt8) × (Int × ((List UInt8) × (Bool × ((List ((List UInt8) × (List UInt8))) × (List UInt8))))))))))))) (v5x1 : Int) (v5x2 : Int) :
    roundK 0 (fun st k => evL Kx szEntryS_C szEntryS_O 0 (szEntryS_L N) szEntryS_b5 st k) (szEntryS_h5 wv5x0 wv5x1 wv5x2).env again (szEntryS_h5 v5x0 v5x1 v5x2) (outK szEntryS_O 0 szEntryS_b5 k) = szEntryS_T5 v5x0 v5x1 v5x2 (fun v5x0 v5x1 v5x2 => again (szEntryS_h5 v5x0 v5x1 v5x2)) (fun x5x0x0 => k Ex.ret (szEntryS_x5e0 x5x0x0)) (fun x5x1x0 => k (Ex.exit (0 : Nat)) (szEntryS_x5e1 x5x1x0)) := by kernel_rfl
theorem szEntryS_loop5 (N : Nat) (k : Ex → St → Option Rs) (wv5x0 : (List ((List UInt8) × (Int × (Int × ((List ((List UInt8) × (List UInt8))) × ((List UInt8) × ((List UInt8) × (Int × ((List UInt8) × (Bool × ((List ((List UInt8) × (List UInt8))) × (List UInt8))))))))))))) (wv5x1 : Int) (wv5x2 : Int) : ∀ (n : Nat) (v5x0 : (List ((List UInt8) × (Int × (Int × ((List ((List UInt8) × (List UInt8))) × ((List UInt8) × ((List UInt8) × (Int × ((List UInt8) × (Bool × ((List ((List UInt8) × (List UInt8))) × (List UInt8))))))))))))) (v5x1 : Int) (v5x2 : Int),
    loopK 0 (fun st k => evL Kx szEntryS_C szEntryS_O 0 (szEntryS_L N) szEntryS_b5 st k) (szEntryS_h5 wv5x0 wv5x1 wv5x2).env n (szEntryS_h5 v5x0 v5x1 v5x2) (outK szEntryS_O 0 szEntryS_b5 k) = szEntryS_F5 n v5x0 v5x1 v5x2 (fun x5x0x0 => k Ex.ret (szEntryS_x5e0 x5x0x0)) (fun x5x1x0 => k (Ex.exit (0 : Nat)) (szEntryS_x5e1 x5x1x0))
  | 0, _, _, _ => rfl
  | n + 1, v5x0, v5x1, v5x2 => by
    rw [loopK_succ, szEntryS_round5]
    simp only [szEntryS_loop5 N k wv5x0 wv5x1 wv5x2 n]
    rfl
theorem szEntryS_at5 (N : Nat) {s : St} {k : Ex → St → Option Rs} {r : Rs} (h : szEntryS_L5 N s k = some r) : ∃ (v5x0 : (List ((List UInt8) × (Int × (Int × ((List ((List UInt8) × (List UInt8))) × ((List UInt8) × ((List UInt8) × (Int × ((List UInt8) × (Bool × ((List ((List UInt8) × (List UInt8))) × (List UInt8))))))))))))) (v5x1 : Int) (v5x2 : Int), s = (szEntryS_h5 v5x0 v5x1 v5x2) ∧ szEntryS_F5 N v5x0 v5x1 v5x2 (fun x5x0x0 => k Ex.ret (szEntryS_x5e0 x5x0x0)) (fun x5x1x0 => k (Ex.exit (0 : Nat)) (szEntryS_x5e1 x5x1x0)) = some r := by
  cases s with | mk env objs =>
  unfold szEntryS_L5 at h
  split at h
  · rename_i e1 e2
    have e3 := takeF_slots _ _ _ _ e1
    simp only at e2 e3
    subst e2 e3
    exact ⟨_, _, _, rfl, h⟩
  · cases h
theorem szEntryS_in5 : loops szEntryS_b5 = [] := by kernel_rfl
theorem szEntryS_lid5 : lid szEntryS_b5 = 5 := by kernel_rfl
theorem szEntryS_ok5 (N : Nat) : OkL Kx szEntryS_C szEntryS_O 0 N (szEntryS_L N) szEntryS_b5 := by
  intro s k k' r hk h
  rw [szEntryS_lid5] at h
  obtain ⟨v5x0, v5x1, v5x2, rfl, h⟩ := szEntryS_at5 N h
  refine loopL (Λ := szEntryS_L N) szEntryS_b5 ?_ N hk ((szEntryS_loop5 N k v5x0 v5x1 v5x2 N v5x0 v5x1 v5x2).trans h)
  rw [szEntryS_in5]
  exact fun _ h => nomatch h
def szEntryS_run (N : Nat) (l : List En) (left : Int) : Option Rs := (bif (decide ((wk64 (left - ((List.length l) : Int))) < (0 : Int))) then (some ((AV.int .i64 (-(1 : Int))), ([] : (List (Ob))))) else (szEntryS_F5 N l (wk64 (left - ((List.length l) : Int))) (0 : Int) (fun x5x0x0 => (some ((AV.int .i64 (-(1 : Int))), ([] : (List (Ob)))))) (fun x5x1x0 => (some ((AV.int .i64 x5x1x0), ([] : (List (Ob))))))))
theorem szEntryS_runL (N : Nat) (l : List En) (left : Int) : runL Kx szEntryS_C szEntryS_O (szEntryS_L N) Tryz.f43 ([.sh (.pair .str (.pair (.int .i64) (.pair (.int .i64) (.pair (.slice (.pair .str .str)) (.pair .str (.pair .str (.pair (.int .i64) (.pair .str (.pair .bool (.pair (.slice (.pair .str .str)) .str)))))))))) l, .int .i64 left]) ([]) = szEntryS_run N l left := by kernel_rfl
theorem szEntryS_body : Tryz.f43.body = some (codeOf Tryz.f43) := by kernel_rfl
theorem szEntryS_loops : loops (codeOf Tryz.f43) = [szEntryS_b5] := by kernel_rfl
theorem szEntryS_ev (N : Nat) (l : List En) (left : Int) {res_ : Rs} (hyp_ : szEntryS_run N l left = some res_) : ∃ n_, runF Kx szEntryS_C szEntryS_O n_ Tryz.f43 ([.sh (.pair .str (.pair (.int .i64) (.pair (.int .i64) (.pair (.slice (.pair .str .str)) (.pair .str (.pair .str (.pair (.int .i64) (.pair .str (.pair .bool (.pair (.slice (.pair .str .str)) .str)))))))))) l, .int .i64 left]) ([]) = some res_ :=
  ⟨N, runL_runF szEntryS_body (by rw [szEntryS_loops]; exact List.forall_mem_cons.2 ⟨szEntryS_ok5 N, fun _ h => nomatch h⟩) ((szEntryS_runL N l left).trans hyp_)⟩
def szEntryS_sOf (φ : (List En) → Int → Br) : List AV → List Ob → Br
  | [.sh (.pair .str (.pair (.int .i64) (.pair (.int .i64) (.pair (.slice (.pair .str .str)) (.pair .str (.pair .str (.pair (.int .i64) (.pair .str (.pair .bool (.pair (.slice (.pair .str .str)) .str)))))))))) l, .int .i64 left], [] => φ l left
  | _, _ => .fail
theorem szEntryS_okOf {φ : (List En) → Int → Br} (fu : (List En) → Int → Nat) (hv : ∀ l left res_, (φ l left).val = some res_ → szEntryS_run (fu l left) l left = some res_) : Sound Kx 43 (szEntryS_sOf φ) := by
  refine sound_run (C := szEntryS_C) (O := szEntryS_O) KOk szEntryS_C_ok Tryz.func43 (by kernel_rfl) fun args objs res os h => ?_
  unfold szEntryS_sOf at h
  split at h
  · exact szEntryS_ev _ _ _ (hv _ _ _ h)
  · cases h

/-! laws.toEntryS -/
def toEntryS_O : Opt := { cons := [], keepNil := false, mutF := [], live := [(3, [0, 3, 4])], outs := [(3, [2, 3])] }
def toEntryS_C : Spec := (add noS 12 toEntry_s)
theorem toEntryS_C_ok : ∀ fn, Sound Kx fn (toEntryS_C fn) := (sound_add (sound_no Kx) toEntry_ok)
def toEntryS_T3 (v3x0 : (List ((List UInt8) × (Int × (Int × ((List ((List UInt8) × (List UInt8))) × ((List UInt8) × ((List UInt8) × (Int × ((List UInt8) × (Bool × ((List ((List UInt8) × (List UInt8))) × (List UInt8))))))))))))) (v3x1 : Int) (v3x2 : (List ((List UInt8) × (Int × (Int × ((List ((List UInt8) × (List UInt8))) × ((List UInt8) × ((List UInt8) × (Int × ((List UInt8) × (Bool × ((List ((List UInt8) × (List UInt8))) × (List UInt8))))))))))))) (kR3 : (List ((List UInt8) × (Int × (Int × ((List ((List UInt8) × (List UInt8))) × ((List UInt8) × ((List UInt8) × (Int × ((List UInt8) × (Bool × ((List ((List UInt8) × (List UInt8))) × (List UInt8)))))))))))) → Int → (List ((List UInt8) × (Int × (Int × ((List ((List UInt8) × (List UInt8))) × ((List UInt8) × ((List UInt8) × (Int × ((List UInt8) × (Bool × ((List ((List UInt8) × (List UInt8))) × (List UInt8)))))))))))) → Option Rs) (k3e0 : (List ((List UInt8) × (Int × (Int × ((List ((List UInt8) × (List UInt8))) × ((List UInt8) × ((List UInt8) × (Int × ((List UInt8) × (Bool × ((List ((List UInt8) × (List UInt8))) × (List UInt8)))))))))))) → Option Rs) : Option Rs :=
  (bif (decide (v3x1 < ((List.length v3x0) : Int))) then (bif (decide ((0 : Int) ≤ v3x1)) then (bif (decide (v3x1 < ((List.length v3x0) : Int))) then (bif (decide ((List.length (List.getD v3x0 (Int.toNat v3x1) (([] : (List UInt8)), ((0 : Int), ((0 : Int), (([] : (List ((List UInt8) × (List UInt8)))), (([] : (List UInt8)), (([] : (List UInt8)), ((0 : Int), (([] : (List UInt8)), (false, (([] : (List ((List UInt8) × (List UInt8)))), ([] : (List UInt8))))))))))))).2.2.2.1) ≤ (1048576 : Nat))) then (bif (decide ((List.length (List.getD v3x0 (Int.toNat v3x1) (([] : (List UInt8)), ((0 : Int), ((0 : Int), (([] : (List ((List UInt8) × (List UInt8)))), (([] : (List UInt8)), (([] : (List UInt8)), ((0 : Int), (([] : (List UInt8)), (false, (([] : (List ((List UInt8) × (List UInt8)))), ([] : (List UInt8))))))))))))).2.2.2.2.2.2.2.2.2.1) ≤ (1048576 : Nat))) then (bif (decide ((0 : Int) ≤ v3x1)) then (bif (decide (v3x1 < ((List.length v3x2) : Int))) then (kR3 v3x0 (wk64 (v3x1 + (1 : Int))) (List.set v3x2 (Int.toNat v3x1) ((List.getD v3x0 (Int.toNat v3x1) (([] : (List UInt8)), ((0 : Int), ((0 : Int), (([] : (List ((List UInt8) × (List UInt8)))), (([] : (List UInt8)), (([] : (List UInt8)), ((0 : Int), (([] : (List UInt8)), (false, (([] : (List ((List UInt8) × (List UInt8)))), ([] : (List UInt8))))))))))))).1, ((List.getD v3x0 (Int.toNat v3x1) (([] : (List UInt8)), ((0 : Int), ((0 : Int), (([] : (List ((List UInt8) × (List UInt8)))), (([] : (List UInt8)), (([] : (List UInt8)), ((0 : Int), (([] : (List UInt8)), (false, (([] : (List ((List UInt8) × (List UInt8)))), ([] : (List UInt8))))))))))))).2.1, ((List.getD v3x0 (Int.toNat v3x1) (([] : (List UInt8)), ((0 : Int), ((0 : Int), (([] : (List ((List UInt8) × (List UInt8)))), (([] : (List UInt8)), (([] : (List UInt8)), ((0 : Int), (([] : (List UInt8)), (false, (([] : (List ((List UInt8) × (List UInt8)))), ([] : (List UInt8))))))))))))).2.2.1, ((List.getD v3x0 (Int.toNat v3x1) (([] : (List UInt8)), ((0 : Int), ((0 : Int), (([] : (List ((List UInt8) × (List UInt8)))), (([] : (List UInt8)), (([] : (List UInt8)), ((0 : Int), (([] : (List UInt8)), (false, (([] : (List ((List UInt8) × (List UInt8)))), ([] : (List UInt8))))))))))))).2.2.2.1, ((List.getD v3x0 (Int.toNat v3x1) (([] : (List UInt8)), ((0 : Int), ((0 : Int), (([] : (List ((List UInt8) × (List UInt8)))), (([] : (List UInt8)), (([] : (List UInt8)), ((0 : Int), (([] : (List UInt8)), (false, (([] : (List ((List UInt8) × (List UInt8)))), ([] : (List UInt8))))))))))))).2.2.2.2.1, ((List.getD v3x0 (Int.toNat v3x1) (([] : (List UInt8)), ((0 : Int), ((0 : Int), (([] : (List ((List UInt8) × (List UInt8)))), (([] : (List UInt8)), (([] : (List UInt8)), ((0 : Int), (([] : (List UInt8)), (false, (([] : (List ((List UInt8) × (List UInt8)))), ([] : (List UInt8))))))))))))).2.2.2.2.2.1, ((List.getD v3x0 (Int.toNat v3x1) (([] : (List UInt8)), ((0 : Int), ((0 : Int), (([] : (List ((List UInt8) × (List UInt8)))), (([] : (List UInt8)), (([] : (List UInt8)), ((0 : Int), (([] : (List UInt8)), (false, (([] : (List ((List UInt8) × (List UInt8)))), ([] : (List UInt8))))))))))))).2.2.2.2.2.2.1, ((List.getD v3x0 (Int.toNat v3x1) (([] : (List UInt8)), ((0 : Int), ((0 : Int), (([] : (List ((List UInt8) × (List UInt8)))), (([] : (List UInt8)), (([] : (List UInt8)), ((0 : Int), (([] : (List UInt8)), (false, (([] : (List ((List UInt8) × (List UInt8)))), ([] : (List UInt8))))))))))))).2.2.2.2.2.2.2.1, ((List.getD v3x0 (Int.toNat v3x1) (([] : (List UInt8)), ((0 : Int), ((0 : Int), (([] : (List ((List UInt8) × (List UInt8)))), (([] : (List UInt8)), (([] : (List UInt8)), ((0 : Int), (([] : (List UInt8)), (false, (([] : (List ((List UInt8) × (List UInt8)))), ([] : (List UInt8))))))))))))).2.2.2.2.2.2.2.2.1, ((List.getD v3x0 (Int.toNat v3x1) (([] : (List UInt8)), ((0 : Int), ((0 : Int), (([] : (List ((List UInt8) × (List UInt8)))), (([] : (List UInt8)), (([] : (List UInt8)), ((0 : Int), (([] : (List UInt8)), (false, (([] : (List ((List UInt8) × (List UInt8)))), ([] : (List UInt8))))))))))))).2.2.2.2.2.2.2.2.2.1, (List.getD v3x0 (Int.toNat v3x1) (([] : (List UInt8)), ((0 : Int), ((0 : Int), (([] : (List ((List UInt8) × (List UInt8)))), (([] : (List UInt8)), (([] : (List UInt8)), ((0 : Int), (([] : (List UInt8)), (false, (([] : (List ((List UInt8) × (List UInt8)))), ([] : (List UInt8))))))))))))).2.2.2.2.2.2.2.2.2.2)))))))))))) else (none)) else (none)) else (none)) else (none)) else (none)) else (none)) else (k3e0 v3x2))
def toEntryS_F3 : Nat → (List ((List UInt8) × (Int × (Int × ((List ((List UInt8) × (List UInt8))) × ((List UInt8) × ((List UInt8) × (Int × ((List UInt8) × (Bool × ((List ((List UInt8) × (List UInt8))) × (List UInt8)))))))))))) → Int → (List ((List UInt8) × (Int × (Int × ((List ((List UInt8) × (List UInt8))) × ((List UInt8) × ((List UInt8) × (Int × ((List UInt8) × (Bool × ((List ((List UInt8) × (List UInt8))) × (List UInt8)))))))))))) → ((List ((List UInt8) × (Int × (Int × ((List ((List UInt8) × (List UInt8))) × ((List UInt8) × ((List UInt8) × (Int × ((List UInt8) × (Bool × ((List ((List UInt8) × (List UInt8))) × (List UInt8)))))))))))) → Option Rs) → Option Rs
  | 0, _, _, _, _ => none
  | n + 1, v3x0, v3x1, v3x2, k3e0 => toEntryS_T3 v3x0 v3x1 v3x2 (fun v3x0 v3x1 v3x2 => toEntryS_F3 n v3x0 v3x1 v3x2 k3e0) k3e0
def toEntryS_h3 (v3x0 : (List ((List UInt8) × (Int × (Int × ((List ((List UInt8) × (List UInt8))) × ((List UInt8) × ((List UInt8) × (Int × ((List UInt8) × (Bool × ((List ((List UInt8) × (List UInt8))) × (List UInt8))))))))))))) (v3x1 : Int) (v3x2 : (List ((List UInt8) × (Int × (Int × ((List ((List UInt8) × (List UInt8))) × ((List UInt8) × ((List UInt8) × (Int × ((List UInt8) × (Bool × ((List ((List UInt8) × (List UInt8))) × (List UInt8))))))))))))) : St := (St.mk (slots 0 23 [(0, (AV.sh (Ty.pair Ty.str (Ty.pair (Ty.int .i64) (Ty.pair (Ty.int .i64) (Ty.pair (Ty.slice (Ty.pair Ty.str Ty.str)) (Ty.pair Ty.str (Ty.pair Ty.str (Ty.pair (Ty.int .i64) (Ty.pair Ty.str (Ty.pair Ty.bool (Ty.pair (Ty.slice (Ty.pair Ty.str Ty.str)) Ty.str)))))))))) v3x0)), (3, (AV.ref (256 : Nat) (0 : Nat))), (4, (AV.int .i64 v3x1))]) (((256 : Nat), (Ob.arr (Ty.pair Ty.str (Ty.pair (Ty.int .i64) (Ty.pair (Ty.int .i64) (Ty.pair (Ty.slice (Ty.pair Ty.str Ty.str)) (Ty.pair Ty.str (Ty.pair Ty.str (Ty.pair (Ty.int .i64) (Ty.pair Ty.str (Ty.pair Ty.bool (Ty.pair (Ty.slice (Ty.pair Ty.str Ty.str)) Ty.str)))))))))) (0 : Nat) false v3x2)) :: ([] : (List (Nat × (Ob))))))
def toEntryS_x3e0 (x3x0x0 : (List ((List UInt8) × (Int × (Int × ((List ((List UInt8) × (List UInt8))) × ((List UInt8) × ((List UInt8) × (Int × ((List UInt8) × (Bool × ((List ((List UInt8) × (List UInt8))) × (List UInt8))))))))))))) : St := (St.mk (slots 0 23 [(3, (AV.ref (256 : Nat) (0 : Nat)))]) (((256 : Nat), (Ob.arr (Ty.pair Ty.str (Ty.pair (Ty.int .i64) (Ty.pair (Ty.int .i64) (Ty.pair (Ty.slice (Ty.pair Ty.str Ty.str)) (Ty.pair Ty.str (Ty.pair Ty.str (Ty.pair (Ty.int .i64) (Ty.pair Ty.str (Ty.pair Ty.bool (Ty.pair (Ty.slice (Ty.pair Ty.str Ty.str)) Ty.str)))))))))) (0 : Nat) false x3x0x0)) :: ([] : (List (Nat × (Ob))))))
noncomputable def toEntryS_b3 : Code := codeAt (codeOf Tryz.f45) [1, 1, 0, 1, 0, 0]
def toEntryS_L3 (N : Nat) (st : St) (k : Ex → St → Option Rs) : Option Rs := match takeF [0, 3, 4] 0 23 st.env, st.objs with
  | some [.sh (Ty.pair Ty.str (Ty.pair (Ty.int .i64) (Ty.pair (Ty.int .i64) (Ty.pair (Ty.slice (Ty.pair Ty.str Ty.str)) (Ty.pair Ty.str (Ty.pair Ty.str (Ty.pair (Ty.int .i64) (Ty.pair Ty.str (Ty.pair Ty.bool (Ty.pair (Ty.slice (Ty.pair Ty.str Ty.str)) Ty.str)))))))))) v3x0, .ref 256 0, .int .i64 v3x1], [(256, .arr (Ty.pair Ty.str (Ty.pair (Ty.int .i64) (Ty.pair (Ty.int .i64) (Ty.pair (Ty.slice (Ty.pair Ty.str Ty.str)) (Ty.pair Ty.str (Ty.pair Ty.str (Ty.pair (Ty.int .i64) (Ty.pair Ty.str (Ty.pair Ty.bool (Ty.pair (Ty.slice (Ty.pair Ty.str Ty.str)) Ty.str)))))))))) 0 false v3x2)] => toEntryS_F3 N v3x0 v3x1 v3x2 (fun x3x0x0 => k (Ex.exit (0 : Nat)) (toEntryS_x3e0 x3x0x0))
  | _, _ => none
def toEntryS_L (N : Nat) : Lam := fun j st k => match j with
  | 3 => toEntryS_L3 N st k
  | _ => none
theorem toEntryS_round3 (N : Nat) (again : St → Option Rs) (k : Ex → St → Option Rs) (wv3x0 : (List ((List UInt8) × (Int × (Int × ((List ((List UInt8) × (List UInt8))) × ((List UInt8) × ((List UInt8) × (Int × ((List UInt8) × (Bool × ((List ((List UInt8) × (List UInt8))) × (List UInt8))))))))))))) (wv3x1 : Int) (wv3x2 : (List ((List UInt8) × (Int × (Int × ((List ((List UInt8) × (List UInt8))) × ((List UInt8) × ((List UInt8) × (Int × ((List UInt8) × (Bool × ((List ((List UInt8) × (List UInt8))) × (List UInt8))))))))))))) (v3x0 : (List ((List UInt8) × (Int × (Int × ((List ((List UInt8) × (List UInt8))) × ((List UInt8) × ((List UInt8) × (Int × ((List UInt8) × (Bool × ((List ((List UInt8) × (List UInt8))) × (List UInt8))))))))))))) (v3x1 : Int) (v3x2 : (List ((List UInt8) × (Int × (Int × ((List ((List UInt8) × (List UInt8))) × ((List UInt8) × ((List UInt8) × (Int × ((List UInt8) × (Bool × ((List ((List UInt8) × (List UInt8))) × (List UInt8))))))))))))) :
    roundK 0 (fun st k => evL Kx toEntryS_C toEntryS_O 0 (toEntryS_L N) toEntryS_b3 st k) (toEntryS_h3 wv3x0 wv3x1 wv3x2).env again (toEntryS_h3 v3x0 v3x1 v3x2) (outK toEntryS_O 0 toEntryS_b3 k) = toEntryS_T3 v3x0 v3x1 v3x2 (fun v3x0 v3x1 v3x2 => again (toEntryS_h3 v3x0 v3x1 v3x2)) (fun x3x0x0 => k (Ex.exit (0 : Nat)) (toEntryS_x3e0 x3x0x0)) := by kernel_rfl
theorem toEntryS_loop3 (N : Nat) (k : Ex → St → Option Rs) (wv3x0 : (List ((List UInt8) × (Int × (Int × ((List ((List UInt8) × (List UInt8))) × ((List UInt8) × ((List UInt8) × (Int × ((List UInt8) × (Bool × ((List ((List UInt8) × (List UInt8))) × (List UInt8))))))))))))) (wv3x1 : Int) (wv3x2 : (List ((List UInt8) × (Int × (Int × ((List ((List UInt8) × (List UInt8))) × ((List UInt8) × ((List UInt8) × (Int × ((List UInt8) × (Bool × ((List ((List UInt8) × (List UInt8))) × (List UInt8))))))))))))) : ∀ (n : Nat) (v3x0 : (List ((List UInt8) × (Int × (Int × ((List ((List UInt8) × (List UInt8))) × ((List UInt8) × ((List UInt8) × (Int × ((List UInt8) × (Bool × ((List ((List UInt8) × (List UInt8))) × (List UInt8))))))))))))) (v3x1 : Int) (v3x2 : (List ((List UInt8) × (Int × (Int × ((List ((List UInt8) × (List UInt8))) × ((List UInt8) × ((List UInt8) × (Int × ((List UInt8) × (Bool × ((List ((List UInt8) × (List UInt8))) × (List UInt8))))))))))))),
    loopK 0 (fun st k => evL Kx toEntryS_C toEntryS_O 0 (toEntryS_L N) toEntryS_b3 st k) (toEntryS_h3 wv3x0 wv3x1 wv3x2).env n (toEntryS_h3 v3x0 v3x1 v3x2) (outK toEntryS_O 0 toEntryS_b3 k) = toEntryS_F3 n v3x0 v3x1 v3x2 (fun x3x0x0 => k (Ex.exit (0 : Nat)) (toEntryS_x3e0 x3x0x0))
  | 0, _, _, _ => rfl
  | n + 1, v3x0, v3x1, v3x2 => by
    rw [loopK_succ, toEntryS_round3]
    simp only [toEntryS_loop3 N k wv3x0 wv3x1 wv3x2 n]
    rfl
theorem toEntryS_at3 (N : Nat) {s : St} {k : Ex → St → Option Rs} {r : Rs} (h : toEntryS_L3 N s k = some r) : ∃ (v3x0 : (List ((List UInt8) × (Int × (Int × ((List ((List UInt8) × (List UInt8))) × ((List UInt8) × ((List UInt8) × (Int × ((List UInt8) × (Bool × ((List ((List UInt8) × (List UInt8))) × (List UInt8))))))))))))) (v3x1 : Int) (v3x2 : (List ((List UInt8) × (Int × (Int × ((List ((List UInt8) × (List UInt8))) × ((List UInt8) × ((List UInt8) × (Int × ((List UInt8) × (Bool × ((List ((List UInt8) × (List UInt8))) × (List UInt8))))))))))))), s = (toEntryS_h3 v3x0 v3x1 v3x2) ∧ toEntryS_F3 N v3x0 v3x1 v3x2 (fun x3x0x0 => k (Ex.exit (0 : Nat)) (toEntryS_x3e0 x3x0x0)) = some r := by
  cases s with | mk env objs =>
  unfold toEntryS_L3 at h
  split at h
  · rename_i e1 e2
    have e3 := takeF_slots _ _ _ _ e1
    simp only at e2 e3
    subst e2 e3
    exact ⟨_, _, _, rfl, h⟩
  · cases h
theorem toEntryS_in3 : loops toEntryS_b3 = [] := by kernel_rfl
theorem toEntryS_lid3 : lid toEntryS_b3 = 3 := by kernel_rfl
theorem toEntryS_ok3 (N : Nat) : OkL Kx toEntryS_C toEntryS_O 0 N (toEntryS_L N) toEntryS_b3 := by
  intro s k k' r hk h
  rw [toEntryS_lid3] at h
  obtain ⟨v3x0, v3x1, v3x2, rfl, h⟩ := toEntryS_at3 N h
  refine loopL (Λ := toEntryS_L N) toEntryS_b3 ?_ N hk ((toEntryS_loop3 N k v3x0 v3x1 v3x2 N v3x0 v3x1 v3x2).trans h)
  rw [toEntryS_in3]
  exact fun _ h => nomatch h
def toEntryS_run (N : Nat) (l : List En) : Option Rs := (bif (decide ((0 : Int) ≤ ((List.length l) : Int))) then (bif (decide (((List.length l) : Int) = ((List.length l) : Int))) then (bif (decide ((((List.length l) : Int) * (160 : Int)) ≤ (140737488355328 : Int))) then (toEntryS_F3 N l (0 : Int) (List.replicate (Int.toNat ((List.length l) : Int)) (([] : (List UInt8)), ((0 : Int), ((0 : Int), (([] : (List ((List UInt8) × (List UInt8)))), (([] : (List UInt8)), (([] : (List UInt8)), ((0 : Int), (([] : (List UInt8)), (false, (([] : (List ((List UInt8) × (List UInt8)))), ([] : (List UInt8))))))))))))) (fun x3x0x0 => (some ((AV.ref (0 : Nat) (0 : Nat)), ((Ob.arr (Ty.pair Ty.str (Ty.pair (Ty.int .i64) (Ty.pair (Ty.int .i64) (Ty.pair (Ty.slice (Ty.pair Ty.str Ty.str)) (Ty.pair Ty.str (Ty.pair Ty.str (Ty.pair (Ty.int .i64) (Ty.pair Ty.str (Ty.pair Ty.bool (Ty.pair (Ty.slice (Ty.pair Ty.str Ty.str)) Ty.str)))))))))) (0 : Nat) false x3x0x0) :: ([] : (List (Ob)))))))) else (none)) else (none)) else (none))
theorem toEntryS_runL (N : Nat) (l : List En) : runL Kx toEntryS_C toEntryS_O (toEntryS_L N) Tryz.f45 ([.sh (.pair .str (.pair (.int .i64) (.pair (.int .i64) (.pair (.slice (.pair .str .str)) (.pair .str (.pair .str (.pair (.int .i64) (.pair .str (.pair .bool (.pair (.slice (.pair .str .str)) .str)))))))))) l]) ([]) = toEntryS_run N l := by kernel_rfl
theorem toEntryS_body : Tryz.f45.body = some (codeOf Tryz.f45) := by kernel_rfl
theorem toEntryS_loops : loops (codeOf Tryz.f45) = [toEntryS_b3] := by kernel_rfl
theorem toEntryS_ev (N : Nat) (l : List En) {res_ : Rs} (hyp_ : toEntryS_run N l = some res_) : ∃ n_, runF Kx toEntryS_C toEntryS_O n_ Tryz.f45 ([.sh (.pair .str (.pair (.int .i64) (.pair (.int .i64) (.pair (.slice (.pair .str .str)) (.pair .str (.pair .str (.pair (.int .i64) (.pair .str (.pair .bool (.pair (.slice (.pair .str .str)) .str)))))))))) l]) ([]) = some res_ :=
  ⟨N, runL_runF toEntryS_body (by rw [toEntryS_loops]; exact List.forall_mem_cons.2 ⟨toEntryS_ok3 N, fun _ h => nomatch h⟩) ((toEntryS_runL N l).trans hyp_)⟩
def toEntryS_sOf (φ : (List En) → Br) : List AV → List Ob → Br
  | [.sh (.pair .str (.pair (.int .i64) (.pair (.int .i64) (.pair (.slice (.pair .str .str)) (.pair .str (.pair .str (.pair (.int .i64) (.pair .str (.pair .bool (.pair (.slice (.pair .str .str)) .str)))))))))) l], [] => φ l
  | _, _ => .fail
theorem toEntryS_okOf {φ : (List En) → Br} (fu : (List En) → Nat) (hv : ∀ l res_, (φ l).val = some res_ → toEntryS_run (fu l) l = some res_) : Sound Kx 45 (toEntryS_sOf φ) := by
  refine sound_run (C := toEntryS_C) (O := toEntryS_O) KOk toEntryS_C_ok Tryz.func45 (by kernel_rfl) fun args objs res os h => ?_
  unfold toEntryS_sOf at h
  split at h
  · exact toEntryS_ev _ _ (hv _ _ h)
  · cases h

/-! laws.eqEntryS -/
def eqEntryS_O : Opt := { cons := [], keepNil := false, mutF := [], live := [(4, [0, 1, 5])], outs := [(4, [4])] }
def eqEntryS_C : Spec := (add noS 14 eqE_s)
theorem eqEntryS_C_ok : ∀ fn, Sound Kx fn (eqEntryS_C fn) := (sound_add (sound_no Kx) eqEntry_okQ)
def eqEntryS_T4 (v4x0 : (List ((List UInt8) × (Int × (Int × ((List ((List UInt8) × (List UInt8))) × ((List UInt8) × ((List UInt8) × (Int × ((List UInt8) × (Bool × ((List ((List UInt8) × (List UInt8))) × (List UInt8))))))))))))) (v4x1 : (List ((List UInt8) × (Int × (Int × ((List ((List UInt8) × (List UInt8))) × ((List UInt8) × ((List UInt8) × (Int × ((List UInt8) × (Bool × ((List ((List UInt8) × (List UInt8))) × (List UInt8))))))))))))) (v4x2 : Int) (kR4 : (List ((List UInt8) × (Int × (Int × ((List ((List UInt8) × (List UInt8))) × ((List UInt8) × ((List UInt8) × (Int × ((List UInt8) × (Bool × ((List ((List UInt8) × (List UInt8))) × (List UInt8)))))))))))) → (List ((List UInt8) × (Int × (Int × ((List ((List UInt8) × (List UInt8))) × ((List UInt8) × ((List UInt8) × (Int × ((List UInt8) × (Bool × ((List ((List UInt8) × (List UInt8))) × (List UInt8)))))))))))) → Int → Option Rs) (k4e0 : Option Rs) : Option Rs :=
  (bif (decide (v4x2 < ((List.length v4x0) : Int))) then (bif (decide ((0 : Int) ≤ v4x2)) then (bif (decide (v4x2 < ((List.length v4x0) : Int))) then (bif (decide ((0 : Int) ≤ v4x2)) then (bif (decide (v4x2 < ((List.length v4x1) : Int))) then (bif (((eqEb ((List.getD v4x0 (Int.toNat v4x2) (([] : (List UInt8)), ((0 : Int), ((0 : Int), (([] : (List ((List UInt8) × (List UInt8)))), (([] : (List UInt8)), (([] : (List UInt8)), ((0 : Int), (([] : (List UInt8)), (false, (([] : (List ((List UInt8) × (List UInt8)))), ([] : (List UInt8))))))))))))).1, ((List.getD v4x0 (Int.toNat v4x2) (([] : (List UInt8)), ((0 : Int), ((0 : Int), (([] : (List ((List UInt8) × (List UInt8)))), (([] : (List UInt8)), (([] : (List UInt8)), ((0 : Int), (([] : (List UInt8)), (false, (([] : (List ((List UInt8) × (List UInt8)))), ([] : (List UInt8))))))))))))).2.1, ((List.getD v4x0 (Int.toNat v4x2) (([] : (List UInt8)), ((0 : Int), ((0 : Int), (([] : (List ((List UInt8) × (List UInt8)))), (([] : (List UInt8)), (([] : (List UInt8)), ((0 : Int), (([] : (List UInt8)), (false, (([] : (List ((List UInt8) × (List UInt8)))), ([] : (List UInt8))))))))))))).2.2.1, ((List.getD v4x0 (Int.toNat v4x2) (([] : (List UInt8)), ((0 : Int), ((0 : Int), (([] : (List ((List UInt8) × (List UInt8)))), (([] : (List UInt8)), (([] : (List UInt8)), ((0 : Int), (([] : (List UInt8)), (false, (([] : (List ((List UInt8) × (List UInt8)))), ([] : (List UInt8))))))))))))).2.2.2.1, ((List.getD v4x0 (Int.toNat v4x2) (([] : (List UInt8)), ((0 : Int), ((0 : Int), (([] : (List ((List UInt8) × (List UInt8)))), (([] : (List UInt8)), (([] : (List UInt8)), ((0 : Int), (([] : (List UInt8)), (false, (([] : (List ((List UInt8) × (List UInt8)))), ([] : (List UInt8))))))))))))).2.2.2.2.1, ((List.getD v4x0 (Int.toNat v4x2) (([] : (List UInt8)), ((0 : Int), ((0 : Int), (([] : (List ((List UInt8) × (List UInt8)))), (([] : (List UInt8)), (([] : (List UInt8)), ((0 : Int), (([] : (List UInt8)), (false, (([] : (List ((List UInt8) × (List UInt8)))), ([] : (List UInt8))))))))))))).2.2.2.2.2.1, ((List.getD v4x0 (Int.toNat v4x2) (([] : (List UInt8)), ((0 : Int), ((0 : Int), (([] : (List ((List UInt8) × (List UInt8)))), (([] : (List UInt8)), (([] : (List UInt8)), ((0 : Int), (([] : (List UInt8)), (false, (([] : (List ((List UInt8) × (List UInt8)))), ([] : (List UInt8))))))))))))).2.2.2.2.2.2.1, ((List.getD v4x0 (Int.toNat v4x2) (([] : (List UInt8)), ((0 : Int), ((0 : Int), (([] : (List ((List UInt8) × (List UInt8)))), (([] : (List UInt8)), (([] : (List UInt8)), ((0 : Int), (([] : (List UInt8)), (false, (([] : (List ((List UInt8) × (List UInt8)))), ([] : (List UInt8))))))))))))).2.2.2.2.2.2.2.1, ((List.getD v4x0 (Int.toNat v4x2) (([] : (List UInt8)), ((0 : Int), ((0 : Int), (([] : (List ((List UInt8) × (List UInt8)))), (([] : (List UInt8)), (([] : (List UInt8)), ((0 : Int), (([] : (List UInt8)), (false, (([] : (List ((List UInt8) × (List UInt8)))), ([] : (List UInt8))))))))))))).2.2.2.2.2.2.2.2.1, ((List.getD v4x0 (Int.toNat v4x2) (([] : (List UInt8)), ((0 : Int), ((0 : Int), (([] : (List ((List UInt8) × (List UInt8)))), (([] : (List UInt8)), (([] : (List UInt8)), ((0 : Int), (([] : (List UInt8)), (false, (([] : (List ((List UInt8) × (List UInt8)))), ([] : (List UInt8))))))))))))).2.2.2.2.2.2.2.2.2.1, (List.getD v4x0 (Int.toNat v4x2) (([] : (List UInt8)), ((0 : Int), ((0 : Int), (([] : (List ((List UInt8) × (List UInt8)))), (([] : (List UInt8)), (([] : (List UInt8)), ((0 : Int), (([] : (List UInt8)), (false, (([] : (List ((List UInt8) × (List UInt8)))), ([] : (List UInt8))))))))))))).2.2.2.2.2.2.2.2.2.2)))))))))) ((List.getD v4x1 (Int.toNat v4x2) (([] : (List UInt8)), ((0 : Int), ((0 : Int), (([] : (List ((List UInt8) × (List UInt8)))), (([] : (List UInt8)), (([] : (List UInt8)), ((0 : Int), (([] : (List UInt8)), (false, (([] : (List ((List UInt8) × (List UInt8)))), ([] : (List UInt8))))))))))))).1, ((List.getD v4x1 (Int.toNat v4x2) (([] : (List UInt8)), ((0 : Int), ((0 : Int), (([] : (List ((List UInt8) × (List UInt8)))), (([] : (List UInt8)), (([] : (List UInt8)), ((0 : Int), (([] : (List UInt8)), (false, (([] : (List ((List UInt8) × (List UInt8)))), ([] : (List UInt8))))))))))))).2.1, ((List.getD v4x1 (Int.toNat v4x2) (([] : (List UInt8)), ((0 : Int), ((0 : Int), (([] : (List ((List UInt8) × (List UInt8)))), (([] : (List UInt8)), (([] : (List UInt8)), ((0 : Int), (([] : (List UInt8)), (false, (([] : (List ((List UInt8) × (List UInt8)))), ([] : (List UInt8))))))))))))).2.2.1, ((List.getD v4x1 (Int.toNat v4x2) (([] : (List UInt8)), ((0 : Int), ((0 : Int), (([] : (List ((List UInt8) × (List UInt8)))), (([] : (List UInt8)), (([] : (List UInt8)), ((0 : Int), (([] : (List UInt8)), (false, (([] : (List ((List UInt8) × (List UInt8)))), ([] : (List UInt8))))))))))))).2.2.2.1, ((List.getD v4x1 (Int.toNat v4x2) (([] : (List UInt8)), ((0 : Int), ((0 : Int), (([] : (List ((List UInt8) × (List UInt8)))), (([] : (List UInt8)), (([] : (List UInt8)), ((0 : Int), (([] : (List UInt8)), (false, (([] : (List ((List UInt8) × (List UInt8)))), ([] : (List UInt8))))))))))))).2.2.2.2.1, ((List.getD v4x1 (Int.toNat v4x2) (([] : (List UInt8)), ((0 : Int), ((0 : Int), (([] : (List ((List UInt8) × (List UInt8)))), (([] : (List UInt8)), (([] : (List UInt8)), ((0 : Int), (([] : (List UInt8)), (false, (([] : (List ((List UInt8) × (List UInt8)))), ([] : (List UInt8))))))))))))).2.2.2.2.2.1, ((List.getD v4x1 (Int.toNat v4x2) (([] : (List UInt8)), ((0 : Int), ((0 : Int), (([] : (List ((List UInt8) × (List UInt8)))), (([] : (List UInt8)), (([] : (List UInt8)), ((0 : Int), (([] : (List UInt8)), (false, (([] : (List ((List UInt8) × (List UInt8)))), ([] : (List UInt8))))))))))))).2.2.2.2.2.2.1, ((List.getD v4x1 (Int.toNat v4x2) (([] : (List UInt8)), ((0 : Int), ((0 : Int), (([] : (List ((List UInt8) × (List UInt8)))), (([] : (List UInt8)), (([] : (List UInt8)), ((0 : Int), (([] : (List UInt8)), (false, (([] : (List ((List UInt8) × (List UInt8)))), ([] : (List UInt8))))))))))))).2.2.2.2.2.2.2.1, ((List.getD v4x1 (Int.toNat v4x2) (([] : (List UInt8)), ((0 : Int), ((0 : Int), (([] : (List ((List UInt8) × (List UInt8)))), (([] : (List UInt8)), (([] : (List UInt8)), ((0 : Int), (([] : (List UInt8)), (false, (([] : (List ((List UInt8) × (List UInt8)))), ([] : (List UInt8))))))))))))).2.2.2.2.2.2.2.2.1, ((List.getD v4x1 (Int.toNat v4x2) (([] : (List UInt8)), ((0 : Int), ((0 : Int), (([] : (List ((List UInt8) × (List UInt8)))), (([] : (List UInt8)), (([] : (List UInt8)), ((0 : Int), (([] : (List UInt8)), (false, (([] : (List ((List UInt8) × (List UInt8)))), ([] : (List UInt8))))))))))))).2.2.2.2.2.2.2.2.2.1, (List.getD v4x1 (Int.toNat v4x2) (([] : (List UInt8)), ((0 : Int), ((0 : Int), (([] : (List ((List UInt8) × (List UInt8)))), (([] : (List UInt8)), (([] : (List UInt8)), ((0 : Int), (([] : (List UInt8)), (false, (([] : (List ((List UInt8) × (List UInt8)))), ([] : (List UInt8))))))))))))).2.2.2.2.2.2.2.2.2.2))))))))))) && (decide ((List.length (List.getD v4x0 (Int.toNat v4x2) (([] : (List UInt8)), ((0 : Int), ((0 : Int), (([] : (List ((List UInt8) × (List UInt8)))), (([] : (List UInt8)), (([] : (List UInt8)), ((0 : Int), (([] : (List UInt8)), (false, (([] : (List ((List UInt8) × (List UInt8)))), ([] : (List UInt8))))))))))))).2.2.2.1) ≤ (1048576 : Nat)))) && (decide ((List.length (List.getD v4x0 (Int.toNat v4x2) (([] : (List UInt8)), ((0 : Int), ((0 : Int), (([] : (List ((List UInt8) × (List UInt8)))), (([] : (List UInt8)), (([] : (List UInt8)), ((0 : Int), (([] : (List UInt8)), (false, (([] : (List ((List UInt8) × (List UInt8)))), ([] : (List UInt8))))))))))))).2.2.2.2.2.2.2.2.2.1) ≤ (1048576 : Nat)))) then (kR4 v4x0 v4x1 (wk64 (v4x2 + (1 : Int)))) else (none)) else (none)) else (none)) else (none)) else (none)) else k4e0)
def eqEntryS_F4 : Nat → (List ((List UInt8) × (Int × (Int × ((List ((List UInt8) × (List UInt8))) × ((List UInt8) × ((List UInt8) × (Int × ((List UInt8) × (Bool × ((List ((List UInt8) × (List UInt8))) × (List UInt8)))))))))))) → (List ((List UInt8) × (Int × (Int × ((List ((List UInt8) × (List UInt8))) × ((List UInt8) × ((List UInt8) × (Int × ((List UInt8) × (Bool × ((List ((List UInt8) × (List UInt8))) × (List UInt8)))))))))))) → Int → (Option Rs) → Option Rs
  | 0, _, _, _, _ => none
  | n + 1, v4x0, v4x1, v4x2, k4e0 => eqEntryS_T4 v4x0 v4x1 v4x2 (fun v4x0 v4x1 v4x2 => eqEntryS_F4 n v4x0 v4x1 v4x2 k4e0) k4e0
def eqEntryS_h4 (v4x0 : (List ((List UInt8) × (Int × (Int × ((List ((List UInt8) × (List UInt8))) × ((List UInt8) × ((List UInt8) × (Int × ((List UInt8) × (Bool × ((List ((List UInt8) × (List UInt8))) × (List UInt8))))))))))))) (v4x1 : (List ((List UInt8) × (Int × (Int × ((List ((List UInt8) × (List UInt8))) × ((List UInt8) × ((List UInt8) × (Int × ((List UInt8) × (Bool × ((List ((List UInt8) × (List UInt8))) × (List UInt8))))))))))))) (v4x2 : Int) : St := (St.mk (slots 0 27 [(0, (AV.sh (Ty.pair Ty.str (Ty.pair (Ty.int .i64) (Ty.pair (Ty.int .i64) (Ty.pair (Ty.slice (Ty.pair Ty.str Ty.str)) (Ty.pair Ty.str (Ty.pair Ty.str (Ty.pair (Ty.int .i64) (Ty.pair Ty.str (Ty.pair Ty.bool (Ty.pair (Ty.slice (Ty.pair Ty.str Ty.str)) Ty.str)))))))))) v4x0)), (1, (AV.sh (Ty.pair Ty.str (Ty.pair (Ty.int .i64) (Ty.pair (Ty.int .i64) (Ty.pair (Ty.slice (Ty.pair Ty.str Ty.str)) (Ty.pair Ty.str (Ty.pair Ty.str (Ty.pair (Ty.int .i64) (Ty.pair Ty.str (Ty.pair Ty.bool (Ty.pair (Ty.slice (Ty.pair Ty.str Ty.str)) Ty.str)))))))))) v4x1)), (5, (AV.int .i64 v4x2))]) ([] : (List (Nat × (Ob)))))
def eqEntryS_x4e0  : St := (St.mk (slots 0 27 []) ([] : (List (Nat × (Ob)))))
noncomputable def eqEntryS_b4 : Code := codeAt (codeOf Tryz.f48) [1, 1, 0, 1, 0, 0]
def eqEntryS_L4 (N : Nat) (st : St) (k : Ex → St → Option Rs) : Option Rs := match takeF [0, 1, 5] 0 27 st.env, st.objs with
  | some [.sh (Ty.pair Ty.str (Ty.pair (Ty.int .i64) (Ty.pair (Ty.int .i64) (Ty.pair (Ty.slice (Ty.pair Ty.str Ty.str)) (Ty.pair Ty.str (Ty.pair Ty.str (Ty.pair (Ty.int .i64) (Ty.pair Ty.str (Ty.pair Ty.bool (Ty.pair (Ty.slice (Ty.pair Ty.str Ty.str)) Ty.str)))))))))) v4x0, .sh (Ty.pair Ty.str (Ty.pair (Ty.int .i64) (Ty.pair (Ty.int .i64) (Ty.pair (Ty.slice (Ty.pair Ty.str Ty.str)) (Ty.pair Ty.str (Ty.pair Ty.str (Ty.pair (Ty.int .i64) (Ty.pair Ty.str (Ty.pair Ty.bool (Ty.pair (Ty.slice (Ty.pair Ty.str Ty.str)) Ty.str)))))))))) v4x1, .int .i64 v4x2], [] => eqEntryS_F4 N v4x0 v4x1 v4x2 (k (Ex.exit (0 : Nat)) (eqEntryS_x4e0))
  | _, _ => none
def eqEntryS_L (N : Nat) : Lam := fun j st k => match j with
  | 4 => eqEntryS_L4 N st k
  | _ => none
theorem eqEntryS_round4 (N : Nat) (again : St → Option Rs) (k : Ex → St → Option Rs) (wv4x0 : (List ((List UInt8) × (Int × (Int × ((List ((List UInt8) × (List UInt8))) × ((List UInt8) × ((List UInt8) × (Int × ((List UInt8) × (Bool × ((List ((List UInt8) × (List UInt8))) × (List UInt8))))))))))))) (wv4x1 : (List ((List UInt8) × (Int × (Int × ((List ((List UInt8) × (List UInt8))) × ((List UInt8) × ((List UInt8) × (Int × ((List UInt8) × (Bool × ((List ((List UInt8) × (List UInt8))) × (List UInt8))))))))))))) (wv4x2 : Int) (v4x0 : (List ((List UInt8) × (Int × (Int × ((List ((List UInt8) × (List UInt8))) × ((List UInt8) × ((List UInt8) × (Int × ((List UInt8) × (Bool × ((List ((List UInt8) × (List UInt8))) × (List UInt8))))))))))))) (v4x1 : (List ((List UInt8) × (Int × (Int × ((List ((List UInt8) × (List UInt8))) × ((List UInt8) × ((List UInt8) × (Int × ((List UInt8) × (Bool × ((List ((List UInt8) × (List UInt8))) × (List UInt8))))))))))))) (v4x2 : Int) :
    roundK 0 (fun st k => evL Kx eqEntryS_C eqEntryS_O 0 (eqEntryS_L N) eqEntryS_b4 st k) (eqEntryS_h4 wv4x0 wv4x1 wv4x2).env again (eqEntryS_h4 v4x0 v4x1 v4x2) (outK eqEntryS_O 0 eqEntryS_b4 k) = eqEntryS_T4 v4x0 v4x1 v4x2 (fun v4x0 v4x1 v4x2 => again (eqEntryS_h4 v4x0 v4x1 v4x2)) (k (Ex.exit (0 : Nat)) (eqEntryS_x4e0)) := by kernel_rfl
theorem eqEntryS_loop4 (N : Nat) (k : Ex → St → Option Rs) (wv4x0 : (List ((List UInt8) × (Int × (Int × ((List ((List UInt8) × (List UInt8))) × ((List UInt8) × ((List UInt8) × (Int × ((List UInt8) × (Bool × ((List ((List UInt8) × (List UInt8))) × (List UInt8))))))))))))) (wv4x1 : (List ((List UInt8) × (Int × (Int × ((List ((List UInt8) × (List UInt8))) × ((List UInt8) × ((List UInt8) × (Int × ((List UInt8) × (Bool × ((List ((List UInt8) × (List UInt8))) × (List UInt8))))))))))))) (wv4x2 : Int) : ∀ (n : Nat) (v4x0 : (List ((List UInt8) × (Int × (Int × ((List ((List UInt8) × (List UInt8))) × ((List UInt8) × ((List UInt8) × (Int × ((List UInt8) × (Bool × ((List ((List UInt8) × (List UInt8))) × (List UInt8))))))))))))) (v4x1 : (List ((List UInt8) × (Int × (Int × ((List ((List UInt8) × (List UInt8))) × ((List UInt8) × ((List UInt8) × (Int × ((List UInt8) × (Bool × ((List ((List UInt8) × (List UInt8))) × (List UInt8))))))))))))) (v4x2 : Int),
    loopK 0 (fun st k => evL Kx eqEntryS_C eqEntryS_O 0 (eqEntryS_L N) eqEntryS_b4 st k) (eqEntryS_h4 wv4x0 wv4x1 wv4x2).env n (eqEntryS_h4 v4x0 v4x1 v4x2) (outK eqEntryS_O 0 eqEntryS_b4 k) = eqEntryS_F4 n v4x0 v4x1 v4x2 (k (Ex.exit (0 : Nat)) (eqEntryS_x4e0))
  | 0, _, _, _ => rfl
  | n + 1, v4x0, v4x1, v4x2 => by
    rw [loopK_succ, eqEntryS_round4]
    simp only [eqEntryS_loop4 N k wv4x0 wv4x1 wv4x2 n]
    rfl
theorem eqEntryS_at4 (N : Nat) {s : St} {k : Ex → St → Option Rs} {r : Rs} (h : eqEntryS_L4 N s k = some r) : ∃ (v4x0 : (List ((List UInt8) × (Int × (Int × ((List ((List UInt8) × (List UInt8))) × ((List UInt8) × ((List UInt8) × (Int × ((List UInt8) × (Bool × ((List ((List UInt8) × (List UInt8))) × (List UInt8))))))))))))) (v4x1 : (List ((List UInt8) × (Int × (Int × ((List ((List UInt8) × (List UInt8))) × ((List UInt8) × ((List UInt8) × (Int × ((List UInt8) × (Bool × ((List ((List UInt8) × (List UInt8))) × (List UInt8))))))))))))) (v4x2 : Int), s = (eqEntryS_h4 v4x0 v4x1 v4x2) ∧ eqEntryS_F4 N v4x0 v4x1 v4x2 (k (Ex.exit (0 : Nat)) (eqEntryS_x4e0)) = some r := by
  cases s with | mk env objs =>
  unfold eqEntryS_L4 at h
  split at h
  · rename_i e1 e2
    have e3 := takeF_slots _ _ _ _ e1
    simp only at e2 e3
    subst e2 e3
    exact ⟨_, _, _, rfl, h⟩
  · cases h
theorem eqEntryS_in4 : loops eqEntryS_b4 = [] := by kernel_rfl
theorem eqEntryS_lid4 : lid eqEntryS_b4 = 4 := by kernel_rfl
theorem eqEntryS_ok4 (N : Nat) : OkL Kx eqEntryS_C eqEntryS_O 0 N (eqEntryS_L N) eqEntryS_b4 := by
  intro s k k' r hk h
  rw [eqEntryS_lid4] at h
  obtain ⟨v4x0, v4x1, v4x2, rfl, h⟩ := eqEntryS_at4 N h
  refine loopL (Λ := eqEntryS_L N) eqEntryS_b4 ?_ N hk ((eqEntryS_loop4 N k v4x0 v4x1 v4x2 N v4x0 v4x1 v4x2).trans h)
  rw [eqEntryS_in4]
  exact fun _ h => nomatch h
def eqEntryS_run (N : Nat) (a b : List En) : Option Rs := (bif (!(decide (((List.length a) : Int) = ((List.length b) : Int)))) then (some ((AV.bool false), ([] : (List (Ob))))) else (eqEntryS_F4 N a b (0 : Int) (some ((AV.bool true), ([] : (List (Ob)))))))
theorem eqEntryS_runL (N : Nat) (a b : List En) : runL Kx eqEntryS_C eqEntryS_O (eqEntryS_L N) Tryz.f48 ([.sh (.pair .str (.pair (.int .i64) (.pair (.int .i64) (.pair (.slice (.pair .str .str)) (.pair .str (.pair .str (.pair (.int .i64) (.pair .str (.pair .bool (.pair (.slice (.pair .str .str)) .str)))))))))) a, .sh (.pair .str (.pair (.int .i64) (.pair (.int .i64) (.pair (.slice (.pair .str .str)) (.pair .str (.pair .str (.pair (.int .i64) (.pair .str (.pair .bool (.pair (.slice (.pair .str .str)) .str)))))))))) b]) ([]) = eqEntryS_run N a b := by kernel_rfl
theorem eqEntryS_body : Tryz.f48.body = some (codeOf Tryz.f48) := by kernel_rfl
theorem eqEntryS_loops : loops (codeOf Tryz.f48) = [eqEntryS_b4] := by kernel_rfl
theorem eqEntryS_ev (N : Nat) (a b : List En) {res_ : Rs} (hyp_ : eqEntryS_run N a b = some res_) : ∃ n_, runF Kx eqEntryS_C eqEntryS_O n_ Tryz.f48 ([.sh (.pair .str (.pair (.int .i64) (.pair (.int .i64) (.pair (.slice (.pair .str .str)) (.pair .str (.pair .str (.pair (.int .i64) (.pair .str (.pair .bool (.pair (.slice (.pair .str .str)) .str)))))))))) a, .sh (.pair .str (.pair (.int .i64) (.pair (.int .i64) (.pair (.slice (.pair .str .str)) (.pair .str (.pair .str (.pair (.int .i64) (.pair .str (.pair .bool (.pair (.slice (.pair .str .str)) .str)))))))))) b]) ([]) = some res_ :=
  ⟨N, runL_runF eqEntryS_body (by rw [eqEntryS_loops]; exact List.forall_mem_cons.2 ⟨eqEntryS_ok4 N, fun _ h => nomatch h⟩) ((eqEntryS_runL N a b).trans hyp_)⟩
def eqEntryS_sOf (φ : (List En) → (List En) → Br) : List AV → List Ob → Br
  | [.sh (.pair .str (.pair (.int .i64) (.pair (.int .i64) (.pair (.slice (.pair .str .str)) (.pair .str (.pair .str (.pair (.int .i64) (.pair .str (.pair .bool (.pair (.slice (.pair .str .str)) .str)))))))))) a, .sh (.pair .str (.pair (.int .i64) (.pair (.int .i64) (.pair (.slice (.pair .str .str)) (.pair .str (.pair .str (.pair (.int .i64) (.pair .str (.pair .bool (.pair (.slice (.pair .str .str)) .str)))))))))) b], [] => φ a b
  | _, _ => .fail
theorem eqEntryS_okOf {φ : (List En) → (List En) → Br} (fu : (List En) → (List En) → Nat) (hv : ∀ a b res_, (φ a b).val = some res_ → eqEntryS_run (fu a b) a b = some res_) : Sound Kx 48 (eqEntryS_sOf φ) := by
  refine sound_run (C := eqEntryS_C) (O := eqEntryS_O) KOk eqEntryS_C_ok Tryz.func48 (by kernel_rfl) fun args objs res os h => ?_
  unfold eqEntryS_sOf at h
  split at h
  · exact eqEntryS_ev _ _ _ (hv _ _ _ h)
  · cases h

end
end Go.Proofs.YtmmjaomfonknnaaGreatDoor.Ev

namespace Go.Proofs.YtmmjaomfonknnaaGreatDoor.Ev
open Go Go.RowKit
set_option linter.unusedVariables false
set_option linter.unusedSimpArgs false
noncomputable section
end
end Go.Proofs.YtmmjaomfonknnaaGreatDoor.Ev

namespace Go.Proofs.YtmmjaomfonknnaaGreatDoor.Ev
open Go Go.RowKit
set_option linter.unusedVariables false
set_option linter.unusedSimpArgs false
noncomputable section

theorem en_eta (a : En) : (a.1, a.2.1, a.2.2.1, a.2.2.2.1, a.2.2.2.2.1, a.2.2.2.2.2.1, a.2.2.2.2.2.2.1, a.2.2.2.2.2.2.2.1, a.2.2.2.2.2.2.2.2.1, a.2.2.2.2.2.2.2.2.2.1, a.2.2.2.2.2.2.2.2.2.2) = a := rfl
def totE : List En → Int
  | [] => 0
  | e :: r => entSz e + totE r
def okEs (l : List En) : Bool := decide (l.length ≤ 1048576) && l.all fun e => decide (e.1.length ≤ 1048576)
theorem entSz_bd (e : En) (h : e.1.length ≤ 1048576) : 0 ≤ entSz e ∧ entSz e ≤ 1050676 := by
  have := write_len e.2.2.2.2
  unfold entSz; omega
theorem okEs_mem {l : List En} (h : okEs l = true) : l.length ≤ 1048576 ∧ ∀ e ∈ l, e.1.length ≤ 1048576 := by
  unfold okEs at h
  simp only [Bool.and_eq_true, decide_eq_true_eq, List.all_eq_true] at h
  exact h
theorem iCSz_loop (l : List En) (hl : l.length ≤ 1048576) (k : Int → Option Rs) : ∀ (r : List En) (acc i : Int) (n : Nat), At l i r → r.length < n → (∀ e ∈ r, e.1.length ≤ 1048576) → 0 ≤ acc → acc + 1050676 * r.length ≤ 2000000000000 →
    iCSz_F3 n acc l (l.length : Int) i k = k (acc + totE r) := by
  intro r; induction r with
  | nil => intro acc i n h hn hm ha hb; obtain ⟨n, rfl⟩ := fuel hn; unfold iCSz_F3 iCSz_T3; simp only [h.dge, cond_false, totE, Int.add_zero]
  | cons e r ih =>
    intro acc i n h hn hm ha hb; obtain ⟨n, rfl⟩ := fuel hn
    simp only [List.length_cons] at hn hb
    have he := hm e (List.mem_cons_self ..)
    have hs := entSz_bd e he
    have hM : isM e.1 = true := isM_of (n := 1048576) he
    have hr := ih (acc + entSz e) (i + 1) n h.step (by omega) (fun x hx => hm x (List.mem_cons_of_mem _ hx)) (by omega) (by omega)
    unfold iCSz_F3 iCSz_T3
    simp only [h.dlt, h.dnn, h.get, cond_true, h.next (show l.length ≤ 4611686018427387904 by omega), hM, en_eta]
    rw [w64 (by omega) (by omega), hr]
    simp only [totE]
    rw [Int.add_assoc]
theorem sCSz_loop (l : List En) (hl : l.length ≤ 1048576) (k : Int → Option Rs) : ∀ (r : List En) (acc i : Int) (n : Nat), At l i r → r.length < n → (∀ e ∈ r, e.1.length ≤ 1048576) → 0 ≤ acc → acc + 1050676 * r.length ≤ 2000000000000 →
    sCSz_F3 n l acc i k = k (acc + totE r) := by
  intro r; induction r with
  | nil => intro acc i n h hn hm ha hb; obtain ⟨n, rfl⟩ := fuel hn; unfold sCSz_F3 sCSz_T3; simp only [h.dge, cond_false, totE, Int.add_zero]
  | cons e r ih =>
    intro acc i n h hn hm ha hb; obtain ⟨n, rfl⟩ := fuel hn
    simp only [List.length_cons] at hn hb
    have he := hm e (List.mem_cons_self ..)
    have hs := entSz_bd e he
    have hM : isM e.1 = true := isM_of (n := 1048576) he
    have hr := ih (acc + entSz e) (i + 1) n h.step (by omega) (fun x hx => hm x (List.mem_cons_of_mem _ hx)) (by omega) (by omega)
    unfold sCSz_F3 sCSz_T3
    simp only [h.dlt, h.dnn, h.get, cond_true, h.next (show l.length ≤ 4611686018427387904 by omega), hM, en_eta]
    rw [w64 (by omega) (by omega), hr]
    simp only [totE]
    rw [Int.add_assoc]
def cz_s (p : Int → List En → AV) : List AV → List Ob → Br
  | [.agg [.int .i64 bu, .sh (.pair .str (.pair (.int .i64) (.pair (.int .i64) (.pair (.slice (.pair .str .str)) (.pair .str (.pair .str (.pair (.int .i64) (.pair .str (.pair .bool (.pair (.slice (.pair .str .str)) .str)))))))))) l]], [] => .ite (okEs l) (.ret (p bu l) []) .fail
  | _, _ => .fail
def el_s (p : List En → AV) : List AV → List Ob → Br
  | [.sh (.pair .str (.pair (.int .i64) (.pair (.int .i64) (.pair (.slice (.pair .str .str)) (.pair .str (.pair .str (.pair (.int .i64) (.pair .str (.pair .bool (.pair (.slice (.pair .str .str)) .str)))))))))) l], [] => .ite (okEs l) (.ret (p l) []) .fail
  | _, _ => .fail
theorem iCSz_okQ : Sound Kx 47 (cz_s fun _ l => .int .i64 (totE l)) := by
  refine (iCSz_okOf (φ := fun bu l => .ite (okEs l) (.ret (.int .i64 (totE l)) []) .fail) (fun _ l => l.length + 1) fun bu l r h => ?_).of fun args objs r h => ?_
  · obtain ⟨h1, h2⟩ := ite_some h
    cases h2
    obtain ⟨g1, g2⟩ := okEs_mem h1
    unfold iCSz_run
    rw [iCSz_loop l g1 _ l 0 0 (l.length + 1) (At.start l) (by omega) g2 (by omega) (by omega), Int.zero_add]
  · unfold cz_s at h; split at h
    · exact h
    · cases h
theorem sCSz_okQ : Sound Kx 44 (el_s fun l => .int .i64 (totE l)) := by
  refine (sCSz_okOf (φ := fun l => .ite (okEs l) (.ret (.int .i64 (totE l)) []) .fail) (fun l => l.length + 1) fun l r h => ?_).of fun args objs r h => ?_
  · obtain ⟨h1, h2⟩ := ite_some h
    cases h2
    obtain ⟨g1, g2⟩ := okEs_mem h1
    unfold sCSz_run
    rw [sCSz_loop l g1 _ l 0 0 (l.length + 1) (At.start l) (by omega) g2 (by omega) (by omega), Int.zero_add]
  · unfold el_s at h; split at h
    · exact h
    · cases h

/-! what the laws do -/
def totW : List En → Int
  | [] => 0
  | e :: r => enW e + totW r
theorem enW_nn (e : En) : 0 ≤ enW e := by
  have h1 := totF_nn e.2.2.2.1
  have h2 := msgW_nn e.2.2.2.2.1 e.2.2.2.2.2.1 e.2.2.2.2.2.2.2.1 e.2.2.2.2.2.2.2.2.2.1 e.2.2.2.2.2.2.2.2.2.2
  unfold enW; omega
theorem totW_nn : ∀ l, 0 ≤ totW l
  | [] => Int.le_refl 0
  | e :: r => by have := totW_nn r; have := enW_nn e; simp only [totW]; omega
def smEs (l : List En) : Bool := decide (l.length ≤ 4611686018427387904) && l.all smE
def szEs (l : List En) (left : Int) : Int := bif decide ((l.length : Int) + totW l ≤ left) then left - ((l.length : Int) + totW l) else -1
theorem szEntryS_loop (l : List En) (hl : l.length ≤ 4611686018427387904) (ka kb : Int → Option Rs) : ∀ (r : List En) (i left : Int) (n : Nat), At l i r → r.length < n → (∀ e ∈ r, smE e = true) → 0 ≤ left → left ≤ 1048576 →
    szEntryS_F5 n l left i ka kb = bif decide (totW r ≤ left) then kb (left - totW r) else ka (-1) := by
  intro r; induction r with
  | nil =>
    intro i left n h hn hf h0 h1; obtain ⟨n, rfl⟩ := fuel hn; unfold szEntryS_F5 szEntryS_T5
    have e : decide (totW [] ≤ left) = true := decide_eq_true h0
    simp only [h.dge, cond_false, e, cond_true]; simp only [totW, Int.sub_zero]
  | cons e r ih =>
    intro i left n h hn hf h0 h1; obtain ⟨n, rfl⟩ := fuel hn
    have hs := hf e (List.mem_cons_self ..)
    have hk : okLeft left = true := by simp only [okLeft, Bool.and_eq_true, decide_eq_true_eq]; omega
    have hw := enW_nn e
    have ht := totW_nn r
    simp only [List.length_cons] at hn
    unfold szEntryS_F5 szEntryS_T5
    simp only [h.dlt, h.dnn, h.get, cond_true, h.next hl, en_eta, hs, hk, Bool.and_self]
    unfold szM
    by_cases c : enW e ≤ left
    · simp only [decide_eq_true c, cond_true]
      rw [decide_eq_false (show ¬ left - enW e < 0 by omega), cond_false, ih (i + 1) _ n h.step (by omega) (fun x hx => hf x (List.mem_cons_of_mem _ hx)) (by omega) (by omega)]
      simp only [totW]
      have e1 : decide (totW r ≤ left - enW e) = decide (enW e + totW r ≤ left) := by rw [Bool.eq_iff_iff, decide_eq_true_eq, decide_eq_true_eq]; omega
      rw [e1, show left - enW e - totW r = left - (enW e + totW r) by omega]
      rfl
    · simp only [decide_eq_false c, cond_false]
      rw [show decide ((-1 : Int) < 0) = true from rfl, cond_true, decide_eq_false (show ¬ totW (e :: r) ≤ left by simp only [totW]; omega), cond_false]
def sz2_s : List AV → List Ob → Br
  | [.sh (.pair .str (.pair (.int .i64) (.pair (.int .i64) (.pair (.slice (.pair .str .str)) (.pair .str (.pair .str (.pair (.int .i64) (.pair .str (.pair .bool (.pair (.slice (.pair .str .str)) .str)))))))))) l, .int .i64 left], [] => .ite (smEs l && okLeft left) (.ret (.int .i64 (szEs l left)) []) .fail
  | _, _ => .fail
theorem smEs_mem {l : List En} (h : smEs l = true) : l.length ≤ 4611686018427387904 ∧ ∀ e ∈ l, smE e = true := by
  unfold smEs at h
  simp only [Bool.and_eq_true, decide_eq_true_eq, List.all_eq_true] at h
  exact h
theorem szEntryS_okQ : Sound Kx 43 sz2_s := by
  refine (szEntryS_okOf (φ := fun l left => .ite (smEs l && okLeft left) (.ret (.int .i64 (szEs l left)) []) .fail) (fun l _ => l.length + 1) fun l left r h => ?_).of fun args objs r h => ?_
  · obtain ⟨h1, h2⟩ := ite_some h
    cases h2
    rw [Bool.and_eq_true] at h1
    obtain ⟨g1, g2⟩ := smEs_mem h1.1
    have h0 := h1.2
    simp only [okLeft, Bool.and_eq_true, decide_eq_true_eq] at h0
    have ht := totW_nn l
    unfold szEntryS_run szEs
    rw [w64 (by omega) (by omega)]
    by_cases c : left - (l.length : Int) < 0
    · rw [decide_eq_true c, decide_eq_false (by omega)]; rfl
    · rw [decide_eq_false c, cond_false, szEntryS_loop l g1 _ _ l 0 _ _ (At.start l) (by omega) g2 (by omega) (by omega)]
      have e1 : decide (totW l ≤ left - (l.length : Int)) = decide ((l.length : Int) + totW l ≤ left) := by rw [Bool.eq_iff_iff, decide_eq_true_eq, decide_eq_true_eq]; omega
      rw [e1, show left - (l.length : Int) - totW l = left - ((l.length : Int) + totW l) by omega]
      cases decide ((l.length : Int) + totW l ≤ left) <;> rfl
  · unfold sz2_s at h; split at h
    · exact h
    · cases h
def eqEsb : List En → List En → Bool
  | [], [] => true
  | a :: r, b :: s => eqEb a b && eqEsb r s
  | _, _ => false
theorem eqEsb_self : ∀ l : List En, eqEsb l l = true
  | [] => rfl
  | a :: r => by unfold eqEsb; rw [eqEb_self, eqEsb_self r]; rfl
theorem eqEb_eq {a b : En} (h : eqEb a b = true) : a = b := by
  obtain ⟨ur, t1, t2, ak, me, ta, st, re, ba, fs, bo⟩ := a
  obtain ⟨ur', t1', t2', ak', me', ta', st', re', ba', fs', bo'⟩ := b
  simp only [eqEb, Bool.and_eq_true, decide_eq_true_eq] at h
  obtain ⟨⟨⟨⟨⟨⟨⟨⟨⟨⟨rfl, rfl⟩, rfl⟩, rfl⟩, rfl⟩, rfl⟩, rfl⟩, rfl⟩, rfl⟩, rfl⟩, rfl⟩ := h
  rfl
theorem eqEsb_eq : ∀ (a b : List En), eqEsb a b = true → a = b
  | [], [], _ => rfl
  | [], _ :: _, h => by cases h
  | _ :: _, [], h => by cases h
  | a :: r, b :: s, h => by
    unfold eqEsb at h
    rw [Bool.and_eq_true] at h
    rw [eqEb_eq h.1, eqEsb_eq r s h.2]
/-- Lists that are short enough to be copied. -/
def shE (e : En) : Bool := decide (e.2.2.2.1.length ≤ 1048576) && decide (e.2.2.2.2.2.2.2.2.2.1.length ≤ 1048576)
def shEs (l : List En) : Bool := decide (l.length ≤ 1048576) && l.all shE
theorem shEs_mem {l : List En} (h : shEs l = true) : l.length ≤ 1048576 ∧ ∀ e ∈ l, shE e = true := by
  unfold shEs at h
  simp only [Bool.and_eq_true, decide_eq_true_eq, List.all_eq_true] at h
  exact h
theorem eqEntryS_loop (l : List En) (hl : l.length ≤ 1048576) (k : Option Rs) : ∀ (r : List En) (i : Int) (n : Nat), At l i r → r.length < n → (∀ e ∈ r, shE e = true) →
    eqEntryS_F4 n l l i k = k := by
  intro r; induction r with
  | nil => intro i n h hn hf; obtain ⟨n, rfl⟩ := fuel hn; unfold eqEntryS_F4 eqEntryS_T4; simp only [h.dge, cond_false]
  | cons e r ih =>
    intro i n h hn hf; obtain ⟨n, rfl⟩ := fuel hn
    have he := hf e (List.mem_cons_self ..)
    unfold shE at he
    rw [Bool.and_eq_true] at he
    simp only [List.length_cons] at hn
    have hr := ih (i + 1) n h.step (by omega) (fun x hx => hf x (List.mem_cons_of_mem _ hx))
    unfold eqEntryS_F4 eqEntryS_T4
    simp only [h.dlt, h.dnn, h.get, cond_true, h.next (show l.length ≤ 4611686018427387904 by omega), en_eta, eqEb_self, he.1, he.2, Bool.and_self, Bool.not_true, cond_false, hr]
def eq2_s : List AV → List Ob → Br
  | [.sh (.pair .str (.pair (.int .i64) (.pair (.int .i64) (.pair (.slice (.pair .str .str)) (.pair .str (.pair .str (.pair (.int .i64) (.pair .str (.pair .bool (.pair (.slice (.pair .str .str)) .str)))))))))) a, .sh (.pair .str (.pair (.int .i64) (.pair (.int .i64) (.pair (.slice (.pair .str .str)) (.pair .str (.pair .str (.pair (.int .i64) (.pair .str (.pair .bool (.pair (.slice (.pair .str .str)) .str)))))))))) b], [] => .ite (eqEsb a b && shEs a) (.ret (.bool true) []) .fail
  | _, _ => .fail
theorem eqEntryS_okQ : Sound Kx 48 eq2_s := by
  refine (eqEntryS_okOf (φ := fun a b => .ite (eqEsb a b && shEs a) (.ret (.bool true) []) .fail) (fun a _ => a.length + 1) fun a b r h => ?_).of fun args objs r h => ?_
  · obtain ⟨h1, h2⟩ := ite_some h
    cases h2
    rw [Bool.and_eq_true] at h1
    obtain rfl := eqEsb_eq a b h1.1
    obtain ⟨g1, g2⟩ := shEs_mem h1.2
    unfold eqEntryS_run
    rw [decide_eq_true rfl]
    simp only [Bool.not_true, cond_false]
    exact eqEntryS_loop a g1 _ a 0 _ (At.start a) (by omega) g2
  · unfold eq2_s at h; split at h
    · exact h
    · cases h
theorem toEntryS_loop (l : List En) (hl : l.length ≤ 4611686018427387904) (k : List En → Option Rs) : ∀ (r pre : List En) (i : Int) (n : Nat), l = pre ++ r → i = pre.length → r.length < n → (∀ e ∈ r, shE e = true) →
    toEntryS_F3 n l i (pre ++ List.replicate r.length ([], 0, 0, [], [], [], 0, [], false, [], [])) k = k l := by
  intro r; induction r with
  | nil =>
    intro pre i n h hi hn hf; obtain ⟨n, rfl⟩ := fuel hn; subst h; subst hi
    have e : decide ((pre.length : Int) < ((pre ++ ([] : List En)).length : Int)) = false := by simp
    unfold toEntryS_F3 toEntryS_T3; simp only [e, cond_false]; rfl
  | cons a r ih =>
    intro pre i n h hi hn hf; obtain ⟨n, rfl⟩ := fuel hn
    have ha : At l i (a :: r) := ⟨pre, h, hi⟩
    have he := hf a (List.mem_cons_self ..)
    unfold shE at he
    rw [Bool.and_eq_true] at he
    have e1 : decide (i < ((pre ++ List.replicate (a :: r).length (([], 0, 0, [], [], [], 0, [], false, [], []) : En)).length : Int)) = true := decide_eq_true (by rw [hi]; simp; omega)
    unfold toEntryS_F3 toEntryS_T3; simp only [ha.dlt, ha.dnn, ha.get, cond_true, ha.next hl, e1, he.1, he.2, en_eta, Bool.and_self]
    have := ih (pre ++ [a]) (i + 1) n (by rw [h]; simp) (by rw [hi]; simp) (by simp at hn; omega) (fun x hx => hf x (List.mem_cons_of_mem _ hx))
    rw [← this]
    congr 1
    rw [hi]
    simp only [List.length_cons, List.replicate_succ, Int.toNat_natCast, set_mid]
    simp
def to2_s : List AV → List Ob → Br
  | [.sh (.pair .str (.pair (.int .i64) (.pair (.int .i64) (.pair (.slice (.pair .str .str)) (.pair .str (.pair .str (.pair (.int .i64) (.pair .str (.pair .bool (.pair (.slice (.pair .str .str)) .str)))))))))) l], [] => .ite (shEs l) (.ret (.ref 0 0) [.arr (.pair .str (.pair (.int .i64) (.pair (.int .i64) (.pair (.slice (.pair .str .str)) (.pair .str (.pair .str (.pair (.int .i64) (.pair .str (.pair .bool (.pair (.slice (.pair .str .str)) .str)))))))))) 0 false l]) .fail
  | _, _ => .fail
theorem toEntryS_okQ : Sound Kx 45 to2_s := by
  refine (toEntryS_okOf (φ := fun l => .ite (shEs l) (.ret (.ref 0 0) [.arr (.pair .str (.pair (.int .i64) (.pair (.int .i64) (.pair (.slice (.pair .str .str)) (.pair .str (.pair .str (.pair (.int .i64) (.pair .str (.pair .bool (.pair (.slice (.pair .str .str)) .str)))))))))) 0 false l]) .fail) (fun l => l.length + 1) fun l r h => ?_).of fun args objs r h => ?_
  · obtain ⟨h1, h2⟩ := ite_some h
    cases h2
    obtain ⟨g1, g2⟩ := shEs_mem h1
    unfold toEntryS_run
    have e1 : decide ((0 : Int) ≤ (l.length : Int)) = true := by simp
    have e2 : decide ((l.length : Int) * 160 ≤ 140737488355328) = true := decide_eq_true (by omega)
    simp only [e1, e2, decide_true, cond_true, Int.toNat_natCast]
    exact toEntryS_loop l (by omega) _ l [] 0 _ rfl rfl (by omega) g2
  · unfold to2_s at h; split at h
    · exact h
    · cases h
end
end Go.Proofs.YtmmjaomfonknnaaGreatDoor.Ev

namespace Go.Proofs.YtmmjaomfonknnaaGreatDoor.Ev
open Go Go.RowKit
set_option linter.unusedVariables false
set_option linter.unusedSimpArgs false
noncomputable section

/-! impl.isBudget -/
def iBudget_O : Opt := { cons := [], keepNil := false, mutF := [], live := [], outs := [] }
def iBudget_C : Spec := (add noS 84 iwithin_s)
theorem iBudget_C_ok : ∀ fn, Sound Kx fn (iBudget_C fn) := (sound_add (sound_no Kx) iwithin_ok)
def iBudget_br (n : Int) : Br := (Br.ite (decide ((0 : Int) ≤ n)) (Br.ret (AV.bool (decide (n ≤ (20000 : Int)))) ([] : (List (Ob)))) (Br.ret (AV.bool false) ([] : (List (Ob)))))
theorem iBudget_run (n : Int) : runF Kx iBudget_C iBudget_O 1 Tryz.f46 ([.int .i64 n]) ([]) = (iBudget_br n).val := by kernel_rfl
def iBudget_s : List AV → List Ob → Br
  | [.int .i64 n], [] => iBudget_br n
  | _, _ => .fail
theorem iBudget_ok : Sound Kx 46 iBudget_s := by
  refine sound_run (C := iBudget_C) (O := iBudget_O) KOk iBudget_C_ok Tryz.func46 (by kernel_rfl) fun args objs res os h => ?_
  unfold iBudget_s at h
  split at h
  · exact ⟨1, (iBudget_run _).trans h⟩
  · cases h

/-! impl.CacheOk -/
def iCOk_O : Opt := { cons := [], keepNil := false, mutF := [], live := [(4, [1, 16, 17, 18])], outs := [(4, [1, 2])] }
def iCOk_C : Spec := (add (add (add noS 46 iBudget_s) 40 ek_s) 47 (cz_s fun _ l => .int .i64 (totE l)))
theorem iCOk_C_ok : ∀ fn, Sound Kx fn (iCOk_C fn) := (sound_add (sound_add (sound_add (sound_no Kx) iBudget_ok) iEntryOk_okQ) iCSz_okQ)
def iCOk_T4 (v4x0 : (List ((List UInt8) × (Int × (Int × ((List ((List UInt8) × (List UInt8))) × ((List UInt8) × ((List UInt8) × (Int × ((List UInt8) × (Bool × ((List ((List UInt8) × (List UInt8))) × (List UInt8))))))))))))) (v4x1 : Int) (v4x2 : Int) (v4x3 : Int) (v4x4 : (List ((List UInt8) × (Int × (Int × ((List ((List UInt8) × (List UInt8))) × ((List UInt8) × ((List UInt8) × (Int × ((List UInt8) × (Bool × ((List ((List UInt8) × (List UInt8))) × (List UInt8))))))))))))) (kR4 : (List ((List UInt8) × (Int × (Int × ((List ((List UInt8) × (List UInt8))) × ((List UInt8) × ((List UInt8) × (Int × ((List UInt8) × (Bool × ((List ((List UInt8) × (List UInt8))) × (List UInt8)))))))))))) → Int → Int → Int → (List ((List UInt8) × (Int × (Int × ((List ((List UInt8) × (List UInt8))) × ((List UInt8) × ((List UInt8) × (Int × ((List UInt8) × (Bool × ((List ((List UInt8) × (List UInt8))) × (List UInt8)))))))))))) → Option Rs) (k4e0 : Int → (List ((List UInt8) × (Int × (Int × ((List ((List UInt8) × (List UInt8))) × ((List UInt8) × ((List UInt8) × (Int × ((List UInt8) × (Bool × ((List ((List UInt8) × (List UInt8))) × (List UInt8)))))))))))) → Option Rs) (k4e1 : Int → (List ((List UInt8) × (Int × (Int × ((List ((List UInt8) × (List UInt8))) × ((List UInt8) × ((List UInt8) × (Int × ((List UInt8) × (Bool × ((List ((List UInt8) × (List UInt8))) × (List UInt8)))))))))))) → Option Rs) : Option Rs :=
  (bif (decide (v4x2 < v4x1)) then (bif (decide ((0 : Int) ≤ v4x2)) then (bif (decide (v4x2 < ((List.length v4x0) : Int))) then (bif (isM (List.getD v4x0 (Int.toNat v4x2) (([] : (List UInt8)), ((0 : Int), ((0 : Int), (([] : (List ((List UInt8) × (List UInt8)))), (([] : (List UInt8)), (([] : (List UInt8)), ((0 : Int), (([] : (List UInt8)), (false, (([] : (List ((List UInt8) × (List UInt8)))), ([] : (List UInt8))))))))))))).1) then (bif (!(entP ((List.getD v4x0 (Int.toNat v4x2) (([] : (List UInt8)), ((0 : Int), ((0 : Int), (([] : (List ((List UInt8) × (List UInt8)))), (([] : (List UInt8)), (([] : (List UInt8)), ((0 : Int), (([] : (List UInt8)), (false, (([] : (List ((List UInt8) × (List UInt8)))), ([] : (List UInt8))))))))))))).1, ((List.getD v4x0 (Int.toNat v4x2) (([] : (List UInt8)), ((0 : Int), ((0 : Int), (([] : (List ((List UInt8) × (List UInt8)))), (([] : (List UInt8)), (([] : (List UInt8)), ((0 : Int), (([] : (List UInt8)), (false, (([] : (List ((List UInt8) × (List UInt8)))), ([] : (List UInt8))))))))))))).2.1, ((List.getD v4x0 (Int.toNat v4x2) (([] : (List UInt8)), ((0 : Int), ((0 : Int), (([] : (List ((List UInt8) × (List UInt8)))), (([] : (List UInt8)), (([] : (List UInt8)), ((0 : Int), (([] : (List UInt8)), (false, (([] : (List ((List UInt8) × (List UInt8)))), ([] : (List UInt8))))))))))))).2.2.1, ((List.getD v4x0 (Int.toNat v4x2) (([] : (List UInt8)), ((0 : Int), ((0 : Int), (([] : (List ((List UInt8) × (List UInt8)))), (([] : (List UInt8)), (([] : (List UInt8)), ((0 : Int), (([] : (List UInt8)), (false, (([] : (List ((List UInt8) × (List UInt8)))), ([] : (List UInt8))))))))))))).2.2.2.1, ((List.getD v4x0 (Int.toNat v4x2) (([] : (List UInt8)), ((0 : Int), ((0 : Int), (([] : (List ((List UInt8) × (List UInt8)))), (([] : (List UInt8)), (([] : (List UInt8)), ((0 : Int), (([] : (List UInt8)), (false, (([] : (List ((List UInt8) × (List UInt8)))), ([] : (List UInt8))))))))))))).2.2.2.2.1, ((List.getD v4x0 (Int.toNat v4x2) (([] : (List UInt8)), ((0 : Int), ((0 : Int), (([] : (List ((List UInt8) × (List UInt8)))), (([] : (List UInt8)), (([] : (List UInt8)), ((0 : Int), (([] : (List UInt8)), (false, (([] : (List ((List UInt8) × (List UInt8)))), ([] : (List UInt8))))))))))))).2.2.2.2.2.1, ((List.getD v4x0 (Int.toNat v4x2) (([] : (List UInt8)), ((0 : Int), ((0 : Int), (([] : (List ((List UInt8) × (List UInt8)))), (([] : (List UInt8)), (([] : (List UInt8)), ((0 : Int), (([] : (List UInt8)), (false, (([] : (List ((List UInt8) × (List UInt8)))), ([] : (List UInt8))))))))))))).2.2.2.2.2.2.1, ((List.getD v4x0 (Int.toNat v4x2) (([] : (List UInt8)), ((0 : Int), ((0 : Int), (([] : (List ((List UInt8) × (List UInt8)))), (([] : (List UInt8)), (([] : (List UInt8)), ((0 : Int), (([] : (List UInt8)), (false, (([] : (List ((List UInt8) × (List UInt8)))), ([] : (List UInt8))))))))))))).2.2.2.2.2.2.2.1, ((List.getD v4x0 (Int.toNat v4x2) (([] : (List UInt8)), ((0 : Int), ((0 : Int), (([] : (List ((List UInt8) × (List UInt8)))), (([] : (List UInt8)), (([] : (List UInt8)), ((0 : Int), (([] : (List UInt8)), (false, (([] : (List ((List UInt8) × (List UInt8)))), ([] : (List UInt8))))))))))))).2.2.2.2.2.2.2.2.1, ((List.getD v4x0 (Int.toNat v4x2) (([] : (List UInt8)), ((0 : Int), ((0 : Int), (([] : (List ((List UInt8) × (List UInt8)))), (([] : (List UInt8)), (([] : (List UInt8)), ((0 : Int), (([] : (List UInt8)), (false, (([] : (List ((List UInt8) × (List UInt8)))), ([] : (List UInt8))))))))))))).2.2.2.2.2.2.2.2.2.1, (List.getD v4x0 (Int.toNat v4x2) (([] : (List UInt8)), ((0 : Int), ((0 : Int), (([] : (List ((List UInt8) × (List UInt8)))), (([] : (List UInt8)), (([] : (List UInt8)), ((0 : Int), (([] : (List UInt8)), (false, (([] : (List ((List UInt8) × (List UInt8)))), ([] : (List UInt8))))))))))))).2.2.2.2.2.2.2.2.2.2)))))))))))) then (k4e0 v4x3 v4x4) else (kR4 v4x0 v4x1 (wk64 (v4x2 + (1 : Int))) v4x3 v4x4)) else (none)) else (none)) else (none)) else (k4e1 v4x3 v4x4))
def iCOk_F4 : Nat → (List ((List UInt8) × (Int × (Int × ((List ((List UInt8) × (List UInt8))) × ((List UInt8) × ((List UInt8) × (Int × ((List UInt8) × (Bool × ((List ((List UInt8) × (List UInt8))) × (List UInt8)))))))))))) → Int → Int → Int → (List ((List UInt8) × (Int × (Int × ((List ((List UInt8) × (List UInt8))) × ((List UInt8) × ((List UInt8) × (Int × ((List UInt8) × (Bool × ((List ((List UInt8) × (List UInt8))) × (List UInt8)))))))))))) → (Int → (List ((List UInt8) × (Int × (Int × ((List ((List UInt8) × (List UInt8))) × ((List UInt8) × ((List UInt8) × (Int × ((List UInt8) × (Bool × ((List ((List UInt8) × (List UInt8))) × (List UInt8)))))))))))) → Option Rs) → (Int → (List ((List UInt8) × (Int × (Int × ((List ((List UInt8) × (List UInt8))) × ((List UInt8) × ((List UInt8) × (Int × ((List UInt8) × (Bool × ((List ((List UInt8) × (List UInt8))) × (List UInt8)))))))))))) → Option Rs) → Option Rs
  | 0, _, _, _, _, _, _, _ => none
  | n + 1, v4x0, v4x1, v4x2, v4x3, v4x4, k4e0, k4e1 => iCOk_T4 v4x0 v4x1 v4x2 v4x3 v4x4 (fun v4x0 v4x1 v4x2 v4x3 v4x4 => iCOk_F4 n v4x0 v4x1 v4x2 v4x3 v4x4 k4e0 k4e1) k4e0 k4e1
def iCOk_h4 (v4x0 : (List ((List UInt8) × (Int × (Int × ((List ((List UInt8) × (List UInt8))) × ((List UInt8) × ((List UInt8) × (Int × ((List UInt8) × (Bool × ((List ((List UInt8) × (List UInt8))) × (List UInt8))))))))))))) (v4x1 : Int) (v4x2 : Int) (v4x3 : Int) (v4x4 : (List ((List UInt8) × (Int × (Int × ((List ((List UInt8) × (List UInt8))) × ((List UInt8) × ((List UInt8) × (Int × ((List UInt8) × (Bool × ((List ((List UInt8) × (List UInt8))) × (List UInt8))))))))))))) : St := (St.mk (slots 0 31 [(1, (AV.ptr (128 : Nat) (0 : Nat))), (16, (AV.sh (Ty.pair Ty.str (Ty.pair (Ty.int .i64) (Ty.pair (Ty.int .i64) (Ty.pair (Ty.slice (Ty.pair Ty.str Ty.str)) (Ty.pair Ty.str (Ty.pair Ty.str (Ty.pair (Ty.int .i64) (Ty.pair Ty.str (Ty.pair Ty.bool (Ty.pair (Ty.slice (Ty.pair Ty.str Ty.str)) Ty.str)))))))))) v4x0)), (17, (AV.int .i64 v4x1)), (18, (AV.int .i64 v4x2))]) (((128 : Nat), (Ob.var ((AV.int .i64 v4x3) :: ((AV.sh (Ty.pair Ty.str (Ty.pair (Ty.int .i64) (Ty.pair (Ty.int .i64) (Ty.pair (Ty.slice (Ty.pair Ty.str Ty.str)) (Ty.pair Ty.str (Ty.pair Ty.str (Ty.pair (Ty.int .i64) (Ty.pair Ty.str (Ty.pair Ty.bool (Ty.pair (Ty.slice (Ty.pair Ty.str Ty.str)) Ty.str)))))))))) v4x4) :: ([] : (List (AV))))))) :: ([] : (List (Nat × (Ob))))))
def iCOk_x4e0 (x4x0x0 : Int) (x4x0x1 : (List ((List UInt8) × (Int × (Int × ((List ((List UInt8) × (List UInt8))) × ((List UInt8) × ((List UInt8) × (Int × ((List UInt8) × (Bool × ((List ((List UInt8) × (List UInt8))) × (List UInt8))))))))))))) : St := (St.mk (slots 0 31 [(1, (AV.ptr (128 : Nat) (0 : Nat))), (2, (AV.bool false))]) (((128 : Nat), (Ob.var ((AV.int .i64 x4x0x0) :: ((AV.sh (Ty.pair Ty.str (Ty.pair (Ty.int .i64) (Ty.pair (Ty.int .i64) (Ty.pair (Ty.slice (Ty.pair Ty.str Ty.str)) (Ty.pair Ty.str (Ty.pair Ty.str (Ty.pair (Ty.int .i64) (Ty.pair Ty.str (Ty.pair Ty.bool (Ty.pair (Ty.slice (Ty.pair Ty.str Ty.str)) Ty.str)))))))))) x4x0x1) :: ([] : (List (AV))))))) :: ([] : (List (Nat × (Ob))))))
def iCOk_x4e1 (x4x1x0 : Int) (x4x1x1 : (List ((List UInt8) × (Int × (Int × ((List ((List UInt8) × (List UInt8))) × ((List UInt8) × ((List UInt8) × (Int × ((List UInt8) × (Bool × ((List ((List UInt8) × (List UInt8))) × (List UInt8))))))))))))) : St := (St.mk (slots 0 31 [(1, (AV.ptr (128 : Nat) (0 : Nat)))]) (((128 : Nat), (Ob.var ((AV.int .i64 x4x1x0) :: ((AV.sh (Ty.pair Ty.str (Ty.pair (Ty.int .i64) (Ty.pair (Ty.int .i64) (Ty.pair (Ty.slice (Ty.pair Ty.str Ty.str)) (Ty.pair Ty.str (Ty.pair Ty.str (Ty.pair (Ty.int .i64) (Ty.pair Ty.str (Ty.pair Ty.bool (Ty.pair (Ty.slice (Ty.pair Ty.str Ty.str)) Ty.str)))))))))) x4x1x1) :: ([] : (List (AV))))))) :: ([] : (List (Nat × (Ob))))))
noncomputable def iCOk_b4 : Code := codeAt (codeOf Tryz.f18) [1, 1, 0, 1, 0, 0]
def iCOk_L4 (N : Nat) (st : St) (k : Ex → St → Option Rs) : Option Rs := match takeF [1, 16, 17, 18] 0 31 st.env, st.objs with
  | some [.ptr 128 0, .sh (Ty.pair Ty.str (Ty.pair (Ty.int .i64) (Ty.pair (Ty.int .i64) (Ty.pair (Ty.slice (Ty.pair Ty.str Ty.str)) (Ty.pair Ty.str (Ty.pair Ty.str (Ty.pair (Ty.int .i64) (Ty.pair Ty.str (Ty.pair Ty.bool (Ty.pair (Ty.slice (Ty.pair Ty.str Ty.str)) Ty.str)))))))))) v4x0, .int .i64 v4x1, .int .i64 v4x2], [(128, .var [.int .i64 v4x3, .sh (Ty.pair Ty.str (Ty.pair (Ty.int .i64) (Ty.pair (Ty.int .i64) (Ty.pair (Ty.slice (Ty.pair Ty.str Ty.str)) (Ty.pair Ty.str (Ty.pair Ty.str (Ty.pair (Ty.int .i64) (Ty.pair Ty.str (Ty.pair Ty.bool (Ty.pair (Ty.slice (Ty.pair Ty.str Ty.str)) Ty.str)))))))))) v4x4])] => iCOk_F4 N v4x0 v4x1 v4x2 v4x3 v4x4 (fun x4x0x0 x4x0x1 => k Ex.ret (iCOk_x4e0 x4x0x0 x4x0x1)) (fun x4x1x0 x4x1x1 => k (Ex.exit (0 : Nat)) (iCOk_x4e1 x4x1x0 x4x1x1))
  | _, _ => none
def iCOk_L (N : Nat) : Lam := fun j st k => match j with
  | 4 => iCOk_L4 N st k
  | _ => none
theorem iCOk_round4 (N : Nat) (again : St → Option Rs) (k : Ex → St → Option Rs) (wv4x0 : (List ((List UInt8) × (Int × (Int × ((List ((List UInt8) × (List UInt8))) × ((List UInt8) × ((List UInt8) × (Int × ((List UInt8) × (Bool × ((List ((List UInt8) × (List UInt8))) × (List UInt8))))))))))))) (wv4x1 : Int) (wv4x2 : Int) (wv4x3 : Int) (wv4x4 : (List ((List UInt8) × (Int × (Int × ((List ((List UInt8) × (List UInt8))) × ((List UInt8) × ((List UInt8) × (Int × ((List UInt8) × (Bool × ((List ((List UInt8) × (List UInt8))) × (List UInt8))))))))))))) (v4x0 : (List ((List UInt8) × (Int × (Int × ((List ((List UInt8) × (List UInt8))) × ((List UInt8) × ((List UInt8) × (Int × ((List UInt8) × (Bool × ((List ((List UInt8) × (List UInt8))) × (List UInt8))))))))))))) (v4x1 : Int) (v4x2 : Int) (v4x3 : Int) (v4x4 : (List ((List UInt8) × (Int × (Int × ((List ((List UInt8) × (List UInt8))) × ((List UInt8) × ((List UInt8) × (Int × ((List UInt8) × (Bool × ((List ((List UInt8) × (List UInt8))) × (List UInt8))))))))))))) :
    roundK 0 (fun st k => evL Kx iCOk_C iCOk_O 0 (iCOk_L N) iCOk_b4 st k) (iCOk_h4 wv4x0 wv4x1 wv4x2 wv4x3 wv4x4).env again (iCOk_h4 v4x0 v4x1 v4x2 v4x3 v4x4) (outK iCOk_O 0 iCOk_b4 k) = iCOk_T4 v4x0 v4x1 v4x2 v4x3 v4x4 (fun v4x0 v4x1 v4x2 v4x3 v4x4 => again (iCOk_h4 v4x0 v4x1 v4x2 v4x3 v4x4)) (fun x4x0x0 x4x0x1 => k Ex.ret (iCOk_x4e0 x4x0x0 x4x0x1)) (fun x4x1x0 x4x1x1 => k (Ex.exit (0 : Nat)) (iCOk_x4e1 x4x1x0 x4x1x1)) := by kernel_rfl
theorem iCOk_loop4 (N : Nat) (k : Ex → St → Option Rs) (wv4x0 : (List ((List UInt8) × (Int × (Int × ((List ((List UInt8) × (List UInt8))) × ((List UInt8) × ((List UInt8) × (Int × ((List UInt8) × (Bool × ((List ((List UInt8) × (List UInt8))) × (List UInt8))))))))))))) (wv4x1 : Int) (wv4x2 : Int) (wv4x3 : Int) (wv4x4 : (List ((List UInt8) × (Int × (Int × ((List ((List UInt8) × (List UInt8))) × ((List UInt8) × ((List UInt8) × (Int × ((List UInt8) × (Bool × ((List ((List UInt8) × (List UInt8))) × (List UInt8))))))))))))) : ∀ (n : Nat) (v4x0 : (List ((List UInt8) × (Int × (Int × ((List ((List UInt8) × (List UInt8))) × ((List UInt8) × ((List UInt8) × (Int × ((List UInt8) × (Bool × ((List ((List UInt8) × (List UInt8))) × (List UInt8))))))))))))) (v4x1 : Int) (v4x2 : Int) (v4x3 : Int) (v4x4 : (List ((List UInt8) × (Int × (Int × ((List ((List UInt8) × (List UInt8))) × ((List UInt8) × ((List UInt8) × (Int × ((List UInt8) × (Bool × ((List ((List UInt8) × (List UInt8))) × (List UInt8))))))))))))),
    loopK 0 (fun st k => evL Kx iCOk_C iCOk_O 0 (iCOk_L N) iCOk_b4 st k) (iCOk_h4 wv4x0 wv4x1 wv4x2 wv4x3 wv4x4).env n (iCOk_h4 v4x0 v4x1 v4x2 v4x3 v4x4) (outK iCOk_O 0 iCOk_b4 k) = iCOk_F4 n v4x0 v4x1 v4x2 v4x3 v4x4 (fun x4x0x0 x4x0x1 => k Ex.ret (iCOk_x4e0 x4x0x0 x4x0x1)) (fun x4x1x0 x4x1x1 => k (Ex.exit (0 : Nat)) (iCOk_x4e1 x4x1x0 x4x1x1))
  | 0, _, _, _, _, _ => rfl
  | n + 1, v4x0, v4x1, v4x2, v4x3, v4x4 => by
    rw [loopK_succ, iCOk_round4]
    simp only [iCOk_loop4 N k wv4x0 wv4x1 wv4x2 wv4x3 wv4x4 n]
    rfl
theorem iCOk_at4 (N : Nat) {s : St} {k : Ex → St → Option Rs} {r : Rs} (h : iCOk_L4 N s k = some r) : ∃ (v4x0 : (List ((List UInt8) × (Int × (Int × ((List ((List UInt8) × (List UInt8))) × ((List UInt8) × ((List UInt8) × (Int × ((List UInt8) × (Bool × ((List ((List UInt8) × (List UInt8))) × (List UInt8))))))))))))) (v4x1 : Int) (v4x2 : Int) (v4x3 : Int) (v4x4 : (List ((List UInt8) × (Int × (Int × ((List ((List UInt8) × (List UInt8))) × ((List UInt8) × ((List UInt8) × (Int × ((List UInt8) × (Bool × ((List ((List UInt8) × (List UInt8))) × (List UInt8))))))))))))), s = (iCOk_h4 v4x0 v4x1 v4x2 v4x3 v4x4) ∧ iCOk_F4 N v4x0 v4x1 v4x2 v4x3 v4x4 (fun x4x0x0 x4x0x1 => k Ex.ret (iCOk_x4e0 x4x0x0 x4x0x1)) (fun x4x1x0 x4x1x1 => k (Ex.exit (0 : Nat)) (iCOk_x4e1 x4x1x0 x4x1x1)) = some r := by
  cases s with | mk env objs =>
  unfold iCOk_L4 at h
  split at h
  · rename_i e1 e2
    have e3 := takeF_slots _ _ _ _ e1
    simp only at e2 e3
    subst e2 e3
    exact ⟨_, _, _, _, _, rfl, h⟩
  · cases h
theorem iCOk_in4 : loops iCOk_b4 = [] := by kernel_rfl
theorem iCOk_lid4 : lid iCOk_b4 = 4 := by kernel_rfl
theorem iCOk_ok4 (N : Nat) : OkL Kx iCOk_C iCOk_O 0 N (iCOk_L N) iCOk_b4 := by
  intro s k k' r hk h
  rw [iCOk_lid4] at h
  obtain ⟨v4x0, v4x1, v4x2, v4x3, v4x4, rfl, h⟩ := iCOk_at4 N h
  refine loopL (Λ := iCOk_L N) iCOk_b4 ?_ N hk ((iCOk_loop4 N k v4x0 v4x1 v4x2 v4x3 v4x4 N v4x0 v4x1 v4x2 v4x3 v4x4).trans h)
  rw [iCOk_in4]
  exact fun _ h => nomatch h
def iCOk_run (N : Nat) (bu : Int) (l : List En) : Option Rs := (bif (decide ((0 : Int) ≤ bu)) then (bif (!(decide (bu ≤ (20000 : Int)))) then (some ((AV.bool false), ([] : (List (Ob))))) else (bif (decide ((30 : Int) < ((List.length l) : Int))) then (some ((AV.bool false), ([] : (List (Ob))))) else (iCOk_F4 N l ((List.length l) : Int) (0 : Int) bu l (fun x4x0x0 => (fun x4x0x1 => (some ((AV.bool false), ([] : (List (Ob))))))) (fun x4x1x0 => (fun x4x1x1 => (bif (okEs x4x1x1) then (some ((AV.bool (decide ((totE x4x1x1) ≤ x4x1x0))), ([] : (List (Ob))))) else (none))))))) else (some ((AV.bool false), ([] : (List (Ob))))))
theorem iCOk_runL (N : Nat) (bu : Int) (l : List En) : runL Kx iCOk_C iCOk_O (iCOk_L N) Tryz.f18 ([.agg [.int .i64 bu, .sh (.pair .str (.pair (.int .i64) (.pair (.int .i64) (.pair (.slice (.pair .str .str)) (.pair .str (.pair .str (.pair (.int .i64) (.pair .str (.pair .bool (.pair (.slice (.pair .str .str)) .str)))))))))) l]]) ([]) = iCOk_run N bu l := by kernel_rfl
theorem iCOk_body : Tryz.f18.body = some (codeOf Tryz.f18) := by kernel_rfl
theorem iCOk_loops : loops (codeOf Tryz.f18) = [iCOk_b4] := by kernel_rfl
theorem iCOk_ev (N : Nat) (bu : Int) (l : List En) {res_ : Rs} (hyp_ : iCOk_run N bu l = some res_) : ∃ n_, runF Kx iCOk_C iCOk_O n_ Tryz.f18 ([.agg [.int .i64 bu, .sh (.pair .str (.pair (.int .i64) (.pair (.int .i64) (.pair (.slice (.pair .str .str)) (.pair .str (.pair .str (.pair (.int .i64) (.pair .str (.pair .bool (.pair (.slice (.pair .str .str)) .str)))))))))) l]]) ([]) = some res_ :=
  ⟨N, runL_runF iCOk_body (by rw [iCOk_loops]; exact List.forall_mem_cons.2 ⟨iCOk_ok4 N, fun _ h => nomatch h⟩) ((iCOk_runL N bu l).trans hyp_)⟩
def iCOk_sOf (φ : Int → (List En) → Br) : List AV → List Ob → Br
  | [.agg [.int .i64 bu, .sh (.pair .str (.pair (.int .i64) (.pair (.int .i64) (.pair (.slice (.pair .str .str)) (.pair .str (.pair .str (.pair (.int .i64) (.pair .str (.pair .bool (.pair (.slice (.pair .str .str)) .str)))))))))) l]], [] => φ bu l
  | _, _ => .fail
theorem iCOk_okOf {φ : Int → (List En) → Br} (fu : Int → (List En) → Nat) (hv : ∀ bu l res_, (φ bu l).val = some res_ → iCOk_run (fu bu l) bu l = some res_) : Sound Kx 18 (iCOk_sOf φ) := by
  refine sound_run (C := iCOk_C) (O := iCOk_O) KOk iCOk_C_ok Tryz.func18 (by kernel_rfl) fun args objs res os h => ?_
  unfold iCOk_sOf at h
  split at h
  · exact iCOk_ev _ _ _ (hv _ _ _ h)
  · cases h

/-! spec.CacheOk -/
def sCOk_O : Opt := { cons := [], keepNil := false, mutF := [], live := [(4, [1, 3])], outs := [(4, [1, 2])] }
def sCOk_C : Spec := (add (add noS 37 ek_s) 44 (el_s fun l => .int .i64 (totE l)))
theorem sCOk_C_ok : ∀ fn, Sound Kx fn (sCOk_C fn) := (sound_add (sound_add (sound_no Kx) sEntryOk_okQ) sCSz_okQ)
def sCOk_T4 (v4x0 : Int) (v4x1 : Int) (v4x2 : (List ((List UInt8) × (Int × (Int × ((List ((List UInt8) × (List UInt8))) × ((List UInt8) × ((List UInt8) × (Int × ((List UInt8) × (Bool × ((List ((List UInt8) × (List UInt8))) × (List UInt8))))))))))))) (kR4 : Int → Int → (List ((List UInt8) × (Int × (Int × ((List ((List UInt8) × (List UInt8))) × ((List UInt8) × ((List UInt8) × (Int × ((List UInt8) × (Bool × ((List ((List UInt8) × (List UInt8))) × (List UInt8)))))))))))) → Option Rs) (k4e0 : Int → (List ((List UInt8) × (Int × (Int × ((List ((List UInt8) × (List UInt8))) × ((List UInt8) × ((List UInt8) × (Int × ((List UInt8) × (Bool × ((List ((List UInt8) × (List UInt8))) × (List UInt8)))))))))))) → Option Rs) (k4e1 : Int → (List ((List UInt8) × (Int × (Int × ((List ((List UInt8) × (List UInt8))) × ((List UInt8) × ((List UInt8) × (Int × ((List UInt8) × (Bool × ((List ((List UInt8) × (List UInt8))) × (List UInt8)))))))))))) → Option Rs) : Option Rs :=
  (bif (decide (v4x0 < ((List.length v4x2) : Int))) then (bif (decide ((0 : Int) ≤ v4x0)) then (bif (decide (v4x0 < ((List.length v4x2) : Int))) then (bif (isM (List.getD v4x2 (Int.toNat v4x0) (([] : (List UInt8)), ((0 : Int), ((0 : Int), (([] : (List ((List UInt8) × (List UInt8)))), (([] : (List UInt8)), (([] : (List UInt8)), ((0 : Int), (([] : (List UInt8)), (false, (([] : (List ((List UInt8) × (List UInt8)))), ([] : (List UInt8))))))))))))).1) then (bif (!(entP ((List.getD v4x2 (Int.toNat v4x0) (([] : (List UInt8)), ((0 : Int), ((0 : Int), (([] : (List ((List UInt8) × (List UInt8)))), (([] : (List UInt8)), (([] : (List UInt8)), ((0 : Int), (([] : (List UInt8)), (false, (([] : (List ((List UInt8) × (List UInt8)))), ([] : (List UInt8))))))))))))).1, ((List.getD v4x2 (Int.toNat v4x0) (([] : (List UInt8)), ((0 : Int), ((0 : Int), (([] : (List ((List UInt8) × (List UInt8)))), (([] : (List UInt8)), (([] : (List UInt8)), ((0 : Int), (([] : (List UInt8)), (false, (([] : (List ((List UInt8) × (List UInt8)))), ([] : (List UInt8))))))))))))).2.1, ((List.getD v4x2 (Int.toNat v4x0) (([] : (List UInt8)), ((0 : Int), ((0 : Int), (([] : (List ((List UInt8) × (List UInt8)))), (([] : (List UInt8)), (([] : (List UInt8)), ((0 : Int), (([] : (List UInt8)), (false, (([] : (List ((List UInt8) × (List UInt8)))), ([] : (List UInt8))))))))))))).2.2.1, ((List.getD v4x2 (Int.toNat v4x0) (([] : (List UInt8)), ((0 : Int), ((0 : Int), (([] : (List ((List UInt8) × (List UInt8)))), (([] : (List UInt8)), (([] : (List UInt8)), ((0 : Int), (([] : (List UInt8)), (false, (([] : (List ((List UInt8) × (List UInt8)))), ([] : (List UInt8))))))))))))).2.2.2.1, ((List.getD v4x2 (Int.toNat v4x0) (([] : (List UInt8)), ((0 : Int), ((0 : Int), (([] : (List ((List UInt8) × (List UInt8)))), (([] : (List UInt8)), (([] : (List UInt8)), ((0 : Int), (([] : (List UInt8)), (false, (([] : (List ((List UInt8) × (List UInt8)))), ([] : (List UInt8))))))))))))).2.2.2.2.1, ((List.getD v4x2 (Int.toNat v4x0) (([] : (List UInt8)), ((0 : Int), ((0 : Int), (([] : (List ((List UInt8) × (List UInt8)))), (([] : (List UInt8)), (([] : (List UInt8)), ((0 : Int), (([] : (List UInt8)), (false, (([] : (List ((List UInt8) × (List UInt8)))), ([] : (List UInt8))))))))))))).2.2.2.2.2.1, ((List.getD v4x2 (Int.toNat v4x0) (([] : (List UInt8)), ((0 : Int), ((0 : Int), (([] : (List ((List UInt8) × (List UInt8)))), (([] : (List UInt8)), (([] : (List UInt8)), ((0 : Int), (([] : (List UInt8)), (false, (([] : (List ((List UInt8) × (List UInt8)))), ([] : (List UInt8))))))))))))).2.2.2.2.2.2.1, ((List.getD v4x2 (Int.toNat v4x0) (([] : (List UInt8)), ((0 : Int), ((0 : Int), (([] : (List ((List UInt8) × (List UInt8)))), (([] : (List UInt8)), (([] : (List UInt8)), ((0 : Int), (([] : (List UInt8)), (false, (([] : (List ((List UInt8) × (List UInt8)))), ([] : (List UInt8))))))))))))).2.2.2.2.2.2.2.1, ((List.getD v4x2 (Int.toNat v4x0) (([] : (List UInt8)), ((0 : Int), ((0 : Int), (([] : (List ((List UInt8) × (List UInt8)))), (([] : (List UInt8)), (([] : (List UInt8)), ((0 : Int), (([] : (List UInt8)), (false, (([] : (List ((List UInt8) × (List UInt8)))), ([] : (List UInt8))))))))))))).2.2.2.2.2.2.2.2.1, ((List.getD v4x2 (Int.toNat v4x0) (([] : (List UInt8)), ((0 : Int), ((0 : Int), (([] : (List ((List UInt8) × (List UInt8)))), (([] : (List UInt8)), (([] : (List UInt8)), ((0 : Int), (([] : (List UInt8)), (false, (([] : (List ((List UInt8) × (List UInt8)))), ([] : (List UInt8))))))))))))).2.2.2.2.2.2.2.2.2.1, (List.getD v4x2 (Int.toNat v4x0) (([] : (List UInt8)), ((0 : Int), ((0 : Int), (([] : (List ((List UInt8) × (List UInt8)))), (([] : (List UInt8)), (([] : (List UInt8)), ((0 : Int), (([] : (List UInt8)), (false, (([] : (List ((List UInt8) × (List UInt8)))), ([] : (List UInt8))))))))))))).2.2.2.2.2.2.2.2.2.2)))))))))))) then (k4e0 v4x1 v4x2) else (kR4 (wk64 (v4x0 + (1 : Int))) v4x1 v4x2)) else (none)) else (none)) else (none)) else (k4e1 v4x1 v4x2))
def sCOk_F4 : Nat → Int → Int → (List ((List UInt8) × (Int × (Int × ((List ((List UInt8) × (List UInt8))) × ((List UInt8) × ((List UInt8) × (Int × ((List UInt8) × (Bool × ((List ((List UInt8) × (List UInt8))) × (List UInt8)))))))))))) → (Int → (List ((List UInt8) × (Int × (Int × ((List ((List UInt8) × (List UInt8))) × ((List UInt8) × ((List UInt8) × (Int × ((List UInt8) × (Bool × ((List ((List UInt8) × (List UInt8))) × (List UInt8)))))))))))) → Option Rs) → (Int → (List ((List UInt8) × (Int × (Int × ((List ((List UInt8) × (List UInt8))) × ((List UInt8) × ((List UInt8) × (Int × ((List UInt8) × (Bool × ((List ((List UInt8) × (List UInt8))) × (List UInt8)))))))))))) → Option Rs) → Option Rs
  | 0, _, _, _, _, _ => none
  | n + 1, v4x0, v4x1, v4x2, k4e0, k4e1 => sCOk_T4 v4x0 v4x1 v4x2 (fun v4x0 v4x1 v4x2 => sCOk_F4 n v4x0 v4x1 v4x2 k4e0 k4e1) k4e0 k4e1
def sCOk_h4 (v4x0 : Int) (v4x1 : Int) (v4x2 : (List ((List UInt8) × (Int × (Int × ((List ((List UInt8) × (List UInt8))) × ((List UInt8) × ((List UInt8) × (Int × ((List UInt8) × (Bool × ((List ((List UInt8) × (List UInt8))) × (List UInt8))))))))))))) : St := (St.mk (slots 0 38 [(1, (AV.ptr (128 : Nat) (0 : Nat))), (3, (AV.int .i64 v4x0))]) (((128 : Nat), (Ob.var ((AV.int .i64 v4x1) :: ((AV.sh (Ty.pair Ty.str (Ty.pair (Ty.int .i64) (Ty.pair (Ty.int .i64) (Ty.pair (Ty.slice (Ty.pair Ty.str Ty.str)) (Ty.pair Ty.str (Ty.pair Ty.str (Ty.pair (Ty.int .i64) (Ty.pair Ty.str (Ty.pair Ty.bool (Ty.pair (Ty.slice (Ty.pair Ty.str Ty.str)) Ty.str)))))))))) v4x2) :: ([] : (List (AV))))))) :: ([] : (List (Nat × (Ob))))))
def sCOk_x4e0 (x4x0x0 : Int) (x4x0x1 : (List ((List UInt8) × (Int × (Int × ((List ((List UInt8) × (List UInt8))) × ((List UInt8) × ((List UInt8) × (Int × ((List UInt8) × (Bool × ((List ((List UInt8) × (List UInt8))) × (List UInt8))))))))))))) : St := (St.mk (slots 0 38 [(1, (AV.ptr (128 : Nat) (0 : Nat))), (2, (AV.bool false))]) (((128 : Nat), (Ob.var ((AV.int .i64 x4x0x0) :: ((AV.sh (Ty.pair Ty.str (Ty.pair (Ty.int .i64) (Ty.pair (Ty.int .i64) (Ty.pair (Ty.slice (Ty.pair Ty.str Ty.str)) (Ty.pair Ty.str (Ty.pair Ty.str (Ty.pair (Ty.int .i64) (Ty.pair Ty.str (Ty.pair Ty.bool (Ty.pair (Ty.slice (Ty.pair Ty.str Ty.str)) Ty.str)))))))))) x4x0x1) :: ([] : (List (AV))))))) :: ([] : (List (Nat × (Ob))))))
def sCOk_x4e1 (x4x1x0 : Int) (x4x1x1 : (List ((List UInt8) × (Int × (Int × ((List ((List UInt8) × (List UInt8))) × ((List UInt8) × ((List UInt8) × (Int × ((List UInt8) × (Bool × ((List ((List UInt8) × (List UInt8))) × (List UInt8))))))))))))) : St := (St.mk (slots 0 38 [(1, (AV.ptr (128 : Nat) (0 : Nat)))]) (((128 : Nat), (Ob.var ((AV.int .i64 x4x1x0) :: ((AV.sh (Ty.pair Ty.str (Ty.pair (Ty.int .i64) (Ty.pair (Ty.int .i64) (Ty.pair (Ty.slice (Ty.pair Ty.str Ty.str)) (Ty.pair Ty.str (Ty.pair Ty.str (Ty.pair (Ty.int .i64) (Ty.pair Ty.str (Ty.pair Ty.bool (Ty.pair (Ty.slice (Ty.pair Ty.str Ty.str)) Ty.str)))))))))) x4x1x1) :: ([] : (List (AV))))))) :: ([] : (List (Nat × (Ob))))))
noncomputable def sCOk_b4 : Code := codeAt (codeOf Tryz.f16) [1, 1, 0, 1, 0, 0]
def sCOk_L4 (N : Nat) (st : St) (k : Ex → St → Option Rs) : Option Rs := match takeF [1, 3] 0 38 st.env, st.objs with
  | some [.ptr 128 0, .int .i64 v4x0], [(128, .var [.int .i64 v4x1, .sh (Ty.pair Ty.str (Ty.pair (Ty.int .i64) (Ty.pair (Ty.int .i64) (Ty.pair (Ty.slice (Ty.pair Ty.str Ty.str)) (Ty.pair Ty.str (Ty.pair Ty.str (Ty.pair (Ty.int .i64) (Ty.pair Ty.str (Ty.pair Ty.bool (Ty.pair (Ty.slice (Ty.pair Ty.str Ty.str)) Ty.str)))))))))) v4x2])] => sCOk_F4 N v4x0 v4x1 v4x2 (fun x4x0x0 x4x0x1 => k Ex.ret (sCOk_x4e0 x4x0x0 x4x0x1)) (fun x4x1x0 x4x1x1 => k (Ex.exit (0 : Nat)) (sCOk_x4e1 x4x1x0 x4x1x1))
  | _, _ => none
def sCOk_L (N : Nat) : Lam := fun j st k => match j with
  | 4 => sCOk_L4 N st k
  | _ => none
theorem sCOk_round4 (N : Nat) (again : St → Option Rs) (k : Ex → St → Option Rs) (wv4x0 : Int) (wv4x1 : Int) (wv4x2 : (List ((List UInt8) × (Int × (Int × ((List ((List UInt8) × (List UInt8))) × ((List UInt8) × ((List UInt8) × (Int × ((List UInt8) × (Bool × ((List ((List UInt8) × (List UInt8))) × (List UInt8))))))))))))) (v4x0 : Int) (v4x1 : Int) (v4x2 : (List ((List UInt8) × (Int × (Int × ((List ((List UInt8) × (List UInt8))) × ((List UInt8) × ((List UInt8) × (Int × ((List UInt8) × (Bool × ((List ((List UInt8) × (List UInt8))) × (List UInt8))))))))))))) :
    roundK 0 (fun st k => evL Kx sCOk_C sCOk_O 0 (sCOk_L N) sCOk_b4 st k) (sCOk_h4 wv4x0 wv4x1 wv4x2).env again (sCOk_h4 v4x0 v4x1 v4x2) (outK sCOk_O 0 sCOk_b4 k) = sCOk_T4 v4x0 v4x1 v4x2 (fun v4x0 v4x1 v4x2 => again (sCOk_h4 v4x0 v4x1 v4x2)) (fun x4x0x0 x4x0x1 => k Ex.ret (sCOk_x4e0 x4x0x0 x4x0x1)) (fun x4x1x0 x4x1x1 => k (Ex.exit (0 : Nat)) (sCOk_x4e1 x4x1x0 x4x1x1)) := by kernel_rfl
theorem sCOk_loop4 (N : Nat) (k : Ex → St → Option Rs) (wv4x0 : Int) (wv4x1 : Int) (wv4x2 : (List ((List UInt8) × (Int × (Int × ((List ((List UInt8) × (List UInt8))) × ((List UInt8) × ((List UInt8) × (Int × ((List UInt8) × (Bool × ((List ((List UInt8) × (List UInt8))) × (List UInt8))))))))))))) : ∀ (n : Nat) (v4x0 : Int) (v4x1 : Int) (v4x2 : (List ((List UInt8) × (Int × (Int × ((List ((List UInt8) × (List UInt8))) × ((List UInt8) × ((List UInt8) × (Int × ((List UInt8) × (Bool × ((List ((List UInt8) × (List UInt8))) × (List UInt8))))))))))))),
    loopK 0 (fun st k => evL Kx sCOk_C sCOk_O 0 (sCOk_L N) sCOk_b4 st k) (sCOk_h4 wv4x0 wv4x1 wv4x2).env n (sCOk_h4 v4x0 v4x1 v4x2) (outK sCOk_O 0 sCOk_b4 k) = sCOk_F4 n v4x0 v4x1 v4x2 (fun x4x0x0 x4x0x1 => k Ex.ret (sCOk_x4e0 x4x0x0 x4x0x1)) (fun x4x1x0 x4x1x1 => k (Ex.exit (0 : Nat)) (sCOk_x4e1 x4x1x0 x4x1x1))
  | 0, _, _, _ => rfl
  | n + 1, v4x0, v4x1, v4x2 => by
    rw [loopK_succ, sCOk_round4]
    simp only [sCOk_loop4 N k wv4x0 wv4x1 wv4x2 n]
    rfl
theorem sCOk_at4 (N : Nat) {s : St} {k : Ex → St → Option Rs} {r : Rs} (h : sCOk_L4 N s k = some r) : ∃ (v4x0 : Int) (v4x1 : Int) (v4x2 : (List ((List UInt8) × (Int × (Int × ((List ((List UInt8) × (List UInt8))) × ((List UInt8) × ((List UInt8) × (Int × ((List UInt8) × (Bool × ((List ((List UInt8) × (List UInt8))) × (List UInt8))))))))))))), s = (sCOk_h4 v4x0 v4x1 v4x2) ∧ sCOk_F4 N v4x0 v4x1 v4x2 (fun x4x0x0 x4x0x1 => k Ex.ret (sCOk_x4e0 x4x0x0 x4x0x1)) (fun x4x1x0 x4x1x1 => k (Ex.exit (0 : Nat)) (sCOk_x4e1 x4x1x0 x4x1x1)) = some r := by
  cases s with | mk env objs =>
  unfold sCOk_L4 at h
  split at h
  · rename_i e1 e2
    have e3 := takeF_slots _ _ _ _ e1
    simp only at e2 e3
    subst e2 e3
    exact ⟨_, _, _, rfl, h⟩
  · cases h
theorem sCOk_in4 : loops sCOk_b4 = [] := by kernel_rfl
theorem sCOk_lid4 : lid sCOk_b4 = 4 := by kernel_rfl
theorem sCOk_ok4 (N : Nat) : OkL Kx sCOk_C sCOk_O 0 N (sCOk_L N) sCOk_b4 := by
  intro s k k' r hk h
  rw [sCOk_lid4] at h
  obtain ⟨v4x0, v4x1, v4x2, rfl, h⟩ := sCOk_at4 N h
  refine loopL (Λ := sCOk_L N) sCOk_b4 ?_ N hk ((sCOk_loop4 N k v4x0 v4x1 v4x2 N v4x0 v4x1 v4x2).trans h)
  rw [sCOk_in4]
  exact fun _ h => nomatch h
def sCOk_run (N : Nat) (bu : Int) (l : List En) : Option Rs := (bif (decide (bu < (0 : Int))) then (some ((AV.bool false), ([] : (List (Ob))))) else (bif (decide ((20000 : Int) < bu)) then (some ((AV.bool false), ([] : (List (Ob))))) else (bif (decide ((30 : Int) < ((List.length l) : Int))) then (some ((AV.bool false), ([] : (List (Ob))))) else (sCOk_F4 N (0 : Int) bu l (fun x4x0x0 => (fun x4x0x1 => (some ((AV.bool false), ([] : (List (Ob))))))) (fun x4x1x0 => (fun x4x1x1 => (bif (okEs x4x1x1) then (some ((AV.bool (decide ((totE x4x1x1) ≤ x4x1x0))), ([] : (List (Ob))))) else (none))))))))
theorem sCOk_runL (N : Nat) (bu : Int) (l : List En) : runL Kx sCOk_C sCOk_O (sCOk_L N) Tryz.f16 ([.agg [.int .i64 bu, .sh (.pair .str (.pair (.int .i64) (.pair (.int .i64) (.pair (.slice (.pair .str .str)) (.pair .str (.pair .str (.pair (.int .i64) (.pair .str (.pair .bool (.pair (.slice (.pair .str .str)) .str)))))))))) l]]) ([]) = sCOk_run N bu l := by kernel_rfl
theorem sCOk_body : Tryz.f16.body = some (codeOf Tryz.f16) := by kernel_rfl
theorem sCOk_loops : loops (codeOf Tryz.f16) = [sCOk_b4] := by kernel_rfl
theorem sCOk_ev (N : Nat) (bu : Int) (l : List En) {res_ : Rs} (hyp_ : sCOk_run N bu l = some res_) : ∃ n_, runF Kx sCOk_C sCOk_O n_ Tryz.f16 ([.agg [.int .i64 bu, .sh (.pair .str (.pair (.int .i64) (.pair (.int .i64) (.pair (.slice (.pair .str .str)) (.pair .str (.pair .str (.pair (.int .i64) (.pair .str (.pair .bool (.pair (.slice (.pair .str .str)) .str)))))))))) l]]) ([]) = some res_ :=
  ⟨N, runL_runF sCOk_body (by rw [sCOk_loops]; exact List.forall_mem_cons.2 ⟨sCOk_ok4 N, fun _ h => nomatch h⟩) ((sCOk_runL N bu l).trans hyp_)⟩
def sCOk_sOf (φ : Int → (List En) → Br) : List AV → List Ob → Br
  | [.agg [.int .i64 bu, .sh (.pair .str (.pair (.int .i64) (.pair (.int .i64) (.pair (.slice (.pair .str .str)) (.pair .str (.pair .str (.pair (.int .i64) (.pair .str (.pair .bool (.pair (.slice (.pair .str .str)) .str)))))))))) l]], [] => φ bu l
  | _, _ => .fail
theorem sCOk_okOf {φ : Int → (List En) → Br} (fu : Int → (List En) → Nat) (hv : ∀ bu l res_, (φ bu l).val = some res_ → sCOk_run (fu bu l) bu l = some res_) : Sound Kx 16 (sCOk_sOf φ) := by
  refine sound_run (C := sCOk_C) (O := sCOk_O) KOk sCOk_C_ok Tryz.func16 (by kernel_rfl) fun args objs res os h => ?_
  unfold sCOk_sOf at h
  split at h
  · exact sCOk_ev _ _ _ (hv _ _ _ h)
  · cases h

/-! laws.szCache -/
def szCache_O : Opt := { cons := [], keepNil := false, mutF := [], live := [], outs := [] }
def szCache_C : Spec := (add noS 43 sz2_s)
theorem szCache_C_ok : ∀ fn, Sound Kx fn (szCache_C fn) := (sound_add (sound_no Kx) szEntryS_okQ)
def szCache_br (bu : Int) (l : List En) (left : Int) : Br := (Br.ite ((smEs l) && (okLeft left)) (Br.ite (decide ((szEs l left) < (0 : Int))) (Br.ret (AV.int .i64 (-(1 : Int))) ([] : (List (Ob)))) (Br.ret (AV.int .i64 (szEs l left)) ([] : (List (Ob))))) Br.fail)
theorem szCache_run (bu : Int) (l : List En) (left : Int) : runF Kx szCache_C szCache_O 1 Tryz.f15 ([.agg [.int .i64 bu, .sh (.pair .str (.pair (.int .i64) (.pair (.int .i64) (.pair (.slice (.pair .str .str)) (.pair .str (.pair .str (.pair (.int .i64) (.pair .str (.pair .bool (.pair (.slice (.pair .str .str)) .str)))))))))) l], .int .i64 left]) ([]) = (szCache_br bu l left).val := by kernel_rfl
def szCache_s : List AV → List Ob → Br
  | [.agg [.int .i64 bu, .sh (.pair .str (.pair (.int .i64) (.pair (.int .i64) (.pair (.slice (.pair .str .str)) (.pair .str (.pair .str (.pair (.int .i64) (.pair .str (.pair .bool (.pair (.slice (.pair .str .str)) .str)))))))))) l], .int .i64 left], [] => szCache_br bu l left
  | _, _ => .fail
theorem szCache_ok : Sound Kx 15 szCache_s := by
  refine sound_run (C := szCache_C) (O := szCache_O) KOk szCache_C_ok Tryz.func15 (by kernel_rfl) fun args objs res os h => ?_
  unfold szCache_s at h
  split at h
  · exact ⟨1, (szCache_run _ _ _).trans h⟩
  · cases h

/-! laws.toCache -/
def toCache_O : Opt := { cons := [], keepNil := false, mutF := [], live := [], outs := [] }
def toCache_C : Spec := (add noS 45 to2_s)
theorem toCache_C_ok : ∀ fn, Sound Kx fn (toCache_C fn) := (sound_add (sound_no Kx) toEntryS_okQ)
def toCache_br (bu : Int) (l : List En) : Br := (Br.ite (shEs l) (Br.ret (AV.agg ((AV.int .i64 bu) :: ((AV.ref (0 : Nat) (0 : Nat)) :: ([] : (List (AV)))))) ((Ob.arr (Ty.pair Ty.str (Ty.pair (Ty.int .i64) (Ty.pair (Ty.int .i64) (Ty.pair (Ty.slice (Ty.pair Ty.str Ty.str)) (Ty.pair Ty.str (Ty.pair Ty.str (Ty.pair (Ty.int .i64) (Ty.pair Ty.str (Ty.pair Ty.bool (Ty.pair (Ty.slice (Ty.pair Ty.str Ty.str)) Ty.str)))))))))) (0 : Nat) false l) :: ([] : (List (Ob))))) Br.fail)
theorem toCache_run (bu : Int) (l : List En) : runF Kx toCache_C toCache_O 1 Tryz.f17 ([.agg [.int .i64 bu, .sh (.pair .str (.pair (.int .i64) (.pair (.int .i64) (.pair (.slice (.pair .str .str)) (.pair .str (.pair .str (.pair (.int .i64) (.pair .str (.pair .bool (.pair (.slice (.pair .str .str)) .str)))))))))) l]]) ([]) = (toCache_br bu l).val := by kernel_rfl
def toCache_s : List AV → List Ob → Br
  | [.agg [.int .i64 bu, .sh (.pair .str (.pair (.int .i64) (.pair (.int .i64) (.pair (.slice (.pair .str .str)) (.pair .str (.pair .str (.pair (.int .i64) (.pair .str (.pair .bool (.pair (.slice (.pair .str .str)) .str)))))))))) l]], [] => toCache_br bu l
  | _, _ => .fail
theorem toCache_ok : Sound Kx 17 toCache_s := by
  refine sound_run (C := toCache_C) (O := toCache_O) KOk toCache_C_ok Tryz.func17 (by kernel_rfl) fun args objs res os h => ?_
  unfold toCache_s at h
  split at h
  · exact ⟨1, (toCache_run _ _).trans h⟩
  · cases h

/-! laws.eqCache -/
def eqCache_O : Opt := { cons := [], keepNil := false, mutF := [], live := [], outs := [] }
def eqCache_C : Spec := (add noS 48 eq2_s)
theorem eqCache_C_ok : ∀ fn, Sound Kx fn (eqCache_C fn) := (sound_add (sound_no Kx) eqEntryS_okQ)
def eqCache_br (bu : Int) (l : List En) (bu' : Int) (l' : List En) : Br := (Br.ite (!(decide (bu = bu'))) (Br.ret (AV.bool false) ([] : (List (Ob)))) (Br.ite ((eqEsb l l') && (shEs l)) (Br.ret (AV.bool true) ([] : (List (Ob)))) Br.fail))
theorem eqCache_run (bu : Int) (l : List En) (bu' : Int) (l' : List En) : runF Kx eqCache_C eqCache_O 1 Tryz.f19 ([.agg [.int .i64 bu, .sh (.pair .str (.pair (.int .i64) (.pair (.int .i64) (.pair (.slice (.pair .str .str)) (.pair .str (.pair .str (.pair (.int .i64) (.pair .str (.pair .bool (.pair (.slice (.pair .str .str)) .str)))))))))) l], .agg [.int .i64 bu', .sh (.pair .str (.pair (.int .i64) (.pair (.int .i64) (.pair (.slice (.pair .str .str)) (.pair .str (.pair .str (.pair (.int .i64) (.pair .str (.pair .bool (.pair (.slice (.pair .str .str)) .str)))))))))) l']]) ([]) = (eqCache_br bu l bu' l').val := by kernel_rfl
def eqCache_s : List AV → List Ob → Br
  | [.agg [.int .i64 bu, .sh (.pair .str (.pair (.int .i64) (.pair (.int .i64) (.pair (.slice (.pair .str .str)) (.pair .str (.pair .str (.pair (.int .i64) (.pair .str (.pair .bool (.pair (.slice (.pair .str .str)) .str)))))))))) l], .agg [.int .i64 bu', .sh (.pair .str (.pair (.int .i64) (.pair (.int .i64) (.pair (.slice (.pair .str .str)) (.pair .str (.pair .str (.pair (.int .i64) (.pair .str (.pair .bool (.pair (.slice (.pair .str .str)) .str)))))))))) l']], [] => eqCache_br bu l bu' l'
  | _, _ => .fail
theorem eqCache_ok : Sound Kx 19 eqCache_s := by
  refine sound_run (C := eqCache_C) (O := eqCache_O) KOk eqCache_C_ok Tryz.func19 (by kernel_rfl) fun args objs res os h => ?_
  unfold eqCache_s at h
  split at h
  · exact ⟨1, (eqCache_run _ _ _ _).trans h⟩
  · cases h

end
end Go.Proofs.YtmmjaomfonknnaaGreatDoor.Ev

namespace Go.Proofs.YtmmjaomfonknnaaGreatDoor.Ev
open Go Go.RowKit
set_option linter.unusedVariables false
set_option linter.unusedSimpArgs false
noncomputable section
/-- Is it a cache? -/
def cacheP (bu : Int) (l : List En) : Bool := decide (0 ≤ bu) && decide (bu ≤ 20000) && decide (l.length ≤ 30) && l.all entP && decide (totE l ≤ bu)
theorem iCOk_loop (l : List En) (hl : l.length ≤ 1048576) (bu : Int) (k0 k1 : Int → List En → Option Rs) : ∀ (r : List En) (i : Int) (n : Nat), At l i r → r.length < n → (∀ e ∈ r, e.1.length ≤ 1048576) →
    iCOk_F4 n l (l.length : Int) i bu l k0 k1 = bif r.all entP then k1 bu l else k0 bu l := by
  intro r; induction r with
  | nil => intro i n h hn hm; obtain ⟨n, rfl⟩ := fuel hn; unfold iCOk_F4 iCOk_T4; simp only [h.dge, cond_false, List.all_nil, cond_true]
  | cons e r ih =>
    intro i n h hn hm; obtain ⟨n, rfl⟩ := fuel hn
    simp only [List.length_cons] at hn
    have hM : isM e.1 = true := isM_of (n := 1048576) (hm e (List.mem_cons_self ..))
    have hr := ih (i + 1) n h.step (by omega) (fun x hx => hm x (List.mem_cons_of_mem _ hx))
    unfold iCOk_F4 iCOk_T4
    simp only [h.dlt, h.dnn, h.get, cond_true, h.next (show l.length ≤ 4611686018427387904 by omega), hM, en_eta, hr, List.all_cons]
    cases entP e <;> rfl
theorem sCOk_loop (l : List En) (hl : l.length ≤ 1048576) (bu : Int) (k0 k1 : Int → List En → Option Rs) : ∀ (r : List En) (i : Int) (n : Nat), At l i r → r.length < n → (∀ e ∈ r, e.1.length ≤ 1048576) →
    sCOk_F4 n i bu l k0 k1 = bif r.all entP then k1 bu l else k0 bu l := by
  intro r; induction r with
  | nil => intro i n h hn hm; obtain ⟨n, rfl⟩ := fuel hn; unfold sCOk_F4 sCOk_T4; simp only [h.dge, cond_false, List.all_nil, cond_true]
  | cons e r ih =>
    intro i n h hn hm; obtain ⟨n, rfl⟩ := fuel hn
    simp only [List.length_cons] at hn
    have hM : isM e.1 = true := isM_of (n := 1048576) (hm e (List.mem_cons_self ..))
    have hr := ih (i + 1) n h.step (by omega) (fun x hx => hm x (List.mem_cons_of_mem _ hx))
    unfold sCOk_F4 sCOk_T4
    simp only [h.dlt, h.dnn, h.get, cond_true, h.next (show l.length ≤ 4611686018427387904 by omega), hM, en_eta, hr, List.all_cons]
    cases entP e <;> rfl
theorem iCOk_okQ : Sound Kx 18 (cz_s fun bu l => .bool (cacheP bu l)) := by
  refine (iCOk_okOf (φ := fun bu l => .ite (okEs l) (.ret (.bool (cacheP bu l)) []) .fail) (fun _ l => l.length + 1) fun bu l r h => ?_).of fun args objs r h => ?_
  · obtain ⟨h1, h2⟩ := ite_some h
    cases h2
    obtain ⟨g1, g2⟩ := okEs_mem h1
    unfold iCOk_run cacheP
    rw [iCOk_loop l g1 bu _ _ l 0 (l.length + 1) (At.start l) (by omega) g2]
    by_cases c1 : 0 ≤ bu
    · rw [decide_eq_true c1]
      by_cases c2 : bu ≤ 20000
      · rw [decide_eq_true c2]
        by_cases c3 : l.length ≤ 30
        · rw [decide_eq_true c3, decide_eq_false (show ¬ (30 : Int) < (l.length : Int) by omega)]
          simp only [h1]
          cases l.all entP <;> rfl
        · rw [decide_eq_false c3, decide_eq_true (show (30 : Int) < (l.length : Int) by omega)]; rfl
      · rw [decide_eq_false c2]; rfl
    · rw [decide_eq_false c1]; rfl
  · unfold cz_s at h; split at h
    · exact h
    · cases h
theorem sCOk_okQ : Sound Kx 16 (cz_s fun bu l => .bool (cacheP bu l)) := by
  refine (sCOk_okOf (φ := fun bu l => .ite (okEs l) (.ret (.bool (cacheP bu l)) []) .fail) (fun _ l => l.length + 1) fun bu l r h => ?_).of fun args objs r h => ?_
  · obtain ⟨h1, h2⟩ := ite_some h
    cases h2
    obtain ⟨g1, g2⟩ := okEs_mem h1
    unfold sCOk_run cacheP
    rw [sCOk_loop l g1 bu _ _ l 0 (l.length + 1) (At.start l) (by omega) g2]
    by_cases c1 : 0 ≤ bu
    · rw [decide_eq_true c1, decide_eq_false (show ¬ bu < 0 by omega)]
      by_cases c2 : bu ≤ 20000
      · rw [decide_eq_true c2, decide_eq_false (show ¬ 20000 < bu by omega)]
        by_cases c3 : l.length ≤ 30
        · rw [decide_eq_true c3, decide_eq_false (show ¬ (30 : Int) < (l.length : Int) by omega)]
          simp only [h1]
          cases l.all entP <;> rfl
        · rw [decide_eq_false c3, decide_eq_true (show (30 : Int) < (l.length : Int) by omega)]; rfl
      · rw [decide_eq_false c2, decide_eq_true (show 20000 < bu by omega)]; rfl
    · rw [decide_eq_false c1, decide_eq_true (show bu < 0 by omega)]; rfl
  · unfold cz_s at h; split at h
    · exact h
    · cases h
end
end Go.Proofs.YtmmjaomfonknnaaGreatDoor.Ev

namespace Go.Proofs.YtmmjaomfonknnaaGreatDoor.Ev
open Go Go.RowKit
set_option linter.unusedVariables false
set_option linter.unusedSimpArgs false
noncomputable section

/-! impl.CacheSize -/
def iCSize_O : Opt := { cons := [], keepNil := false, mutF := [], live := [], outs := [] }
def iCSize_C : Spec := (add (add noS 18 (cz_s fun bu l => .bool (cacheP bu l))) 47 (cz_s fun _ l => .int .i64 (totE l)))
theorem iCSize_C_ok : ∀ fn, Sound Kx fn (iCSize_C fn) := (sound_add (sound_add (sound_no Kx) iCOk_okQ) iCSz_okQ)
def iCSize_br (bu : Int) (l : List En) : Br := (Br.ite (okEs l) (Br.ite (!(cacheP bu l)) (Br.ret (AV.int .i64 (-(1 : Int))) ([] : (List (Ob)))) (Br.ite (okEs l) (Br.ret (AV.int .i64 (totE l)) ([] : (List (Ob)))) Br.fail)) Br.fail)
theorem iCSize_run (bu : Int) (l : List En) : runF Kx iCSize_C iCSize_O 1 Tryz.f21 ([.agg [.int .i64 bu, .sh (.pair .str (.pair (.int .i64) (.pair (.int .i64) (.pair (.slice (.pair .str .str)) (.pair .str (.pair .str (.pair (.int .i64) (.pair .str (.pair .bool (.pair (.slice (.pair .str .str)) .str)))))))))) l]]) ([]) = (iCSize_br bu l).val := by kernel_rfl
def iCSize_s : List AV → List Ob → Br
  | [.agg [.int .i64 bu, .sh (.pair .str (.pair (.int .i64) (.pair (.int .i64) (.pair (.slice (.pair .str .str)) (.pair .str (.pair .str (.pair (.int .i64) (.pair .str (.pair .bool (.pair (.slice (.pair .str .str)) .str)))))))))) l]], [] => iCSize_br bu l
  | _, _ => .fail
theorem iCSize_ok : Sound Kx 21 iCSize_s := by
  refine sound_run (C := iCSize_C) (O := iCSize_O) KOk iCSize_C_ok Tryz.func21 (by kernel_rfl) fun args objs res os h => ?_
  unfold iCSize_s at h
  split at h
  · exact ⟨1, (iCSize_run _ _).trans h⟩
  · cases h

/-! spec.CacheSize -/
def sCSize_O : Opt := { cons := [], keepNil := false, mutF := [], live := [], outs := [] }
def sCSize_C : Spec := (add (add noS 16 (cz_s fun bu l => .bool (cacheP bu l))) 44 (el_s fun l => .int .i64 (totE l)))
theorem sCSize_C_ok : ∀ fn, Sound Kx fn (sCSize_C fn) := (sound_add (sound_add (sound_no Kx) sCOk_okQ) sCSz_okQ)
def sCSize_br (bu : Int) (l : List En) : Br := (Br.ite (okEs l) (Br.ite (!(cacheP bu l)) (Br.ret (AV.int .i64 (-(1 : Int))) ([] : (List (Ob)))) (Br.ite (okEs l) (Br.ret (AV.int .i64 (totE l)) ([] : (List (Ob)))) Br.fail)) Br.fail)
theorem sCSize_run (bu : Int) (l : List En) : runF Kx sCSize_C sCSize_O 1 Tryz.f20 ([.agg [.int .i64 bu, .sh (.pair .str (.pair (.int .i64) (.pair (.int .i64) (.pair (.slice (.pair .str .str)) (.pair .str (.pair .str (.pair (.int .i64) (.pair .str (.pair .bool (.pair (.slice (.pair .str .str)) .str)))))))))) l]]) ([]) = (sCSize_br bu l).val := by kernel_rfl
def sCSize_s : List AV → List Ob → Br
  | [.agg [.int .i64 bu, .sh (.pair .str (.pair (.int .i64) (.pair (.int .i64) (.pair (.slice (.pair .str .str)) (.pair .str (.pair .str (.pair (.int .i64) (.pair .str (.pair .bool (.pair (.slice (.pair .str .str)) .str)))))))))) l]], [] => sCSize_br bu l
  | _, _ => .fail
theorem sCSize_ok : Sound Kx 20 sCSize_s := by
  refine sound_run (C := sCSize_C) (O := sCSize_O) KOk sCSize_C_ok Tryz.func20 (by kernel_rfl) fun args objs res os h => ?_
  unfold sCSize_s at h
  split at h
  · exact ⟨1, (sCSize_run _ _).trans h⟩
  · cases h

end
end Go.Proofs.YtmmjaomfonknnaaGreatDoor.Ev

namespace Go.Proofs.YtmmjaomfonknnaaGreatDoor.Ev
open Go Go.RowKit
set_option linter.unusedVariables false
set_option linter.unusedSimpArgs false
noncomputable section
def cszP (bu : Int) (l : List En) : Int := bif cacheP bu l then totE l else -1
theorem iCSize_okQ : Sound Kx 21 (cz_s fun bu l => .int .i64 (cszP bu l)) := iCSize_ok.of fun args objs r h => by
  unfold cz_s at h; split at h
  · rename_i bu l
    obtain ⟨h1, h2⟩ := ite_some h
    cases h2
    show (iCSize_br bu l).val = some (.int .i64 (cszP bu l), [])
    unfold iCSize_br cszP
    cases c : cacheP bu l <;> simp only [Br.val, h1, cond_true, cond_false, Bool.not_true, Bool.not_false] <;> rfl
  · cases h
theorem sCSize_okQ : Sound Kx 20 (cz_s fun bu l => .int .i64 (cszP bu l)) := sCSize_ok.of fun args objs r h => by
  unfold cz_s at h; split at h
  · rename_i bu l
    obtain ⟨h1, h2⟩ := ite_some h
    cases h2
    show (sCSize_br bu l).val = some (.int .i64 (cszP bu l), [])
    unfold sCSize_br cszP
    cases c : cacheP bu l <;> simp only [Br.val, h1, cond_true, cond_false, Bool.not_true, Bool.not_false] <;> rfl
  · cases h
end
end Go.Proofs.YtmmjaomfonknnaaGreatDoor.Ev

namespace Go.Proofs.YtmmjaomfonknnaaGreatDoor.Ev
open Go Go.RowKit
set_option linter.unusedVariables false
set_option linter.unusedSimpArgs false
noncomputable section

/-! laws.FnExactCacheOk -/
/-! laws.FnExactCacheSize -/
def lCacheSize_O : Opt := { cons := [], keepNil := false, mutF := [], live := [], outs := [] }
def lCacheSize_C : Spec := (add (add (add (add (add noS 15 szCache_s) 17 toCache_s) 19 eqCache_s) 21 (cz_s fun bu l => .int .i64 (cszP bu l))) 20 (cz_s fun bu l => .int .i64 (cszP bu l)))
theorem lCacheSize_C_ok : ∀ fn, Sound Kx fn (lCacheSize_C fn) := (sound_add (sound_add (sound_add (sound_add (sound_add (sound_no Kx) szCache_ok) toCache_ok) eqCache_ok) iCSize_okQ) sCSize_okQ)
def lCacheSize_br (bu : Int) (l : List En) : Br := (Br.ite ((smEs l) && true) (Br.ite (decide ((szEs l (1048576 : Int)) < (0 : Int))) (Br.ret (AV.bool true) ([] : (List (Ob)))) (Br.ite (decide ((szEs l (1048576 : Int)) < (0 : Int))) (Br.ret (AV.bool true) ([] : (List (Ob)))) (Br.ite (shEs l) (Br.ite (okEs l) (Br.ite (shEs l) (Br.ite (okEs l) (Br.ite (!(decide ((cszP bu l) = (cszP bu l)))) (Br.ret (AV.bool false) ([] : (List (Ob)))) (Br.ite (shEs l) (Br.ite (!(decide (bu = bu))) (Br.ret (AV.bool false) ([] : (List (Ob)))) (Br.ite ((eqEsb l l) && (shEs l)) (Br.ret (AV.bool true) ([] : (List (Ob)))) Br.fail)) Br.fail)) Br.fail) Br.fail) Br.fail) Br.fail))) Br.fail)
theorem lCacheSize_run (bu : Int) (l : List En) : runF Kx lCacheSize_C lCacheSize_O 1 Tryz.f5 ([.agg [.int .i64 bu, .sh (.pair .str (.pair (.int .i64) (.pair (.int .i64) (.pair (.slice (.pair .str .str)) (.pair .str (.pair .str (.pair (.int .i64) (.pair .str (.pair .bool (.pair (.slice (.pair .str .str)) .str)))))))))) l]]) ([]) = (lCacheSize_br bu l).val := by kernel_rfl
def lCacheSize_s : List AV → List Ob → Br
  | [.agg [.int .i64 bu, .sh (.pair .str (.pair (.int .i64) (.pair (.int .i64) (.pair (.slice (.pair .str .str)) (.pair .str (.pair .str (.pair (.int .i64) (.pair .str (.pair .bool (.pair (.slice (.pair .str .str)) .str)))))))))) l]], [] => lCacheSize_br bu l
  | _, _ => .fail
theorem lCacheSize_ok : Sound Kx 5 lCacheSize_s := by
  refine sound_run (C := lCacheSize_C) (O := lCacheSize_O) KOk lCacheSize_C_ok Tryz.func5 (by kernel_rfl) fun args objs res os h => ?_
  unfold lCacheSize_s at h
  split at h
  · exact ⟨1, (lCacheSize_run _ _).trans h⟩
  · cases h

end
end Go.Proofs.YtmmjaomfonknnaaGreatDoor.Ev

namespace Go.Proofs.YtmmjaomfonknnaaGreatDoor.Ev
open Go Go.RowKit
set_option linter.unusedVariables false
set_option linter.unusedSimpArgs false
noncomputable section

/-! laws.FnExactEntrySize -/
end
end Go.Proofs.YtmmjaomfonknnaaGreatDoor.Ev

namespace Go.Proofs.YtmmjaomfonknnaaGreatDoor.Ev
open Go Go.RowKit
set_option linter.unusedVariables false
set_option linter.unusedSimpArgs false

/-- An entry as an argument. -/
abbrev tyMsgE : Ty := .pair .str (.pair .str (.pair (.int .i64) (.pair .str (.pair .bool (.pair (.slice (.pair .str .str)) .str)))))
abbrev tyEnt : Ty := .pair .str (.pair (.int .i64) (.pair (.int .i64) (.pair (.slice (.pair .str .str)) tyMsgE)))
theorem reach_E {s : Bytes} (h : s.length ≤ reachBytes) : isM s = true := isM_of h (by decide)
theorem good_smFE {fs : List Fd} (h : Good (.slice (.pair .str .str)) fs) : smF fs = true := by
  simp only [Good] at h
  unfold smF
  rw [decide_eq_true (Nat.le_trans h.1 (by decide)), Bool.true_and, List.all_eq_true]
  intro f hf
  obtain ⟨h1, h2⟩ := h.2 f hf
  unfold isMF
  rw [reach_E h1, reach_E h2]; rfl
theorem good_smME {me ta re bo : Bytes} {st : Int} {ba : Bool} {fs : List Fd} (h : Good tyMsgE (me, ta, st, re, ba, fs, bo)) : smM me ta re fs bo = true := by
  simp only [tyMsgE, Good] at h
  obtain ⟨h1, h2, _, h4, _, h6, h7⟩ := h
  unfold smM
  rw [reach_E h1, reach_E h2, reach_E h4, reach_E h7, good_smFE (by simp only [Good]; exact h6)]; rfl
theorem good_smE {e : En} (h : Good tyEnt e) : smE e = true := by
  obtain ⟨ur, t1, t2, ak, me, ta, st, re, ba, fs, bo⟩ := e
  obtain ⟨h1, _, _, h4, h5⟩ := h
  unfold smE
  rw [reach_E h1, good_smFE h4, good_smME h5]; rfl
end Go.Proofs.YtmmjaomfonknnaaGreatDoor.Ev

namespace Go.Proofs.YtmmjaomfonknnaaGreatDoor.Ev
open Go Go.RowKit
set_option linter.unusedVariables false
set_option linter.unusedSimpArgs false

/-- A cache as an argument. -/
abbrev tyCache : Ty := .pair (.int .i64) (.slice tyEnt)
theorem good_smEs {l : List En} (h : Good (.slice tyEnt) l) : smEs l = true := by
  obtain ⟨h1, h2⟩ := h
  unfold smEs
  rw [decide_eq_true (Nat.le_trans h1 (by decide)), Bool.true_and, List.all_eq_true]
  exact fun e he => good_smE (h2 e he)
theorem totW_mem : ∀ (l : List En) (e : En), e ∈ l → enW e ≤ totW l
  | [], e, h => by cases h
  | a :: r, e, h => by
    have h1 := enW_nn a
    have h2 := totW_nn r
    rcases List.mem_cons.1 h with rfl | h
    · simp only [totW]; omega
    · have := totW_mem r e h
      simp only [totW]; omega
theorem enW_parts (e : En) : (e.1.length : Int) ≤ enW e ∧ (e.2.2.2.1.length : Int) ≤ enW e ∧ (e.2.2.2.2.2.2.2.2.2.1.length : Int) ≤ enW e := by
  have h1 := totF_nn e.2.2.2.1
  have h2 := totF_nn e.2.2.2.2.2.2.2.2.2.1
  unfold enW msgW
  omega
theorem szEs_small {l : List En} (h : ¬ szEs l 1048576 < 0) : shEs l = true ∧ okEs l = true := by
  unfold szEs at h
  cases hc : decide ((l.length : Int) + totW l ≤ 1048576)
  · rw [hc, cond_false] at h; omega
  · have hc := of_decide_eq_true hc
    have ht := totW_nn l
    have hl : l.length ≤ 1048576 := by omega
    have hw : ∀ e ∈ l, enW e ≤ 1048576 := fun e he => by have := totW_mem l e he; omega
    constructor
    · unfold shEs
      rw [decide_eq_true hl, Bool.true_and, List.all_eq_true]
      intro e he
      obtain ⟨_, h2, h3⟩ := enW_parts e
      have h0 := hw e he
      unfold shE
      rw [decide_eq_true (by omega), decide_eq_true (by omega)]; rfl
    · unfold okEs
      rw [decide_eq_true hl, Bool.true_and, List.all_eq_true]
      intro e he
      obtain ⟨h1, _, _⟩ := enW_parts e
      have h0 := hw e he
      exact decide_eq_true (by omega)
theorem lCacheSize_val (bu : Int) (l : List En) (h : smEs l = true) : (lCacheSize_br bu l).val = some (.bool true, []) := by
  unfold lCacheSize_br
  refine (val_t (by rw [h]; rfl)).trans ?_
  by_cases c : szEs l 1048576 < 0
  · exact val_t (decide_eq_true c)
  obtain ⟨h1, h2⟩ := szEs_small c
  refine (val_f (decide_eq_false c)).trans ?_
  simp only [Br.val, decide_eq_false c, h1, h2, eqEsb_self, decide_true, Bool.not_true, Bool.and_self, cond_true, cond_false]
theorem fnExactCacheSize_true (xs : List AV) (h : Args [(tyCache, true)] xs) : (lCacheSize_s xs []).val = some (.bool true, []) := by
  obtain ⟨⟨bu, l⟩, a', g, rfl, rfl⟩ := h
  exact lCacheSize_val bu l (good_smEs g.2)
end Go.Proofs.YtmmjaomfonknnaaGreatDoor.Ev
