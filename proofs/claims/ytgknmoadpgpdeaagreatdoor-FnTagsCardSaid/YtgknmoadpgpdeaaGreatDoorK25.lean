/- The texts Tc, Td, one behind the other. -/
import Derived.Test.YtgknmoadpgpdeaaGreatDoorK20
import Derived.Test.YtgknmoadpgpdeaaGreatDoorK24
namespace Go.Proofs.YtgknmoadpgpdeaaGreatDoor.Ev
open Go Go.RowKit
set_option linter.unusedVariables false
set_option linter.unusedSimpArgs false
noncomputable section

theorem has_app (a b : Bytes) (x : Int) : hasB (a ++ b) x = (hasB a x || hasB b x) := by unfold hasB; rw [List.any_append]
theorem has_cons (c : UInt8) (b : Bytes) (x : Int) : hasB (c :: b) x = (decide (by8 c = x) || hasB b x) := rfl
theorem has_nil (x : Int) : hasB [] x = false := rfl
theorem dig_has {x : Int} (hx : isDig x = false) : ∀ l : Bytes, allP isDig l = true → hasB l x = false
  | [], _ => rfl
  | c :: l, h => by
    have e : allP isDig (c :: l) = (isDig (by8 c) && allP isDig l) := rfl
    rw [e, Bool.and_eq_true] at h
    rw [has_cons, dig_has hx l h.2, Bool.or_false]
    exact decide_eq_false fun g => by rw [g, hx] at h; exact absurd h.1 (by decide)
theorem pad_dig : ∀ (k : Nat) (n : Int), allP isDig (padP k n) = true
  | 0, _ => rfl
  | k + 1, n => by
    unfold padP
    rw [allP_app, pad_dig k]
    show (true && (isDig (by8 (dg n)) && true)) = true
    rw [dg_dig]; rfl
theorem pad_has (k : Nat) (n : Int) {x : Int} (hx : isDig x = false) : hasB (padP k n) x = false := dig_has hx _ (pad_dig k n)
theorem clock_has (c : Cv) {x : Int} (hx : isDig x = false) (h : x ≠ 58) : hasB (clockP c) x = false := by
  unfold clockP
  have e : decide (by8 58 = x) = false := decide_eq_false fun g => h (by rw [← g]; rfl)
  rw [has_app, has_cons, has_app, has_cons, pad_has 2 _ hx, pad_has 2 _ hx, pad_has 2 _ hx, e]; rfl
theorem day_has (w : Int) {x : Int} (hx : x < 65) : hasB (dayN w) x = false ∧ hasB ((dayN w).take 3) x = false := by
  have key : ∀ l : Bytes, allP (fun n => decide (65 ≤ n)) l = true → hasB l x = false := by
    intro l
    induction l with
    | nil => intro _; rfl
    | cons c l ih =>
      intro h
      have e : allP (fun n => decide (65 ≤ n)) (c :: l) = (decide (65 ≤ by8 c) && allP (fun n => decide (65 ≤ n)) l) := rfl
      rw [e, Bool.and_eq_true, decide_eq_true_eq] at h
      rw [has_cons, ih h.2, Bool.or_false]
      exact decide_eq_false (by omega)
  refine ⟨key _ ?_, key _ ?_⟩ <;> unfold dayN <;> cases decide (w = 0) <;> cases decide (w = 1) <;> cases decide (w = 2) <;> cases decide (w = 3) <;> cases decide (w = 4) <;> cases decide (w = 5) <;> decide
theorem mon_has {m x : Int} (h0 : 1 ≤ m) (h1 : m ≤ 12) (hx : x < 65) : hasB (monN m) x = false := by
  obtain ⟨a, b, c, e, ha, ha', hb, hc⟩ := mon_parts h0 h1
  rw [e, has_cons, has_cons, has_cons, decide_eq_false (by omega), decide_eq_false (by omega), decide_eq_false (by omega)]; rfl
theorem upto_at {l : Bytes} {b : UInt8} (h : hasB l (by8 b) = false) (r : Bytes) : uptoP (l ++ b :: r) (by8 b) = l := by
  induction l with
  | nil => unfold uptoP; simp
  | cons c l ih =>
    rw [has_cons, Bool.or_eq_false_iff] at h
    have := ih h.2
    unfold uptoP at this ⊢
    rw [List.cons_append, List.takeWhile_cons, h.1]
    simp [this]
theorem day3_len (w : Int) : ((dayN w).take 3).length = 3 := by
  unfold dayN
  cases decide (w = 0) <;> cases decide (w = 1) <;> cases decide (w = 2) <;> cases decide (w = 3) <;> cases decide (w = 4) <;> cases decide (w = 5) <;> rfl
theorem day_len (w : Int) : 6 ≤ (dayN w).length ∧ (dayN w).length ≤ 9 := by
  unfold dayN
  cases decide (w = 0) <;> cases decide (w = 1) <;> cases decide (w = 2) <;> cases decide (w = 3) <;> cases decide (w = 4) <;> cases decide (w = 5) <;> decide
theorem mon_len {m : Int} (h0 : 1 ≤ m) (h1 : m ≤ 12) : (monN m).length = 3 := by
  obtain ⟨a, b, c, e, _⟩ := mon_parts h0 h1
  rw [e]; rfl
theorem clock_len (c : Cv) : (clockP c).length = 8 := by
  unfold clockP
  simp only [List.length_append, List.length_cons, padP_len]
theorem dayL_len (d : Int) : (dayL d).length = 2 := by
  unfold dayL
  cases decide (d < 10)
  · exact padP_len 2 d
  · rfl
theorem http_len (w : Int) {c : Cv} (h0 : 1 ≤ c.m) (h1 : c.m ≤ 12) : (httpC w c).length = 29 := by
  unfold httpC
  simp only [List.length_append, List.length_cons, List.length_nil, padP_len, day3_len, mon_len h0 h1, clock_len, gmtB]
theorem line_len (w : Int) {c : Cv} (h0 : 1 ≤ c.m) (h1 : c.m ≤ 12) : (lineC w c).length = 24 := by
  unfold lineC
  simp only [List.length_append, List.length_cons, List.length_nil, padP_len, day3_len, mon_len h0 h1, clock_len, dayL_len]
theorem long_len (w : Int) {c : Cv} (h0 : 1 ≤ c.m) (h1 : c.m ≤ 12) : (longC w c).length = (dayN w).length + 24 := by
  unfold longC
  simp only [List.length_append, List.length_cons, List.length_nil, padP_len, mon_len h0 h1, clock_len, gmtB]
theorem pad_mod (n : Int) : padP 2 n = padP 2 (n % 100) := by
  have e1 : dg (n / 10) = dg (n % 100 / 10) := by unfold dg; rw [show n / 10 % 10 = n % 100 / 10 % 10 by omega]
  have e2 : dg n = dg (n % 100) := by unfold dg; rw [show n % 10 = n % 100 % 10 by omega]
  show [dg (n / 10), dg n] = [dg (n % 100 / 10), dg (n % 100)]
  rw [e1, e2]

def cen (y : Int) : Int := bif decide (y + 1900 < 1970) then y + 1900 + 100 else y + 1900
def finI (s : Bytes) (c : Cv) : Int × Bool := bif (secP c).2 && (decide (httpP (secP c).1 = s) || decide (longP (secP c).1 = s) || decide (lineD (secP c).1 = s)) then ((secP c).1, true) else (0, false)
def cvI (s : Bytes) : Cv :=
  bif hasB s 44 then ⟨bif hasB s 45 then cen ((numsP s).getD 1 0) else (numsP s).getD 1 0, monI (s.drop (uptoP s 44).length), (numsP s).getD 0 0, (numsP s).getD 2 0, (numsP s).getD 3 0, (numsP s).getD 4 0⟩
  else ⟨(numsP s).getD 4 0, monI (s.drop 3), (numsP s).getD 0 0, (numsP s).getD 1 0, (numsP s).getD 2 0, (numsP s).getD 3 0⟩
def rdI (s : Bytes) : Int × Bool := bif decide (6 ≤ s.length) && decide (s.length ≤ 40) && decide ((numsP s).length = 5) then finI s (cvI s) else (0, false)

theorem civ_parts {c : Cv} (h : civOk c = true) : (1970 ≤ c.y ∧ c.y ≤ 9999) ∧ (1 ≤ c.m ∧ c.m ≤ 12) ∧ (1 ≤ c.d ∧ c.d ≤ 31) ∧ (0 ≤ c.h ∧ c.h ≤ 23) ∧ (0 ≤ c.i ∧ c.i ≤ 59) ∧ (0 ≤ c.s ∧ c.s ≤ 59) := by
  unfold civOk at h
  simp only [Bool.and_eq_true, decide_eq_true_eq] at h
  have := mLen_bd c.y c.m
  omega
theorem nums_http (w : Int) {c : Cv} (h : civOk c = true) : numsP (httpC w c) = [c.d, c.y, c.h, c.i, c.s] := by
  obtain ⟨hy, hm, hd, _⟩ := civ_parts h
  unfold numsP httpC
  simp only [List.append_assoc]
  rw [numG_lits _ _ (day3_lits w), numG_lits [44, 32] _ (by decide), numG_two _ (by omega) (by omega), List.cons_append, numG_end (by decide), numG_skip (by decide), numG_lits _ _ (mon_lits hm.1 hm.2),
    List.cons_append, numG_skip (by decide), numG_four _ (by omega) (by omega), List.cons_append, numG_end (by decide), numG_skip (by decide), clock_nums c h]
  rfl
theorem nums_long (w : Int) {c : Cv} (h : civOk c = true) : numsP (longC w c) = [c.d, c.y % 100, c.h, c.i, c.s] := by
  obtain ⟨hy, hm, hd, _⟩ := civ_parts h
  unfold numsP longC
  simp only [List.append_assoc]
  rw [pad_mod c.y, numG_lits _ _ (day_lits w), numG_lits [44, 32] _ (by decide), numG_two _ (by omega) (by omega), List.cons_append, numG_end (by decide), numG_skip (by decide), numG_lits _ _ (mon_lits hm.1 hm.2),
    List.cons_append, numG_skip (by decide), numG_two _ (by omega) (by omega), List.cons_append, numG_end (by decide), numG_skip (by decide), clock_nums c h]
  rfl
theorem nums_line (w : Int) {c : Cv} (h : civOk c = true) : numsP (lineC w c) = [c.d, c.h, c.i, c.s, c.y] := by
  obtain ⟨hy, hm, hd, _⟩ := civ_parts h
  unfold numsP lineC
  simp only [List.append_assoc]
  have hL : ∀ r, numG none (dayL c.d ++ 32 :: r) = c.d :: numG none r := fun r => by
    unfold dayL
    cases g : decide (c.d < 10)
    · rw [cond_false, numG_two _ (by omega) (by omega), numG_end (by decide), numG_skip (by decide)]
    · have := of_decide_eq_true g
      show numG none (32 :: dg c.d :: 32 :: r) = _
      rw [numG_skip (by decide), numG_one _ (by omega) (by omega), numG_end (by decide), numG_skip (by decide)]
  rw [numG_lits _ _ (day3_lits w), List.cons_append, numG_skip (by decide), numG_lits _ _ (mon_lits hm.1 hm.2), List.cons_append, numG_skip (by decide), List.cons_append, hL, clock_nums c h, numG_end (by decide), numG_skip (by decide)]
  have := numG_four c.y (by omega) (by omega) []
  rw [List.append_nil] at this
  rw [this]; rfl
theorem noMon_tail (c : Cv) (l : Bytes) (hl : allP (fun n => decide (n < 65)) l = true) : noMon (l ++ (clockP c ++ gmtB)) := noMon_low hl (noMon_low (clock_low c) noMon_gmt)
theorem cvI_http (w : Int) {c : Cv} (h : civOk c = true) : cvI (httpC w c) = c := by
  obtain ⟨hy, hm, hd, _⟩ := civ_parts h
  have hs : httpC w c = (dayN w).take 3 ++ 44 :: ((32 :: padP 2 c.d ++ [32]) ++ (monN c.m ++ ((32 :: padP 4 c.y ++ [32]) ++ (clockP c ++ gmtB)))) := by unfold httpC; simp
  have h44 : hasB (httpC w c) 44 = true := by rw [hs, has_app, has_cons, show decide (by8 44 = 44) = true from rfl]; simp
  have h45 : hasB (httpC w c) 45 = false := by
    unfold httpC
    simp only [has_app, has_cons, has_nil, (day_has w (show (45 : Int) < 65 by decide)).2, pad_has _ _ (show isDig 45 = false by decide), mon_has hm.1 hm.2 (show (45 : Int) < 65 by decide), clock_has c (show isDig 45 = false by decide) (by decide), gmtB]
    decide
  have hu : uptoP (httpC w c) 44 = (dayN w).take 3 := by rw [hs]; exact upto_at (b := 44) (day_has w (by decide)).2 _
  have hmo : monI ((httpC w c).drop (uptoP (httpC w c) 44).length) = c.m := by
    rw [hu]
    conv => lhs; rw [hs]
    rw [List.drop_left]
    refine monI_at (l := 44 :: (32 :: padP 2 c.d ++ [32])) hm.1 hm.2 ?_ (noMon_tail c _ ?_)
    · show (true && (true && allP (fun n => decide (n < 65)) (padP 2 c.d ++ [32]))) = true
      rw [allP_app, pad_low]; rfl
    · show (true && allP (fun n => decide (n < 65)) (padP 4 c.y ++ [32])) = true
      rw [allP_app, pad_low]; rfl
  unfold cvI
  rw [h44, h45, hmo, nums_http w h]
  rfl
theorem cvI_long (w : Int) {c : Cv} (h : civOk c = true) (h69 : c.y ≤ 2069) : cvI (longC w c) = c := by
  obtain ⟨hy, hm, hd, _⟩ := civ_parts h
  have hs : longC w c = dayN w ++ 44 :: ((32 :: padP 2 c.d ++ [45]) ++ (monN c.m ++ ((45 :: padP 2 c.y ++ [32]) ++ (clockP c ++ gmtB)))) := by unfold longC; simp
  have h44 : hasB (longC w c) 44 = true := by rw [hs, has_app, has_cons, show decide (by8 44 = 44) = true from rfl]; simp
  have h45 : hasB (longC w c) 45 = true := by
    rw [hs, has_app, has_cons, has_app, has_app, has_cons, show hasB [45] 45 = true from rfl]; simp
  have hu : uptoP (longC w c) 44 = dayN w := by rw [hs]; exact upto_at (b := 44) (day_has w (by decide)).1 _
  have hmo : monI ((longC w c).drop (uptoP (longC w c) 44).length) = c.m := by
    rw [hu]
    conv => lhs; rw [hs]
    rw [List.drop_left]
    refine monI_at (l := 44 :: (32 :: padP 2 c.d ++ [45])) hm.1 hm.2 ?_ (noMon_tail c _ ?_)
    · show (true && (true && allP (fun n => decide (n < 65)) (padP 2 c.d ++ [45]))) = true
      rw [allP_app, pad_low]; rfl
    · show (true && allP (fun n => decide (n < 65)) (padP 2 c.y ++ [32])) = true
      rw [allP_app, pad_low]; rfl
  have hc : cen (c.y % 100) = c.y := by
    unfold cen
    cases g : decide (c.y % 100 + 1900 < 1970)
    · have := of_decide_eq_false g; rw [cond_false]; omega
    · have := of_decide_eq_true g; rw [cond_true]; omega
  unfold cvI
  rw [h44, h45, hmo, nums_long w h]
  show Cv.mk (cen (c.y % 100)) c.m c.d c.h c.i c.s = c
  rw [hc]
theorem cvI_line (w : Int) {c : Cv} (h : civOk c = true) : cvI (lineC w c) = c := by
  obtain ⟨hy, hm, hd, _⟩ := civ_parts h
  have hs : lineC w c = (dayN w).take 3 ++ ([32] ++ (monN c.m ++ ((32 :: dayL c.d ++ 32 :: clockP c ++ 32 :: padP 4 c.y) ++ []))) := by unfold lineC; simp
  have hdl : ∀ x : Int, x < 65 → isDig x = false → x ≠ 32 → hasB (dayL c.d) x = false := fun x hx hx2 hx3 => by
    unfold dayL
    cases decide (c.d < 10)
    · exact pad_has 2 _ hx2
    · rw [cond_true, has_cons, dig_has hx2 [dg c.d] (by show (isDig (by8 (dg c.d)) && true) = true; rw [dg_dig]; rfl), Bool.or_false]
      exact decide_eq_false fun g => hx3 (by rw [← g]; rfl)
  have h44 : hasB (lineC w c) 44 = false := by
    unfold lineC
    simp only [has_app, has_cons, has_nil, (day_has w (show (44 : Int) < 65 by decide)).2, pad_has _ _ (show isDig 44 = false by decide), mon_has hm.1 hm.2 (show (44 : Int) < 65 by decide), clock_has c (show isDig 44 = false by decide) (by decide), hdl 44 (by decide) (by decide) (by decide)]
    decide
  have hdlow : allP (fun n => decide (n < 65)) (dayL c.d) = true := by
    unfold dayL
    cases decide (c.d < 10)
    · exact pad_low 2 _
    · show (true && (decide (by8 (dg c.d) < 65) && true)) = true
      rw [by8_dg, decide_eq_true (by omega)]; rfl
  have hmo : monI ((lineC w c).drop 3) = c.m := by
    rw [hs, List.drop_left' (day3_len w)]
    refine monI_at (l := [32]) hm.1 hm.2 (by decide) (noMon_low ?_ noMon_nil)
    show (true && allP (fun n => decide (n < 65)) (dayL c.d ++ 32 :: clockP c ++ 32 :: padP 4 c.y)) = true
    rw [allP_app, allP_app, hdlow]
    show (true && (true && (true && allP (fun n => decide (n < 65)) (clockP c)) && (true && allP (fun n => decide (n < 65)) (padP 4 c.y)))) = true
    rw [clock_low, pad_low]; rfl
  unfold cvI
  rw [h44, hmo, nums_line w h]
  rfl
theorem finI_ok {s : Bytes} {t : Int} (hf : formP s t) : finI s (civP t) = (t, true) := by
  obtain ⟨ht, h0, h⟩ := hf
  obtain ⟨g1, g2⟩ := civ_ok ht
  unfold finI secP
  rw [g1, cond_true, g2]
  have : (decide (httpP t = s) || decide (longP t = s) || decide (lineD t = s)) = true := by
    rcases h with h | h | h
    · rw [decide_eq_true h]; rfl
    · rw [decide_eq_true h]; simp
    · rw [decide_eq_true h]; simp
  rw [this]; rfl
theorem rdI_form (s : Bytes) (t : Int) (hf : formP s t) : rdI s = (t, true) := by
  have hfin := finI_ok hf
  obtain ⟨ht, h0, h⟩ := hf
  obtain ⟨g1, g2⟩ := civ_ok ht
  obtain ⟨hy, hm, hd, _⟩ := civ_parts g1
  unfold rdI
  rcases h with h | h | h
  · unfold httpP at h; rw [ht, cond_true] at h
    subst h
    rw [http_len _ hm.1 hm.2, nums_http _ g1, cvI_http _ g1, hfin]; rfl
  · unfold longP at h
    cases c : decide ((civP t).y ≤ 2069)
    · rw [c, Bool.and_false, cond_false] at h; exact absurd h.symm h0
    · rw [ht, c] at h
      subst h
      have := day_len (wdP t)
      simp only [Bool.and_self, cond_true] at hfin ⊢
      rw [long_len _ hm.1 hm.2, nums_long _ g1, cvI_long _ g1 (of_decide_eq_true c), hfin, decide_eq_true (show 6 ≤ (dayN (wdP t)).length + 24 by omega), decide_eq_true (show (dayN (wdP t)).length + 24 ≤ 40 by omega)]; rfl
  · unfold lineD at h; rw [ht, cond_true] at h
    subst h
    rw [line_len _ hm.1 hm.2, nums_line _ g1, cvI_line _ g1, hfin]; rfl
theorem rdI_none (s : Bytes) (h : ∀ t, ¬ formP s t) : rdI s = (0, false) := by
  unfold rdI
  cases c : decide (6 ≤ s.length) && decide (s.length ≤ 40) && decide ((numsP s).length = 5)
  · rfl
  simp only [Bool.and_eq_true, decide_eq_true_eq] at c
  rw [cond_true]
  unfold finI
  cases d : (secP (cvI s)).2 && (decide (httpP (secP (cvI s)).1 = s) || decide (longP (secP (cvI s)).1 = s) || decide (lineD (secP (cvI s)).1 = s))
  · rfl
  simp only [Bool.and_eq_true, Bool.or_eq_true, decide_eq_true_eq] at d
  obtain ⟨d1, d2⟩ := d
  unfold secP at d1 d2
  cases e : civOk (cvI s)
  · rw [e] at d1; cases d1
  · rw [e, cond_true] at d2
    refine absurd ⟨(sec_ok e).1, ?_, ?_⟩ (h (secB (cvI s)))
    · intro hs; rw [hs] at c; exact absurd c.1.1 (by decide)
    · rcases d2 with (d2 | d2) | d2
      · exact .inl d2
      · exact .inr (.inl d2)
      · exact .inr (.inr d2)
theorem rdI_eq (s : Bytes) : rdI s = dateR s := dateR_of rdI_form rdI_none s

end
end Go.Proofs.YtgknmoadpgpdeaaGreatDoor.Ev
