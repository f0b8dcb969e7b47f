/- The texts Tc, Td, Ya, Yb, Yc, Yd, Ye, Yf, Yg, ContS, Yh, Yi, Yj, Yk, Yl, Ym, Yn, Yo, Za, Zb, Zc, Zd, Ze, Zf, Zg, Zh, Zi, Zj, Zk, Zl, Zm, Zn, Zo, Zp, Zq, Zr, one behind the other. -/
import Derived.Test.YtdknaddanjpdaaaGreatDoorK19
import Derived.Test.YtdknaddanjpdaaaGreatDoorK23
import Derived.Test.YtdknaddanjpdaaaGreatDoorK12
namespace Go.Proofs.YtdknaddanjpdaaaGreatDoor.Ev
open Go Go.RowKit
set_option linter.unusedVariables false
set_option linter.unusedSimpArgs false
noncomputable section

theorem has_app (a b : Bytes) (x : Int) : hasB (a ++ b) x = (hasB a x || hasB b x) := by unfold hasB; rw [List.any_append]
theorem has_cons (c : UInt8) (b : Bytes) (x : Int) : hasB (c :: b) x = (decide (by8 c = x) || hasB b x) := rfl
theorem has_nil (x : Int) : hasB [] x = false := rfl
theorem dig_has {x : Int} (hx : isDig x = false) : ∀ l : Bytes, allP isDig l = true → hasB l x = false
  | [], _ => rfl
  | c :: l, h => by
    have e : allP isDig (c :: l) = (isDig (by8 c) && allP isDig l) := rfl
    rw [e, Bool.and_eq_true] at h
    rw [has_cons, dig_has hx l h.2, Bool.or_false]
    exact decide_eq_false fun g => by rw [g, hx] at h; exact absurd h.1 (by decide)
theorem pad_dig : ∀ (k : Nat) (n : Int), allP isDig (padP k n) = true
  | 0, _ => rfl
  | k + 1, n => by
    unfold padP
    rw [allP_app, pad_dig k]
    show (true && (isDig (by8 (dg n)) && true)) = true
    rw [dg_dig]; rfl
theorem pad_has (k : Nat) (n : Int) {x : Int} (hx : isDig x = false) : hasB (padP k n) x = false := dig_has hx _ (pad_dig k n)
theorem clock_has (c : Cv) {x : Int} (hx : isDig x = false) (h : x ≠ 58) : hasB (clockP c) x = false := by
  unfold clockP
  have e : decide (by8 58 = x) = false := decide_eq_false fun g => h (by rw [← g]; rfl)
  rw [has_app, has_cons, has_app, has_cons, pad_has 2 _ hx, pad_has 2 _ hx, pad_has 2 _ hx, e]; rfl
theorem day_has (w : Int) {x : Int} (hx : x < 65) : hasB (dayN w) x = false ∧ hasB ((dayN w).take 3) x = false := by
  have key : ∀ l : Bytes, allP (fun n => decide (65 ≤ n)) l = true → hasB l x = false := by
    intro l
    induction l with
    | nil => intro _; rfl
    | cons c l ih =>
      intro h
      have e : allP (fun n => decide (65 ≤ n)) (c :: l) = (decide (65 ≤ by8 c) && allP (fun n => decide (65 ≤ n)) l) := rfl
      rw [e, Bool.and_eq_true, decide_eq_true_eq] at h
      rw [has_cons, ih h.2, Bool.or_false]
      exact decide_eq_false (by omega)
  refine ⟨key _ ?_, key _ ?_⟩ <;> unfold dayN <;> cases decide (w = 0) <;> cases decide (w = 1) <;> cases decide (w = 2) <;> cases decide (w = 3) <;> cases decide (w = 4) <;> cases decide (w = 5) <;> decide
theorem mon_has {m x : Int} (h0 : 1 ≤ m) (h1 : m ≤ 12) (hx : x < 65) : hasB (monN m) x = false := by
  obtain ⟨a, b, c, e, ha, ha', hb, hc⟩ := mon_parts h0 h1
  rw [e, has_cons, has_cons, has_cons, decide_eq_false (by omega), decide_eq_false (by omega), decide_eq_false (by omega)]; rfl
theorem upto_at {l : Bytes} {b : UInt8} (h : hasB l (by8 b) = false) (r : Bytes) : uptoP (l ++ b :: r) (by8 b) = l := by
  induction l with
  | nil => unfold uptoP; simp
  | cons c l ih =>
    rw [has_cons, Bool.or_eq_false_iff] at h
    have := ih h.2
    unfold uptoP at this ⊢
    rw [List.cons_append, List.takeWhile_cons, h.1]
    simp [this]
theorem day3_len (w : Int) : ((dayN w).take 3).length = 3 := by
  unfold dayN
  cases decide (w = 0) <;> cases decide (w = 1) <;> cases decide (w = 2) <;> cases decide (w = 3) <;> cases decide (w = 4) <;> cases decide (w = 5) <;> rfl
theorem day_len (w : Int) : 6 ≤ (dayN w).length ∧ (dayN w).length ≤ 9 := by
  unfold dayN
  cases decide (w = 0) <;> cases decide (w = 1) <;> cases decide (w = 2) <;> cases decide (w = 3) <;> cases decide (w = 4) <;> cases decide (w = 5) <;> decide
theorem mon_len {m : Int} (h0 : 1 ≤ m) (h1 : m ≤ 12) : (monN m).length = 3 := by
  obtain ⟨a, b, c, e, _⟩ := mon_parts h0 h1
  rw [e]; rfl
theorem clock_len (c : Cv) : (clockP c).length = 8 := by
  unfold clockP
  simp only [List.length_append, List.length_cons, padP_len]
theorem dayL_len (d : Int) : (dayL d).length = 2 := by
  unfold dayL
  cases decide (d < 10)
  · exact padP_len 2 d
  · rfl
theorem http_len (w : Int) {c : Cv} (h0 : 1 ≤ c.m) (h1 : c.m ≤ 12) : (httpC w c).length = 29 := by
  unfold httpC
  simp only [List.length_append, List.length_cons, List.length_nil, padP_len, day3_len, mon_len h0 h1, clock_len, gmtB]
theorem line_len (w : Int) {c : Cv} (h0 : 1 ≤ c.m) (h1 : c.m ≤ 12) : (lineC w c).length = 24 := by
  unfold lineC
  simp only [List.length_append, List.length_cons, List.length_nil, padP_len, day3_len, mon_len h0 h1, clock_len, dayL_len]
theorem long_len (w : Int) {c : Cv} (h0 : 1 ≤ c.m) (h1 : c.m ≤ 12) : (longC w c).length = (dayN w).length + 24 := by
  unfold longC
  simp only [List.length_append, List.length_cons, List.length_nil, padP_len, mon_len h0 h1, clock_len, gmtB]
theorem pad_mod (n : Int) : padP 2 n = padP 2 (n % 100) := by
  have e1 : dg (n / 10) = dg (n % 100 / 10) := by unfold dg; rw [show n / 10 % 10 = n % 100 / 10 % 10 by omega]
  have e2 : dg n = dg (n % 100) := by unfold dg; rw [show n % 10 = n % 100 % 10 by omega]
  show [dg (n / 10), dg n] = [dg (n % 100 / 10), dg (n % 100)]
  rw [e1, e2]

def cen (y : Int) : Int := bif decide (y + 1900 < 1970) then y + 1900 + 100 else y + 1900
def finI (s : Bytes) (c : Cv) : Int × Bool := bif (secP c).2 && (decide (httpP (secP c).1 = s) || decide (longP (secP c).1 = s) || decide (lineD (secP c).1 = s)) then ((secP c).1, true) else (0, false)
def cvI (s : Bytes) : Cv :=
  bif hasB s 44 then ⟨bif hasB s 45 then cen ((numsP s).getD 1 0) else (numsP s).getD 1 0, monI (s.drop (uptoP s 44).length), (numsP s).getD 0 0, (numsP s).getD 2 0, (numsP s).getD 3 0, (numsP s).getD 4 0⟩
  else ⟨(numsP s).getD 4 0, monI (s.drop 3), (numsP s).getD 0 0, (numsP s).getD 1 0, (numsP s).getD 2 0, (numsP s).getD 3 0⟩
def rdI (s : Bytes) : Int × Bool := bif decide (6 ≤ s.length) && decide (s.length ≤ 40) && decide ((numsP s).length = 5) then finI s (cvI s) else (0, false)

theorem civ_parts {c : Cv} (h : civOk c = true) : (1970 ≤ c.y ∧ c.y ≤ 9999) ∧ (1 ≤ c.m ∧ c.m ≤ 12) ∧ (1 ≤ c.d ∧ c.d ≤ 31) ∧ (0 ≤ c.h ∧ c.h ≤ 23) ∧ (0 ≤ c.i ∧ c.i ≤ 59) ∧ (0 ≤ c.s ∧ c.s ≤ 59) := by
  unfold civOk at h
  simp only [Bool.and_eq_true, decide_eq_true_eq] at h
  have := mLen_bd c.y c.m
  omega
theorem nums_http (w : Int) {c : Cv} (h : civOk c = true) : numsP (httpC w c) = [c.d, c.y, c.h, c.i, c.s] := by
  obtain ⟨hy, hm, hd, _⟩ := civ_parts h
  unfold numsP httpC
  simp only [List.append_assoc]
  rw [numG_lits _ _ (day3_lits w), numG_lits [44, 32] _ (by decide), numG_two _ (by omega) (by omega), List.cons_append, numG_end (by decide), numG_skip (by decide), numG_lits _ _ (mon_lits hm.1 hm.2),
    List.cons_append, numG_skip (by decide), numG_four _ (by omega) (by omega), List.cons_append, numG_end (by decide), numG_skip (by decide), clock_nums c h]
  rfl
theorem nums_long (w : Int) {c : Cv} (h : civOk c = true) : numsP (longC w c) = [c.d, c.y % 100, c.h, c.i, c.s] := by
  obtain ⟨hy, hm, hd, _⟩ := civ_parts h
  unfold numsP longC
  simp only [List.append_assoc]
  rw [pad_mod c.y, numG_lits _ _ (day_lits w), numG_lits [44, 32] _ (by decide), numG_two _ (by omega) (by omega), List.cons_append, numG_end (by decide), numG_skip (by decide), numG_lits _ _ (mon_lits hm.1 hm.2),
    List.cons_append, numG_skip (by decide), numG_two _ (by omega) (by omega), List.cons_append, numG_end (by decide), numG_skip (by decide), clock_nums c h]
  rfl
theorem nums_line (w : Int) {c : Cv} (h : civOk c = true) : numsP (lineC w c) = [c.d, c.h, c.i, c.s, c.y] := by
  obtain ⟨hy, hm, hd, _⟩ := civ_parts h
  unfold numsP lineC
  simp only [List.append_assoc]
  have hL : ∀ r, numG none (dayL c.d ++ 32 :: r) = c.d :: numG none r := fun r => by
    unfold dayL
    cases g : decide (c.d < 10)
    · rw [cond_false, numG_two _ (by omega) (by omega), numG_end (by decide), numG_skip (by decide)]
    · have := of_decide_eq_true g
      show numG none (32 :: dg c.d :: 32 :: r) = _
      rw [numG_skip (by decide), numG_one _ (by omega) (by omega), numG_end (by decide), numG_skip (by decide)]
  rw [numG_lits _ _ (day3_lits w), List.cons_append, numG_skip (by decide), numG_lits _ _ (mon_lits hm.1 hm.2), List.cons_append, numG_skip (by decide), List.cons_append, hL, clock_nums c h, numG_end (by decide), numG_skip (by decide)]
  have := numG_four c.y (by omega) (by omega) []
  rw [List.append_nil] at this
  rw [this]; rfl
theorem noMon_tail (c : Cv) (l : Bytes) (hl : allP (fun n => decide (n < 65)) l = true) : noMon (l ++ (clockP c ++ gmtB)) := noMon_low hl (noMon_low (clock_low c) noMon_gmt)
theorem cvI_http (w : Int) {c : Cv} (h : civOk c = true) : cvI (httpC w c) = c := by
  obtain ⟨hy, hm, hd, _⟩ := civ_parts h
  have hs : httpC w c = (dayN w).take 3 ++ 44 :: ((32 :: padP 2 c.d ++ [32]) ++ (monN c.m ++ ((32 :: padP 4 c.y ++ [32]) ++ (clockP c ++ gmtB)))) := by unfold httpC; simp
  have h44 : hasB (httpC w c) 44 = true := by rw [hs, has_app, has_cons, show decide (by8 44 = 44) = true from rfl]; simp
  have h45 : hasB (httpC w c) 45 = false := by
    unfold httpC
    simp only [has_app, has_cons, has_nil, (day_has w (show (45 : Int) < 65 by decide)).2, pad_has _ _ (show isDig 45 = false by decide), mon_has hm.1 hm.2 (show (45 : Int) < 65 by decide), clock_has c (show isDig 45 = false by decide) (by decide), gmtB]
    decide
  have hu : uptoP (httpC w c) 44 = (dayN w).take 3 := by rw [hs]; exact upto_at (b := 44) (day_has w (by decide)).2 _
  have hmo : monI ((httpC w c).drop (uptoP (httpC w c) 44).length) = c.m := by
    rw [hu]
    conv => lhs; rw [hs]
    rw [List.drop_left]
    refine monI_at (l := 44 :: (32 :: padP 2 c.d ++ [32])) hm.1 hm.2 ?_ (noMon_tail c _ ?_)
    · show (true && (true && allP (fun n => decide (n < 65)) (padP 2 c.d ++ [32]))) = true
      rw [allP_app, pad_low]; rfl
    · show (true && allP (fun n => decide (n < 65)) (padP 4 c.y ++ [32])) = true
      rw [allP_app, pad_low]; rfl
  unfold cvI
  rw [h44, h45, hmo, nums_http w h]
  rfl
theorem cvI_long (w : Int) {c : Cv} (h : civOk c = true) (h69 : c.y ≤ 2069) : cvI (longC w c) = c := by
  obtain ⟨hy, hm, hd, _⟩ := civ_parts h
  have hs : longC w c = dayN w ++ 44 :: ((32 :: padP 2 c.d ++ [45]) ++ (monN c.m ++ ((45 :: padP 2 c.y ++ [32]) ++ (clockP c ++ gmtB)))) := by unfold longC; simp
  have h44 : hasB (longC w c) 44 = true := by rw [hs, has_app, has_cons, show decide (by8 44 = 44) = true from rfl]; simp
  have h45 : hasB (longC w c) 45 = true := by
    rw [hs, has_app, has_cons, has_app, has_app, has_cons, show hasB [45] 45 = true from rfl]; simp
  have hu : uptoP (longC w c) 44 = dayN w := by rw [hs]; exact upto_at (b := 44) (day_has w (by decide)).1 _
  have hmo : monI ((longC w c).drop (uptoP (longC w c) 44).length) = c.m := by
    rw [hu]
    conv => lhs; rw [hs]
    rw [List.drop_left]
    refine monI_at (l := 44 :: (32 :: padP 2 c.d ++ [45])) hm.1 hm.2 ?_ (noMon_tail c _ ?_)
    · show (true && (true && allP (fun n => decide (n < 65)) (padP 2 c.d ++ [45]))) = true
      rw [allP_app, pad_low]; rfl
    · show (true && allP (fun n => decide (n < 65)) (padP 2 c.y ++ [32])) = true
      rw [allP_app, pad_low]; rfl
  have hc : cen (c.y % 100) = c.y := by
    unfold cen
    cases g : decide (c.y % 100 + 1900 < 1970)
    · have := of_decide_eq_false g; rw [cond_false]; omega
    · have := of_decide_eq_true g; rw [cond_true]; omega
  unfold cvI
  rw [h44, h45, hmo, nums_long w h]
  show Cv.mk (cen (c.y % 100)) c.m c.d c.h c.i c.s = c
  rw [hc]
theorem cvI_line (w : Int) {c : Cv} (h : civOk c = true) : cvI (lineC w c) = c := by
  obtain ⟨hy, hm, hd, _⟩ := civ_parts h
  have hs : lineC w c = (dayN w).take 3 ++ ([32] ++ (monN c.m ++ ((32 :: dayL c.d ++ 32 :: clockP c ++ 32 :: padP 4 c.y) ++ []))) := by unfold lineC; simp
  have hdl : ∀ x : Int, x < 65 → isDig x = false → x ≠ 32 → hasB (dayL c.d) x = false := fun x hx hx2 hx3 => by
    unfold dayL
    cases decide (c.d < 10)
    · exact pad_has 2 _ hx2
    · rw [cond_true, has_cons, dig_has hx2 [dg c.d] (by show (isDig (by8 (dg c.d)) && true) = true; rw [dg_dig]; rfl), Bool.or_false]
      exact decide_eq_false fun g => hx3 (by rw [← g]; rfl)
  have h44 : hasB (lineC w c) 44 = false := by
    unfold lineC
    simp only [has_app, has_cons, has_nil, (day_has w (show (44 : Int) < 65 by decide)).2, pad_has _ _ (show isDig 44 = false by decide), mon_has hm.1 hm.2 (show (44 : Int) < 65 by decide), clock_has c (show isDig 44 = false by decide) (by decide), hdl 44 (by decide) (by decide) (by decide)]
    decide
  have hdlow : allP (fun n => decide (n < 65)) (dayL c.d) = true := by
    unfold dayL
    cases decide (c.d < 10)
    · exact pad_low 2 _
    · show (true && (decide (by8 (dg c.d) < 65) && true)) = true
      rw [by8_dg, decide_eq_true (by omega)]; rfl
  have hmo : monI ((lineC w c).drop 3) = c.m := by
    rw [hs, List.drop_left' (day3_len w)]
    refine monI_at (l := [32]) hm.1 hm.2 (by decide) (noMon_low ?_ noMon_nil)
    show (true && allP (fun n => decide (n < 65)) (dayL c.d ++ 32 :: clockP c ++ 32 :: padP 4 c.y)) = true
    rw [allP_app, allP_app, hdlow]
    show (true && (true && (true && allP (fun n => decide (n < 65)) (clockP c)) && (true && allP (fun n => decide (n < 65)) (padP 4 c.y)))) = true
    rw [clock_low, pad_low]; rfl
  unfold cvI
  rw [h44, hmo, nums_line w h]
  rfl
theorem finI_ok {s : Bytes} {t : Int} (hf : formP s t) : finI s (civP t) = (t, true) := by
  obtain ⟨ht, h0, h⟩ := hf
  obtain ⟨g1, g2⟩ := civ_ok ht
  unfold finI secP
  rw [g1, cond_true, g2]
  have : (decide (httpP t = s) || decide (longP t = s) || decide (lineD t = s)) = true := by
    rcases h with h | h | h
    · rw [decide_eq_true h]; rfl
    · rw [decide_eq_true h]; simp
    · rw [decide_eq_true h]; simp
  rw [this]; rfl
theorem rdI_form (s : Bytes) (t : Int) (hf : formP s t) : rdI s = (t, true) := by
  have hfin := finI_ok hf
  obtain ⟨ht, h0, h⟩ := hf
  obtain ⟨g1, g2⟩ := civ_ok ht
  obtain ⟨hy, hm, hd, _⟩ := civ_parts g1
  unfold rdI
  rcases h with h | h | h
  · unfold httpP at h; rw [ht, cond_true] at h
    subst h
    rw [http_len _ hm.1 hm.2, nums_http _ g1, cvI_http _ g1, hfin]; rfl
  · unfold longP at h
    cases c : decide ((civP t).y ≤ 2069)
    · rw [c, Bool.and_false, cond_false] at h; exact absurd h.symm h0
    · rw [ht, c] at h
      subst h
      have := day_len (wdP t)
      simp only [Bool.and_self, cond_true] at hfin ⊢
      rw [long_len _ hm.1 hm.2, nums_long _ g1, cvI_long _ g1 (of_decide_eq_true c), hfin, decide_eq_true (show 6 ≤ (dayN (wdP t)).length + 24 by omega), decide_eq_true (show (dayN (wdP t)).length + 24 ≤ 40 by omega)]; rfl
  · unfold lineD at h; rw [ht, cond_true] at h
    subst h
    rw [line_len _ hm.1 hm.2, nums_line _ g1, cvI_line _ g1, hfin]; rfl
theorem rdI_none (s : Bytes) (h : ∀ t, ¬ formP s t) : rdI s = (0, false) := by
  unfold rdI
  cases c : decide (6 ≤ s.length) && decide (s.length ≤ 40) && decide ((numsP s).length = 5)
  · rfl
  simp only [Bool.and_eq_true, decide_eq_true_eq] at c
  rw [cond_true]
  unfold finI
  cases d : (secP (cvI s)).2 && (decide (httpP (secP (cvI s)).1 = s) || decide (longP (secP (cvI s)).1 = s) || decide (lineD (secP (cvI s)).1 = s))
  · rfl
  simp only [Bool.and_eq_true, Bool.or_eq_true, decide_eq_true_eq] at d
  obtain ⟨d1, d2⟩ := d
  unfold secP at d1 d2
  cases e : civOk (cvI s)
  · rw [e] at d1; cases d1
  · rw [e, cond_true] at d2
    refine absurd ⟨(sec_ok e).1, ?_, ?_⟩ (h (secB (cvI s)))
    · intro hs; rw [hs] at c; exact absurd c.1.1 (by decide)
    · rcases d2 with (d2 | d2) | d2
      · exact .inl d2
      · exact .inr (.inl d2)
      · exact .inr (.inr d2)
theorem rdI_eq (s : Bytes) : rdI s = dateR s := dateR_of rdI_form rdI_none s

def spDig (n : Int) : Bool := decide (n = 32) || isDig n
def numStep (v : Int) (c : UInt8) : Int := bif decide (by8 c = 32) then v * 10 else v * 10 + (by8 c - 48)
def numF (l : Bytes) (v : Int) : Int := l.foldl numStep v
def numS (l : Bytes) : Int := bif allP spDig l then numF l 0 else -1
def monS (s : Bytes) : Int :=
  bif decide (monN 1 = s) then 1 else bif decide (monN 2 = s) then 2 else bif decide (monN 3 = s) then 3 else bif decide (monN 4 = s) then 4 else bif decide (monN 5 = s) then 5 else bif decide (monN 6 = s) then 6
  else bif decide (monN 7 = s) then 7 else bif decide (monN 8 = s) then 8 else bif decide (monN 9 = s) then 9 else bif decide (monN 10 = s) then 10 else bif decide (monN 11 = s) then 11 else bif decide (monN 12 = s) then 12 else -1
def cvS (y m d : Int) (k : Bytes) : Cv := ⟨y, m, d, numS (cut k 0 2), numS (cut k 3 5), numS (cut k 6 8)⟩
def atS (y m d : Int) (k : Bytes) : Int := bif civOk (cvS y m d k) then secB (cvS y m d k) else -1
def t1S (s : Bytes) : Int := atS (numS (cut s 12 16)) (monS (cut s 8 11)) (numS (cut s 5 7)) (cut s 17 25)
def t2S (s : Bytes) : Int := atS (numS (cut s 20 24)) (monS (cut s 4 7)) (numS (cut s 8 10)) (cut s 11 19)
def cenS (y : Int) : Int := bif decide (70 ≤ y) then y + 1900 else y + 2000
def t3S (r : Bytes) : Int := atS (cenS (numS (cut r 7 9))) (monS (cut r 3 6)) (numS (cut r 0 2)) (cut r 10 18)
def rdS (s : Bytes) : Int × Bool :=
  bif decide (s.length = 29) && decide (httpP (t1S s) = s) then (t1S s, true)
  else bif decide (s.length = 24) && decide (lineD (t2S s) = s) then (t2S s, true)
  else bif (decide (30 ≤ s.length) && decide (s.length ≤ 33)) && decide (longP (t3S (s.drop (s.length - 22))) = s) then (t3S (s.drop (s.length - 22)), true)
  else (0, false)

theorem numS_dg2 (n : Int) (h0 : 0 ≤ n) (h1 : n ≤ 99) : numS (padP 2 n) = n := by
  have e : allP spDig (padP 2 n) = true := by
    show ((decide (by8 (dg (n / 10)) = 32) || isDig (by8 (dg (n / 10)))) && ((decide (by8 (dg n) = 32) || isDig (by8 (dg n))) && true)) = true
    rw [dg_dig, dg_dig]; simp
  unfold numS
  rw [e, cond_true]
  show numStep (numStep 0 (dg (n / 10))) (dg n) = n
  unfold numStep
  rw [by8_dg, by8_dg, decide_eq_false (by omega), decide_eq_false (by omega)]
  simp only [cond_false]; omega
theorem numS_dg4 (n : Int) (h0 : 0 ≤ n) (h1 : n ≤ 9999) : numS (padP 4 n) = n := by
  have e : allP spDig (padP 4 n) = true := by
    show ((decide (by8 (dg (n / 10 / 10 / 10)) = 32) || isDig (by8 (dg (n / 10 / 10 / 10)))) && ((decide (by8 (dg (n / 10 / 10)) = 32) || isDig (by8 (dg (n / 10 / 10)))) && ((decide (by8 (dg (n / 10)) = 32) || isDig (by8 (dg (n / 10)))) && ((decide (by8 (dg n) = 32) || isDig (by8 (dg n))) && true)))) = true
    rw [dg_dig, dg_dig, dg_dig, dg_dig]; simp
  unfold numS
  rw [e, cond_true]
  show numStep (numStep (numStep (numStep 0 (dg (n / 10 / 10 / 10))) (dg (n / 10 / 10))) (dg (n / 10))) (dg n) = n
  unfold numStep
  rw [by8_dg, by8_dg, by8_dg, by8_dg, decide_eq_false (by omega), decide_eq_false (by omega), decide_eq_false (by omega), decide_eq_false (by omega)]
  simp only [cond_false]; omega
theorem numS_dayL (n : Int) (h0 : 1 ≤ n) (h1 : n ≤ 31) : numS (dayL n) = n := by
  unfold dayL
  cases c : decide (n < 10)
  · exact numS_dg2 n (by omega) (by omega)
  · have := of_decide_eq_true c
    rw [cond_true]
    have e : allP spDig [32, dg n] = true := by
      show ((decide (by8 32 = 32) || isDig (by8 32)) && ((decide (by8 (dg n) = 32) || isDig (by8 (dg n))) && true)) = true
      rw [dg_dig, show decide (by8 32 = 32) = true from rfl]; simp
    unfold numS
    rw [e, cond_true]
    show numStep (numStep 0 32) (dg n) = n
    unfold numStep
    rw [by8_dg, decide_eq_false (show ¬ 48 + n % 10 = 32 by omega), show decide (by8 32 = 32) = true from rfl]
    simp only [cond_false, cond_true]; omega
theorem monS_mon {m : Int} (h0 : 1 ≤ m) (h1 : m ≤ 12) : monS (monN m) = m := by
  rcases mon_cases h0 h1 with g | g | g | g | g | g | g | g | g | g | g | g <;> subst g <;> decide
theorem at_clock {c : Cv} (h : civOk c = true) : atS c.y c.m c.d (clockP c) = secB c := by
  obtain ⟨hy, hm, hd, hh, hi, hs⟩ := civ_parts h
  have e1 : cut (clockP c) 0 2 = padP 2 c.h := cut_of (p := []) (r := 58 :: padP 2 c.i ++ 58 :: padP 2 c.s) (by unfold clockP; simp) rfl (by rw [padP_len]; rfl)
  have e2 : cut (clockP c) 3 5 = padP 2 c.i := cut_of (p := padP 2 c.h ++ [58]) (r := 58 :: padP 2 c.s) (by unfold clockP; simp) (by simp [padP_len]) (by rw [padP_len]; rfl)
  have e3 : cut (clockP c) 6 8 = padP 2 c.s := cut_of (p := padP 2 c.h ++ 58 :: padP 2 c.i ++ [58]) (r := []) (by unfold clockP; simp) (by simp [padP_len]) (by rw [padP_len]; rfl)
  have : cvS c.y c.m c.d (clockP c) = c := by
    unfold cvS
    rw [e1, e2, e3, numS_dg2 _ (by omega) (by omega), numS_dg2 _ (by omega) (by omega), numS_dg2 _ (by omega) (by omega)]
  unfold atS
  rw [this, h, cond_true]
theorem t1_http (w : Int) {c : Cv} (h : civOk c = true) : t1S (httpC w c) = secB c := by
  obtain ⟨hy, hm, hd, _⟩ := civ_parts h
  have l3 := day3_len w
  have lm := mon_len hm.1 hm.2
  have e1 : cut (httpC w c) 5 7 = padP 2 c.d := cut_of (p := (dayN w).take 3 ++ [44, 32]) (r := 32 :: monN c.m ++ 32 :: padP 4 c.y ++ 32 :: clockP c ++ gmtB) (by unfold httpC; simp) (by simp only [List.length_append, l3]; rfl) (by rw [padP_len]; rfl)
  have e2 : cut (httpC w c) 8 11 = monN c.m := cut_of (p := (dayN w).take 3 ++ [44, 32] ++ padP 2 c.d ++ [32]) (r := 32 :: padP 4 c.y ++ 32 :: clockP c ++ gmtB) (by unfold httpC; simp) (by simp only [List.length_append, l3, padP_len]; rfl) (by rw [lm]; rfl)
  have e3 : cut (httpC w c) 12 16 = padP 4 c.y := cut_of (p := (dayN w).take 3 ++ [44, 32] ++ padP 2 c.d ++ 32 :: monN c.m ++ [32]) (r := 32 :: clockP c ++ gmtB) (by unfold httpC; simp) (by simp only [List.length_append, List.length_cons, l3, padP_len, lm]; rfl) (by rw [padP_len]; rfl)
  have e4 : cut (httpC w c) 17 25 = clockP c := cut_of (p := (dayN w).take 3 ++ [44, 32] ++ padP 2 c.d ++ 32 :: monN c.m ++ 32 :: padP 4 c.y ++ [32]) (r := gmtB) (by unfold httpC; simp) (by simp only [List.length_append, List.length_cons, l3, padP_len, lm]; rfl) (by rw [clock_len]; rfl)
  unfold t1S
  rw [e1, e2, e3, e4, numS_dg2 _ (by omega) (by omega), numS_dg4 _ (by omega) (by omega), monS_mon hm.1 hm.2, at_clock h]
theorem t2_line (w : Int) {c : Cv} (h : civOk c = true) : t2S (lineC w c) = secB c := by
  obtain ⟨hy, hm, hd, _⟩ := civ_parts h
  have l3 := day3_len w
  have lm := mon_len hm.1 hm.2
  have e1 : cut (lineC w c) 4 7 = monN c.m := cut_of (p := (dayN w).take 3 ++ [32]) (r := 32 :: dayL c.d ++ 32 :: clockP c ++ 32 :: padP 4 c.y) (by unfold lineC; simp) (by simp only [List.length_append, l3]; rfl) (by rw [lm]; rfl)
  have e2 : cut (lineC w c) 8 10 = dayL c.d := cut_of (p := (dayN w).take 3 ++ 32 :: monN c.m ++ [32]) (r := 32 :: clockP c ++ 32 :: padP 4 c.y) (by unfold lineC; simp) (by simp only [List.length_append, List.length_cons, l3, lm]; rfl) (by rw [dayL_len]; rfl)
  have e3 : cut (lineC w c) 11 19 = clockP c := cut_of (p := (dayN w).take 3 ++ 32 :: monN c.m ++ 32 :: dayL c.d ++ [32]) (r := 32 :: padP 4 c.y) (by unfold lineC; simp) (by simp only [List.length_append, List.length_cons, l3, lm, dayL_len]; rfl) (by rw [clock_len]; rfl)
  have e4 : cut (lineC w c) 20 24 = padP 4 c.y := cut_of (p := (dayN w).take 3 ++ 32 :: monN c.m ++ 32 :: dayL c.d ++ 32 :: clockP c ++ [32]) (r := []) (by unfold lineC; simp) (by simp only [List.length_append, List.length_cons, l3, lm, dayL_len, clock_len]; rfl) (by rw [padP_len]; rfl)
  unfold t2S
  rw [e1, e2, e3, e4, numS_dayL _ (by omega) (by omega), numS_dg4 _ (by omega) (by omega), monS_mon hm.1 hm.2, at_clock h]
theorem t3_long (w : Int) {c : Cv} (h : civOk c = true) (h69 : c.y ≤ 2069) : t3S ((longC w c).drop ((longC w c).length - 22)) = secB c := by
  obtain ⟨hy, hm, hd, _⟩ := civ_parts h
  have lm := mon_len hm.1 hm.2
  have hr : (longC w c).drop ((longC w c).length - 22) = padP 2 c.d ++ 45 :: monN c.m ++ 45 :: padP 2 c.y ++ 32 :: clockP c ++ gmtB := by
    rw [long_len w hm.1 hm.2]
    have e : longC w c = (dayN w ++ [44, 32]) ++ (padP 2 c.d ++ 45 :: monN c.m ++ 45 :: padP 2 c.y ++ 32 :: clockP c ++ gmtB) := by unfold longC; simp
    rw [e, show (dayN w).length + 24 - 22 = (dayN w ++ [44, 32]).length by simp]
    exact List.drop_left
  rw [hr]
  generalize hq : padP 2 c.d ++ 45 :: monN c.m ++ 45 :: padP 2 c.y ++ 32 :: clockP c ++ gmtB = r
  have e1 : cut r 0 2 = padP 2 c.d := cut_of (p := []) (r := 45 :: monN c.m ++ 45 :: padP 2 c.y ++ 32 :: clockP c ++ gmtB) (by rw [← hq]; simp) rfl (by rw [padP_len]; rfl)
  have e2 : cut r 3 6 = monN c.m := cut_of (p := padP 2 c.d ++ [45]) (r := 45 :: padP 2 c.y ++ 32 :: clockP c ++ gmtB) (by rw [← hq]; simp) (by simp only [List.length_append, padP_len]; rfl) (by rw [lm]; rfl)
  have e3 : cut r 7 9 = padP 2 c.y := cut_of (p := padP 2 c.d ++ 45 :: monN c.m ++ [45]) (r := 32 :: clockP c ++ gmtB) (by rw [← hq]; simp) (by simp only [List.length_append, List.length_cons, padP_len, lm]; rfl) (by rw [padP_len]; rfl)
  have e4 : cut r 10 18 = clockP c := cut_of (p := padP 2 c.d ++ 45 :: monN c.m ++ 45 :: padP 2 c.y ++ [32]) (r := gmtB) (by rw [← hq]; simp) (by simp only [List.length_append, List.length_cons, padP_len, lm]; rfl) (by rw [clock_len]; rfl)
  have hc : cenS (c.y % 100) = c.y := by
    unfold cenS
    cases g : decide (70 ≤ c.y % 100)
    · have := of_decide_eq_false g; rw [cond_false]; omega
    · have := of_decide_eq_true g; rw [cond_true]; omega
  unfold t3S
  rw [e1, e2, e3, e4, pad_mod c.y, numS_dg2 _ (by omega) (by omega), numS_dg2 _ (by omega) (by omega), monS_mon hm.1 hm.2, hc, at_clock h]
theorem rdS_form (s : Bytes) (t : Int) (hf : formP s t) : rdS s = (t, true) := by
  obtain ⟨ht, h0, h⟩ := hf
  obtain ⟨g1, g2⟩ := civ_ok ht
  obtain ⟨hy, hm, hd, _⟩ := civ_parts g1
  unfold rdS
  rcases h with h | h | h
  · have h' := h
    unfold httpP at h; rw [ht, cond_true] at h
    have hl : s.length = 29 := by rw [← h]; exact http_len _ hm.1 hm.2
    have h1 : t1S s = t := by rw [← h, t1_http _ g1, g2]
    rw [hl, h1, decide_eq_true h']; rfl
  · have h' := h
    unfold longP at h
    cases c : decide ((civP t).y ≤ 2069)
    · rw [c, Bool.and_false, cond_false] at h; exact absurd h.symm h0
    · rw [ht, c] at h
      simp only [Bool.and_self, cond_true] at h
      have hl : s.length = (dayN (wdP t)).length + 24 := by rw [← h]; exact long_len _ hm.1 hm.2
      have := day_len (wdP t)
      have h1 : t3S (s.drop (s.length - 22)) = t := by rw [← h, t3_long _ g1 (of_decide_eq_true c), g2]
      rw [h1, decide_eq_false (show ¬ s.length = 29 by omega), decide_eq_false (show ¬ s.length = 24 by omega), decide_eq_true (show 30 ≤ s.length by omega), decide_eq_true (show s.length ≤ 33 by omega), decide_eq_true h']; rfl
  · have h' := h
    unfold lineD at h; rw [ht, cond_true] at h
    have hl : s.length = 24 := by rw [← h]; exact line_len _ hm.1 hm.2
    have h1 : t2S s = t := by rw [← h, t2_line _ g1, g2]
    rw [hl, h1, decide_eq_true h']; rfl
theorem rdS_none (s : Bytes) (h : ∀ t, ¬ formP s t) : rdS s = (0, false) := by
  have key : ∀ t, s ≠ [] → (httpP t = s ∨ longP t = s ∨ lineD t = s) → False := fun t h0 hs => by
    refine h t ⟨?_, h0, hs⟩
    cases c : timB t
    · unfold httpP longP lineD at hs
      rw [c] at hs
      simp only [Bool.false_and, cond_false] at hs
      rcases hs with hs | hs | hs <;> exact absurd hs.symm h0
    · rfl
  unfold rdS
  cases c1 : decide (s.length = 29) && decide (httpP (t1S s) = s)
  · rw [cond_false]
    cases c2 : decide (s.length = 24) && decide (lineD (t2S s) = s)
    · rw [cond_false]
      cases c3 : (decide (30 ≤ s.length) && decide (s.length ≤ 33)) && decide (longP (t3S (s.drop (s.length - 22))) = s)
      · rfl
      · simp only [Bool.and_eq_true, decide_eq_true_eq] at c3
        exact (key _ (fun g => by rw [g] at c3; exact absurd c3.1.1 (by decide)) (.inr (.inl c3.2))).elim
    · simp only [Bool.and_eq_true, decide_eq_true_eq] at c2
      exact (key _ (fun g => by rw [g] at c2; exact absurd c2.1 (by decide)) (.inr (.inr c2.2))).elim
  · simp only [Bool.and_eq_true, decide_eq_true_eq] at c1
    exact (key _ (fun g => by rw [g] at c1; exact absurd c1.1 (by decide)) (.inl c1.2)).elim
theorem rdS_eq (s : Bytes) : rdS s = dateR s := dateR_of rdS_form rdS_none s

def iDB_br (y : Int) : Br := (Br.ret (AV.int .i64 (wk64 ((wk64 ((wk64 ((wk64 ((wk64 (365 * (wk64 (y - 1970)))) + (wk64 (Int.tdiv (wk64 (y - 1)) 4)))) - (wk64 (Int.tdiv (wk64 (y - 1)) 100)))) + (wk64 (Int.tdiv (wk64 (y - 1)) 400)))) - 477))) [])
def iDB_s : List AV → List Ob → Br
  | [.int .i64 y], [] => iDB_br y
  | _, _ => .fail
theorem iDB_ok : Sound Kx 201 iDB_s := sound_br (C := []) (O := O0) Tryz.func201 (by kernel_rfl) fun args objs => by
  unfold iDB_s; split
  · exact .inr (by kernel_rfl)
  · exact .inl rfl

def iDO_br (y m : Int) : Br := (Br.ite (decide (m = 2)) (Br.ite (decide ((Int.tmod y 4) = 0)) (Br.ite (!(decide ((Int.tmod y 100) = 0))) (Br.ret (AV.int .i64 29) []) (Br.ite (decide ((Int.tmod y 400) = 0)) (Br.ret (AV.int .i64 29) []) (Br.ite (decide (m = 2)) (Br.ret (AV.int .i64 28) []) (Br.ite (decide (m = 4)) (Br.ret (AV.int .i64 30) []) (Br.ite (decide (m = 6)) (Br.ret (AV.int .i64 30) []) (Br.ite (decide (m = 9)) (Br.ret (AV.int .i64 30) []) (Br.ite (decide (m = 11)) (Br.ret (AV.int .i64 30) []) (Br.ret (AV.int .i64 31) [])))))))) (Br.ite (decide ((Int.tmod y 400) = 0)) (Br.ret (AV.int .i64 29) []) (Br.ite (decide (m = 2)) (Br.ret (AV.int .i64 28) []) (Br.ite (decide (m = 4)) (Br.ret (AV.int .i64 30) []) (Br.ite (decide (m = 6)) (Br.ret (AV.int .i64 30) []) (Br.ite (decide (m = 9)) (Br.ret (AV.int .i64 30) []) (Br.ite (decide (m = 11)) (Br.ret (AV.int .i64 30) []) (Br.ret (AV.int .i64 31) [])))))))) (Br.ite (decide (m = 2)) (Br.ret (AV.int .i64 28) []) (Br.ite (decide (m = 4)) (Br.ret (AV.int .i64 30) []) (Br.ite (decide (m = 6)) (Br.ret (AV.int .i64 30) []) (Br.ite (decide (m = 9)) (Br.ret (AV.int .i64 30) []) (Br.ite (decide (m = 11)) (Br.ret (AV.int .i64 30) []) (Br.ret (AV.int .i64 31) [])))))))
def iDO_s : List AV → List Ob → Br
  | [.int .i64 y, .int .i64 m], [] => iDO_br y m
  | _, _ => .fail
theorem iDO_ok : Sound Kx 202 iDO_s := sound_br (C := []) (O := O0) Tryz.func202 (by kernel_rfl) fun args objs => by
  unfold iDO_s; split
  · exact .inr (by kernel_rfl)
  · exact .inl rfl

def iDig_O : Opt := { live := [(2, [0, 1, 5])], outs := [(2, [4, 5])] }
def iDig_C : SC := [⟨189, _, itoa_ok⟩]
def iDig_T2 (v2x0 v2x1 : Int) (v2x2 : Bytes) (kR2 : Int → Int → Bytes → Option Rs) (k2e0 : Bytes → Option Rs) : Option Rs :=
  (bif (decide (0 < v2x1)) then (bif (num15 (Int.tmod v2x0 10)) then (bif (decide (((List.length (decD (Int.tmod v2x0 10))) + v2x2.length) ≤ 9223372036854775807)) then (kR2 (wk64 (Int.tdiv v2x0 10)) (wk64 (v2x1 - 1)) ((decD (Int.tmod v2x0 10)) ++ v2x2)) else (none)) else (none)) else (k2e0 v2x2))
def iDig_F2 : Nat → Int → Int → Bytes → (Bytes → Option Rs) → Option Rs
  | 0, _, _, _, _ => none
  | n + 1, v2x0, v2x1, v2x2, k2e0 => iDig_T2 v2x0 v2x1 v2x2 (fun v2x0 v2x1 v2x2 => iDig_F2 n v2x0 v2x1 v2x2 k2e0) k2e0
abbrev iDig_p2 : SP := ⟨18, [0, 1, 5], [(.v (.i .i64)), (.v (.i .i64)), (.v .s)], []⟩
noncomputable def iDig_b2 : Code := codeAt (codeOf Tryz.f206) [1, 1, 0, 0, 0]
def iDig_E2 (f : (Bytes → Option Rs) → Option Rs) (k : KT) : Option Rs := f (fun x2x0x0 => k (Ex.exit 0) ((St.mk (slots 0 18 [(5, (AV.str x2x0x0))]) ([] : (List (Nat × (Ob)))))))
def iDig_G2 (n : Nat) (d : iDig_p2.D) : KT → Option Rs := iDig_E2 (iDig_F2 n d.1.1 d.1.2.1 d.1.2.2.1)
def iDig_L (N : Nat) : Lam := lamOf [⟨2, iDig_p2, iDig_G2 N⟩]
theorem iDig_ok2 (N : Nat) : OkL Kx iDig_C.s iDig_O 0 N (iDig_L N) iDig_b2 := okL iDig_p2 (iDig_G2) (fun d kR => iDig_E2 (iDig_T2 d.1.1 d.1.2.1 d.1.2.2.1 (fun v2x0 v2x1 v2x2 => kR ((v2x0, v2x1, v2x2, ()), ())))) (fun _ _ => by kernel_rfl) (fun _ _ _ => by kernel_rfl) (fun _ _ => by kernel_rfl) (fun _ _ _ _ => by kernel_rfl) (okEach (l' := []) (by kernel_rfl) trivial)
def iDig_run (N : Nat) (n k : Int) : Option Rs := (iDig_F2 N n k ([] : Bytes) (fun x2x0x0 => (some ((AV.str x2x0x0), []))))
def iDig_sOf (φ : Int → Int → Br) : List AV → List Ob → Br
  | [.int .i64 n, .int .i64 k], [] => φ n k
  | _, _ => .fail
theorem iDig_okOf {φ : Int → Int → Br} (fu : Int → Int → Nat) (hv : ∀ n k res_, (φ n k).val = some res_ → iDig_run (fu n k) n k = some res_) : Sound Kx 206 (iDig_sOf φ) := sound_lp (C := iDig_C) (O := iDig_O) Tryz.func206 (by kernel_rfl) fun args objs => by
  unfold iDig_sOf; split
  · rename_i n k; exact .inr fun _ h => run_lp (Λ := iDig_L (fu n k)) (by kernel_rfl) (okEach (l' := [iDig_b2]) (by kernel_rfl) ⟨iDig_ok2 _, trivial⟩) (by kernel_rfl) (hv n k _ h)
  · exact .inl rfl

def iDays_br  : Br := (Br.ret (AV.ref 0 0) ((Ob.arr Ty.str 0 false (List.set (List.set (List.set (List.set (List.set (List.set (List.set (List.replicate 7 ([] : Bytes)) 0 ([77, 111, 110, 100, 97, 121] : Bytes)) 1 ([84, 117, 101, 115, 100, 97, 121] : Bytes)) 2 ([87, 101, 100, 110, 101, 115, 100, 97, 121] : Bytes)) 3 ([84, 104, 117, 114, 115, 100, 97, 121] : Bytes)) 4 ([70, 114, 105, 100, 97, 121] : Bytes)) 5 ([83, 97, 116, 117, 114, 100, 97, 121] : Bytes)) 6 ([83, 117, 110, 100, 97, 121] : Bytes))) :: []))
def iDays_s : List AV → List Ob → Br
  | [], [] => iDays_br 
  | _, _ => .fail
theorem iDays_ok : Sound Kx 204 iDays_s := sound_br (C := []) (O := O0) Tryz.func204 (by kernel_rfl) fun args objs => by
  unfold iDays_s; split
  · exact .inr (by kernel_rfl)
  · exact .inl rfl

def iMons_br  : Br := (Br.ret (AV.ref 0 0) ((Ob.arr Ty.str 0 false (List.set (List.set (List.set (List.set (List.set (List.set (List.set (List.set (List.set (List.set (List.set (List.set (List.replicate 12 ([] : Bytes)) 0 ([74, 97, 110] : Bytes)) 1 ([70, 101, 98] : Bytes)) 2 ([77, 97, 114] : Bytes)) 3 ([65, 112, 114] : Bytes)) 4 ([77, 97, 121] : Bytes)) 5 ([74, 117, 110] : Bytes)) 6 ([74, 117, 108] : Bytes)) 7 ([65, 117, 103] : Bytes)) 8 ([83, 101, 112] : Bytes)) 9 ([79, 99, 116] : Bytes)) 10 ([78, 111, 118] : Bytes)) 11 ([68, 101, 99] : Bytes))) :: []))
def iMons_s : List AV → List Ob → Br
  | [], [] => iMons_br 
  | _, _ => .fail
theorem iMons_ok : Sound Kx 198 iMons_s := sound_br (C := []) (O := O0) Tryz.func198 (by kernel_rfl) fun args objs => by
  unfold iMons_s; split
  · exact .inr (by kernel_rfl)
  · exact .inl rfl

def iNums_O : Opt := { live := [(7, [0, 3, 4, 5, 6]), (3, [0, 3, 4])], outs := [(7, [0, 2, 3, 4, 5, 6]), (3, [2, 3])] }
def iNums_C : SC := [⟨197, _, isDigit_okQ⟩]
def iNums_T7 (v7x0 : Bytes) (v7x1 v7x2 v7x3 : Int) (v7x4 : (List Int)) (kR7 k7e0 : Bytes → Int → Int → Int → (List Int) → Option Rs) : Option Rs :=
  (bif (decide (v7x2 < (v7x0.length : Int))) then (bif (decide (0 ≤ v7x2)) then (bif (decide (v7x2 < (v7x0.length : Int))) then (bif (isDig (strAt v7x0 v7x2)) then (bif (decide ((wk64 (v7x2 - v7x1)) < 9)) then (bif (decide (0 ≤ v7x2)) then (bif (decide (v7x2 < (v7x0.length : Int))) then (kR7 v7x0 v7x1 (wk64 (v7x2 + 1)) (wk64 ((wk64 (10 * v7x3)) + (wk64 (wk8 ((strAt v7x0 v7x2) - 48))))) v7x4) else (none)) else (none)) else (k7e0 v7x0 v7x1 v7x2 v7x3 v7x4)) else (k7e0 v7x0 v7x1 v7x2 v7x3 v7x4)) else (none)) else (none)) else (k7e0 v7x0 v7x1 v7x2 v7x3 v7x4))
def iNums_F7 : Nat → Bytes → Int → Int → Int → (List Int) → (Bytes → Int → Int → Int → (List Int) → Option Rs) → Option Rs
  | 0, _, _, _, _, _, _ => none
  | n + 1, v7x0, v7x1, v7x2, v7x3, v7x4, k7e0 => iNums_T7 v7x0 v7x1 v7x2 v7x3 v7x4 (fun v7x0 v7x1 v7x2 v7x3 v7x4 => iNums_F7 n v7x0 v7x1 v7x2 v7x3 v7x4 k7e0) k7e0
abbrev iNums_p7 : SP := ⟨50, [0, 3, 4, 5, 6], [(.v .s), (.v (.ref 256 0)), (.v (.i .i64)), (.v (.i .i64)), (.v (.i .i64))], [(256, .arr (Ty.int .i64) 0 false)]⟩
noncomputable def iNums_b7 : Code := codeAt (codeOf Tryz.f151) [1, 1, 0, 1, 0, 0, 1, 0, 0, 1, 1, 0, 0, 0]
def iNums_E7 (f : (Bytes → Int → Int → Int → (List Int) → Option Rs) → Option Rs) (k : KT) : Option Rs := f (fun x7x0x0 x7x0x1 x7x0x2 x7x0x3 x7x0x4 => k (Ex.exit 2) ((St.mk (slots 0 50 [(0, (AV.str x7x0x0)), (3, (AV.ref 256 0)), (4, (AV.int .i64 x7x0x1)), (5, (AV.int .i64 x7x0x2)), (6, (AV.int .i64 x7x0x3))]) ((256, (Ob.arr (Ty.int .i64) 0 false x7x0x4)) :: ([] : (List (Nat × (Ob))))))))
def iNums_G7 (n : Nat) (d : iNums_p7.D) : KT → Option Rs := iNums_E7 (iNums_F7 n d.1.1 d.1.2.2.1 d.1.2.2.2.1 d.1.2.2.2.2.1 d.2.1)
def iNums_T3 (N : Nat) (v3x0 : Bytes) (v3x1 : Int) (v3x2 : (List Int)) (kR3 : Bytes → Int → (List Int) → Option Rs) (k3e0 : (List Int) → Option Rs) : Option Rs :=
  (bif (decide (v3x1 < (v3x0.length : Int))) then (iNums_F7 N v3x0 v3x1 v3x1 0 v3x2 (fun x7x0x0 => (fun x7x0x1 => (fun x7x0x2 => (fun x7x0x3 => (fun x7x0x4 => (bif (decide (x7x0x1 < x7x0x2)) then (bif (decide (((x7x0x4.length + (List.length (List.set (List.replicate 1 0) 0 x7x0x3))) * 8) ≤ 140737488355328)) then (kR3 x7x0x0 (wk64 ((wk64 (x7x0x2 - 1)) + 1)) (x7x0x4 ++ (List.set (List.replicate 1 0) 0 x7x0x3))) else (none)) else (kR3 x7x0x0 (wk64 (x7x0x1 + 1)) x7x0x4)))))))) else (k3e0 v3x2))
def iNums_F3 (N : Nat) : Nat → Bytes → Int → (List Int) → ((List Int) → Option Rs) → Option Rs
  | 0, _, _, _, _ => none
  | n + 1, v3x0, v3x1, v3x2, k3e0 => iNums_T3 N v3x0 v3x1 v3x2 (fun v3x0 v3x1 v3x2 => iNums_F3 N n v3x0 v3x1 v3x2 k3e0) k3e0
abbrev iNums_p3 : SP := ⟨50, [0, 3, 4], [(.v .s), (.v (.ref 256 0)), (.v (.i .i64))], [(256, .arr (Ty.int .i64) 0 false)]⟩
noncomputable def iNums_b3 : Code := codeAt (codeOf Tryz.f151) [1, 1, 0, 1, 0, 0]
def iNums_E3 (f : ((List Int) → Option Rs) → Option Rs) (k : KT) : Option Rs := f (fun x3x0x0 => k (Ex.exit 0) ((St.mk (slots 0 50 [(3, (AV.ref 256 0))]) ((256, (Ob.arr (Ty.int .i64) 0 false x3x0x0)) :: ([] : (List (Nat × (Ob))))))))
def iNums_G3 (N n : Nat) (d : iNums_p3.D) : KT → Option Rs := iNums_E3 (iNums_F3 N n d.1.1 d.1.2.2.1 d.2.1)
def iNums_L (N : Nat) : Lam := lamOf [⟨7, iNums_p7, iNums_G7 N⟩, ⟨3, iNums_p3, iNums_G3 N N⟩]
theorem iNums_ok7 (N : Nat) : OkL Kx iNums_C.s iNums_O 0 N (iNums_L N) iNums_b7 := okL iNums_p7 (iNums_G7) (fun d kR => iNums_E7 (iNums_T7 d.1.1 d.1.2.2.1 d.1.2.2.2.1 d.1.2.2.2.2.1 d.2.1 (fun v7x0 v7x1 v7x2 v7x3 v7x4 => kR ((v7x0, (), v7x1, v7x2, v7x3, ()), (v7x4, ()))))) (fun _ _ => by kernel_rfl) (fun _ _ _ => by kernel_rfl) (fun _ _ => by kernel_rfl) (fun _ _ _ _ => by kernel_rfl) (okEach (l' := []) (by kernel_rfl) trivial)
theorem iNums_ok3 (N : Nat) : OkL Kx iNums_C.s iNums_O 0 N (iNums_L N) iNums_b3 := okL iNums_p3 (iNums_G3 N) (fun d kR => iNums_E3 (iNums_T3 N d.1.1 d.1.2.2.1 d.2.1 (fun v3x0 v3x1 v3x2 => kR ((v3x0, (), v3x1, ()), (v3x2, ()))))) (fun _ _ => by kernel_rfl) (fun _ _ _ => by kernel_rfl) (fun _ _ => by kernel_rfl) (fun _ _ _ _ => by kernel_rfl) (okEach (l' := [iNums_b7]) (by kernel_rfl) ⟨iNums_ok7 _, trivial⟩)
def iNums_run (N : Nat) (s : Bytes) : Option Rs := (iNums_F3 N N s 0 ([] : (List Int)) (fun x3x0x0 => (some ((AV.ref 0 0), ((Ob.arr (Ty.int .i64) 0 false x3x0x0) :: [])))))
def iNums_sOf (φ : Bytes → Br) : List AV → List Ob → Br
  | [.str s], [] => φ s
  | _, _ => .fail
theorem iNums_okOf {φ : Bytes → Br} (fu : Bytes → Nat) (hv : ∀ s res_, (φ s).val = some res_ → iNums_run (fu s) s = some res_) : Sound Kx 151 (iNums_sOf φ) := sound_lp (C := iNums_C) (O := iNums_O) Tryz.func151 (by kernel_rfl) fun args objs => by
  unfold iNums_sOf; split
  · rename_i s; exact .inr fun _ h => run_lp (Λ := iNums_L (fu s)) (by kernel_rfl) (okEach (l' := [iNums_b3, iNums_b7]) (by kernel_rfl) ⟨iNums_ok3 _, iNums_ok7 _, trivial⟩) (by kernel_rfl) (hv s _ h)
  · exact .inl rfl

def sLeap_br (y : Int) : Br := (Br.ite (decide ((Int.tmod y 4) = 0)) (Br.ite (!(decide ((Int.tmod y 100) = 0))) (Br.ret (AV.bool true) []) (Br.ret (AV.bool (decide ((Int.tmod y 400) = 0))) [])) (Br.ret (AV.bool false) []))
def sLeap_s : List AV → List Ob → Br
  | [.int .i64 y], [] => sLeap_br y
  | _, _ => .fail
theorem sLeap_ok : Sound Kx 240 sLeap_s := sound_br (C := []) (O := O0) Tryz.func240 (by kernel_rfl) fun args objs => by
  unfold sLeap_s; split
  · exact .inr (by kernel_rfl)
  · exact .inl rfl

def sDayN_br (k : Int) : Br := (Br.ite (decide (k = 0)) (Br.ret (AV.str ([77, 111, 110, 100, 97, 121] : Bytes)) []) (Br.ite (decide (k = 1)) (Br.ret (AV.str ([84, 117, 101, 115, 100, 97, 121] : Bytes)) []) (Br.ite (decide (k = 2)) (Br.ret (AV.str ([87, 101, 100, 110, 101, 115, 100, 97, 121] : Bytes)) []) (Br.ite (decide (k = 3)) (Br.ret (AV.str ([84, 104, 117, 114, 115, 100, 97, 121] : Bytes)) []) (Br.ite (decide (k = 4)) (Br.ret (AV.str ([70, 114, 105, 100, 97, 121] : Bytes)) []) (Br.ite (decide (k = 5)) (Br.ret (AV.str ([83, 97, 116, 117, 114, 100, 97, 121] : Bytes)) []) (Br.ret (AV.str ([83, 117, 110, 100, 97, 121] : Bytes)) [])))))))
def sDayN_s : List AV → List Ob → Br
  | [.int .i64 k], [] => sDayN_br k
  | _, _ => .fail
theorem sDayN_ok : Sound Kx 144 sDayN_s := sound_br (C := []) (O := O0) Tryz.func144 (by kernel_rfl) fun args objs => by
  unfold sDayN_s; split
  · exact .inr (by kernel_rfl)
  · exact .inl rfl

def sMonN_br (m : Int) : Br := (Br.ite (decide (0 ≤ (wk64 ((wk64 (3 * m)) - 3)))) (Br.ite (decide ((wk64 ((wk64 (3 * m)) - 3)) ≤ (wk64 (3 * m)))) (Br.ite (decide ((wk64 (3 * m)) ≤ 36)) (Br.ret (AV.str (cut ([74, 97, 110, 70, 101, 98, 77, 97, 114, 65, 112, 114, 77, 97, 121, 74, 117, 110, 74, 117, 108, 65, 117, 103, 83, 101, 112, 79, 99, 116, 78, 111, 118, 68, 101, 99] : Bytes) (wk64 ((wk64 (3 * m)) - 3)) (wk64 (3 * m)))) []) Br.fail) Br.fail) Br.fail)
def sMonN_s : List AV → List Ob → Br
  | [.int .i64 m], [] => sMonN_br m
  | _, _ => .fail
theorem sMonN_ok : Sound Kx 142 sMonN_s := sound_br (C := []) (O := O0) Tryz.func142 (by kernel_rfl) fun args objs => by
  unfold sMonN_s; split
  · exact .inr (by kernel_rfl)
  · exact .inl rfl

def sPad_O : Opt := { live := [(2, [1, 5])], outs := [(2, [4, 5])] }
def sPad_C : SC := [⟨148, _, dec_okQ⟩]
def sPad_T2 (v2x0 : Int) (v2x1 : Bytes) (kR2 : Int → Bytes → Option Rs) (k2e0 : Bytes → Option Rs) : Option Rs :=
  (bif (decide ((v2x1.length : Int) < v2x0)) then (bif (decide ((1 + v2x1.length) ≤ 9223372036854775807)) then (kR2 v2x0 (([48] : Bytes) ++ v2x1)) else (none)) else (k2e0 v2x1))
def sPad_F2 : Nat → Int → Bytes → (Bytes → Option Rs) → Option Rs
  | 0, _, _, _ => none
  | n + 1, v2x0, v2x1, k2e0 => sPad_T2 v2x0 v2x1 (fun v2x0 v2x1 => sPad_F2 n v2x0 v2x1 k2e0) k2e0
abbrev sPad_p2 : SP := ⟨15, [1, 5], [(.v (.i .i64)), (.v .s)], []⟩
noncomputable def sPad_b2 : Code := codeAt (codeOf Tryz.f146) [1, 1, 0, 0, 0]
def sPad_E2 (f : (Bytes → Option Rs) → Option Rs) (k : KT) : Option Rs := f (fun x2x0x0 => k (Ex.exit 0) ((St.mk (slots 0 15 [(5, (AV.str x2x0x0))]) ([] : (List (Nat × (Ob)))))))
def sPad_G2 (n : Nat) (d : sPad_p2.D) : KT → Option Rs := sPad_E2 (sPad_F2 n d.1.1 d.1.2.1)
def sPad_L (N : Nat) : Lam := lamOf [⟨2, sPad_p2, sPad_G2 N⟩]
theorem sPad_ok2 (N : Nat) : OkL Kx sPad_C.s sPad_O 0 N (sPad_L N) sPad_b2 := okL sPad_p2 (sPad_G2) (fun d kR => sPad_E2 (sPad_T2 d.1.1 d.1.2.1 (fun v2x0 v2x1 => kR ((v2x0, v2x1, ()), ())))) (fun _ _ => by kernel_rfl) (fun _ _ _ => by kernel_rfl) (fun _ _ => by kernel_rfl) (fun _ _ _ _ => by kernel_rfl) (okEach (l' := []) (by kernel_rfl) trivial)
def sPad_run (N : Nat) (n k : Int) : Option Rs := (bif (num15 n) then (sPad_F2 N k (decD n) (fun x2x0x0 => (some ((AV.str x2x0x0), [])))) else (none))
def sPad_sOf (φ : Int → Int → Br) : List AV → List Ob → Br
  | [.int .i64 n, .int .i64 k], [] => φ n k
  | _, _ => .fail
theorem sPad_okOf {φ : Int → Int → Br} (fu : Int → Int → Nat) (hv : ∀ n k res_, (φ n k).val = some res_ → sPad_run (fu n k) n k = some res_) : Sound Kx 146 (sPad_sOf φ) := sound_lp (C := sPad_C) (O := sPad_O) Tryz.func146 (by kernel_rfl) fun args objs => by
  unfold sPad_sOf; split
  · rename_i n k; exact .inr fun _ h => run_lp (Λ := sPad_L (fu n k)) (by kernel_rfl) (okEach (l' := [sPad_b2]) (by kernel_rfl) ⟨sPad_ok2 _, trivial⟩) (by kernel_rfl) (hv n k _ h)
  · exact .inl rfl

def sNum_O : Opt := { live := [(3, [0, 3, 4])], outs := [(3, [2, 3])] }
def sNum_C : SC := [⟨141, _, sdigit_okQ⟩]
def sNum_T3 (v3x0 : Bytes) (v3x1 v3x2 : Int) (kR3 : Bytes → Int → Int → Option Rs) (k3e0 k3e1 : Int → Option Rs) : Option Rs :=
  (bif (decide (v3x2 < (v3x0.length : Int))) then (bif (decide (0 ≤ v3x2)) then (bif (decide (v3x2 < (v3x0.length : Int))) then (bif (decide ((strAt v3x0 v3x2) = 32)) then (kR3 v3x0 (wk64 (v3x1 * 10)) (wk64 (v3x2 + 1))) else (bif (decide (0 ≤ v3x2)) then (bif (decide (v3x2 < (v3x0.length : Int))) then (bif (!(isDig (strAt v3x0 v3x2))) then (k3e0 v3x1) else (bif (decide (0 ≤ v3x2)) then (bif (decide (v3x2 < (v3x0.length : Int))) then (kR3 v3x0 (wk64 ((wk64 (v3x1 * 10)) + (wk64 (wk8 ((strAt v3x0 v3x2) - 48))))) (wk64 (v3x2 + 1))) else (none)) else (none))) else (none)) else (none))) else (none)) else (none)) else (k3e1 v3x1))
def sNum_F3 : Nat → Bytes → Int → Int → (Int → Option Rs) → (Int → Option Rs) → Option Rs
  | 0, _, _, _, _, _ => none
  | n + 1, v3x0, v3x1, v3x2, k3e0, k3e1 => sNum_T3 v3x0 v3x1 v3x2 (fun v3x0 v3x1 v3x2 => sNum_F3 n v3x0 v3x1 v3x2 k3e0 k3e1) k3e0 k3e1
abbrev sNum_p3 : SP := ⟨31, [0, 3, 4], [(.v .s), (.v (.i .i64)), (.v (.i .i64))], []⟩
noncomputable def sNum_b3 : Code := codeAt (codeOf Tryz.f83) [1, 1, 0, 1, 0, 0]
def sNum_E3 (f : (Int → Option Rs) → (Int → Option Rs) → Option Rs) (k : KT) : Option Rs := f (fun x3x0x0 => k Ex.ret ((St.mk (slots 0 31 [(2, (AV.int .i64 (-1))), (3, (AV.int .i64 x3x0x0))]) ([] : (List (Nat × (Ob))))))) (fun x3x1x0 => k (Ex.exit 0) ((St.mk (slots 0 31 [(3, (AV.int .i64 x3x1x0))]) ([] : (List (Nat × (Ob)))))))
def sNum_G3 (n : Nat) (d : sNum_p3.D) : KT → Option Rs := sNum_E3 (sNum_F3 n d.1.1 d.1.2.1 d.1.2.2.1)
def sNum_L (N : Nat) : Lam := lamOf [⟨3, sNum_p3, sNum_G3 N⟩]
theorem sNum_ok3 (N : Nat) : OkL Kx sNum_C.s sNum_O 0 N (sNum_L N) sNum_b3 := okL sNum_p3 (sNum_G3) (fun d kR => sNum_E3 (sNum_T3 d.1.1 d.1.2.1 d.1.2.2.1 (fun v3x0 v3x1 v3x2 => kR ((v3x0, v3x1, v3x2, ()), ())))) (fun _ _ => by kernel_rfl) (fun _ _ _ => by kernel_rfl) (fun _ _ => by kernel_rfl) (fun _ _ _ _ => by kernel_rfl) (okEach (l' := []) (by kernel_rfl) trivial)
def sNum_run (N : Nat) (s : Bytes) : Option Rs := (sNum_F3 N s 0 0 (fun x3x0x0 => (some ((AV.int .i64 (-1)), []))) (fun x3x1x0 => (some ((AV.int .i64 x3x1x0), []))))
def sNum_sOf (φ : Bytes → Br) : List AV → List Ob → Br
  | [.str s], [] => φ s
  | _, _ => .fail
theorem sNum_okOf {φ : Bytes → Br} (fu : Bytes → Nat) (hv : ∀ s res_, (φ s).val = some res_ → sNum_run (fu s) s = some res_) : Sound Kx 83 (sNum_sOf φ) := sound_lp (C := sNum_C) (O := sNum_O) Tryz.func83 (by kernel_rfl) fun args objs => by
  unfold sNum_sOf; split
  · rename_i s; exact .inr fun _ h => run_lp (Λ := sNum_L (fu s)) (by kernel_rfl) (okEach (l' := [sNum_b3]) (by kernel_rfl) ⟨sNum_ok3 _, trivial⟩) (by kernel_rfl) (hv s _ h)
  · exact .inl rfl

def j1_s (g : Int → Bool) (p : Int → AV) : List AV → List Ob → Br
  | [.int .i64 n], [] => .ite (g n) (.ret (p n) []) .fail
  | _, _ => .fail
theorem of_j1 {n : Nat} {s : List AV → List Ob → Br} (hs : Sound Kx n s) {g : Int → Bool} {p : Int → AV} (h : ∀ a, g a = true → (s [.int .i64 a] []).val = some (p a, [])) : Sound Kx n (j1_s g p) := hs.of fun args objs r hv => by
  unfold j1_s at hv
  split at hv
  case h_2 => cases hv
  obtain ⟨h1, h2⟩ := ite_some hv
  cases h2
  exact h _ h1
def j2_s (g : Int → Int → Bool) (p : Int → Int → AV) : List AV → List Ob → Br
  | [.int .i64 n, .int .i64 k], [] => .ite (g n k) (.ret (p n k) []) .fail
  | _, _ => .fail
theorem of_j2 {n : Nat} {s : List AV → List Ob → Br} (hs : Sound Kx n s) {g : Int → Int → Bool} {p : Int → Int → AV} (h : ∀ a b, g a b = true → (s [.int .i64 a, .int .i64 b] []).val = some (p a b, [])) : Sound Kx n (j2_s g p) := hs.of fun args objs r hv => by
  unfold j2_s at hv
  split at hv
  case h_2 => cases hv
  obtain ⟨h1, h2⟩ := ite_some hv
  cases h2
  exact h _ _ h1
def yrB (y : Int) : Bool := decide (1 ≤ y) && decide (y ≤ 100000)
theorem yrB_le {y : Int} (h : yrB y = true) : 1 ≤ y ∧ y ≤ 100000 := by unfold yrB at h; rw [Bool.and_eq_true, decide_eq_true_eq, decide_eq_true_eq] at h; exact h
theorem iDB_okQ : Sound Kx 201 (j1_s yrB fun y => .int .i64 (dB y)) := of_j1 iDB_ok fun y h => by
  obtain ⟨h1, h2⟩ := yrB_le h
  show (iDB_br y).val = some (.int .i64 (dB y), [])
  have t : ∀ k : Int, Int.tdiv (y - 1) k = (y - 1) / k := fun k => Int.tdiv_eq_ediv_of_nonneg (by omega)
  unfold iDB_br dB
  rw [w64 (n := y - 1) (by omega) (by omega), w64 (n := y - 1970) (by omega) (by omega), t 4, t 100, t 400]
  simp (disch := omega) only [w64, Br.val]
theorem leap_t {y : Int} (h : 0 ≤ y) (k : Int) : Int.tmod y k = y % k := Int.tmod_eq_emod_of_nonneg h
theorem iDO_okQ : Sound Kx 202 (j2_s (fun y _ => yrB y) fun y m => .int .i64 (mLen y m)) := of_j2 iDO_ok fun y m h => by
  obtain ⟨h1, h2⟩ := yrB_le h
  show (iDO_br y m).val = some (.int .i64 (mLen y m), [])
  unfold iDO_br mLen leapB
  rw [leap_t (by omega), leap_t (by omega), leap_t (by omega)]
  generalize decide (m = 2) = b1
  generalize decide (m = 4) = b2
  generalize decide (m = 6) = b3
  generalize decide (m = 9) = b4
  generalize decide (m = 11) = b5
  by_cases c8 : y % 400 = 0
  · rw [decide_eq_true c8, decide_eq_true (show y % 4 = 0 by omega)]
    generalize decide (y % 100 = 0) = b7
    cases b1 <;> cases b2 <;> cases b3 <;> cases b4 <;> cases b5 <;> cases b7 <;> rfl
  · rw [decide_eq_false c8]
    generalize decide (y % 4 = 0) = b6
    generalize decide (y % 100 = 0) = b7
    cases b1 <;> cases b2 <;> cases b3 <;> cases b4 <;> cases b5 <;> cases b6 <;> cases b7 <;> rfl
theorem sLeap_okQ : Sound Kx 240 (j1_s yrB fun y => .bool (leapB y)) := of_j1 sLeap_ok fun y h => by
  obtain ⟨h1, h2⟩ := yrB_le h
  show (sLeap_br y).val = some (.bool (leapB y), [])
  unfold sLeap_br leapB
  rw [leap_t (by omega), leap_t (by omega), leap_t (by omega)]
  generalize decide (y % 4 = 0) = b6
  generalize decide (y % 100 = 0) = b7
  generalize decide (y % 400 = 0) = b8
  cases b6 <;> cases b7 <;> cases b8 <;> rfl
theorem dec_one {n : Int} : decD (n % 10) = [dg n] := by
  rw [decD_eq, Lib.decDigits, dif_pos (by omega)]; rfl
theorem iDig_loop (k : Bytes → Option Rs) : ∀ (j : Nat) (N : Int) (out : Bytes) (n : Nat), j < n → 0 ≤ N → N ≤ 999999999999999 → out.length + j ≤ 1000 → iDig_F2 n N (j : Int) out k = k (padP j N ++ out) := by
  intro j; induction j with
  | zero => intro N out n hn h0 h1 h2; obtain ⟨n, rfl⟩ := fuel hn; unfold iDig_F2 iDig_T2; rw [decide_eq_false (by simp)]; rfl
  | succ j ih =>
    intro N out n hn h0 h1 h2; obtain ⟨n, rfl⟩ := fuel hn
    have e0 : decide ((0 : Int) < ((j + 1 : Nat) : Int)) = true := decide_eq_true (by omega)
    have e1 : num15 (N % 10) = true := by unfold num15; rw [decide_eq_true (by omega), decide_eq_true (by omega)]; rfl
    have e2 : Int.tdiv N 10 = N / 10 := Int.tdiv_eq_ediv_of_nonneg h0
    have e3 : decide (([dg N].length + out.length) ≤ 9223372036854775807) = true := decide_eq_true (by simp only [List.length_singleton]; omega)
    have e4 : wk64 (((j + 1 : Nat) : Int) - 1) = (j : Int) := by rw [w64 (by omega) (by omega)]; omega
    unfold iDig_F2 iDig_T2
    rw [leap_t h0, dec_one, e2, w64 (n := N / 10) (by omega) (by omega), e4]
    simp only [e0, e1, e3, cond_true]
    rw [ih (N / 10) ([dg N] ++ out) n (by omega) (by omega) (by omega) (by simp only [List.length_append, List.length_singleton]; omega)]
    rw [show padP (j + 1) N = padP j (N / 10) ++ [dg N] from rfl, List.append_assoc]
def dgB (n k : Int) : Bool := num15 n && (decide (0 ≤ k) && decide (k ≤ 100))
theorem num15_le {n : Int} (h : num15 n = true) : 0 ≤ n ∧ n ≤ 999999999999999 := by unfold num15 at h; rw [Bool.and_eq_true, decide_eq_true_eq, decide_eq_true_eq] at h; exact h
theorem iDig_okQ : Sound Kx 206 (j2_s dgB fun n k => .str (padP k.toNat n)) := by
  refine (iDig_okOf (φ := fun n k => .ite (dgB n k) (.ret (.str (padP k.toNat n)) []) .fail) (fun _ k => k.toNat + 1) fun n k r h => ?_).of fun args objs r h => ?_
  · obtain ⟨h1, h2⟩ := ite_some h
    cases h2
    unfold dgB at h1
    rw [Bool.and_eq_true, Bool.and_eq_true, decide_eq_true_eq, decide_eq_true_eq] at h1
    obtain ⟨g1, g2⟩ := num15_le h1.1
    unfold iDig_run
    have e : k = ((k.toNat : Nat) : Int) := by omega
    have := iDig_loop (fun x => some (.str x, [])) k.toNat n [] (k.toNat + 1) (by omega) g1 g2 (by simp only [List.length_nil]; omega)
    rw [← e, List.append_nil] at this
    exact this
  · unfold j2_s at h; split at h
    · exact h
    · cases h
def dayT : List Bytes := [[77, 111, 110, 100, 97, 121], [84, 117, 101, 115, 100, 97, 121], [87, 101, 100, 110, 101, 115, 100, 97, 121], [84, 104, 117, 114, 115, 100, 97, 121], [70, 114, 105, 100, 97, 121], [83, 97, 116, 117, 114, 100, 97, 121], [83, 117, 110, 100, 97, 121]]
def monL : List Bytes := [[74, 97, 110], [70, 101, 98], [77, 97, 114], [65, 112, 114], [77, 97, 121], [74, 117, 110], [74, 117, 108], [65, 117, 103], [83, 101, 112], [79, 99, 116], [78, 111, 118], [68, 101, 99]]
def l0_s (l : List Bytes) : List AV → List Ob → Br
  | [], [] => .ret (.ref 0 0) [.arr .str 0 false l]
  | _, _ => .fail
theorem iDays_okQ : Sound Kx 204 (l0_s dayT) := iDays_ok.of fun args objs r h => by
  unfold l0_s at h; split at h
  · rw [← h]; rfl
  · cases h
theorem iMons_okQ : Sound Kx 198 (l0_s monL) := iMons_ok.of fun args objs r h => by
  unfold l0_s at h; split at h
  · rw [← h]; rfl
  · cases h
theorem sDayN_okQ : Sound Kx 144 (j1_s (fun _ => true) fun k => .str (dayN k)) := of_j1 sDayN_ok fun k h => by
  show (sDayN_br k).val = some (.str (dayN k), [])
  unfold sDayN_br dayN
  generalize decide (k = 0) = b0
  generalize decide (k = 1) = b1
  generalize decide (k = 2) = b2
  generalize decide (k = 3) = b3
  generalize decide (k = 4) = b4
  generalize decide (k = 5) = b5
  cases b0 <;> cases b1 <;> cases b2 <;> cases b3 <;> cases b4 <;> cases b5 <;> rfl
def moB (m : Int) : Bool := decide (1 ≤ m) && decide (m ≤ 12)
theorem moB_le {m : Int} (h : moB m = true) : 1 ≤ m ∧ m ≤ 12 := by unfold moB at h; rw [Bool.and_eq_true, decide_eq_true_eq, decide_eq_true_eq] at h; exact h
theorem sMonN_okQ : Sound Kx 142 (j1_s moB fun m => .str (monN m)) := of_j1 sMonN_ok fun m h => by
  obtain ⟨h1, h2⟩ := moB_le h
  show (sMonN_br m).val = some (.str (monN m), [])
  unfold sMonN_br
  rw [w64 (n := 3 * m) (by omega) (by omega), w64 (n := 3 * m - 3) (by omega) (by omega)]
  have e1 : decide ((0 : Int) ≤ 3 * m - 3) = true := decide_eq_true (by omega)
  have e2 : decide (3 * m - 3 ≤ 3 * m) = true := decide_eq_true (by omega)
  have e3 : decide (3 * m ≤ 36) = true := decide_eq_true (by omega)
  simp only [Br.val, e1, e2, e3]
  rfl
theorem pad_zero : ∀ k : Nat, padP k 0 = List.replicate k 48
  | 0 => rfl
  | k + 1 => by
    unfold padP
    rw [show (0 : Int) / 10 = 0 from rfl, pad_zero k, List.replicate_succ']
    rfl
theorem pad_dec : ∀ (k : Nat) (n : Int), 1 ≤ k → 0 ≤ n → n < 10 ^ k → padP k n = List.replicate (k - (decD n).length) 48 ++ decD n
  | 0, n, h, _, _ => by omega
  | k + 1, n, h, h0, h1 => by
    by_cases c : n < 10
    · have e : decD n = [dg n] := by
        have := dec_one (n := n)
        rw [show n % 10 = n by omega] at this
        exact this
      unfold padP
      rw [show n / 10 = 0 by omega, pad_zero, e]
      rfl
    · have e : decD n = decD (n / 10) ++ [dg n] := by
        rw [decD_eq, decD_eq, Lib.decDigits, dif_neg (by omega)]
        have t : n.toNat / 10 = (n / 10).toNat := by omega
        rw [t]
        congr 2
        unfold dg
        congr 1
        omega
      have hk : 1 ≤ k := by
        rcases Nat.eq_zero_or_pos k with rfl | hk
        · simp at h1; omega
        · exact hk
      have ih := pad_dec k (n / 10) hk (by omega) (by rw [Int.pow_succ] at h1; omega)
      unfold padP
      rw [ih, e, List.append_assoc, List.length_append, List.length_singleton, show k + 1 - ((decD (n / 10)).length + 1) = k - (decD (n / 10)).length by omega]
theorem sPad_loop (k : Nat) (hk : k ≤ 100) (K : Bytes → Option Rs) : ∀ (j : Nat) (s : Bytes) (n : Nat), k - s.length = j → j < n → s.length ≤ 1000 → sPad_F2 n (k : Int) s K = K (List.replicate (k - s.length) 48 ++ s) := by
  intro j; induction j with
  | zero =>
    intro s n hj hn hs; obtain ⟨n, rfl⟩ := fuel hn; unfold sPad_F2 sPad_T2
    rw [decide_eq_false (by omega), cond_false, hj]; rfl
  | succ j ih =>
    intro s n hj hn hs; obtain ⟨n, rfl⟩ := fuel hn
    have e0 : decide ((s.length : Int) < (k : Int)) = true := decide_eq_true (by omega)
    have e1 : decide (1 + s.length ≤ 9223372036854775807) = true := decide_eq_true (by omega)
    unfold sPad_F2 sPad_T2
    rw [e0, e1, cond_true, cond_true]
    show sPad_F2 n (k : Int) ([48] ++ s) K = _
    rw [ih ([48] ++ s) n (by simp only [List.length_append, List.length_singleton]; omega) (by omega) (by simp only [List.length_append, List.length_singleton]; omega)]
    congr 1
    rw [List.length_append, List.length_singleton, show k - s.length = (k - (1 + s.length)) + 1 by omega, List.replicate_succ', List.append_assoc]
def pdB (n k : Int) : Bool := bif decide (k = 2) then decide (0 ≤ n) && decide (n ≤ 99) else bif decide (k = 4) then decide (0 ≤ n) && decide (n ≤ 9999) else false
theorem pdB_le {n k : Int} (h : pdB n k = true) : (k = 2 ∧ 0 ≤ n ∧ n ≤ 99) ∨ (k = 4 ∧ 0 ≤ n ∧ n ≤ 9999) := by
  unfold pdB at h
  by_cases c : k = 2
  · rw [decide_eq_true c, cond_true, Bool.and_eq_true, decide_eq_true_eq, decide_eq_true_eq] at h
    exact .inl ⟨c, h⟩
  · by_cases c4 : k = 4
    · rw [decide_eq_false c, decide_eq_true c4, cond_false, cond_true, Bool.and_eq_true, decide_eq_true_eq, decide_eq_true_eq] at h
      exact .inr ⟨c4, h⟩
    · rw [decide_eq_false c, decide_eq_false c4] at h; cases h
theorem sPad_okQ : Sound Kx 146 (j2_s pdB fun n k => .str (padP k.toNat n)) := by
  refine (sPad_okOf (φ := fun n k => .ite (pdB n k) (.ret (.str (padP k.toNat n)) []) .fail) (fun _ k => k.toNat + 1) fun n k r h => ?_).of fun args objs r h => ?_
  · obtain ⟨h1, h2⟩ := ite_some h
    cases h2
    have g := pdB_le h1
    have e15 : num15 n = true := by unfold num15; rw [decide_eq_true (by omega), decide_eq_true (by omega)]; rfl
    have hp : padP k.toNat n = List.replicate (k.toNat - (decD n).length) 48 ++ decD n := pad_dec _ _ (by omega) (by omega) (by rcases g with ⟨rfl, _, _⟩ | ⟨rfl, _, _⟩ <;> simp <;> omega)
    have hl : (decD n).length ≤ 15 := by rw [decD_eq]; exact dec_len15 _ (by omega)
    have e : k = ((k.toNat : Nat) : Int) := by omega
    unfold sPad_run
    rw [e15, cond_true, hp]
    have := sPad_loop k.toNat (by omega) (fun x => some (.str x, [])) _ (decD n) (k.toNat + 1) rfl (by omega) (by omega)
    rw [← e] at this
    exact this
  · unfold j2_s at h; split at h
    · exact h
    · cases h
def runR : Nat → Int → Bytes → Int × Bytes
  | _, n, [] => (n, [])
  | j, n, c :: r => bif isDig (by8 c) then (bif decide (j < 9) then runR (j + 1) (10 * n + (by8 c - 48)) r else (n, c :: r)) else (n, c :: r)
theorem numG_run : ∀ (r : Bytes) (j : Nat) (n : Int), numG (some (n, j)) r = (runR j n r).1 :: numG none (runR j n r).2
  | [], j, n => rfl
  | c :: r, j, n => by
    unfold runR
    cases hd : isDig (by8 c)
    · simp only [numG, hd, cond_false]
    · by_cases h9 : j < 9
      · simp only [numG, hd, cond_true, decide_eq_true h9]
        exact numG_run r (j + 1) _
      · simp only [numG, hd, cond_true, decide_eq_false h9, cond_false]
theorem run_suf : ∀ (r : Bytes) (j : Nat) (n : Int), ∃ p, r = p ++ (runR j n r).2
  | [], j, n => ⟨[], rfl⟩
  | c :: r, j, n => by
    unfold runR
    cases hd : isDig (by8 c)
    · exact ⟨[], rfl⟩
    · by_cases h9 : j < 9
      · rw [decide_eq_true h9]
        obtain ⟨p, hp⟩ := run_suf r (j + 1) (10 * n + (by8 c - 48))
        exact ⟨c :: p, by rw [cond_true, cond_true, List.cons_append, ← hp]⟩
      · rw [decide_eq_false h9]; exact ⟨[], rfl⟩
theorem dig_bd {c : UInt8} (h : isDig (by8 c) = true) : 48 ≤ by8 c ∧ by8 c ≤ 57 := by
  unfold isDig at h; rw [Bool.and_eq_true, decide_eq_true_eq, decide_eq_true_eq] at h; exact h
theorem pow9 {j : Nat} (h : j ≤ 9) : (10 : Int) ^ j ≤ 1000000000 := by
  have : j = 0 ∨ j = 1 ∨ j = 2 ∨ j = 3 ∨ j = 4 ∨ j = 5 ∨ j = 6 ∨ j = 7 ∨ j = 8 ∨ j = 9 := by omega
  rcases this with rfl | rfl | rfl | rfl | rfl | rfl | rfl | rfl | rfl | rfl <;> decide
theorem w8d {n : Int} (h0 : 0 ≤ n) (h1 : n ≤ 255) : wk8 n = n := w8 (by omega) (by omega)
theorem iNums7_loop (s : Bytes) (hl : s.length ≤ 4611686018427387904) (i : Int) (out : List Int) (K : Bytes → Int → Int → Int → List Int → Option Rs) : ∀ (r : Bytes) (j : Nat) (n k : Int) (m : Nat), At s k r → k = i + j → 0 ≤ i → r.length < m → j ≤ 9 → 0 ≤ n → n < 10 ^ j →
    iNums_F7 m s i k n out K = K s i ((s.length : Int) - (runR j n r).2.length) (runR j n r).1 out := by
  intro r; induction r with
  | nil =>
    intro j n k m h hk hi hm hj h0 h1; obtain ⟨m, rfl⟩ := fuel hm; unfold iNums_F7 iNums_T7
    rw [h.dge, cond_false]
    have := h.ge
    show K s i k n out = K s i ((s.length : Int) - (([] : Bytes).length : Int)) n out
    rw [this]; simp
  | cons c r ih =>
    intro j n k m h hk hi hm hj h0 h1; obtain ⟨m, rfl⟩ := fuel hm
    simp only [List.length_cons] at hm
    have hle := h.le
    simp only [List.length_cons] at hle
    have hp := pow9 hj
    unfold iNums_F7 iNums_T7 runR
    simp only [h.dlt, h.dnn, h.str, cond_true]
    cases hd : isDig (by8 c)
    · simp only [cond_false]
      congr 1
      simp only [List.length_cons]; omega
    · obtain ⟨d0, d1⟩ := dig_bd hd
      rw [w64 (n := k - i) (by omega) (by omega), w8d (by omega) (by omega), w64 (n := by8 c - 48) (by omega) (by omega), w64 (n := 10 * n) (by omega) (by omega), w64 (n := 10 * n + (by8 c - 48)) (by omega) (by omega), h.next hl]
      by_cases h9 : j < 9
      · rw [decide_eq_true h9, decide_eq_true (show k - i < 9 by omega)]
        simp only [cond_true]
        exact ih (j + 1) _ (k + 1) m h.step (by omega) hi (by omega) (by omega) (by omega) (by rw [Int.pow_succ]; omega)
      · rw [decide_eq_false h9, decide_eq_false (show ¬ k - i < 9 by omega)]
        simp only [cond_true, cond_false]
        congr 1
        simp only [List.length_cons]; omega
theorem iNums3_loop (M : Nat) (s : Bytes) (hl : s.length ≤ 1000000) (K : List Int → Option Rs) : ∀ (u : Nat) (r : Bytes) (i : Int) (out : List Int) (n : Nat), r.length ≤ u → At s i r → u < n → s.length < M → out.length + r.length ≤ 1000000 →
    iNums_F3 M n s i out K = K (out ++ numG none r) := by
  intro u; induction u with
  | zero =>
    intro r i out n hu h hn hN ho; obtain ⟨n, rfl⟩ := fuel hn
    obtain rfl : r = [] := List.length_eq_zero_iff.1 (by omega)
    unfold iNums_F3 iNums_T3
    rw [h.dge, cond_false]; simp [numG]
  | succ u ih =>
    intro r i out n hu h hn hN ho; obtain ⟨n, rfl⟩ := fuel hn
    cases r with
    | nil => unfold iNums_F3 iNums_T3; rw [h.dge, cond_false]; simp [numG]
    | cons c r =>
      have hle := h.le
      have hnn := h.nn
      unfold iNums_F3 iNums_T3
      rw [h.dlt, cond_true, iNums7_loop s (by omega) i out _ (c :: r) 0 0 i M h (by simp) hnn (by simp only [List.length_cons] at hle ⊢; omega) (by omega) (by omega) (by decide)]
      simp only [List.length_cons] at hle hu ho
      cases hd : isDig (by8 c)
      · have e : runR 0 0 (c :: r) = (0, c :: r) := by unfold runR; rw [hd]; rfl
        have e2 : numG none (c :: r) = numG none r := by simp only [numG, hd, cond_false]
        rw [e, e2]
        simp only [List.length_cons]
        rw [decide_eq_false (show ¬ i < (s.length : Int) - ((r.length + 1 : Nat) : Int) by omega), cond_false, h.next (by omega)]
        exact ih r (i + 1) out n (by omega) h.step (by omega) hN (by omega)
      · have e : runR 0 0 (c :: r) = runR 1 (10 * 0 + (by8 c - 48)) r := by
          rw [runR]; rw [hd]; rfl
        have e2 : numG none (c :: r) = (runR 0 0 (c :: r)).1 :: numG none (runR 0 0 (c :: r)).2 := by
          rw [e, ← numG_run]
          simp only [numG, hd, cond_true]
          rw [show 10 * 0 + (by8 c - 48) = by8 c - 48 by omega]
        obtain ⟨p, hp⟩ := run_suf r 1 (10 * 0 + (by8 c - 48))
        rw [← e] at hp
        have hpl : r.length = p.length + (runR 0 0 (c :: r)).2.length := by rw [← List.length_append, ← hp]
        rw [e2]
        generalize (runR 0 0 (c :: r)).1 = v at *
        generalize hq : (runR 0 0 (c :: r)).2 = q at *
        have hs : At s ((s.length : Int) - (q.length : Int)) q := by
          obtain ⟨z, hz, hzi⟩ := h
          refine ⟨z ++ c :: p, ?_, ?_⟩
          · rw [hz, hp]; simp
          · rw [hz, hp]; simp; omega
        have e4 : List.set (List.replicate (1 : Nat) (0 : Int)) 0 v = [v] := rfl
        have e5 : decide ((out.length + [v].length) * 8 ≤ 140737488355328) = true := decide_eq_true (by simp only [List.length_singleton]; omega)
        simp only [e4, e5]
        rw [decide_eq_true (show i < (s.length : Int) - (q.length : Int) by omega), cond_true, cond_true, w64 (n := (s.length : Int) - (q.length : Int) - 1) (by omega) (by omega),
          show (s.length : Int) - (q.length : Int) - 1 + 1 = (s.length : Int) - (q.length : Int) by omega, w64 (n := (s.length : Int) - (q.length : Int)) (by omega) (by omega)]
        refine (ih q _ (out ++ [v]) n (by omega) hs (by omega) hN (by simp only [List.length_append, List.length_singleton]; omega)).trans ?_
        rw [List.append_assoc]; rfl
def nums_s : List AV → List Ob → Br
  | [.str s], [] => .ite (decide (s.length ≤ 100000)) (.ret (.ref 0 0) [.arr (.int .i64) 0 false (numsP s)]) .fail
  | _, _ => .fail
theorem iNums_okQ : Sound Kx 151 nums_s := by
  refine (iNums_okOf (φ := fun s => .ite (decide (s.length ≤ 100000)) (.ret (.ref 0 0) [.arr (.int .i64) 0 false (numsP s)]) .fail) (fun s => s.length + 1) fun s r h => ?_).of fun args objs r h => ?_
  · obtain ⟨h1, h2⟩ := ite_some h
    cases h2
    rw [decide_eq_true_eq] at h1
    unfold iNums_run
    exact iNums3_loop (s.length + 1) s (by omega) _ s.length s 0 [] (s.length + 1) (Nat.le_refl _) (At.start s) (by omega) (by omega) (by simp only [List.length_nil]; omega)
  · unfold nums_s at h; split at h
    · exact h
    · cases h
theorem pow12 {j : Nat} (h : j ≤ 12) : (10 : Int) ^ j ≤ 1000000000000 := by
  have : j = 0 ∨ j = 1 ∨ j = 2 ∨ j = 3 ∨ j = 4 ∨ j = 5 ∨ j = 6 ∨ j = 7 ∨ j = 8 ∨ j = 9 ∨ j = 10 ∨ j = 11 ∨ j = 12 := by omega
  rcases this with rfl | rfl | rfl | rfl | rfl | rfl | rfl | rfl | rfl | rfl | rfl | rfl | rfl <;> decide
theorem sNum_loop (s : Bytes) (z : Option Rs) (K : Int → Option Rs) : ∀ (r : Bytes) (j : Nat) (i v : Int) (n : Nat), At s i r → r.length < n → j + r.length ≤ 12 → s.length ≤ 12 → 0 ≤ v → v < 10 ^ j →
    sNum_F3 n s v i (fun _ => z) K = bif allP spDig r then K (numF r v) else z := by
  intro r; induction r with
  | nil => intro j i v n h hn hj hl h0 h1; obtain ⟨n, rfl⟩ := fuel hn; unfold sNum_F3 sNum_T3; rw [h.dge, cond_false]; rfl
  | cons c r ih =>
    intro j i v n h hn hj hl h0 h1; obtain ⟨n, rfl⟩ := fuel hn
    simp only [List.length_cons] at hn hj
    have hp := pow12 (j := j) (by omega)
    unfold sNum_F3 sNum_T3
    simp only [h.dlt, h.dnn, h.str, cond_true, h.next (show s.length ≤ 4611686018427387904 by omega)]
    have ea : allP spDig (c :: r) = (spDig (by8 c) && allP spDig r) := rfl
    have ef : numF (c :: r) v = numF r (numStep v c) := rfl
    rw [ea, ef]
    by_cases c32 : by8 c = 32
    · have e1 : spDig (by8 c) = true := by unfold spDig; rw [decide_eq_true c32]; rfl
      have e2 : numStep v c = v * 10 := by unfold numStep; rw [decide_eq_true c32]; rfl
      rw [decide_eq_true c32, cond_true, e1, e2, w64 (n := v * 10) (by omega) (by omega), Bool.true_and]
      exact ih (j + 1) (i + 1) (v * 10) n h.step (by omega) (by omega) hl (by omega) (by rw [Int.pow_succ]; omega)
    · have e1 : spDig (by8 c) = isDig (by8 c) := by unfold spDig; rw [decide_eq_false c32]; rfl
      have e2 : numStep v c = v * 10 + (by8 c - 48) := by unfold numStep; rw [decide_eq_false c32]; rfl
      rw [decide_eq_false c32, cond_false, e1, e2]
      cases hd : isDig (by8 c)
      · rfl
      · obtain ⟨d0, d1⟩ := dig_bd hd
        rw [w8d (by omega) (by omega), w64 (n := by8 c - 48) (by omega) (by omega), w64 (n := v * 10) (by omega) (by omega), w64 (n := v * 10 + (by8 c - 48)) (by omega) (by omega), Bool.true_and]
        exact ih (j + 1) (i + 1) _ n h.step (by omega) (by omega) hl (by omega) (by rw [Int.pow_succ]; omega)
def num_s : List AV → List Ob → Br
  | [.str s], [] => .ite (decide (s.length ≤ 12)) (.ret (.int .i64 (numS s)) []) .fail
  | _, _ => .fail
theorem sNum_okQ : Sound Kx 83 num_s := by
  refine (sNum_okOf (φ := fun s => .ite (decide (s.length ≤ 12)) (.ret (.int .i64 (numS s)) []) .fail) (fun s => s.length + 1) fun s r h => ?_).of fun args objs r h => ?_
  · obtain ⟨h1, h2⟩ := ite_some h
    cases h2
    rw [decide_eq_true_eq] at h1
    unfold sNum_run numS
    refine (sNum_loop s _ _ s 0 0 0 (s.length + 1) (At.start s) (by omega) (by omega) h1 (by omega) (by decide)).trans ?_
    cases allP spDig s <;> rfl
  · unfold num_s at h; split at h
    · exact h
    · cases h
theorem numF_bd : ∀ (r : Bytes) (j : Nat) (v : Int), allP spDig r = true → 0 ≤ v → v < 10 ^ j → 0 ≤ numF r v ∧ numF r v < 10 ^ (j + r.length)
  | [], j, v, _, h0, h1 => ⟨h0, h1⟩
  | c :: r, j, v, ha, h0, h1 => by
    have ea : allP spDig (c :: r) = (spDig (by8 c) && allP spDig r) := rfl
    rw [ea, Bool.and_eq_true] at ha
    have hb : 0 ≤ numStep v c ∧ numStep v c < 10 ^ (j + 1) := by
      unfold numStep
      rw [Int.pow_succ]
      by_cases c32 : by8 c = 32
      · rw [decide_eq_true c32, cond_true]; omega
      · have hd := ha.1
        unfold spDig at hd
        rw [decide_eq_false c32, Bool.false_or] at hd
        obtain ⟨d0, d1⟩ := dig_bd hd
        rw [decide_eq_false c32, cond_false]; omega
    have := numF_bd r (j + 1) (numStep v c) ha.2 hb.1 hb.2
    rw [show j + (c :: r).length = j + 1 + r.length by simp only [List.length_cons]; omega]
    exact this
theorem numS_bd (s : Bytes) (h : s.length ≤ 4) : -1 ≤ numS s ∧ numS s ≤ 9999 := by
  unfold numS
  cases ha : allP spDig s
  · rw [cond_false]; omega
  · rw [cond_true]
    obtain ⟨h0, h1⟩ := numF_bd s 0 0 ha (by omega) (by decide)
    have : s.length = 0 ∨ s.length = 1 ∨ s.length = 2 ∨ s.length = 3 ∨ s.length = 4 := by omega
    rcases this with e | e | e | e | e <;> rw [e] at h1 <;> simp at h1 <;> omega
theorem run_bd : ∀ (r : Bytes) (j : Nat) (n : Int), j ≤ 9 → 0 ≤ n → n < 10 ^ j → 0 ≤ (runR j n r).1 ∧ (runR j n r).1 < 1000000000
  | [], j, n, hj, h0, h1 => by have := pow9 hj; exact ⟨h0, by show n < _; omega⟩
  | c :: r, j, n, hj, h0, h1 => by
    have hp := pow9 hj
    unfold runR
    cases hd : isDig (by8 c)
    · exact ⟨h0, by show n < _; omega⟩
    · obtain ⟨d0, d1⟩ := dig_bd hd
      by_cases h9 : j < 9
      · rw [decide_eq_true h9]
        exact run_bd r (j + 1) _ (by omega) (by omega) (by rw [Int.pow_succ]; omega)
      · rw [decide_eq_false h9]; exact ⟨h0, by show n < _; omega⟩
theorem nums_bd : ∀ (u : Nat) (r : Bytes), r.length ≤ u → ∀ x ∈ numG none r, 0 ≤ x ∧ x < 1000000000
  | 0, r, hu, x, hx => by
    obtain rfl : r = [] := List.length_eq_zero_iff.1 (by omega)
    simp [numG] at hx
  | u + 1, [], hu, x, hx => by simp [numG] at hx
  | u + 1, c :: r, hu, x, hx => by
    simp only [List.length_cons] at hu
    cases hd : isDig (by8 c)
    · have e2 : numG none (c :: r) = numG none r := by simp only [numG, hd, cond_false]
      rw [e2] at hx
      exact nums_bd u r (by omega) x hx
    · obtain ⟨d0, d1⟩ := dig_bd hd
      have e2 : numG none (c :: r) = (runR 1 (by8 c - 48) r).1 :: numG none (runR 1 (by8 c - 48) r).2 := by
        rw [← numG_run]; simp only [numG, hd, cond_true]
      rw [e2] at hx
      rcases List.mem_cons.1 hx with rfl | hx
      · exact run_bd r 1 _ (by omega) (by omega) (by omega)
      · obtain ⟨p, hp⟩ := run_suf r 1 (by8 c - 48)
        have hpl : r.length = p.length + (runR 1 (by8 c - 48) r).2.length := by rw [← List.length_append, ← hp]
        exact nums_bd u _ (by omega) x hx
theorem numsP_bd (s : Bytes) (i : Nat) : 0 ≤ (numsP s).getD i 0 ∧ (numsP s).getD i 0 < 1000000000 := by
  by_cases h : i < (numsP s).length
  · rw [List.getD_eq_getElem?_getD, List.getElem?_eq_getElem h]
    exact nums_bd _ s (Nat.le_refl _) _ (List.getElem_mem h)
  · rw [List.getD_eq_getElem?_getD, List.getElem?_eq_none (by omega)]; decide

def sDays_C : SC := [⟨240, _, sLeap_okQ⟩]
def sDays_br (y m : Int) : Br := (Br.ite (decide (m = 2)) (Br.ite (yrB y) (Br.ite (leapB y) (Br.ret (AV.int .i64 29) []) (Br.ret (AV.int .i64 28) [])) Br.fail) (Br.ite (decide (m = 4)) (Br.ret (AV.int .i64 30) []) (Br.ite (decide (m = 6)) (Br.ret (AV.int .i64 30) []) (Br.ite (decide (m = 9)) (Br.ret (AV.int .i64 30) []) (Br.ite (decide (m = 11)) (Br.ret (AV.int .i64 30) []) (Br.ret (AV.int .i64 31) []))))))
def sDays_s : List AV → List Ob → Br
  | [.int .i64 y, .int .i64 m], [] => sDays_br y m
  | _, _ => .fail
theorem sDays_ok : Sound Kx 196 sDays_s := sound_br (C := sDays_C) (O := O0) Tryz.func196 (by kernel_rfl) fun args objs => by
  unfold sDays_s; split
  · exact .inr (by kernel_rfl)
  · exact .inl rfl

def sYear_C : SC := [⟨240, _, sLeap_okQ⟩]
def sYear_br (y : Int) : Br := (Br.ite (yrB y) (Br.ite (leapB y) (Br.ret (AV.int .i64 366) []) (Br.ret (AV.int .i64 365) [])) Br.fail)
def sYear_s : List AV → List Ob → Br
  | [.int .i64 y], [] => sYear_br y
  | _, _ => .fail
theorem sYear_ok : Sound Kx 195 sYear_s := sound_br (C := sYear_C) (O := O0) Tryz.func195 (by kernel_rfl) fun args objs => by
  unfold sYear_s; split
  · exact .inr (by kernel_rfl)
  · exact .inl rfl

def iCivOk_O : Opt := { split := true }
def iCivOk_C : SC := [⟨149, _, iwithin_ok⟩, ⟨202, _, iDO_okQ⟩]
def iCivOk_br (y m d h i s : Int) : Br := (Br.ite (decide (1970 ≤ y)) (Br.ite (decide (y ≤ 9999)) (Br.ite (decide (1 ≤ m)) (Br.ite (decide (m ≤ 12)) (Br.ite (yrB y) (Br.ite (decide (1 ≤ d)) (Br.ite (decide (d ≤ (mLen y m))) (Br.ite (decide (0 ≤ h)) (Br.ite (decide (h ≤ 23)) (Br.ite (decide (0 ≤ i)) (Br.ite (decide (i ≤ 59)) (Br.ite (decide (0 ≤ s)) (Br.ite (decide (s ≤ 59)) (Br.ret (AV.bool true) []) (Br.ret (AV.bool false) [])) (Br.ret (AV.bool false) [])) (Br.ret (AV.bool false) [])) (Br.ret (AV.bool false) [])) (Br.ret (AV.bool false) [])) (Br.ret (AV.bool false) [])) (Br.ret (AV.bool false) [])) (Br.ret (AV.bool false) [])) Br.fail) (Br.ret (AV.bool false) [])) (Br.ret (AV.bool false) [])) (Br.ret (AV.bool false) [])) (Br.ret (AV.bool false) []))
def iCivOk_s : List AV → List Ob → Br
  | [.agg [.int .i64 y, .int .i64 m, .int .i64 d, .int .i64 h, .int .i64 i, .int .i64 s]], [] => iCivOk_br y m d h i s
  | _, _ => .fail
theorem iCivOk_ok : Sound Kx 200 iCivOk_s := sound_br (C := iCivOk_C) (O := iCivOk_O) Tryz.func200 (by kernel_rfl) fun args objs => by
  unfold iCivOk_s; split
  · exact .inr (by kernel_rfl)
  · exact .inl rfl

def iWk_C : SC := [⟨89, _, iTime_okQ⟩]
def iWk_br (t : Int) : Br := (Br.ite (!(timB t)) (Br.ret (AV.int .i64 (-1)) []) (Br.ret (AV.int .i64 (Int.tmod (wk64 ((wk64 (Int.tdiv t 86400)) + 3)) 7)) []))
def iWk_s : List AV → List Ob → Br
  | [.int .i64 t], [] => iWk_br t
  | _, _ => .fail
theorem iWk_ok : Sound Kx 205 iWk_s := sound_br (C := iWk_C) (O := O0) Tryz.func205 (by kernel_rfl) fun args objs => by
  unfold iWk_s; split
  · exact .inr (by kernel_rfl)
  · exact .inl rfl

def sWk_C : SC := [⟨79, _, sTime_okQ⟩]
def sWk_br (t : Int) : Br := (Br.ite (!(timB t)) (Br.ret (AV.int .i64 (-1)) []) (Br.ret (AV.int .i64 (Int.tmod (wk64 ((wk64 (Int.tdiv t 86400)) + 3)) 7)) []))
def sWk_s : List AV → List Ob → Br
  | [.int .i64 t], [] => sWk_br t
  | _, _ => .fail
theorem sWk_ok : Sound Kx 145 sWk_s := sound_br (C := sWk_C) (O := O0) Tryz.func145 (by kernel_rfl) fun args objs => by
  unfold sWk_s; split
  · exact .inr (by kernel_rfl)
  · exact .inl rfl

def iClk_C : SC := [⟨206, _, iDig_okQ⟩]
def iClk_br (y m d h i s : Int) : Br := (Br.ite (dgB h 2) (Br.ite (decide (((List.length (padP 2 h)) + 1) ≤ 9223372036854775807)) (Br.ite (dgB i 2) (Br.ite (decide (((List.length ((padP 2 h) ++ ([58] : Bytes))) + (List.length (padP 2 i))) ≤ 9223372036854775807)) (Br.ite (decide (((List.length (((padP 2 h) ++ ([58] : Bytes)) ++ (padP 2 i))) + 1) ≤ 9223372036854775807)) (Br.ite (dgB s 2) (Br.ite (decide (((List.length ((((padP 2 h) ++ ([58] : Bytes)) ++ (padP 2 i)) ++ ([58] : Bytes))) + (List.length (padP 2 s))) ≤ 9223372036854775807)) (Br.ret (AV.str (((((padP 2 h) ++ ([58] : Bytes)) ++ (padP 2 i)) ++ ([58] : Bytes)) ++ (padP 2 s))) []) Br.fail) Br.fail) Br.fail) Br.fail) Br.fail) Br.fail) Br.fail)
def iClk_s : List AV → List Ob → Br
  | [.agg [.int .i64 y, .int .i64 m, .int .i64 d, .int .i64 h, .int .i64 i, .int .i64 s]], [] => iClk_br y m d h i s
  | _, _ => .fail
theorem iClk_ok : Sound Kx 207 iClk_s := sound_br (C := iClk_C) (O := O0) Tryz.func207 (by kernel_rfl) fun args objs => by
  unfold iClk_s; split
  · exact .inr (by kernel_rfl)
  · exact .inl rfl

def sClk_C : SC := [⟨146, _, sPad_okQ⟩]
def sClk_br (y m d h i s : Int) : Br := (Br.ite (pdB h 2) (Br.ite (decide (((List.length (padP 2 h)) + 1) ≤ 9223372036854775807)) (Br.ite (pdB i 2) (Br.ite (decide (((List.length ((padP 2 h) ++ ([58] : Bytes))) + (List.length (padP 2 i))) ≤ 9223372036854775807)) (Br.ite (decide (((List.length (((padP 2 h) ++ ([58] : Bytes)) ++ (padP 2 i))) + 1) ≤ 9223372036854775807)) (Br.ite (pdB s 2) (Br.ite (decide (((List.length ((((padP 2 h) ++ ([58] : Bytes)) ++ (padP 2 i)) ++ ([58] : Bytes))) + (List.length (padP 2 s))) ≤ 9223372036854775807)) (Br.ret (AV.str (((((padP 2 h) ++ ([58] : Bytes)) ++ (padP 2 i)) ++ ([58] : Bytes)) ++ (padP 2 s))) []) Br.fail) Br.fail) Br.fail) Br.fail) Br.fail) Br.fail) Br.fail)
def sClk_s : List AV → List Ob → Br
  | [.agg [.int .i64 y, .int .i64 m, .int .i64 d, .int .i64 h, .int .i64 i, .int .i64 s]], [] => sClk_br y m d h i s
  | _, _ => .fail
theorem sClk_ok : Sound Kx 147 sClk_s := sound_br (C := sClk_C) (O := O0) Tryz.func147 (by kernel_rfl) fun args objs => by
  unfold sClk_s; split
  · exact .inr (by kernel_rfl)
  · exact .inl rfl

theorem sDays_okQ : Sound Kx 196 (j2_s (fun y _ => yrB y) fun y m => .int .i64 (mLen y m)) := of_j2 sDays_ok fun y m h => by
  show (sDays_br y m).val = some (.int .i64 (mLen y m), [])
  unfold sDays_br mLen
  rw [h]
  generalize decide (m = 2) = b1
  generalize decide (m = 4) = b2
  generalize decide (m = 6) = b3
  generalize decide (m = 9) = b4
  generalize decide (m = 11) = b5
  generalize leapB y = b6
  cases b1 <;> cases b2 <;> cases b3 <;> cases b4 <;> cases b5 <;> cases b6 <;> rfl
theorem sYear_okQ : Sound Kx 195 (j1_s yrB fun y => .int .i64 (yLen y)) := of_j1 sYear_ok fun y h => by
  show (sYear_br y).val = some (.int .i64 (yLen y), [])
  unfold sYear_br yLen
  rw [h]
  cases leapB y <;> rfl
def cvM (y m d h i s : Int) : Cv := ⟨y, m, d, h, i, s⟩
def cv_s (g : Cv → Bool) (p : Cv → AV) : List AV → List Ob → Br
  | [.agg [.int .i64 y, .int .i64 m, .int .i64 d, .int .i64 h, .int .i64 i, .int .i64 s]], [] => .ite (g (cvM y m d h i s)) (.ret (p (cvM y m d h i s)) []) .fail
  | _, _ => .fail
theorem of_cv {n : Nat} {f : List AV → List Ob → Br} (hs : Sound Kx n f) {g : Cv → Bool} {p : Cv → AV} (h : ∀ y m d h i s, g ⟨y, m, d, h, i, s⟩ = true → (f [.agg [.int .i64 y, .int .i64 m, .int .i64 d, .int .i64 h, .int .i64 i, .int .i64 s]] []).val = some (p ⟨y, m, d, h, i, s⟩, [])) : Sound Kx n (cv_s g p) := hs.of fun args objs r hv => by
  unfold cv_s at hv
  split at hv
  case h_2 => cases hv
  obtain ⟨h1, h2⟩ := ite_some hv
  cases h2
  exact h _ _ _ _ _ _ h1
theorem iCivOk_okQ : Sound Kx 200 (cv_s (fun _ => true) fun c => .bool (civOk c)) := of_cv iCivOk_ok fun y m d h i s _ => by
  show (iCivOk_br y m d h i s).val = some (.bool (civOk ⟨y, m, d, h, i, s⟩), [])
  unfold iCivOk_br civOk
  by_cases c1 : 1970 ≤ y
  · by_cases c2 : y ≤ 9999
    · have e : yrB y = true := by unfold yrB; rw [decide_eq_true (by omega), decide_eq_true (by omega)]; rfl
      rw [e, decide_eq_true c1, decide_eq_true c2]
      simp only
      generalize decide (1 ≤ m) = b1
      generalize decide (m ≤ 12) = b2
      generalize decide (1 ≤ d) = b3
      generalize decide (d ≤ mLen y m) = b4
      generalize decide (0 ≤ h) = b5
      generalize decide (h ≤ 23) = b6
      generalize decide (0 ≤ i) = b7
      generalize decide (i ≤ 59) = b8
      generalize decide (0 ≤ s) = b9
      generalize decide (s ≤ 59) = b10
      cases b1; · rfl
      cases b2; · rfl
      cases b3; · rfl
      cases b4; · rfl
      cases b5; · rfl
      cases b6; · rfl
      cases b7; · rfl
      cases b8; · rfl
      cases b9; · rfl
      cases b10 <;> rfl
    · rw [decide_eq_true c1, decide_eq_false c2]; rfl
  · rw [decide_eq_false c1]; rfl
def wkP (t : Int) : Int := bif timB t then wdP t else -1
theorem timB_le {t : Int} (h : timB t = true) : 0 ≤ t ∧ t ≤ 253402300799 := by unfold timB at h; rw [Bool.and_eq_true, decide_eq_true_eq, decide_eq_true_eq] at h; exact h
theorem wk_eq {t : Int} (h : timB t = true) : Int.tmod (wk64 ((wk64 (Int.tdiv t 86400)) + 3)) 7 = wdP t := by
  obtain ⟨h0, h1⟩ := timB_le h
  have e : Int.tdiv t 86400 = t / 86400 := Int.tdiv_eq_ediv_of_nonneg h0
  rw [e, w64 (n := t / 86400) (by omega) (by omega), w64 (by omega) (by omega), Int.tmod_eq_emod_of_nonneg (by omega)]
  rfl
theorem iWk_okQ : Sound Kx 205 (j1_s (fun _ => true) fun t => .int .i64 (wkP t)) := of_j1 iWk_ok fun t _ => by
  show (iWk_br t).val = some (.int .i64 (wkP t), [])
  unfold iWk_br wkP
  cases h : timB t
  · rfl
  · rw [wk_eq h]; rfl
theorem sWk_okQ : Sound Kx 145 (j1_s (fun _ => true) fun t => .int .i64 (wkP t)) := of_j1 sWk_ok fun t _ => by
  show (sWk_br t).val = some (.int .i64 (wkP t), [])
  unfold sWk_br wkP
  cases h : timB t
  · rfl
  · rw [wk_eq h]; rfl
theorem civ_nums {c : Cv} (h : civOk c = true) : (dgB c.h 2 = true ∧ dgB c.i 2 = true ∧ dgB c.s 2 = true ∧ dgB c.d 2 = true ∧ dgB c.y 4 = true ∧ dgB c.y 2 = true) ∧ (pdB c.h 2 = true ∧ pdB c.i 2 = true ∧ pdB c.s 2 = true ∧ pdB c.d 2 = true ∧ pdB c.y 4 = true ∧ pdB (c.y % 100) 2 = true) := by
  obtain ⟨h1, h2, h3, h4, h5, h6⟩ := civ_parts h
  have dd : ∀ n k : Int, 0 ≤ n → n ≤ 9999 → 0 ≤ k → k ≤ 4 → dgB n k = true := fun n k a b c d => by
    unfold dgB num15; rw [decide_eq_true a, decide_eq_true (by omega), decide_eq_true c, decide_eq_true (by omega)]; rfl
  have p2 : ∀ n : Int, 0 ≤ n → n ≤ 99 → pdB n 2 = true := fun n a b => by unfold pdB; rw [decide_eq_true a, decide_eq_true b]; rfl
  have p4 : ∀ n : Int, 0 ≤ n → n ≤ 9999 → pdB n 4 = true := fun n a b => by unfold pdB; rw [decide_eq_true a, decide_eq_true b]; rfl
  refine ⟨⟨dd _ _ ?_ ?_ ?_ ?_, dd _ _ ?_ ?_ ?_ ?_, dd _ _ ?_ ?_ ?_ ?_, dd _ _ ?_ ?_ ?_ ?_, dd _ _ ?_ ?_ ?_ ?_, dd _ _ ?_ ?_ ?_ ?_⟩, p2 _ ?_ ?_, p2 _ ?_ ?_, p2 _ ?_ ?_, p2 _ ?_ ?_, p4 _ ?_ ?_, p2 _ ?_ ?_⟩ <;> omega
theorem iClk_okQ : Sound Kx 207 (cv_s civOk fun c => .str (clockP c)) := of_cv iClk_ok fun y m d h i s hc => by
  show (iClk_br y m d h i s).val = some (.str (clockP ⟨y, m, d, h, i, s⟩), [])
  obtain ⟨⟨h1, h2, h3, _⟩, _⟩ := civ_nums hc
  simp only at h1 h2 h3
  unfold iClk_br
  simp only [h1, h2, h3, List.length_append, padP_len, List.length_cons, List.length_nil, Br.val]
  unfold clockP
  simp [List.append_assoc]
theorem sClk_okQ : Sound Kx 147 (cv_s civOk fun c => .str (clockP c)) := of_cv sClk_ok fun y m d h i s hc => by
  show (sClk_br y m d h i s).val = some (.str (clockP ⟨y, m, d, h, i, s⟩), [])
  obtain ⟨_, h1, h2, h3, _⟩ := civ_nums hc
  simp only at h1 h2 h3
  unfold sClk_br
  simp only [h1, h2, h3, List.length_append, padP_len, List.length_cons, List.length_nil, Br.val]
  unfold clockP
  simp [List.append_assoc]

def sCivOk_O : Opt := { split := true }
def sCivOk_C : SC := [⟨196, _, sDays_okQ⟩]
def sCivOk_br (y m d h i s : Int) : Br := (Br.ite (decide (1970 ≤ y)) (Br.ite (decide (y ≤ 9999)) (Br.ite (decide (1 ≤ m)) (Br.ite (decide (m ≤ 12)) (Br.ite (decide (1 ≤ d)) (Br.ite (yrB y) (Br.ite (decide (d ≤ (mLen y m))) (Br.ite (decide (0 ≤ h)) (Br.ite (decide (h ≤ 23)) (Br.ite (decide (0 ≤ i)) (Br.ite (decide (i ≤ 59)) (Br.ite (decide (0 ≤ s)) (Br.ite (decide (s ≤ 59)) (Br.ret (AV.bool true) []) (Br.ret (AV.bool false) [])) (Br.ret (AV.bool false) [])) (Br.ret (AV.bool false) [])) (Br.ret (AV.bool false) [])) (Br.ret (AV.bool false) [])) (Br.ret (AV.bool false) [])) (Br.ret (AV.bool false) [])) Br.fail) (Br.ret (AV.bool false) [])) (Br.ret (AV.bool false) [])) (Br.ret (AV.bool false) [])) (Br.ret (AV.bool false) [])) (Br.ret (AV.bool false) []))
def sCivOk_s : List AV → List Ob → Br
  | [.agg [.int .i64 y, .int .i64 m, .int .i64 d, .int .i64 h, .int .i64 i, .int .i64 s]], [] => sCivOk_br y m d h i s
  | _, _ => .fail
theorem sCivOk_ok : Sound Kx 194 sCivOk_s := sound_br (C := sCivOk_C) (O := sCivOk_O) Tryz.func194 (by kernel_rfl) fun args objs => by
  unfold sCivOk_s; split
  · exact .inr (by kernel_rfl)
  · exact .inl rfl

def iSec_O : Opt := { live := [(5, [1, 4, 5])], outs := [(5, [1, 2, 3, 4])] }
def iSec_C : SC := [⟨200, _, iCivOk_okQ⟩, ⟨201, _, iDB_okQ⟩, ⟨202, _, iDO_okQ⟩]
def iSec_T5 (v5x0 v5x1 v5x2 v5x3 v5x4 v5x5 v5x6 v5x7 : Int) (kR5 : Int → Int → Int → Int → Int → Int → Int → Int → Option Rs) (k5e0 : Int → Int → Int → Int → Int → Int → Int → Option Rs) : Option Rs :=
  (bif (decide (v5x1 < v5x3)) then (bif (yrB v5x2) then (kR5 (wk64 (v5x0 + (mLen v5x2 v5x1))) (wk64 (v5x1 + 1)) v5x2 v5x3 v5x4 v5x5 v5x6 v5x7) else (none)) else (k5e0 v5x0 v5x2 v5x3 v5x4 v5x5 v5x6 v5x7))
def iSec_F5 : Nat → Int → Int → Int → Int → Int → Int → Int → Int → (Int → Int → Int → Int → Int → Int → Int → Option Rs) → Option Rs
  | 0, _, _, _, _, _, _, _, _, _ => none
  | n + 1, v5x0, v5x1, v5x2, v5x3, v5x4, v5x5, v5x6, v5x7, k5e0 => iSec_T5 v5x0 v5x1 v5x2 v5x3 v5x4 v5x5 v5x6 v5x7 (fun v5x0 v5x1 v5x2 v5x3 v5x4 v5x5 v5x6 v5x7 => iSec_F5 n v5x0 v5x1 v5x2 v5x3 v5x4 v5x5 v5x6 v5x7 k5e0) k5e0
abbrev iSec_p5 : SP := ⟨41, [1, 4, 5], [(.v (.ptr 128 0)), (.v (.i .i64)), (.v (.i .i64))], [(128, .var [(.i .i64), (.i .i64), (.i .i64), (.i .i64), (.i .i64), (.i .i64)])]⟩
noncomputable def iSec_b5 : Code := codeAt (codeOf Tryz.f154) [1, 1, 1, 0, 1, 0, 0]
def iSec_E5 (f : (Int → Int → Int → Int → Int → Int → Int → Option Rs) → Option Rs) (k : KT) : Option Rs := f (fun x5x0x0 x5x0x1 x5x0x2 x5x0x3 x5x0x4 x5x0x5 x5x0x6 => k (Ex.exit 0) ((St.mk (slots 0 41 [(1, (AV.ptr 128 0)), (4, (AV.int .i64 x5x0x0))]) ((128, (Ob.var ((AV.int .i64 x5x0x1) :: ((AV.int .i64 x5x0x2) :: ((AV.int .i64 x5x0x3) :: ((AV.int .i64 x5x0x4) :: ((AV.int .i64 x5x0x5) :: ((AV.int .i64 x5x0x6) :: [])))))))) :: ([] : (List (Nat × (Ob))))))))
def iSec_G5 (n : Nat) (d : iSec_p5.D) : KT → Option Rs := iSec_E5 (iSec_F5 n d.1.2.1 d.1.2.2.1 d.2.1.1 d.2.1.2.1 d.2.1.2.2.1 d.2.1.2.2.2.1 d.2.1.2.2.2.2.1 d.2.1.2.2.2.2.2.1)
def iSec_L (N : Nat) : Lam := lamOf [⟨5, iSec_p5, iSec_G5 N⟩]
theorem iSec_ok5 (N : Nat) : OkL Kx iSec_C.s iSec_O 0 N (iSec_L N) iSec_b5 := okL iSec_p5 (iSec_G5) (fun d kR => iSec_E5 (iSec_T5 d.1.2.1 d.1.2.2.1 d.2.1.1 d.2.1.2.1 d.2.1.2.2.1 d.2.1.2.2.2.1 d.2.1.2.2.2.2.1 d.2.1.2.2.2.2.2.1 (fun v5x0 v5x1 v5x2 v5x3 v5x4 v5x5 v5x6 v5x7 => kR (((), v5x0, v5x1, ()), ((v5x2, v5x3, v5x4, v5x5, v5x6, v5x7, ()), ()))))) (fun _ _ => by kernel_rfl) (fun _ _ _ => by kernel_rfl) (fun _ _ => by kernel_rfl) (fun _ _ _ _ => by kernel_rfl) (okEach (l' := []) (by kernel_rfl) trivial)
def iSec_run (N : Nat) (y m d h i s : Int) : Option Rs := (bif (!(civOk (cvM y m d h i s))) then (some ((AV.tup ((AV.int .i64 0) :: ((AV.bool false) :: []))), [])) else (bif (yrB y) then (iSec_F5 N (wk64 ((wk64 ((dB y) + d)) - 1)) 1 y m d h i s (fun x5x0x0 => (fun x5x0x1 => (fun x5x0x2 => (fun x5x0x3 => (fun x5x0x4 => (fun x5x0x5 => (fun x5x0x6 => (some ((AV.tup ((AV.int .i64 (wk64 ((wk64 ((wk64 ((wk64 (86400 * x5x0x0)) + (wk64 (3600 * x5x0x4)))) + (wk64 (60 * x5x0x5)))) + x5x0x6))) :: ((AV.bool true) :: []))), [])))))))))) else (none)))
def iSec_sOf (φ : Int → Int → Int → Int → Int → Int → Br) : List AV → List Ob → Br
  | [.agg [.int .i64 y, .int .i64 m, .int .i64 d, .int .i64 h, .int .i64 i, .int .i64 s]], [] => φ y m d h i s
  | _, _ => .fail
theorem iSec_okOf {φ : Int → Int → Int → Int → Int → Int → Br} (fu : Int → Int → Int → Int → Int → Int → Nat) (hv : ∀ y m d h i s res_, (φ y m d h i s).val = some res_ → iSec_run (fu y m d h i s) y m d h i s = some res_) : Sound Kx 154 (iSec_sOf φ) := sound_lp (C := iSec_C) (O := iSec_O) Tryz.func154 (by kernel_rfl) fun args objs => by
  unfold iSec_sOf; split
  · rename_i y m d h i s; exact .inr fun _ hyp_ => run_lp (Λ := iSec_L (fu y m d h i s)) (by kernel_rfl) (okEach (l' := [iSec_b5]) (by kernel_rfl) ⟨iSec_ok5 _, trivial⟩) (by kernel_rfl) (hv y m d h i s _ hyp_)
  · exact .inl rfl

def iCiv_O : Opt := { live := [(6, [2, 3, 5]), (3, [2, 3, 5])], outs := [(6, [2, 3, 5]), (3, [2, 3, 5])] }
def iCiv_C : SC := [⟨201, _, iDB_okQ⟩, ⟨202, _, iDO_okQ⟩]
def iCiv_T3 (v3x0 v3x1 v3x2 v3x3 v3x4 v3x5 v3x6 v3x7 v3x8 v3x9 v3x10 v3x11 v3x12 : Int) (kR3 k3e0 : Int → Int → Int → Int → Int → Int → Int → Int → Int → Int → Int → Int → Int → Option Rs) : Option Rs :=
  (bif (yrB (wk64 (v3x7 + 1))) then (bif (decide ((dB (wk64 (v3x7 + 1))) ≤ v3x0)) then (kR3 v3x0 v3x1 v3x2 v3x3 v3x4 v3x5 v3x6 (wk64 (v3x7 + 1)) v3x8 v3x9 v3x10 v3x11 v3x12) else (k3e0 v3x0 v3x1 v3x2 v3x3 v3x4 v3x5 v3x6 v3x7 v3x8 v3x9 v3x10 v3x11 v3x12)) else (none))
def iCiv_F3 : Nat → Int → Int → Int → Int → Int → Int → Int → Int → Int → Int → Int → Int → Int → (Int → Int → Int → Int → Int → Int → Int → Int → Int → Int → Int → Int → Int → Option Rs) → Option Rs
  | 0, _, _, _, _, _, _, _, _, _, _, _, _, _, _ => none
  | n + 1, v3x0, v3x1, v3x2, v3x3, v3x4, v3x5, v3x6, v3x7, v3x8, v3x9, v3x10, v3x11, v3x12, k3e0 => iCiv_T3 v3x0 v3x1 v3x2 v3x3 v3x4 v3x5 v3x6 v3x7 v3x8 v3x9 v3x10 v3x11 v3x12 (fun v3x0 v3x1 v3x2 v3x3 v3x4 v3x5 v3x6 v3x7 v3x8 v3x9 v3x10 v3x11 v3x12 => iCiv_F3 n v3x0 v3x1 v3x2 v3x3 v3x4 v3x5 v3x6 v3x7 v3x8 v3x9 v3x10 v3x11 v3x12 k3e0) k3e0
abbrev iCiv_p3 : SP := ⟨58, [2, 3, 5], [(.v (.ptr 192 0)), (.v (.i .i64)), (.v (.ptr 384 0))], [(192, .var [(.i .i64), (.i .i64), (.i .i64), (.i .i64), (.i .i64), (.i .i64)]), (384, .var [(.i .i64), (.i .i64), (.i .i64), (.i .i64), (.i .i64), (.i .i64)])]⟩
noncomputable def iCiv_b3 : Code := codeAt (codeOf Tryz.f203) [1, 1, 1, 0, 0, 0]
def iCiv_E3 (f : (Int → Int → Int → Int → Int → Int → Int → Int → Int → Int → Int → Int → Int → Option Rs) → Option Rs) (k : KT) : Option Rs := f (fun x3x0x0 x3x0x1 x3x0x2 x3x0x3 x3x0x4 x3x0x5 x3x0x6 x3x0x7 x3x0x8 x3x0x9 x3x0x10 x3x0x11 x3x0x12 => k (Ex.exit 0) ((St.mk (slots 0 58 [(2, (AV.ptr 192 0)), (3, (AV.int .i64 x3x0x0)), (5, (AV.ptr 384 0))]) ((192, (Ob.var ((AV.int .i64 x3x0x1) :: ((AV.int .i64 x3x0x2) :: ((AV.int .i64 x3x0x3) :: ((AV.int .i64 x3x0x4) :: ((AV.int .i64 x3x0x5) :: ((AV.int .i64 x3x0x6) :: [])))))))) :: ((384, (Ob.var ((AV.int .i64 x3x0x7) :: ((AV.int .i64 x3x0x8) :: ((AV.int .i64 x3x0x9) :: ((AV.int .i64 x3x0x10) :: ((AV.int .i64 x3x0x11) :: ((AV.int .i64 x3x0x12) :: [])))))))) :: ([] : (List (Nat × (Ob)))))))))
def iCiv_G3 (n : Nat) (d : iCiv_p3.D) : KT → Option Rs := iCiv_E3 (iCiv_F3 n d.1.2.1 d.2.1.1 d.2.1.2.1 d.2.1.2.2.1 d.2.1.2.2.2.1 d.2.1.2.2.2.2.1 d.2.1.2.2.2.2.2.1 d.2.2.1.1 d.2.2.1.2.1 d.2.2.1.2.2.1 d.2.2.1.2.2.2.1 d.2.2.1.2.2.2.2.1 d.2.2.1.2.2.2.2.2.1)
def iCiv_T6 (v6x0 v6x1 v6x2 v6x3 v6x4 v6x5 v6x6 v6x7 v6x8 v6x9 v6x10 v6x11 v6x12 : Int) (kR6 k6e0 : Int → Int → Int → Int → Int → Int → Int → Int → Int → Int → Int → Int → Int → Option Rs) : Option Rs :=
  (bif (yrB v6x7) then (bif (decide ((mLen v6x7 v6x8) ≤ v6x0)) then (bif (yrB v6x7) then (kR6 (wk64 (v6x0 - (mLen v6x7 v6x8))) v6x1 v6x2 v6x3 v6x4 v6x5 v6x6 v6x7 (wk64 (v6x8 + 1)) v6x9 v6x10 v6x11 v6x12) else (none)) else (k6e0 v6x0 v6x1 v6x2 v6x3 v6x4 v6x5 v6x6 v6x7 v6x8 v6x9 v6x10 v6x11 v6x12)) else (none))
def iCiv_F6 : Nat → Int → Int → Int → Int → Int → Int → Int → Int → Int → Int → Int → Int → Int → (Int → Int → Int → Int → Int → Int → Int → Int → Int → Int → Int → Int → Int → Option Rs) → Option Rs
  | 0, _, _, _, _, _, _, _, _, _, _, _, _, _, _ => none
  | n + 1, v6x0, v6x1, v6x2, v6x3, v6x4, v6x5, v6x6, v6x7, v6x8, v6x9, v6x10, v6x11, v6x12, k6e0 => iCiv_T6 v6x0 v6x1 v6x2 v6x3 v6x4 v6x5 v6x6 v6x7 v6x8 v6x9 v6x10 v6x11 v6x12 (fun v6x0 v6x1 v6x2 v6x3 v6x4 v6x5 v6x6 v6x7 v6x8 v6x9 v6x10 v6x11 v6x12 => iCiv_F6 n v6x0 v6x1 v6x2 v6x3 v6x4 v6x5 v6x6 v6x7 v6x8 v6x9 v6x10 v6x11 v6x12 k6e0) k6e0
abbrev iCiv_p6 : SP := ⟨58, [2, 3, 5], [(.v (.ptr 192 0)), (.v (.i .i64)), (.v (.ptr 384 0))], [(192, .var [(.i .i64), (.i .i64), (.i .i64), (.i .i64), (.i .i64), (.i .i64)]), (384, .var [(.i .i64), (.i .i64), (.i .i64), (.i .i64), (.i .i64), (.i .i64)])]⟩
noncomputable def iCiv_b6 : Code := codeAt (codeOf Tryz.f203) [1, 1, 1, 1, 1, 0, 0, 0]
def iCiv_E6 (f : (Int → Int → Int → Int → Int → Int → Int → Int → Int → Int → Int → Int → Int → Option Rs) → Option Rs) (k : KT) : Option Rs := f (fun x6x0x0 x6x0x1 x6x0x2 x6x0x3 x6x0x4 x6x0x5 x6x0x6 x6x0x7 x6x0x8 x6x0x9 x6x0x10 x6x0x11 x6x0x12 => k (Ex.exit 2) ((St.mk (slots 0 58 [(2, (AV.ptr 192 0)), (3, (AV.int .i64 x6x0x0)), (5, (AV.ptr 384 0))]) ((192, (Ob.var ((AV.int .i64 x6x0x1) :: ((AV.int .i64 x6x0x2) :: ((AV.int .i64 x6x0x3) :: ((AV.int .i64 x6x0x4) :: ((AV.int .i64 x6x0x5) :: ((AV.int .i64 x6x0x6) :: [])))))))) :: ((384, (Ob.var ((AV.int .i64 x6x0x7) :: ((AV.int .i64 x6x0x8) :: ((AV.int .i64 x6x0x9) :: ((AV.int .i64 x6x0x10) :: ((AV.int .i64 x6x0x11) :: ((AV.int .i64 x6x0x12) :: [])))))))) :: ([] : (List (Nat × (Ob)))))))))
def iCiv_G6 (n : Nat) (d : iCiv_p6.D) : KT → Option Rs := iCiv_E6 (iCiv_F6 n d.1.2.1 d.2.1.1 d.2.1.2.1 d.2.1.2.2.1 d.2.1.2.2.2.1 d.2.1.2.2.2.2.1 d.2.1.2.2.2.2.2.1 d.2.2.1.1 d.2.2.1.2.1 d.2.2.1.2.2.1 d.2.2.1.2.2.2.1 d.2.2.1.2.2.2.2.1 d.2.2.1.2.2.2.2.2.1)
def iCiv_L (N : Nat) : Lam := lamOf [⟨3, iCiv_p3, iCiv_G3 N⟩, ⟨6, iCiv_p6, iCiv_G6 N⟩]
theorem iCiv_ok3 (N : Nat) : OkL Kx iCiv_C.s iCiv_O 0 N (iCiv_L N) iCiv_b3 := okL iCiv_p3 (iCiv_G3) (fun d kR => iCiv_E3 (iCiv_T3 d.1.2.1 d.2.1.1 d.2.1.2.1 d.2.1.2.2.1 d.2.1.2.2.2.1 d.2.1.2.2.2.2.1 d.2.1.2.2.2.2.2.1 d.2.2.1.1 d.2.2.1.2.1 d.2.2.1.2.2.1 d.2.2.1.2.2.2.1 d.2.2.1.2.2.2.2.1 d.2.2.1.2.2.2.2.2.1 (fun v3x0 v3x1 v3x2 v3x3 v3x4 v3x5 v3x6 v3x7 v3x8 v3x9 v3x10 v3x11 v3x12 => kR (((), v3x0, (), ()), ((v3x1, v3x2, v3x3, v3x4, v3x5, v3x6, ()), (v3x7, v3x8, v3x9, v3x10, v3x11, v3x12, ()), ()))))) (fun _ _ => by kernel_rfl) (fun _ _ _ => by kernel_rfl) (fun _ _ => by kernel_rfl) (fun _ _ _ _ => by kernel_rfl) (okEach (l' := []) (by kernel_rfl) trivial)
theorem iCiv_ok6 (N : Nat) : OkL Kx iCiv_C.s iCiv_O 0 N (iCiv_L N) iCiv_b6 := okL iCiv_p6 (iCiv_G6) (fun d kR => iCiv_E6 (iCiv_T6 d.1.2.1 d.2.1.1 d.2.1.2.1 d.2.1.2.2.1 d.2.1.2.2.2.1 d.2.1.2.2.2.2.1 d.2.1.2.2.2.2.2.1 d.2.2.1.1 d.2.2.1.2.1 d.2.2.1.2.2.1 d.2.2.1.2.2.2.1 d.2.2.1.2.2.2.2.1 d.2.2.1.2.2.2.2.2.1 (fun v6x0 v6x1 v6x2 v6x3 v6x4 v6x5 v6x6 v6x7 v6x8 v6x9 v6x10 v6x11 v6x12 => kR (((), v6x0, (), ()), ((v6x1, v6x2, v6x3, v6x4, v6x5, v6x6, ()), (v6x7, v6x8, v6x9, v6x10, v6x11, v6x12, ()), ()))))) (fun _ _ => by kernel_rfl) (fun _ _ _ => by kernel_rfl) (fun _ _ => by kernel_rfl) (fun _ _ _ _ => by kernel_rfl) (okEach (l' := []) (by kernel_rfl) trivial)
def iCiv_run (N : Nat) (t : Int) : Option Rs := (iCiv_F3 N (wk64 (Int.tdiv t 86400)) 0 0 0 0 0 0 (wk64 (1970 + (wk64 (Int.tdiv (wk64 (Int.tdiv t 86400)) 366)))) 1 0 (wk64 (Int.tdiv (Int.tmod t 86400) 3600)) (Int.tmod (wk64 (Int.tdiv (Int.tmod t 86400) 60)) 60) (Int.tmod (Int.tmod t 86400) 60) (fun x3x0x0 => (fun x3x0x1 => (fun x3x0x2 => (fun x3x0x3 => (fun x3x0x4 => (fun x3x0x5 => (fun x3x0x6 => (fun x3x0x7 => (fun x3x0x8 => (fun x3x0x9 => (fun x3x0x10 => (fun x3x0x11 => (fun x3x0x12 => (bif (yrB x3x0x7) then (iCiv_F6 N (wk64 (x3x0x0 - (dB x3x0x7))) x3x0x1 x3x0x2 x3x0x3 x3x0x4 x3x0x5 x3x0x6 x3x0x7 x3x0x8 x3x0x9 x3x0x10 x3x0x11 x3x0x12 (fun x6x0x0 => (fun x6x0x1 => (fun x6x0x2 => (fun x6x0x3 => (fun x6x0x4 => (fun x6x0x5 => (fun x6x0x6 => (fun x6x0x7 => (fun x6x0x8 => (fun x6x0x9 => (fun x6x0x10 => (fun x6x0x11 => (fun x6x0x12 => (some ((AV.agg ((AV.int .i64 x6x0x7) :: ((AV.int .i64 x6x0x8) :: ((AV.int .i64 (wk64 (x6x0x0 + 1))) :: ((AV.int .i64 x6x0x10) :: ((AV.int .i64 x6x0x11) :: ((AV.int .i64 x6x0x12) :: []))))))), [])))))))))))))))) else (none))))))))))))))))
def iCiv_sOf (φ : Int → Br) : List AV → List Ob → Br
  | [.int .i64 t], [] => φ t
  | _, _ => .fail
theorem iCiv_okOf {φ : Int → Br} (fu : Int → Nat) (hv : ∀ t res_, (φ t).val = some res_ → iCiv_run (fu t) t = some res_) : Sound Kx 203 (iCiv_sOf φ) := sound_lp (C := iCiv_C) (O := iCiv_O) Tryz.func203 (by kernel_rfl) fun args objs => by
  unfold iCiv_sOf; split
  · rename_i t; exact .inr fun _ hyp_ => run_lp (Λ := iCiv_L (fu t)) (by kernel_rfl) (okEach (l' := [iCiv_b3, iCiv_b6]) (by kernel_rfl) ⟨iCiv_ok3 _, iCiv_ok6 _, trivial⟩) (by kernel_rfl) (hv t _ hyp_)
  · exact .inl rfl

def sCiv_O : Opt := { live := [(8, [2, 4, 5]), (5, [2, 4, 5])], outs := [(8, [2, 3, 4, 5]), (5, [2, 3, 4, 5])] }
def sCiv_C : SC := [⟨79, _, sTime_okQ⟩, ⟨195, _, sYear_okQ⟩, ⟨196, _, sDays_okQ⟩]
def sCiv_T5 (v5x0 v5x1 v5x2 v5x3 v5x4 v5x5 v5x6 v5x7 v5x8 v5x9 v5x10 v5x11 v5x12 : Int) (kR5 k5e0 : Int → Int → Int → Int → Int → Int → Int → Int → Int → Int → Int → Int → Int → Option Rs) : Option Rs :=
  (bif (yrB v5x7) then (bif (decide ((yLen v5x7) ≤ v5x0)) then (bif (yrB v5x7) then (kR5 (wk64 (v5x0 - (yLen v5x7))) v5x1 v5x2 v5x3 v5x4 v5x5 v5x6 (wk64 (v5x7 + 1)) v5x8 v5x9 v5x10 v5x11 v5x12) else (none)) else (k5e0 v5x0 v5x1 v5x2 v5x3 v5x4 v5x5 v5x6 v5x7 v5x8 v5x9 v5x10 v5x11 v5x12)) else (none))
def sCiv_F5 : Nat → Int → Int → Int → Int → Int → Int → Int → Int → Int → Int → Int → Int → Int → (Int → Int → Int → Int → Int → Int → Int → Int → Int → Int → Int → Int → Int → Option Rs) → Option Rs
  | 0, _, _, _, _, _, _, _, _, _, _, _, _, _, _ => none
  | n + 1, v5x0, v5x1, v5x2, v5x3, v5x4, v5x5, v5x6, v5x7, v5x8, v5x9, v5x10, v5x11, v5x12, k5e0 => sCiv_T5 v5x0 v5x1 v5x2 v5x3 v5x4 v5x5 v5x6 v5x7 v5x8 v5x9 v5x10 v5x11 v5x12 (fun v5x0 v5x1 v5x2 v5x3 v5x4 v5x5 v5x6 v5x7 v5x8 v5x9 v5x10 v5x11 v5x12 => sCiv_F5 n v5x0 v5x1 v5x2 v5x3 v5x4 v5x5 v5x6 v5x7 v5x8 v5x9 v5x10 v5x11 v5x12 k5e0) k5e0
abbrev sCiv_p5 : SP := ⟨57, [2, 4, 5], [(.v (.ptr 192 0)), (.v (.i .i64)), (.v (.ptr 384 0))], [(192, .var [(.i .i64), (.i .i64), (.i .i64), (.i .i64), (.i .i64), (.i .i64)]), (384, .var [(.i .i64), (.i .i64), (.i .i64), (.i .i64), (.i .i64), (.i .i64)])]⟩
noncomputable def sCiv_b5 : Code := codeAt (codeOf Tryz.f143) [1, 1, 1, 1, 0, 0, 0]
def sCiv_E5 (f : (Int → Int → Int → Int → Int → Int → Int → Int → Int → Int → Int → Int → Int → Option Rs) → Option Rs) (k : KT) : Option Rs := f (fun x5x0x0 x5x0x1 x5x0x2 x5x0x3 x5x0x4 x5x0x5 x5x0x6 x5x0x7 x5x0x8 x5x0x9 x5x0x10 x5x0x11 x5x0x12 => k (Ex.exit 0) ((St.mk (slots 0 57 [(2, (AV.ptr 192 0)), (4, (AV.int .i64 x5x0x0)), (5, (AV.ptr 384 0))]) ((192, (Ob.var ((AV.int .i64 x5x0x1) :: ((AV.int .i64 x5x0x2) :: ((AV.int .i64 x5x0x3) :: ((AV.int .i64 x5x0x4) :: ((AV.int .i64 x5x0x5) :: ((AV.int .i64 x5x0x6) :: [])))))))) :: ((384, (Ob.var ((AV.int .i64 x5x0x7) :: ((AV.int .i64 x5x0x8) :: ((AV.int .i64 x5x0x9) :: ((AV.int .i64 x5x0x10) :: ((AV.int .i64 x5x0x11) :: ((AV.int .i64 x5x0x12) :: [])))))))) :: ([] : (List (Nat × (Ob)))))))))
def sCiv_G5 (n : Nat) (d : sCiv_p5.D) : KT → Option Rs := sCiv_E5 (sCiv_F5 n d.1.2.1 d.2.1.1 d.2.1.2.1 d.2.1.2.2.1 d.2.1.2.2.2.1 d.2.1.2.2.2.2.1 d.2.1.2.2.2.2.2.1 d.2.2.1.1 d.2.2.1.2.1 d.2.2.1.2.2.1 d.2.2.1.2.2.2.1 d.2.2.1.2.2.2.2.1 d.2.2.1.2.2.2.2.2.1)
def sCiv_T8 (v8x0 v8x1 v8x2 v8x3 v8x4 v8x5 v8x6 v8x7 v8x8 v8x9 v8x10 v8x11 v8x12 : Int) (kR8 k8e0 : Int → Int → Int → Int → Int → Int → Int → Int → Int → Int → Int → Int → Int → Option Rs) : Option Rs :=
  (bif (yrB v8x7) then (bif (decide ((mLen v8x7 v8x8) ≤ v8x0)) then (bif (yrB v8x7) then (kR8 (wk64 (v8x0 - (mLen v8x7 v8x8))) v8x1 v8x2 v8x3 v8x4 v8x5 v8x6 v8x7 (wk64 (v8x8 + 1)) v8x9 v8x10 v8x11 v8x12) else (none)) else (k8e0 v8x0 v8x1 v8x2 v8x3 v8x4 v8x5 v8x6 v8x7 v8x8 v8x9 v8x10 v8x11 v8x12)) else (none))
def sCiv_F8 : Nat → Int → Int → Int → Int → Int → Int → Int → Int → Int → Int → Int → Int → Int → (Int → Int → Int → Int → Int → Int → Int → Int → Int → Int → Int → Int → Int → Option Rs) → Option Rs
  | 0, _, _, _, _, _, _, _, _, _, _, _, _, _, _ => none
  | n + 1, v8x0, v8x1, v8x2, v8x3, v8x4, v8x5, v8x6, v8x7, v8x8, v8x9, v8x10, v8x11, v8x12, k8e0 => sCiv_T8 v8x0 v8x1 v8x2 v8x3 v8x4 v8x5 v8x6 v8x7 v8x8 v8x9 v8x10 v8x11 v8x12 (fun v8x0 v8x1 v8x2 v8x3 v8x4 v8x5 v8x6 v8x7 v8x8 v8x9 v8x10 v8x11 v8x12 => sCiv_F8 n v8x0 v8x1 v8x2 v8x3 v8x4 v8x5 v8x6 v8x7 v8x8 v8x9 v8x10 v8x11 v8x12 k8e0) k8e0
abbrev sCiv_p8 : SP := ⟨57, [2, 4, 5], [(.v (.ptr 192 0)), (.v (.i .i64)), (.v (.ptr 384 0))], [(192, .var [(.i .i64), (.i .i64), (.i .i64), (.i .i64), (.i .i64), (.i .i64)]), (384, .var [(.i .i64), (.i .i64), (.i .i64), (.i .i64), (.i .i64), (.i .i64)])]⟩
noncomputable def sCiv_b8 : Code := codeAt (codeOf Tryz.f143) [1, 1, 1, 1, 1, 0, 0, 0]
def sCiv_E8 (f : (Int → Int → Int → Int → Int → Int → Int → Int → Int → Int → Int → Int → Int → Option Rs) → Option Rs) (k : KT) : Option Rs := f (fun x8x0x0 x8x0x1 x8x0x2 x8x0x3 x8x0x4 x8x0x5 x8x0x6 x8x0x7 x8x0x8 x8x0x9 x8x0x10 x8x0x11 x8x0x12 => k (Ex.exit 2) ((St.mk (slots 0 57 [(2, (AV.ptr 192 0)), (4, (AV.int .i64 x8x0x0)), (5, (AV.ptr 384 0))]) ((192, (Ob.var ((AV.int .i64 x8x0x1) :: ((AV.int .i64 x8x0x2) :: ((AV.int .i64 x8x0x3) :: ((AV.int .i64 x8x0x4) :: ((AV.int .i64 x8x0x5) :: ((AV.int .i64 x8x0x6) :: [])))))))) :: ((384, (Ob.var ((AV.int .i64 x8x0x7) :: ((AV.int .i64 x8x0x8) :: ((AV.int .i64 x8x0x9) :: ((AV.int .i64 x8x0x10) :: ((AV.int .i64 x8x0x11) :: ((AV.int .i64 x8x0x12) :: [])))))))) :: ([] : (List (Nat × (Ob)))))))))
def sCiv_G8 (n : Nat) (d : sCiv_p8.D) : KT → Option Rs := sCiv_E8 (sCiv_F8 n d.1.2.1 d.2.1.1 d.2.1.2.1 d.2.1.2.2.1 d.2.1.2.2.2.1 d.2.1.2.2.2.2.1 d.2.1.2.2.2.2.2.1 d.2.2.1.1 d.2.2.1.2.1 d.2.2.1.2.2.1 d.2.2.1.2.2.2.1 d.2.2.1.2.2.2.2.1 d.2.2.1.2.2.2.2.2.1)
def sCiv_L (N : Nat) : Lam := lamOf [⟨5, sCiv_p5, sCiv_G5 N⟩, ⟨8, sCiv_p8, sCiv_G8 N⟩]
theorem sCiv_ok5 (N : Nat) : OkL Kx sCiv_C.s sCiv_O 0 N (sCiv_L N) sCiv_b5 := okL sCiv_p5 (sCiv_G5) (fun d kR => sCiv_E5 (sCiv_T5 d.1.2.1 d.2.1.1 d.2.1.2.1 d.2.1.2.2.1 d.2.1.2.2.2.1 d.2.1.2.2.2.2.1 d.2.1.2.2.2.2.2.1 d.2.2.1.1 d.2.2.1.2.1 d.2.2.1.2.2.1 d.2.2.1.2.2.2.1 d.2.2.1.2.2.2.2.1 d.2.2.1.2.2.2.2.2.1 (fun v5x0 v5x1 v5x2 v5x3 v5x4 v5x5 v5x6 v5x7 v5x8 v5x9 v5x10 v5x11 v5x12 => kR (((), v5x0, (), ()), ((v5x1, v5x2, v5x3, v5x4, v5x5, v5x6, ()), (v5x7, v5x8, v5x9, v5x10, v5x11, v5x12, ()), ()))))) (fun _ _ => by kernel_rfl) (fun _ _ _ => by kernel_rfl) (fun _ _ => by kernel_rfl) (fun _ _ _ _ => by kernel_rfl) (okEach (l' := []) (by kernel_rfl) trivial)
theorem sCiv_ok8 (N : Nat) : OkL Kx sCiv_C.s sCiv_O 0 N (sCiv_L N) sCiv_b8 := okL sCiv_p8 (sCiv_G8) (fun d kR => sCiv_E8 (sCiv_T8 d.1.2.1 d.2.1.1 d.2.1.2.1 d.2.1.2.2.1 d.2.1.2.2.2.1 d.2.1.2.2.2.2.1 d.2.1.2.2.2.2.2.1 d.2.2.1.1 d.2.2.1.2.1 d.2.2.1.2.2.1 d.2.2.1.2.2.2.1 d.2.2.1.2.2.2.2.1 d.2.2.1.2.2.2.2.2.1 (fun v8x0 v8x1 v8x2 v8x3 v8x4 v8x5 v8x6 v8x7 v8x8 v8x9 v8x10 v8x11 v8x12 => kR (((), v8x0, (), ()), ((v8x1, v8x2, v8x3, v8x4, v8x5, v8x6, ()), (v8x7, v8x8, v8x9, v8x10, v8x11, v8x12, ()), ()))))) (fun _ _ => by kernel_rfl) (fun _ _ _ => by kernel_rfl) (fun _ _ => by kernel_rfl) (fun _ _ _ _ => by kernel_rfl) (okEach (l' := []) (by kernel_rfl) trivial)
def sCiv_run (N : Nat) (t : Int) : Option Rs := (bif (!(timB t)) then (some ((AV.tup ((AV.agg ((AV.int .i64 0) :: ((AV.int .i64 0) :: ((AV.int .i64 0) :: ((AV.int .i64 0) :: ((AV.int .i64 0) :: ((AV.int .i64 0) :: []))))))) :: ((AV.bool false) :: []))), [])) else (sCiv_F5 N (wk64 (Int.tdiv t 86400)) 0 0 0 0 0 0 1970 1 0 (Int.tmod (wk64 (Int.tdiv t 3600)) 24) (Int.tmod (wk64 (Int.tdiv t 60)) 60) (Int.tmod t 60) (fun x5x0x0 => (fun x5x0x1 => (fun x5x0x2 => (fun x5x0x3 => (fun x5x0x4 => (fun x5x0x5 => (fun x5x0x6 => (fun x5x0x7 => (fun x5x0x8 => (fun x5x0x9 => (fun x5x0x10 => (fun x5x0x11 => (fun x5x0x12 => (sCiv_F8 N x5x0x0 x5x0x1 x5x0x2 x5x0x3 x5x0x4 x5x0x5 x5x0x6 x5x0x7 x5x0x8 x5x0x9 x5x0x10 x5x0x11 x5x0x12 (fun x8x0x0 => (fun x8x0x1 => (fun x8x0x2 => (fun x8x0x3 => (fun x8x0x4 => (fun x8x0x5 => (fun x8x0x6 => (fun x8x0x7 => (fun x8x0x8 => (fun x8x0x9 => (fun x8x0x10 => (fun x8x0x11 => (fun x8x0x12 => (some ((AV.tup ((AV.agg ((AV.int .i64 x8x0x7) :: ((AV.int .i64 x8x0x8) :: ((AV.int .i64 (wk64 (x8x0x0 + 1))) :: ((AV.int .i64 x8x0x10) :: ((AV.int .i64 x8x0x11) :: ((AV.int .i64 x8x0x12) :: []))))))) :: ((AV.bool true) :: []))), [])))))))))))))))))))))))))))))))
def sCiv_sOf (φ : Int → Br) : List AV → List Ob → Br
  | [.int .i64 t], [] => φ t
  | _, _ => .fail
theorem sCiv_okOf {φ : Int → Br} (fu : Int → Nat) (hv : ∀ t res_, (φ t).val = some res_ → sCiv_run (fu t) t = some res_) : Sound Kx 143 (sCiv_sOf φ) := sound_lp (C := sCiv_C) (O := sCiv_O) Tryz.func143 (by kernel_rfl) fun args objs => by
  unfold sCiv_sOf; split
  · rename_i t; exact .inr fun _ hyp_ => run_lp (Λ := sCiv_L (fu t)) (by kernel_rfl) (okEach (l' := [sCiv_b5, sCiv_b8]) (by kernel_rfl) ⟨sCiv_ok5 _, sCiv_ok8 _, trivial⟩) (by kernel_rfl) (hv t _ hyp_)
  · exact .inl rfl

theorem yrB_of {y : Int} (h1 : 1 ≤ y) (h2 : y ≤ 100000) : yrB y = true := by unfold yrB; rw [decide_eq_true h1, decide_eq_true h2]; rfl
theorem sCivOk_okQ : Sound Kx 194 (cv_s (fun _ => true) fun c => .bool (civOk c)) := of_cv sCivOk_ok fun y m d h i s _ => by
  show (sCivOk_br y m d h i s).val = some (.bool (civOk ⟨y, m, d, h, i, s⟩), [])
  unfold sCivOk_br civOk
  by_cases c1 : 1970 ≤ y
  · by_cases c2 : y ≤ 9999
    · rw [yrB_of (by omega) (by omega), decide_eq_true c1, decide_eq_true c2]
      simp only
      generalize decide (1 ≤ m) = b1
      generalize decide (m ≤ 12) = b2
      generalize decide (1 ≤ d) = b3
      generalize decide (d ≤ mLen y m) = b4
      generalize decide (0 ≤ h) = b5
      generalize decide (h ≤ 23) = b6
      generalize decide (0 ≤ i) = b7
      generalize decide (i ≤ 59) = b8
      generalize decide (0 ≤ s) = b9
      generalize decide (s ≤ 59) = b10
      cases b1; · rfl
      cases b2; · rfl
      cases b3; · rfl
      cases b4; · rfl
      cases b5; · rfl
      cases b6; · rfl
      cases b7; · rfl
      cases b8; · rfl
      cases b9; · rfl
      cases b10 <;> rfl
    · rw [decide_eq_true c1, decide_eq_false c2]; rfl
  · rw [decide_eq_false c1]; rfl
theorem mB_bd (y : Int) : ∀ k : Nat, 0 ≤ mB y k ∧ mB y k ≤ 31 * k
  | 0 => by simp [mB]
  | k + 1 => by
    have := mB_bd y k
    have := mLen_bd y (k + 1)
    show 0 ≤ mB y k + mLen y (k + 1) ∧ mB y k + mLen y (k + 1) ≤ _
    push_cast
    omega
theorem iSec_loop (y M d h i s : Int) (hy : 1970 ≤ y) (hy2 : y ≤ 9999) (hM : M ≤ 12) (K : Int → Int → Int → Int → Int → Int → Int → Option Rs) : ∀ (j : Nat) (acc mo : Int) (n : Nat), M - mo = j → 1 ≤ mo → j < n → -10000000 ≤ acc - mB y (mo - 1).toNat → acc - mB y (mo - 1).toNat ≤ 10000000 →
    iSec_F5 n acc mo y M d h i s K = K (acc - mB y (mo - 1).toNat + mB y (M - 1).toNat) y M d h i s := by
  intro j; induction j with
  | zero =>
    intro acc mo n hj h1 hn b0 b1; obtain ⟨n, rfl⟩ := fuel hn; unfold iSec_F5 iSec_T5
    obtain rfl : mo = M := by omega
    rw [decide_eq_false (by omega), cond_false, show acc - mB y (mo - 1).toNat + mB y (mo - 1).toNat = acc by omega]
  | succ j ih =>
    intro acc mo n hj h1 hn b0 b1; obtain ⟨n, rfl⟩ := fuel hn
    have hs := mB_step y mo h1
    have hb := mLen_bd y mo
    have hc := mB_bd y (mo - 1).toNat
    unfold iSec_F5 iSec_T5
    rw [decide_eq_true (show mo < M by omega), yrB_of (by omega) (by omega), cond_true, cond_true, w64 (n := acc + mLen y mo) (by omega) (by omega), w64 (n := mo + 1) (by omega) (by omega)]
    have e : (mo + 1 - 1).toNat = mo.toNat := by congr 1; omega
    refine (ih (acc + mLen y mo) (mo + 1) n (by omega) (by omega) (by omega) (by rw [e, hs]; omega) (by rw [e, hs]; omega)).trans ?_
    rw [e, hs]
    congr 1
    omega
def tB_s (p : Cv → Int × Bool) : Cv → AV := fun c => .tup [.int .i64 (p c).1, .bool (p c).2]
theorem dB_bd {y : Int} (h1 : 1970 ≤ y) (h2 : y ≤ 9999) : 0 ≤ dB y ∧ dB y ≤ 2932897 := by
  have a := dB_mono h1
  have b := dB_mono (show y ≤ 10000 by omega)
  rw [dB_1970] at a
  rw [dB_10000] at b
  exact ⟨a, b⟩
theorem secB_nums {y m d h i s : Int} (hk : civOk ⟨y, m, d, h, i, s⟩ = true) : wk64 ((wk64 ((wk64 ((wk64 (86400 * (dB y + d - 1 + mB y (m - 1).toNat))) + (wk64 (3600 * h)))) + (wk64 (60 * i)))) + s) = secB ⟨y, m, d, h, i, s⟩ := by
  obtain ⟨⟨h1, h2⟩, ⟨h3, h4⟩, ⟨h5, h6⟩, ⟨h7, h8⟩, ⟨h9, h10⟩, ⟨h11, h12⟩⟩ := civ_parts hk
  simp only at h1 h2 h3 h4 h5 h6 h7 h8 h9 h10 h11 h12
  have hd := dB_bd h1 h2
  have hm := mB_bd y (m - 1).toNat
  have hm2 : ((m - 1).toNat : Int) ≤ 11 := by omega
  unfold secB
  simp only
  generalize dB y = a at *
  generalize mB y (m - 1).toNat = b at *
  rw [w64 (n := 86400 * (a + d - 1 + b)) (by omega) (by omega), w64 (n := 3600 * h) (by omega) (by omega), w64 (n := 60 * i) (by omega) (by omega), w64 (n := 86400 * (a + d - 1 + b) + 3600 * h) (by omega) (by omega),
    w64 (n := 86400 * (a + d - 1 + b) + 3600 * h + 60 * i) (by omega) (by omega), w64 (by omega) (by omega)]
  omega
theorem iSec_okQ : Sound Kx 154 (cv_s (fun _ => true) (tB_s secP)) := by
  refine (iSec_okOf (φ := fun y m d h i s => .ret (tB_s secP ⟨y, m, d, h, i, s⟩) []) (fun _ m _ _ _ _ => m.toNat + 1) fun y m d h i s r hv => ?_).of fun args objs r hv => ?_
  · cases hv
    unfold iSec_run
    show (bif !civOk ⟨y, m, d, h, i, s⟩ then _ else _) = _
    unfold tB_s secP
    cases hk : civOk ⟨y, m, d, h, i, s⟩
    · rfl
    · obtain ⟨⟨h1, h2⟩, ⟨h3, h4⟩, ⟨h5, h6⟩, _⟩ := civ_parts hk
      simp only at h1 h2 h3 h4 h5 h6
      have hd := dB_bd h1 h2
      simp only [Bool.not_true, cond_false]
      rw [yrB_of (by omega) (by omega), cond_true, w64 (n := dB y + d) (by omega) (by omega), w64 (n := dB y + d - 1) (by omega) (by omega)]
      have e0 : mB y (1 - 1 : Int).toNat = 0 := rfl
      rw [iSec_loop y m d h i s h1 h2 h4 _ (m - 1).toNat (dB y + d - 1) 1 (m.toNat + 1) (by omega) (by omega) (by omega) (by rw [e0]; omega) (by rw [e0]; omega), e0, Int.sub_zero]
      rw [secB_nums hk]
      rfl
  · unfold cv_s at hv; split at hv
    · obtain ⟨_, h2⟩ := ite_some hv
      exact h2
    · cases hv
theorem yr_start (day : Int) (h0 : 0 ≤ day) (h1 : day < 2932897) : 1970 ≤ 1970 + day / 366 ∧ 1970 + day / 366 ≤ yrP day := by
  obtain ⟨g1, g2, g3, g4⟩ := yr_spec day h0 h1
  refine ⟨by omega, ?_⟩
  by_cases c : 1970 + day / 366 ≤ yrP day
  · exact c
  · have hm := dB_mono (show yrP day + 1 ≤ 1970 + day / 366 by omega)
    have hb : dB (1970 + day / 366) ≤ day := by
      unfold dB; omega
    omega
theorem iCiv3_loop (day a1 a2 a3 a4 a5 a6 m d h i s : Int) (h0 : 0 ≤ day) (h1 : day < 2932897) (K : Int → Int → Int → Int → Int → Int → Int → Int → Int → Int → Int → Int → Int → Option Rs) : ∀ (j : Nat) (y : Int) (n : Nat), yrP day - y = j → 1970 ≤ y → j < n →
    iCiv_F3 n day a1 a2 a3 a4 a5 a6 y m d h i s K = K day a1 a2 a3 a4 a5 a6 (yrP day) m d h i s := by
  obtain ⟨g1, g2, g3, g4⟩ := yr_spec day h0 h1
  intro j; induction j with
  | zero =>
    intro y n hj hy hn; obtain ⟨n, rfl⟩ := fuel hn; unfold iCiv_F3 iCiv_T3
    obtain rfl : y = yrP day := by omega
    rw [w64 (n := yrP day + 1) (by omega) (by omega), yrB_of (by omega) (by omega), cond_true, decide_eq_false (by omega), cond_false]
  | succ j ih =>
    intro y n hj hy hn; obtain ⟨n, rfl⟩ := fuel hn; unfold iCiv_F3 iCiv_T3
    have := dB_mono (show y + 1 ≤ yrP day by omega)
    rw [w64 (n := y + 1) (by omega) (by omega), yrB_of (by omega) (by omega), cond_true, decide_eq_true (by omega), cond_true]
    exact ih (y + 1) n (by omega) (by omega) (by omega)
theorem iCiv6_loop (y D a1 a2 a3 a4 a5 a6 d h i s : Int) (hy : 1970 ≤ y) (hy2 : y ≤ 9999) (h0 : 0 ≤ D) (h1 : D < yLen y) (K : Int → Int → Int → Int → Int → Int → Int → Int → Int → Int → Int → Int → Int → Option Rs) : ∀ (j : Nat) (m : Int) (n : Nat), moP y D - m = j → 1 ≤ m → j < n →
    iCiv_F6 n (D - mB y (m - 1).toNat) a1 a2 a3 a4 a5 a6 y m d h i s K = K (D - mB y (moP y D - 1).toNat) a1 a2 a3 a4 a5 a6 y (moP y D) d h i s := by
  obtain ⟨g1, g2, g3, g4⟩ := mo_spec h0 h1
  have hyl := yLen_bd y
  intro j; induction j with
  | zero =>
    intro m n hj hm hn; obtain ⟨n, rfl⟩ := fuel hn; unfold iCiv_F6 iCiv_T6
    obtain rfl : m = moP y D := by omega
    have hs := mB_step y (moP y D) hm
    rw [yrB_of (by omega) (by omega), cond_true, decide_eq_false (by omega), cond_false]
  | succ j ih =>
    intro m n hj hm hn; obtain ⟨n, rfl⟩ := fuel hn; unfold iCiv_F6 iCiv_T6
    have hs := mB_step y m hm
    have hmono := mB_mono y (moP y D - 1).toNat m.toNat (by omega)
    have hb := mB_bd y (m - 1).toNat
    have hlb := mLen_bd y m
    rw [yrB_of (by omega) (by omega), cond_true, decide_eq_true (by omega), cond_true, cond_true, w64 (n := m + 1) (by omega) (by omega), w64 (n := D - mB y (m - 1).toNat - mLen y m) (by omega) (by omega)]
    have e : (m + 1 - 1).toNat = m.toNat := by congr 1; omega
    have := ih (m + 1) n (by omega) (by omega) (by omega)
    rw [e, hs] at this
    rw [show D - mB y (m - 1).toNat - mLen y m = D - (mB y (m - 1).toNat + mLen y m) by omega]
    exact this
theorem sCiv5_loop (day a1 a2 a3 a4 a5 a6 m d h i s : Int) (h0 : 0 ≤ day) (h1 : day < 2932897) (K : Int → Int → Int → Int → Int → Int → Int → Int → Int → Int → Int → Int → Int → Option Rs) : ∀ (j : Nat) (y : Int) (n : Nat), yrP day - y = j → 1970 ≤ y → j < n →
    sCiv_F5 n (day - dB y) a1 a2 a3 a4 a5 a6 y m d h i s K = K (yDay day) a1 a2 a3 a4 a5 a6 (yrP day) m d h i s := by
  obtain ⟨g1, g2, g3, g4⟩ := yr_spec day h0 h1
  intro j; induction j with
  | zero =>
    intro y n hj hy hn; obtain ⟨n, rfl⟩ := fuel hn; unfold sCiv_F5 sCiv_T5
    obtain rfl : y = yrP day := by omega
    have hs := dB_succ (yrP day)
    rw [yrB_of (by omega) (by omega), cond_true, decide_eq_false (by omega), cond_false]
    rfl
  | succ j ih =>
    intro y n hj hy hn; obtain ⟨n, rfl⟩ := fuel hn; unfold sCiv_F5 sCiv_T5
    have := dB_mono (show y + 1 ≤ yrP day by omega)
    have hs := dB_succ y
    have hb := yLen_bd y
    have hd := dB_bd hy (by omega)
    rw [yrB_of (by omega) (by omega), cond_true, decide_eq_true (by omega), cond_true, cond_true, w64 (n := y + 1) (by omega) (by omega), w64 (n := day - dB y - yLen y) (by omega) (by omega)]
    have := ih (y + 1) n (by omega) (by omega) (by omega)
    rw [hs] at this
    rw [show day - dB y - yLen y = day - (dB y + yLen y) by omega]
    exact this
theorem sCiv8_loop (y D a1 a2 a3 a4 a5 a6 d h i s : Int) (hy : 1970 ≤ y) (hy2 : y ≤ 9999) (h0 : 0 ≤ D) (h1 : D < yLen y) (K : Int → Int → Int → Int → Int → Int → Int → Int → Int → Int → Int → Int → Int → Option Rs) : ∀ (j : Nat) (m : Int) (n : Nat), moP y D - m = j → 1 ≤ m → j < n →
    sCiv_F8 n (D - mB y (m - 1).toNat) a1 a2 a3 a4 a5 a6 y m d h i s K = K (D - mB y (moP y D - 1).toNat) a1 a2 a3 a4 a5 a6 y (moP y D) d h i s := by
  obtain ⟨g1, g2, g3, g4⟩ := mo_spec h0 h1
  have hyl := yLen_bd y
  intro j; induction j with
  | zero =>
    intro m n hj hm hn; obtain ⟨n, rfl⟩ := fuel hn; unfold sCiv_F8 sCiv_T8
    obtain rfl : m = moP y D := by omega
    have hs := mB_step y (moP y D) hm
    rw [yrB_of (by omega) (by omega), cond_true, decide_eq_false (by omega), cond_false]
  | succ j ih =>
    intro m n hj hm hn; obtain ⟨n, rfl⟩ := fuel hn; unfold sCiv_F8 sCiv_T8
    have hs := mB_step y m hm
    have hmono := mB_mono y (moP y D - 1).toNat m.toNat (by omega)
    have hb := mB_bd y (m - 1).toNat
    have hlb := mLen_bd y m
    rw [yrB_of (by omega) (by omega), cond_true, decide_eq_true (by omega), cond_true, cond_true, w64 (n := m + 1) (by omega) (by omega), w64 (n := D - mB y (m - 1).toNat - mLen y m) (by omega) (by omega)]
    have e : (m + 1 - 1).toNat = m.toNat := by congr 1; omega
    have := ih (m + 1) n (by omega) (by omega) (by omega)
    rw [e, hs] at this
    rw [show D - mB y (m - 1).toNat - mLen y m = D - (mB y (m - 1).toNat + mLen y m) by omega]
    exact this
def cvY (t : Int) : Int := (civP t).y
def cvMo (t : Int) : Int := (civP t).m
def cvD (t : Int) : Int := (civP t).d
def cvH (t : Int) : Int := (civP t).h
def cvMi (t : Int) : Int := (civP t).i
def cvSe (t : Int) : Int := (civP t).s
theorem cvM_civ (t : Int) : cvM (cvY t) (cvMo t) (cvD t) (cvH t) (cvMi t) (cvSe t) = civP t := rfl
def civA (t : Int) : AV := .agg [.int .i64 (cvY t), .int .i64 (cvMo t), .int .i64 (cvD t), .int .i64 (cvH t), .int .i64 (cvMi t), .int .i64 (cvSe t)]
theorem tdv {a : Int} (h : 0 ≤ a) (k : Int) : Int.tdiv a k = a / k := Int.tdiv_eq_ediv_of_nonneg h
theorem iCiv_okQ : Sound Kx 203 (j1_s timB civA) := by
  refine (iCiv_okOf (φ := fun t => .ite (timB t) (.ret (civA t) []) .fail) (fun _ => 10020) fun t r hv => ?_).of fun args objs r hv => ?_
  · obtain ⟨h1, h2⟩ := ite_some hv
    cases h2
    obtain ⟨t0, t1⟩ := timB_le h1
    obtain ⟨g0, g1, g2, g3⟩ := yDay_bd h1
    have d0 : 0 ≤ t / 86400 := by omega
    have d1 : t / 86400 < 2932897 := by omega
    obtain ⟨s1, s2⟩ := yr_start (t / 86400) d0 d1
    have hm := mo_spec g0 g1
    have hdb := dB_bd g2 g3
    unfold iCiv_run
    rw [Int.tmod_eq_emod_of_nonneg t0, tdv t0, w64 (n := t / 86400) (by omega) (by omega), tdv d0, w64 (n := t / 86400 / 366) (by omega) (by omega), w64 (n := 1970 + t / 86400 / 366) (by omega) (by omega),
      iCiv3_loop (t / 86400) 0 0 0 0 0 0 1 0 _ _ _ d0 d1 _ (yrP (t / 86400) - (1970 + t / 86400 / 366)).toNat (1970 + t / 86400 / 366) 10020 (by omega) s1 (by omega)]
    rw [yrB_of (by omega) (by omega), cond_true, w64 (n := t / 86400 - dB (yrP (t / 86400))) (by omega) (by omega)]
    have e0 : t / 86400 - dB (yrP (t / 86400)) = yDay (t / 86400) - mB (yrP (t / 86400)) (1 - 1 : Int).toNat := by
      rw [show mB (yrP (t / 86400)) (1 - 1 : Int).toNat = 0 from rfl, Int.sub_zero]; rfl
    rw [e0, iCiv6_loop (yrP (t / 86400)) (yDay (t / 86400)) 0 0 0 0 0 0 0 _ _ _ g2 g3 g0 g1 _ (moP (yrP (t / 86400)) (yDay (t / 86400)) - 1).toNat 1 10020 (by omega) (by omega) (by omega)]
    have r0 : 0 ≤ t % 86400 := by omega
    have hb := mB_bd (yrP (t / 86400)) (moP (yrP (t / 86400)) (yDay (t / 86400)) - 1).toNat
    have hy := yLen_bd (yrP (t / 86400))
    rw [tdv r0, tdv r0, Int.tmod_eq_emod_of_nonneg r0, w64 (n := t % 86400 / 3600) (by omega) (by omega), w64 (n := t % 86400 / 60) (by omega) (by omega), Int.tmod_eq_emod_of_nonneg (show 0 ≤ t % 86400 / 60 by omega), w64 (n := yDay (t / 86400) - mB (yrP (t / 86400)) (moP (yrP (t / 86400)) (yDay (t / 86400)) - 1).toNat + 1) (by omega) (by omega),
      show t % 86400 / 3600 = t / 3600 % 24 by omega, show t % 86400 / 60 % 60 = t / 60 % 60 by omega, show t % 86400 % 60 = t % 60 by omega]
    rfl
  · unfold j1_s at hv; split at hv
    · exact hv
    · cases hv
def scv_s : List AV → List Ob → Br
  | [.int .i64 t], [] => .ite (timB t) (.ret (.tup [civA t, .bool true]) []) (.ret (.tup [.agg [.int .i64 0, .int .i64 0, .int .i64 0, .int .i64 0, .int .i64 0, .int .i64 0], .bool false]) [])
  | _, _ => .fail
theorem sCiv_okQ : Sound Kx 143 scv_s := by
  refine (sCiv_okOf (φ := fun t => .ite (timB t) (.ret (.tup [civA t, .bool true]) []) (.ret (.tup [.agg [.int .i64 0, .int .i64 0, .int .i64 0, .int .i64 0, .int .i64 0, .int .i64 0], .bool false]) [])) (fun _ => 10020) fun t r hv => ?_).of fun args objs r hv => ?_
  · rw [← hv]
    unfold sCiv_run
    cases h1 : timB t
    · rfl
    simp only [Bool.not_true, cond_false]
    obtain ⟨t0, t1⟩ := timB_le h1
    obtain ⟨g0, g1, g2, g3⟩ := yDay_bd h1
    have d0 : 0 ≤ t / 86400 := by omega
    have d1 : t / 86400 < 2932897 := by omega
    have hm := mo_spec g0 g1
    have e1 : t / 86400 = t / 86400 - dB 1970 := by rw [dB_1970]; omega
    rw [tdv t0, tdv t0, tdv t0, w64 (n := t / 86400) (by omega) (by omega), w64 (n := t / 3600) (by omega) (by omega), w64 (n := t / 60) (by omega) (by omega), Int.tmod_eq_emod_of_nonneg (show 0 ≤ t / 3600 by omega), Int.tmod_eq_emod_of_nonneg (show 0 ≤ t / 60 by omega), Int.tmod_eq_emod_of_nonneg t0]
    have l5 := fun K => sCiv5_loop (t / 86400) 0 0 0 0 0 0 1 0 (t / 3600 % 24) (t / 60 % 60) (t % 60) d0 d1 K (yrP (t / 86400) - 1970).toNat 1970 10020 (by omega) (by omega) (by omega)
    rw [← e1] at l5
    rw [l5]
    have e0 : yDay (t / 86400) = yDay (t / 86400) - mB (yrP (t / 86400)) (1 - 1 : Int).toNat := by
      rw [show mB (yrP (t / 86400)) (1 - 1 : Int).toNat = 0 from rfl, Int.sub_zero]
    have l8 := fun K => sCiv8_loop (yrP (t / 86400)) (yDay (t / 86400)) 0 0 0 0 0 0 0 (t / 3600 % 24) (t / 60 % 60) (t % 60) g2 g3 g0 g1 K (moP (yrP (t / 86400)) (yDay (t / 86400)) - 1).toNat 1 10020 (by omega) (by omega) (by omega)
    rw [← e0] at l8
    rw [l8]
    have hb := mB_bd (yrP (t / 86400)) (moP (yrP (t / 86400)) (yDay (t / 86400)) - 1).toNat
    have hy := yLen_bd (yrP (t / 86400))
    rw [w64 (n := yDay (t / 86400) - mB (yrP (t / 86400)) (moP (yrP (t / 86400)) (yDay (t / 86400)) - 1).toNat + 1) (by omega) (by omega)]
    rfl
  · unfold scv_s at hv; split at hv
    · exact hv
    · cases hv
def con_s : List AV → List Ob → Br
  | [.str s, .str sep], [] => .ite (decide (s.length ≤ 1000000)) (.ret (.bool (conP s sep)) []) .fail
  | _, _ => .fail
theorem con_okQ : Sound Kx 175 con_s := by
  refine sound_calls Tryz.func175 (by kernel_rfl) rfl fun args objs res objs' hv w L vs hR hr => ?_
  unfold con_s at hv
  split at hv
  case h_2 => cases hv
  rename_i s sep
  obtain ⟨h1, h2⟩ := ite_some hv
  cases h2
  rw [decide_eq_true_eq] at h1
  refine ⟨rfl, ?_⟩
  simp only [rels, rel] at hr
  obtain ⟨v, vs', rfl, rfl, v2, vs2, rfl, rfl, rfl⟩ := hr
  obtain ⟨m, hm⟩ := hR.g.2.1 0 (by kernel_rfl)
  refine (Tryz.strings_Contains ⟨s.toArray⟩ ⟨sep.toArray⟩ m w (by show s.toArray.size < _; simp; omega) hm).mono ?_
  rintro e w' ⟨rfl, rfl⟩
  refine ⟨_, rfl, Below.refl _ _, ?_⟩
  simp only [rel]
  rfl

def sSec_O : Opt := { live := [(9, [1, 4, 6]), (5, [1, 4, 5])], outs := [(9, [1, 2, 3, 4]), (5, [1, 2, 3, 4])] }
def sSec_C : SC := [⟨194, _, sCivOk_okQ⟩, ⟨195, _, sYear_okQ⟩, ⟨196, _, sDays_okQ⟩]
def sSec_T5 (v5x0 v5x1 v5x2 v5x3 v5x4 v5x5 v5x6 v5x7 : Int) (kR5 : Int → Int → Int → Int → Int → Int → Int → Int → Option Rs) (k5e0 : Int → Int → Int → Int → Int → Int → Int → Option Rs) : Option Rs :=
  (bif (decide (v5x1 < v5x2)) then (bif (yrB v5x1) then (kR5 (wk64 (v5x0 + (yLen v5x1))) (wk64 (v5x1 + 1)) v5x2 v5x3 v5x4 v5x5 v5x6 v5x7) else (none)) else (k5e0 v5x0 v5x2 v5x3 v5x4 v5x5 v5x6 v5x7))
def sSec_F5 : Nat → Int → Int → Int → Int → Int → Int → Int → Int → (Int → Int → Int → Int → Int → Int → Int → Option Rs) → Option Rs
  | 0, _, _, _, _, _, _, _, _, _ => none
  | n + 1, v5x0, v5x1, v5x2, v5x3, v5x4, v5x5, v5x6, v5x7, k5e0 => sSec_T5 v5x0 v5x1 v5x2 v5x3 v5x4 v5x5 v5x6 v5x7 (fun v5x0 v5x1 v5x2 v5x3 v5x4 v5x5 v5x6 v5x7 => sSec_F5 n v5x0 v5x1 v5x2 v5x3 v5x4 v5x5 v5x6 v5x7 k5e0) k5e0
abbrev sSec_p5 : SP := ⟨48, [1, 4, 5], [(.v (.ptr 128 0)), (.v (.i .i64)), (.v (.i .i64))], [(128, .var [(.i .i64), (.i .i64), (.i .i64), (.i .i64), (.i .i64), (.i .i64)])]⟩
noncomputable def sSec_b5 : Code := codeAt (codeOf Tryz.f140) [1, 1, 1, 0, 1, 0, 0]
def sSec_E5 (f : (Int → Int → Int → Int → Int → Int → Int → Option Rs) → Option Rs) (k : KT) : Option Rs := f (fun x5x0x0 x5x0x1 x5x0x2 x5x0x3 x5x0x4 x5x0x5 x5x0x6 => k (Ex.exit 0) ((St.mk (slots 0 48 [(1, (AV.ptr 128 0)), (4, (AV.int .i64 x5x0x0))]) ((128, (Ob.var ((AV.int .i64 x5x0x1) :: ((AV.int .i64 x5x0x2) :: ((AV.int .i64 x5x0x3) :: ((AV.int .i64 x5x0x4) :: ((AV.int .i64 x5x0x5) :: ((AV.int .i64 x5x0x6) :: [])))))))) :: ([] : (List (Nat × (Ob))))))))
def sSec_G5 (n : Nat) (d : sSec_p5.D) : KT → Option Rs := sSec_E5 (sSec_F5 n d.1.2.1 d.1.2.2.1 d.2.1.1 d.2.1.2.1 d.2.1.2.2.1 d.2.1.2.2.2.1 d.2.1.2.2.2.2.1 d.2.1.2.2.2.2.2.1)
def sSec_T9 (v9x0 v9x1 v9x2 v9x3 v9x4 v9x5 v9x6 v9x7 : Int) (kR9 : Int → Int → Int → Int → Int → Int → Int → Int → Option Rs) (k9e0 : Int → Int → Int → Int → Int → Int → Int → Option Rs) : Option Rs :=
  (bif (decide (v9x1 < v9x3)) then (bif (yrB v9x2) then (kR9 (wk64 (v9x0 + (mLen v9x2 v9x1))) (wk64 (v9x1 + 1)) v9x2 v9x3 v9x4 v9x5 v9x6 v9x7) else (none)) else (k9e0 v9x0 v9x2 v9x3 v9x4 v9x5 v9x6 v9x7))
def sSec_F9 : Nat → Int → Int → Int → Int → Int → Int → Int → Int → (Int → Int → Int → Int → Int → Int → Int → Option Rs) → Option Rs
  | 0, _, _, _, _, _, _, _, _, _ => none
  | n + 1, v9x0, v9x1, v9x2, v9x3, v9x4, v9x5, v9x6, v9x7, k9e0 => sSec_T9 v9x0 v9x1 v9x2 v9x3 v9x4 v9x5 v9x6 v9x7 (fun v9x0 v9x1 v9x2 v9x3 v9x4 v9x5 v9x6 v9x7 => sSec_F9 n v9x0 v9x1 v9x2 v9x3 v9x4 v9x5 v9x6 v9x7 k9e0) k9e0
abbrev sSec_p9 : SP := ⟨48, [1, 4, 6], [(.v (.ptr 128 0)), (.v (.i .i64)), (.v (.i .i64))], [(128, .var [(.i .i64), (.i .i64), (.i .i64), (.i .i64), (.i .i64), (.i .i64)])]⟩
noncomputable def sSec_b9 : Code := codeAt (codeOf Tryz.f140) [1, 1, 1, 1, 0, 1, 0, 0]
def sSec_E9 (f : (Int → Int → Int → Int → Int → Int → Int → Option Rs) → Option Rs) (k : KT) : Option Rs := f (fun x9x0x0 x9x0x1 x9x0x2 x9x0x3 x9x0x4 x9x0x5 x9x0x6 => k (Ex.exit 2) ((St.mk (slots 0 48 [(1, (AV.ptr 128 0)), (4, (AV.int .i64 x9x0x0))]) ((128, (Ob.var ((AV.int .i64 x9x0x1) :: ((AV.int .i64 x9x0x2) :: ((AV.int .i64 x9x0x3) :: ((AV.int .i64 x9x0x4) :: ((AV.int .i64 x9x0x5) :: ((AV.int .i64 x9x0x6) :: [])))))))) :: ([] : (List (Nat × (Ob))))))))
def sSec_G9 (n : Nat) (d : sSec_p9.D) : KT → Option Rs := sSec_E9 (sSec_F9 n d.1.2.1 d.1.2.2.1 d.2.1.1 d.2.1.2.1 d.2.1.2.2.1 d.2.1.2.2.2.1 d.2.1.2.2.2.2.1 d.2.1.2.2.2.2.2.1)
def sSec_L (N : Nat) : Lam := lamOf [⟨5, sSec_p5, sSec_G5 N⟩, ⟨9, sSec_p9, sSec_G9 N⟩]
theorem sSec_ok5 (N : Nat) : OkL Kx sSec_C.s sSec_O 0 N (sSec_L N) sSec_b5 := okL sSec_p5 (sSec_G5) (fun d kR => sSec_E5 (sSec_T5 d.1.2.1 d.1.2.2.1 d.2.1.1 d.2.1.2.1 d.2.1.2.2.1 d.2.1.2.2.2.1 d.2.1.2.2.2.2.1 d.2.1.2.2.2.2.2.1 (fun v5x0 v5x1 v5x2 v5x3 v5x4 v5x5 v5x6 v5x7 => kR (((), v5x0, v5x1, ()), ((v5x2, v5x3, v5x4, v5x5, v5x6, v5x7, ()), ()))))) (fun _ _ => by kernel_rfl) (fun _ _ _ => by kernel_rfl) (fun _ _ => by kernel_rfl) (fun _ _ _ _ => by kernel_rfl) (okEach (l' := []) (by kernel_rfl) trivial)
theorem sSec_ok9 (N : Nat) : OkL Kx sSec_C.s sSec_O 0 N (sSec_L N) sSec_b9 := okL sSec_p9 (sSec_G9) (fun d kR => sSec_E9 (sSec_T9 d.1.2.1 d.1.2.2.1 d.2.1.1 d.2.1.2.1 d.2.1.2.2.1 d.2.1.2.2.2.1 d.2.1.2.2.2.2.1 d.2.1.2.2.2.2.2.1 (fun v9x0 v9x1 v9x2 v9x3 v9x4 v9x5 v9x6 v9x7 => kR (((), v9x0, v9x1, ()), ((v9x2, v9x3, v9x4, v9x5, v9x6, v9x7, ()), ()))))) (fun _ _ => by kernel_rfl) (fun _ _ _ => by kernel_rfl) (fun _ _ => by kernel_rfl) (fun _ _ _ _ => by kernel_rfl) (okEach (l' := []) (by kernel_rfl) trivial)
def sSec_run (N : Nat) (y m d h i s : Int) : Option Rs := (bif (!(civOk (cvM y m d h i s))) then (some ((AV.tup ((AV.int .i64 0) :: ((AV.bool false) :: []))), [])) else (sSec_F5 N (wk64 (d - 1)) 1970 y m d h i s (fun x5x0x0 => (fun x5x0x1 => (fun x5x0x2 => (fun x5x0x3 => (fun x5x0x4 => (fun x5x0x5 => (fun x5x0x6 => (sSec_F9 N x5x0x0 1 x5x0x1 x5x0x2 x5x0x3 x5x0x4 x5x0x5 x5x0x6 (fun x9x0x0 => (fun x9x0x1 => (fun x9x0x2 => (fun x9x0x3 => (fun x9x0x4 => (fun x9x0x5 => (fun x9x0x6 => (some ((AV.tup ((AV.int .i64 (wk64 ((wk64 ((wk64 ((wk64 ((wk64 ((wk64 (x9x0x0 * 24)) + x9x0x4)) * 60)) + x9x0x5)) * 60)) + x9x0x6))) :: ((AV.bool true) :: []))), [])))))))))))))))))))
def sSec_sOf (φ : Int → Int → Int → Int → Int → Int → Br) : List AV → List Ob → Br
  | [.agg [.int .i64 y, .int .i64 m, .int .i64 d, .int .i64 h, .int .i64 i, .int .i64 s]], [] => φ y m d h i s
  | _, _ => .fail
theorem sSec_okOf {φ : Int → Int → Int → Int → Int → Int → Br} (fu : Int → Int → Int → Int → Int → Int → Nat) (hv : ∀ y m d h i s res_, (φ y m d h i s).val = some res_ → sSec_run (fu y m d h i s) y m d h i s = some res_) : Sound Kx 140 (sSec_sOf φ) := sound_lp (C := sSec_C) (O := sSec_O) Tryz.func140 (by kernel_rfl) fun args objs => by
  unfold sSec_sOf; split
  · rename_i y m d h i s; exact .inr fun _ hyp_ => run_lp (Λ := sSec_L (fu y m d h i s)) (by kernel_rfl) (okEach (l' := [sSec_b5, sSec_b9]) (by kernel_rfl) ⟨sSec_ok5 _, sSec_ok9 _, trivial⟩) (by kernel_rfl) (hv y m d h i s _ hyp_)
  · exact .inl rfl

def iHttp_O : Opt := { split := true }
def iHttp_C : SC := [⟨89, _, iTime_okQ⟩, ⟨203, _, iCiv_okQ⟩, ⟨204, _, iDays_okQ⟩, ⟨205, _, iWk_okQ⟩, ⟨206, _, iDig_okQ⟩, ⟨198, _, iMons_okQ⟩, ⟨207, _, iClk_okQ⟩]
abbrev iHttp_c1 (t : Int) := (((((cut (List.getD dayT (Int.toNat (wkP t)) ([] : Bytes)) 0 3) ++ ([44, 32] : Bytes)) ++ (padP 2 (cvD t))) ++ ([32] : Bytes)) ++ (List.getD monL (Int.toNat (wk64 ((cvMo t) - 1))) ([] : Bytes)))
def iHttp_br (t : Int) : Br := (Br.ite (!(timB t)) (Br.ret (AV.str ([] : Bytes)) []) (Br.ite (timB t) (Br.ite (decide (0 ≤ (wkP t))) (Br.ite (decide ((wkP t) < 7)) (Br.ite (decide (3 ≤ ((List.length (List.getD dayT (Int.toNat (wkP t)) ([] : Bytes))) : Int))) (Br.ite (decide (((List.length (cut (List.getD dayT (Int.toNat (wkP t)) ([] : Bytes)) 0 3)) + 2) ≤ 9223372036854775807)) (Br.ite (dgB (cvD t) 2) (Br.ite (decide (((List.length ((cut (List.getD dayT (Int.toNat (wkP t)) ([] : Bytes)) 0 3) ++ ([44, 32] : Bytes))) + (List.length (padP 2 (cvD t)))) ≤ 9223372036854775807)) (Br.ite (decide (((List.length (((cut (List.getD dayT (Int.toNat (wkP t)) ([] : Bytes)) 0 3) ++ ([44, 32] : Bytes)) ++ (padP 2 (cvD t)))) + 1) ≤ 9223372036854775807)) (Br.ite (decide (0 ≤ (wk64 ((cvMo t) - 1)))) (Br.ite (decide ((wk64 ((cvMo t) - 1)) < 12)) (Br.ite (decide (((List.length ((((cut (List.getD dayT (Int.toNat (wkP t)) ([] : Bytes)) 0 3) ++ ([44, 32] : Bytes)) ++ (padP 2 (cvD t))) ++ ([32] : Bytes))) + (List.length (List.getD monL (Int.toNat (wk64 ((cvMo t) - 1))) ([] : Bytes)))) ≤ 9223372036854775807)) (Br.ite (decide (((List.length (iHttp_c1 t)) + 1) ≤ 9223372036854775807)) (Br.ite (dgB (cvY t) 4) (Br.ite (decide (((List.length ((iHttp_c1 t) ++ ([32] : Bytes))) + (List.length (padP 4 (cvY t)))) ≤ 9223372036854775807)) (Br.ite (decide (((List.length (((iHttp_c1 t) ++ ([32] : Bytes)) ++ (padP 4 (cvY t)))) + 1) ≤ 9223372036854775807)) (Br.ite (civOk (cvM (cvY t) (cvMo t) (cvD t) (cvH t) (cvMi t) (cvSe t))) (Br.ite (decide (((List.length ((((iHttp_c1 t) ++ ([32] : Bytes)) ++ (padP 4 (cvY t))) ++ ([32] : Bytes))) + (List.length (clockP (cvM (cvY t) (cvMo t) (cvD t) (cvH t) (cvMi t) (cvSe t))))) ≤ 9223372036854775807)) (Br.ite (decide (((List.length (((((iHttp_c1 t) ++ ([32] : Bytes)) ++ (padP 4 (cvY t))) ++ ([32] : Bytes)) ++ (clockP (cvM (cvY t) (cvMo t) (cvD t) (cvH t) (cvMi t) (cvSe t))))) + 4) ≤ 9223372036854775807)) (Br.ret (AV.str ((((((iHttp_c1 t) ++ ([32] : Bytes)) ++ (padP 4 (cvY t))) ++ ([32] : Bytes)) ++ (clockP (cvM (cvY t) (cvMo t) (cvD t) (cvH t) (cvMi t) (cvSe t)))) ++ ([32, 71, 77, 84] : Bytes))) []) Br.fail) Br.fail) Br.fail) Br.fail) Br.fail) Br.fail) Br.fail) Br.fail) Br.fail) Br.fail) Br.fail) Br.fail) Br.fail) Br.fail) Br.fail) Br.fail) Br.fail) Br.fail))
def iHttp_s : List AV → List Ob → Br
  | [.int .i64 t], [] => iHttp_br t
  | _, _ => .fail
theorem iHttp_ok : Sound Kx 155 iHttp_s := sound_br (C := iHttp_C) (O := iHttp_O) Tryz.func155 (by kernel_rfl) fun args objs => by
  unfold iHttp_s; split
  · exact .inr (by kernel_rfl)
  · exact .inl rfl

def iLong_O : Opt := { split := true }
def iLong_C : SC := [⟨89, _, iTime_okQ⟩, ⟨203, _, iCiv_okQ⟩, ⟨204, _, iDays_okQ⟩, ⟨205, _, iWk_okQ⟩, ⟨206, _, iDig_okQ⟩, ⟨198, _, iMons_okQ⟩, ⟨207, _, iClk_okQ⟩]
abbrev iLong_c1 (t : Int) := (((((List.getD dayT (Int.toNat (wkP t)) ([] : Bytes)) ++ ([44, 32] : Bytes)) ++ (padP 2 (cvD t))) ++ ([45] : Bytes)) ++ (List.getD monL (Int.toNat (wk64 ((cvMo t) - 1))) ([] : Bytes)))
def iLong_br (t : Int) : Br := (Br.ite (!(timB t)) (Br.ret (AV.str ([] : Bytes)) []) (Br.ite (timB t) (Br.ite (decide (2069 < (cvY t))) (Br.ret (AV.str ([] : Bytes)) []) (Br.ite (timB t) (Br.ite (decide (0 ≤ (wkP t))) (Br.ite (decide ((wkP t) < 7)) (Br.ite (decide (((List.length (List.getD dayT (Int.toNat (wkP t)) ([] : Bytes))) + 2) ≤ 9223372036854775807)) (Br.ite (dgB (cvD t) 2) (Br.ite (decide (((List.length ((List.getD dayT (Int.toNat (wkP t)) ([] : Bytes)) ++ ([44, 32] : Bytes))) + (List.length (padP 2 (cvD t)))) ≤ 9223372036854775807)) (Br.ite (decide (((List.length (((List.getD dayT (Int.toNat (wkP t)) ([] : Bytes)) ++ ([44, 32] : Bytes)) ++ (padP 2 (cvD t)))) + 1) ≤ 9223372036854775807)) (Br.ite (decide (0 ≤ (wk64 ((cvMo t) - 1)))) (Br.ite (decide ((wk64 ((cvMo t) - 1)) < 12)) (Br.ite (decide (((List.length ((((List.getD dayT (Int.toNat (wkP t)) ([] : Bytes)) ++ ([44, 32] : Bytes)) ++ (padP 2 (cvD t))) ++ ([45] : Bytes))) + (List.length (List.getD monL (Int.toNat (wk64 ((cvMo t) - 1))) ([] : Bytes)))) ≤ 9223372036854775807)) (Br.ite (decide (((List.length (iLong_c1 t)) + 1) ≤ 9223372036854775807)) (Br.ite (dgB (cvY t) 2) (Br.ite (decide (((List.length ((iLong_c1 t) ++ ([45] : Bytes))) + (List.length (padP 2 (cvY t)))) ≤ 9223372036854775807)) (Br.ite (decide (((List.length (((iLong_c1 t) ++ ([45] : Bytes)) ++ (padP 2 (cvY t)))) + 1) ≤ 9223372036854775807)) (Br.ite (civOk (cvM (cvY t) (cvMo t) (cvD t) (cvH t) (cvMi t) (cvSe t))) (Br.ite (decide (((List.length ((((iLong_c1 t) ++ ([45] : Bytes)) ++ (padP 2 (cvY t))) ++ ([32] : Bytes))) + (List.length (clockP (cvM (cvY t) (cvMo t) (cvD t) (cvH t) (cvMi t) (cvSe t))))) ≤ 9223372036854775807)) (Br.ite (decide (((List.length (((((iLong_c1 t) ++ ([45] : Bytes)) ++ (padP 2 (cvY t))) ++ ([32] : Bytes)) ++ (clockP (cvM (cvY t) (cvMo t) (cvD t) (cvH t) (cvMi t) (cvSe t))))) + 4) ≤ 9223372036854775807)) (Br.ret (AV.str ((((((iLong_c1 t) ++ ([45] : Bytes)) ++ (padP 2 (cvY t))) ++ ([32] : Bytes)) ++ (clockP (cvM (cvY t) (cvMo t) (cvD t) (cvH t) (cvMi t) (cvSe t)))) ++ ([32, 71, 77, 84] : Bytes))) []) Br.fail) Br.fail) Br.fail) Br.fail) Br.fail) Br.fail) Br.fail) Br.fail) Br.fail) Br.fail) Br.fail) Br.fail) Br.fail) Br.fail) Br.fail) Br.fail) Br.fail)) Br.fail))
def iLong_s : List AV → List Ob → Br
  | [.int .i64 t], [] => iLong_br t
  | _, _ => .fail
theorem iLong_ok : Sound Kx 156 iLong_s := sound_br (C := iLong_C) (O := iLong_O) Tryz.func156 (by kernel_rfl) fun args objs => by
  unfold iLong_s; split
  · exact .inr (by kernel_rfl)
  · exact .inl rfl

def iLine_O : Opt := { split := true }
def iLine_C : SC := [⟨89, _, iTime_okQ⟩, ⟨203, _, iCiv_okQ⟩, ⟨204, _, iDays_okQ⟩, ⟨205, _, iWk_okQ⟩, ⟨206, _, iDig_okQ⟩, ⟨198, _, iMons_okQ⟩, ⟨207, _, iClk_okQ⟩]
abbrev iLine_c1 (t : Int) := (((cut (List.getD dayT (Int.toNat (wkP t)) ([] : Bytes)) 0 3) ++ ([32] : Bytes)) ++ (List.getD monL (Int.toNat (wk64 ((cvMo t) - 1))) ([] : Bytes)))
abbrev iLine_c2 (t : Int) := (((iLine_c1 t) ++ ([32] : Bytes)) ++ (([32] : Bytes) ++ (cut (padP 2 (cvD t)) 1 ((List.length (padP 2 (cvD t))) : Int))))
abbrev iLine_c3 (t : Int) := (cvM (cvY t) (cvMo t) (cvD t) (cvH t) (cvMi t) (cvSe t))
abbrev iLine_c4 (t : Int) := (decide (((List.length ((cut (List.getD dayT (Int.toNat (wkP t)) ([] : Bytes)) 0 3) ++ ([32] : Bytes))) + (List.length (List.getD monL (Int.toNat (wk64 ((cvMo t) - 1))) ([] : Bytes)))) ≤ 9223372036854775807))
abbrev iLine_c5 (t : Int) := ((((iLine_c1 t) ++ ([32] : Bytes)) ++ (padP 2 (cvD t))) ++ ([32] : Bytes))
def iLine_br (t : Int) : Br := (Br.ite (!(timB t)) (Br.ret (AV.str ([] : Bytes)) []) (Br.ite (timB t) (Br.ite (dgB (cvD t) 2) (Br.ite (decide ((cvD t) < 10)) (Br.ite (decide (1 ≤ ((List.length (padP 2 (cvD t))) : Int))) (Br.ite (decide ((1 + (List.length (cut (padP 2 (cvD t)) 1 ((List.length (padP 2 (cvD t))) : Int)))) ≤ 9223372036854775807)) (Br.ite (decide (0 ≤ (wkP t))) (Br.ite (decide ((wkP t) < 7)) (Br.ite (decide (3 ≤ ((List.length (List.getD dayT (Int.toNat (wkP t)) ([] : Bytes))) : Int))) (Br.ite (decide (((List.length (cut (List.getD dayT (Int.toNat (wkP t)) ([] : Bytes)) 0 3)) + 1) ≤ 9223372036854775807)) (Br.ite (decide (0 ≤ (wk64 ((cvMo t) - 1)))) (Br.ite (decide ((wk64 ((cvMo t) - 1)) < 12)) (Br.ite (iLine_c4 t) (Br.ite (decide (((List.length (iLine_c1 t)) + 1) ≤ 9223372036854775807)) (Br.ite (decide (((List.length ((iLine_c1 t) ++ ([32] : Bytes))) + (List.length (([32] : Bytes) ++ (cut (padP 2 (cvD t)) 1 ((List.length (padP 2 (cvD t))) : Int))))) ≤ 9223372036854775807)) (Br.ite (decide (((List.length (iLine_c2 t)) + 1) ≤ 9223372036854775807)) (Br.ite (civOk (iLine_c3 t)) (Br.ite (decide (((List.length ((iLine_c2 t) ++ ([32] : Bytes))) + (List.length (clockP (iLine_c3 t)))) ≤ 9223372036854775807)) (Br.ite (decide (((List.length (((iLine_c2 t) ++ ([32] : Bytes)) ++ (clockP (iLine_c3 t)))) + 1) ≤ 9223372036854775807)) (Br.ite (dgB (cvY t) 4) (Br.ite (decide (((List.length ((((iLine_c2 t) ++ ([32] : Bytes)) ++ (clockP (iLine_c3 t))) ++ ([32] : Bytes))) + (List.length (padP 4 (cvY t)))) ≤ 9223372036854775807)) (Br.ret (AV.str (((((iLine_c2 t) ++ ([32] : Bytes)) ++ (clockP (iLine_c3 t))) ++ ([32] : Bytes)) ++ (padP 4 (cvY t)))) []) Br.fail) Br.fail) Br.fail) Br.fail) Br.fail) Br.fail) Br.fail) Br.fail) Br.fail) Br.fail) Br.fail) Br.fail) Br.fail) Br.fail) Br.fail) Br.fail) Br.fail) (Br.ite (decide (0 ≤ (wkP t))) (Br.ite (decide ((wkP t) < 7)) (Br.ite (decide (3 ≤ ((List.length (List.getD dayT (Int.toNat (wkP t)) ([] : Bytes))) : Int))) (Br.ite (decide (((List.length (cut (List.getD dayT (Int.toNat (wkP t)) ([] : Bytes)) 0 3)) + 1) ≤ 9223372036854775807)) (Br.ite (decide (0 ≤ (wk64 ((cvMo t) - 1)))) (Br.ite (decide ((wk64 ((cvMo t) - 1)) < 12)) (Br.ite (iLine_c4 t) (Br.ite (decide (((List.length (iLine_c1 t)) + 1) ≤ 9223372036854775807)) (Br.ite (decide (((List.length ((iLine_c1 t) ++ ([32] : Bytes))) + (List.length (padP 2 (cvD t)))) ≤ 9223372036854775807)) (Br.ite (decide (((List.length (((iLine_c1 t) ++ ([32] : Bytes)) ++ (padP 2 (cvD t)))) + 1) ≤ 9223372036854775807)) (Br.ite (civOk (iLine_c3 t)) (Br.ite (decide (((List.length (iLine_c5 t)) + (List.length (clockP (iLine_c3 t)))) ≤ 9223372036854775807)) (Br.ite (decide (((List.length ((iLine_c5 t) ++ (clockP (iLine_c3 t)))) + 1) ≤ 9223372036854775807)) (Br.ite (dgB (cvY t) 4) (Br.ite (decide (((List.length (((iLine_c5 t) ++ (clockP (iLine_c3 t))) ++ ([32] : Bytes))) + (List.length (padP 4 (cvY t)))) ≤ 9223372036854775807)) (Br.ret (AV.str ((((iLine_c5 t) ++ (clockP (iLine_c3 t))) ++ ([32] : Bytes)) ++ (padP 4 (cvY t)))) []) Br.fail) Br.fail) Br.fail) Br.fail) Br.fail) Br.fail) Br.fail) Br.fail) Br.fail) Br.fail) Br.fail) Br.fail) Br.fail) Br.fail) Br.fail)) Br.fail) Br.fail))
def iLine_s : List AV → List Ob → Br
  | [.int .i64 t], [] => iLine_br t
  | _, _ => .fail
theorem iLine_ok : Sound Kx 157 iLine_s := sound_br (C := iLine_C) (O := iLine_O) Tryz.func157 (by kernel_rfl) fun args objs => by
  unfold iLine_s; split
  · exact .inr (by kernel_rfl)
  · exact .inl rfl

def sHttp_O : Opt := { split := true }
def sHttp_C : SC := [⟨143, _, sCiv_okQ⟩, ⟨144, _, sDayN_okQ⟩, ⟨145, _, sWk_okQ⟩, ⟨146, _, sPad_okQ⟩, ⟨142, _, sMonN_okQ⟩, ⟨147, _, sClk_okQ⟩]
def sHttp_br (t : Int) : Br := (Br.ite (timB t) (Br.ite (decide (3 ≤ ((List.length (dayN (wkP t))) : Int))) (Br.ite (decide (((List.length (cut (dayN (wkP t)) 0 3)) + 2) ≤ 9223372036854775807)) (Br.ite (pdB (cvD t) 2) (Br.ite (decide (((List.length ((cut (dayN (wkP t)) 0 3) ++ ([44, 32] : Bytes))) + (List.length (padP 2 (cvD t)))) ≤ 9223372036854775807)) (Br.ite (decide (((List.length (((cut (dayN (wkP t)) 0 3) ++ ([44, 32] : Bytes)) ++ (padP 2 (cvD t)))) + 1) ≤ 9223372036854775807)) (Br.ite (moB (cvMo t)) (Br.ite (decide (((List.length ((((cut (dayN (wkP t)) 0 3) ++ ([44, 32] : Bytes)) ++ (padP 2 (cvD t))) ++ ([32] : Bytes))) + (List.length (monN (cvMo t)))) ≤ 9223372036854775807)) (Br.ite (decide (((List.length (((((cut (dayN (wkP t)) 0 3) ++ ([44, 32] : Bytes)) ++ (padP 2 (cvD t))) ++ ([32] : Bytes)) ++ (monN (cvMo t)))) + 1) ≤ 9223372036854775807)) (Br.ite (pdB (cvY t) 4) (Br.ite (decide (((List.length ((((((cut (dayN (wkP t)) 0 3) ++ ([44, 32] : Bytes)) ++ (padP 2 (cvD t))) ++ ([32] : Bytes)) ++ (monN (cvMo t))) ++ ([32] : Bytes))) + (List.length (padP 4 (cvY t)))) ≤ 9223372036854775807)) (Br.ite (decide (((List.length (((((((cut (dayN (wkP t)) 0 3) ++ ([44, 32] : Bytes)) ++ (padP 2 (cvD t))) ++ ([32] : Bytes)) ++ (monN (cvMo t))) ++ ([32] : Bytes)) ++ (padP 4 (cvY t)))) + 1) ≤ 9223372036854775807)) (Br.ite (civOk (cvM (cvY t) (cvMo t) (cvD t) (cvH t) (cvMi t) (cvSe t))) (Br.ite (decide (((List.length ((((((((cut (dayN (wkP t)) 0 3) ++ ([44, 32] : Bytes)) ++ (padP 2 (cvD t))) ++ ([32] : Bytes)) ++ (monN (cvMo t))) ++ ([32] : Bytes)) ++ (padP 4 (cvY t))) ++ ([32] : Bytes))) + (List.length (clockP (cvM (cvY t) (cvMo t) (cvD t) (cvH t) (cvMi t) (cvSe t))))) ≤ 9223372036854775807)) (Br.ite (decide (((List.length (((((((((cut (dayN (wkP t)) 0 3) ++ ([44, 32] : Bytes)) ++ (padP 2 (cvD t))) ++ ([32] : Bytes)) ++ (monN (cvMo t))) ++ ([32] : Bytes)) ++ (padP 4 (cvY t))) ++ ([32] : Bytes)) ++ (clockP (cvM (cvY t) (cvMo t) (cvD t) (cvH t) (cvMi t) (cvSe t))))) + 4) ≤ 9223372036854775807)) (Br.ret (AV.str ((((((((((cut (dayN (wkP t)) 0 3) ++ ([44, 32] : Bytes)) ++ (padP 2 (cvD t))) ++ ([32] : Bytes)) ++ (monN (cvMo t))) ++ ([32] : Bytes)) ++ (padP 4 (cvY t))) ++ ([32] : Bytes)) ++ (clockP (cvM (cvY t) (cvMo t) (cvD t) (cvH t) (cvMi t) (cvSe t)))) ++ ([32, 71, 77, 84] : Bytes))) []) Br.fail) Br.fail) Br.fail) Br.fail) Br.fail) Br.fail) Br.fail) Br.fail) Br.fail) Br.fail) Br.fail) Br.fail) Br.fail) Br.fail) (Br.ret (AV.str ([] : Bytes)) []))
def sHttp_s : List AV → List Ob → Br
  | [.int .i64 t], [] => sHttp_br t
  | _, _ => .fail
theorem sHttp_ok : Sound Kx 85 sHttp_s := sound_br (C := sHttp_C) (O := sHttp_O) Tryz.func85 (by kernel_rfl) fun args objs => by
  unfold sHttp_s; split
  · exact .inr (by kernel_rfl)
  · exact .inl rfl

def iMonIn_O : Opt := { live := [(2, [0, 5, 6, 7])], outs := [(2, [2])] }
def iMonIn_C : SC := [⟨198, _, iMons_okQ⟩, ⟨175, _, con_okQ⟩]
def iMonIn_T2 (v2x0 : Bytes) (v2x1 v2x2 : Int) (v2x3 : (List Bytes)) (kR2 : Bytes → Int → Int → (List Bytes) → Option Rs) (k2e0 : Int → Option Rs) (k2e1 : Option Rs) : Option Rs :=
  (bif (decide (v2x2 < v2x1)) then (bif (decide (0 ≤ v2x2)) then (bif (decide (v2x2 < (v2x3.length : Int))) then (bif (decide (v2x0.length ≤ 1000000)) then (bif (conP v2x0 (List.getD v2x3 (Int.toNat v2x2) ([] : Bytes))) then (k2e0 (wk64 (v2x2 + 1))) else (kR2 v2x0 v2x1 (wk64 (v2x2 + 1)) v2x3)) else (none)) else (none)) else (none)) else k2e1)
def iMonIn_F2 : Nat → Bytes → Int → Int → (List Bytes) → (Int → Option Rs) → (Option Rs) → Option Rs
  | 0, _, _, _, _, _, _ => none
  | n + 1, v2x0, v2x1, v2x2, v2x3, k2e0, k2e1 => iMonIn_T2 v2x0 v2x1 v2x2 v2x3 (fun v2x0 v2x1 v2x2 v2x3 => iMonIn_F2 n v2x0 v2x1 v2x2 v2x3 k2e0 k2e1) k2e0 k2e1
abbrev iMonIn_p2 : SP := ⟨18, [0, 5, 6, 7], [(.v .s), (.v (.ref 384 0)), (.v (.i .i64)), (.v (.i .i64))], [(384, .arr Ty.str 0 false)]⟩
noncomputable def iMonIn_b2 : Code := codeAt (codeOf Tryz.f152) [1, 0, 1, 0, 0]
def iMonIn_E2 (f : (Int → Option Rs) → (Option Rs) → Option Rs) (k : KT) : Option Rs := f (fun x2x0x0 => k Ex.ret ((St.mk (slots 0 18 [(2, (AV.int .i64 x2x0x0))]) ([] : (List (Nat × (Ob))))))) (k (Ex.exit 0) ((St.mk (slots 0 18 []) ([] : (List (Nat × (Ob)))))))
def iMonIn_G2 (n : Nat) (d : iMonIn_p2.D) : KT → Option Rs := iMonIn_E2 (iMonIn_F2 n d.1.1 d.1.2.2.1 d.1.2.2.2.1 d.2.1)
def iMonIn_L (N : Nat) : Lam := lamOf [⟨2, iMonIn_p2, iMonIn_G2 N⟩]
theorem iMonIn_ok2 (N : Nat) : OkL Kx iMonIn_C.s iMonIn_O 0 N (iMonIn_L N) iMonIn_b2 := okL iMonIn_p2 (iMonIn_G2) (fun d kR => iMonIn_E2 (iMonIn_T2 d.1.1 d.1.2.2.1 d.1.2.2.2.1 d.2.1 (fun v2x0 v2x1 v2x2 v2x3 => kR ((v2x0, (), v2x1, v2x2, ()), (v2x3, ()))))) (fun _ _ => by kernel_rfl) (fun _ _ _ => by kernel_rfl) (fun _ _ => by kernel_rfl) (fun _ _ _ _ => by kernel_rfl) (okEach (l' := []) (by kernel_rfl) trivial)
def iMonIn_run (N : Nat) (s : Bytes) : Option Rs := (iMonIn_F2 N s 12 0 monL (fun x2x0x0 => (some ((AV.int .i64 x2x0x0), []))) (some ((AV.int .i64 0), [])))
def iMonIn_sOf (φ : Bytes → Br) : List AV → List Ob → Br
  | [.str s], [] => φ s
  | _, _ => .fail
theorem iMonIn_okOf {φ : Bytes → Br} (fu : Bytes → Nat) (hv : ∀ s res_, (φ s).val = some res_ → iMonIn_run (fu s) s = some res_) : Sound Kx 152 (iMonIn_sOf φ) := sound_lp (C := iMonIn_C) (O := iMonIn_O) Tryz.func152 (by kernel_rfl) fun args objs => by
  unfold iMonIn_sOf; split
  · rename_i s; exact .inr fun _ hyp_ => run_lp (Λ := iMonIn_L (fu s)) (by kernel_rfl) (okEach (l' := [iMonIn_b2]) (by kernel_rfl) ⟨iMonIn_ok2 _, trivial⟩) (by kernel_rfl) (hv s _ hyp_)
  · exact .inl rfl

def sMonth_O : Opt := { live := [(2, [0, 3])], outs := [(2, [2])] }
def sMonth_C : SC := [⟨142, _, sMonN_okQ⟩]
def sMonth_T2 (v2x0 : Bytes) (v2x1 : Int) (kR2 : Bytes → Int → Option Rs) (k2e0 : Int → Option Rs) (k2e1 : Option Rs) : Option Rs :=
  (bif (decide (v2x1 ≤ 12)) then (bif (moB v2x1) then (bif (decide ((monN v2x1) = v2x0)) then (k2e0 v2x1) else (kR2 v2x0 (wk64 (v2x1 + 1)))) else (none)) else k2e1)
def sMonth_F2 : Nat → Bytes → Int → (Int → Option Rs) → (Option Rs) → Option Rs
  | 0, _, _, _, _ => none
  | n + 1, v2x0, v2x1, k2e0, k2e1 => sMonth_T2 v2x0 v2x1 (fun v2x0 v2x1 => sMonth_F2 n v2x0 v2x1 k2e0 k2e1) k2e0 k2e1
abbrev sMonth_p2 : SP := ⟨13, [0, 3], [(.v .s), (.v (.i .i64))], []⟩
noncomputable def sMonth_b2 : Code := codeAt (codeOf Tryz.f84) [1, 0, 1, 0, 0]
def sMonth_E2 (f : (Int → Option Rs) → (Option Rs) → Option Rs) (k : KT) : Option Rs := f (fun x2x0x0 => k Ex.ret ((St.mk (slots 0 13 [(2, (AV.int .i64 x2x0x0))]) ([] : (List (Nat × (Ob))))))) (k (Ex.exit 0) ((St.mk (slots 0 13 []) ([] : (List (Nat × (Ob)))))))
def sMonth_G2 (n : Nat) (d : sMonth_p2.D) : KT → Option Rs := sMonth_E2 (sMonth_F2 n d.1.1 d.1.2.1)
def sMonth_L (N : Nat) : Lam := lamOf [⟨2, sMonth_p2, sMonth_G2 N⟩]
theorem sMonth_ok2 (N : Nat) : OkL Kx sMonth_C.s sMonth_O 0 N (sMonth_L N) sMonth_b2 := okL sMonth_p2 (sMonth_G2) (fun d kR => sMonth_E2 (sMonth_T2 d.1.1 d.1.2.1 (fun v2x0 v2x1 => kR ((v2x0, v2x1, ()), ())))) (fun _ _ => by kernel_rfl) (fun _ _ _ => by kernel_rfl) (fun _ _ => by kernel_rfl) (fun _ _ _ _ => by kernel_rfl) (okEach (l' := []) (by kernel_rfl) trivial)
def sMonth_run (N : Nat) (s : Bytes) : Option Rs := (sMonth_F2 N s 1 (fun x2x0x0 => (some ((AV.int .i64 x2x0x0), []))) (some ((AV.int .i64 (-1)), [])))
def sMonth_sOf (φ : Bytes → Br) : List AV → List Ob → Br
  | [.str s], [] => φ s
  | _, _ => .fail
theorem sMonth_okOf {φ : Bytes → Br} (fu : Bytes → Nat) (hv : ∀ s res_, (φ s).val = some res_ → sMonth_run (fu s) s = some res_) : Sound Kx 84 (sMonth_sOf φ) := sound_lp (C := sMonth_C) (O := sMonth_O) Tryz.func84 (by kernel_rfl) fun args objs => by
  unfold sMonth_sOf; split
  · rename_i s; exact .inr fun _ hyp_ => run_lp (Λ := sMonth_L (fu s)) (by kernel_rfl) (okEach (l' := [sMonth_b2]) (by kernel_rfl) ⟨sMonth_ok2 _, trivial⟩) (by kernel_rfl) (hv s _ hyp_)
  · exact .inl rfl

theorem wdP_bd {t : Int} (h : timB t = true) : 0 ≤ wdP t ∧ wdP t < 7 := by
  unfold wdP; omega
theorem day_get {w : Int} (h0 : 0 ≤ w) (h1 : w < 7) : List.getD dayT w.toNat [] = dayN w := by
  have : w = 0 ∨ w = 1 ∨ w = 2 ∨ w = 3 ∨ w = 4 ∨ w = 5 ∨ w = 6 := by omega
  rcases this with rfl | rfl | rfl | rfl | rfl | rfl | rfl <;> rfl
theorem mon_get {m : Int} (h0 : 1 ≤ m) (h1 : m ≤ 12) : List.getD monL (m - 1).toNat [] = monN m := by
  rcases mon_cases h0 h1 with rfl | rfl | rfl | rfl | rfl | rfl | rfl | rfl | rfl | rfl | rfl | rfl <;> rfl
theorem cut03 (s : Bytes) : Ev.cut s 0 3 = s.take 3 := by unfold Ev.cut; simp
structure CivF (t : Int) : Prop where
  wk : wkP t = wdP t
  d0 : decide ((0 : Int) ≤ wdP t) = true
  d1 : decide (wdP t < (7 : Int)) = true
  dg : List.getD dayT (wdP t).toNat ([] : Bytes) = dayN (wdP t)
  m0 : decide ((0 : Int) ≤ cvMo t - 1) = true
  m1 : decide (cvMo t - 1 < (12 : Int)) = true
  mw : wk64 (cvMo t - 1) = cvMo t - 1
  mg : List.getD monL (cvMo t - 1).toNat ([] : Bytes) = monN (cvMo t)
  ml : (monN (cvMo t)).length = 3
  mb : moB (cvMo t) = true
  cl : (clockP (cvM (cvY t) (cvMo t) (cvD t) (cvH t) (cvMi t) (cvSe t))).length = 8
  ok : civOk (cvM (cvY t) (cvMo t) (cvD t) (cvH t) (cvMi t) (cvSe t)) = true
  g1 : dgB (cvD t) 2 = true
  g2 : dgB (cvY t) 4 = true
  g3 : dgB (cvY t) 2 = true
  p1 : pdB (cvD t) 2 = true
  p2 : pdB (cvY t) 4 = true
  p3 : pdB (cvY t % 100) 2 = true
theorem civF {t : Int} (h : timB t = true) : CivF t := by
  obtain ⟨hk, _⟩ := civ_ok h
  obtain ⟨⟨h1, h2⟩, ⟨h3, h4⟩, _⟩ := civ_parts hk
  obtain ⟨w0, w1⟩ := wdP_bd h
  obtain ⟨⟨_, _, _, g1, g2, g3⟩, ⟨_, _, _, p1, p2, p3⟩⟩ := civ_nums hk
  have h3' : 1 ≤ cvMo t := h3
  have h4' : cvMo t ≤ 12 := h4
  exact ⟨by unfold wkP; rw [h]; rfl, decide_eq_true w0, decide_eq_true w1, day_get w0 w1, decide_eq_true (by omega), decide_eq_true (by omega), w64 (by omega) (by omega), mon_get h3' h4', mon_len h3' h4',
    by unfold moB; rw [decide_eq_true h3', decide_eq_true h4']; rfl, clock_len _, hk, g1, g2, g3, p1, p2, p3⟩
theorem iHttp_okQ : Sound Kx 155 (j1_s (fun _ => true) fun t => .str (httpP t)) := of_j1 iHttp_ok fun t _ => by
  show (iHttp_br t).val = some (.str (httpP t), [])
  unfold iHttp_br httpP iHttp_c1
  cases h : timB t
  · rfl
  have F := civF h
  have dl := day3_len (wdP t)
  have dl2 := day_len (wdP t)
  have e3 : decide ((3 : Int) ≤ ((dayN (wdP t)).length : Int)) = true := decide_eq_true (by omega)
  simp only [F.wk, F.d0, F.d1, F.dg, F.mw, F.m0, F.m1, F.mg, F.ml, F.cl, F.ok, F.g1, F.g2, F.g3, e3, cut03, dl, List.length_append, padP_len, List.length_cons, List.length_nil, Br.val, Bool.not_true]
  simp [httpC, gmtB, List.append_assoc, cvM_civ, Br.val, cvD, cvMo, cvY]
  rfl
theorem iLong_okQ : Sound Kx 156 (j1_s (fun _ => true) fun t => .str (longP t)) := of_j1 iLong_ok fun t _ => by
  show (iLong_br t).val = some (.str (longP t), [])
  unfold iLong_br longP iLong_c1
  cases h : timB t
  · rfl
  have F := civF h
  have dl2 := day_len (wdP t)
  by_cases c : cvY t ≤ 2069
  · have e1 : decide (2069 < cvY t) = false := decide_eq_false (by omega)
    have e2 : decide ((civP t).y ≤ 2069) = true := decide_eq_true c
    have e3 : ∀ k : Nat, 9 ≤ k → decide ((dayN (wdP t)).length ≤ k) = true := fun k hk => decide_eq_true (by omega)
    rw [e2]
    simp only [F.wk, F.d0, F.d1, F.dg, F.mw, F.m0, F.m1, F.mg, F.ml, F.cl, F.ok, F.g1, F.g2, F.g3, e1, List.length_append, padP_len, List.length_cons, List.length_nil, Br.val, Bool.not_true, Nat.add_assoc]
    simp (disch := omega) [e3, longC, gmtB, List.append_assoc, cvM_civ, Br.val, cvD, cvMo, cvY]
    rfl
  · have e1 : decide (2069 < cvY t) = true := decide_eq_true (by omega)
    have e2 : decide ((civP t).y ≤ 2069) = false := decide_eq_false c
    rw [e1, e2]; rfl
theorem cut12 (n : Int) : Ev.cut (padP 2 n) 1 2 = [dg n] := rfl
theorem cut_dg (n : Int) : Ev.cut (padP 2 n) 1 ((padP 2 n).length : Int) = [dg n] := by
  rw [padP_len]; rfl
theorem iLine_okQ : Sound Kx 157 (j1_s (fun _ => true) fun t => .str (lineD t)) := of_j1 iLine_ok fun t _ => by
  show (iLine_br t).val = some (.str (lineD t), [])
  unfold iLine_br lineD iLine_c5 iLine_c4 iLine_c3 iLine_c2 iLine_c1
  cases h : timB t
  · rfl
  have F := civF h
  have dl := day3_len (wdP t)
  have dl2 := day_len (wdP t)
  have e3 : decide ((3 : Int) ≤ ((dayN (wdP t)).length : Int)) = true := decide_eq_true (by omega)
  have hd : lineC (wdP t) (civP t) = (dayN (wdP t)).take 3 ++ 32 :: monN (cvMo t) ++ 32 :: dayL (cvD t) ++ 32 :: clockP (civP t) ++ 32 :: padP 4 (cvY t) := rfl
  rw [hd]
  by_cases c : cvD t < 10
  · have e1 : decide (cvD t < 10) = true := decide_eq_true c
    have e2 : dayL (cvD t) = [32, dg (cvD t)] := by unfold dayL; rw [e1]; rfl
    have e4 : decide ((1 : Int) ≤ (((padP 2 (cvD t)).length : Nat) : Int)) = true := by rw [padP_len]; rfl
    rw [e2]
    simp only [F.wk, F.d0, F.d1, F.dg, F.mw, F.m0, F.m1, F.mg, F.ml, F.cl, F.ok, F.g1, F.g2, F.g3, e1, e3, e4, cut03, cut_dg, dl, List.length_append, padP_len, List.length_cons, List.length_nil, Br.val, Bool.not_true]
    simp [List.append_assoc, cvM_civ, Br.val, cut12]
  · have e1 : decide (cvD t < 10) = false := decide_eq_false c
    have e2 : dayL (cvD t) = padP 2 (cvD t) := by unfold dayL; rw [e1]; rfl
    rw [e2]
    simp only [F.wk, F.d0, F.d1, F.dg, F.mw, F.m0, F.m1, F.mg, F.ml, F.cl, F.ok, F.g1, F.g2, F.g3, e1, e3, cut03, dl, List.length_append, padP_len, List.length_cons, List.length_nil, Br.val, Bool.not_true]
    simp [List.append_assoc, cvM_civ, Br.val]
theorem sHttp_okQ : Sound Kx 85 (j1_s (fun _ => true) fun t => .str (httpP t)) := of_j1 sHttp_ok fun t _ => by
  show (sHttp_br t).val = some (.str (httpP t), [])
  unfold sHttp_br httpP
  cases h : timB t
  · rfl
  have F := civF h
  have dl := day3_len (wdP t)
  have dl2 := day_len (wdP t)
  have e3 : decide ((3 : Int) ≤ ((dayN (wdP t)).length : Int)) = true := decide_eq_true (by omega)
  simp only [F.wk, F.d0, F.d1, F.mb, F.ml, F.cl, F.ok, F.p1, F.p2, F.p3, e3, cut03, dl, List.length_append, padP_len, List.length_cons, List.length_nil, Br.val, Bool.not_true]
  simp [httpC, gmtB, List.append_assoc, cvM_civ, Br.val, cvD, cvMo, cvY]
  rfl

def sLong_O : Opt := { split := true }
def sLong_C : SC := [⟨143, _, sCiv_okQ⟩, ⟨144, _, sDayN_okQ⟩, ⟨145, _, sWk_okQ⟩, ⟨146, _, sPad_okQ⟩, ⟨142, _, sMonN_okQ⟩, ⟨147, _, sClk_okQ⟩]
def sLong_br (t : Int) : Br := (Br.ite (timB t) (Br.ite (decide (2069 < (cvY t))) (Br.ret (AV.str ([] : Bytes)) []) (Br.ite (decide (((List.length (dayN (wkP t))) + 2) ≤ 9223372036854775807)) (Br.ite (pdB (cvD t) 2) (Br.ite (decide (((List.length ((dayN (wkP t)) ++ ([44, 32] : Bytes))) + (List.length (padP 2 (cvD t)))) ≤ 9223372036854775807)) (Br.ite (decide (((List.length (((dayN (wkP t)) ++ ([44, 32] : Bytes)) ++ (padP 2 (cvD t)))) + 1) ≤ 9223372036854775807)) (Br.ite (moB (cvMo t)) (Br.ite (decide (((List.length ((((dayN (wkP t)) ++ ([44, 32] : Bytes)) ++ (padP 2 (cvD t))) ++ ([45] : Bytes))) + (List.length (monN (cvMo t)))) ≤ 9223372036854775807)) (Br.ite (decide (((List.length (((((dayN (wkP t)) ++ ([44, 32] : Bytes)) ++ (padP 2 (cvD t))) ++ ([45] : Bytes)) ++ (monN (cvMo t)))) + 1) ≤ 9223372036854775807)) (Br.ite (pdB (Int.tmod (cvY t) 100) 2) (Br.ite (decide (((List.length ((((((dayN (wkP t)) ++ ([44, 32] : Bytes)) ++ (padP 2 (cvD t))) ++ ([45] : Bytes)) ++ (monN (cvMo t))) ++ ([45] : Bytes))) + (List.length (padP 2 (Int.tmod (cvY t) 100)))) ≤ 9223372036854775807)) (Br.ite (decide (((List.length (((((((dayN (wkP t)) ++ ([44, 32] : Bytes)) ++ (padP 2 (cvD t))) ++ ([45] : Bytes)) ++ (monN (cvMo t))) ++ ([45] : Bytes)) ++ (padP 2 (Int.tmod (cvY t) 100)))) + 1) ≤ 9223372036854775807)) (Br.ite (civOk (cvM (cvY t) (cvMo t) (cvD t) (cvH t) (cvMi t) (cvSe t))) (Br.ite (decide (((List.length ((((((((dayN (wkP t)) ++ ([44, 32] : Bytes)) ++ (padP 2 (cvD t))) ++ ([45] : Bytes)) ++ (monN (cvMo t))) ++ ([45] : Bytes)) ++ (padP 2 (Int.tmod (cvY t) 100))) ++ ([32] : Bytes))) + (List.length (clockP (cvM (cvY t) (cvMo t) (cvD t) (cvH t) (cvMi t) (cvSe t))))) ≤ 9223372036854775807)) (Br.ite (decide (((List.length (((((((((dayN (wkP t)) ++ ([44, 32] : Bytes)) ++ (padP 2 (cvD t))) ++ ([45] : Bytes)) ++ (monN (cvMo t))) ++ ([45] : Bytes)) ++ (padP 2 (Int.tmod (cvY t) 100))) ++ ([32] : Bytes)) ++ (clockP (cvM (cvY t) (cvMo t) (cvD t) (cvH t) (cvMi t) (cvSe t))))) + 4) ≤ 9223372036854775807)) (Br.ret (AV.str ((((((((((dayN (wkP t)) ++ ([44, 32] : Bytes)) ++ (padP 2 (cvD t))) ++ ([45] : Bytes)) ++ (monN (cvMo t))) ++ ([45] : Bytes)) ++ (padP 2 (Int.tmod (cvY t) 100))) ++ ([32] : Bytes)) ++ (clockP (cvM (cvY t) (cvMo t) (cvD t) (cvH t) (cvMi t) (cvSe t)))) ++ ([32, 71, 77, 84] : Bytes))) []) Br.fail) Br.fail) Br.fail) Br.fail) Br.fail) Br.fail) Br.fail) Br.fail) Br.fail) Br.fail) Br.fail) Br.fail) Br.fail)) (Br.ret (AV.str ([] : Bytes)) []))
def sLong_s : List AV → List Ob → Br
  | [.int .i64 t], [] => sLong_br t
  | _, _ => .fail
theorem sLong_ok : Sound Kx 87 sLong_s := sound_br (C := sLong_C) (O := sLong_O) Tryz.func87 (by kernel_rfl) fun args objs => by
  unfold sLong_s; split
  · exact .inr (by kernel_rfl)
  · exact .inl rfl

def sLine_O : Opt := { split := true }
def sLine_C : SC := [⟨143, _, sCiv_okQ⟩, ⟨144, _, sDayN_okQ⟩, ⟨145, _, sWk_okQ⟩, ⟨146, _, sPad_okQ⟩, ⟨142, _, sMonN_okQ⟩, ⟨147, _, sClk_okQ⟩, ⟨148, _, dec_okQ⟩]
abbrev sLine_c1 (t : Int) := ((((cut (dayN (wkP t)) 0 3) ++ ([32] : Bytes)) ++ (monN (cvMo t))) ++ ([32] : Bytes))
abbrev sLine_c2 (t : Int) := (cvM (cvY t) (cvMo t) (cvD t) (cvH t) (cvMi t) (cvSe t))
abbrev sLine_c3 (t : Int) := (((sLine_c1 t) ++ (([32] : Bytes) ++ (decD (cvD t)))) ++ ([32] : Bytes))
def sLine_br (t : Int) : Br := (Br.ite (timB t) (Br.ite (pdB (cvD t) 2) (Br.ite (decide ((cvD t) < 10)) (Br.ite (num15 (cvD t)) (Br.ite (decide ((1 + (List.length (decD (cvD t)))) ≤ 9223372036854775807)) (Br.ite (decide (3 ≤ ((List.length (dayN (wkP t))) : Int))) (Br.ite (decide (((List.length (cut (dayN (wkP t)) 0 3)) + 1) ≤ 9223372036854775807)) (Br.ite (moB (cvMo t)) (Br.ite (decide (((List.length ((cut (dayN (wkP t)) 0 3) ++ ([32] : Bytes))) + (List.length (monN (cvMo t)))) ≤ 9223372036854775807)) (Br.ite (decide (((List.length (((cut (dayN (wkP t)) 0 3) ++ ([32] : Bytes)) ++ (monN (cvMo t)))) + 1) ≤ 9223372036854775807)) (Br.ite (decide (((List.length (sLine_c1 t)) + (List.length (([32] : Bytes) ++ (decD (cvD t))))) ≤ 9223372036854775807)) (Br.ite (decide (((List.length ((sLine_c1 t) ++ (([32] : Bytes) ++ (decD (cvD t))))) + 1) ≤ 9223372036854775807)) (Br.ite (civOk (sLine_c2 t)) (Br.ite (decide (((List.length (sLine_c3 t)) + (List.length (clockP (sLine_c2 t)))) ≤ 9223372036854775807)) (Br.ite (decide (((List.length ((sLine_c3 t) ++ (clockP (sLine_c2 t)))) + 1) ≤ 9223372036854775807)) (Br.ite (pdB (cvY t) 4) (Br.ite (decide (((List.length (((sLine_c3 t) ++ (clockP (sLine_c2 t))) ++ ([32] : Bytes))) + (List.length (padP 4 (cvY t)))) ≤ 9223372036854775807)) (Br.ret (AV.str ((((sLine_c3 t) ++ (clockP (sLine_c2 t))) ++ ([32] : Bytes)) ++ (padP 4 (cvY t)))) []) Br.fail) Br.fail) Br.fail) Br.fail) Br.fail) Br.fail) Br.fail) Br.fail) Br.fail) Br.fail) Br.fail) Br.fail) Br.fail) Br.fail) (Br.ite (decide (3 ≤ ((List.length (dayN (wkP t))) : Int))) (Br.ite (decide (((List.length (cut (dayN (wkP t)) 0 3)) + 1) ≤ 9223372036854775807)) (Br.ite (moB (cvMo t)) (Br.ite (decide (((List.length ((cut (dayN (wkP t)) 0 3) ++ ([32] : Bytes))) + (List.length (monN (cvMo t)))) ≤ 9223372036854775807)) (Br.ite (decide (((List.length (((cut (dayN (wkP t)) 0 3) ++ ([32] : Bytes)) ++ (monN (cvMo t)))) + 1) ≤ 9223372036854775807)) (Br.ite (decide (((List.length (sLine_c1 t)) + (List.length (padP 2 (cvD t)))) ≤ 9223372036854775807)) (Br.ite (decide (((List.length ((sLine_c1 t) ++ (padP 2 (cvD t)))) + 1) ≤ 9223372036854775807)) (Br.ite (civOk (sLine_c2 t)) (Br.ite (decide (((List.length (((sLine_c1 t) ++ (padP 2 (cvD t))) ++ ([32] : Bytes))) + (List.length (clockP (sLine_c2 t)))) ≤ 9223372036854775807)) (Br.ite (decide (((List.length ((((sLine_c1 t) ++ (padP 2 (cvD t))) ++ ([32] : Bytes)) ++ (clockP (sLine_c2 t)))) + 1) ≤ 9223372036854775807)) (Br.ite (pdB (cvY t) 4) (Br.ite (decide (((List.length (((((sLine_c1 t) ++ (padP 2 (cvD t))) ++ ([32] : Bytes)) ++ (clockP (sLine_c2 t))) ++ ([32] : Bytes))) + (List.length (padP 4 (cvY t)))) ≤ 9223372036854775807)) (Br.ret (AV.str ((((((sLine_c1 t) ++ (padP 2 (cvD t))) ++ ([32] : Bytes)) ++ (clockP (sLine_c2 t))) ++ ([32] : Bytes)) ++ (padP 4 (cvY t)))) []) Br.fail) Br.fail) Br.fail) Br.fail) Br.fail) Br.fail) Br.fail) Br.fail) Br.fail) Br.fail) Br.fail) Br.fail)) Br.fail) (Br.ret (AV.str ([] : Bytes)) []))
def sLine_s : List AV → List Ob → Br
  | [.int .i64 t], [] => sLine_br t
  | _, _ => .fail
theorem sLine_ok : Sound Kx 86 sLine_s := sound_br (C := sLine_C) (O := sLine_O) Tryz.func86 (by kernel_rfl) fun args objs => by
  unfold sLine_s; split
  · exact .inr (by kernel_rfl)
  · exact .inl rfl

theorem mod100 {t : Int} (h : timB t = true) : Int.tmod (cvY t) 100 = cvY t % 100 := by
  obtain ⟨hk, _⟩ := civ_ok h
  obtain ⟨⟨h1, h2⟩, _⟩ := civ_parts hk
  exact Int.tmod_eq_emod_of_nonneg (show 0 ≤ cvY t from by have : 1970 ≤ cvY t := h1; omega)
theorem sLong_okQ : Sound Kx 87 (j1_s (fun _ => true) fun t => .str (longP t)) := of_j1 sLong_ok fun t _ => by
  show (sLong_br t).val = some (.str (longP t), [])
  unfold sLong_br longP
  cases h : timB t
  · rfl
  have F := civF h
  have dl2 := day_len (wdP t)
  have hm := mod100 h
  have hp : padP 2 (cvY t % 100) = padP 2 (cvY t) := (pad_mod _).symm
  by_cases c : cvY t ≤ 2069
  · have e1 : decide (2069 < cvY t) = false := decide_eq_false (by omega)
    have e2 : decide ((civP t).y ≤ 2069) = true := decide_eq_true c
    have e3 : ∀ k : Nat, 9 ≤ k → decide ((dayN (wdP t)).length ≤ k) = true := fun k hk => decide_eq_true (by omega)
    rw [e2]
    simp only [F.wk, F.d0, F.d1, hm, hp, F.mb, F.ml, F.cl, F.ok, F.p1, F.p2, F.p3, e1, List.length_append, padP_len, List.length_cons, List.length_nil, Br.val, Bool.not_true, Nat.add_assoc]
    simp (disch := omega) [e3, longC, gmtB, List.append_assoc, cvM_civ, Br.val, cvD, cvMo, cvY]
    rfl
  · have e1 : decide (2069 < cvY t) = true := decide_eq_true (by omega)
    have e2 : decide ((civP t).y ≤ 2069) = false := decide_eq_false c
    rw [e1, e2]; rfl
theorem sLine_okQ : Sound Kx 86 (j1_s (fun _ => true) fun t => .str (lineD t)) := of_j1 sLine_ok fun t _ => by
  show (sLine_br t).val = some (.str (lineD t), [])
  unfold sLine_br lineD sLine_c3 sLine_c2 sLine_c1
  cases h : timB t
  · rfl
  have F := civF h
  have dl := day3_len (wdP t)
  have dl2 := day_len (wdP t)
  have e3 : decide ((3 : Int) ≤ ((dayN (wdP t)).length : Int)) = true := decide_eq_true (by omega)
  obtain ⟨hk, _⟩ := civ_ok h
  obtain ⟨_, _, ⟨d1, d2⟩, _⟩ := civ_parts hk
  have d1' : 1 ≤ cvD t := d1
  have hd : lineC (wdP t) (civP t) = (dayN (wdP t)).take 3 ++ 32 :: monN (cvMo t) ++ 32 :: dayL (cvD t) ++ 32 :: clockP (civP t) ++ 32 :: padP 4 (cvY t) := rfl
  rw [hd]
  by_cases c : cvD t < 10
  · have e1 : decide (cvD t < 10) = true := decide_eq_true c
    have e2 : dayL (cvD t) = [32, dg (cvD t)] := by unfold dayL; rw [e1]; rfl
    have e5 : decD (cvD t) = [dg (cvD t)] := by
      have := dec_one (n := cvD t)
      rw [show cvD t % 10 = cvD t by omega] at this
      exact this
    have e6 : num15 (cvD t) = true := by unfold num15; rw [decide_eq_true (by omega), decide_eq_true (by omega)]; rfl
    rw [e2]
    simp only [F.wk, F.d0, F.d1, e5, e6, F.mb, F.ml, F.cl, F.ok, F.p1, F.p2, F.p3, e1, e3, cut03, dl, List.length_append, padP_len, List.length_cons, List.length_nil, Br.val, Bool.not_true]
    simp [List.append_assoc, cvM_civ, Br.val]
  · have e1 : decide (cvD t < 10) = false := decide_eq_false c
    have e2 : dayL (cvD t) = padP 2 (cvD t) := by unfold dayL; rw [e1]; rfl
    rw [e2]
    simp only [F.wk, F.d0, F.d1, F.mb, F.ml, F.cl, F.ok, F.p1, F.p2, F.p3, e1, e3, cut03, dl, List.length_append, padP_len, List.length_cons, List.length_nil, Br.val, Bool.not_true]
    simp [List.append_assoc, cvM_civ, Br.val]
theorem sSec5_loop (y m d h i s : Int) (hy2 : y ≤ 9999) (K : Int → Int → Int → Int → Int → Int → Int → Option Rs) : ∀ (j : Nat) (acc yy : Int) (n : Nat), y - yy = j → 1970 ≤ yy → j < n → -10000000 ≤ acc - dB yy → acc - dB yy ≤ 10000000 →
    sSec_F5 n acc yy y m d h i s K = K (acc - dB yy + dB y) y m d h i s := by
  intro j; induction j with
  | zero =>
    intro acc yy n hj h1 hn b0 b1; obtain ⟨n, rfl⟩ := fuel hn; unfold sSec_F5 sSec_T5
    obtain rfl : yy = y := by omega
    rw [decide_eq_false (by omega), cond_false, show acc - dB yy + dB yy = acc by omega]
  | succ j ih =>
    intro acc yy n hj h1 hn b0 b1; obtain ⟨n, rfl⟩ := fuel hn
    have hs := dB_succ yy
    have hb := yLen_bd yy
    have hd := dB_bd h1 (by omega)
    unfold sSec_F5 sSec_T5
    rw [decide_eq_true (show yy < y by omega), yrB_of (by omega) (by omega), cond_true, cond_true, w64 (n := acc + yLen yy) (by omega) (by omega), w64 (n := yy + 1) (by omega) (by omega)]
    refine (ih (acc + yLen yy) (yy + 1) n (by omega) (by omega) (by omega) (by rw [hs]; omega) (by rw [hs]; omega)).trans ?_
    rw [hs]
    congr 1
    omega
theorem sSec9_loop (y M d h i s : Int) (hy : 1970 ≤ y) (hy2 : y ≤ 9999) (hM : M ≤ 12) (K : Int → Int → Int → Int → Int → Int → Int → Option Rs) : ∀ (j : Nat) (acc mo : Int) (n : Nat), M - mo = j → 1 ≤ mo → j < n → -10000000 ≤ acc - mB y (mo - 1).toNat → acc - mB y (mo - 1).toNat ≤ 10000000 →
    sSec_F9 n acc mo y M d h i s K = K (acc - mB y (mo - 1).toNat + mB y (M - 1).toNat) y M d h i s := by
  intro j; induction j with
  | zero =>
    intro acc mo n hj h1 hn b0 b1; obtain ⟨n, rfl⟩ := fuel hn; unfold sSec_F9 sSec_T9
    obtain rfl : mo = M := by omega
    rw [decide_eq_false (by omega), cond_false, show acc - mB y (mo - 1).toNat + mB y (mo - 1).toNat = acc by omega]
  | succ j ih =>
    intro acc mo n hj h1 hn b0 b1; obtain ⟨n, rfl⟩ := fuel hn
    have hs := mB_step y mo h1
    have hb := mLen_bd y mo
    have hc := mB_bd y (mo - 1).toNat
    unfold sSec_F9 sSec_T9
    rw [decide_eq_true (show mo < M by omega), yrB_of (by omega) (by omega), cond_true, cond_true, w64 (n := acc + mLen y mo) (by omega) (by omega), w64 (n := mo + 1) (by omega) (by omega)]
    have e : (mo + 1 - 1).toNat = mo.toNat := by congr 1; omega
    refine (ih (acc + mLen y mo) (mo + 1) n (by omega) (by omega) (by omega) (by rw [e, hs]; omega) (by rw [e, hs]; omega)).trans ?_
    rw [e, hs]
    congr 1
    omega
theorem secB_nums2 {y m d h i s : Int} (hk : civOk ⟨y, m, d, h, i, s⟩ = true) : wk64 ((wk64 ((wk64 ((wk64 ((wk64 ((wk64 ((d - 1 + dB y + mB y (m - 1).toNat) * 24)) + h)) * 60)) + i)) * 60)) + s) = secB ⟨y, m, d, h, i, s⟩ := by
  obtain ⟨⟨h1, h2⟩, ⟨h3, h4⟩, ⟨h5, h6⟩, ⟨h7, h8⟩, ⟨h9, h10⟩, ⟨h11, h12⟩⟩ := civ_parts hk
  simp only at h1 h2 h3 h4 h5 h6 h7 h8 h9 h10 h11 h12
  have hd := dB_bd h1 h2
  have hm := mB_bd y (m - 1).toNat
  have hm2 : ((m - 1).toNat : Int) ≤ 11 := by omega
  unfold secB
  simp only
  generalize dB y = a at *
  generalize mB y (m - 1).toNat = b at *
  rw [w64 (n := (d - 1 + a + b) * 24) (by omega) (by omega), w64 (n := (d - 1 + a + b) * 24 + h) (by omega) (by omega), w64 (n := ((d - 1 + a + b) * 24 + h) * 60) (by omega) (by omega), w64 (n := ((d - 1 + a + b) * 24 + h) * 60 + i) (by omega) (by omega),
    w64 (n := (((d - 1 + a + b) * 24 + h) * 60 + i) * 60) (by omega) (by omega), w64 (by omega) (by omega)]
  omega
theorem sSec_okQ : Sound Kx 140 (cv_s (fun _ => true) (tB_s secP)) := by
  refine (sSec_okOf (φ := fun y m d h i s => .ret (tB_s secP ⟨y, m, d, h, i, s⟩) []) (fun _ _ _ _ _ _ => 10020) fun y m d h i s r hv => ?_).of fun args objs r hv => ?_
  · cases hv
    unfold sSec_run
    show (bif !civOk ⟨y, m, d, h, i, s⟩ then _ else _) = _
    unfold tB_s secP
    cases hk : civOk ⟨y, m, d, h, i, s⟩
    · rfl
    · obtain ⟨⟨h1, h2⟩, ⟨h3, h4⟩, ⟨h5, h6⟩, _⟩ := civ_parts hk
      simp only at h1 h2 h3 h4 h5 h6
      have hd := dB_bd h1 h2
      simp only [Bool.not_true, cond_false]
      have l5 := fun K => sSec5_loop y m d h i s h2 K (y - 1970).toNat (d - 1) 1970 10020 (by omega) (by omega) (by omega) (by rw [dB_1970]; omega) (by rw [dB_1970]; omega)
      rw [dB_1970, Int.sub_zero] at l5
      have e0 : mB y (1 - 1 : Int).toNat = 0 := rfl
      have l9 := fun K => sSec9_loop y m d h i s h1 h2 h4 K (m - 1).toNat (d - 1 + dB y) 1 10020 (by omega) (by omega) (by omega) (by rw [e0]; omega) (by rw [e0]; omega)
      rw [e0, Int.sub_zero] at l9
      rw [w64 (n := d - 1) (by omega) (by omega), l5, l9, secB_nums2 hk]
      rfl
  · unfold cv_s at hv; split at hv
    · obtain ⟨_, h2⟩ := ite_some hv
      exact h2
    · cases hv
def s1_s (g : Bytes → Bool) (p : Bytes → AV) : List AV → List Ob → Br
  | [.str s], [] => .ite (g s) (.ret (p s) []) .fail
  | _, _ => .fail
def monF (s : Bytes) : Nat → Int → Int
  | 0, _ => 0
  | j + 1, m => bif conP s (monN m) then m else monF s j (m + 1)
theorem monI_F (s : Bytes) : monI s = monF s 12 1 := rfl
def monG (s : Bytes) : Nat → Int → Int
  | 0, _ => -1
  | j + 1, m => bif decide (monN m = s) then m else monG s j (m + 1)
theorem monS_G (s : Bytes) : monS s = monG s 12 1 := rfl
theorem iMonIn_loop (s : Bytes) (hl : s.length ≤ 1000000) (K : Int → Option Rs) : ∀ (j : Nat) (m : Int) (n : Nat), m + j = 13 → 1 ≤ m → j < n → iMonIn_F2 n s 12 (m - 1) monL K (K 0) = K (monF s j m) := by
  intro j; induction j with
  | zero =>
    intro m n hj h1 hn; obtain ⟨n, rfl⟩ := fuel hn; unfold iMonIn_F2 iMonIn_T2
    rw [decide_eq_false (by omega)]; rfl
  | succ j ih =>
    intro m n hj h1 hn; obtain ⟨n, rfl⟩ := fuel hn
    have e1 : decide (m - 1 < ((monL.length : Nat) : Int)) = true := decide_eq_true (by show m - 1 < 12; omega)
    unfold iMonIn_F2 iMonIn_T2
    rw [decide_eq_true (show m - 1 < 12 by omega), decide_eq_true (show 0 ≤ m - 1 by omega), e1, decide_eq_true hl, mon_get h1 (by omega), w64 (n := m - 1 + 1) (by omega) (by omega)]
    simp only [cond_true]
    have hr := ih (m + 1) n (by omega) (by omega) (by omega)
    rw [show m + 1 - 1 = m - 1 + 1 by omega] at hr
    rw [hr, monF, show m - 1 + 1 = m by omega]
    cases conP s (monN m) <;> rfl
theorem iMonIn_okQ : Sound Kx 152 (s1_s (fun s => decide (s.length ≤ 1000000)) fun s => .int .i64 (monI s)) := by
  refine (iMonIn_okOf (φ := fun s => .ite (decide (s.length ≤ 1000000)) (.ret (.int .i64 (monI s)) []) .fail) (fun _ => 20) fun s r hv => ?_).of fun args objs r hv => ?_
  · obtain ⟨h1, h2⟩ := ite_some hv
    cases h2
    unfold iMonIn_run
    rw [monI_F]
    exact iMonIn_loop s (of_decide_eq_true h1) (fun x => some (.int .i64 x, [])) 12 1 20 (by omega) (by omega) (by omega)
  · unfold s1_s at hv; split at hv
    · exact hv
    · cases hv
theorem sMonth_loop (s : Bytes) (K : Int → Option Rs) : ∀ (j : Nat) (m : Int) (n : Nat), m + j = 13 → 1 ≤ m → j < n → sMonth_F2 n s m K (K (-1)) = K (monG s j m) := by
  intro j; induction j with
  | zero =>
    intro m n hj h1 hn; obtain ⟨n, rfl⟩ := fuel hn; unfold sMonth_F2 sMonth_T2
    rw [decide_eq_false (by omega)]; rfl
  | succ j ih =>
    intro m n hj h1 hn; obtain ⟨n, rfl⟩ := fuel hn
    have e1 : moB m = true := by unfold moB; rw [decide_eq_true h1, decide_eq_true (by omega)]; rfl
    unfold sMonth_F2 sMonth_T2
    rw [decide_eq_true (show m ≤ 12 by omega), e1, w64 (n := m + 1) (by omega) (by omega)]
    simp only [cond_true]
    rw [ih (m + 1) n (by omega) (by omega) (by omega), monG]
    cases decide (monN m = s) <;> rfl
theorem sMonth_okQ : Sound Kx 84 (s1_s (fun _ => true) fun s => .int .i64 (monS s)) := by
  refine (sMonth_okOf (φ := fun s => .ret (.int .i64 (monS s)) []) (fun _ => 20) fun s r hv => ?_).of fun args objs r hv => ?_
  · cases hv
    unfold sMonth_run
    rw [monS_G]
    exact sMonth_loop s (fun x => some (.int .i64 x, [])) 12 1 20 (by omega) (by omega) (by omega)
  · unfold s1_s at hv; split at hv
    · obtain ⟨_, h2⟩ := ite_some hv
      exact h2
    · cases hv

def sAt_O : Opt := { split := true }
def sAt_C : SC := [⟨83, _, sNum_okQ⟩, ⟨140, _, sSec_okQ⟩]
def sAt_br (y m d : Int) (k : Bytes) : Br := (Br.ite (decide (2 ≤ (k.length : Int))) (Br.ite (decide ((List.length (cut k 0 2)) ≤ 12)) (Br.ite (decide (5 ≤ (k.length : Int))) (Br.ite (decide ((List.length (cut k 3 5)) ≤ 12)) (Br.ite (decide (8 ≤ (k.length : Int))) (Br.ite (decide ((List.length (cut k 6 8)) ≤ 12)) (Br.ite (secP (cvM y m d (numS (cut k 0 2)) (numS (cut k 3 5)) (numS (cut k 6 8)))).2 (Br.ret (AV.int .i64 (secP (cvM y m d (numS (cut k 0 2)) (numS (cut k 3 5)) (numS (cut k 6 8)))).1) []) (Br.ret (AV.int .i64 (-1)) [])) Br.fail) Br.fail) Br.fail) Br.fail) Br.fail) Br.fail)
def sAt_s : List AV → List Ob → Br
  | [.int .i64 y, .int .i64 m, .int .i64 d, .str k], [] => sAt_br y m d k
  | _, _ => .fail
theorem sAt_ok : Sound Kx 82 sAt_s := sound_br (C := sAt_C) (O := sAt_O) Tryz.func82 (by kernel_rfl) fun args objs => by
  unfold sAt_s; split
  · exact .inr (by kernel_rfl)
  · exact .inl rfl

def iRead_O : Opt := { split := true }
def iRead_C : SC := [⟨151, _, iNums_okQ⟩, ⟨152, _, iMonIn_okQ⟩, ⟨153, _, ixB_ok⟩, ⟨154, _, iSec_okQ⟩, ⟨155, _, iHttp_okQ⟩, ⟨156, _, iLong_okQ⟩, ⟨157, _, iLine_okQ⟩]
abbrev iRead_c1 (s : Bytes) := (secP (cvM (wk64 ((wk64 ((List.getD (numsP s) 1 0) + 1900)) + 100)) (monI (cut s (ixOf s 44) (s.length : Int))) (List.getD (numsP s) 0 0) (List.getD (numsP s) 2 0) (List.getD (numsP s) 3 0) (List.getD (numsP s) 4 0)))
abbrev iRead_c2 (s : Bytes) := (secP (cvM (wk64 ((List.getD (numsP s) 1 0) + 1900)) (monI (cut s (ixOf s 44) (s.length : Int))) (List.getD (numsP s) 0 0) (List.getD (numsP s) 2 0) (List.getD (numsP s) 3 0) (List.getD (numsP s) 4 0)))
abbrev iRead_c3 (s : Bytes) := (secP (cvM (List.getD (numsP s) 1 0) (monI (cut s (ixOf s 44) (s.length : Int))) (List.getD (numsP s) 0 0) (List.getD (numsP s) 2 0) (List.getD (numsP s) 3 0) (List.getD (numsP s) 4 0)))
abbrev iRead_c4 (s : Bytes) := (secP (cvM (List.getD (numsP s) 4 0) (monI (cut s 3 (s.length : Int))) (List.getD (numsP s) 0 0) (List.getD (numsP s) 1 0) (List.getD (numsP s) 2 0) (List.getD (numsP s) 3 0)))
abbrev iRead_c5 (s : Bytes) := (Br.ret (AV.tup ((AV.int .i64 0) :: ((AV.bool false) :: []))) [])
abbrev iRead_c6 (s : Bytes) := ((List.length (numsP s)) : Int)
def iRead_br (s : Bytes) : Br := (Br.ite (decide ((s.length : Int) < 6)) (iRead_c5 s) (Br.ite (decide (40 < (s.length : Int))) (iRead_c5 s) (Br.ite (decide (s.length ≤ 100000)) (Br.ite (!(decide ((iRead_c6 s) = 5))) (iRead_c5 s) (Br.ite (decide (3 ≤ (s.length : Int))) (Br.ite (decide ((List.length (cut s 3 (s.length : Int))) ≤ 1000000)) (Br.ite (decide (0 ≤ (ixOf s 44))) (Br.ite (decide (0 ≤ (ixOf s 44))) (Br.ite (decide ((ixOf s 44) ≤ (s.length : Int))) (Br.ite (decide ((List.length (cut s (ixOf s 44) (s.length : Int))) ≤ 1000000)) (Br.ite (decide (1 < (iRead_c6 s))) (Br.ite (decide (0 < (iRead_c6 s))) (Br.ite (decide (2 < (iRead_c6 s))) (Br.ite (decide (3 < (iRead_c6 s))) (Br.ite (decide (4 < (iRead_c6 s))) (Br.ite (decide (0 ≤ (ixOf s 45))) (Br.ite (decide ((wk64 ((List.getD (numsP s) 1 0) + 1900)) < 1970)) (Br.ite (!(iRead_c1 s).2) (iRead_c5 s) (Br.ite (!(decide ((httpP (iRead_c1 s).1) = s))) (Br.ite (!(decide ((longP (iRead_c1 s).1) = s))) (Br.ite (!(decide ((lineD (iRead_c1 s).1) = s))) (iRead_c5 s) (Br.ret (AV.tup ((AV.int .i64 (iRead_c1 s).1) :: ((AV.bool true) :: []))) [])) (Br.ret (AV.tup ((AV.int .i64 (iRead_c1 s).1) :: ((AV.bool true) :: []))) [])) (Br.ret (AV.tup ((AV.int .i64 (iRead_c1 s).1) :: ((AV.bool true) :: []))) []))) (Br.ite (!(iRead_c2 s).2) (iRead_c5 s) (Br.ite (!(decide ((httpP (iRead_c2 s).1) = s))) (Br.ite (!(decide ((longP (iRead_c2 s).1) = s))) (Br.ite (!(decide ((lineD (iRead_c2 s).1) = s))) (iRead_c5 s) (Br.ret (AV.tup ((AV.int .i64 (iRead_c2 s).1) :: ((AV.bool true) :: []))) [])) (Br.ret (AV.tup ((AV.int .i64 (iRead_c2 s).1) :: ((AV.bool true) :: []))) [])) (Br.ret (AV.tup ((AV.int .i64 (iRead_c2 s).1) :: ((AV.bool true) :: []))) [])))) (Br.ite (!(iRead_c3 s).2) (iRead_c5 s) (Br.ite (!(decide ((httpP (iRead_c3 s).1) = s))) (Br.ite (!(decide ((longP (iRead_c3 s).1) = s))) (Br.ite (!(decide ((lineD (iRead_c3 s).1) = s))) (iRead_c5 s) (Br.ret (AV.tup ((AV.int .i64 (iRead_c3 s).1) :: ((AV.bool true) :: []))) [])) (Br.ret (AV.tup ((AV.int .i64 (iRead_c3 s).1) :: ((AV.bool true) :: []))) [])) (Br.ret (AV.tup ((AV.int .i64 (iRead_c3 s).1) :: ((AV.bool true) :: []))) [])))) Br.fail) Br.fail) Br.fail) Br.fail) Br.fail) Br.fail) Br.fail) Br.fail) (Br.ite (decide (4 < (iRead_c6 s))) (Br.ite (decide (0 < (iRead_c6 s))) (Br.ite (decide (1 < (iRead_c6 s))) (Br.ite (decide (2 < (iRead_c6 s))) (Br.ite (decide (3 < (iRead_c6 s))) (Br.ite (!(iRead_c4 s).2) (iRead_c5 s) (Br.ite (!(decide ((httpP (iRead_c4 s).1) = s))) (Br.ite (!(decide ((longP (iRead_c4 s).1) = s))) (Br.ite (!(decide ((lineD (iRead_c4 s).1) = s))) (iRead_c5 s) (Br.ret (AV.tup ((AV.int .i64 (iRead_c4 s).1) :: ((AV.bool true) :: []))) [])) (Br.ret (AV.tup ((AV.int .i64 (iRead_c4 s).1) :: ((AV.bool true) :: []))) [])) (Br.ret (AV.tup ((AV.int .i64 (iRead_c4 s).1) :: ((AV.bool true) :: []))) []))) Br.fail) Br.fail) Br.fail) Br.fail) Br.fail)) Br.fail) Br.fail)) Br.fail)))
def iRead_s : List AV → List Ob → Br
  | [.str s], [] => iRead_br s
  | _, _ => .fail
theorem iRead_ok : Sound Kx 94 iRead_s := sound_br (C := iRead_C) (O := iRead_O) Tryz.func94 (by kernel_rfl) fun args objs => by
  unfold iRead_s; split
  · exact .inr (by kernel_rfl)
  · exact .inl rfl

theorem cutTo (l : Bytes) (n : Nat) : Ev.cut l ((n : Nat) : Int) (l.length : Int) = l.drop n := by unfold Ev.cut; simp
def atB (k : Bytes) : Bool := decide (k.length = 8)
def at_s : List AV → List Ob → Br
  | [.int .i64 y, .int .i64 m, .int .i64 d, .str k], [] => .ite (atB k) (.ret (.int .i64 (atS y m d k)) []) .fail
  | _, _ => .fail
theorem cut_le2 (k : Bytes) (a b : Nat) (h : b ≤ a + 4) : (Ev.cut k ((a : Nat) : Int) ((b : Nat) : Int)).length ≤ 4 := by
  unfold Ev.cut
  simp only [List.length_drop, List.length_take, Int.toNat_natCast]
  omega
theorem sAt_okQ : Sound Kx 82 at_s := sAt_ok.of fun args objs r h => by
  unfold at_s at h; split at h
  · rename_i y m d k
    obtain ⟨h1, h2⟩ := ite_some h
    cases h2
    have hk : k.length = 8 := of_decide_eq_true h1
    show (sAt_br y m d k).val = some (.int .i64 (atS y m d k), [])
    have c1 := cut_le2 k 0 2 (by omega)
    have c2 := cut_le2 k 3 5 (by omega)
    have c3 := cut_le2 k 6 8 (by omega)
    unfold sAt_br
    rw [decide_eq_true (show (2 : Int) ≤ (k.length : Int) by omega), decide_eq_true (show (5 : Int) ≤ (k.length : Int) by omega), decide_eq_true (show (8 : Int) ≤ (k.length : Int) by omega),
      decide_eq_true (show (Ev.cut k 0 2).length ≤ 12 from Nat.le_trans c1 (by omega)), decide_eq_true (show (Ev.cut k 3 5).length ≤ 12 from Nat.le_trans c2 (by omega)), decide_eq_true (show (Ev.cut k 6 8).length ≤ 12 from Nat.le_trans c3 (by omega))]
    simp only [Br.val]
    unfold atS secP
    show _ = some (AV.int .i64 (bif civOk (cvM y m d (numS (Ev.cut k 0 2)) (numS (Ev.cut k 3 5)) (numS (Ev.cut k 6 8))) then secB (cvM y m d (numS (Ev.cut k 0 2)) (numS (Ev.cut k 3 5)) (numS (Ev.cut k 6 8))) else -1), [])
    cases civOk (cvM y m d (numS (Ev.cut k 0 2)) (numS (Ev.cut k 3 5)) (numS (Ev.cut k 6 8))) <;> rfl
  · cases h
theorem ixOf_upto (b : UInt8) : ∀ s : Bytes, hasB s (by8 b) = true → ixOf s (by8 b) = ((uptoP s (by8 b)).length : Int)
  | [], h => by cases h
  | a :: r, h => by
    have e : (by8 b).toNat.toUInt8 = b := by simp [by8]
    have hd : hasB (a :: r) (by8 b) = (decide (by8 a = by8 b) || hasB r (by8 b)) := rfl
    have hu : uptoP (a :: r) (by8 b) = bif !decide (by8 a = by8 b) then a :: uptoP r (by8 b) else [] := by
      unfold uptoP; rw [List.takeWhile_cons]; cases decide (by8 a = by8 b) <;> rfl
    unfold ixOf
    rw [e, hu]
    by_cases c : a = b
    · subst c
      unfold Lib.indexByte
      simp
    · have cb : ¬ by8 a = by8 b := fun h => c (by unfold by8 at h; exact UInt8.toNat_inj.1 (by omega))
      rw [hd, decide_eq_false cb, Bool.false_or] at h
      have ih := ixOf_upto b r h
      unfold ixOf at ih
      rw [e] at ih
      unfold Lib.indexByte
      rw [if_neg (by simpa using c), ih, if_neg (by simp), decide_eq_false cb]
      rfl
def finBr (s : Bytes) (c : Cv) : Br :=
  (Br.ite (!(secP c).2) (Br.ret (AV.tup ((AV.int .i64 (0 : Int)) :: ((AV.bool false) :: ([] : (List (AV)))))) ([] : (List (Ob)))) (Br.ite (!(decide ((httpP (secP c).1) = s))) (Br.ite (!(decide ((longP (secP c).1) = s))) (Br.ite (!(decide ((lineD (secP c).1) = s))) (Br.ret (AV.tup ((AV.int .i64 (0 : Int)) :: ((AV.bool false) :: ([] : (List (AV)))))) ([] : (List (Ob)))) (Br.ret (AV.tup ((AV.int .i64 (secP c).1) :: ((AV.bool true) :: ([] : (List (AV)))))) ([] : (List (Ob))))) (Br.ret (AV.tup ((AV.int .i64 (secP c).1) :: ((AV.bool true) :: ([] : (List (AV)))))) ([] : (List (Ob))))) (Br.ret (AV.tup ((AV.int .i64 (secP c).1) :: ((AV.bool true) :: ([] : (List (AV)))))) ([] : (List (Ob))))))
theorem finBr_val (s : Bytes) (c : Cv) : (finBr s c).val = some (.tup [.int .i64 (finI s c).1, .bool (finI s c).2], []) := by
  unfold finBr finI
  generalize (secP c).2 = b0
  generalize decide (httpP (secP c).1 = s) = b1
  generalize decide (longP (secP c).1 = s) = b2
  generalize decide (lineD (secP c).1 = s) = b3
  generalize (secP c).1 = v
  cases b0 <;> cases b1 <;> cases b2 <;> cases b3 <;> rfl
def date_s : List AV → List Ob → Br
  | [.str s], [] => .ret (.tup [.int .i64 (dateR s).1, .bool (dateR s).2]) []
  | _, _ => .fail
theorem iRead_val (s : Bytes) : (iRead_br s).val = some (.tup [.int .i64 (rdI s).1, .bool (rdI s).2], []) := by
  unfold iRead_br rdI iRead_c6 iRead_c5 iRead_c4 iRead_c3 iRead_c2 iRead_c1
  by_cases c1 : s.length < 6
  · rw [decide_eq_true (show (s.length : Int) < 6 by omega), decide_eq_false (show ¬ 6 ≤ s.length by omega)]; rfl
  rw [decide_eq_false (show ¬ (s.length : Int) < 6 by omega), decide_eq_true (show 6 ≤ s.length by omega)]
  by_cases c2 : 40 < s.length
  · rw [decide_eq_true (show (40 : Int) < (s.length : Int) by omega), decide_eq_false (show ¬ s.length ≤ 40 by omega)]; rfl
  rw [decide_eq_false (show ¬ (40 : Int) < (s.length : Int) by omega), decide_eq_true (show s.length ≤ 40 by omega), decide_eq_true (show s.length ≤ 100000 by omega)]
  by_cases c3 : (numsP s).length = 5
  case neg => rw [decide_eq_false (show ¬ ((numsP s).length : Int) = 5 by omega), decide_eq_false c3]; rfl
  have lc : ∀ a b : Int, decide ((Ev.cut s a b).length ≤ 1000000) = true := fun a b => decide_eq_true (by have := cut_len s a b; omega)
  rw [decide_eq_true (show ((numsP s).length : Int) = 5 by omega), decide_eq_true c3, decide_eq_true (show (3 : Int) ≤ (s.length : Int) by omega), lc, lc, ixOf_nn s 44 (by omega) (by omega), ixOf_nn s 45 (by omega) (by omega),
    decide_eq_true (show (1 : Int) < ((numsP s).length : Int) by omega), decide_eq_true (show (0 : Int) < ((numsP s).length : Int) by omega), decide_eq_true (show (2 : Int) < ((numsP s).length : Int) by omega),
    decide_eq_true (show (3 : Int) < ((numsP s).length : Int) by omega), decide_eq_true (show (4 : Int) < ((numsP s).length : Int) by omega)]
  have hn := numsP_bd s 1
  have cd : Ev.cut s 3 (s.length : Int) = s.drop 3 := cutTo s 3
  rw [w64 (n := (numsP s).getD 1 0 + 1900) (by omega) (by omega), w64 (n := (numsP s).getD 1 0 + 1900 + 100) (by omega) (by omega), cd]
  unfold cvI
  cases h44 : hasB s 44
  · exact finBr_val s _
  · have ix : ixOf s 44 = ((uptoP s 44).length : Int) := ixOf_upto 44 s h44
    have hul : (uptoP s 44).length ≤ s.length := by unfold uptoP; exact (List.takeWhile_sublist _).length_le
    rw [ix, cutTo, decide_eq_true (show ((uptoP s 44).length : Int) ≤ (s.length : Int) by omega)]
    cases h45 : hasB s 45
    · exact finBr_val s _
    · unfold cen
      cases hc : decide ((numsP s).getD 1 0 + 1900 < 1970)
      · exact finBr_val s _
      · exact finBr_val s _
theorem iRead_okQ : Sound Kx 94 date_s := iRead_ok.of fun args objs r h => by
  unfold date_s at h; split at h
  · rename_i s
    rw [← h]
    refine (iRead_val s).trans ?_
    rw [rdI_eq]; rfl
  · cases h

def sRead_O : Opt := { split := true }
def sRead_C : SC := [⟨82, _, sAt_okQ⟩, ⟨83, _, sNum_okQ⟩, ⟨84, _, sMonth_okQ⟩, ⟨85, _, sHttp_okQ⟩, ⟨86, _, sLine_okQ⟩, ⟨87, _, sLong_okQ⟩]
abbrev sRead_c1 (s : Bytes) := (Br.ite (decide (30 ≤ (s.length : Int))) (Br.ite (decide ((s.length : Int) ≤ 33)) (Br.ite (decide (0 ≤ (wk64 ((s.length : Int) - 22)))) (Br.ite (decide ((wk64 ((s.length : Int) - 22)) ≤ (s.length : Int))) (Br.ite (decide (9 ≤ ((List.length (cut s (wk64 ((s.length : Int) - 22)) (s.length : Int))) : Int))) (Br.ite (decide ((List.length (cut (cut s (wk64 ((s.length : Int) - 22)) (s.length : Int)) 7 9)) ≤ 12)) (Br.ite (decide (70 ≤ (numS (cut (cut s (wk64 ((s.length : Int) - 22)) (s.length : Int)) 7 9)))) (Br.ite (decide (6 ≤ ((List.length (cut s (wk64 ((s.length : Int) - 22)) (s.length : Int))) : Int))) (Br.ite (decide (2 ≤ ((List.length (cut s (wk64 ((s.length : Int) - 22)) (s.length : Int))) : Int))) (Br.ite (decide ((List.length (cut (cut s (wk64 ((s.length : Int) - 22)) (s.length : Int)) 0 2)) ≤ 12)) (Br.ite (decide (18 ≤ ((List.length (cut s (wk64 ((s.length : Int) - 22)) (s.length : Int))) : Int))) (Br.ite (atB (cut (cut s (wk64 ((s.length : Int) - 22)) (s.length : Int)) 10 18)) (Br.ite (decide ((longP (atS (wk64 ((numS (cut (cut s (wk64 ((s.length : Int) - 22)) (s.length : Int)) 7 9)) + 1900)) (monS (cut (cut s (wk64 ((s.length : Int) - 22)) (s.length : Int)) 3 6)) (numS (cut (cut s (wk64 ((s.length : Int) - 22)) (s.length : Int)) 0 2)) (cut (cut s (wk64 ((s.length : Int) - 22)) (s.length : Int)) 10 18))) = s)) (Br.ret (AV.tup ((AV.int .i64 (atS (wk64 ((numS (cut (cut s (wk64 ((s.length : Int) - 22)) (s.length : Int)) 7 9)) + 1900)) (monS (cut (cut s (wk64 ((s.length : Int) - 22)) (s.length : Int)) 3 6)) (numS (cut (cut s (wk64 ((s.length : Int) - 22)) (s.length : Int)) 0 2)) (cut (cut s (wk64 ((s.length : Int) - 22)) (s.length : Int)) 10 18))) :: ((AV.bool true) :: []))) []) (Br.ret (AV.tup ((AV.int .i64 0) :: ((AV.bool false) :: []))) [])) Br.fail) Br.fail) Br.fail) Br.fail) Br.fail) (Br.ite (decide (6 ≤ ((List.length (cut s (wk64 ((s.length : Int) - 22)) (s.length : Int))) : Int))) (Br.ite (decide (2 ≤ ((List.length (cut s (wk64 ((s.length : Int) - 22)) (s.length : Int))) : Int))) (Br.ite (decide ((List.length (cut (cut s (wk64 ((s.length : Int) - 22)) (s.length : Int)) 0 2)) ≤ 12)) (Br.ite (decide (18 ≤ ((List.length (cut s (wk64 ((s.length : Int) - 22)) (s.length : Int))) : Int))) (Br.ite (atB (cut (cut s (wk64 ((s.length : Int) - 22)) (s.length : Int)) 10 18)) (Br.ite (decide ((longP (atS (wk64 ((numS (cut (cut s (wk64 ((s.length : Int) - 22)) (s.length : Int)) 7 9)) + 2000)) (monS (cut (cut s (wk64 ((s.length : Int) - 22)) (s.length : Int)) 3 6)) (numS (cut (cut s (wk64 ((s.length : Int) - 22)) (s.length : Int)) 0 2)) (cut (cut s (wk64 ((s.length : Int) - 22)) (s.length : Int)) 10 18))) = s)) (Br.ret (AV.tup ((AV.int .i64 (atS (wk64 ((numS (cut (cut s (wk64 ((s.length : Int) - 22)) (s.length : Int)) 7 9)) + 2000)) (monS (cut (cut s (wk64 ((s.length : Int) - 22)) (s.length : Int)) 3 6)) (numS (cut (cut s (wk64 ((s.length : Int) - 22)) (s.length : Int)) 0 2)) (cut (cut s (wk64 ((s.length : Int) - 22)) (s.length : Int)) 10 18))) :: ((AV.bool true) :: []))) []) (Br.ret (AV.tup ((AV.int .i64 0) :: ((AV.bool false) :: []))) [])) Br.fail) Br.fail) Br.fail) Br.fail) Br.fail)) Br.fail) Br.fail) Br.fail) Br.fail) (Br.ret (AV.tup ((AV.int .i64 0) :: ((AV.bool false) :: []))) [])) (Br.ret (AV.tup ((AV.int .i64 0) :: ((AV.bool false) :: []))) []))
abbrev sRead_c2 (s : Bytes) := (Br.ite (decide ((s.length : Int) = 24)) (Br.ite (decide (24 ≤ (s.length : Int))) (Br.ite (decide ((List.length (cut s 20 24)) ≤ 12)) (Br.ite (decide (7 ≤ (s.length : Int))) (Br.ite (decide (10 ≤ (s.length : Int))) (Br.ite (decide ((List.length (cut s 8 10)) ≤ 12)) (Br.ite (decide (19 ≤ (s.length : Int))) (Br.ite (atB (cut s 11 19)) (Br.ite (decide ((lineD (atS (numS (cut s 20 24)) (monS (cut s 4 7)) (numS (cut s 8 10)) (cut s 11 19))) = s)) (Br.ret (AV.tup ((AV.int .i64 (atS (numS (cut s 20 24)) (monS (cut s 4 7)) (numS (cut s 8 10)) (cut s 11 19))) :: ((AV.bool true) :: []))) []) (sRead_c1 s)) Br.fail) Br.fail) Br.fail) Br.fail) Br.fail) Br.fail) Br.fail) (sRead_c1 s))
def sRead_br (s : Bytes) : Br := (Br.ite (decide ((s.length : Int) = 29)) (Br.ite (decide (16 ≤ (s.length : Int))) (Br.ite (decide ((List.length (cut s 12 16)) ≤ 12)) (Br.ite (decide (11 ≤ (s.length : Int))) (Br.ite (decide (7 ≤ (s.length : Int))) (Br.ite (decide ((List.length (cut s 5 7)) ≤ 12)) (Br.ite (decide (25 ≤ (s.length : Int))) (Br.ite (atB (cut s 17 25)) (Br.ite (decide ((httpP (atS (numS (cut s 12 16)) (monS (cut s 8 11)) (numS (cut s 5 7)) (cut s 17 25))) = s)) (Br.ret (AV.tup ((AV.int .i64 (atS (numS (cut s 12 16)) (monS (cut s 8 11)) (numS (cut s 5 7)) (cut s 17 25))) :: ((AV.bool true) :: []))) []) (sRead_c2 s)) Br.fail) Br.fail) Br.fail) Br.fail) Br.fail) Br.fail) Br.fail) (sRead_c2 s))
def sRead_s : List AV → List Ob → Br
  | [.str s], [] => sRead_br s
  | _, _ => .fail
theorem sRead_ok : Sound Kx 37 sRead_s := sound_br (C := sRead_C) (O := sRead_O) Tryz.func37 (by kernel_rfl) fun args objs => by
  unfold sRead_s; split
  · exact .inr (by kernel_rfl)
  · exact .inl rfl

theorem cutN_len (k : Bytes) (a b : Nat) (h : a ≤ b) (h2 : b ≤ k.length) : (Ev.cut k ((a : Nat) : Int) ((b : Nat) : Int)).length = b - a := by
  unfold Ev.cut
  simp only [List.length_drop, List.length_take, Int.toNat_natCast]
  omega
theorem c12 (k : Bytes) (a b : Nat) (h : b ≤ a + 4) : decide ((Ev.cut k ((a : Nat) : Int) ((b : Nat) : Int)).length ≤ 12) = true := decide_eq_true (Nat.le_trans (cut_le2 k a b h) (by omega))
theorem at8 (k : Bytes) (a b : Nat) (h : b = a + 8) (h2 : b ≤ k.length) : atB (Ev.cut k ((a : Nat) : Int) ((b : Nat) : Int)) = true := decide_eq_true (by rw [cutN_len k a b (by omega) h2]; omega)
theorem sRead_val (s : Bytes) : (sRead_br s).val = some (.tup [.int .i64 (rdS s).1, .bool (rdS s).2], []) := by
  unfold sRead_br rdS sRead_c2 sRead_c1
  by_cases c29 : s.length = 29
  · have T : ∀ k : Int, k ≤ 29 → decide (k ≤ (s.length : Int)) = true := fun k h => decide_eq_true (by omega)
    rw [decide_eq_true (show (s.length : Int) = 29 by omega), decide_eq_true c29, decide_eq_false (show ¬ (s.length : Int) = 24 by omega), decide_eq_false (show ¬ s.length = 24 by omega), decide_eq_false (show ¬ (30 : Int) ≤ (s.length : Int) by omega), decide_eq_false (show ¬ 30 ≤ s.length by omega),
      T 16 (by omega), T 11 (by omega), T 7 (by omega), T 25 (by omega), show decide ((Ev.cut s 12 16).length ≤ 12) = true from c12 s 12 16 (by omega), show decide ((Ev.cut s 5 7).length ≤ 12) = true from c12 s 5 7 (by omega), show atB (Ev.cut s 17 25) = true from at8 s 17 25 (by omega) (by omega)]
    show (Br.ite (decide (httpP (t1S s) = s)) (.ret (.tup [.int .i64 (t1S s), .bool true]) []) _).val = _
    cases decide (httpP (t1S s) = s) <;> rfl
  rw [decide_eq_false (show ¬ (s.length : Int) = 29 by omega), decide_eq_false c29]
  by_cases c24 : s.length = 24
  · have T : ∀ k : Int, k ≤ 24 → decide (k ≤ (s.length : Int)) = true := fun k h => decide_eq_true (by omega)
    rw [decide_eq_true (show (s.length : Int) = 24 by omega), decide_eq_true c24, decide_eq_false (show ¬ (30 : Int) ≤ (s.length : Int) by omega), decide_eq_false (show ¬ 30 ≤ s.length by omega),
      T 24 (by omega), T 7 (by omega), T 10 (by omega), T 19 (by omega), show decide ((Ev.cut s 20 24).length ≤ 12) = true from c12 s 20 24 (by omega), show decide ((Ev.cut s 8 10).length ≤ 12) = true from c12 s 8 10 (by omega), show atB (Ev.cut s 11 19) = true from at8 s 11 19 (by omega) (by omega)]
    show (Br.ite (decide (lineD (t2S s) = s)) (.ret (.tup [.int .i64 (t2S s), .bool true]) []) _).val = _
    cases decide (lineD (t2S s) = s) <;> rfl
  rw [decide_eq_false (show ¬ (s.length : Int) = 24 by omega), decide_eq_false c24]
  by_cases c30 : 30 ≤ s.length
  case neg => rw [decide_eq_false (show ¬ (30 : Int) ≤ (s.length : Int) by omega), decide_eq_false c30]; rfl
  rw [decide_eq_true (show (30 : Int) ≤ (s.length : Int) by omega), decide_eq_true c30]
  by_cases c33 : s.length ≤ 33
  case neg => rw [decide_eq_false (show ¬ (s.length : Int) ≤ 33 by omega), decide_eq_false c33]; rfl
  rw [decide_eq_true (show (s.length : Int) ≤ 33 by omega), decide_eq_true c33, w64 (n := (s.length : Int) - 22) (by omega) (by omega), show (s.length : Int) - 22 = ((s.length - 22 : Nat) : Int) by omega, cutTo,
    decide_eq_true (show (0 : Int) ≤ ((s.length - 22 : Nat) : Int) by omega), decide_eq_true (show ((s.length - 22 : Nat) : Int) ≤ (s.length : Int) by omega)]
  have hr : (s.drop (s.length - 22)).length = 22 := by rw [List.length_drop]; omega
  generalize s.drop (s.length - 22) = r at *
  have T : ∀ k : Int, k ≤ 22 → decide (k ≤ (r.length : Int)) = true := fun k h => decide_eq_true (by omega)
  have hn := numS_bd (Ev.cut r 7 9) (cut_le2 r 7 9 (by omega))
  rw [T 9 (by omega), T 6 (by omega), T 2 (by omega), T 18 (by omega), show decide ((Ev.cut r 7 9).length ≤ 12) = true from c12 r 7 9 (by omega), show decide ((Ev.cut r 0 2).length ≤ 12) = true from c12 r 0 2 (by omega), show atB (Ev.cut r 10 18) = true from at8 r 10 18 (by omega) (by omega),
    w64 (n := numS (Ev.cut r 7 9) + 1900) (by omega) (by omega), w64 (n := numS (Ev.cut r 7 9) + 2000) (by omega) (by omega)]
  by_cases c70 : 70 ≤ numS (Ev.cut r 7 9)
  · have e : numS (Ev.cut r 7 9) + 1900 = cenS (numS (Ev.cut r 7 9)) := by unfold cenS; rw [decide_eq_true c70]; rfl
    rw [decide_eq_true c70, e]
    show (Br.ite (decide (longP (t3S r) = s)) (.ret (.tup [.int .i64 (t3S r), .bool true]) []) _).val = _
    cases decide (longP (t3S r) = s) <;> rfl
  · have e : numS (Ev.cut r 7 9) + 2000 = cenS (numS (Ev.cut r 7 9)) := by unfold cenS; rw [decide_eq_false c70]; rfl
    rw [decide_eq_false c70, e]
    show (Br.ite (decide (longP (t3S r) = s)) (.ret (.tup [.int .i64 (t3S r), .bool true]) []) _).val = _
    cases decide (longP (t3S r) = s) <;> rfl
theorem sRead_okQ : Sound Kx 37 date_s := sRead_ok.of fun args objs r h => by
  unfold date_s at h; split at h
  · rename_i s
    rw [← h]
    refine (sRead_val s).trans ?_
    rw [rdS_eq]; rfl
  · cases h

def hpx_br (s p : Bytes) : Br := (Br.ite (decide ((p.length : Int) ≤ (s.length : Int))) (Br.ite (decide (0 ≤ (p.length : Int))) (Br.ite (decide ((p.length : Int) ≤ (s.length : Int))) (Br.ret (AV.bool (decide ((cut s 0 (p.length : Int)) = p))) []) Br.fail) Br.fail) (Br.ret (AV.bool false) []))
def hpx_s : List AV → List Ob → Br
  | [.str s, .str p], [] => hpx_br s p
  | _, _ => .fail
theorem hpx_ok : Sound Kx 136 hpx_s := sound_br (C := []) (O := O0) Tryz.func136 (by kernel_rfl) fun args objs => by
  unfold hpx_s; split
  · exact .inr (by kernel_rfl)
  · exact .inl rfl

def tpx0_O : Opt := { split := true }
def tpx0_C : SC := [⟨136, _, hpx_ok⟩]
def tpx0_br (s p : Bytes) : Br := (Br.ite (decide ((p.length : Int) ≤ (s.length : Int))) (Br.ite (decide (0 ≤ (p.length : Int))) (Br.ite (decide ((p.length : Int) ≤ (s.length : Int))) (Br.ite (decide ((cut s 0 (p.length : Int)) = p)) (Br.ite (decide (0 ≤ (p.length : Int))) (Br.ite (decide ((p.length : Int) ≤ (s.length : Int))) (Br.ret (AV.str (cut s (p.length : Int) (s.length : Int))) []) Br.fail) Br.fail) (Br.ret (AV.str s) [])) Br.fail) Br.fail) (Br.ret (AV.str s) []))
def tpx0_s : List AV → List Ob → Br
  | [.str s, .str p], [] => tpx0_br s p
  | _, _ => .fail
theorem tpx0_ok : Sound Kx 150 tpx0_s := sound_br (C := tpx0_C) (O := tpx0_O) Tryz.func150 (by kernel_rfl) fun args objs => by
  unfold tpx0_s; split
  · exact .inr (by kernel_rfl)
  · exact .inl rfl

def tpx_C : SC := [⟨150, _, tpx0_ok⟩]
def tpx_br (s p : Bytes) : Br := (Br.ite (decide ((p.length : Int) ≤ (s.length : Int))) (Br.ite (decide (0 ≤ (p.length : Int))) (Br.ite (decide ((p.length : Int) ≤ (s.length : Int))) (Br.ite (decide ((cut s 0 (p.length : Int)) = p)) (Br.ite (decide (0 ≤ (p.length : Int))) (Br.ite (decide ((p.length : Int) ≤ (s.length : Int))) (Br.ret (AV.str (cut s (p.length : Int) (s.length : Int))) []) Br.fail) Br.fail) (Br.ret (AV.str s) [])) Br.fail) Br.fail) (Br.ret (AV.str s) []))
def tpx_s : List AV → List Ob → Br
  | [.str s, .str p], [] => tpx_br s p
  | _, _ => .fail
theorem tpx_ok : Sound Kx 91 tpx_s := sound_br (C := tpx_C) (O := O0) Tryz.func91 (by kernel_rfl) fun args objs => by
  unfold tpx_s; split
  · exact .inr (by kernel_rfl)
  · exact .inl rfl

def iGet_C : SC := [⟨90, _, iValues_okQ⟩]
def iGet_br (l : List Fd) (name : Bytes) : Br := (Br.ite (isM name) (Br.ite (decide (((List.length (vals l name)) : Int) = 0)) (Br.ret (AV.tup ((AV.str ([] : Bytes)) :: ((AV.bool false) :: []))) []) (Br.ite (decide (0 < ((List.length (vals l name)) : Int))) (Br.ret (AV.tup ((AV.str (List.getD (vals l name) 0 ([] : Bytes))) :: ((AV.bool true) :: []))) []) Br.fail)) Br.fail)
def iGet_s : List AV → List Ob → Br
  | [.sh (.pair .str .str) l, .str name], [] => iGet_br l name
  | _, _ => .fail
theorem iGet_ok : Sound Kx 39 iGet_s := sound_br (C := iGet_C) (O := O0) Tryz.func39 (by kernel_rfl) fun args objs => by
  unfold iGet_s; split
  · exact .inr (by kernel_rfl)
  · exact .inl rfl

def sStrong_O : Opt := { split := true }
def sStrong_br (s : Bytes) : Br := (Br.ite (decide (2 ≤ (s.length : Int))) (Br.ite (decide (2 ≤ (s.length : Int))) (Br.ite (decide ((cut s 0 2) = ([87, 47] : Bytes))) (Br.ite (decide (2 ≤ (s.length : Int))) (Br.ret (AV.str (cut s 2 (s.length : Int))) []) Br.fail) (Br.ret (AV.str s) [])) Br.fail) (Br.ret (AV.str s) []))
def sStrong_s : List AV → List Ob → Br
  | [.str s], [] => sStrong_br s
  | _, _ => .fail
theorem sStrong_ok : Sound Kx 81 sStrong_s := sound_br (C := []) (O := sStrong_O) Tryz.func81 (by kernel_rfl) fun args objs => by
  unfold sStrong_s; split
  · exact .inr (by kernel_rfl)
  · exact .inl rfl

def tagB_br (b : Int) : Br := (Br.ite (decide (32 < b)) (Br.ite (!(decide (b = 34))) (Br.ret (AV.bool (!(decide (b = 127)))) []) (Br.ret (AV.bool false) [])) (Br.ret (AV.bool false) []))
def tagB_s : List AV → List Ob → Br
  | [.int .u8 b], [] => tagB_br b
  | _, _ => .fail
theorem tagB_ok : Sound Kx 93 tagB_s := sound_br (C := []) (O := O0) Tryz.func93 (by kernel_rfl) fun args objs => by
  unfold tagB_s; split
  · exact .inr (by kernel_rfl)
  · exact .inl rfl

def tpP (s p : Bytes) : Bytes := bif decide (p.length ≤ s.length) && decide (s.take p.length = p) then s.drop p.length else s
def strongP (s : Bytes) : Bytes := tpP s [87, 47]
theorem strong_len (s : Bytes) : (strongP s).length ≤ s.length := by
  unfold strongP tpP
  cases decide (([87, 47] : Bytes).length ≤ s.length) && decide (s.take ([87, 47] : Bytes).length = [87, 47])
  · exact Nat.le_refl _
  · rw [cond_true, List.length_drop]; omega
def tp_s : List AV → List Ob → Br
  | [.str s, .str p], [] => .ret (.str (tpP s p)) []
  | _, _ => .fail
theorem cutHead (s : Bytes) (n : Nat) : Ev.cut s 0 ((n : Nat) : Int) = s.take n := by unfold Ev.cut; simp
theorem tpx_okQ : Sound Kx 91 tp_s := tpx_ok.of fun args objs r h => by
  unfold tp_s at h; split at h
  · rename_i s p
    rw [← h]
    show (tpx_br s p).val = some (.str (tpP s p), [])
    unfold tpx_br tpP
    rw [cutHead, cutTo]
    by_cases c : p.length ≤ s.length
    · rw [decide_eq_true (show (p.length : Int) ≤ (s.length : Int) by omega), decide_eq_true (show (0 : Int) ≤ (p.length : Int) by omega), decide_eq_true c]
      cases decide (s.take p.length = p) <;> rfl
    · rw [decide_eq_false (show ¬ (p.length : Int) ≤ (s.length : Int) by omega), decide_eq_false c]; rfl
  · cases h
def so_s : List AV → List Ob → Br
  | [.str s], [] => .ret (.str (strongP s)) []
  | _, _ => .fail
theorem sStrong_okQ : Sound Kx 81 so_s := sStrong_ok.of fun args objs r h => by
  unfold so_s at h; split at h
  · rename_i s
    rw [← h]
    show (sStrong_br s).val = some (.str (strongP s), [])
    have e1 : Ev.cut s 0 2 = s.take 2 := cutHead s 2
    have e2 : Ev.cut s 2 (s.length : Int) = s.drop 2 := cutTo s 2
    unfold sStrong_br strongP tpP
    rw [e1, e2]
    show _ = some (AV.str (bif decide (2 ≤ s.length) && decide (s.take 2 = [87, 47]) then s.drop 2 else s), [])
    by_cases c : 2 ≤ s.length
    · rw [decide_eq_true (show (2 : Int) ≤ (s.length : Int) by omega), decide_eq_true c]
      cases decide (s.take 2 = [87, 47]) <;> rfl
    · rw [decide_eq_false (show ¬ (2 : Int) ≤ (s.length : Int) by omega), decide_eq_false c]; rfl
  · cases h
def tagBy (b : Int) : Bool := decide (32 < b) && !decide (b = 34) && !decide (b = 127)
theorem tagB_okQ : Sound Kx 93 (pr_s tagBy) := of_pr tagB_ok fun b => by
  show (tagB_br b).val = some (.bool (tagBy b), [])
  unfold tagB_br tagBy
  generalize decide (32 < b) = b1
  generalize decide (b = 34) = b2
  generalize decide (b = 127) = b3
  cases b1 <;> cases b2 <;> cases b3 <;> rfl
theorem iGet_okQ : Sound Kx 39 sGet2_s := iGet_ok.of fun args objs r h => by
  unfold sGet2_s at h; split at h
  · rename_i l name
    obtain ⟨h1, h2⟩ := ite_some h
    cases h2
    show (iGet_br l name).val = some (.tup [.str ((vals l name).getD 0 []), .bool (hasP l name)], [])
    unfold iGet_br hasP
    rw [h1]
    cases hv : vals l name with
    | nil => rfl
    | cons a v =>
      rw [decide_eq_false (show ¬ ((a :: v).length : Int) = 0 by simp only [List.length_cons]; omega), decide_eq_true (show (0 : Int) < ((a :: v).length : Int) by simp only [List.length_cons]; omega), decide_eq_true (show 0 < (a :: v).length by simp)]
      rfl
  · cases h
def dtP (l : List Fd) (name : Bytes) : Int × Bool := bif hasP l name then dateR ((vals l name).getD 0 []) else (0, false)
theorem dateR_nil : dateR [] = (0, false) := by rw [← rdI_eq]; rfl
theorem dtP_eq (l : List Fd) (name : Bytes) : dateR ((vals l name).getD 0 []) = dtP l name := by
  unfold dtP hasP
  cases hv : vals l name with
  | nil => exact dateR_nil
  | cons a v => rw [decide_eq_true (show 0 < (a :: v).length by simp)]; rfl
def dt2_s : List AV → List Ob → Br
  | [.sh (.pair .str .str) l, .str name], [] => .ite (isM name) (.ret (.tup [.int .i64 (dtP l name).1, .bool (dtP l name).2]) []) .fail
  | _, _ => .fail

def allTag_O : Opt := { live := [(2, [0, 1, 5])], outs := [(2, [4])] }
def allTag_C : SC := [⟨93, _, tagB_okQ⟩]
def allTag_T2 (v2x0 : Bytes) (v2x1 : Int) (kR2 : Bytes → Int → Option Rs) (k2e0 k2e1 : Option Rs) : Option Rs :=
  (bif (decide (v2x1 < (v2x0.length : Int))) then (bif (decide (0 ≤ v2x1)) then (bif (decide (v2x1 < (v2x0.length : Int))) then (bif (!(tagBy (strAt v2x0 v2x1))) then k2e0 else (kR2 v2x0 (wk64 (v2x1 + 1)))) else (none)) else (none)) else k2e1)
def allTag_F2 : Nat → Bytes → Int → (Option Rs) → (Option Rs) → Option Rs
  | 0, _, _, _, _ => none
  | n + 1, v2x0, v2x1, k2e0, k2e1 => allTag_T2 v2x0 v2x1 (fun v2x0 v2x1 => allTag_F2 n v2x0 v2x1 k2e0 k2e1) k2e0 k2e1
abbrev allTag_p2 : SP := ⟨18, [0, 1, 5], [(.v .s), (.v (.fn 93 [])), (.v (.i .i64))], []⟩
noncomputable def allTag_b2 : Code := codeAt (codeOf Tryz.f92) [1, 0, 1, 0, 0]
def allTag_E2 (f : (Option Rs) → (Option Rs) → Option Rs) (k : KT) : Option Rs := f (k Ex.ret ((St.mk (slots 0 18 [(4, (AV.bool false))]) ([] : (List (Nat × (Ob))))))) (k (Ex.exit 0) ((St.mk (slots 0 18 []) ([] : (List (Nat × (Ob)))))))
def allTag_G2 (n : Nat) (d : allTag_p2.D) : KT → Option Rs := allTag_E2 (allTag_F2 n d.1.1 d.1.2.2.1)
def allTag_L (N : Nat) : Lam := lamOf [⟨2, allTag_p2, allTag_G2 N⟩]
theorem allTag_ok2 (N : Nat) : OkL Kx allTag_C.s allTag_O 0 N (allTag_L N) allTag_b2 := okL allTag_p2 (allTag_G2) (fun d kR => allTag_E2 (allTag_T2 d.1.1 d.1.2.2.1 (fun v2x0 v2x1 => kR ((v2x0, (), v2x1, ()), ())))) (fun _ _ => by kernel_rfl) (fun _ _ _ => by kernel_rfl) (fun _ _ => by kernel_rfl) (fun _ _ _ _ => by kernel_rfl) (okEach (l' := []) (by kernel_rfl) trivial)
def allTag_run (N : Nat) (s : Bytes) : Option Rs := (allTag_F2 N s 0 (some ((AV.bool false), [])) (some ((AV.bool true), [])))
def allTag_sOf (φ : Bytes → Br) : List AV → List Ob → Br
  | [.str s, .fn 93 []], [] => φ s
  | _, _ => .fail
theorem allTag_okOf {φ : Bytes → Br} (fu : Bytes → Nat) (hv : ∀ s res_, (φ s).val = some res_ → allTag_run (fu s) s = some res_) : Sound Kx 92 (allTag_sOf φ) := sound_lp (C := allTag_C) (O := allTag_O) Tryz.func92 (by kernel_rfl) fun args objs => by
  unfold allTag_sOf; split
  · rename_i s; exact .inr fun _ hyp_ => run_lp (Λ := allTag_L (fu s)) (by kernel_rfl) (okEach (l' := [allTag_b2]) (by kernel_rfl) ⟨allTag_ok2 _, trivial⟩) (by kernel_rfl) (hv s _ hyp_)
  · exact .inl rfl

def iDateIn_C : SC := [⟨39, _, iGet_okQ⟩, ⟨94, _, iRead_okQ⟩]
def iDateIn_br (l : List Fd) (name : Bytes) : Br := (Br.ite (isM name) (Br.ret (AV.tup ((AV.int .i64 (dateR (List.getD (vals l name) 0 ([] : Bytes))).1) :: ((AV.bool (dateR (List.getD (vals l name) 0 ([] : Bytes))).2) :: []))) []) Br.fail)
def iDateIn_s : List AV → List Ob → Br
  | [.sh (.pair .str .str) l, .str name], [] => iDateIn_br l name
  | _, _ => .fail
theorem iDateIn_ok : Sound Kx 41 iDateIn_s := sound_br (C := iDateIn_C) (O := O0) Tryz.func41 (by kernel_rfl) fun args objs => by
  unfold iDateIn_s; split
  · exact .inr (by kernel_rfl)
  · exact .inl rfl

def sTag_O : Opt := { live := [(5, [3, 4])], outs := [(5, [2])] }
def sTag_C : SC := [⟨81, _, sStrong_okQ⟩]
def sTag_T5 (v5x0 : Bytes) (v5x1 : Int) (kR5 : Bytes → Int → Option Rs) (k5e0 k5e1 : Option Rs) : Option Rs :=
  (bif (decide (v5x1 < (wk64 ((v5x0.length : Int) - 1)))) then (bif (decide (0 ≤ v5x1)) then (bif (decide (v5x1 < (v5x0.length : Int))) then (bif (decide ((strAt v5x0 v5x1) ≤ 32)) then k5e0 else (bif (decide (0 ≤ v5x1)) then (bif (decide (v5x1 < (v5x0.length : Int))) then (bif (decide ((strAt v5x0 v5x1) = 127)) then k5e0 else (bif (decide (0 ≤ v5x1)) then (bif (decide (v5x1 < (v5x0.length : Int))) then (bif (decide ((strAt v5x0 v5x1) = 34)) then k5e0 else (kR5 v5x0 (wk64 (v5x1 + 1)))) else (none)) else (none))) else (none)) else (none))) else (none)) else (none)) else k5e1)
def sTag_F5 : Nat → Bytes → Int → (Option Rs) → (Option Rs) → Option Rs
  | 0, _, _, _, _ => none
  | n + 1, v5x0, v5x1, k5e0, k5e1 => sTag_T5 v5x0 v5x1 (fun v5x0 v5x1 => sTag_F5 n v5x0 v5x1 k5e0 k5e1) k5e0 k5e1
abbrev sTag_p5 : SP := ⟨51, [3, 4], [(.v .s), (.v (.i .i64))], []⟩
noncomputable def sTag_b5 : Code := codeAt (codeOf Tryz.f36) [1, 1, 1, 0, 1, 0, 0]
def sTag_E5 (f : (Option Rs) → (Option Rs) → Option Rs) (k : KT) : Option Rs := f (k Ex.ret ((St.mk (slots 0 51 [(2, (AV.bool false))]) ([] : (List (Nat × (Ob))))))) (k (Ex.exit 0) ((St.mk (slots 0 51 []) ([] : (List (Nat × (Ob)))))))
def sTag_G5 (n : Nat) (d : sTag_p5.D) : KT → Option Rs := sTag_E5 (sTag_F5 n d.1.1 d.1.2.1)
def sTag_L (N : Nat) : Lam := lamOf [⟨5, sTag_p5, sTag_G5 N⟩]
theorem sTag_ok5 (N : Nat) : OkL Kx sTag_C.s sTag_O 0 N (sTag_L N) sTag_b5 := okL sTag_p5 (sTag_G5) (fun d kR => sTag_E5 (sTag_T5 d.1.1 d.1.2.1 (fun v5x0 v5x1 => kR ((v5x0, v5x1, ()), ())))) (fun _ _ => by kernel_rfl) (fun _ _ _ => by kernel_rfl) (fun _ _ => by kernel_rfl) (fun _ _ _ _ => by kernel_rfl) (okEach (l' := []) (by kernel_rfl) trivial)
def sTag_run (N : Nat) (s : Bytes) : Option Rs := (bif (decide (190 < (s.length : Int))) then (some ((AV.bool false), [])) else (bif (decide (((List.length (strongP s)) : Int) < 2)) then (some ((AV.bool false), [])) else (bif (decide (0 < ((List.length (strongP s)) : Int))) then (bif (!(decide ((strAt (strongP s) 0) = 34))) then (some ((AV.bool false), [])) else (bif (decide (0 ≤ (wk64 (((List.length (strongP s)) : Int) - 1)))) then (bif (decide ((wk64 (((List.length (strongP s)) : Int) - 1)) < ((List.length (strongP s)) : Int))) then (bif (!(decide ((strAt (strongP s) (wk64 (((List.length (strongP s)) : Int) - 1))) = 34))) then (some ((AV.bool false), [])) else (sTag_F5 N (strongP s) 1 (some ((AV.bool false), [])) (some ((AV.bool true), [])))) else (none)) else (none))) else (none))))
def sTag_sOf (φ : Bytes → Br) : List AV → List Ob → Br
  | [.str s], [] => φ s
  | _, _ => .fail
theorem sTag_okOf {φ : Bytes → Br} (fu : Bytes → Nat) (hv : ∀ s res_, (φ s).val = some res_ → sTag_run (fu s) s = some res_) : Sound Kx 36 (sTag_sOf φ) := sound_lp (C := sTag_C) (O := sTag_O) Tryz.func36 (by kernel_rfl) fun args objs => by
  unfold sTag_sOf; split
  · rename_i s; exact .inr fun _ hyp_ => run_lp (Λ := sTag_L (fu s)) (by kernel_rfl) (okEach (l' := [sTag_b5]) (by kernel_rfl) ⟨sTag_ok5 _, trivial⟩) (by kernel_rfl) (hv s _ hyp_)
  · exact .inl rfl

theorem allTag_loop (l : Bytes) (hl : l.length ≤ 4611686018427387904) (k0 k1 : Option Rs) : ∀ (r : Bytes) (i : Int) (n : Nat), At l i r → r.length < n → allTag_F2 n l i k0 k1 = bif allP tagBy r then k1 else k0 := by
  intro r; induction r with
  | nil => intro i n h hn; obtain ⟨n, rfl⟩ := fuel hn; unfold allTag_F2 allTag_T2; simp only [h.dge, cond_false, allP, List.all_nil, cond_true]
  | cons a r ih =>
    intro i n h hn; obtain ⟨n, rfl⟩ := fuel hn
    have hs := ih (i + 1) n h.step (by simp at hn; omega)
    unfold allTag_F2 allTag_T2; simp only [h.dlt, h.dnn, h.str, cond_true, h.next hl, hs, allP, List.all_cons]
    cases tagBy (by8 a) <;> rfl
def allTag_s := allTag_sOf fun s => .ite (isM s) (.ret (.bool (allP tagBy s)) []) .fail
theorem allTag_okQ : Sound Kx 92 allTag_s := by
  refine allTag_okOf (fun s => s.length + 1) fun s r h => ?_
  obtain ⟨h1, h2⟩ := ite_some h
  unfold allTag_run
  rw [allTag_loop s (isM_le h1) _ _ s 0 _ (At.start s) (by omega), ← h2]
  cases allP tagBy s <;> rfl
theorem iDateIn_okQ : Sound Kx 41 dt2_s := iDateIn_ok.of fun args objs r h => by
  unfold dt2_s at h; split at h
  · rename_i l name
    obtain ⟨h1, h2⟩ := ite_some h
    cases h2
    show (iDateIn_br l name).val = some (.tup [.int .i64 (dtP l name).1, .bool (dtP l name).2], [])
    unfold iDateIn_br
    rw [h1, dtP_eq]; rfl
  · cases h
def tagP (s : Bytes) : Bool :=
  bif decide (190 < (s.length : Int)) then false else bif decide (((strongP s).length : Int) < 2) then false else bif !decide (strAt (strongP s) 0 = 34) then false
  else bif !decide (strAt (strongP s) (((strongP s).length : Int) - 1) = 34) then false else allP tagBy (Ev.cut (strongP s) 1 (((strongP s).length : Int) - 1))
theorem sTag_loop (t : Bytes) (hl : t.length ≤ 1000000) (z : UInt8) (k0 k1 : Option Rs) : ∀ (r : Bytes) (i : Int) (n : Nat), At t i (r ++ [z]) → r.length < n → sTag_F5 n t i k0 k1 = bif allP tagBy r then k1 else k0 := by
  intro r; induction r with
  | nil =>
    intro i n h hn; obtain ⟨n, rfl⟩ := fuel hn
    have hle := h.le
    simp only [List.nil_append, List.length_singleton] at hle
    have hnn := h.nn
    unfold sTag_F5 sTag_T5
    rw [w64 (n := (t.length : Int) - 1) (by omega) (by omega), decide_eq_false (by omega)]; rfl
  | cons c r ih =>
    intro i n h hn; obtain ⟨n, rfl⟩ := fuel hn
    rw [List.cons_append] at h
    have hle := h.le
    simp only [List.length_cons, List.length_append, List.length_nil] at hle hn
    have hnn := h.nn
    have hr := ih (i + 1) n h.step (by omega)
    unfold sTag_F5 sTag_T5
    rw [w64 (n := (t.length : Int) - 1) (by omega) (by omega), decide_eq_true (show i < (t.length : Int) - 1 by omega)]
    simp only [h.dlt, h.dnn, h.str, cond_true, h.next (show t.length ≤ 4611686018427387904 by omega), hr]
    have ea : allP tagBy (c :: r) = (tagBy (by8 c) && allP tagBy r) := rfl
    rw [ea]
    unfold tagBy
    by_cases c1 : by8 c ≤ 32
    · rw [decide_eq_true c1, decide_eq_false (show ¬ 32 < by8 c by omega)]; rfl
    · rw [decide_eq_false c1, decide_eq_true (show 32 < by8 c by omega)]
      cases decide (by8 c = 127) <;> cases decide (by8 c = 34) <;> cases allP (fun b => decide (32 < b) && !decide (b = 34) && !decide (b = 127)) r <;> rfl
theorem ends_of (t : Bytes) (h : 2 ≤ t.length) : ∃ c mid z, t = c :: (mid ++ [z]) := by
  match t, h with
  | c :: t', h =>
    have hn : t' ≠ [] := fun e => by subst e; simp at h
    exact ⟨c, t'.dropLast, t'.getLast hn, by rw [List.dropLast_concat_getLast]⟩
theorem cut_mid1 (c z : UInt8) (mid : Bytes) : Ev.cut (c :: (mid ++ [z])) 1 (((c :: (mid ++ [z])).length : Int) - 1) = mid := by
  unfold Ev.cut
  have e : (((c :: (mid ++ [z])).length : Int) - 1).toNat = mid.length + 1 := by simp only [List.length_cons, List.length_append, List.length_nil]; omega
  rw [e]
  simp
def tg_s : List AV → List Ob → Br
  | [.str s], [] => .ret (.bool (tagP s)) []
  | _, _ => .fail
theorem sTag_okQ : Sound Kx 36 tg_s := by
  refine (sTag_okOf (φ := fun s => .ret (.bool (tagP s)) []) (fun s => s.length + 5) fun s r h => ?_).of fun args objs r h => ?_
  · cases h
    unfold sTag_run tagP
    by_cases c1 : 190 < (s.length : Int)
    · rw [decide_eq_true c1]; rfl
    rw [decide_eq_false c1]
    have hsl := strong_len s
    generalize strongP s = t at *
    by_cases c2 : (t.length : Int) < 2
    · rw [decide_eq_true c2]; rfl
    rw [decide_eq_false c2, decide_eq_true (show (0 : Int) < (t.length : Int) by omega), w64 (n := (t.length : Int) - 1) (by omega) (by omega), decide_eq_true (show (0 : Int) ≤ (t.length : Int) - 1 by omega), decide_eq_true (show (t.length : Int) - 1 < (t.length : Int) by omega)]
    obtain ⟨c, mid, z, rfl⟩ := ends_of t (by omega)
    have hat : At (c :: (mid ++ [z])) 1 (mid ++ [z]) := (At.start (c :: (mid ++ [z]))).step
    rw [sTag_loop (c :: (mid ++ [z])) (by omega) z _ _ mid 1 (s.length + 5) hat (by simp only [List.length_cons, List.length_append, List.length_nil] at hsl; omega), cut_mid1]
    cases decide (strAt (c :: (mid ++ [z])) 0 = 34) <;> cases decide (strAt (c :: (mid ++ [z])) (((c :: (mid ++ [z])).length : Int) - 1) = 34) <;> cases allP tagBy mid <;> rfl
  · unfold tg_s at h; split at h
    · exact h
    · cases h

def iTag_C : SC := [⟨91, _, tpx_okQ⟩, ⟨92, _, allTag_okQ⟩]
def iTag_br (s : Bytes) : Br := (Br.ite (decide (190 < (s.length : Int))) (Br.ret (AV.bool false) []) (Br.ite (decide (((List.length (tpP s ([87, 47] : Bytes))) : Int) < 2)) (Br.ret (AV.bool false) []) (Br.ite (decide (0 < ((List.length (tpP s ([87, 47] : Bytes))) : Int))) (Br.ite (!(decide ((strAt (tpP s ([87, 47] : Bytes)) 0) = 34))) (Br.ret (AV.bool false) []) (Br.ite (decide (0 ≤ (wk64 (((List.length (tpP s ([87, 47] : Bytes))) : Int) - 1)))) (Br.ite (decide ((wk64 (((List.length (tpP s ([87, 47] : Bytes))) : Int) - 1)) < ((List.length (tpP s ([87, 47] : Bytes))) : Int))) (Br.ite (!(decide ((strAt (tpP s ([87, 47] : Bytes)) (wk64 (((List.length (tpP s ([87, 47] : Bytes))) : Int) - 1))) = 34))) (Br.ret (AV.bool false) []) (Br.ite (decide (1 ≤ (wk64 (((List.length (tpP s ([87, 47] : Bytes))) : Int) - 1)))) (Br.ite (decide ((wk64 (((List.length (tpP s ([87, 47] : Bytes))) : Int) - 1)) ≤ ((List.length (tpP s ([87, 47] : Bytes))) : Int))) (Br.ite (isM (cut (tpP s ([87, 47] : Bytes)) 1 (wk64 (((List.length (tpP s ([87, 47] : Bytes))) : Int) - 1)))) (Br.ret (AV.bool (allP tagBy (cut (tpP s ([87, 47] : Bytes)) 1 (wk64 (((List.length (tpP s ([87, 47] : Bytes))) : Int) - 1))))) []) Br.fail) Br.fail) Br.fail)) Br.fail) Br.fail)) Br.fail)))
def iTag_s : List AV → List Ob → Br
  | [.str s], [] => iTag_br s
  | _, _ => .fail
theorem iTag_ok : Sound Kx 40 iTag_s := sound_br (C := iTag_C) (O := O0) Tryz.func40 (by kernel_rfl) fun args objs => by
  unfold iTag_s; split
  · exact .inr (by kernel_rfl)
  · exact .inl rfl

theorem cut_lenB (l : Bytes) (a b : Int) : (Ev.cut l a b).length ≤ l.length := by
  unfold Ev.cut; rw [List.length_drop, List.length_take]; omega
theorem iTag_okQ : Sound Kx 40 tg_s := iTag_ok.of fun args objs r h => by
  unfold tg_s at h; split at h
  · rename_i s
    cases h
    show (iTag_br s).val = some (.bool (tagP s), [])
    unfold iTag_br tagP
    have e : tpP s [87, 47] = strongP s := rfl
    rw [e]
    by_cases c1 : 190 < (s.length : Int)
    · rw [decide_eq_true c1]; rfl
    rw [decide_eq_false c1]
    have hsl := strong_len s
    generalize strongP s = t at *
    by_cases c2 : (t.length : Int) < 2
    · rw [decide_eq_true c2]; rfl
    have hM : isM (Ev.cut t 1 ((t.length : Int) - 1)) = true := isM_of (n := 1000) (by have := cut_lenB t 1 ((t.length : Int) - 1); omega)
    rw [decide_eq_false c2, decide_eq_true (show (0 : Int) < (t.length : Int) by omega), w64 (n := (t.length : Int) - 1) (by omega) (by omega), decide_eq_true (show (0 : Int) ≤ (t.length : Int) - 1 by omega), decide_eq_true (show (t.length : Int) - 1 < (t.length : Int) by omega),
      decide_eq_true (show (1 : Int) ≤ (t.length : Int) - 1 by omega), decide_eq_true (show (t.length : Int) - 1 ≤ (t.length : Int) by omega), hM]
    cases decide (strAt t 0 = 34) <;> cases decide (strAt t ((t.length : Int) - 1) = 34) <;> rfl
  · cases h

def sVali_O : Opt := { split := true }
def sVali_C : SC := [⟨34, _, sEntryOk_okQ⟩, ⟨35, _, sGet_okQ⟩, ⟨36, _, sTag_okQ⟩, ⟨37, _, sRead_okQ⟩]
abbrev sVali_c1 (ur : Bytes) (t1 t2 : Int) (ak : List Fd) (me ta : Bytes) (st : Int) (re : Bytes) (ba : Bool) (fs : List Fd) (bo : Bytes) := (List.set (List.replicate 1 (([] : Bytes), ([] : Bytes))) 0 (([73, 102, 45, 77, 111, 100, 105, 102, 105, 101, 100, 45, 83, 105, 110, 99, 101] : Bytes), (List.getD (vals fs ([108, 97, 115, 116, 45, 109, 111, 100, 105, 102, 105, 101, 100] : Bytes)) 0 ([] : Bytes))))
abbrev sVali_c2 (ur : Bytes) (t1 t2 : Int) (ak : List Fd) (me ta : Bytes) (st : Int) (re : Bytes) (ba : Bool) (fs : List Fd) (bo : Bytes) := (List.set (List.replicate 1 (([] : Bytes), ([] : Bytes))) 0 (([73, 102, 45, 78, 111, 110, 101, 45, 77, 97, 116, 99, 104] : Bytes), (List.getD (vals fs ([101, 116, 97, 103] : Bytes)) 0 ([] : Bytes))))
abbrev sVali_c3 (ur : Bytes) (t1 t2 : Int) (ak : List Fd) (me ta : Bytes) (st : Int) (re : Bytes) (ba : Bool) (fs : List Fd) (bo : Bytes) := (Br.ite (hasP fs ([108, 97, 115, 116, 45, 109, 111, 100, 105, 102, 105, 101, 100] : Bytes)) (Br.ite (dateR (List.getD (vals fs ([108, 97, 115, 116, 45, 109, 111, 100, 105, 102, 105, 101, 100] : Bytes)) 0 ([] : Bytes))).2 (Br.ite (decide (((List.length (sVali_c1 ur t1 t2 ak me ta st re ba fs bo)) * 32) ≤ 140737488355328)) (Br.ret (AV.ref 0 0) ((Ob.arr (Ty.pair Ty.str Ty.str) 0 false (sVali_c1 ur t1 t2 ak me ta st re ba fs bo)) :: [])) Br.fail) (Br.ret (AV.ref 0 0) ((Ob.arr (Ty.pair Ty.str Ty.str) 0 false ([] : (List Fd))) :: []))) (Br.ret (AV.ref 0 0) ((Ob.arr (Ty.pair Ty.str Ty.str) 0 false ([] : (List Fd))) :: [])))
def sVali_br (ur : Bytes) (t1 t2 : Int) (ak : List Fd) (me ta : Bytes) (st : Int) (re : Bytes) (ba : Bool) (fs : List Fd) (bo : Bytes) : Br := (Br.ite (isM ur) (Br.ite (!(entP (ur, (t1, (t2, (ak, (me, (ta, (st, (re, (ba, (fs, bo)))))))))))) (Br.ret (AV.ref 0 0) ((Ob.arr (Ty.pair Ty.str Ty.str) 0 false ([] : (List Fd))) :: [])) (Br.ite (hasP fs ([101, 116, 97, 103] : Bytes)) (Br.ite (tagP (List.getD (vals fs ([101, 116, 97, 103] : Bytes)) 0 ([] : Bytes))) (Br.ite (decide (((List.length (sVali_c2 ur t1 t2 ak me ta st re ba fs bo)) * 32) ≤ 140737488355328)) (Br.ite (hasP fs ([108, 97, 115, 116, 45, 109, 111, 100, 105, 102, 105, 101, 100] : Bytes)) (Br.ite (dateR (List.getD (vals fs ([108, 97, 115, 116, 45, 109, 111, 100, 105, 102, 105, 101, 100] : Bytes)) 0 ([] : Bytes))).2 (Br.ite (decide ((((List.length (sVali_c2 ur t1 t2 ak me ta st re ba fs bo)) + (List.length (sVali_c1 ur t1 t2 ak me ta st re ba fs bo))) * 32) ≤ 140737488355328)) (Br.ret (AV.ref 0 0) ((Ob.arr (Ty.pair Ty.str Ty.str) 0 false ((sVali_c2 ur t1 t2 ak me ta st re ba fs bo) ++ (sVali_c1 ur t1 t2 ak me ta st re ba fs bo))) :: [])) Br.fail) (Br.ret (AV.ref 0 0) ((Ob.arr (Ty.pair Ty.str Ty.str) 0 false (sVali_c2 ur t1 t2 ak me ta st re ba fs bo)) :: []))) (Br.ret (AV.ref 0 0) ((Ob.arr (Ty.pair Ty.str Ty.str) 0 false (sVali_c2 ur t1 t2 ak me ta st re ba fs bo)) :: []))) Br.fail) (sVali_c3 ur t1 t2 ak me ta st re ba fs bo)) (sVali_c3 ur t1 t2 ak me ta st re ba fs bo))) Br.fail)
def sVali_s : List AV → List Ob → Br
  | [.agg [.str ur, .int .i64 t1, .int .i64 t2, .sh (.pair .str .str) ak, .str me, .str ta, .int .i64 st, .str re, .bool ba, .sh (.pair .str .str) fs, .str bo]], [] => sVali_br ur t1 t2 ak me ta st re ba fs bo
  | _, _ => .fail
theorem sVali_ok : Sound Kx 8 sVali_s := sound_br (C := sVali_C) (O := sVali_O) Tryz.func8 (by kernel_rfl) fun args objs => by
  unfold sVali_s; split
  · exact .inr (by kernel_rfl)
  · exact .inl rfl

def iVali_O : Opt := { split := true }
def iVali_C : SC := [⟨38, _, iEntryOk_okQ⟩, ⟨39, _, iGet_okQ⟩, ⟨40, _, iTag_okQ⟩, ⟨41, _, iDateIn_okQ⟩]
abbrev iVali_c1 (ur : Bytes) (t1 t2 : Int) (ak : List Fd) (me ta : Bytes) (st : Int) (re : Bytes) (ba : Bool) (fs : List Fd) (bo : Bytes) := (List.set (List.replicate 1 (([] : Bytes), ([] : Bytes))) 0 (([73, 102, 45, 77, 111, 100, 105, 102, 105, 101, 100, 45, 83, 105, 110, 99, 101] : Bytes), (List.getD (vals fs ([108, 97, 115, 116, 45, 109, 111, 100, 105, 102, 105, 101, 100] : Bytes)) 0 ([] : Bytes))))
abbrev iVali_c2 (ur : Bytes) (t1 t2 : Int) (ak : List Fd) (me ta : Bytes) (st : Int) (re : Bytes) (ba : Bool) (fs : List Fd) (bo : Bytes) := (List.set (List.replicate 1 (([] : Bytes), ([] : Bytes))) 0 (([73, 102, 45, 78, 111, 110, 101, 45, 77, 97, 116, 99, 104] : Bytes), (List.getD (vals fs ([101, 116, 97, 103] : Bytes)) 0 ([] : Bytes))))
abbrev iVali_c3 (ur : Bytes) (t1 t2 : Int) (ak : List Fd) (me ta : Bytes) (st : Int) (re : Bytes) (ba : Bool) (fs : List Fd) (bo : Bytes) := (Br.ite (dtP fs ([108, 97, 115, 116, 45, 109, 111, 100, 105, 102, 105, 101, 100] : Bytes)).2 (Br.ite (decide (((List.length (iVali_c1 ur t1 t2 ak me ta st re ba fs bo)) * 32) ≤ 140737488355328)) (Br.ret (AV.ref 0 0) ((Ob.arr (Ty.pair Ty.str Ty.str) 0 false (iVali_c1 ur t1 t2 ak me ta st re ba fs bo)) :: [])) Br.fail) (Br.ret (AV.ref 0 0) ((Ob.arr (Ty.pair Ty.str Ty.str) 0 false ([] : (List Fd))) :: [])))
def iVali_br (ur : Bytes) (t1 t2 : Int) (ak : List Fd) (me ta : Bytes) (st : Int) (re : Bytes) (ba : Bool) (fs : List Fd) (bo : Bytes) : Br := (Br.ite (isM ur) (Br.ite (!(entP (ur, (t1, (t2, (ak, (me, (ta, (st, (re, (ba, (fs, bo)))))))))))) (Br.ret (AV.ref 0 0) ((Ob.arr (Ty.pair Ty.str Ty.str) 0 false ([] : (List Fd))) :: [])) (Br.ite (hasP fs ([101, 116, 97, 103] : Bytes)) (Br.ite (tagP (List.getD (vals fs ([101, 116, 97, 103] : Bytes)) 0 ([] : Bytes))) (Br.ite (decide (((List.length (iVali_c2 ur t1 t2 ak me ta st re ba fs bo)) * 32) ≤ 140737488355328)) (Br.ite (dtP fs ([108, 97, 115, 116, 45, 109, 111, 100, 105, 102, 105, 101, 100] : Bytes)).2 (Br.ite (decide ((((List.length (iVali_c2 ur t1 t2 ak me ta st re ba fs bo)) + (List.length (iVali_c1 ur t1 t2 ak me ta st re ba fs bo))) * 32) ≤ 140737488355328)) (Br.ret (AV.ref 0 0) ((Ob.arr (Ty.pair Ty.str Ty.str) 0 false ((iVali_c2 ur t1 t2 ak me ta st re ba fs bo) ++ (iVali_c1 ur t1 t2 ak me ta st re ba fs bo))) :: [])) Br.fail) (Br.ret (AV.ref 0 0) ((Ob.arr (Ty.pair Ty.str Ty.str) 0 false (iVali_c2 ur t1 t2 ak me ta st re ba fs bo)) :: []))) Br.fail) (iVali_c3 ur t1 t2 ak me ta st re ba fs bo)) (iVali_c3 ur t1 t2 ak me ta st re ba fs bo))) Br.fail)
def iVali_s : List AV → List Ob → Br
  | [.agg [.str ur, .int .i64 t1, .int .i64 t2, .sh (.pair .str .str) ak, .str me, .str ta, .int .i64 st, .str re, .bool ba, .sh (.pair .str .str) fs, .str bo]], [] => iVali_br ur t1 t2 ak me ta st re ba fs bo
  | _, _ => .fail
theorem iVali_ok : Sound Kx 10 iVali_s := sound_br (C := iVali_C) (O := iVali_O) Tryz.func10 (by kernel_rfl) fun args objs => by
  unfold iVali_s; split
  · exact .inr (by kernel_rfl)
  · exact .inl rfl

def nLM : Bytes := [108, 97, 115, 116, 45, 109, 111, 100, 105, 102, 105, 101, 100]
def nET : Bytes := [101, 116, 97, 103]

end
end Go.Proofs.YtdknaddanjpdaaaGreatDoor.Ev

namespace Go.Proofs.YtdknaddanjpdaaaGreatDoor.Ev
open Go Go.RowKit
set_option linter.unusedVariables false
set_option linter.unusedSimpArgs false
noncomputable section

end
end Go.Proofs.YtdknaddanjpdaaaGreatDoor.Ev

namespace Go.Proofs.YtdknaddanjpdaaaGreatDoor.Ev
open Go Go.RowKit
set_option linter.unusedVariables false
set_option linter.unusedSimpArgs false
noncomputable section

end
end Go.Proofs.YtdknaddanjpdaaaGreatDoor.Ev

namespace Go.Proofs.YtdknaddanjpdaaaGreatDoor.Ev
open Go Go.RowKit
set_option linter.unusedVariables false
set_option linter.unusedSimpArgs false
end Go.Proofs.YtdknaddanjpdaaaGreatDoor.Ev

namespace Go.Proofs.YtdknaddanjpdaaaGreatDoor.Ev
open Go Go.RowKit
set_option linter.unusedVariables false
set_option linter.unusedSimpArgs false
noncomputable section

def heldFieldS_O : Opt := { live := [(2, [0, 1, 5])], outs := [(2, [1, 4])] }
def heldFieldS_C : SC := [⟨43, _, markText_okQ⟩]
def heldFieldS_T2 (v2x0 : (List Fd)) (v2x1 v2x2 : Int) (kR2 : (List Fd) → Int → Int → Option Rs) (k2e0 k2e1 : Int → Option Rs) : Option Rs :=
  (bif (decide (v2x2 < (v2x0.length : Int))) then (bif (decide (0 ≤ v2x2)) then (bif (decide (v2x2 < (v2x0.length : Int))) then (bif ((decide (0 < v2x1)) && (decide (v2x1 ≤ 100000000))) then (bif (!(decide ((List.getD v2x0 (Int.toNat v2x2) (([] : Bytes), ([] : Bytes))).1 = (mtP v2x1)))) then (k2e0 v2x1) else (bif (decide (0 ≤ v2x2)) then (bif (decide (v2x2 < (v2x0.length : Int))) then (bif ((decide (0 < (wk64 (v2x1 + 1)))) && (decide ((wk64 (v2x1 + 1)) ≤ 100000000))) then (bif (!(decide ((List.getD v2x0 (Int.toNat v2x2) (([] : Bytes), ([] : Bytes))).2 = (mtP (wk64 (v2x1 + 1)))))) then (k2e0 (wk64 (v2x1 + 1))) else (kR2 v2x0 (wk64 ((wk64 (v2x1 + 1)) + 1)) (wk64 (v2x2 + 1)))) else (none)) else (none)) else (none))) else (none)) else (none)) else (none)) else (k2e1 v2x1))
def heldFieldS_F2 : Nat → (List Fd) → Int → Int → (Int → Option Rs) → (Int → Option Rs) → Option Rs
  | 0, _, _, _, _, _ => none
  | n + 1, v2x0, v2x1, v2x2, k2e0, k2e1 => heldFieldS_T2 v2x0 v2x1 v2x2 (fun v2x0 v2x1 v2x2 => heldFieldS_F2 n v2x0 v2x1 v2x2 k2e0 k2e1) k2e0 k2e1
abbrev heldFieldS_p2 : SP := ⟨33, [0, 1, 5], [(.v (.sh (Ty.pair Ty.str Ty.str))), (.v (.i .i64)), (.v (.i .i64))], []⟩
noncomputable def heldFieldS_b2 : Code := codeAt (codeOf Tryz.f15) [1, 0, 1, 0, 0]
def heldFieldS_E2 (f : (Int → Option Rs) → (Int → Option Rs) → Option Rs) (k : KT) : Option Rs := f (fun x2x0x0 => k Ex.ret ((St.mk (slots 0 33 [(1, (AV.int .i64 x2x0x0)), (4, (AV.int .i64 (-1)))]) ([] : (List (Nat × (Ob))))))) (fun x2x1x0 => k (Ex.exit 0) ((St.mk (slots 0 33 [(1, (AV.int .i64 x2x1x0))]) ([] : (List (Nat × (Ob)))))))
def heldFieldS_G2 (n : Nat) (d : heldFieldS_p2.D) : KT → Option Rs := heldFieldS_E2 (heldFieldS_F2 n d.1.1 d.1.2.1 d.1.2.2.1)
def heldFieldS_L (N : Nat) : Lam := lamOf [⟨2, heldFieldS_p2, heldFieldS_G2 N⟩]
theorem heldFieldS_ok2 (N : Nat) : OkL Kx heldFieldS_C.s heldFieldS_O 0 N (heldFieldS_L N) heldFieldS_b2 := okL heldFieldS_p2 (heldFieldS_G2) (fun d kR => heldFieldS_E2 (heldFieldS_T2 d.1.1 d.1.2.1 d.1.2.2.1 (fun v2x0 v2x1 v2x2 => kR ((v2x0, v2x1, v2x2, ()), ())))) (fun _ _ => by kernel_rfl) (fun _ _ _ => by kernel_rfl) (fun _ _ => by kernel_rfl) (fun _ _ _ _ => by kernel_rfl) (okEach (l' := []) (by kernel_rfl) trivial)
def heldFieldS_run (N : Nat) (l : List Fd) (k : Int) : Option Rs := (heldFieldS_F2 N l k 0 (fun x2x0x0 => (some ((AV.int .i64 (-1)), []))) (fun x2x1x0 => (some ((AV.int .i64 x2x1x0), []))))
def heldFieldS_sOf (φ : (List Fd) → Int → Br) : List AV → List Ob → Br
  | [.sh (.pair .str .str) l, .int .i64 k], [] => φ l k
  | _, _ => .fail
theorem heldFieldS_okOf {φ : (List Fd) → Int → Br} (fu : (List Fd) → Int → Nat) (hv : ∀ l k res_, (φ l k).val = some res_ → heldFieldS_run (fu l k) l k = some res_) : Sound Kx 15 (heldFieldS_sOf φ) := sound_lp (C := heldFieldS_C) (O := heldFieldS_O) Tryz.func15 (by kernel_rfl) fun args objs => by
  unfold heldFieldS_sOf; split
  · rename_i l k; exact .inr fun _ hyp_ => run_lp (Λ := heldFieldS_L (fu l k)) (by kernel_rfl) (okEach (l' := [heldFieldS_b2]) (by kernel_rfl) ⟨heldFieldS_ok2 _, trivial⟩) (by kernel_rfl) (hv l k _ hyp_)
  · exact .inl rfl

def markMsg_O : Opt := { mutF := [14] }
def markMsg_C : SC := [⟨14, _, markFieldS_okQ⟩]
def markMsg_br (me ta : Bytes) (st : Int) (re : Bytes) (ba : Bool) (fs : List Fd) (bo : Bytes) (k : Int) : Br := (Br.ite ((decide (0 < k)) && (decide ((k + (2 * (fs.length : Int))) ≤ 100000000))) (Br.ret (AV.int .i64 (k + (2 * (fs.length : Int)))) ((Ob.arr (Ty.pair Ty.str Ty.str) 0 false (marksF fs.length k)) :: [])) Br.fail)
def markMsg_s : List AV → List Ob → Br
  | [.agg [.str me, .str ta, .int .i64 st, .str re, .bool ba, .ref 0 0, .str bo], .int .i64 k], [.arr (.pair .str .str) 0 false fs] => markMsg_br me ta st re ba fs bo k
  | _, _ => .fail
theorem markMsg_ok : Sound Kx 32 markMsg_s := sound_br (C := markMsg_C) (O := markMsg_O) Tryz.func32 (by kernel_rfl) fun args objs => by
  unfold markMsg_s; split
  · exact .inr (by kernel_rfl)
  · exact .inl rfl

def markEntry_O : Opt := { mutF := [14,32] }
def markEntry_C : SC := [⟨14, _, markFieldS_okQ⟩, ⟨32, _, markMsg_ok⟩]
def markEntry_br (ur : Bytes) (t1 t2 : Int) (ak : List Fd) (me ta : Bytes) (st : Int) (re : Bytes) (ba : Bool) (fs : List Fd) (bo : Bytes) (k : Int) : Br := (Br.ite ((decide (0 < k)) && (decide ((k + (2 * (ak.length : Int))) ≤ 100000000))) (Br.ite ((decide (0 < (k + (2 * (ak.length : Int))))) && (decide (((k + (2 * (ak.length : Int))) + (2 * (fs.length : Int))) ≤ 100000000))) (Br.ret (AV.int .i64 ((k + (2 * (ak.length : Int))) + (2 * (fs.length : Int)))) ((Ob.arr (Ty.pair Ty.str Ty.str) 0 false (marksF ak.length k)) :: ((Ob.arr (Ty.pair Ty.str Ty.str) 0 false (marksF fs.length (k + (2 * (ak.length : Int))))) :: []))) Br.fail) Br.fail)
def markEntry_s : List AV → List Ob → Br
  | [.agg [.str ur, .int .i64 t1, .int .i64 t2, .ref 0 0, .str me, .str ta, .int .i64 st, .str re, .bool ba, .ref 1 0, .str bo], .int .i64 k], [.arr (.pair .str .str) 0 false ak, .arr (.pair .str .str) 0 false fs] => markEntry_br ur t1 t2 ak me ta st re ba fs bo k
  | _, _ => .fail
theorem markEntry_ok : Sound Kx 13 markEntry_s := sound_br (C := markEntry_C) (O := markEntry_O) Tryz.func13 (by kernel_rfl) fun args objs => by
  unfold markEntry_s; split
  · exact .inr (by kernel_rfl)
  · exact .inl rfl

theorem heldFieldS_loop (l : List Fd) (hl : l.length ≤ 50000000) (k0 k1 : Int → Option Rs) : ∀ (r : List Fd) (k i : Int) (n : Nat), At l i r → r.length < n → 0 < k → k + 2 * r.length ≤ 100000000 → r = marksF r.length k →
    heldFieldS_F2 n l k i k0 k1 = k1 (k + 2 * r.length) := by
  intro r; induction r with
  | nil => intro k i n h hn h0 h1 he; obtain ⟨n, rfl⟩ := fuel hn; unfold heldFieldS_F2 heldFieldS_T2; rw [h.dge, cond_false]; simp
  | cons a r ih =>
    intro k i n h hn h0 h1 he; obtain ⟨n, rfl⟩ := fuel hn
    simp only [List.length_cons, marksF, List.cons.injEq] at he hn h1
    obtain ⟨he, hr⟩ := he
    subst he
    have hw : wk64 (k + 1) = k + 1 := w64 (by omega) (by omega)
    have hw2 : wk64 (k + 1 + 1) = k + 1 + 1 := w64 (by omega) (by omega)
    have hg : (decide (0 < k) && decide (k ≤ 100000000)) = true := by rw [decide_eq_true h0, decide_eq_true (by omega)]; rfl
    have hg2 : (decide (0 < k + 1) && decide (k + 1 ≤ 100000000)) = true := by rw [decide_eq_true (by omega), decide_eq_true (by omega)]; rfl
    unfold heldFieldS_F2 heldFieldS_T2
    simp only [h.dlt, h.dnn, h.get, hg, hg2, hw, hw2, h.next (by omega), cond_true, cond_false, decide_true, Bool.not_true]
    rw [ih (k + 1 + 1) (i + 1) n h.step (by omega) (by omega) (by omega) hr]
    congr 1
    simp only [List.length_cons]; omega
def hdF_s : List AV → List Ob → Br
  | [.sh (.pair .str .str) l, .int .i64 k], [] => .ite (decide (0 < k) && decide (k + 2 * l.length ≤ 100000000) && decide (l = marksF l.length k)) (.ret (.int .i64 (k + 2 * l.length)) []) .fail
  | _, _ => .fail
theorem heldFieldS_okQ : Sound Kx 15 hdF_s := by
  refine (heldFieldS_okOf (φ := fun l k => .ite (decide (0 < k) && decide (k + 2 * l.length ≤ 100000000) && decide (l = marksF l.length k)) (.ret (.int .i64 (k + 2 * l.length)) []) .fail) (fun l _ => l.length + 1) fun l k r h => ?_).of fun args objs r h => ?_
  · obtain ⟨h1, h2⟩ := ite_some h
    cases h2
    rw [Bool.and_eq_true, Bool.and_eq_true, decide_eq_true_eq, decide_eq_true_eq, decide_eq_true_eq] at h1
    unfold heldFieldS_run
    exact heldFieldS_loop l (by omega) _ _ l k 0 _ (At.start l) (by omega) h1.1.1 h1.1.2 h1.2
  · unfold hdF_s at h; split at h
    · exact h
    · cases h
def mkE_s : List AV → List Ob → Br
  | [.agg [.str ur, .int .i64 t1, .int .i64 t2, .ref 0 0, .str me, .str ta, .int .i64 st, .str re, .bool ba, .ref 1 0, .str bo], .int .i64 k], [.arr (.pair .str .str) 0 false ak, .arr (.pair .str .str) 0 false fs] =>
    .ite (decide (0 < k) && decide (k + 2 * ak.length + 2 * fs.length ≤ 100000000)) (.ret (.int .i64 (k + 2 * ak.length + 2 * fs.length)) [.arr (.pair .str .str) 0 false (marksF ak.length k), .arr (.pair .str .str) 0 false (marksF fs.length (k + 2 * ak.length))]) .fail
  | _, _ => .fail
theorem markEntry_okQ : Sound Kx 13 mkE_s := markEntry_ok.of fun args objs r h => by
  unfold mkE_s at h; split at h
  · obtain ⟨h1, h2⟩ := ite_some h
    cases h2
    rw [Bool.and_eq_true, decide_eq_true_eq, decide_eq_true_eq] at h1
    refine (val_t ?_).trans (val_t ?_)
    · rw [decide_eq_true h1.1, decide_eq_true (by omega)]; rfl
    · rw [decide_eq_true (by omega), decide_eq_true (by omega)]; rfl
  · cases h
def kINM : Bytes := [73, 102, 45, 78, 111, 110, 101, 45, 77, 97, 116, 99, 104]
def kIMS : Bytes := [73, 102, 45, 77, 111, 100, 105, 102, 105, 101, 100, 45, 83, 105, 110, 99, 101]
def valF (fs : List Fd) : List Fd := (bif hasP fs nET && tagP ((vals fs nET).getD 0 []) then [(kINM, (vals fs nET).getD 0 [])] else []) ++ (bif (dtP fs nLM).2 then [(kIMS, (vals fs nLM).getD 0 [])] else [])
def valP (e : En) : List Fd := bif entP e then valF e.2.2.2.2.2.2.2.2.2.1 else []
theorem valP_len (e : En) : (valP e).length ≤ 2 := by
  unfold valP valF
  cases entP e
  · simp
  · rw [cond_true, List.length_append]
    cases hasP e.2.2.2.2.2.2.2.2.2.1 nET && tagP ((vals e.2.2.2.2.2.2.2.2.2.1 nET).getD 0 []) <;> cases (dtP e.2.2.2.2.2.2.2.2.2.1 nLM).2 <;> simp
def va_s : List AV → List Ob → Br
  | [.agg [.str ur, .int .i64 t1, .int .i64 t2, .sh (.pair .str .str) ak, .str me, .str ta, .int .i64 st, .str re, .bool ba, .sh (.pair .str .str) fs, .str bo]], [] =>
    .ite (isM ur) (.ret (.ref 0 0) [.arr (.pair .str .str) 0 false (valP (ur, t1, t2, ak, me, ta, st, re, ba, fs, bo))]) .fail
  | _, _ => .fail
theorem sVali_okQ : Sound Kx 8 va_s := sVali_ok.of fun args objs r h => by
  unfold va_s at h; split at h
  case h_2 => cases h
  rename_i ur t1 t2 ak me ta st re ba fs bo
  obtain ⟨h1, h2⟩ := ite_some h
  cases h2
  show (sVali_br ur t1 t2 ak me ta st re ba fs bo).val = _
  unfold sVali_br valP valF sVali_c3 sVali_c2 sVali_c1
  have e := dtP_eq fs nLM
  have hd : hasP fs nLM = false → (dtP fs nLM).2 = false := fun h => by unfold dtP; rw [h]; rfl
  unfold nLM at e hd
  rw [e]
  refine (val_t h1).trans ?_
  cases entP (ur, t1, t2, ak, me, ta, st, re, ba, fs, bo)
  · rfl
  unfold nET nLM
  cases hh : hasP fs [108, 97, 115, 116, 45, 109, 111, 100, 105, 102, 105, 101, 100]
  · simp only [hd hh]
    cases hasP fs [101, 116, 97, 103] <;> cases tagP ((vals fs [101, 116, 97, 103]).getD 0 []) <;> kernel_rfl
  · cases hasP fs [101, 116, 97, 103] <;> cases tagP ((vals fs [101, 116, 97, 103]).getD 0 []) <;> cases (dtP fs [108, 97, 115, 116, 45, 109, 111, 100, 105, 102, 105, 101, 100]).2 <;> kernel_rfl
theorem iVali_okQ : Sound Kx 10 va_s := iVali_ok.of fun args objs r h => by
  unfold va_s at h; split at h
  case h_2 => cases h
  rename_i ur t1 t2 ak me ta st re ba fs bo
  obtain ⟨h1, h2⟩ := ite_some h
  cases h2
  show (iVali_br ur t1 t2 ak me ta st re ba fs bo).val = _
  unfold iVali_br valP valF iVali_c3 iVali_c2 iVali_c1
  refine (val_t h1).trans ?_
  cases entP (ur, t1, t2, ak, me, ta, st, re, ba, fs, bo)
  · rfl
  unfold nET nLM
  cases hasP fs [101, 116, 97, 103] <;> cases tagP ((vals fs [101, 116, 97, 103]).getD 0 []) <;> cases (dtP fs [108, 97, 115, 116, 45, 109, 111, 100, 105, 102, 105, 101, 100]).2 <;> kernel_rfl

def lVali_O : Opt := { mutF := [14,13] }
def lVali_C : SC := [⟨7, _, szEntry_okQ⟩, ⟨9, _, toEntry_ok⟩, ⟨12, _, eqEntry_okQ⟩, ⟨11, _, eqFieldS_okQ⟩, ⟨14, _, markFieldS_okQ⟩, ⟨15, _, heldFieldS_okQ⟩, ⟨13, _, markEntry_okQ⟩, ⟨10, _, iVali_okQ⟩, ⟨8, _, sVali_okQ⟩]
abbrev lVali_c1 (ur : Bytes) (t1 t2 : Int) (ak : List Fd) (me ta : Bytes) (st : Int) (re : Bytes) (ba : Bool) (fs : List Fd) (bo : Bytes) := (List.length (valP (ur, (t1, (t2, (ak, (me, (ta, (st, (re, (ba, (fs, bo))))))))))))
def lVali_br (ur : Bytes) (t1 t2 : Int) (ak : List Fd) (me ta : Bytes) (st : Int) (re : Bytes) (ba : Bool) (fs : List Fd) (bo : Bytes) : Br := (Br.ite ((smE (ur, (t1, (t2, (ak, (me, (ta, (st, (re, (ba, (fs, bo))))))))))) && true) (Br.ite (decide ((szM (enW (ur, (t1, (t2, (ak, (me, (ta, (st, (re, (ba, (fs, bo))))))))))) 1048576) < 0)) (Br.ret (AV.bool true) []) (Br.ite (decide (ak.length ≤ 1048576)) (Br.ite (decide (fs.length ≤ 1048576)) (Br.ite (isM ur) (Br.ite (decide (ak.length ≤ 1048576)) (Br.ite (decide (fs.length ≤ 1048576)) (Br.ite (isM ur) (Br.ite (decide ((lVali_c1 ur t1 t2 ak me ta st re ba fs bo) ≤ 4611686018427387904)) (Br.ite (!(decide ((valP (ur, (t1, (t2, (ak, (me, (ta, (st, (re, (ba, (fs, bo))))))))))) = (valP (ur, (t1, (t2, (ak, (me, (ta, (st, (re, (ba, (fs, bo)))))))))))))) (Br.ret (AV.bool false) []) (Br.ite (decide (ak.length ≤ 1048576)) (Br.ite (decide (fs.length ≤ 1048576)) (Br.ite (((eqEb (ur, (t1, (t2, (ak, (me, (ta, (st, (re, (ba, (fs, bo)))))))))) (ur, (t1, (t2, (ak, (me, (ta, (st, (re, (ba, (fs, bo))))))))))) && (decide (ak.length ≤ 1048576))) && (decide (fs.length ≤ 1048576))) (Br.ite (true && (decide (((1 + (2 * (ak.length : Int))) + (2 * (fs.length : Int))) ≤ 100000000))) (Br.ite (decide (((1 + (2 * (ak.length : Int))) + (2 * (fs.length : Int))) < 0)) (Br.ret (AV.bool false) []) (Br.ite (decide ((lVali_c1 ur t1 t2 ak me ta st re ba fs bo) ≤ 4611686018427387904)) (Br.ite (!(decide ((valP (ur, (t1, (t2, (ak, (me, (ta, (st, (re, (ba, (fs, bo))))))))))) = (valP (ur, (t1, (t2, (ak, (me, (ta, (st, (re, (ba, (fs, bo)))))))))))))) (Br.ret (AV.bool false) []) (Br.ite (true && (decide ((1 + (2 * ((lVali_c1 ur t1 t2 ak me ta st re ba fs bo) : Int))) ≤ 100000000))) (Br.ite ((true && (decide ((1 + (2 * ((List.length (marksF (lVali_c1 ur t1 t2 ak me ta st re ba fs bo) 1)) : Int))) ≤ 100000000))) && (decide ((marksF (lVali_c1 ur t1 t2 ak me ta st re ba fs bo) 1) = (marksF (List.length (marksF (lVali_c1 ur t1 t2 ak me ta st re ba fs bo) 1)) 1)))) (Br.ite (decide ((1 + (2 * ((List.length (marksF (lVali_c1 ur t1 t2 ak me ta st re ba fs bo) 1)) : Int))) < 0)) (Br.ret (AV.bool false) []) (Br.ite (!(decide ((1 + (2 * ((List.length (marksF (lVali_c1 ur t1 t2 ak me ta st re ba fs bo) 1)) : Int))) = (1 + (2 * ((lVali_c1 ur t1 t2 ak me ta st re ba fs bo) : Int)))))) (Br.ret (AV.bool false) []) (Br.ite (decide (ak.length ≤ 1048576)) (Br.ite (decide (fs.length ≤ 1048576)) (Br.ite (isM ur) (Br.ite (decide ((lVali_c1 ur t1 t2 ak me ta st re ba fs bo) ≤ 4611686018427387904)) (Br.ite (!(decide ((valP (ur, (t1, (t2, (ak, (me, (ta, (st, (re, (ba, (fs, bo))))))))))) = (valP (ur, (t1, (t2, (ak, (me, (ta, (st, (re, (ba, (fs, bo)))))))))))))) (Br.ret (AV.bool false) []) (Br.ite ((true && (decide ((1 + (2 * ((List.length (marksF (lVali_c1 ur t1 t2 ak me ta st re ba fs bo) 1)) : Int))) ≤ 100000000))) && (decide ((marksF (lVali_c1 ur t1 t2 ak me ta st re ba fs bo) 1) = (marksF (List.length (marksF (lVali_c1 ur t1 t2 ak me ta st re ba fs bo) 1)) 1)))) (Br.ite (decide ((1 + (2 * ((List.length (marksF (lVali_c1 ur t1 t2 ak me ta st re ba fs bo) 1)) : Int))) < 0)) (Br.ret (AV.bool false) []) (Br.ite (!(decide ((1 + (2 * ((List.length (marksF (lVali_c1 ur t1 t2 ak me ta st re ba fs bo) 1)) : Int))) = (1 + (2 * ((lVali_c1 ur t1 t2 ak me ta st re ba fs bo) : Int)))))) (Br.ret (AV.bool false) []) (Br.ret (AV.bool true) []))) Br.fail)) Br.fail) Br.fail) Br.fail) Br.fail))) Br.fail) Br.fail)) Br.fail)) Br.fail) Br.fail) Br.fail) Br.fail)) Br.fail) Br.fail) Br.fail) Br.fail) Br.fail) Br.fail) Br.fail)) Br.fail)
def lVali_s : List AV → List Ob → Br
  | [.agg [.str ur, .int .i64 t1, .int .i64 t2, .sh (.pair .str .str) ak, .str me, .str ta, .int .i64 st, .str re, .bool ba, .sh (.pair .str .str) fs, .str bo]], [] => lVali_br ur t1 t2 ak me ta st re ba fs bo
  | _, _ => .fail
theorem lVali_ok : Sound Kx 3 lVali_s := sound_br (C := lVali_C) (O := lVali_O) Tryz.func3 (by kernel_rfl) fun args objs => by
  unfold lVali_s; split
  · exact .inr (by kernel_rfl)
  · exact .inl rfl

end
end Go.Proofs.YtdknaddanjpdaaaGreatDoor.Ev

namespace Go.Proofs.YtdknaddanjpdaaaGreatDoor.Ev
open Go Go.RowKit
set_option linter.unusedVariables false
set_option linter.unusedSimpArgs false
theorem dzI {a b : Int} (h : a ≤ b) : decide (a ≤ b) = true := decide_eq_true h
theorem dzF {a b : Int} (h : ¬ a < b) : decide (a < b) = false := decide_eq_false h
theorem marksF_len : ∀ (n : Nat) (k : Int), (marksF n k).length = n
  | 0, _ => rfl
  | n + 1, k => by simp [marksF, marksF_len n]
theorem lVali_val (ur : Bytes) (t1 t2 : Int) (ak : List Fd) (me ta : Bytes) (st : Int) (re : Bytes) (ba : Bool) (fs : List Fd) (bo : Bytes) (h : smE (ur, t1, t2, ak, me, ta, st, re, ba, fs, bo) = true) : (lVali_br ur t1 t2 ak me ta st re ba fs bo).val = some (.bool true, []) := by
  unfold lVali_br lVali_c1
  refine (val_t (by rw [h]; rfl)).trans ?_
  by_cases c : szM (enW (ur, t1, t2, ak, me, ta, st, re, ba, fs, bo)) 1048576 < 0
  · exact val_t (decide_eq_true c)
  obtain ⟨hl, hl2, hl3, hl4⟩ := szE_small c
  simp only at hl hl2
  refine (val_f (decide_eq_false c)).trans ?_
  have e1 : decide (ak.length ≤ 1048576) = true := decide_eq_true (by omega)
  have e2 : decide (fs.length ≤ 1048576) = true := decide_eq_true (by omega)
  have hm : isM ur = true := by unfold smE at h; simp only [Bool.and_eq_true] at h; exact h.1.1
  have hq := eqEb_self (ur, t1, t2, ak, me, ta, st, re, ba, fs, bo)
  have hv := valP_len (ur, t1, t2, ak, me, ta, st, re, ba, fs, bo)
  simp (disch := omega) only [marksF_len, e1, e2, hm, hq, decide_true, Bool.not_true, Bool.true_and, Bool.and_true, dle', dzI, dzF, Br.val]
theorem fnExactValidators_true (xs : List AV) (h : Args [(tyEnt, true)] xs) : (lVali_s xs []).val = some (.bool true, []) := by
  obtain ⟨⟨ur, t1, t2, ak, me, ta, st, re, ba, fs, bo⟩, a', g, rfl, rfl⟩ := h
  exact lVali_val ur t1 t2 ak me ta st re ba fs bo (good_smE g)
end Go.Proofs.YtdknaddanjpdaaaGreatDoor.Ev
