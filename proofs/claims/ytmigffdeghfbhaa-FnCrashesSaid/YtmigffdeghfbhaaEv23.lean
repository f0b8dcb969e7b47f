/- Operations that draw their order: what commands touch; commands that change places. -/
import Derived.Test.YtmigffdeghfbhaaEv22
namespace Go.Proofs.Ytmigffdeghfbhaa.Ev
open Go Go.RowKit
set_option linter.unusedSimpArgs false
set_option linter.unusedVariables false

theorem getS_putS (l : List AV) (n m : Nat) (v : AV) : getS (putS l n v) m = if n = m ∧ n < l.length then v else getS l m := by
  rw [getS_eq, getS_eq, putS_eq]
  simp only [List.getD_eq_getElem?_getD, List.getElem?_set]
  by_cases h : n = m
  · subst h
    by_cases hl : n < l.length
    · simp [hl]
    · simp [hl]
  · simp [h]

theorem length_putS (l : List AV) (n : Nat) (v : AV) : (putS l n v).length = l.length := by rw [putS_eq]; simp

/-- A command's accesses come on top. -/
theorem ex_trace : ∀ (c : Cmd) {st st' : St} {t t' : List Ac}, c.ex st t = some (st', t') → ∃ n, t' = n ++ t
  | .done, st, st', t, t', h => by simp only [Cmd.ex, Option.some.injEq, Prod.mk.injEq] at h; exact ⟨[], h.2.symm⟩
  | .fail, st, st', t, t', h => (ex_fail h).elim
  | .getS n c, st, st', t, t', h => by
    simp only [Cmd.ex] at h
    obtain ⟨l, hl⟩ := ex_trace _ h; exact ⟨l ++ [.rS n], by simp [hl]⟩
  | .putS n v c, st, st', t, t', h => by
    simp only [Cmd.ex] at h
    obtain ⟨l, hl⟩ := ex_trace _ h; exact ⟨l ++ [.wS n], by simp [hl]⟩
  | .getO o c, st, st', t, t', h => by
    obtain ⟨x, _, h⟩ := ex_getO h
    obtain ⟨l, hl⟩ := ex_trace _ h; exact ⟨l ++ [.rO o], by simp [hl]⟩
  | .putO o x c, st, st', t, t', h => by
    obtain ⟨_, h⟩ := ex_putO h
    obtain ⟨l, hl⟩ := ex_trace _ h; exact ⟨l ++ [.wO o], by simp [hl]⟩
  | .newO o x c, st, st', t, t', h => by
    obtain ⟨_, h⟩ := ex_newO h
    obtain ⟨l, hl⟩ := ex_trace _ h; exact ⟨l ++ [.wO o], by simp [hl]⟩
  | .ite true x y, st, st', t, t', h => ex_trace x (by simpa only [Cmd.ex] using h)
  | .ite false x y, st, st', t, t', h => ex_trace y (by simpa only [Cmd.ex] using h)

/-- What is not written stays. -/
theorem ex_frame : ∀ (c : Cmd) {st st' : St} {t t' : List Ac}, c.ex st t = some (st', t') →
    st'.env.length = st.env.length ∧ (∀ n, Ac.wS n ∉ t' → getS st'.env n = getS st.env n) ∧ ∀ o, Ac.wO o ∉ t' → getO st'.objs o = getO st.objs o
  | .done, st, st', t, t', h => by
    simp only [Cmd.ex, Option.some.injEq, Prod.mk.injEq] at h
    obtain ⟨rfl, rfl⟩ := h; exact ⟨rfl, fun _ _ => rfl, fun _ _ => rfl⟩
  | .fail, st, st', t, t', h => (ex_fail h).elim
  | .getS n c, st, st', t, t', h => by simp only [Cmd.ex] at h; exact ex_frame _ h
  | .putS n v c, st, st', t, t', h => by
    simp only [Cmd.ex] at h
    obtain ⟨l, hl⟩ := ex_trace _ h
    obtain ⟨h1, h2, h3⟩ := ex_frame _ h
    refine ⟨h1.trans (length_putS _ _ _), fun m hm => ?_, h3⟩
    rw [h2 m hm]
    simp only
    rw [getS_putS, if_neg]
    rintro ⟨rfl, _⟩
    exact hm (by rw [hl]; simp)
  | .getO o c, st, st', t, t', h => by
    obtain ⟨x, _, h⟩ := ex_getO h
    exact ex_frame _ h
  | .putO o x c, st, st', t, t', h => by
    obtain ⟨_, h⟩ := ex_putO h
    obtain ⟨l, hl⟩ := ex_trace _ h
    obtain ⟨h1, h2, h3⟩ := ex_frame _ h
    refine ⟨h1, h2, fun m hm => ?_⟩
    rw [h3 m hm]
    simp only
    rw [getO_putO, if_neg]
    rintro rfl
    exact hm (by rw [hl]; simp)
  | .newO o x c, st, st', t, t', h => by
    obtain ⟨_, h⟩ := ex_newO h
    obtain ⟨l, hl⟩ := ex_trace _ h
    obtain ⟨h1, h2, h3⟩ := ex_frame _ h
    refine ⟨h1, h2, fun m hm => ?_⟩
    rw [h3 m hm]
    simp only
    rw [getO_putO, if_neg]
    rintro rfl
    exact hm (by rw [hl]; simp)
  | .ite true x y, st, st', t, t', h => ex_frame x (by simpa only [Cmd.ex] using h)
  | .ite false x y, st, st', t, t', h => ex_frame y (by simpa only [Cmd.ex] using h)

/-- Two states agree on what is touched. -/
structure Agree (t : List Ac) (s s' : St) : Prop where
  len : s.env.length = s'.env.length
  env : ∀ n, (Ac.rS n ∈ t ∨ Ac.wS n ∈ t) → getS s.env n = getS s'.env n
  obj : ∀ o, (Ac.rO o ∈ t ∨ Ac.wO o ∈ t) → getO s.objs o = getO s'.objs o

theorem ex_agree : ∀ (c : Cmd) {st st' s2 : St} {t t' : List Ac}, c.ex st t = some (st', t') → Agree t' st s2 → ∃ s2', c.ex s2 t = some (s2', t') ∧ Agree t' st' s2'
  | .done, st, st', s2, t, t', h, ha => by
    simp only [Cmd.ex, Option.some.injEq, Prod.mk.injEq] at h
    obtain ⟨rfl, rfl⟩ := h; exact ⟨s2, rfl, ha⟩
  | .fail, st, st', s2, t, t', h, ha => (ex_fail h).elim
  | .getS n c, st, st', s2, t, t', h, ha => by
    simp only [Cmd.ex] at h ⊢
    obtain ⟨l, hl⟩ := ex_trace _ h
    have : getS st.env n = getS s2.env n := ha.env n (.inl (by rw [hl]; simp))
    rw [← this]; exact ex_agree _ h ha
  | .putS n v c, st, st', s2, t, t', h, ha => by
    simp only [Cmd.ex] at h ⊢
    refine ex_agree _ h ⟨by simp only [length_putS]; exact ha.len, fun m hm => ?_, ha.obj⟩
    simp only [getS_putS, ha.len]
    split
    · rfl
    · exact ha.env m hm
  | .getO o c, st, st', s2, t, t', h, ha => by
    obtain ⟨x, hx, h⟩ := ex_getO h
    obtain ⟨l, hl⟩ := ex_trace _ h
    have : getO st.objs o = getO s2.objs o := ha.obj o (.inl (by rw [hl]; simp))
    simp only [Cmd.ex, ← this, hx]; exact ex_agree _ h ha
  | .putO o x c, st, st', s2, t, t', h, ha => by
    obtain ⟨⟨y, hy⟩, h⟩ := ex_putO h
    obtain ⟨l, hl⟩ := ex_trace _ h
    have : getO st.objs o = getO s2.objs o := ha.obj o (.inr (by rw [hl]; simp))
    simp only [Cmd.ex, ← this, hy]
    refine ex_agree _ h ⟨ha.len, ha.env, fun m hm => ?_⟩
    simp only [getO_putO]
    split
    · rfl
    · exact ha.obj m hm
  | .newO o x c, st, st', s2, t, t', h, ha => by
    obtain ⟨hy, h⟩ := ex_newO h
    obtain ⟨l, hl⟩ := ex_trace _ h
    have : getO st.objs o = getO s2.objs o := ha.obj o (.inr (by rw [hl]; simp))
    simp only [Cmd.ex, ← this, hy]
    refine ex_agree _ h ⟨ha.len, ha.env, fun m hm => ?_⟩
    simp only [getO_putO]
    split
    · rfl
    · exact ha.obj m hm
  | .ite true x y, st, st', s2, t, t', h, ha => by simp only [Cmd.ex] at h ⊢; exact ex_agree x h ha
  | .ite false x y, st, st', s2, t, t', h, ha => by simp only [Cmd.ex] at h ⊢; exact ex_agree y h ha

/-- The same state. -/
structure Eqv (s s' : St) : Prop where
  env : s.env = s'.env
  obj : ∀ o, getO s.objs o = getO s'.objs o

theorem Eqv.refl (s : St) : Eqv s s := ⟨rfl, fun _ => rfl⟩
theorem Eqv.symm {s s' : St} (h : Eqv s s') : Eqv s' s := ⟨h.env.symm, fun o => (h.obj o).symm⟩
theorem Eqv.trans {s s' s'' : St} (h : Eqv s s') (h' : Eqv s' s'') : Eqv s s'' := ⟨h.env.trans h'.env, fun o => (h.obj o).trans (h'.obj o)⟩
theorem Eqv.agree {s s' : St} (h : Eqv s s') (t : List Ac) : Agree t s s' := ⟨by rw [h.env], fun n _ => by rw [h.env], fun o _ => h.obj o⟩

theorem eq_of_getS {l l' : List AV} (hl : l.length = l'.length) (h : ∀ n, getS l n = getS l' n) : l = l' := by
  apply List.ext_getElem hl
  intro n h1 h2
  have := h n
  simp only [getS_eq, List.getD_eq_getElem?_getD, List.getElem?_eq_getElem h1, List.getElem?_eq_getElem h2, Option.getD_some] at this
  exact this

theorem ex_eqv {c : Cmd} {st st' s2 : St} {t t' : List Ac} (h : c.ex st t = some (st', t')) (he : Eqv st s2) : ∃ s2', c.ex s2 t = some (s2', t') ∧ Eqv st' s2' := by
  obtain ⟨s2', h1, h2⟩ := ex_agree c h (he.agree t')
  obtain ⟨a1, a2, a3⟩ := ex_frame c h
  obtain ⟨b1, b2, b3⟩ := ex_frame c h1
  refine ⟨s2', h1, eq_of_getS h2.len fun n => ?_, fun o => ?_⟩
  · by_cases hn : Ac.wS n ∈ t'
    · exact h2.env n (.inr hn)
    · rw [a2 n hn, b2 n hn, he.env]
  · by_cases hn : Ac.wO o ∈ t'
    · exact h2.obj o (.inr hn)
    · rw [a3 o hn, b3 o hn, he.obj]

theorem apart_spec {s t : List Ac} (h : apart s t = true) : ∀ a ∈ s, ∀ b ∈ t, a.clash b = false := by
  intro a ha b hb
  have h1 := List.all_eq_true.1 h a ha
  have h2 := List.all_eq_true.1 h1 b hb
  simpa using h2

/-- Two commands change places. -/
theorem ex_swap {x y : Cmd} {st s1 s2 : St} {tx ty : List Ac} (hy : y.ex st [] = some (s1, ty)) (hx : x.ex s1 [] = some (s2, tx)) (hap : apart ty tx = true) :
    ∃ s1' s2', x.ex st [] = some (s1', tx) ∧ y.ex s1' [] = some (s2', ty) ∧ Eqv s2 s2' := by
  have hc := apart_spec hap
  obtain ⟨a1, a2, a3⟩ := ex_frame y hy
  obtain ⟨b1, b2, b3⟩ := ex_frame x hx
  have hnyS : ∀ n, (Ac.rS n ∈ tx ∨ Ac.wS n ∈ tx) → Ac.wS n ∉ ty := fun n h hw => by
    rcases h with h | h <;> have := hc _ hw _ h <;> simp [Ac.clash] at this
  have hnyO : ∀ n, (Ac.rO n ∈ tx ∨ Ac.wO n ∈ tx) → Ac.wO n ∉ ty := fun n h hw => by
    rcases h with h | h <;> have := hc _ hw _ h <;> simp [Ac.clash] at this
  have hnxS : ∀ n, (Ac.rS n ∈ ty ∨ Ac.wS n ∈ ty) → Ac.wS n ∉ tx := fun n h hw => by
    rcases h with h | h <;> have := hc _ h _ hw <;> simp [Ac.clash] at this
  have hnxO : ∀ n, (Ac.rO n ∈ ty ∨ Ac.wO n ∈ ty) → Ac.wO n ∉ tx := fun n h hw => by
    rcases h with h | h <;> have := hc _ h _ hw <;> simp [Ac.clash] at this
  obtain ⟨s1', h1, h2⟩ := ex_agree x (s2 := st) hx ⟨a1, fun n hn => a2 n (hnyS n hn), fun o ho => a3 o (hnyO o ho)⟩
  obtain ⟨c1, c2, c3⟩ := ex_frame x h1
  obtain ⟨s2', h3, h4⟩ := ex_agree y (s2 := s1') hy ⟨c1.symm, fun n hn => (c2 n (hnxS n hn)).symm, fun o ho => (c3 o (hnxO o ho)).symm⟩
  obtain ⟨d1, d2, d3⟩ := ex_frame y h3
  refine ⟨s1', s2', h1, h3, eq_of_getS (by rw [b1, a1, d1, c1]) fun n => ?_, fun o => ?_⟩
  · by_cases hx : Ac.wS n ∈ tx
    · rw [d2 n (hnyS n (.inr hx)), h2.env n (.inr hx)]
    · by_cases hy : Ac.wS n ∈ ty
      · rw [b2 n hx, h4.env n (.inr hy)]
      · rw [b2 n hx, a2 n hy, d2 n hy, c2 n hx]
  · by_cases hx : Ac.wO o ∈ tx
    · rw [d3 o (hnyO o (.inr hx)), h2.obj o (.inr hx)]
    · by_cases hy : Ac.wO o ∈ ty
      · rw [b3 o hx, h4.obj o (.inr hy)]
      · rw [b3 o hx, a3 o hy, d3 o hy, c3 o hx]

/-- Commands in a row, with their accesses. -/
def exC : List Cmd → St → Option (St × List (List Ac))
  | [], st => some (st, [])
  | c :: l, st => match c.ex st [] with
    | some (st', t) => match exC l st' with
      | some (st'', ts) => some (st'', t :: ts)
      | none => none
    | none => none

theorem exC_cons {c : Cmd} {l : List Cmd} {st sF : St} {ts : List (List Ac)} (h : exC (c :: l) st = some (sF, ts)) : ∃ s1 t ts', c.ex st [] = some (s1, t) ∧ exC l s1 = some (sF, ts') ∧ ts = t :: ts' := by
  simp only [exC] at h
  split at h
  case h_2 => cases h
  rename_i s1 t h1
  split at h
  case h_2 => cases h
  rename_i s2 ts' h2
  simp only [Option.some.injEq, Prod.mk.injEq] at h
  obtain ⟨rfl, rfl⟩ := h
  exact ⟨s1, t, ts', h1, h2, rfl⟩

theorem exC_mk {c : Cmd} {l : List Cmd} {st s1 sF : St} {t : List Ac} {ts : List (List Ac)} (h1 : c.ex st [] = some (s1, t)) (h2 : exC l s1 = some (sF, ts)) : exC (c :: l) st = some (sF, t :: ts) := by
  simp only [exC, h1, h2]

theorem exC_eqv : ∀ {l : List Cmd} {st sF s2 : St} {ts : List (List Ac)}, exC l st = some (sF, ts) → Eqv st s2 → ∃ sF', exC l s2 = some (sF', ts) ∧ Eqv sF sF'
  | [], st, sF, s2, ts, h, he => by simp only [exC, Option.some.injEq, Prod.mk.injEq] at h; obtain ⟨rfl, rfl⟩ := h; exact ⟨s2, rfl, he⟩
  | c :: l, st, sF, s2, ts, h, he => by
    obtain ⟨s1, t, ts', h1, h2, rfl⟩ := exC_cons h
    obtain ⟨s1', h3, h4⟩ := ex_eqv h1 he
    obtain ⟨sF', h5, h6⟩ := exC_eqv h2 h4
    exact ⟨sF', exC_mk h3 h5, h6⟩

theorem exC_len : ∀ {l : List Cmd} {st sF : St} {ts : List (List Ac)}, exC l st = some (sF, ts) → ts.length = l.length
  | [], st, sF, ts, h => by simp only [exC, Option.some.injEq, Prod.mk.injEq] at h; obtain ⟨rfl, rfl⟩ := h; rfl
  | c :: l, st, sF, ts, h => by
    obtain ⟨s1, t, ts', h1, h2, rfl⟩ := exC_cons h
    simp [exC_len h2]

/-- A command comes to the front. -/
theorem exC_front : ∀ {pre : List Cmd} {x : Cmd} {post : List Cmd} {st sF : St} {ts : List (List Ac)}, exC (pre ++ x :: post) st = some (sF, ts) →
    (∀ p, p < pre.length → apart (ts.getD p []) (ts.getD pre.length []) = true) → ∃ s1 sF', x.ex st [] = some (s1, ts.getD pre.length []) ∧ exC (pre ++ post) s1 = some (sF', ts.eraseIdx pre.length) ∧ Eqv sF sF'
  | [], x, post, st, sF, ts, h, _ => by
    obtain ⟨s1, t, ts', h1, h2, rfl⟩ := exC_cons h
    exact ⟨s1, sF, by simpa using h1, by simpa using h2, Eqv.refl sF⟩
  | y :: pre, x, post, st, sF, ts, h, hap => by
    obtain ⟨s1, t, ts', h1, h2, rfl⟩ := exC_cons h
    obtain ⟨s2, sF1, h3, h4, h5⟩ := exC_front h2 fun p hp => by simpa using hap (p + 1) (by simpa using hp)
    obtain ⟨s1', s2', h6, h7, h8⟩ := ex_swap h1 h3 (by simpa using hap 0 (by simp))
    obtain ⟨sF2, h9, h10⟩ := exC_eqv h4 h8
    refine ⟨s1', sF2, by simpa using h6, ?_, h5.trans h10⟩
    simp only [List.length_cons, List.eraseIdx_cons_succ, List.cons_append]
    exact exC_mk h7 h9

end Go.Proofs.Ytmigffdeghfbhaa.Ev
