/- States at a loop's head. -/
import Derived.Test.YtmigffdeghfbhaaEv17
namespace Go.Proofs.Ytmigffdeghfbhaa.Ev
open Go Go.RowKit
set_option linter.unusedSimpArgs false
set_option linter.unusedVariables false

variable {K : Ctx} {w0 : World} {M0 : Bd} {L L' : Lk} {st : St} {a : Act} {w : World} {o : Oper} {M : Nat → Nat → Prop}

/-- More objects, the old ones as they were. -/
def More (L L' : Lk) : Prop := ∀ k p, L k = some p → L' k = some p

theorem More.turn (h : More L L') : Turn L L' := by
  intro i l x hx
  obtain ⟨l', x', h1, h2⟩ := Turn.refl L i l x hx
  exact ⟨l', x', h _ _ h1, h2⟩

theorem Turn.trans {L'' : Lk} (h : Turn L L') (h' : Turn L' L'') : Turn L L'' := by
  intro i l x hx
  obtain ⟨l', x', h1, h2⟩ := h i l x hx
  obtain ⟨l'', x'', h3, h4⟩ := h' i l' x' h1
  refine ⟨l'', x'', h3, ?_⟩
  cases x with
  | var cs => obtain ⟨rfl, cs', rfl⟩ := h2; exact h4
  | arr e v z xs =>
    obtain ⟨v', z', xs', rfl, h5, h6⟩ := h2
    obtain ⟨v'', z'', xs'', rfl, h7, h8⟩ := h4
    refine ⟨v'', z'', xs'', rfl, by omega, fun hv => ?_⟩
    obtain ⟨e1, e2⟩ := h6 (by omega)
    obtain ⟨e3, e4⟩ := h8 (by omega)
    exact ⟨e3.trans e1, e4.trans e2⟩

theorem Tr.trans {w1 w2 w3 : World} {M1 M2 M3 : Nat → Nat → Prop} (h : Tr w1 M1 w2 M2) (h' : Tr w2 M2 w3 M3) : Tr w1 M1 w3 M3 := fun b o v hn hv => by
  obtain ⟨h1, h2⟩ := h b o v hn hv
  exact h' b o v h1 h2

theorem keep_rels : ∀ (s : List AV) {env : List AV} {vs : List Value}, rels L w M env vs → rels L w M (keep s env) vs
  | [], env, vs, h => by cases env <;> simpa [keep] using h
  | x :: s, [], vs, h => by simpa [keep] using h
  | x :: s, y :: env, vs, h => by
    obtain ⟨c, cs, rfl, h1, h2⟩ := rels_cons h
    have ih := keep_rels s h2
    cases x <;> simp only [keep, rels] <;> first | exact ⟨c, cs, rfl, h1, ih⟩ | exact ⟨c, cs, rfl, by simp [rel], ih⟩

theorem only_rels (l : List Nat) : ∀ (i : Nat) {env : List AV} {vs : List Value}, rels L w M env vs → rels L w M (only l i env) vs
  | i, [], vs, h => by simpa [only] using h
  | i, y :: env, vs, h => by
    obtain ⟨c, cs, rfl, h1, h2⟩ := rels_cons h
    simp only [only, rels]
    refine ⟨c, cs, rfl, ?_, only_rels l (i + 1) h2⟩
    split
    · exact h1
    · simp [rel]

theorem cutE_rels {O : Opt} {b : Code} {env : List AV} {vs : List Value} (h : rels L w M env vs) : rels L w M (cutE O b env) vs := by
  unfold cutE
  split
  · exact only_rels _ _ h
  · exact h

theorem proE_ok (hK : K.Ok) (f : Nat → Nat) : ∀ (l : List AV) (i : Nat) (objs : List (Nat × Ob)) {L : Lk} {vs : List Value}, RelO K w0 M0 L w → (∀ k, getO objs k = (L k).map (·.2)) → rels L w (Mut L) l vs →
    ∃ L', RelO K w0 M0 L' w ∧ (∀ k, getO (proE f l i objs).2 k = (L' k).map (·.2)) ∧ More L L' ∧ Tr w (Mut L) w (Mut L') ∧ rels L' w (Mut L') (proE f l i objs).1 vs
  | [], i, objs, L, vs, h, ho, hr => ⟨L, h, by simpa [proE] using ho, fun _ _ => id, Tr.refl _ _, by simpa [proE] using hr⟩
  | x :: l, i, objs, L, vs, h, ho, hr => by
    obtain ⟨c, cs, rfl, h1, h2⟩ := rels_cons hr
    have gen : ∀ y : AV, rel L w (Mut L) y c → (∃ L', RelO K w0 M0 L' w ∧ (∀ k, getO (proE f l (i + 1) objs).2 k = (L' k).map (·.2)) ∧ More L L' ∧ Tr w (Mut L) w (Mut L') ∧ rels L' w (Mut L') (y :: (proE f l (i + 1) objs).1) (c :: cs)) := fun y hy => by
      obtain ⟨L', q1, q2, q3, q4, q5⟩ := proE_ok hK f l (i + 1) objs h ho h2
      exact ⟨L', q1, q2, q3, q4, by simp only [rels]; exact ⟨c, cs, rfl, rel_tr q3.turn q4 y hy, q5⟩⟩
    cases x with
    | nil e =>
      simp only [proE]
      split
      · rename_i hn
        have hL : L (f i) = none := by
          have := ho (f i); rw [hn] at this
          cases hLi : L (f i) with
          | none => rfl
          | some p => rw [hLi] at this; simp at this
        obtain ⟨q1, q2, q3⟩ := h.new hK hL (p := (⟨none, 0⟩, .arr e 0 false [])) (w' := w) (Fr.refl w _) (fun _ => .inl ⟨rfl, rfl, rfl⟩) (fun b o' hr' => by obtain ⟨o0, e1, _, _⟩ := hr'; cases e1)
        have hmore : More L (upd L (f i) (⟨none, 0⟩, .arr e 0 false [])) := fun k p hk => by
          have : k ≠ f i := by intro e; subst e; rw [hL] at hk; cases hk
          rw [upd_other L _ this]; exact hk
        have ho' : ∀ k, getO (putO objs (f i) (.arr e 0 false [])) k = ((upd L (f i) (⟨none, 0⟩, .arr e 0 false [])) k).map (·.2) := fun k => by
          rw [getO_putO]
          by_cases hk : k = f i
          · subst hk; simp [upd]
          · rw [if_neg hk, upd_other L _ hk]; exact ho k
        obtain ⟨L', r1, r2, r3, r4, r5⟩ := proE_ok hK f l (i + 1) _ q1 ho' (rels_tr q3 q2 l h2)
        refine ⟨L', r1, r2, fun k p hk => r3 _ _ (hmore _ _ hk), q2.trans r4, ?_⟩
        simp only [rels]
        refine ⟨c, cs, rfl, ?_, r5⟩
        have hc := rel_nil h1
        subst hc
        simp only [rel]
        exact ⟨_, _, _, _, _, _, _, _, r3 _ _ (upd_same _ _ _), Nat.le_refl _, rfl, fun _ => ⟨rfl, rfl, rfl⟩⟩
      · exact gen _ h1
    | _ => exact gen _ h1

theorem proO_ok (hK : K.Ok) : ∀ (l : List Nat) (objs : List (Nat × Ob)) {L : Lk}, RelO K w0 M0 L w → (∀ k, getO objs k = (L k).map (·.2)) →
    ∃ L', RelO K w0 M0 L' w ∧ (∀ k, getO (proO l objs) k = (L' k).map (·.2)) ∧ Turn L L' ∧ Tr w (Mut L) w (Mut L')
  | [], objs, L, h, ho => ⟨L, h, by simpa [proO] using ho, Turn.refl L, Tr.refl _ _⟩
  | n :: l, objs, L, h, ho => by
    simp only [proO]
    split
    · rename_i cs hcs
      have hn := ho n
      rw [hcs] at hn
      cases hL : L n with
      | none => rw [hL] at hn; simp at hn
      | some p =>
        rw [hL] at hn
        obtain ⟨loc, x⟩ := p
        simp only [Option.map_some, Option.some.injEq] at hn
        subst hn
        obtain ⟨b, o, vs, h1, h2, h3, h4⟩ := h.ok n _ hL
        obtain ⟨L1, q1, q2, q3, q4, q5⟩ := proE_ok hK (fun j => n + 1 + j) cs 0 objs h ho h2
        have hL1 := q3 _ _ hL
        have hlen : (proE (fun j => n + 1 + j) cs 0 objs).1.length = cs.length := by rw [← rels_len q5, rels_len h2]
        have hT : Turn L1 (upd L1 n (loc, .var (proE (fun j => n + 1 + j) cs 0 objs).1)) := by
          intro j l y hj
          by_cases hji : j = n
          · subst hji
            rw [hL1] at hj; cases hj
            exact ⟨_, _, upd_same _ _ _, rfl, _, rfl⟩
          · obtain ⟨l', x', h1, h2⟩ := Turn.refl L1 j l y hj
            exact ⟨l', x', by rw [upd_other L1 _ hji]; exact h1, h2⟩
        obtain ⟨r1, r2⟩ := q1.put hK hL1 (p' := (loc, .var (proE (fun j => n + 1 + j) cs 0 objs).1)) (w' := w) (Fr.refl w _) hT
          (fun ht => ⟨b, o, vs, h1, rels_tr hT ht _ q5, h3, fun j hj => h4 j (by rwa [hlen] at hj)⟩)
          (fun b o hr => .inl (by obtain ⟨x0, e1, e2, e3⟩ := hr; exact ⟨x0, e1, e2, by simpa only [ext, hlen] using e3⟩))
        obtain ⟨L', s1, s2, s3, s4⟩ := proO_ok hK l (putO (proE (fun j => n + 1 + j) cs 0 objs).2 n (.var (proE (fun j => n + 1 + j) cs 0 objs).1)) r1 (fun k => by
          rw [getO_putO]
          by_cases hk : k = n
          · subst hk; simp [upd]
          · rw [if_neg hk, upd_other L1 _ hk]; exact q2 k)
        exact ⟨L', s1, s2, (q3.turn.trans hT).trans s3, (q4.trans r2).trans s4⟩
    · exact proO_ok hK l objs h ho

theorem pro_ok (hK : K.Ok) (R : Rl K w0 M0 L st a w) : ∃ L', Rl K w0 M0 L' (pro st) a w ∧ Turn L L' := by
  obtain ⟨L1, q1, q2, q3, q4, q5⟩ := proE_ok hK (fun i => 64 * (i + 1)) st.env 0 st.objs R.ro R.ob R.env
  obtain ⟨L2, r1, r2, r3, r4⟩ := proO_ok hK ((proE (fun i => 64 * (i + 1)) st.env 0 st.objs).2.map (·.1)) _ q1 q2
  exact ⟨L2, ⟨r1, r2, rels_tr r3 r4 _ q5, R.df⟩, q3.turn.trans r3⟩

theorem norm_ok (hK : K.Ok) {m : Nat} {shape : List AV} {s : St} (R : Rl K w0 M0 L st a w) (h : norm m shape st = some s) :
    ∃ L', Rl K w0 M0 L' s a w ∧ ∀ L0, Kept m L0 L → Kept m L0 L' := by
  unfold norm at h
  simp only at h
  split at h
  case h_2 => cases h
  rename_i s1 hw
  cases h
  have R1 : Rl K w0 M0 L ⟨keep shape st.env, st.objs⟩ a w := ⟨R.ro, R.ob, keep_rels shape R.env, R.df⟩
  obtain ⟨L1, R2, hk⟩ := weaken_ok R1 hw
  obtain ⟨L2, R3, hT⟩ := pro_ok hK R2
  exact ⟨L2, R3, fun L0 h0 => (hk L0 h0).turn hT⟩

end Go.Proofs.Ytmigffdeghfbhaa.Ev
