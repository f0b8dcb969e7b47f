/- Calls: what goes in, what comes back. -/
import Derived.Test.YtmigffdeghfbhaaEv18
namespace Go.Proofs.Ytmigffdeghfbhaa.Ev
open Go Go.RowKit
set_option linter.unusedSimpArgs false
set_option linter.unusedVariables false

variable {K : Ctx} {w0 : World} {M0 : Bd} {L L' : Lk} {st : St} {a : Act} {w : World} {o : Oper} {M : Nat → Nat → Prop}

/-- A function is called and comes back, or is carried out at once. -/
def Goes (P : Program) (fn : Nat) (args : Array Value) (w : World) (Post : Value → World → Prop) : Prop :=
  Calls P fn args w (fun | .returned v, w' => Post v w' | _, _ => False) ∧ (∃ f c, P.funcs[fn]? = some f ∧ (f.name == "runtime.NumGoroutine") = false ∧ f.body = some c) ∨
  ∃ v w', (callFunc fn args).run P w = .ok (.value v) w' ∧ Post v w'

/-- What a function does, 'φ' says. -/
def Sound (K : Ctx) (fn : Nat) (φ : List AV → List Ob → Br) : Prop :=
  ∀ (args : List AV) (objs : List Ob) (res : AV) (objs' : List Ob), (φ args objs).val = some (res, objs') →
  ∀ (w : World) (L : Lk) (vs : List Value), RelO K w ⟨MutO L, L.F⟩ L w → (∀ i, objs[i]? = (L i).map (·.2)) → rels L w (Mut L) args vs →
    Goes K.P fn vs.toArray w fun v w' => ∃ L', RelO K w ⟨MutO L, L.F⟩ L' w' ∧ (∀ i, objs'[i]? = (L' i).map (·.2)) ∧ Kept objs.length L L' ∧ rel L' w' (Mut L') res v

theorem getO_mem {objs : List (Nat × Ob)} {o : Nat} {x : Ob} (h : getO objs o = some x) : (o, x) ∈ objs := by
  induction objs with
  | nil => simp [getO] at h
  | cons p l ih =>
    obtain ⟨k, y⟩ := p
    simp only [getO] at h
    split at h
    · rename_i hk; cases h; subst hk; exact List.mem_cons_self ..
    · exact List.mem_cons_of_mem _ (ih h)

theorem gat_ok : ∀ (f : Nat) (todo : List Nat) (acc : List (Nat × Ob)) {k : List (Nat × Ob) → Cmd} {t : List Ac} {r : Rz}, (gat f todo acc k).ex st t = some r → (∀ o x, (o, x) ∈ acc → getO st.objs o = some x) →
    ∃ objs t', (k objs).ex st t' = some r ∧ ∀ o x, (o, x) ∈ objs → getO st.objs o = some x
  | f, [], acc, k, t, r, h, ha => ⟨acc, t, by cases f <;> simpa [gat] using h, ha⟩
  | 0, o :: todo, acc, k, t, r, h, ha => (ex_fail (by simpa [gat] using h)).elim
  | f + 1, o :: todo, acc, k, t, r, h, ha => by
    simp only [gat] at h
    split at h
    · exact gat_ok f todo acc h ha
    · obtain ⟨x, h1, h2⟩ := ex_getO h
      refine gat_ok f _ _ h2 fun o' x' hm => ?_
      rcases List.mem_append.1 hm with hm | hm
      · exact ha _ _ hm
      · simp only [List.mem_singleton, Prod.mk.injEq] at hm
        obtain ⟨rfl, rfl⟩ := hm; exact h1

theorem mapOs_get (m : Nat) (ρ : List (Nat × Nat)) (objs : List (Nat × Ob)) : ∀ (l : List (Nat × Ob)) (k i : Nat), (mapOs m ρ objs k l)[i]? = (l[i]?).map fun p => mapO m ρ objs (k + i) p.2
  | [], k, i => by simp [mapOs]
  | (_, x) :: l, k, 0 => by simp [mapOs]
  | (_, x) :: l, k, i + 1 => by
    simp only [mapOs, List.getElem?_cons_succ]
    rw [mapOs_get m ρ objs l (k + 1) i, show k + 1 + i = k + (i + 1) by omega]

theorem find_zipN {o n : Nat} : ∀ {os : List Nat} {k : Nat}, find o (zipN k os) = some n → k ≤ n ∧ os[n - k]? = some o
  | [], k, h => by simp [zipN, find] at h
  | a :: os, k, h => by
    simp only [zipN, find] at h
    split at h
    · rename_i he; cases h; subst he; simp
    · obtain ⟨h1, h2⟩ := find_zipN h
      refine ⟨by omega, ?_⟩
      rw [show n - k = (n - (k + 1)) + 1 by omega]; simpa using h2

theorem zipN_find {o : Nat} : ∀ {os : List Nat} {k i : Nat}, os.Nodup → os[i]? = some o → find o (zipN k os) = some (k + i)
  | [], k, i, _, h => by simp at h
  | a :: os, k, 0, _, h => by simp at h; subst h; simp [zipN, find]
  | a :: os, k, i + 1, hn, h => by
    simp only [List.getElem?_cons_succ] at h
    obtain ⟨h1, h2⟩ := List.nodup_cons.1 hn
    have : a ≠ o := by intro e; subst e; exact h1 (List.mem_of_getElem? h)
    simp only [zipN, find]
    rw [if_neg this, zipN_find h2 h]; congr 1; omega

/-- Some of the objects, in a row. -/
def lkL (m : Nat) (ρ : List (Nat × Nat)) (objs : List (Nat × Ob)) (os : List Nat) (L : Lk) (F : Nat → Nat → Prop) : Lk :=
  ⟨fun n => match os[n]? with | some o => (L o).map fun p => (p.1, mapO m ρ objs n p.2) | none => none, F⟩

theorem lkL_some {m : Nat} {ρ : List (Nat × Nat)} {objs : List (Nat × Ob)} {os : List Nat} {F : Nat → Nat → Prop} {n : Nat} {p : Loc × Ob} (h : lkL m ρ objs os L F n = some p) :
    ∃ o l x, os[n]? = some o ∧ L o = some (l, x) ∧ p = (l, mapO m ρ objs n x) := by
  simp only [lkL] at h
  split at h
  · rename_i o ho
    cases hL : L o with
    | none => rw [hL] at h; simp at h
    | some q => rw [hL] at h; simp only [Option.map_some, Option.some.injEq] at h; exact ⟨o, q.1, q.2, ho, hL, h.symm⟩
  · cases h

theorem lkL_sees {m : Nat} {objs : List (Nat × Ob)} {os : List Nat} {F : Nat → Nat → Prop} : Sees m (zipN 0 os) objs L (lkL m (zipN 0 os) objs os L F) := by
  intro o n hf l x hL
  obtain ⟨_, h2⟩ := find_zipN hf
  simp only [Nat.sub_zero] at h2
  simp only [lkL, h2, hL, Option.map_some]

/-- What a call is handed. -/
theorem RelO.enter (h : RelO K w0 M0 L w) {objs : List (Nat × Ob)} (ho : ∀ o x, (o, x) ∈ objs → ∃ l, L o = some (l, x)) (hnd : (objs.map (·.1)).Nodup) (F : Nat → Nat → Prop)
    (hF : ∀ b o, F b o → L.F b o ∨ ∃ i p, i ∉ objs.map (·.1) ∧ L i = some p ∧ inR p b o) {Lc : Lk} (hLc : Lc = lkL 0 (zipN 0 (objs.map (·.1))) objs (objs.map (·.1)) L F) :
    RelO K w ⟨MutO Lc, Lc.F⟩ Lc w ∧ (∀ i, (mapOs 0 (zipN 0 (objs.map (·.1))) objs 0 objs)[i]? = (Lc i).map (·.2)) ∧ (∀ b o, MutO Lc b o ↔ ∃ i p, i ∈ objs.map (·.1) ∧ L i = some p ∧ inR p b o) ∧ (∀ b o, Mut Lc b o → Mut L b o) := by
  subst hLc
  have hsh : Shows objs L := fun i x hg => ho i x (getO_mem hg)
  have hm1 : ∀ b o, MutO (lkL 0 (zipN 0 (objs.map (·.1))) objs (objs.map (·.1)) L F) b o → ∃ i p, i ∈ objs.map (·.1) ∧ L i = some p ∧ inR p b o := by
    rintro b o ⟨n, p, hp, hr⟩
    obtain ⟨i, l, x, h1, h2, rfl⟩ := lkL_some hp
    exact ⟨i, _, List.mem_of_getElem? h1, h2, inR_mapO.1 hr⟩
  have hm2 : ∀ b o, (∃ i p, i ∈ objs.map (·.1) ∧ L i = some p ∧ inR p b o) → MutO (lkL 0 (zipN 0 (objs.map (·.1))) objs (objs.map (·.1)) L F) b o := by
    rintro b o ⟨i, ⟨l, x⟩, hi, hL, hr⟩
    obtain ⟨n, hn, rfl⟩ := List.mem_iff_getElem.1 hi
    refine ⟨n, (l, mapO 0 (zipN 0 (objs.map (·.1))) objs n x), ?_, inR_mapO.2 hr⟩
    simp only [lkL, List.getElem?_eq_getElem hn, hL, Option.map_some]
  have hmO : ∀ b o, MutO (lkL 0 (zipN 0 (objs.map (·.1))) objs (objs.map (·.1)) L F) b o → MutO L b o := fun b o hm => by
    obtain ⟨i, p, _, h2, h3⟩ := hm1 b o hm; exact ⟨i, p, h2, h3⟩
  have hmm : ∀ b o, Mut (lkL 0 (zipN 0 (objs.map (·.1))) objs (objs.map (·.1)) L F) b o → Mut L b o := by
    rintro b o (hf | hm)
    · rcases hF b o hf with h1 | ⟨i, p, _, h2, h3⟩
      · exact .inl h1
      · exact .inr ⟨i, p, h2, h3⟩
    · exact .inr (hmO b o hm)
  have ht := Tr.sub (w := w) hmm
  refine ⟨⟨Fr.refl w _, ?_, ?_, fun b o hm _ => hm, rfl, ?_, ?_, h.g, h.gs, fun b o hm => h.gb b o (hmO b o hm)⟩, fun i => ?_, fun b o => ⟨hm1 b o, hm2 b o⟩, hmm⟩
  · intro n p hp
    obtain ⟨i, l, x, h1, h2, rfl⟩ := lkL_some hp
    exact okO_mapO hsh lkL_sees ht (h.ok _ _ h2)
  · intro n n' p q b o hp hq hr hr'
    obtain ⟨i, l, x, h1, h2, rfl⟩ := lkL_some hp
    obtain ⟨j, l', x', h3, h4, rfl⟩ := lkL_some hq
    have := h.sep i j _ _ b o h2 h4 (inR_mapO.1 hr) (inR_mapO.1 hr')
    subst this
    obtain ⟨hn, e1⟩ := List.getElem?_eq_some_iff.1 h1
    obtain ⟨hn', e2⟩ := List.getElem?_eq_some_iff.1 h3
    exact (List.getElem_inj hnd).1 (e1.trans e2.symm)
  · intro b o hf
    rcases hF b o hf with h1 | ⟨i, p, _, h2, h3⟩
    · rw [h.ff] at h1; exact Nat.lt_of_lt_of_le (h.fs b o h1) h.fr.size
    · exact inR_lt (h.ok _ _ h2) h3
  · intro b o hm hf
    obtain ⟨i, p, hi, h2, h3⟩ := hm1 b o hm
    rcases hF b o hf with h1 | ⟨j, q, hj, h4, h5⟩
    · rw [h.ff] at h1; exact h.fo b o ⟨i, p, h2, h3⟩ h1
    · have := h.sep i j p q b o h2 h4 h3 h5
      subst this; exact hj hi
  · rw [mapOs_get]
    simp only [lkL, List.getElem?_map]
    cases hi : objs[i]? with
    | none => simp
    | some p =>
      obtain ⟨l, hl⟩ := ho p.1 p.2 (List.mem_of_getElem? hi)
      simp [hl]

/-- What may be read behind lent slices. -/
def Out (L : Lk) (bs : List Nat) (M' : Nat → Nat → Prop) : Prop := ∀ b o, M' b o → Mut L b o ∧ ∀ i ∈ bs, ∀ p, L i = some p → ¬ inR p b o

theorem Out.tr {bs : List Nat} (h : Out L bs M) : Tr w (Mut L) w M := Tr.sub fun b o hm => (h b o hm).1

theorem lend1_ok (R : Rl K w0 M0 L st a w) {x : AV} {v : Value} (hv : rel L w (Mut L) x v) {bs : List Nat} {k : AV → List Nat → Cmd} {t : List Ac} {r : Rz} (h : (lend1 x bs k).ex st t = some r) :
    ∃ x' bs' t', (k x' bs').ex st t' = some r ∧ (∀ i ∈ bs, i ∈ bs') ∧ (∀ i ∈ bs', i ∈ bs ∨ ∃ e v z l, getO st.objs i = some (.arr e v z l)) ∧ ∀ M', Out L bs' M' → rel L w M' x' v := by
  have same : ∀ {y : AV} {ts : List Ac}, (k y bs).ex st ts = some r → rel L w (Mut L) y v → ∃ x' bs' t', (k x' bs').ex st t' = some r ∧ (∀ i ∈ bs, i ∈ bs') ∧ (∀ i ∈ bs', i ∈ bs ∨ ∃ e v z l, getO st.objs i = some (.arr e v z l)) ∧ ∀ M', Out L bs' M' → rel L w M' x' v :=
    fun h hy => ⟨_, bs, _, h, fun _ => id, fun _ => .inl, fun M' ho => rel_tr (Turn.refl L) ho.tr _ hy⟩
  cases x with
  | ref j ver =>
    obtain ⟨z, h2, h3⟩ := ex_getO h
    cases z with
    | var _ => exact (ex_fail h3).elim
    | arr e v' z xs =>
      simp only at h3
      split at h3
      case isFalse => exact (ex_fail h3).elim
      rename_i hver
      refine ⟨_, _, _, h3, fun i hi => List.mem_cons_of_mem _ hi, fun i hi => ?_, fun M' ho => ?_⟩
      · rcases List.mem_cons.1 hi with rfl | hi
        · exact .inr ⟨_, _, _, _, h2⟩
        · exact .inl hi
      · simp only [rel] at hv
        obtain ⟨l0, e', cur, z', xs', p, m, cc, h4, h5, h6, h7⟩ := hv
        have hob := R.ob j
        rw [h2, h4] at hob
        simp only [Option.map_some, Option.some.injEq, Ob.arr.injEq] at hob
        obtain ⟨rfl, rfl, rfl, hxs⟩ := hob
        have hxs := eq_of_heq hxs
        subst hxs
        obtain ⟨rfl, rfl, rfl⟩ := h7 hver
        simp only [rel, rd]
        rcases R.ro.ok j _ h4 with ⟨h8, h9, h10⟩ | ⟨b, o0, h8, h9, h10, h11, h12⟩
        · subst h9
          exact ⟨_, _, _, by rw [h6], rfl, Nat.zero_le _, .inl rfl⟩
        · replace h8 : l0.base = some (b, o0) := h8
          refine ⟨_, _, _, by rw [h6], rfl, h9, .inr ⟨b, o0, by simp [Loc.addr, h8], fun i hi => ?_⟩⟩
          obtain ⟨ds, k1, k2, k3⟩ := h10 i hi
          refine ⟨ds, k1, rd_tr ho.tr e k2, fun q hq => ⟨k3 q hq, fun hM => ?_⟩⟩
          obtain ⟨o1, o2⟩ := ho _ _ hM
          have hlt := mul_lt hi hq
          cases z with
          | true => exact h12 rfl _ hlt (by rw [← Nat.add_assoc]; exact o1)
          | false =>
            refine o2 j (List.mem_cons_self ..) _ h4 ⟨o0, h8, by omega, ?_⟩
            have : xs.length * e.size ≤ l0.cap * e.size := Nat.mul_le_mul_right _ h9
            simp only [ext, Bool.false_eq_true, if_false]; omega
  | nil e =>
    refine ⟨_, bs, _, h, fun _ => id, fun _ => .inl, fun M' ho => ?_⟩
    simp only [rel, rd]
    exact ⟨none, 0, 0, by rw [rel_nil hv], rfl, Nat.le_refl _, .inl trivial⟩
  | _ => exact same h hv

theorem lends_ok (R : Rl K w0 M0 L st a w) : ∀ (xs : List AV) {vs : List Value} (hv : rels L w (Mut L) xs vs) {bs : List Nat} {k : List AV → List Nat → Cmd} {t : List Ac} {r : Rz} (h : (lends xs bs k).ex st t = some r),
    ∃ xs' bs' t', (k xs' bs').ex st t' = some r ∧ (∀ i ∈ bs, i ∈ bs') ∧ (∀ i ∈ bs', i ∈ bs ∨ ∃ e v z l, getO st.objs i = some (.arr e v z l)) ∧ ∀ M', Out L bs' M' → rels L w M' xs' vs
  | [], vs, hv, bs, k, t, r, h => ⟨[], bs, t, h, fun _ => id, fun _ => .inl, fun M' _ => by simpa [rels] using hv⟩
  | x :: xs, vs, hv, bs, k, t, r, h => by
    obtain ⟨c, cs, rfl, h1, h2⟩ := rels_cons hv
    simp only [lends] at h
    obtain ⟨x', bs1, t1, e1, e2, e3, e4⟩ := lend1_ok R h1 h
    obtain ⟨xs', bs2, t2, f1, f2, f3, f4⟩ := lends_ok R xs h2 e1
    refine ⟨_, bs2, t2, f1, fun i hi => f2 i (e2 i hi), fun i hi => ?_, fun M' ho => ?_⟩
    · rcases f3 i hi with h | h
      · exact e3 i h
      · exact .inr h
    · simp only [rels]
      exact ⟨c, cs, rfl, e4 M' fun b o hm => ⟨(ho b o hm).1, fun i hi => (ho b o hm).2 i (f2 i hi)⟩, f4 M' ho⟩

theorem lend_ok (R : Rl K w0 M0 L st a w) {x : AV} {v : Value} (hv : rel L w (Mut L) x v) {bs : List Nat} {k : AV → List Nat → Cmd} {t : List Ac} {r : Rz} (h : (lend x bs k).ex st t = some r) :
    ∃ x' bs' t', (k x' bs').ex st t' = some r ∧ (∀ i ∈ bs, i ∈ bs') ∧ (∀ i ∈ bs', i ∈ bs ∨ ∃ e v z l, getO st.objs i = some (.arr e v z l)) ∧ ∀ M', Out L bs' M' → rel L w M' x' v := by
  cases x with
  | agg vs =>
    simp only [lend] at h
    simp only [rel] at hv
    obtain ⟨cs, rfl, h1, h2⟩ := hv
    obtain ⟨xs', bs', t', e1, e2, e3, e4⟩ := lends_ok R vs h1 h
    exact ⟨_, bs', t', e1, e2, e3, fun M' ho => by simp only [rel]; exact ⟨cs, rfl, e4 M' ho, h2⟩⟩
  | _ => exact lend1_ok R hv (by simpa only [lend] using h)

theorem lendAll_ok (R : Rl K w0 M0 L st a w) : ∀ (xs : List AV) {vs : List Value} (hv : rels L w (Mut L) xs vs) {bs : List Nat} {k : List AV → List Nat → Cmd} {t : List Ac} {r : Rz} (h : (lendAll xs bs k).ex st t = some r),
    ∃ xs' bs' t', (k xs' bs').ex st t' = some r ∧ (∀ i ∈ bs, i ∈ bs') ∧ (∀ i ∈ bs', i ∈ bs ∨ ∃ e v z l, getO st.objs i = some (.arr e v z l)) ∧ ∀ M', Out L bs' M' → rels L w M' xs' vs
  | [], vs, hv, bs, k, t, r, h => ⟨[], bs, t, h, fun _ => id, fun _ => .inl, fun M' _ => by simpa [rels] using hv⟩
  | x :: xs, vs, hv, bs, k, t, r, h => by
    obtain ⟨c, cs, rfl, h1, h2⟩ := rels_cons hv
    simp only [lendAll] at h
    obtain ⟨x', bs1, t1, e1, e2, e3, e4⟩ := lend_ok R h1 h
    obtain ⟨xs', bs2, t2, f1, f2, f3, f4⟩ := lendAll_ok R xs h2 e1
    refine ⟨_, bs2, t2, f1, fun i hi => f2 i (e2 i hi), fun i hi => ?_, fun M' ho => ?_⟩
    · rcases f3 i hi with h | h
      · exact e3 i h
      · exact .inr h
    · simp only [rels]
      exact ⟨c, cs, rfl, e4 M' fun b o hm => ⟨(ho b o hm).1, fun i hi => (ho b o hm).2 i (f2 i hi)⟩, f4 M' ho⟩

end Go.Proofs.Ytmigffdeghfbhaa.Ev
