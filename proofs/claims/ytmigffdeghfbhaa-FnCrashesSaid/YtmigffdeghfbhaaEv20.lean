/- Calls: what comes back. -/
import Derived.Test.YtmigffdeghfbhaaEv19
namespace Go.Proofs.Ytmigffdeghfbhaa.Ev
open Go Go.RowKit
set_option linter.unusedSimpArgs false
set_option linter.unusedVariables false

variable {K : Ctx} {w0 : World} {M0 : Bd} {L L' : Lk} {st : St} {a : Act} {w : World} {o : Oper} {M M' : Nat → Nat → Prop}

theorem rd_flat : ∀ (e : Ty) {x : Den e} {ds : List Value}, e.hasSlice = false → rd w M e x ds → rd w M' e x ds
  | .int _, _, _, _, h => h
  | .bool, _, _, _, h => h
  | .str, _, _, _, h => h
  | .slice _, _, _, he, _ => by simp [Ty.hasSlice] at he
  | .pair a b, _, _, he, h => by
    simp only [Ty.hasSlice, Bool.or_eq_false_iff] at he
    obtain ⟨c, d, h1, h2, h3⟩ := h
    exact ⟨c, d, h1, rd_flat a he.1 h2, rd_flat b he.2 h3⟩
  | .unit, _, _, _, h => h

/-- Later versions under other numbers. -/
def Ups (f g : Nat → Nat) (L L' : Lk) : Prop := ∀ q l x, L q = some (l, x) → L' (f q) = some (l, x.up f g q)

mutual
theorem up_rel {f g : Nat → Nat} (hU : Ups f g L L') : ∀ (x : AV) {v : Value}, (x.hasSh = false ∨ Tr w M w M') → rel L w M x v → rel L' w M' (x.up f g) v
  | .undef, _, _, _ => by simp [AV.up, rel]
  | .int _ _, _, _, h => by simpa [AV.up, rel] using h
  | .bool _, _, _, h => by simpa [AV.up, rel] using h
  | .str _, _, _, h => by simpa [AV.up, rel] using h
  | .sh e l, _, hd, h => by
    rcases hd with hd | ht
    · simp [AV.hasSh] at hd
    · simp only [AV.up, rel] at h ⊢; exact rd_slice_tr ht h
  | .nil _, _, _, h => by simpa [AV.up, rel] using h
  | .sel e x off, _, hd, h => by
    rcases hd with hd | ht
    · simp [AV.hasSh] at hd
    simp only [AV.up, rel] at h ⊢
    obtain ⟨b, o, ds, h1, h2, h3, h4⟩ := h
    refine ⟨b, o, ds, h1, h2, rd_tr ht e h3, fun j hj => ?_⟩
    obtain ⟨h5, h6⟩ := h4 j hj
    have : ds[j]? = some (ds[j]'(by omega)) := by simp [h2, hj]
    rw [this] at h5 ⊢
    exact ⟨(ht _ _ _ h6 h5).2, (ht _ _ _ h6 h5).1⟩
  | .ref i ver, _, _, h => by
    simp only [AV.up, rel] at h ⊢
    obtain ⟨l, e, cur, z, xs, p, n', c, h1, h2, hp, h3⟩ := h
    exact ⟨l, e, _, z, xs, p, n', c, hU _ _ _ h1, by omega, hp, fun hv => h3 (by omega)⟩
  | .ptr i off, _, _, h => by
    simp only [AV.up, rel] at h ⊢
    obtain ⟨b, o, cap, cs, h1, h2⟩ := h
    exact ⟨b, o, cap, _, hU _ _ _ h1, h2⟩
  | .eptr i ver k off, _, _, h => by
    simp only [AV.up, rel] at h ⊢
    obtain ⟨l, e, cur, z, xs, p, h1, h2, hp, h3⟩ := h
    exact ⟨l, e, _, z, xs, p, hU _ _ _ h1, by omega, hp, fun hv => h3 (by omega)⟩
  | .nilp, _, _, h => by simpa [AV.up, rel] using h
  | .fn f' cap, _, hd, h => by
    simp only [AV.up, rel] at h ⊢
    obtain ⟨cs, h1, h2⟩ := h
    exact ⟨cs, h1, ups_rel hU cap (by simpa only [AV.hasSh] using hd) h2⟩
  | .nilfn, _, _, h => by simpa [AV.up, rel] using h
  | .noerr, _, _, h => by simpa [AV.up, rel] using h
  | .err, _, _, h => by simpa [AV.up, rel] using h
  | .agg vs, _, hd, h => by
    simp only [AV.up, rel] at h ⊢
    obtain ⟨cs, h1, h2, h3⟩ := h
    exact ⟨cs, h1, ups_rel hU vs (by simpa only [AV.hasSh] using hd) h2, h3⟩
  | .tup vs, _, hd, h => by
    simp only [AV.up, rel] at h ⊢
    obtain ⟨cs, h1, h2⟩ := h
    exact ⟨cs, h1, ups_rel hU vs (by simpa only [AV.hasSh] using hd) h2⟩
theorem ups_rel {f g : Nat → Nat} (hU : Ups f g L L') : ∀ (xs : List AV) {vs : List Value}, (AV.hasShs xs = false ∨ Tr w M w M') → rels L w M xs vs → rels L' w M' (AV.ups f g xs) vs
  | [], _, _, h => by simpa [AV.ups, rels] using h
  | x :: xs, _, hd, h => by
    simp only [AV.ups, rels] at h ⊢
    obtain ⟨c, cs', h1, h2, h3⟩ := h
    have hd1 : x.hasSh = false ∨ Tr w M w M' := hd.imp (fun h => by simp only [AV.hasShs, Bool.or_eq_false_iff] at h; exact h.1) id
    have hd2 : AV.hasShs xs = false ∨ Tr w M w M' := hd.imp (fun h => by simp only [AV.hasShs, Bool.or_eq_false_iff] at h; exact h.2) id
    exact ⟨c, cs', h1, up_rel hU x hd1 h2, ups_rel hU xs hd2 h3⟩
end

theorem length_ups (f g : Nat → Nat) : ∀ (cs : List AV), (AV.ups f g cs).length = cs.length
  | [] => rfl
  | c :: cs => by simp [AV.ups, length_ups f g cs]

theorem ext_up (f g : Nat → Nat) (q : Nat) (l : Loc) (x : Ob) : ext (l, x.up f g q) = ext (l, x) := by
  cases x with
  | var cs => simp [Ob.up, ext, length_ups]
  | arr e v z xs => simp [Ob.up, ext]

theorem inR_up {f g : Nat → Nat} {q : Nat} {l : Loc} {x : Ob} {b o : Nat} : inR (l, x.up f g q) b o ↔ inR (l, x) b o := by
  unfold inR; rw [ext_up]

theorem okO_up {f g : Nat → Nat} {q : Nat} {l : Loc} {x : Ob} (hU : Ups f g L L') (hd : x.hasSh = false ∨ Tr w (Mut L) w (Mut L')) (h : okO L w (l, x)) : okO L' w (l, x.up f g q) := by
  cases x with
  | var cs =>
    obtain ⟨b, o, vs, h1, h2, h3, h4⟩ := h
    exact ⟨b, o, vs, h1, ups_rel hU cs (by simpa only [Ob.hasSh] using hd) h2, h3, fun j hj => h4 j (by rwa [length_ups] at hj)⟩
  | arr e v z xs =>
    rcases h with h | ⟨b, o, h1, h2, h3, h4, h5⟩
    · exact .inl h
    · refine .inr ⟨b, o, h1, h2, fun i hi => ?_, h4, fun hz j hj => ?_⟩
      · obtain ⟨ds, h6, h7, h8⟩ := h3 i hi
        refine ⟨ds, h6, ?_, h8⟩
        rcases hd with hd | ht
        · simp only [Ob.hasSh, Bool.or_eq_false_iff] at hd
          exact rd_flat e hd.1 h7
        · exact rd_tr ht e h7
      · rcases hd with hd | ht
        · simp only [Ob.hasSh, Bool.or_eq_false_iff] at hd
          rw [hd.2] at hz; cases hz
        have hn := h5 hz j hj
        have hes : 0 < e.size := by
          rcases Nat.eq_zero_or_pos e.size with h | h
          · rw [h] at hj; simp at hj
          · exact h
        obtain ⟨ds, h6, _, h8⟩ := h3 (j / e.size) (Nat.div_lt_of_lt_mul (by rw [Nat.mul_comm]; exact hj))
        have h9 := h8 (j % e.size) (Nat.mod_lt _ hes)
        have e1 : o + j / e.size * e.size + j % e.size = o + j := by
          have := Nat.div_add_mod j e.size
          rw [Nat.mul_comm] at this; omega
        rw [e1, List.getElem?_eq_getElem (by rw [h6]; exact Nat.mod_lt _ hes)] at h9
        exact (ht _ _ _ hn h9).1

/-- Where an object is laid back. -/
def tgt (os : List Nat) (n q : Nat) : Nat := if q < os.length then os.getD q 0 else n + (q - os.length)

theorem back_ok {f g : Nat → Nat} : ∀ (l : List Ob) (j : Nat) (os : List Nat) (n : Nat) {c : Cmd} {st : St} {t : List Ac} {r : Rz}, (back f g j os n l c).ex st t = some r → os.length ≤ l.length → os.Nodup →
    ∃ objs t', c.ex ⟨st.env, objs⟩ t' = some r ∧ (∀ q x, l[q]? = some x → getO objs (tgt os n q) = some (x.up f g (j + q))) ∧ (∀ i, (∀ q, q < l.length → tgt os n q ≠ i) → getO objs i = getO st.objs i) ∧
      (∀ q, os.length ≤ q → q < l.length → getO st.objs (tgt os n q) = none) ∧ ∀ i ∈ os, ∃ y, getO st.objs i = some y
  | [], j, os, n, c, st, t, r, h, hl, hn => by
    have : os = [] := by simpa using hl
    subst this
    exact ⟨st.objs, t, by simpa [back] using h, fun q x hx => by simp at hx, fun i _ => rfl, fun q _ hq => by simp at hq, fun i hi => by simp at hi⟩
  | x :: l, j, o :: os, n, c, st, t, r, h, hl, hn => by
    simp only [back] at h
    obtain ⟨⟨y, hy⟩, h1⟩ := ex_putO h
    obtain ⟨hn1, hn2⟩ := List.nodup_cons.1 hn
    obtain ⟨objs, t', e1, e2, e3, e4, e5⟩ := back_ok l (j + 1) os n h1 (by simpa using hl) hn2
    have htg : ∀ q, tgt (o :: os) n (q + 1) = tgt os n q := fun q => by simp [tgt]
    have hne : ∀ q, q < l.length → tgt os n q ≠ o := fun q hq he => by
      by_cases hqo : q < os.length
      · simp only [tgt, if_pos hqo] at he
        have : os[q]'hqo = o := by simpa [List.getD, hqo] using he
        exact hn1 (this ▸ List.getElem_mem _)
      · have := e4 q (by omega) hq
        rw [he] at this; simp [getO_putO] at this
    refine ⟨objs, t', e1, fun q z hz => ?_, fun i hi => ?_, fun q hq1 hq2 => ?_, fun i hi => ?_⟩
    · cases q with
      | zero =>
        simp only [List.getElem?_cons_zero, Option.some.injEq] at hz
        subst hz
        rw [show tgt (o :: os) n 0 = o by simp [tgt], e3 o hne]
        simp [getO_putO]
      | succ q =>
        rw [htg, show j + (q + 1) = j + 1 + q by omega]
        exact e2 q z (by simpa using hz)
    · rw [e3 i fun q hq => by rw [← htg]; exact hi (q + 1) (by simpa using hq)]
      rw [getO_putO, if_neg]
      intro he; subst he
      exact hi 0 (by simp) (by simp [tgt])
    · cases q with
      | zero => simp at hq1
      | succ q =>
        have := e4 q (by simpa using hq1) (by simpa using hq2)
        rw [htg]
        rw [getO_putO] at this
        split at this
        · cases this
        · exact this
    · rcases List.mem_cons.1 hi with rfl | hi
      · exact ⟨y, hy⟩
      · obtain ⟨y', hy'⟩ := e5 i hi
        rw [getO_putO] at hy'
        split at hy'
        · rename_i he; subst he; exact ⟨y, hy⟩
        · exact ⟨y', hy'⟩
  | x :: l, j, [], n, c, st, t, r, h, hl, hn => by
    simp only [back] at h
    obtain ⟨hy, h1⟩ := ex_newO h
    obtain ⟨objs, t', e1, e2, e3, e4, e5⟩ := back_ok l (j + 1) [] (n + 1) h1 (by simp) List.nodup_nil
    have htg : ∀ q, tgt [] n (q + 1) = tgt [] (n + 1) q := fun q => by simp [tgt]; omega
    have hne : ∀ q, q < l.length → tgt [] (n + 1) q ≠ n := fun q hq he => by simp [tgt] at he; omega
    refine ⟨objs, t', e1, fun q z hz => ?_, fun i hi => ?_, fun q hq1 hq2 => ?_, fun i hi => by simp at hi⟩
    · cases q with
      | zero =>
        simp only [List.getElem?_cons_zero, Option.some.injEq] at hz
        subst hz
        rw [show tgt [] n 0 = n by simp [tgt], e3 n hne]
        simp [getO_putO]
      | succ q =>
        rw [htg, show j + (q + 1) = j + 1 + q by omega]
        exact e2 q z (by simpa using hz)
    · rw [e3 i fun q hq => by rw [← htg]; exact hi (q + 1) (by simpa using hq)]
      rw [getO_putO, if_neg]
      intro he; subst he
      exact hi 0 (by simp) (by simp [tgt])
    · cases q with
      | zero => rw [show tgt [] n 0 = n by simp [tgt]]; exact hy
      | succ q =>
        have := e4 q (by simp) (by simpa using hq2)
        rw [htg]
        rw [getO_putO] at this
        split at this
        · cases this
        · exact this

def frzO : Ob → Ob
  | .arr e v _ l => .arr e v true l
  | .var cs => .var cs

theorem freezes_ok : ∀ (bs : List Nat) {c : Cmd} {st : St} {t : List Ac} {r : Rz}, (freezes bs c).ex st t = some r →
    ∃ objs t', c.ex ⟨st.env, objs⟩ t' = some r ∧ ∀ i, getO objs i = if i ∈ bs then (getO st.objs i).map frzO else getO st.objs i
  | [], c, st, t, r, h => ⟨st.objs, t, by simpa [freezes] using h, fun i => by simp⟩
  | o :: bs, c, st, t, r, h => by
    simp only [freezes] at h
    obtain ⟨y, hy, h1⟩ := ex_getO h
    cases y with
    | var _ => exact (ex_fail h1).elim
    | arr e v z l =>
      obtain ⟨_, h2⟩ := ex_putO h1
      obtain ⟨objs, t', e1, e2⟩ := freezes_ok bs h2
      refine ⟨objs, t', e1, fun i => ?_⟩
      rw [e2 i, getO_putO]
      by_cases hi : i = o
      · subst hi
        by_cases hb : i ∈ bs <;> simp [hb, hy, frzO]
      · by_cases hb : i ∈ bs <;> simp [hb, hi]

/-- Some own slices are frozen. -/
def lkF (bs : List Nat) (L : Lk) : Lk := ⟨fun i => open Classical in if i ∈ bs then (L i).map fun p => (p.1, frzO p.2) else L i, L.F⟩

theorem RelO.freezeAll (hK : K.Ok) : ∀ (bs : List Nat) {L : Lk}, RelO K w0 M0 L w → (∀ i ∈ bs, ∃ l e v z xs, L i = some (l, .arr e v z xs)) →
    RelO K w0 M0 (lkF bs L) w ∧ Tr w (Mut L) w (Mut (lkF bs L)) ∧ Turn L (lkF bs L)
  | [], L, h, _ => by
    have : lkF [] L = L := by cases L; simp [lkF]
    rw [this]; exact ⟨h, Tr.refl _ _, Turn.refl L⟩
  | o :: bs, L, h, hb => by
    obtain ⟨l, e, v, z, xs, hL⟩ := hb o (List.mem_cons_self ..)
    obtain ⟨q1, q2, q3⟩ := h.freeze hK hL
    obtain ⟨r1, r2, r3⟩ := RelO.freezeAll hK bs q1 fun i hi => by
      by_cases hio : i = o
      · subst hio; exact ⟨_, _, _, _, _, upd_same _ _ _⟩
      · rw [upd_other L _ hio]; exact hb i (List.mem_cons_of_mem _ hi)
    have : lkF bs (upd L o (l, .arr e v true xs)) = lkF (o :: bs) L := by
      simp only [lkF, upd]
      congr 1
      funext i
      by_cases hio : i = o
      · subst hio
        by_cases hb : i ∈ bs <;> simp [hb, hL, frzO]
      · by_cases hb : i ∈ bs <;> simp [hb, hio]
    rw [this] at r1 r2 r3
    exact ⟨r1, q2.trans r2, q3.trans r3⟩

theorem lkF_inR {bs : List Nat} {i : Nat} {p : Loc × Ob} {b o : Nat} (h : lkF bs L i = some p) (hr : inR p b o) : ∃ q, L i = some q ∧ inR q b o := by
  simp only [lkF] at h
  split at h
  · cases hL : L i with
    | none => rw [hL] at h; simp at h
    | some q =>
      rw [hL] at h; simp only [Option.map_some, Option.some.injEq] at h
      subst h
      refine ⟨q, rfl, ?_⟩
      obtain ⟨l, x⟩ := q
      cases x with
      | var cs => exact hr
      | arr e v z xs => obtain ⟨o0, e1, e2, e3⟩ := hr; simp [frzO, ext] at e3; omega
  · exact ⟨p, h, hr⟩

end Go.Proofs.Ytmigffdeghfbhaa.Ev
