/- Objects under new numbers. -/
import Derived.Test.YtmigffdeghfbhaaEv16
namespace Go.Proofs.Ytmigffdeghfbhaa.Ev
open Go Go.RowKit
set_option linter.unusedSimpArgs false
set_option linter.unusedVariables false

variable {K : Ctx} {w0 : World} {M0 : Bd} {L L' : Lk} {st : St} {a : Act} {w : World} {o : Oper} {M : Nat → Nat → Prop}

theorem vmap_le (m n v : Nat) : vmap m n v ≤ v := by unfold vmap; split; split <;> omega; omega
theorem vmap_zero {m n v : Nat} (hn : n < m) (h : vmap m n v = 0) : v = 0 := by
  unfold vmap at h; rw [if_pos hn] at h; cases v with
  | zero => rfl
  | succ v => simp at h

def Shows (objs : List (Nat × Ob)) (L : Lk) : Prop := ∀ i x, getO objs i = some x → ∃ l, L i = some (l, x)

def Sees (m : Nat) (ρ : List (Nat × Nat)) (objs : List (Nat × Ob)) (L L' : Lk) : Prop := ∀ o n, find o ρ = some n → ∀ l x, L o = some (l, x) → L' n = some (l, mapO m ρ objs n x)

theorem current_spec {objs : List (Nat × Ob)} {o ver : Nat} (h : current objs o ver = true) : ∃ e z xs, getO objs o = some (.arr e ver z xs) := by
  unfold current at h
  split at h
  · rename_i e v z xs hg
    simp only [decide_eq_true_eq] at h
    subst h
    exact ⟨_, _, _, hg⟩
  · cases h

mutual
theorem mapR_rel {m : Nat} {ρ : List (Nat × Nat)} {objs : List (Nat × Ob)} {w' : World} {M' : Nat → Nat → Prop} (hs : Shows objs L) (hS : Sees m ρ objs L L') (ht : Tr w M w' M') : ∀ (x : AV) {v : Value}, rel L w M x v → rel L' w' M' (mapR m ρ objs x) v
  | .undef, _, _ => by simp [mapR, rel]
  | .int _ _, _, h => by simpa [mapR, rel] using h
  | .bool _, _, h => by simpa [mapR, rel] using h
  | .str _, _, h => by simpa [mapR, rel] using h
  | .sh e l, _, h => by simp only [mapR, rel] at h ⊢; exact rd_slice_tr ht h
  | .nil _, _, h => by simpa [mapR, rel] using h
  | .sel e x off, _, h => by
    simp only [mapR, rel] at h ⊢
    obtain ⟨b, o, ds, h1, h2, h3, h4⟩ := h
    refine ⟨b, o, ds, h1, h2, rd_tr ht e h3, fun j hj => ?_⟩
    obtain ⟨h5, h6⟩ := h4 j hj
    have : ds[j]? = some (ds[j]'(by omega)) := by simp [h2, hj]
    rw [this] at h5 ⊢
    exact ⟨(ht _ _ _ h6 h5).2, (ht _ _ _ h6 h5).1⟩
  | .ref i ver, _, h => by
    simp only [mapR]
    split
    · rename_i hc
      split
      · rename_i n hn
        simp only [rel] at h ⊢
        obtain ⟨l, e, cur, z, xs, p, n', c, h1, h2, hp, h3⟩ := h
        obtain ⟨e', z', xs', hg⟩ := current_spec hc
        obtain ⟨l', hl⟩ := hs _ _ hg
        rw [h1] at hl
        simp only [Option.some.injEq, Prod.mk.injEq, Ob.arr.injEq] at hl
        obtain ⟨rfl, rfl, rfl, rfl, _⟩ := hl
        have := hS _ _ hn _ _ h1
        exact ⟨l, e, _, z, xs, p, n', c, this, Nat.le_refl _, hp, fun _ => h3 rfl⟩
      · simp [rel]
    · simp [rel]
  | .ptr i off, _, h => by
    simp only [mapR]
    split
    · rename_i n hn
      simp only [rel] at h ⊢
      obtain ⟨b, o, cap, cs, h1, h2⟩ := h
      exact ⟨b, o, cap, _, hS _ _ hn _ _ h1, h2⟩
    · simp [rel]
  | .eptr i ver k off, _, h => by
    simp only [mapR]
    split
    · rename_i hc
      split
      · rename_i n hn
        simp only [rel] at h ⊢
        obtain ⟨l, e, cur, z, xs, p, h1, h2, hp, h3⟩ := h
        obtain ⟨e', z', xs', hg⟩ := current_spec hc
        obtain ⟨l', hl⟩ := hs _ _ hg
        rw [h1] at hl
        simp only [Option.some.injEq, Prod.mk.injEq, Ob.arr.injEq] at hl
        obtain ⟨rfl, rfl, rfl, rfl, _⟩ := hl
        exact ⟨l, e, _, z, xs, p, hS _ _ hn _ _ h1, Nat.le_refl _, hp, fun _ => h3 rfl⟩
      · simp [rel]
    · simp [rel]
  | .nilp, _, h => by simpa [mapR, rel] using h
  | .fn f cap, _, h => by
    simp only [mapR, rel] at h ⊢
    obtain ⟨cs, h1, h2⟩ := h
    exact ⟨cs, h1, mapRs_rel hs hS ht cap h2⟩
  | .nilfn, _, h => by simpa [mapR, rel] using h
  | .noerr, _, h => by simpa [mapR, rel] using h
  | .err, _, h => by simpa [mapR, rel] using h
  | .agg vs, _, h => by
    simp only [mapR, rel] at h ⊢
    obtain ⟨cs, h1, h2, h3⟩ := h
    exact ⟨cs, h1, mapRs_rel hs hS ht vs h2, h3⟩
  | .tup vs, _, h => by
    simp only [mapR, rel] at h ⊢
    obtain ⟨cs, h1, h2⟩ := h
    exact ⟨cs, h1, mapRs_rel hs hS ht vs h2⟩
theorem mapRs_rel {m : Nat} {ρ : List (Nat × Nat)} {objs : List (Nat × Ob)} {w' : World} {M' : Nat → Nat → Prop} (hs : Shows objs L) (hS : Sees m ρ objs L L') (ht : Tr w M w' M') : ∀ (xs : List AV) {vs : List Value}, rels L w M xs vs → rels L' w' M' (mapRs m ρ objs xs) vs
  | [], _, h => by simpa [mapRs, rels] using h
  | x :: xs, _, h => by
    simp only [mapRs, rels] at h ⊢
    obtain ⟨c, cs', h1, h2, h3⟩ := h
    exact ⟨c, cs', h1, mapR_rel hs hS ht x h2, mapRs_rel hs hS ht xs h3⟩
end

theorem ext_mapO (m : Nat) (ρ : List (Nat × Nat)) (objs : List (Nat × Ob)) (n : Nat) (l : Loc) (x : Ob) : ext (l, mapO m ρ objs n x) = ext (l, x) := by
  have hl : ∀ (cs : List AV), (mapRs m ρ objs cs).length = cs.length := by
    intro cs; induction cs with
    | nil => rfl
    | cons c cs ih => simp [mapRs, ih]
  cases x with
  | var cs => simp [mapO, ext, hl]
  | arr e v z xs => simp [mapO, ext]

theorem inR_mapO {m : Nat} {ρ : List (Nat × Nat)} {objs : List (Nat × Ob)} {n : Nat} {l : Loc} {x : Ob} {b o : Nat} : inR (l, mapO m ρ objs n x) b o ↔ inR (l, x) b o := by
  unfold inR; rw [ext_mapO]

theorem length_mapRs (m : Nat) (ρ : List (Nat × Nat)) (objs : List (Nat × Ob)) : ∀ (cs : List AV), (mapRs m ρ objs cs).length = cs.length
  | [] => rfl
  | c :: cs => by simp [mapRs, length_mapRs m ρ objs cs]

/-- An object under new numbers. -/
theorem okO_mapO {m : Nat} {ρ : List (Nat × Nat)} {objs : List (Nat × Ob)} {n : Nat} {l : Loc} {x : Ob} (hs : Shows objs L) (hS : Sees m ρ objs L L') (ht : Tr w (Mut L) w (Mut L')) (h : okO L w (l, x)) : okO L' w (l, mapO m ρ objs n x) := by
  cases x with
  | var cs =>
    obtain ⟨b, o, vs, h1, h2, h3, h4⟩ := h
    exact ⟨b, o, vs, h1, mapRs_rel hs hS ht cs h2, h3, fun j hj => h4 j (by rwa [length_mapRs] at hj)⟩
  | arr e v z xs =>
    rcases h with h | ⟨b, o, h1, h2, h3, h4, h5⟩
    · exact .inl h
    · refine .inr ⟨b, o, h1, h2, fun i hi => ?_, h4, fun hz j hj => ?_⟩
      · obtain ⟨ds, h6, h7, h8⟩ := h3 i hi
        exact ⟨ds, h6, rd_tr ht e h7, h8⟩
      · have hn := h5 hz j hj
        have hes : 0 < e.size := by
          rcases Nat.eq_zero_or_pos e.size with h | h
          · rw [h] at hj; simp at hj
          · exact h
        obtain ⟨ds, h6, _, h8⟩ := h3 (j / e.size) (Nat.div_lt_of_lt_mul (by rw [Nat.mul_comm]; exact hj))
        have h9 := h8 (j % e.size) (Nat.mod_lt _ hes)
        have e1 : o + j / e.size * e.size + j % e.size = o + j := by
          have := Nat.div_add_mod j e.size
          rw [Nat.mul_comm] at this; omega
        rw [e1, List.getElem?_eq_getElem (by rw [h6]; exact Nat.mod_lt _ hes)] at h9
        exact (ht _ _ _ hn h9).1

theorem Tr.sub {M M' : Nat → Nat → Prop} (h : ∀ b o, M' b o → M b o) : Tr w M w M' := fun b o v hn hv => ⟨fun h' => hn (h b o h'), hv⟩

/-- Some of the objects, under new numbers. -/
theorem RelO.ren {m : Nat} {ρ : List (Nat × Nat)} {objs : List (Nat × Ob)} (h : RelO K w0 M0 L w) (hs : Shows objs L) (hS : Sees m ρ objs L L') (hF : L'.F = L.F)
    (hb : ∀ n p', L' n = some p' → ∃ o l x, find o ρ = some n ∧ L o = some (l, x) ∧ p' = (l, mapO m ρ objs n x)) (hfun : ∀ o n n', find o ρ = some n → find o ρ = some n' → n = n') :
    RelO K w0 M0 L' w ∧ Tr w (Mut L) w (Mut L') := by
  have hmO : ∀ b o, MutO L' b o → MutO L b o := by
    rintro b o ⟨n, p', hp, hr⟩
    obtain ⟨i, l, x, _, h2, rfl⟩ := hb n p' hp
    exact ⟨i, _, h2, inR_mapO.1 hr⟩
  have ht : Tr w (Mut L) w (Mut L') := Tr.sub fun b o hm => hm.imp (fun hf => by rw [hF] at hf; exact hf) (hmO b o)
  refine ⟨⟨h.fr, ?_, ?_, fun b o hm => h.own b o (hmO b o hm), hF.trans h.ff, h.fs, fun b o hm => h.fo b o (hmO b o hm), h.g, h.gs, fun b o hm => h.gb b o (hmO b o hm)⟩, ht⟩
  · intro n p' hp
    obtain ⟨i, l, x, h1, h2, rfl⟩ := hb n p' hp
    exact okO_mapO hs hS ht (h.ok _ _ h2)
  · intro n n' p q b o hp hq hr hr'
    obtain ⟨i, l, x, h1, h2, rfl⟩ := hb n p hp
    obtain ⟨j, l', x', h3, h4, rfl⟩ := hb n' q hq
    have := h.sep i j _ _ b o h2 h4 (inR_mapO.1 hr) (inR_mapO.1 hr')
    subst this
    exact hfun _ _ _ h1 h3

/-- Objects that came in: where they lie is known as long as their version is none. -/
def Kept (m : Nat) (L0 L : Lk) : Prop := ∀ i, i < m → ∀ l x, L0 i = some (l, x) → ∃ l' x', L i = some (l', x') ∧
  match x with
  | .var _ => l' = l ∧ ∃ cs', x' = .var cs'
  | .arr e _ _ xs => ∃ cur' z' xs', x' = .arr e cur' z' xs' ∧ (cur' = 0 → l' = l ∧ xs'.length = xs.length)

theorem Kept.turn {m : Nat} {L0 : Lk} (h : Kept m L0 L) (hT : Turn L L') : Kept m L0 L' := by
  intro i hi l x hx
  obtain ⟨l', x', h1, h2⟩ := h i hi l x hx
  obtain ⟨l'', x'', h3, h4⟩ := hT i l' x' h1
  refine ⟨l'', x'', h3, ?_⟩
  cases x with
  | var cs =>
    obtain ⟨rfl, cs', rfl⟩ := h2
    exact h4
  | arr e v z xs =>
    obtain ⟨cur', z', xs', rfl, h5⟩ := h2
    obtain ⟨cur'', z'', xs'', rfl, h6, h7⟩ := h4
    refine ⟨cur'', z'', xs'', rfl, fun h0 => ?_⟩
    obtain ⟨h8, h9⟩ := h7 (by omega)
    obtain ⟨h10, h11⟩ := h5 (by omega)
    exact ⟨h8.trans h10, h9.trans h11⟩

theorem Kept.ren {m : Nat} {L0 : Lk} {ρ : List (Nat × Nat)} {objs : List (Nat × Ob)} (h : Kept m L0 L) (hS : Sees m ρ objs L L') (hfix : ∀ i, i < m → find i ρ = some i) : Kept m L0 L' := by
  intro i hi l x hx
  obtain ⟨l', x', h1, h2⟩ := h i hi l x hx
  refine ⟨l', _, hS i i (hfix i hi) _ _ h1, ?_⟩
  cases x with
  | var cs =>
    obtain ⟨rfl, cs', rfl⟩ := h2
    exact ⟨rfl, _, rfl⟩
  | arr e v z xs =>
    obtain ⟨cur', z', xs', rfl, h5⟩ := h2
    exact ⟨_, z', xs', rfl, fun h0 => h5 (vmap_zero hi h0)⟩

theorem fixes_spec {ρ : List (Nat × Nat)} : ∀ {m : Nat}, fixes ρ m = true → ∀ i, i < m → find i ρ = some i
  | 0, _, i, hi => by omega
  | m + 1, h, i, hi => by
    simp only [fixes, Bool.and_eq_true] at h
    by_cases he : i = m
    · subst he
      obtain ⟨h1, _⟩ := h
      split at h1
      · rename_i k hk; simp only [decide_eq_true_eq] at h1; rw [hk, h1]
      · cases h1
    · exact fixes_spec h.2 i (by omega)

theorem hasN_spec {n : Nat} : ∀ {l : List Nat}, hasN n l = true ↔ n ∈ l
  | [] => by simp [hasN]
  | a :: l => by
    simp only [hasN, List.mem_cons]
    by_cases h : a = n
    · simp [h]
    · simp only [h, if_false, hasN_spec (l := l)]
      constructor
      · exact .inr
      · rintro (rfl | h')
        · exact absurd rfl h
        · exact h'

theorem nodup_spec : ∀ {l : List Nat}, nodup l = true → l.Nodup
  | [], _ => List.nodup_nil
  | a :: l, h => by
    simp only [nodup, Bool.and_eq_true, Bool.not_eq_true'] at h
    refine List.nodup_cons.2 ⟨fun hm => ?_, nodup_spec h.2⟩
    rw [hasN_spec.2 hm] at h; exact absurd h.1 (by simp)

theorem find_mem {o n : Nat} : ∀ {ρ : List (Nat × Nat)}, find o ρ = some n → (o, n) ∈ ρ
  | [], h => by simp [find] at h
  | (a, k) :: l, h => by
    simp only [find] at h
    split at h
    · rename_i he; cases h; subst he; exact List.mem_cons_self ..
    · exact List.mem_cons_of_mem _ (find_mem h)

theorem mem_find {o n : Nat} : ∀ {ρ : List (Nat × Nat)}, (ρ.map (·.1)).Nodup → (o, n) ∈ ρ → find o ρ = some n
  | [], _, h => by simp at h
  | (a, k) :: l, hn, h => by
    simp only [List.map_cons, List.nodup_cons] at hn
    simp only [find]
    rcases List.mem_cons.1 h with h | h
    · simp only [Prod.mk.injEq] at h; obtain ⟨rfl, rfl⟩ := h; simp
    · have : a ≠ o := by intro e; subst e; exact hn.1 (List.mem_map.2 ⟨_, h, rfl⟩)
      rw [if_neg this]; exact mem_find hn.2 h

def findR (n : Nat) : List (Nat × Nat) → Option Nat
  | [] => none
  | (o, k) :: l => if k = n then some o else findR n l

theorem findR_mem {o n : Nat} : ∀ {ρ : List (Nat × Nat)}, findR n ρ = some o → (o, n) ∈ ρ
  | [], h => by simp [findR] at h
  | (a, k) :: l, h => by
    simp only [findR] at h
    split at h
    · rename_i he; cases h; subst he; exact List.mem_cons_self ..
    · exact List.mem_cons_of_mem _ (findR_mem h)

theorem layAll_spec {m : Nat} {ρ : List (Nat × Nat)} {objs : List (Nat × Ob)} : ∀ {l : List (Nat × Nat)} {acc r : List (Nat × Ob)}, layAll m ρ objs l acc = some r →
    (∀ n, getO r n = match findR n l with | some o => (getO objs o).map (mapO m ρ objs n) | none => getO acc n) ∧ (∀ o n, (o, n) ∈ l → getO acc n = none ∧ findR n l = some o)
  | [], acc, r, h => by simp only [layAll, Option.some.injEq] at h; subst h; exact ⟨fun n => by simp [findR], fun o n h => by simp at h⟩
  | (o, n) :: l, acc, r, h => by
    simp only [layAll] at h
    split at h
    case h_2 => cases h
    rename_i x hx
    split at h
    case h_1 => cases h
    rename_i hacc
    obtain ⟨h1, h2⟩ := layAll_spec h
    have hnl : ∀ o', (o', n) ∉ l := fun o' hm => by
      have := (h2 o' n hm).1
      rw [getO_putO] at this; simp at this
    refine ⟨fun k => ?_, fun o' n' hm => ?_⟩
    · rw [h1 k]
      simp only [findR]
      by_cases hk : n = k
      · subst hk
        have hnone : findR n l = none := by
          cases hf : findR n l with
          | none => rfl
          | some o' => exact absurd (findR_mem hf) (hnl o')
        rw [hnone]
        simp [getO_putO, hx]
      · rw [if_neg hk]
        cases findR k l with
        | some o' => rfl
        | none => simp only [getO_putO]; rw [if_neg (fun e => hk e.symm)]
    · rcases List.mem_cons.1 hm with e | hm
      · simp only [Prod.mk.injEq] at e; obtain ⟨rfl, rfl⟩ := e
        exact ⟨hacc, by simp [findR]⟩
      · obtain ⟨h3, h4⟩ := h2 o' n' hm
        have hne : n ≠ n' := by intro e; subst e; exact hnl _ hm
        rw [getO_putO, if_neg (fun e => hne e.symm)] at h3
        exact ⟨h3, by simp only [findR]; rw [if_neg hne]; exact h4⟩

/-- A look-up under new numbers. -/
def lkR (m : Nat) (ρ : List (Nat × Nat)) (objs : List (Nat × Ob)) (L : Lk) : Lk :=
  ⟨fun n => match findR n ρ with | some o => (L o).map fun p => (p.1, mapO m ρ objs n p.2) | none => none, L.F⟩

theorem Rl.shows (R : Rl K w0 M0 L st a w) : Shows st.objs L := by
  intro i x h
  have := R.ob i
  rw [h] at this
  cases hL : L i with
  | none => rw [hL] at this; simp at this
  | some p => rw [hL] at this; simp only [Option.map_some, Option.some.injEq] at this; exact ⟨p.1, by rw [this]⟩

theorem weaken_ok {m : Nat} {ρ : List (Nat × Nat)} {st' : St} (R : Rl K w0 M0 L st a w) (h : weaken m ρ st = some st') :
    ∃ L', Rl K w0 M0 L' st' a w ∧ ∀ L0, Kept m L0 L → Kept m L0 L' := by
  unfold weaken at h
  split at h
  case h_2 => cases h
  rename_i hc
  simp only [Bool.and_eq_true] at hc
  split at h
  case h_2 => cases h
  rename_i objs hl
  cases h
  obtain ⟨h1, h2⟩ := layAll_spec hl
  have hnd := nodup_spec hc.1
  have hS : Sees m ρ st.objs L (lkR m ρ st.objs L) := by
    intro o n hf l x hx
    have := (h2 o n (find_mem hf)).2
    simp only [lkR, this, hx, Option.map_some]
  obtain ⟨q1, q2⟩ := R.ro.ren (L' := lkR m ρ st.objs L) (m := m) (ρ := ρ) R.shows hS rfl (fun n p' hp => by
      simp only [lkR] at hp
      split at hp
      · rename_i o hfo
        cases hLo : L o with
        | none => rw [hLo] at hp; simp at hp
        | some p =>
          rw [hLo] at hp; simp only [Option.map_some, Option.some.injEq] at hp
          exact ⟨o, p.1, p.2, mem_find hnd (findR_mem hfo), hLo, hp.symm⟩
      · cases hp) (fun o n n' e1 e2 => by rw [e1] at e2; exact Option.some.inj e2)
  refine ⟨_, ⟨q1, fun n => ?_, mapRs_rel R.shows hS q2 st.env R.env, R.df⟩, fun L0 hk => hk.ren hS (fixes_spec hc.2)⟩
  rw [h1 n]
  simp only [lkR]
  cases findR n ρ with
  | none => simp [getO]
  | some o => simp only [R.ob o, Option.map_map]; rfl

end Go.Proofs.Ytmigffdeghfbhaa.Ev
