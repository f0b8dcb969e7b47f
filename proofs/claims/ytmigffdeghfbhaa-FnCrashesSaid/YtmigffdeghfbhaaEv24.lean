/- Operations that draw their order: the machine. -/
import Derived.Test.YtmigffdeghfbhaaEv23
namespace Go.Proofs.Ytmigffdeghfbhaa.Ev
open Go Go.RowKit
set_option linter.unusedSimpArgs false
set_option linter.unusedVariables false

variable {K : Ctx} {w0 : World} {M0 : Bd} {L L' : Lk} {st : St} {a : Act} {w : World} {o : Oper} {M M' : Nat → Nat → Prop}

theorem Rl.eqv (R : Rl K w0 M0 L st a w) {s : St} (h : Eqv st s) : Rl K w0 M0 L s a w := ⟨R.ro, fun i => by rw [← h.obj i]; exact R.ob i, by rw [← h.env]; exact R.env, R.df⟩

theorem Rl.drew (hK : K.Ok) (R : Rl K w0 M0 L st a w) : Rl K w0 M0 L st a { w with drawn := w.drawn + 1 } := by
  obtain ⟨h1, h2⟩ := R.ro.chg hK (L' := L) (w' := w.drew) (N := fun _ _ => False) (fun _ => False) (Fr.refl w _).drew (fun _ _ => False.elim) rfl (Turn.refl L) (fun i p hp _ => ⟨hp, fun _ _ _ => _root_.id⟩) (fun i p _ h => h.elim) (fun i j p q b o _ _ h => h.elim)
  exact ⟨h1, R.ob, rels_tr (Turn.refl L) h2 _ R.env, R.df⟩

theorem putS_same {l : List AV} {n : Nat} {v : AV} (h : getS l n = v) (hv : v ≠ .undef) : putS l n v = l := by
  rw [getS_eq] at h
  rw [putS_eq]
  apply List.ext_getElem?
  intro i
  rw [List.getElem?_set]
  split
  · rename_i e
    subst e
    rw [List.getD_eq_getElem?_getD] at h
    cases hn : l[n]? with
    | none => rw [hn] at h; exact absurd h.symm hv
    | some u =>
      rw [hn] at h
      simp only [Option.getD_some] at h
      rw [if_pos (List.getElem?_eq_some_iff.1 hn).1, h]
  · rfl
theorem splitB_eq {R : Type} (O : Opt) (d : Option Nat) (st : St) (k : St → Option R) : splitB O d st k = k st := by
  unfold splitB
  split
  · split
    · rename_i b hb
      cases b
      · simp only [putS_same hb (by simp)]
      · simp only [putS_same hb (by simp)]
    · rfl
  · rfl

theorem opsT_spec {R : Type} (C : Spec) (O : Opt) (all : List Oper) : ∀ (l : List Oper) (st : St) (ts : List (List Ac)) (k : St → List (List Ac) → Option R),
    opsT K C O all l st ts k = match exC (l.map (oper K C O false all)) st with | some (sF, tr) => k sF (ts ++ tr) | none => none
  | [], st, ts, k => by simp [opsT, exC]
  | o :: l, st, ts, k => by
    simp only [opsT, splitB_eq, List.map_cons, exC, runT_ex]
    cases (oper K C O false all o).ex st [] with
    | none => rfl
    | some p =>
      simp only
      rw [opsT_spec C O all l p.1 _ k]
      cases exC (l.map (oper K C O false all)) p.1 with
      | none => rfl
      | some q => simp

theorem waits_spec : ∀ {l : List Oper} {acc b : List (List Nat)}, waits l acc = some b → (∃ r, b = acc ++ r) ∧ ∀ j o, l[j]? = some o → (∀ e ∈ wait0 o, e < acc.length + j) ∧ b.getD (acc.length + j) [] = (wait0 o).flatMap fun e => e :: b.getD e []
  | [], acc, b, h => by simp only [waits, Option.some.injEq] at h; subst h; exact ⟨⟨[], by simp⟩, fun j o h => by simp at h⟩
  | x :: l, acc, b, h => by
    simp only [waits] at h
    split at h
    case h_2 => cases h
    rename_i hc
    obtain ⟨⟨r, hr⟩, h2⟩ := waits_spec h
    have hlt : ∀ e ∈ wait0 x, e < acc.length := fun e he => by simpa using List.all_eq_true.1 hc e he
    have hget : ∀ e, e < acc.length → b.getD e [] = acc.getD e [] := fun e he => by
      rw [hr]; simp [List.getD, List.append_assoc, List.getElem?_append_left he]
    refine ⟨⟨wait1 acc x :: r, by rw [hr]; simp⟩, fun j o hj => ?_⟩
    cases j with
    | zero =>
      simp only [List.getElem?_cons_zero, Option.some.injEq] at hj
      subst hj
      refine ⟨by simpa using hlt, ?_⟩
      have e1 : b.getD acc.length [] = wait1 acc x := by rw [hr]; simp [List.getD]
      rw [Nat.add_zero, e1]
      unfold wait1
      have : ∀ (es : List Nat), (∀ e ∈ es, e < acc.length) → (es.flatMap fun j => j :: acc.getD j []) = es.flatMap fun e => e :: b.getD e [] := by
        intro es
        induction es with
        | nil => intro _; rfl
        | cons e es ih =>
          intro h
          simp only [List.flatMap_cons]
          rw [ih fun e' he' => h e' (List.mem_cons_of_mem _ he'), hget e (h e (List.mem_cons_self ..))]
      exact this _ hlt
    | succ j =>
      have := h2 j o (by simpa using hj)
      simp only [List.length_append, List.length_cons, List.length_nil] at this
      rw [show acc.length + (j + 1) = acc.length + (0 + 1) + j by omega]
      exact this

theorem wait0_mem {o : Oper} {e : Edge} (he : e ∈ o.after.toList) (hb : Region.binds .any e = true) : e.on ∈ wait0 o := by
  unfold wait0
  refine List.mem_filterMap.2 ⟨e, he, ?_⟩
  unfold Region.binds at hb
  cases hg : e.ground <;> simp [hg] at hb ⊢

theorem mem_wait0 {o : Oper} {n : Nat} (h : n ∈ wait0 o) : ∃ e ∈ o.after.toList, Region.binds .any e = true ∧ e.on = n := by
  unfold wait0 at h
  obtain ⟨e, he, h1⟩ := List.mem_filterMap.1 h
  refine ⟨e, he, ?_⟩
  unfold Region.binds
  cases hg : e.ground <;> simp [hg] at h1 ⊢ <;> exact h1

theorem mem_ready {ops : Array Oper} {listed : Array Bool} {i : Nat} : i ∈ Region.ready .any ops listed ↔ ∃ o, ops[i]? = some o ∧ listed.getD i true = false ∧ ∀ e ∈ wait0 o, listed.getD e false = true := by
  unfold Region.ready
  simp only [List.mem_filter, List.mem_range, Bool.and_eq_true, Bool.not_eq_true']
  constructor
  · rintro ⟨h1, h2, h3⟩
    refine ⟨ops[i], by simp [h1], h2, fun n hn => ?_⟩
    obtain ⟨e, he, hb, rfl⟩ := mem_wait0 hn
    simp only [h1, Array.getElem?_eq_getElem, Option.map_some, Option.getD_some] at h3
    have := Array.all_eq_true'.1 h3 e (by simpa using he)
    simpa [hb] using this
  · rintro ⟨o, h1, h2, h3⟩
    refine ⟨(Array.getElem?_eq_some_iff.1 h1).1, h2, ?_⟩
    simp only [h1, Option.map_some, Option.getD_some]
    refine Array.all_eq_true'.2 fun e he => ?_
    by_cases hb : Region.binds .any e = true
    · have := h3 _ (wait0_mem (by simpa using he) hb)
      simp [this]
    · simp [hb]

theorem listed_get {listed : Array Bool} {i j : Nat} (d : Bool) (hi : i < listed.size) : (listed.setIfInBounds i true).getD j d = if j = i then true else listed.getD j d := by
  simp only [Array.getD_eq_getD_getElem?, Array.getElem?_setIfInBounds]
  by_cases h : i = j
  · subst h; simp [hi]
  · simp [h, Ne.symm h]

theorem drawn_ok {C : Spec} {O : Opt} (hK : K.Ok) (hC : ∀ fn, Sound K fn (C fn)) {ops : Array Oper} {b : List (List Nat)} (hb : waits ops.toList [] = some b) {Q : Exit → Act → World → Prop} {sF : St} :
    ∀ (z : List (Nat × List Ac)) (listed : Array Bool) {L : Lk} {st : St} {a : Act} {w : World} {s : St}, listed.size = ops.size → (∀ i, i ∈ z.map (·.1) ↔ i < ops.size ∧ listed.getD i true = false) →
    z.Pairwise (fun p q => p.1 < q.1 ∧ (p.1 ∈ b.getD q.1 [] ∨ apart p.2 q.2 = true)) → (∀ j i, listed.getD j false = true → i ∈ b.getD j [] → listed.getD i false = true) →
    exC (z.map fun p => match ops[p.1]? with | some o => oper K C O false ops.toList o | none => .fail) st = some (s, z.map (·.2)) → Eqv s sF → Rl K w0 M0 L st a w →
    (∀ L' a' w', Rl K w0 M0 L' sF a' w' → Turn L L' → Q .normal a' w') → wpAny K.P .any ops Q z.length listed a w
  | [], listed, L, st, a, w, s, hsz, hmem, hpw, hdn, hex, heq, R, hQ => by
    simp only [List.map_nil, exC, Option.some.injEq, Prod.mk.injEq] at hex
    obtain ⟨rfl, _⟩ := hex
    refine ⟨?_, hQ L a w (R.eqv heq) (Turn.refl L)⟩
    cases hr : Region.ready .any ops listed with
    | nil => rfl
    | cons i l =>
      have hi : i ∈ Region.ready .any ops listed := by rw [hr]; exact List.mem_cons_self ..
      obtain ⟨o, h1, h2, _⟩ := mem_ready.1 hi
      have := (hmem i).2 ⟨(Array.getElem?_eq_some_iff.1 h1).1, h2⟩
      simp at this
  | p :: z, listed, L, st, a, w, s, hsz, hmem, hpw, hdn, hex, heq, R, hQ => by
    have hws := (waits_spec hb).2
    simp only [List.length_nil, Nat.zero_add] at hws
    have hop : ∀ i, i < ops.size → ∃ o, ops[i]? = some o ∧ ops.toList[i]? = some o := fun i hi => ⟨ops[i], by simp [hi], by simp [hi]⟩
    have hgd : ∀ i, i < ops.size → listed.getD i true = listed.getD i false := fun i hi => by
      rw [Array.getD_eq_getD_getElem?, Array.getD_eq_getD_getElem?, Array.getElem?_eq_getElem (by omega)]; rfl
    constructor
    · intro hnil
      exfalso
      obtain ⟨hp1, hp2⟩ := (hmem p.1).1 (by simp)
      obtain ⟨o, ho, ho'⟩ := hop _ hp1
      have : p.1 ∈ Region.ready .any ops listed := by
        refine mem_ready.2 ⟨o, ho, hp2, fun e he => ?_⟩
        have hlt := (hws _ o ho').1 e he
        cases hl : listed.getD e false with
        | true => rfl
        | false =>
          have := (hmem e).2 ⟨by omega, by rw [hgd e (by omega)]; exact hl⟩
          simp only [List.map_cons, List.mem_cons] at this
          rcases this with h | h
          · omega
          · obtain ⟨q, hq, rfl⟩ := List.mem_map.1 h
            have := ((List.pairwise_cons.1 hpw).1 q hq).1
            omega
      rw [hnil] at this; simp at this
    · intro i hi
      obtain ⟨o, ho, hl, hwt⟩ := mem_ready.1 hi
      have hisz := (Array.getElem?_eq_some_iff.1 ho).1
      have hiz := (hmem i).2 ⟨hisz, hl⟩
      obtain ⟨⟨i', t⟩, hq, rfl⟩ := List.mem_map.1 hiz
      obtain ⟨pre, post, hz⟩ := List.append_of_mem hq
      simp only at ho hl hwt hisz hi
      have hW : ∀ j ∈ b.getD i' [], listed.getD j false = true := fun j hj => by
        rw [(hws i' o (by simpa using ho)).2] at hj
        obtain ⟨e, he, hj⟩ := List.mem_flatMap.1 hj
        rcases List.mem_cons.1 hj with rfl | hj
        · exact hwt _ he
        · exact hdn e j (hwt e he) hj
      rw [hz] at hex hpw hmem
      have hpw' := List.pairwise_append.1 hpw
      rw [List.map_append, List.map_cons, List.map_append, List.map_cons] at hex
      obtain ⟨s1, sF', h1, h2, h3⟩ := exC_front hex (by
        intro q hq
        simp only [List.length_map] at hq ⊢
        have e1 : (pre.map (·.2) ++ t :: post.map (·.2)).getD q [] = pre[q].2 := by
          simp [List.getD, List.getElem?_append_left, hq]
        have e2 : (pre.map (·.2) ++ t :: post.map (·.2)).getD pre.length [] = t := by
          simp [List.getD]
        rw [e1, e2]
        obtain ⟨_, h5⟩ := hpw'.2.2 pre[q] (List.getElem_mem _) (i', t) (List.mem_cons_self ..)
        rcases h5 with h5 | h5
        · exfalso
          have h6 := hW _ h5
          have h7 := ((hmem pre[q].1).1 (by rw [List.map_append]; exact List.mem_append_left _ (List.mem_map_of_mem (List.getElem_mem _))))
          rw [hgd _ h7.1, h6] at h7
          cases h7.2
        · exact h5)
      have e2 : (pre.map (·.2) ++ t :: post.map (·.2)).getD (pre.map fun p => match ops[p.1]? with | some o => oper K C O false ops.toList o | none => .fail).length [] = t := by
        simp [List.getD]
      rw [e2] at h1
      simp only [ho] at h1
      unfold wpOp
      simp only [ho]
      have hlen : z.length = (pre ++ post).length := by
        have := congrArg List.length hz
        simp at this ⊢; omega
      rw [hlen]
      refine oper_ok hK hC R h1 fun L' a' w' R' hT => ?_
      refine drawn_ok (O := O) hK hC hb (pre ++ post) (listed.setIfInBounds i' true) (by simpa using hsz) (fun j => ?_) ?_ (fun j k hj hk => ?_) (s := sF') ?_ (h3.symm.trans heq) R' fun L'' a'' w'' R'' hT' => hQ L'' a'' w'' R'' (hT.trans hT')
      · rw [listed_get true (by omega)]
        have hne : j ∈ (pre ++ post).map (·.1) ↔ j ≠ i' ∧ j ∈ (pre ++ (i', t) :: post).map (·.1) := by
          simp only [List.map_append, List.map_cons, List.mem_append, List.mem_cons]
          constructor
          · rintro (h | h)
            · obtain ⟨q, hq, rfl⟩ := List.mem_map.1 h
              have := (hpw'.2.2 q hq (i', t) (List.mem_cons_self ..)).1
              exact ⟨by simp only at this; omega, .inl h⟩
            · obtain ⟨q, hq, rfl⟩ := List.mem_map.1 h
              have := ((List.pairwise_cons.1 hpw'.2.1).1 q hq).1
              exact ⟨by simp only at this; omega, .inr (.inr h)⟩
          · rintro ⟨h0, h | h | h⟩
            · exact .inl h
            · exact absurd h h0
            · exact .inr h
        rw [hne, hmem j]
        by_cases hji : j = i' <;> simp [hji]
      · refine List.pairwise_append.2 ⟨hpw'.1, (List.pairwise_cons.1 hpw'.2.1).2, fun x hx y hy => hpw'.2.2 x hx y (List.mem_cons_of_mem _ hy)⟩
      · rw [listed_get false (by omega)] at hj ⊢
        by_cases hji : j = i'
        · subst hji
          rw [hW k hk]; simp
        · rw [if_neg hji] at hj
          rw [hdn j k hj hk]; simp
      · rw [List.map_append]
        have e3 : (pre.map (·.2) ++ t :: post.map (·.2)).eraseIdx (pre.map fun p => match ops[p.1]? with | some o => oper K C O false ops.toList o | none => .fail).length = (pre ++ post).map (·.2) := by
          rw [List.eraseIdx_append_of_length_le (by simp)]
          simp
        rw [e3] at h2
        exact h2
  termination_by z => z.length
  decreasing_by all_goals (have := congrArg List.length hz; simp at this ⊢; omega)

end Go.Proofs.Ytmigffdeghfbhaa.Ev
