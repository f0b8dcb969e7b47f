/- Every operation; operations in their order. -/
import Derived.Test.YtmigffdeghfbhaaEv21
namespace Go.Proofs.Ytmigffdeghfbhaa.Ev
open Go Go.RowKit
set_option linter.unusedSimpArgs false
set_option linter.unusedVariables false

variable {K : Ctx} {w0 : World} {M0 : Bd} {L L' : Lk} {st : St} {a : Act} {w : World} {o : Oper} {M M' : Nat → Nat → Prop}

theorem op_ok {C : Spec} {O : Opt} (hK : K.Ok) (hC : ∀ fn, Sound K fn (C fn)) (o : Oper) : OpOk K C O o := by
  have no : (∀ d k, op1 K C O d o.type o.op k = .fail) → OpOk K C O o := fun h w0 M0 L st a w d k t r R he => by
    rw [h] at he; exact (ex_fail he).elim
  cases h : o.op with
  | move x => exact ok_move (.inl h)
  | assign x => exact ok_move (.inr h)
  | pick c x y => exact ok_pick h
  | alloc t => exact ok_alloc hK h
  | box t x => exact ok_box hK h
  | build t ps => exact ok_build hK h
  | buildSlice t n ps => exact ok_buildSlice hK h
  | load t x => exact ok_load hK h
  | store t p x => exact ok_store hK h
  | nilCheck x => exact ok_nilCheck h
  | binOp op xt x y yt => exact ok_binOp hK h
  | unOp op t x => exact ok_unOp h
  | convert s d x => exact ok_convert hK h
  | fieldAddr s x f => exact ok_fieldAddr hK h
  | field s x f => exact ok_field hK h
  | indexAddr t x i => exact ok_indexAddr hK h
  | index t x i => exact ok_index hK h
  | extract x i => exact ok_extract h
  | makeFunc f xs ys => exact ok_makeFunc h
  | makeSlice t n c => exact ok_makeSlice hK h
  | slice t x lo hi mx =>
    cases mx with
    | none => exact ok_slice hK h
    | some mx => exact no fun d k => by rw [h]; rfl
  | call c =>
    cases hc : c.callee with
    | value f => exact ok_call hK hC h hc
    | invoke r n => exact no fun d k => by rw [h]; simp only [op1, hc]
    | builtin b =>
      cases b with
      | len => exact ok_len hK h hc
      | min => exact ok_min h hc
      | max => exact ok_max h hc
      | append => exact ok_append hK h hc
      | _ => exact no fun d k => by rw [h]; simp only [op1, hc]
  | _ => exact no fun d k => by rw [h]; rfl

/-- A value is written to its slot. -/
theorem Rl.put (R : Rl K w0 M0 L st a w) {w' : World} {objs : List (Nat × Ob)} {v : AV} {v' : Value} (ro : RelO K w0 M0 L' w') (ob : ∀ i, getO objs i = (L' i).map (·.2)) (hT : Turn L L') (ht : Tr w (Mut L) w' (Mut L')) (hv : rel L' w' (Mut L') v v') (d : Option Tmp) :
    Rl K w0 M0 L' ⟨match d with | some d => putS st.env d v | none => st.env, objs⟩ (a.put d v') w' := by
  have he := rels_tr hT ht st.env R.env
  cases d with
  | none => exact ⟨ro, ob, he, R.df⟩
  | some d =>
    refine ⟨ro, ob, ?_, R.df⟩
    show rels L' w' (Mut L') (putS st.env d v) (a.tmps.setIfInBounds d v').toList
    rw [Array.toList_setIfInBounds]
    exact rels_set he d hv

theorem rel_bool {b : Bool} {n : Nat} (R : Rl K w0 M0 L st a w) (h : getS st.env n = .bool b) : a.tmps[n]? = some (.bool b) := by
  have := rels_getS R.env n
  rw [h] at this
  simp only [rel] at this
  rw [List.getD_eq_getElem?_getD] at this
  cases hn : a.tmps.toList[n]? with
  | none => rw [hn] at this; simp [undef] at this
  | some v => rw [hn] at this; simp at this; rw [← Array.getElem?_toList, hn, this]

theorem oper_ok {C : Spec} {O : Opt} (hK : K.Ok) (hC : ∀ fn, Sound K fn (C fn)) {lit : Bool} {ops : Array Oper} {o : Oper} {t : List Ac} {st' : St} {t' : List Ac} (R : Rl K w0 M0 L st a w) (h : (oper K C O lit ops.toList o).ex st t = some (st', t'))
    {next : Act → World → Prop} {Q : Exit → Act → World → Prop} (hn : ∀ L' a' w', Rl K w0 M0 L' st' a' w' → Turn L L' → next a' w') :
    if Region.wanted o (yielded ops a.tmps) then o.wp K.P a w next Q ∨ (o.asks K.P a w ∧ LetsOut Q) else next (a.put o.dst undef) w := by
  have put_ex : ∀ {s : St} {ts : List Ac} {v : AV}, Cmd.ex (match o.dst with | some d => .putS d v .done | none => .done) s ts = some (st', t') → st' = ⟨match o.dst with | some d => putS s.env d v | none => s.env, s.objs⟩ := by
    intro s ts v h
    cases hd : o.dst with
    | none => rw [hd] at h; simp only [Cmd.ex, Option.some.injEq, Prod.mk.injEq] at h; exact h.1.symm
    | some d => rw [hd] at h; simp only [Cmd.ex, Option.some.injEq, Prod.mk.injEq] at h; exact h.1.symm
  have yes : ∀ {s : St} {ts : List Ac}, Rl K w0 M0 L s a w → (op1 K C O (o.dst.getD 0) o.type o.op fun v => match o.dst with | some d => .putS d v .done | none => .done).ex s ts = some (st', t') → o.wp K.P a w next Q := by
    intro s ts R h
    obtain ⟨v, objs, t1, h1, h2⟩ := op_ok hK hC o w0 M0 L s a w _ _ _ _ R h
    have := put_ex h1
    subst this
    refine h2 next Q fun L' w' v' ro ob hT ht hv => hn L' _ _ ?_ hT
    exact R.put ro ob hT ht hv o.dst
  have skip : ∀ {s : St} {ts : List Ac}, Rl K w0 M0 L s a w → Cmd.ex (match o.dst with | some d => .putS d (.tup []) .done | none => .done) s ts = some (st', t') → next (a.put o.dst undef) w := by
    intro s ts R h
    have := put_ex h
    subst this
    exact hn L _ _ (R.put R.ro R.ob (Turn.refl L) (Tr.refl _ _) (by simp only [rel]; exact ⟨#[], rfl, rfl⟩) o.dst) (Turn.refl L)
  unfold oper at h
  simp only at h
  cases hg : o.guard with
  | none =>
    rw [hg] at h
    simp only [Region.wanted, hg, if_true]
    exact .inl (yes R h)
  | some q =>
    obtain ⟨j, want⟩ := q
    rw [hg] at h
    simp only at h
    split at h
    case h_2 => exact (ex_fail h).elim
    rename_i p hp
    split at h
    case h_2 => exact (ex_fail h).elim
    rename_i d hd
    simp only [Cmd.ex] at h
    split at h
    case h_3 => exact (ex_fail h).elim
    case h_2 =>
      rename_i hb
      have hu := (show rel L w (Mut L) (.tup []) (a.tmps.toList.getD d undef) from by rw [← hb]; exact rels_getS R.env d)
      have hp' : ops[j]? = some p := by simpa using hp
      have hy : yielded ops a.tmps j = none := by
        simp only [rel] at hu
        obtain ⟨cs, hu, _⟩ := hu
        unfold yielded
        simp only [hp', Option.bind_some, hd]
        rw [List.getD_eq_getElem?_getD, Array.getElem?_toList] at hu
        cases hn' : a.tmps[d]? with
        | none => rfl
        | some v => rw [hn'] at hu; simp only [Option.getD_some] at hu; rw [hu]
      have hw : Region.wanted o (yielded ops a.tmps) = false := by
        simp only [Region.wanted, hg, hy]
        cases want <;> rfl
      rw [hw]
      exact skip R h
    rename_i b hb
    have hb' := rel_bool R hb
    have hy : yielded ops a.tmps j = some b := by
      have hp' : ops[j]? = some p := by simpa using hp
      simp only [yielded, hp', Option.bind_some, hd, hb']
    have hnote : Rl K w0 M0 L ⟨putS st.env d (.bool b), st.objs⟩ a w := by
      refine ⟨R.ro, R.ob, ?_, R.df⟩
      have := rels_set R.env d (a := .bool b) (c := .bool b) (by simp [rel])
      have e1 : a.tmps.toList.set d (.bool b) = a.tmps.toList := by
        apply List.ext_getElem?
        intro i
        rw [List.getElem?_set]
        split
        · rename_i he
          subst he
          rw [← Array.getElem?_toList] at hb'
          rw [hb']
          rw [if_pos (List.getElem?_eq_some_iff.1 hb').1]
        · rfl
      rwa [e1] at this
    have hw : Region.wanted o (yielded ops a.tmps) = (b == want) := by
      simp only [Region.wanted, hg, hy]
      cases b <;> cases want <;> rfl
    rw [hw]
    cases b <;> cases want <;> cases lit <;> simp only [Cmd.ex, beq_self_eq_true, if_true, Bool.false_eq_true, if_false, Bool.true_beq, Bool.false_beq, Bool.not_true, Bool.not_false] at h ⊢ <;>
      first | exact .inl (yes R h) | exact .inl (yes hnote h) | exact skip R h | exact skip hnote h

/-- Operations in their order. -/
theorem opsK_ok {C : Spec} {O : Opt} (hK : K.Ok) (hC : ∀ fn, Sound K fn (C fn)) {ops : Array Oper} {R' : Type} {res : R'} {k : St → Option R'} {Q : Exit → Act → World → Prop} :
    ∀ (l : List Oper) (j : Nat) {L : Lk} {st : St} {a : Act} {w : World}, ops.toList.drop j = l → Rl K w0 M0 L st a w → opsK K C O ops.toList l st k = some res →
    (∀ L' st' a' w', Rl K w0 M0 L' st' a' w' → Turn L L' → k st' = some res → Q .normal a' w') → wpOps K.P ops Q ((List.range' j l.length)) a w
  | [], j, L, st, a, w, hl, R, h, hQ => by
    simp only [List.length_nil, List.range'_zero, wpOps]
    exact hQ L st a w R (Turn.refl L) h
  | o :: l, j, L, st, a, w, hl, R, h, hQ => by
    simp only [opsK] at h
    rw [run_ex _ _ [] _] at h
    split at h
    case h_2 => cases h
    rename_i st' t' he
    have hj : ops.toList[j]? = some o := by
      have : (ops.toList.drop j)[0]? = some o := by rw [hl]; rfl
      simpa using this
    have hj' : ops[j]? = some o := by simpa using hj
    simp only [List.length_cons, List.range'_succ, wpOps, hj']
    refine oper_ok hK hC R he fun L' a' w' R' hT => ?_
    refine opsK_ok hK hC l (j + 1) ?_ R' h fun L'' st'' a'' w'' R'' hT' hk => hQ _ _ _ _ R'' (hT.trans hT') hk
    have : ops.toList.drop (j + 1) = (ops.toList.drop j).drop 1 := by rw [List.drop_drop]
    rw [this, hl]; rfl

end Go.Proofs.Ytmigffdeghfbhaa.Ev
