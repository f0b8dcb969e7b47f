/- The evaluator's commands; what an operation does; reading operands; operations that turn no memory. -/
import Derived.Test.YtmigffdeghfbhaaEv4
namespace Go.Proofs.Ytmigffdeghfbhaa.Ev
open Go Go.RowKit
set_option linter.unusedSimpArgs false

def Cmd.ex : Cmd → St → List Ac → Option (St × List Ac)
  | .done, st, t => some (st, t)
  | .fail, _, _ => none
  | .getS n c, st, t => (c (Ev.getS st.env n)).ex st (.rS n :: t)
  | .putS n v c, st, t => c.ex ⟨Ev.putS st.env n v, st.objs⟩ (.wS n :: t)
  | .getO o c, st, t => match Ev.getO st.objs o with | some x => (c x).ex st (.rO o :: t) | none => none
  | .putO o x c, st, t => match Ev.getO st.objs o with | some _ => c.ex ⟨st.env, Ev.putO st.objs o x⟩ (.wO o :: t) | none => none
  | .newO o x c, st, t => match Ev.getO st.objs o with | some _ => none | none => c.ex ⟨st.env, Ev.putO st.objs o x⟩ (.wO o :: t)
  | .ite b x y, st, t => match b with | true => x.ex st t | false => y.ex st t

theorem run_ex {R : Type} : ∀ (c : Cmd) (st : St) (t : List Ac) (k : St → Option R), c.run st k = match c.ex st t with | some (st', _) => k st' | none => none
  | .done, _, _, _ => rfl
  | .fail, _, _, _ => rfl
  | .getS n c, st, t, k => by simp only [Cmd.run, Cmd.ex]; exact run_ex _ _ _ _
  | .putS n v c, st, t, k => by simp only [Cmd.run, Cmd.ex]; exact run_ex _ _ _ _
  | .getO o c, st, t, k => by simp only [Cmd.run, Cmd.ex]; cases Ev.getO st.objs o <;> simp only <;> exact run_ex _ _ _ _
  | .putO o x c, st, t, k => by simp only [Cmd.run, Cmd.ex]; cases Ev.getO st.objs o <;> simp only <;> exact run_ex _ _ _ _
  | .newO o x c, st, t, k => by simp only [Cmd.run, Cmd.ex]; cases Ev.getO st.objs o <;> simp only <;> exact run_ex _ _ _ _
  | .ite b x y, st, t, k => by cases b <;> simp only [Cmd.run, Cmd.ex] <;> exact run_ex _ _ _ _

theorem runT_ex {R : Type} : ∀ (c : Cmd) (st : St) (t : List Ac) (k : St → List Ac → Option R), c.runT st t k = match c.ex st t with | some (st', t') => k st' t' | none => none
  | .done, _, _, _ => rfl
  | .fail, _, _, _ => rfl
  | .getS n c, st, t, k => by simp only [Cmd.runT, Cmd.ex]; exact runT_ex _ _ _ _
  | .putS n v c, st, t, k => by simp only [Cmd.runT, Cmd.ex]; exact runT_ex _ _ _ _
  | .getO o c, st, t, k => by simp only [Cmd.runT, Cmd.ex]; cases Ev.getO st.objs o <;> simp only <;> exact runT_ex _ _ _ _
  | .putO o x c, st, t, k => by simp only [Cmd.runT, Cmd.ex]; cases Ev.getO st.objs o <;> simp only <;> exact runT_ex _ _ _ _
  | .newO o x c, st, t, k => by simp only [Cmd.runT, Cmd.ex]; cases Ev.getO st.objs o <;> simp only <;> exact runT_ex _ _ _ _
  | .ite b x y, st, t, k => by cases b <;> simp only [Cmd.runT, Cmd.ex] <;> exact runT_ex _ _ _ _

abbrev Rz := St × List Ac

theorem ex_fail {st : St} {t : List Ac} {r : Rz} (h : Cmd.fail.ex st t = some r) : False := by simp [Cmd.ex] at h
theorem ex_chk {b : Bool} {c : Cmd} {st : St} {t : List Ac} {r : Rz} (h : (chk b c).ex st t = some r) : b = true ∧ c.ex st t = some r := by
  cases b <;> simp [Cmd.ex] at h; exact ⟨rfl, h⟩
theorem ex_getO {o : Nat} {c : Ob → Cmd} {st : St} {t : List Ac} {r : Rz} (h : (Cmd.getO o c).ex st t = some r) : ∃ x, getO st.objs o = some x ∧ (c x).ex st (.rO o :: t) = some r := by
  simp only [Cmd.ex] at h; split at h
  · exact ⟨_, by assumption, h⟩
  · cases h
theorem ex_putO {o : Nat} {x : Ob} {c : Cmd} {st : St} {t : List Ac} {r : Rz} (h : (Cmd.putO o x c).ex st t = some r) : (∃ y, getO st.objs o = some y) ∧ c.ex ⟨st.env, putO st.objs o x⟩ (.wO o :: t) = some r := by
  simp only [Cmd.ex] at h; split at h
  · exact ⟨⟨_, by assumption⟩, h⟩
  · cases h
theorem ex_newO {o : Nat} {x : Ob} {c : Cmd} {st : St} {t : List Ac} {r : Rz} (h : (Cmd.newO o x c).ex st t = some r) : getO st.objs o = none ∧ c.ex ⟨st.env, putO st.objs o x⟩ (.wO o :: t) = some r := by
  simp only [Cmd.ex] at h; split at h
  · cases h
  · exact ⟨by assumption, h⟩

theorem getO_putO : ∀ (l : List (Nat × Ob)) (o : Nat) (x : Ob) (i : Nat), getO (putO l o x) i = if i = o then some x else getO l i
  | [], o, x, i => by simp [putO, getO, eq_comm]
  | (k, y) :: l, o, x, i => by
    simp only [putO]
    split
    · rename_i h; subst h
      simp only [getO]
      by_cases hi : k = i
      · subst hi; simp
      · simp [hi, Ne.symm hi]
    · split
      · simp only [getO]
        by_cases hi : o = i
        · subst hi; simp
        · simp [hi, Ne.symm hi]
      · rename_i h _
        simp only [getO, getO_putO l o x i]
        by_cases hi : k = i
        · subst hi; simp [h]
        · simp [hi]

/-- The evaluator's state is that of the machine. -/
structure Rl (K : Ctx) (w0 : World) (M0 : Bd) (L : Lk) (st : St) (a : Act) (w : World) : Prop where
  ro : RelO K w0 M0 L w
  ob : ∀ i, getO st.objs i = (L i).map (·.2)
  env : rels L w (Mut L) st.env a.tmps.toList
  df : a.defers = []

/-- What an operation comes to, on every machine's way. -/
def Does (K : Ctx) (w0 : World) (M0 : Bd) (o : Oper) (a : Act) (w : World) (L : Lk) (objs : List (Nat × Ob)) (v : AV) : Prop :=
  ∀ (next : Act → World → Prop) (Q : Exit → Act → World → Prop),
    (∀ L' w' v', RelO K w0 M0 L' w' → (∀ i, getO objs i = (L' i).map (·.2)) → Turn L L' → Tr w (Mut L) w' (Mut L') → rel L' w' (Mut L') v v' → next (a.put o.dst v') w') →
    o.wp K.P a w next Q

variable {K : Ctx} {w0 : World} {M0 : Bd} {L : Lk} {st : St} {a : Act} {w : World} {o : Oper}

theorem Tr.refl (w : World) (M : Nat → Nat → Prop) : Tr w M w M := fun _ _ _ h h' => ⟨h, h'⟩

theorem Does.val {L' : Lk} {w' : World} {objs : List (Nat × Ob)} {v : AV} {v' : Value} (hr : (execOp a.eval o).run K.P w = .ok (.value v') w') (ro : RelO K w0 M0 L' w') (ob : ∀ i, getO objs i = (L' i).map (·.2))
    (hT : Turn L L') (ht : Tr w (Mut L) w' (Mut L')) (hv : rel L' w' (Mut L') v v') : Does K w0 M0 o a w L objs v := by
  intro next Q hn
  show o.upon K.P a next Q ((execOp a.eval o).run K.P w)
  rw [hr]
  exact hn L' w' v' ro ob hT ht hv

theorem Does.skip {L' : Lk} {w' : World} {objs : List (Nat × Ob)} (hr : (execOp a.eval o).run K.P w = .ok .skip w') (ro : RelO K w0 M0 L' w') (ob : ∀ i, getO objs i = (L' i).map (·.2))
    (hT : Turn L L') (ht : Tr w (Mut L) w' (Mut L')) : Does K w0 M0 o a w L objs .undef := by
  intro next Q hn
  show o.upon K.P a next Q ((execOp a.eval o).run K.P w)
  rw [hr]
  exact hn L' w' undef ro ob hT ht (by simp [rel])

theorem Does.same (R : Rl K w0 M0 L st a w) {v : AV} {v' : Value} (hr : (execOp a.eval o).run K.P w = .ok (.value v') w) (hv : rel L w (Mut L) v v') : Does K w0 M0 o a w L st.objs v :=
  Does.val hr R.ro R.ob (Turn.refl L) (Tr.refl w _) hv

/-- What an operation's command comes to is what the machine does. -/
def OpOk (K : Ctx) (C : Spec) (O : Opt) (o : Oper) : Prop := ∀ (w0 : World) (M0 : Bd) (L : Lk) (st : St) (a : Act) (w : World) (d : Nat) (k : AV → Cmd) (t : List Ac) (r : Rz), Rl K w0 M0 L st a w →
  (op1 K C O d o.type o.op k).ex st t = some r → ∃ v objs t', (k v).ex ⟨st.env, objs⟩ t' = some r ∧ Does K w0 M0 o a w L objs v

theorem Act.eval_tmp (a : Act) (s : Nat) : a.eval (.tmp s) = a.tmps.toList.getD s undef := by
  simp [Act.eval, Array.getD_eq_getD_getElem?, List.getD_eq_getElem?_getD]

theorem rel_cst (t : TypeId) : ∀ (v : Value), rel L w (Mut L) (cst K t v) v
  | .int k n => by simp [cst, rel]
  | .bool b => by simp [cst, rel]
  | .string s => by simp [cst, rel]
  | .slice (some _) _ _ => by simp [cst, rel]
  | .slice none 0 0 => by simp only [cst]; split <;> simp [rel]
  | .slice none 0 (_ + 1) => by simp [cst, rel]
  | .slice none (_ + 1) _ => by simp [cst, rel]
  | .pointer none => by simp [cst, rel]
  | .pointer (some _) => by simp [cst, rel]
  | .nilFunc => by simp [cst, rel]
  | .nilIface => by simp [cst, rel]
  | .float _ _ => by simp [cst, rel]
  | .complex _ _ _ => by simp [cst, rel]
  | .map _ => by simp [cst, rel]
  | .chan _ => by simp [cst, rel]
  | .func _ _ _ => by simp [cst, rel]
  | .iface _ _ => by simp [cst, rel]
  | .agg _ => by simp [cst, rel]
  | .tuple _ => by simp [cst, rel]

theorem opd_ok (R : Rl K w0 M0 L st a w) {t : TypeId} {x : Operand} {k : AV → Cmd} {ts : List Ac} {r : Rz} (h : (opd K t x k).ex st ts = some r) :
    ∃ v ts', (k v).ex st ts' = some r ∧ rel L w (Mut L) v (a.eval x) := by
  cases x with
  | tmp s => exact ⟨_, _, h, by rw [Act.eval_tmp]; exact rels_getS R.env s⟩
  | const v => exact ⟨_, _, h, rel_cst t v⟩
  | func f => exact ⟨_, _, h, by simp [rel, Act.eval, rels]⟩
  | global g => exact ⟨_, _, h, by simp [rel]⟩

theorem opds_ok (R : Rl K w0 M0 L st a w) : ∀ {ts : List TypeId} {xs : List Operand} {k : List AV → Cmd} {t : List Ac} {r : Rz}, (opds K ts xs k).ex st t = some r →
    ∃ vs t', (k vs).ex st t' = some r ∧ rels L w (Mut L) vs (xs.map a.eval)
  | [], [], k, t, r, h => ⟨[], t, h, by simp [rels]⟩
  | _ :: _, [], k, t, r, h => ⟨[], t, h, by simp [rels]⟩
  | [], x :: xs, k, t, r, h => by
    simp only [opds] at h
    obtain ⟨v, t1, h1, hv⟩ := opd_ok R h
    obtain ⟨vs, t2, h2, hvs⟩ := opds_ok R h1
    exact ⟨v :: vs, t2, h2, by simp only [List.map_cons, rels]; exact ⟨_, _, rfl, hv, hvs⟩⟩
  | ty :: ts, x :: xs, k, t, r, h => by
    simp only [opds] at h
    obtain ⟨v, t1, h1, hv⟩ := opd_ok R h
    obtain ⟨vs, t2, h2, hvs⟩ := opds_ok R h1
    exact ⟨v :: vs, t2, h2, by simp only [List.map_cons, rels]; exact ⟨_, _, rfl, hv, hvs⟩⟩

theorem ok_move {C : Spec} {O : Opt} {x : Operand} (h : o.op = .move x ∨ o.op = .assign x) : OpOk K C O o := by
  intro w0 M0 L st a w d k t r R he
  have he' : (opd K o.type x k).ex st t = some r := by rcases h with h | h <;> rw [h] at he <;> exact he
  obtain ⟨v, t', h1, hv⟩ := opd_ok R he'
  refine ⟨v, st.objs, t', h1, Does.same R ?_ hv⟩
  rcases h with h | h <;> simp [execOp, h]

theorem ok_pick {C : Spec} {O : Opt} {c x y : Operand} (h : o.op = .pick c x y) : OpOk K C O o := by
  intro w0 M0 L st a w d k t r R he
  rw [h] at he
  simp only [op1] at he
  obtain ⟨v, t1, h1, hv⟩ := opd_ok R he
  cases v <;> try exact (ex_fail h1).elim
  rename_i b
  simp only [rel] at hv
  cases b with
  | true =>
    simp only [Cmd.ex] at h1
    obtain ⟨u, t2, h2, hu⟩ := opd_ok R h1
    exact ⟨u, st.objs, t2, h2, Does.same R (by simp [execOp, h, hv, asBool]) hu⟩
  | false =>
    simp only [Cmd.ex] at h1
    obtain ⟨u, t2, h2, hu⟩ := opd_ok R h1
    exact ⟨u, st.objs, t2, h2, Does.same R (by simp [execOp, h, hv, asBool]) hu⟩

theorem ok_nilCheck {C : Spec} {O : Opt} {x : Operand} (h : o.op = .nilCheck x) : OpOk K C O o := by
  intro w0 M0 L st a w d k t r R he
  rw [h] at he
  simp only [op1] at he
  obtain ⟨v, t1, h1, hv⟩ := opd_ok R he
  cases v with
  | ptr i off =>
    obtain ⟨b, off, cap, cs, _, e⟩ := id hv
    exact ⟨_, st.objs, t1, h1, Does.same R (v' := a.eval x) (by simp [execOp, h, e]) hv⟩
  | eptr i ver j off =>
    obtain ⟨y, h2, h3⟩ := ex_getO h1
    cases y with
    | var _ => exact (ex_fail h3).elim
    | arr e v' z xs =>
      simp only at h3
      split at h3
      · refine ⟨_, st.objs, _, h3, ?_⟩
        obtain ⟨l, e', cur, z', xs', p, h4, h5, e, h6⟩ := id hv
        exact Does.same R (v' := a.eval x) (by simp [execOp, h, e]) hv
      · exact (ex_fail h3).elim
  | sel e y off =>
    obtain ⟨b, off, ds, e, _⟩ := id hv
    exact ⟨_, st.objs, t1, h1, Does.same R (v' := a.eval x) (by simp [execOp, h, e]) hv⟩
  | fn f cap =>
    obtain ⟨cs, e, _⟩ := id hv
    exact ⟨_, st.objs, t1, h1, Does.same R (v' := a.eval x) (by simp [execOp, h, e]) hv⟩
  | _ => exact (ex_fail h1).elim

end Go.Proofs.Ytmigffdeghfbhaa.Ev
