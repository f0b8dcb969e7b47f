/- Operations that make slices: 'make', conversions, 'append'. -/
import Derived.Test.YtmigffdeghfbhaaEv13
namespace Go.Proofs.Ytmigffdeghfbhaa.Ev
open Go Go.RowKit
set_option linter.unusedSimpArgs false
set_option linter.unusedVariables false

variable {K : Ctx} {w0 : World} {M0 : Bd} {L : Lk} {st : St} {a : Act} {w : World} {o : Oper} {M : Nat → Nat → Prop}

theorem ok_makeSlice {C : Spec} {O : Opt} (hK : K.Ok) {ty : TypeId} {len cap : Operand} (h : o.op = .makeSlice ty len cap) : OpOk K C O o := by
  intro w0 M0 L st a w d k t r R he
  rw [h] at he
  simp only [op1] at he
  split at he
  case h_2 => exact (ex_fail he).elim
  rename_i te e b hel
  obtain ⟨i, ag, g0, g1, g2, g3, g4, g5, g6, g7, g8, g9⟩ := elt_facts hK hel
  obtain ⟨v, t1, he1, hv⟩ := opd_ok R he
  cases v <;> try exact (ex_fail he1).elim
  rename_i kl n
  obtain ⟨u, t2, he2, hu⟩ := opd_ok R he1
  cases u <;> try exact (ex_fail he2).elim
  rename_i kc c
  obtain ⟨q1, he3⟩ := ex_chk he2
  obtain ⟨q2, he4⟩ := ex_chk he3
  obtain ⟨q3, he5⟩ := ex_chk he4
  simp only [decide_eq_true_eq] at q1 q2 q3
  subst q2
  obtain ⟨h1, h2⟩ := ex_newO he5
  simp only [rel] at hv hu
  have hnb : n ≤ 140737488355328 := by
    have : n * 1 ≤ n * (b : Int) := Int.mul_le_mul_of_nonneg_left (by omega) q1
    omega
  have hrun := run_make (P := K.P) w ty te i _ g0 g3 g7 kl kc n n q1 (Int.le_refl _) (by rw [g4, Int.mul_comm]; omega) (by omega)
  rw [g6] at hrun
  refine ⟨_, _, _, h2, new_arr hK R h1 (cells := (madeCells (zval e.cts ag).cells (n.toNat * e.size)).toList) (rest := []) (cap := n.toNat) (w' := w.alloc (.cells (madeCells (zval e.cts ag).cells (n.toNat * e.size)) te)) (Row.zeros e _ g8 _) (by simp) (by simp [madeCells]) (Fr.alloc w _ _) (fun j hj => ?_) ?_⟩
  · have := alloc_cells w w (madeCells (zval e.cts ag).cells (n.toNat * e.size)) te rfl j
    exact ⟨by simp [this.1], this.2⟩
  · simp only [execOp, h, hv, hu]
    simp [hrun]

/-- What is read off a slice. -/
theorem itemsS_ok (hK : K.Ok) (R : Rl K w0 M0 L st a w) {t : TypeId} {e : Ty} {x : AV} {v : Value} {k : List (Den e) → Cmd} {ts : List Ac} {r : Rz} (hv : rel L w (Mut L) x v) (h : (itemsS K t e x k).ex st ts = some r) :
    ∃ (l : List (Den e)) (ts' : List Ac) (cells : List Value) (p : Option Addr) (c : Nat), (k l).ex st ts' = some r ∧ Row w (Mut L) e l cells ∧ v = .slice p l.length c ∧ (l = [] ∨ ∃ b off, p = some ⟨b, off, none⟩ ∧ ∀ j, j < cells.length → w.cell? ⟨b, off + j, none⟩ = cells[j]?) ∧ ∃ te b, K.elt t = some (te, e, b) := by
  unfold itemsS at h
  split at h
  case h_2 => exact (ex_fail h).elim
  rename_i te e0 b0 hel
  split at h
  case isFalse => exact (ex_fail h).elim
  rename_i hee
  subst hee
  cases x with
  | sh e' l =>
    simp only at h
    split at h
    case isFalse => exact (ex_fail h).elim
    rename_i he'
    subst he'
    simp only [rel, rd] at hv
    obtain ⟨p, n, c, h2, rfl, h3, h4⟩ := hv
    simp only [List.cons.injEq, and_true] at h2
    rcases h4 with h4 | ⟨b, off, hp, hr⟩
    · subst h4
      exact ⟨[], _, [], p, c, h, Row.nil _ _ _, h2, .inl rfl, _, _, hel⟩
    · obtain ⟨cs, h5, h6⟩ := rd_row (l := l) (b := b) (o := off) (w := w) (M := Mut L) (e := e') fun i hi => by
        obtain ⟨ds, k1, k2, k3⟩ := hr i hi
        exact ⟨ds, k1, k2, fun j hj => (k3 j hj).1⟩
      exact ⟨l, _, cs, p, c, h, h5, h2, .inr ⟨b, off, hp, h6⟩, _, _, hel⟩
  | nil e' =>
    simp only at h
    split at h
    case isFalse => exact (ex_fail h).elim
    have := rel_nil hv
    exact ⟨[], _, [], none, 0, h, Row.nil _ _ _, this, .inl rfl, _, _, hel⟩
  | ref j ver =>
    obtain ⟨z, h2, h3⟩ := ex_getO h
    cases z with
    | var _ => exact (ex_fail h3).elim
    | arr e' v' z xs =>
      simp only at h3
      split at h3
      case isFalse => exact (ex_fail h3).elim
      rename_i hver
      split at h3
      case isFalse => exact (ex_fail h3).elim
      rename_i he'
      subst he'
      simp only [rel] at hv
      obtain ⟨l0, e', cur, z', xs', p, m, cc, h4, h5, h6, h7⟩ := hv
      have hob := R.ob j
      rw [h2, h4] at hob
      simp only [Option.map_some, Option.some.injEq, Ob.arr.injEq] at hob
      obtain ⟨rfl, rfl, rfl, hxs⟩ := hob
      have hxs := eq_of_heq hxs
      subst hxs
      obtain ⟨rfl, rfl, rfl⟩ := h7 hver
      rcases R.ro.ok j _ h4 with ⟨h8, h9, h10⟩ | ⟨b, o0, h8, h9, h10, _, h11⟩
      · subst h9
        exact ⟨[], _, [], _, _, h3, Row.nil _ _ _, h6, .inl rfl, _, _, hel⟩
      · replace h8 : l0.base = some (b, o0) := h8
        obtain ⟨cs, h12, h13⟩ := rd_row (l := xs) (b := b) (o := o0) (w := w) (M := Mut L) h10
        exact ⟨xs, _, cs, _, _, h3, h12, h6, .inr ⟨b, o0, by simp [Loc.addr, h8], h13⟩, _, _, hel⟩
  | _ => exact (ex_fail h).elim

theorem map_bytes (s : List UInt8) : byteCells ⟨s.toArray⟩ = (bytesOf s).map (Value.int .u8) := by
  simp [byteCells, bytesOf]

theorem Row.ints (l : List Int) (k : IntKind) : Row w M (.int k) l (l.map (Value.int k)) := by
  refine ⟨by simp [Ty.size, Ty.cts], fun i hi => ⟨[.int k l[i]], by simp [Ty.size, Ty.cts], by simp [rd], fun j hj => ?_⟩⟩
  have hj0 : j = 0 := by simp [Ty.size, Ty.cts] at hj; omega
  subst hj0
  simp [Ty.size, Ty.cts, hi]

theorem items_ok (hK : K.Ok) (R : Rl K w0 M0 L st a w) {t : TypeId} {e : Ty} {x : AV} {v : Value} {k : List (Den e) → Cmd} {ts : List Ac} {r : Rz} (hv : rel L w (Mut L) x v) (h : (items K t e x k).ex st ts = some r) :
    ∃ (l : List (Den e)) (ts' : List Ac) (cells : List Value), (k l).ex st ts' = some r ∧ Row w (Mut L) e l cells ∧ Src K.P e.size t v l.length cells w := by
  have slc : ∀ {ts : List Ac}, (itemsS K t e x k).ex st ts = some r → ∃ (l : List (Den e)) (ts' : List Ac) (cells : List Value), (k l).ex st ts' = some r ∧ Row w (Mut L) e l cells ∧ Src K.P e.size t v l.length cells w := by
    intro ts h
    obtain ⟨l, ts', cells, p, c, h1, h2, rfl, h3, te, b, hel⟩ := itemsS_ok hK R hv h
    obtain ⟨i, ag, g0, _⟩ := elt_facts hK hel
    refine ⟨l, ts', cells, h1, h2, ?_⟩
    rcases h3 with rfl | ⟨b, off, rfl, h4⟩
    · have : cells = [] := by have := h2.1; simpa using this
      subst this
      cases p with
      | none => exact Src.ofNil w g0 c
      | some p => exact Src.ofSlice w g0 p 0 c [] (by simp) (fun j u hu => by simp at hu) (fun u hu => by cases hu)
    · exact Src.ofSlice w g0 _ _ c cells h2.1 (fun j u hu => by
        have hj := (List.getElem?_eq_some_iff.1 hu).1
        rw [← hu, ← h4 j hj]; simp [Addr.add_lit]) h2.one
  cases x with
  | str s =>
    simp only [items] at h
    split at h
    case h_2 => exact (ex_fail h).elim
    rename_i hl
    cases e with
    | int ke =>
      cases ke <;> try exact (ex_fail h).elim
      simp only [rel] at hv
      subst hv
      refine ⟨_, _, (bytesOf s).map (Value.int .u8), h, Row.ints _ _, ?_⟩
      have := Src.ofString (P := K.P) w (lay_str hK hl rfl) ⟨s.toArray⟩
      rw [map_bytes] at this
      have e1 : (bytesOf s).length = (ByteArray.mk s.toArray).size := by simp [bytesOf, ByteArray.size]
      rw [e1]
      exact this
    | _ => exact (ex_fail h).elim
  | _ => simp only [items] at h; exact slc h

end Go.Proofs.Ytmigffdeghfbhaa.Ev
