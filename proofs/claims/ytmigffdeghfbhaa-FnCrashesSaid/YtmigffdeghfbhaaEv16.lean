/- 'append'. -/
import Derived.Test.YtmigffdeghfbhaaEv15
namespace Go.Proofs.Ytmigffdeghfbhaa.Ev
open Go Go.RowKit
set_option linter.unusedSimpArgs false
set_option linter.unusedVariables false

variable {K : Ctx} {w0 : World} {M0 : Bd} {L : Lk} {st : St} {a : Act} {w : World} {o : Oper} {M : Nat → Nat → Prop}

theorem Turn.arr {L : Lk} {j : Nat} {l l' : Loc} {e : Ty} {v v' : Nat} {z z' : Bool} {xs xs' : List (Den e)} (h : L j = some (l, .arr e v z xs)) (hv : v < v') : Turn L (upd L j (l', .arr e v' z' xs')) := by
  intro j' l2 y1 hj
  by_cases hji : j' = j
  · subst hji
    rw [h] at hj; cases hj
    exact ⟨_, _, upd_same _ _ _, v', z', _, rfl, by omega, fun hc => by omega⟩
  · obtain ⟨l', x', h1, h2⟩ := Turn.refl L j' l2 y1 hj
    exact ⟨l', x', by rw [upd_other L _ hji]; exact h1, h2⟩

/-- An own slice that has become a new row. -/
theorem put_arr (hK : K.Ok) (R : Rl K w0 M0 L st a w) {i : Nat} {l : Loc} {e : Ty} {ver : Nat} {ys : List (Den e)} (hi : L i = some (l, .arr e ver false ys)) {xs : List (Den e)} {cap : Nat} {cells rest : List Value} {w' : World}
    (hrow : Row w (Mut L) e xs cells) (hcap : xs.length ≤ cap) (hlen : (cells ++ rest).length = cap * e.size) (hF : Fr w (fun _ _ => False) w')
    (hc : ∀ j, j < cap * e.size → w'.cell? ⟨w.heap.size, j, none⟩ = (cells ++ rest)[j]? ∧ w'.frozen? ⟨w.heap.size, j, none⟩ = false)
    (hrun : (execOp a.eval o).run K.P w = .ok (.value (.slice (some ⟨w.heap.size, 0, none⟩) xs.length cap)) w') :
    Does K w0 M0 o a w L (putO st.objs i (.arr e (ver + 1) false xs)) (.ref i (ver + 1)) := by
  have hT := Turn.arr (l' := ⟨some (w.heap.size, 0), cap⟩) (v' := ver + 1) (z' := false) (xs' := xs) hi (by omega)
  obtain ⟨h2, h3⟩ := R.ro.put hK hi (p' := (⟨some (w.heap.size, 0), cap⟩, .arr e (ver + 1) false xs)) (w' := w') (hF.mono fun _ _ _ => False.elim) hT
    (fun ht => .inr ⟨w.heap.size, 0, rfl, hcap, fun j hj => by
      obtain ⟨ds, k1, k2, k3⟩ := hrow.2 j hj
      refine ⟨ds, k1, rd_tr ht e k2, fun q hq => ?_⟩
      have hlt := mul_lt hj hq
      have hle : xs.length * e.size ≤ cap * e.size := Nat.mul_le_mul_right _ hcap
      rw [Nat.zero_add, (hc _ (by omega)).1, List.getElem?_append_left (by rw [hrow.1]; exact hlt)]
      exact k3 q hq, fun _ j hj => by
        have hj' : j < cap * e.size := hj
        rw [Nat.zero_add]
        refine ⟨?_, (hc j hj').2⟩
        rw [(hc j hj').1, List.getElem?_eq_getElem (by omega)]
        exact ⟨_, rfl⟩, fun hz => by cases hz⟩)
    (fun b o' hr' => .inr (by obtain ⟨o0, e1, _, _⟩ := hr'; simp only [Option.some.injEq, Prod.mk.injEq] at e1; omega))
  refine Does.val hrun h2 (ob_put R i _ _) hT h3 ?_
  simp only [rel]
  exact ⟨_, _, _, _, _, _, _, _, upd_same _ _ _, Nat.le_refl _, rfl, fun _ => ⟨rfl, rfl, rfl⟩⟩

/-- An own slice that has kept its row. -/
theorem put_room (hK : K.Ok) (R : Rl K w0 M0 L st a w) {i : Nat} {l : Loc} {e : Ty} {ver : Nat} {ys : List (Den e)} (hi : L i = some (l, .arr e ver false ys)) {xs : List (Den e)} {cells : List Value} {b o0 : Nat} (hb : l.base = some (b, o0))
    (hrow : Row w (Mut L) e xs cells) (hcap : ys.length + xs.length ≤ l.cap)
    (hrun : (execOp a.eval o).run K.P w = .ok (.value (.slice (some ⟨b, o0, none⟩) (ys.length + xs.length) l.cap)) (w.setCells b (o0 + ys.length * e.size) cells)) :
    Does K w0 M0 o a w L (putO st.objs i (.arr e (ver + 1) false (ys ++ xs))) (.ref i (ver + 1)) := by
  have hT := Turn.arr (l' := l) (v' := ver + 1) (z' := false) (xs' := ys ++ xs) hi (by omega)
  rcases R.ro.ok i _ hi with ⟨h8, _⟩ | ⟨b', o', h8, h9, h10, h11, _⟩
  · simp only at h8; rw [hb] at h8; cases h8
  simp only at h8
  rw [hb] at h8
  simp only [Option.some.injEq, Prod.mk.injEq] at h8
  obtain ⟨rfl, rfl⟩ := h8
  replace h11 : ∀ j, j < l.cap * e.size → (∃ u, w.cell? ⟨b, o0 + j, none⟩ = some u) ∧ w.frozen? ⟨b, o0 + j, none⟩ = false := h11 rfl
  replace h9 : ys.length ≤ l.cap := h9
  have hcl := hrow.1
  have hroom : ys.length * e.size + cells.length ≤ l.cap * e.size := by rw [hcl, ← Nat.add_mul]; exact Nat.mul_le_mul_right _ hcap
  have hcell : ∀ j, j < cells.length → ∃ u, w.cell? ⟨b, o0 + ys.length * e.size + j, none⟩ = some u := fun j hj => by
    have := (h11 (ys.length * e.size + j) (by omega)).1
    rwa [← Nat.add_assoc] at this
  obtain ⟨h2, h3⟩ := R.ro.put hK hi (p' := (l, .arr e (ver + 1) false (ys ++ xs))) (w' := w.setCells b (o0 + ys.length * e.size) cells)
    (Fr.setCells b _ _ w fun j hj => ⟨o0, hb, by omega, by simp only [ext, Bool.false_eq_true, if_false]; omega⟩) hT
    (fun ht => .inr ⟨b, o0, hb, by simpa using hcap, fun j hj => by
      by_cases hjl : j < ys.length
      · obtain ⟨ds, k1, k2, k3⟩ := h10 j hjl
        refine ⟨ds, k1, by rw [List.getElem_append_left hjl]; exact rd_tr ht e k2, fun q hq => ?_⟩
        have := mul_lt hjl hq
        rw [setCells_get hcell, if_neg (by omega)]
        exact k3 q hq
      · have hj' : j - ys.length < xs.length := by simp at hj; omega
        obtain ⟨ds, k1, k2, k3⟩ := hrow.2 (j - ys.length) hj'
        refine ⟨ds, k1, by rw [List.getElem_append_right (by omega)]; exact rd_tr ht e k2, fun q hq => ?_⟩
        have e1 : j * e.size = ys.length * e.size + (j - ys.length) * e.size := by rw [← Nat.add_mul]; congr 1; omega
        have := mul_lt hj' hq
        rw [setCells_get hcell, if_pos (by omega)]
        rw [← k3 q hq]; congr 1; omega,
      fun _ j hj => by
        obtain ⟨⟨u, k1⟩, k2⟩ := h11 j hj
        refine ⟨?_, by rw [World.frozen?_setCells]; exact k2⟩
        rw [setCells_get hcell]
        split
        · exact ⟨_, List.getElem?_eq_getElem (by omega)⟩
        · exact ⟨u, k1⟩,
      fun hz => by cases hz⟩)
    (fun b' o' hr => .inl (by obtain ⟨x0, e1, e2, e3⟩ := hr; exact ⟨x0, e1, e2, e3⟩))
  refine Does.val hrun h2 (ob_put R i _ _) hT h3 ?_
  simp only [rel]
  exact ⟨_, _, _, _, _, _, _, _, upd_same _ _ _, Nat.le_refl _, rfl, fun _ => ⟨by simp [Loc.addr, hb], by simp, rfl⟩⟩

theorem alloc_drew (w : World) (C : Array Value) (t : TypeId) : ∀ j, (w.drew.alloc (.cells C t)).cell? ⟨w.heap.size, j, none⟩ = C.toList[j]? ∧ (w.drew.alloc (.cells C t)).frozen? ⟨w.heap.size, j, none⟩ = false :=
  alloc_cells w w.drew C t rfl

theorem fr_drew (w : World) (x : Obj) : Fr w (fun _ _ => False) (w.drew.alloc x) := ((Fr.refl w _).drew).trans (Fr.alloc _ _ _) fun _ _ _ => id

theorem ok_append {C : Spec} {O : Opt} (hK : K.Ok) {c : Call} (h : o.op = .call c) (hb : c.callee = .builtin .append) : OpOk K C O o := by
  intro w0 M0 L st a w d k t r R he
  rw [h] at he
  simp only [op1, hb] at he
  split at he
  case h_2 => exact (ex_fail he).elim
  rename_i ty tx hty
  split at he
  case h_2 => exact (ex_fail he).elim
  rename_i te e b hel
  obtain ⟨vs, t1, he1, hvs⟩ := opds_ok R he
  clear he
  split at he1
  case h_2 => exact (ex_fail he1).elim
  rename_i s x
  obtain ⟨sv, xv, hv1, hs, hx⟩ := rels_two hvs
  obtain ⟨cons, hrun⟩ := run_builtin (K := K) (a := a) (w := w) h hb
  rw [args_of hv1] at hrun
  have hat : c.argTypes = #[ty, tx] := by apply Array.ext'; simpa using hty
  rw [hat] at hrun
  obtain ⟨i, ag, g0, g1, g2, g3, g4, g5, g6, g7, g8, g9⟩ := elt_facts hK hel
  obtain ⟨xs, t2, cells, he2, hrow, hsrc⟩ := items_ok hK R hx he1
  clear he1
  have hrun' : ∀ {v' : Value} {w' : World}, (Builtin.append_ #[ty, tx] o.type #[sv, xv]).run K.P w = .ok v' w' → (execOp a.eval o).run K.P w = .ok (.value v') w' := by
    intro v' w' h1
    rw [hrun]
    simp [builtin, h1]
  have hsrc' := hsrc
  rw [← g6] at hsrc
  -- a new row behind the old elements
  have grow : ∀ {base : Option Addr} {cap : Nat} {ys : List (Den e)} {olds : List Value}, sv = .slice base ys.length cap → Row w (Mut L) e ys olds → (Builtin.firstCells i.size ys.length (.slice base ys.length cap)).run K.P w.drew = .ok olds.toArray w.drew →
      cap < ys.length + xs.length → (ys.length + xs.length) * b ≤ 140737488355328 →
      ∃ (cap' : Nat) (rest : List Value) (w' : World), (ys ++ xs).length ≤ cap' ∧ Row w (Mut L) e (ys ++ xs) (olds ++ cells) ∧ ((olds ++ cells) ++ rest).length = cap' * e.size ∧ Fr w (fun _ _ => False) w' ∧
        (∀ j, j < cap' * e.size → w'.cell? ⟨w.heap.size, j, none⟩ = ((olds ++ cells) ++ rest)[j]? ∧ w'.frozen? ⟨w.heap.size, j, none⟩ = false) ∧
        (execOp a.eval o).run K.P w = .ok (.value (.slice (some ⟨w.heap.size, 0, none⟩) (ys ++ xs).length cap')) w' := by
    intro base cap ys olds hsv hys hold hlt hbd
    have hn : ys.length + xs.length ≤ 140737488355328 := by
      have : (ys.length + xs.length) * 1 ≤ (ys.length + xs.length) * b := Nat.mul_le_mul_left _ g5
      omega
    have hge := grownCap_ge w (ys.length + xs.length) cap te
    have hr := run_append_grow_src (P := K.P) w ty tx o.type te i _ g0 g3 g7 base ys.length cap olds hold xv xs.length cells hsrc hlt (by omega) (by rw [g4]; exact growslice_fits hlt hbd)
    rw [← hsv] at hr
    refine ⟨_, (Builtin.zeroCells (zval e.cts ag).cells (grownCap w (ys.length + xs.length) cap te - (ys.length + xs.length))).toList, _, by simpa using hge, hys.append hrow, ?_, fr_drew w _, fun j hj => ?_, hrun' (by rw [List.length_append]; exact hr)⟩
    · have e1 : (Builtin.zeroCells (zval e.cts ag).cells (grownCap w (ys.length + xs.length) cap te - (ys.length + xs.length))).toList.length = (grownCap w (ys.length + xs.length) cap te - (ys.length + xs.length)) * e.size := by
        rw [Array.length_toList, size_zeroCells, g9]
      rw [List.length_append, List.length_append, hys.1, hrow.1, e1, ← Nat.add_mul, ← Nat.add_mul]
      congr 1; omega
    · have := alloc_drew w ((olds ++ cells).toArray ++ Builtin.zeroCells (zval e.cts ag).cells (grownCap w (ys.length + xs.length) cap te - (ys.length + xs.length))) te j
      rw [Array.toList_append] at this
      exact this
  cases s with
  | nil e' =>
    simp only at he2
    split at he2
    case isFalse => exact (ex_fail he2).elim
    rename_i hee
    subst hee
    obtain ⟨q1, he3⟩ := ex_chk he2
    simp only [decide_eq_true_eq] at q1
    obtain ⟨q2, he4⟩ := ex_newO he3
    have hs' := rel_nil hs
    by_cases hx0 : xs = []
    · subst hx0
      have hcells : cells = [] := by have := hrow.1; simpa using this
      subst hcells
      refine ⟨_, _, _, he4, new_none hK R q2 (hrun' ?_)⟩
      rw [hs']
      exact run_append_nothing (P := K.P) w ty tx o.type te i g0 g3 none 0 0 (Nat.le_refl _) xv hsrc
    · have hpos : 0 < xs.length := List.length_pos_iff.2 hx0
      obtain ⟨cap', rest, w', p1, p2, p3, p4, p5, p6⟩ := grow (base := none) (cap := 0) (ys := []) (olds := []) hs' (Row.nil _ _ _) (run_firstCells_none w.drew _ _ _ _) (by simpa using hpos) (by simpa using q1)
      exact ⟨_, _, _, he4, new_arr hK R q2 (xs := xs) p2 p1 p3 p4 p5 p6⟩
  | ref j ver =>
    obtain ⟨z, q1, he3⟩ := ex_getO he2
    cases z with
    | var _ => exact (ex_fail he3).elim
    | arr e' v' z ys =>
      cases z with
      | true => exact (ex_fail he3).elim
      | false =>
      simp only at he3
      split at he3
      case isFalse => exact (ex_fail he3).elim
      rename_i hee
      subst hee
      split at he3
      case isFalse => exact (ex_fail he3).elim
      rename_i hver
      obtain ⟨q2, he4⟩ := ex_chk he3
      simp only [decide_eq_true_eq] at q2
      obtain ⟨_, he5⟩ := ex_putO he4
      simp only [rel] at hs
      obtain ⟨l0, e', cur, z', xs', p, m, cc, h4, h5, h6, h7⟩ := hs
      have hob := R.ob j
      rw [q1, h4] at hob
      simp only [Option.map_some, Option.some.injEq, Ob.arr.injEq] at hob
      obtain ⟨rfl, rfl, rfl, hxs⟩ := hob
      have hxs := eq_of_heq hxs
      subst hxs
      obtain ⟨rfl, rfl, rfl⟩ := h7 hver
      subst hver
      refine ⟨_, _, _, he5, ?_⟩
      rcases R.ro.ok j _ h4 with ⟨h8, h9, h10⟩ | ⟨b', o0, h8, h9, h10, h11, _⟩
      · replace h8 : l0.base = none := h8
        replace h10 : l0.cap = 0 := h10
        subst h9
        by_cases hx0 : xs = []
        · subst hx0
          have hcells : cells = [] := by have := hrow.1; simpa using this
          subst hcells
          have hT := Turn.arr (l' := l0) (v' := ver + 1) (z' := false) (xs' := ([] : List (Den e'))) h4 (by omega)
          obtain ⟨p1, p2⟩ := R.ro.put hK h4 (p' := (l0, .arr e' (ver + 1) false [])) (w' := w) (Fr.refl w _) hT (fun _ => .inl ⟨h8, rfl, h10⟩) (fun b o hr => by obtain ⟨_, e1, _⟩ := hr; rw [h8] at e1; cases e1)
          have hr := run_append_nothing (P := K.P) w ty tx o.type te i g0 g3 l0.addr 0 l0.cap (by omega) xv hsrc
          refine Does.val (hrun' (by rw [h6]; exact hr)) p1 (ob_put R j _ _) hT p2 ?_
          simp only [rel]
          exact ⟨_, _, _, _, _, _, _, _, upd_same _ _ _, Nat.le_refl _, rfl, fun _ => ⟨rfl, rfl, rfl⟩⟩
        · have hpos : 0 < xs.length := List.length_pos_iff.2 hx0
          obtain ⟨cap', rest, w', p1, p2, p3, p4, p5, p6⟩ := grow (base := l0.addr) (cap := l0.cap) (ys := []) (olds := []) h6 (Row.nil _ _ _) (by simp only [Loc.addr, h8]; exact run_firstCells_none w.drew _ _ _ _) (by rw [h10]; simpa using hpos) (by simpa using q2)
          exact put_arr hK R h4 p2 p1 p3 p4 p5 p6
      · replace h8 : l0.base = some (b', o0) := h8
        replace h9 : ys.length ≤ l0.cap := h9
        have ha : l0.addr = some ⟨b', o0, none⟩ := by simp [Loc.addr, h8]
        by_cases hroom : ys.length + xs.length ≤ l0.cap
        · have hc : ∀ j, j < cells.length → (∃ u, w.cell? ⟨b', o0 + ys.length * e'.size + j, none⟩ = some u) ∧ w.frozen? ⟨b', o0 + ys.length * e'.size + j, none⟩ = false := fun j hj => by
            have hle : (ys.length + xs.length) * e'.size ≤ l0.cap * e'.size := Nat.mul_le_mul_right _ hroom
            rw [Nat.add_mul, ← hrow.1] at hle
            have := h11 rfl (ys.length * e'.size + j) (by show _ < l0.cap * e'.size; omega)
            rwa [← Nat.add_assoc] at this
          have hr := run_append_room_src (P := K.P) w ty tx o.type te i g0 g3 b' o0 ys.length l0.cap xv xs.length cells hsrc hroom (fun j hj => by
            obtain ⟨⟨u, hu⟩, _⟩ := hc j hj; rw [g6, hu]; rfl) (fun j hj => by rw [g6]; exact (hc j hj).2)
          rw [g6] at hr
          exact put_room hK R h4 h8 hrow hroom (hrun' (by rw [h6, ha]; exact hr))
        · obtain ⟨cs, h12, h13⟩ := rd_row (l := ys) (b := b') (o := o0) (w := w) (M := Mut L) h10
          obtain ⟨cap', rest, w', p1, p2, p3, p4, p5, p6⟩ := grow (base := l0.addr) (cap := l0.cap) (ys := ys) (olds := cs) h6 h12 (by
            rw [ha]
            refine run_firstCells_some w.drew _ _ _ _ _ cs (by rw [h12.1, g6]) fun q u hu => ?_
            have hq := (List.getElem?_eq_some_iff.1 hu).1
            rw [← hu, ← h13 q hq]; simp [Addr.add_lit]) (by omega) q2
          exact put_arr hK R h4 p2 p1 p3 p4 p5 p6
  | _ => exact (ex_fail he2).elim

end Go.Proofs.Ytmigffdeghfbhaa.Ev
