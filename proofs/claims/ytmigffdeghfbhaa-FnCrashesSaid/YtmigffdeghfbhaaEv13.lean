/- Operations that make slices: literals, 'make', conversions, 'append'. -/
import Derived.Test.YtmigffdeghfbhaaEv12
import Derived.Great.BuildSlice
import Derived.Deep.AppendSrc
import Derived.Deep.Upon
import Derived.Laws.AppendOwn
import Derived.Laws.MakeOwn
import Derived.Laws.IdiomStrings
import Derived.Laws.BytesString
namespace Go.Proofs.Ytmigffdeghfbhaa.Ev
open Go Go.RowKit
set_option linter.unusedSimpArgs false
set_option linter.unusedVariables false

variable {K : Ctx} {w0 : World} {M0 : Bd} {L : Lk} {st : St} {a : Act} {w : World} {o : Oper} {M : Nat → Nat → Prop}

/-- Cells that read as a list. -/
def Row (w : World) (M : Nat → Nat → Prop) (e : Ty) (l : List (Den e)) (cs : List Value) : Prop :=
  cs.length = l.length * e.size ∧ ∀ i (h : i < l.length), ∃ ds : List Value, ds.length = e.size ∧ rd w M e l[i] ds ∧ ∀ j, j < e.size → cs[i * e.size + j]? = ds[j]?

theorem Row.tr {w' : World} {M' : Nat → Nat → Prop} {e : Ty} {l : List (Den e)} {cs : List Value} (ht : Tr w M w' M') (h : Row w M e l cs) : Row w' M' e l cs :=
  ⟨h.1, fun i hi => by obtain ⟨ds, h1, h2, h3⟩ := h.2 i hi; exact ⟨ds, h1, rd_tr ht e h2, h3⟩⟩

theorem Row.nil (w : World) (M : Nat → Nat → Prop) (e : Ty) : Row w M e [] [] := ⟨by simp, fun i h => by simp at h⟩

theorem Row.append {e : Ty} {l l' : List (Den e)} {cs cs' : List Value} (h : Row w M e l cs) (h' : Row w M e l' cs') : Row w M e (l ++ l') (cs ++ cs') := by
  refine ⟨by simp [h.1, h'.1, Nat.add_mul], fun i hi => ?_⟩
  by_cases hl : i < l.length
  · obtain ⟨ds, h1, h2, h3⟩ := h.2 i hl
    refine ⟨ds, h1, by rw [List.getElem_append_left hl]; exact h2, fun j hj => ?_⟩
    rw [List.getElem?_append_left (by rw [h.1]; exact mul_lt hl hj)]
    exact h3 j hj
  · have hi' : i - l.length < l'.length := by simp at hi; omega
    obtain ⟨ds, h1, h2, h3⟩ := h'.2 (i - l.length) hi'
    refine ⟨ds, h1, by rw [List.getElem_append_right (by omega)]; exact h2, fun j hj => ?_⟩
    have e1 : i * e.size = l.length * e.size + (i - l.length) * e.size := by rw [← Nat.add_mul]; congr 1; omega
    rw [List.getElem?_append_right (by rw [h.1]; omega), h.1]
    rw [← h3 j hj]; congr 1; omega

theorem Row.cell {e : Ty} {l : List (Den e)} {cs : List Value} (h : Row w M e l cs) {j : Nat} (hj : j < l.length * e.size) : ∃ (i q : Nat) (hi : i < l.length) (_ : q < e.size), j = i * e.size + q := by
  have hes : 0 < e.size := by
    rcases Nat.eq_zero_or_pos e.size with h | h
    · rw [h] at hj; simp at hj
    · exact h
  refine ⟨j / e.size, j % e.size, Nat.div_lt_of_lt_mul (by rw [Nat.mul_comm]; exact hj), Nat.mod_lt _ hes, ?_⟩
  have := Nat.div_add_mod j e.size
  rw [Nat.mul_comm] at this; omega

theorem Row.one {e : Ty} {l : List (Den e)} {cs : List Value} (h : Row w M e l cs) : ∀ c ∈ cs, c.oneCell' = true := by
  intro c hc
  obtain ⟨j, hj, rfl⟩ := List.mem_iff_getElem.1 hc
  obtain ⟨i, q, hi, hq, e1⟩ := h.cell (j := j) (by rw [← h.1]; exact hj)
  obtain ⟨ds, h1, h2, h3⟩ := h.2 i hi
  have h4 := h3 q hq
  rw [← e1, List.getElem?_eq_getElem hj, List.getElem?_eq_getElem (by omega)] at h4
  simp only [Option.some.injEq] at h4
  rw [h4]
  exact rd_one e h2 _ (List.getElem_mem _)

/-- The cells of a list that is read alone. -/
theorem rd_row {e : Ty} {l : List (Den e)} {b o : Nat} (hr : ∀ i (h : i < l.length), ∃ ds : List Value, ds.length = e.size ∧ rd w M e l[i] ds ∧ ∀ j, j < e.size → w.cell? ⟨b, o + i * e.size + j, none⟩ = ds[j]?) :
    ∃ cs, Row w M e l cs ∧ ∀ j, j < cs.length → w.cell? ⟨b, o + j, none⟩ = cs[j]? := by
  refine ⟨(List.range (l.length * e.size)).map fun j => (w.cell? ⟨b, o + j, none⟩).getD undef, ?_, ?_⟩
  · refine ⟨by simp, fun i hi => ?_⟩
    obtain ⟨ds, h1, h2, h3⟩ := hr i hi
    refine ⟨ds, h1, h2, fun j hj => ?_⟩
    have hlt := mul_lt hi hj
    have h4 := h3 j hj
    rw [List.getElem?_eq_getElem (by omega)] at h4
    rw [List.getElem?_eq_getElem (i := j) (by omega)]
    rw [Nat.add_assoc] at h4
    rw [List.getElem?_map, List.getElem?_range hlt]
    simp [h4]
  · intro j hj
    simp only [List.length_map, List.length_range] at hj
    have hes : 0 < e.size := by
      rcases Nat.eq_zero_or_pos e.size with h | h
      · rw [h] at hj; simp at hj
      · exact h
    obtain ⟨ds, h1, h2, h3⟩ := hr (j / e.size) (Nat.div_lt_of_lt_mul (by rw [Nat.mul_comm]; exact hj))
    have h4 := h3 (j % e.size) (Nat.mod_lt _ hes)
    have e1 : o + j / e.size * e.size + j % e.size = o + j := by
      have := Nat.div_add_mod j e.size
      rw [Nat.mul_comm] at this; omega
    rw [e1, List.getElem?_eq_getElem (by rw [h1]; exact Nat.mod_lt _ hes)] at h4
    simp [List.getElem?_map, hj, h4]

/-- A new row. -/
theorem new_arr (hK : K.Ok) (R : Rl K w0 M0 L st a w) {i : Nat} (hi : getO st.objs i = none) {e : Ty} {xs : List (Den e)} {cap : Nat} {cells rest : List Value} {w' : World}
    (hrow : Row w (Mut L) e xs cells) (hcap : xs.length ≤ cap) (hlen : (cells ++ rest).length = cap * e.size) (hF : Fr w (fun _ _ => False) w')
    (hc : ∀ j, j < cap * e.size → w'.cell? ⟨w.heap.size, j, none⟩ = (cells ++ rest)[j]? ∧ w'.frozen? ⟨w.heap.size, j, none⟩ = false)
    (hrun : (execOp a.eval o).run K.P w = .ok (.value (.slice (some ⟨w.heap.size, 0, none⟩) xs.length cap)) w') :
    Does K w0 M0 o a w L (putO st.objs i (.arr e 0 false xs)) (.ref i 0) := by
  obtain ⟨h2, h3, h4⟩ := R.ro.new hK (L_none R hi) (p := (⟨some (w.heap.size, 0), cap⟩, .arr e 0 false xs)) (w' := w') hF
    (fun ht => .inr ⟨w.heap.size, 0, rfl, hcap, fun j hj => by
      obtain ⟨ds, k1, k2, k3⟩ := hrow.2 j hj
      refine ⟨ds, k1, rd_tr ht e k2, fun q hq => ?_⟩
      have hlt := mul_lt hj hq
      have hle : xs.length * e.size ≤ cap * e.size := Nat.mul_le_mul_right _ hcap
      rw [Nat.zero_add, (hc _ (by omega)).1, List.getElem?_append_left (by rw [hrow.1]; exact hlt)]
      exact k3 q hq, fun _ j hj => by
        have hj' : j < cap * e.size := hj
        rw [Nat.zero_add]
        refine ⟨?_, (hc j hj').2⟩
        rw [(hc j hj').1, List.getElem?_eq_getElem (by omega)]
        exact ⟨_, rfl⟩, fun hz => by cases hz⟩)
    (fun b o' hr' => by obtain ⟨o0, e1, _, _⟩ := hr'; simp only [Option.some.injEq, Prod.mk.injEq] at e1; omega)
  refine Does.val hrun h2 (ob_put R i _ _) h4 h3 ?_
  simp only [rel]
  exact ⟨_, _, _, _, _, _, _, _, upd_same _ _ _, Nat.le_refl _, rfl, fun _ => ⟨rfl, rfl, rfl⟩⟩

/-- A new row of one block's cells. -/
theorem alloc_cells (w w1 : World) (C : Array Value) (t : TypeId) (h : w1.heap.size = w.heap.size) : ∀ j, (w1.alloc (.cells C t)).cell? ⟨w.heap.size, j, none⟩ = C.toList[j]? ∧ (w1.alloc (.cells C t)).frozen? ⟨w.heap.size, j, none⟩ = false := by
  intro j
  rw [← h]
  exact ⟨by rw [World.cell?_alloc_new]; simp, World.frozen?_alloc_new _ _ _ _⟩

/-- A slice that has no array. -/
theorem new_none (hK : K.Ok) (R : Rl K w0 M0 L st a w) {i : Nat} (hi : getO st.objs i = none) {e : Ty} (hrun : (execOp a.eval o).run K.P w = .ok (.value (.slice none 0 0)) w) :
    Does K w0 M0 o a w L (putO st.objs i (.arr e 0 false [])) (.ref i 0) := by
  obtain ⟨h2, h3, h4⟩ := R.ro.new hK (L_none R hi) (p := (⟨none, 0⟩, .arr e 0 false [])) (w' := w) (Fr.refl w _) (fun _ => .inl ⟨rfl, rfl, rfl⟩)
    (fun b o' hr' => by obtain ⟨o0, e1, _, _⟩ := hr'; cases e1)
  refine Does.val hrun h2 (ob_put R i _ _) h4 h3 ?_
  simp only [rel]
  exact ⟨_, _, _, _, _, _, _, _, upd_same _ _ _, Nat.le_refl _, rfl, fun _ => ⟨rfl, rfl, rfl⟩⟩

/-- The i-th of an own slice's elements. -/
theorem elt_facts (hK : K.Ok) {t te : TypeId} {e : Ty} {b : Nat} (hel : K.elt t = some (te, e, b)) :
    ∃ i ag, K.P.underlying t = some (.slice te) ∧ K.lay te = some (e.cts, ag) ∧ 0 < e.size ∧ K.P.info? te = some i ∧ i.bytes = b ∧ 0 < b ∧ i.size = e.size ∧ i.zero = some (zval e.cts ag) ∧ (zval e.cts ag).cells.toList = e.cts.map zv ∧ (zval e.cts ag).cells.size = e.size := by
  obtain ⟨g0, ⟨ag, g1⟩, g2, i, g3, g4, g5⟩ := hK.elt t te e b hel
  obtain ⟨i', d, h1, h2, h3, h4, _⟩ := hK.lay te _ ag g1
  rw [g3] at h1; cases h1
  have hz := zval_cells hK g1
  refine ⟨i, ag, g0, g1, g2, g3, g4, g5, h3, h4, hz, ?_⟩
  have := congrArg List.length hz
  simpa [Ty.size] using this

theorem rd_zero (w : World) (M : Nat → Nat → Prop) : ∀ (e : Ty), rd w M e (Den.zero e) (e.cts.map zv)
  | .int k => by simp [rd, Den.zero, Ty.cts, zv]
  | .bool => by simp [rd, Den.zero, Ty.cts, zv]
  | .str => by simp [rd, Den.zero, Ty.cts, zv]
  | .slice e => by
    simp only [rd, Den.zero, Ty.cts, zv, List.map_cons, List.map_nil]
    exact ⟨none, 0, 0, rfl, rfl, Nat.le_refl _, .inl trivial⟩
  | .pair a b => by
    simp only [rd, Den.zero, Ty.cts, List.map_append]
    exact ⟨_, _, rfl, rd_zero w M a, rd_zero w M b⟩
  | .unit => by simp [rd, Den.zero, Ty.cts]

theorem Row.zeros (e : Ty) (z : Array Value) (hz : z.toList = e.cts.map zv) (n : Nat) : Row w M e (List.replicate n (Den.zero e)) (madeCells z (n * e.size)).toList := by
  have hs : z.size = e.size := by have := congrArg List.length hz; simpa [Ty.size] using this
  refine ⟨by simp [madeCells], fun i hi => ⟨e.cts.map zv, by simp [Ty.size], by simpa using rd_zero w M e, fun j hj => ?_⟩⟩
  have hi' : i < n := by simpa using hi
  have hlt := mul_lt hi' hj
  have hm : (i * e.size + j) % z.size = j := by rw [hs, Nat.mul_comm, Nat.mul_add_mod, Nat.mod_eq_of_lt hj]
  have e1 : (madeCells z (n * e.size)).toList[i * e.size + j]? = some z[(i * e.size + j) % z.size]! := by
    simp [madeCells, hlt]
  rw [e1, hm, ← hz]
  have hj' : j < z.size := by omega
  simp [hj']

theorem Row.set {e : Ty} {l : List (Den e)} {cs ds : List Value} {x : Den e} (h : Row w M e l cs) {i : Nat} (hi : i < l.length) (hx : rd w M e x ds) : Row w M e (l.set i x) (spl cs (i * e.size) ds) := by
  have hd := rd_len e hx
  have hle : i * e.size + ds.length ≤ cs.length := by
    rw [h.1, hd]
    have : (i + 1) * e.size ≤ l.length * e.size := Nat.mul_le_mul_right _ hi
    rw [Nat.add_mul] at this; omega
  refine ⟨by simp [length_spl, h.1], fun j hj => ?_⟩
  have hj' : j < l.length := by simpa using hj
  by_cases hji : j = i
  · subst hji
    refine ⟨ds, hd, by simpa using hx, fun q hq => ?_⟩
    rw [spl_get _ _ _ _ hle, if_pos (by omega)]
    congr 1; omega
  · obtain ⟨ds', k1, k2, k3⟩ := h.2 j hj'
    refine ⟨ds', k1, by rw [List.getElem_set_ne (by omega)]; exact k2, fun q hq => ?_⟩
    rw [spl_get _ _ _ _ hle, if_neg ?_]
    · exact k3 q hq
    · rcases Nat.lt_or_gt_of_ne hji with h1 | h1
      · have : (j + 1) * e.size ≤ i * e.size := Nat.mul_le_mul_right _ h1
        rw [Nat.add_mul] at this; omega
      · have : (i + 1) * e.size ≤ j * e.size := Nat.mul_le_mul_right _ h1
        rw [Nat.add_mul] at this; omega

theorem fillL_ok (R : Rl K w0 M0 L st a w) {te : TypeId} {e : Ty} :
    ∀ (ps : List (Nat × Operand)) {l : List (Den e)} {cells : Array Value} {k : List (Den e) → Cmd} {ts : List Ac} {r : Rz}, Row w (Mut L) e l cells.toList → (fillL K te e ps l k).ex st ts = some r →
    ∃ (ys : List (Den e)) (cells' : Array Value) (ts' : List Ac), (k ys).ex st ts' = some r ∧ Row w (Mut L) e ys cells'.toList ∧ ys.length = l.length ∧ Instr.fill (fun i => some (i * e.size, e.size)) cells (ps.map fun p => (p.1, a.eval p.2)) = some cells'
  | [], l, cells, k, ts, r, h1, he => ⟨l, cells, ts, he, h1, rfl, rfl⟩
  | (i, x) :: ps, l, cells, k, ts, r, h1, he => by
    simp only [fillL] at he
    obtain ⟨v, t1, he1, hv⟩ := opd_ok R he
    split at he1
    case h_2 => exact (ex_fail he1).elim
    rename_i vs hvs
    split at he1
    case h_2 => exact (ex_fail he1).elim
    rename_i d hd
    split at he1
    case isFalse => exact (ex_fail he1).elim
    rename_i hi
    obtain ⟨h4, h5⟩ := lvs_rel hv hvs
    have hx := ofLeaves_rd h4 hd
    have hlx := rd_len e hx
    have hsz : (a.eval x).cells.size = e.size := by simpa using hlx
    have hcs : cells.size = l.length * e.size := by simpa using h1.1
    obtain ⟨c', hc1, hc2⟩ := fill_one (place := fun i => some (i * e.size, e.size)) (cells := cells) (i := i) (off := i * e.size) (v := a.eval x) (rest := ps.map fun p => (p.1, a.eval p.2)) (by simp only [hsz]) (by
      rw [hsz, hcs]
      have : (i + 1) * e.size ≤ l.length * e.size := Nat.mul_le_mul_right _ hi
      rw [Nat.add_mul] at this; omega)
    obtain ⟨ys, cells', ts', g1, g2, g3, g4⟩ := fillL_ok R ps (cells := c') (by rw [hc1]; exact h1.set hi hx) he1
    exact ⟨ys, cells', ts', g1, g2, by simpa using g3, by rw [List.map_cons, hc2]; exact g4⟩

theorem ok_buildSlice {C : Spec} {O : Opt} (hK : K.Ok) {ty : TypeId} {n : Nat} {ps : Array (Nat × Operand)} (h : o.op = .buildSlice ty n ps) : OpOk K C O o := by
  intro w0 M0 L st a w d k t r R he
  rw [h] at he
  simp only [op1] at he
  split at he
  case h_2 => exact (ex_fail he).elim
  rename_i te e b hel
  split at he
  case isFalse => exact (ex_fail he).elim
  rename_i hn
  obtain ⟨i, ag, g0, g1, g2, g3, g4, g5, g6, g7, g8, g9⟩ := elt_facts hK hel
  obtain ⟨ys, cells', ts', k1, k2, k3, k4⟩ := fillL_ok R ps.toList (cells := madeCells (zval e.cts ag).cells (n * e.size)) (Row.zeros e _ g8 n) he
  obtain ⟨h1, h2⟩ := ex_newO k1
  have k3' : ys.length = n := by simpa using k3
  have hps : (ps.map fun (i, x) => (i, a.eval x)).toList = ps.toList.map fun p => (p.1, a.eval p.2) := by simp
  refine ⟨_, _, _, h2, new_arr hK R h1 (cells := cells'.toList) (rest := []) (cap := n) (w' := w.alloc (.cells cells' te)) k2 (by omega) (by simpa [k3'] using k2.1) (Fr.alloc w _ _) (fun j hj => ?_) ?_⟩
  · have := alloc_cells w w cells' te rfl j
    exact ⟨by simp [this.1], this.2⟩
  · have hns : ¬ 2 ^ 24 < n * e.size := by omega
    rw [← hps] at k4
    by_cases h0 : n * e.size = 0
    · have hn0 : n = 0 := by rcases Nat.mul_eq_zero.1 h0 with h | h <;> omega
      subst hn0
      have e0 : ∀ (f : Nat → Value), (Array.range 0).map f = #[] := fun f => by apply Array.ext'; simp
      simp only [Nat.zero_mul, madeCells, e0] at k4
      simp only [execOp, h]
      simp [Instr.buildSlice, run_underlying g0, sizeOf, typeInfo, g3, g6, newRow, e0] at k4 ⊢
      simp [k4, k3', newRow]
    · have := run_buildSlice (P := K.P) w ty te n (ps.map fun (i, x) => (i, a.eval x)) cells' i (zval e.cts ag) g0 g3 g7 (by rw [g6]; omega) (by rw [g6]; exact h0) (by rw [g6]; exact k4)
      simp only [execOp, h]
      simp [this, k3']

end Go.Proofs.Ytmigffdeghfbhaa.Ev
