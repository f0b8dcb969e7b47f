/- Operations: literals of structs and arrays; new slices. -/
import Derived.Test.YtmigffdeghfbhaaEv11
namespace Go.Proofs.Ytmigffdeghfbhaa.Ev
open Go Go.RowKit
set_option linter.unusedSimpArgs false

variable {K : Ctx} {w0 : World} {M0 : Bd} {L : Lk} {st : St} {a : Act} {w : World} {o : Oper} {M : Nat → Nat → Prop}

theorem spl_cons {α : Type} (l : List α) (n : Nat) (v : α) (vs : List α) (h : n + (vs.length + 1) ≤ l.length) : spl l n (v :: vs) = spl (l.set n v) (n + 1) vs := by
  apply List.ext_getElem?
  intro j
  rw [spl_get _ _ _ _ (by simpa using h), spl_get _ _ _ _ (by simp; omega)]
  simp only [List.length_cons]
  by_cases h1 : n ≤ j ∧ j < n + (vs.length + 1)
  · rw [if_pos h1]
    by_cases h2 : j = n
    · subst h2; rw [if_neg (by omega)]; simp; rw [List.getElem?_set_self (by omega)]
    · rw [if_pos (by omega)]
      obtain ⟨q, hq⟩ : ∃ q, j - n = q + 1 := ⟨j - n - 1, by omega⟩
      rw [hq, List.getElem?_cons_succ]; congr 1; omega
  · rw [if_neg h1, if_neg (by omega), List.getElem?_set_ne (by omega)]

theorem fold_spl : ∀ (vs : List Value) (j off : Nat) (cells : Array Value), off + j + vs.length ≤ cells.size →
    ((vs.zipIdx j).foldl (fun cs p => cs.setIfInBounds (off + p.2) p.1) cells).toList = spl cells.toList (off + j) vs
  | [], j, off, cells, h => by
    simp
    apply List.ext_getElem?; intro q; rw [spl_get _ _ _ _ (by simpa using h)]; simp; omega
  | v :: vs, j, off, cells, h => by
    simp only [List.zipIdx_cons, List.foldl_cons]
    have := fold_spl vs (j + 1) off (cells.setIfInBounds (off + j) v) (by simp at h ⊢; omega)
    rw [show off + (j + 1) = off + j + 1 by omega] at this
    rw [this, spl_cons _ _ _ _ (by simp at h ⊢; omega)]
    simp

theorem fill_one {place : Nat → Option (Nat × Nat)} {cells : Array Value} {i off : Nat} {v : Value} {rest : List (Nat × Value)} (hp : place i = some (off, v.cells.size)) (hle : off + v.cells.size ≤ cells.size) :
    ∃ c' : Array Value, c'.toList = spl cells.toList off v.cells.toList ∧ Instr.fill place cells ((i, v) :: rest) = Instr.fill place c' rest := by
  refine ⟨v.cells.zipIdx.foldl (fun cs (c, j) => cs.setIfInBounds (off + j) c) cells, ?_, ?_⟩
  · have := fold_spl v.cells.toList 0 off cells (by simp; omega)
    simp only [Nat.add_zero] at this
    rw [← this, ← Array.foldl_toList, Array.toList_zipIdx]
  · have h1 : ¬ (v.cells.size ≠ v.cells.size || off + v.cells.size > cells.size) = true := by simp; omega
    simp only [Instr.fill, hp]
    rw [if_neg h1]

theorem fillS_ok (hK : K.Ok) (R : Rl K w0 M0 L st a w) {s : TypeId} {place : Nat → Option (Nat × Nat)} (hpl : ∀ i off t cs ag, plc K s i = some (off, t) → K.lay t = some (cs, ag) → place i = some (off, cs.length)) :
    ∀ (ps : List (Nat × Operand)) {xs : List AV} {cells : Array Value} {k : List AV → Cmd} {ts : List Ac} {r : Rz}, rels L w (Mut L) xs cells.toList → (∀ c ∈ cells.toList, c.oneCell' = true) → (fillS K s ps xs k).ex st ts = some r →
    ∃ (ys : List AV) (cells' : Array Value) (ts' : List Ac), (k ys).ex st ts' = some r ∧ rels L w (Mut L) ys cells'.toList ∧ (∀ c ∈ cells'.toList, c.oneCell' = true) ∧ Instr.fill place cells (ps.map fun p => (p.1, a.eval p.2)) = some cells'
  | [], xs, cells, k, ts, r, h1, h2, he => ⟨xs, cells, ts, he, h1, h2, rfl⟩
  | (i, x) :: ps, xs, cells, k, ts, r, h1, h2, he => by
    simp only [fillS] at he
    split at he
    case h_2 => exact (ex_fail he).elim
    rename_i off t hp
    split at he
    case h_2 => exact (ex_fail he).elim
    rename_i cs ag hl
    obtain ⟨v, t1, he1, hv⟩ := opd_ok R he
    split at he1
    case h_2 => exact (ex_fail he1).elim
    rename_i vs hvs
    split at he1
    case isFalse => exact (ex_fail he1).elim
    rename_i hlen
    obtain ⟨h4, h5⟩ := lvs_rel hv hvs
    have hl4 := rels_len h4
    have hlx := rels_len h1
    have hsz : (a.eval x).cells.size = cs.length := by rw [← hlen.1, ← hl4]; simp
    have hle : off + (a.eval x).cells.size ≤ cells.size := by
      have : cells.size = xs.length := by simpa using hlx
      rw [this, hsz]; omega
    obtain ⟨c', hc1, hc2⟩ := fill_one (place := place) (cells := cells) (i := i) (v := a.eval x) (rest := ps.map fun p => (p.1, a.eval p.2)) (by rw [hpl i off t cs ag hp hl, hsz]) hle
    obtain ⟨ys, cells', ts', g1, g2, g3, g4⟩ := fillS_ok hK R hpl ps (cells := c') (by rw [hc1]; exact rels_spl off h1 h4) (by
      rw [hc1]; intro c hc; exact (mem_spl off hc).elim (h2 c) (h5 c)) he1
    exact ⟨ys, cells', ts', g1, g2, g3, by rw [List.map_cons, hc2]; exact g4⟩

theorem run_places (hK : K.Ok) {fs : Array Field} (h : ∀ f ∈ fs.toList, ∃ cs ag, K.lay f.type = some (cs, ag)) (w : World) :
    ((fs.mapM fun f => Prod.mk f.offset <$> sizeOf f.type) : Sem (Array (Nat × Nat))).run K.P w = .ok (fs.map fun f => (f.offset, K.P.cellsOf f.type)) w := by
  obtain ⟨l⟩ := fs
  rw [Array.mapM_eq_mapM_toList]
  have : ∀ (l : List Field), (∀ f ∈ l, ∃ cs ag, K.lay f.type = some (cs, ag)) → ((l.mapM fun f => Prod.mk f.offset <$> sizeOf f.type) : Sem (List (Nat × Nat))).run K.P w = .ok (l.map fun f => (f.offset, K.P.cellsOf f.type)) w := by
    intro l
    induction l with
    | nil => intro _; simp
    | cons f l ih =>
      intro h
      obtain ⟨cs, ag, hl⟩ := h f (List.mem_cons_self ..)
      obtain ⟨i, d, h1, h2, h3, _⟩ := hK.lay _ cs ag hl
      have hc : K.P.cellsOf f.type = cs.length := by simp [Program.cellsOf, h1, h3]
      simp [List.mapM_cons, run_size hK hl, ih (fun f hf => h f (List.mem_cons_of_mem _ hf)), hc]
  simp [this l h]

theorem ok_build {C : Spec} {O : Opt} (hK : K.Ok) {ty : TypeId} {ps : Array (Nat × Operand)} (h : o.op = .build ty ps) : OpOk K C O o := by
  intro w0 M0 L st a w d k t r R he
  rw [h] at he
  simp only [op1] at he
  split at he
  case h_2 => exact (ex_fail he).elim
  rename_i cs hl
  obtain ⟨i, dd, h1, h2, h3, h4, h5, h6⟩ := hK.lay ty cs true hl
  have hz := zval_cells hK hl
  have hzc : (zval cs true).cells = (cs.map zv).toArray := by apply Array.ext'; simpa using hz
  have hplen : ∀ t' cs' ag', K.lay t' = some (cs', ag') → K.P.cellsOf t' = cs'.length := fun t' cs' ag' hl' => by
    obtain ⟨i, d, h1, h2, h3, _⟩ := hK.lay _ cs' ag' hl'
    simp [Program.cellsOf, h1, h3]
  have hps : (ps.map fun (i, x) => (i, a.eval x)).toList = ps.toList.map fun p => (p.1, a.eval p.2) := by simp
  cases dd with
  | struct fs =>
    have harr : K.arr ty = none := by
      cases ha : K.arr ty with
      | none => rfl
      | some q => obtain ⟨g1, _⟩ := hK.arr ty q.1 q.2 ha; rw [h2] at g1; cases g1
    obtain ⟨ys, cells', ts', g1, g2, g3, g4⟩ := fillS_ok hK R (place := fun i => (fs.map fun f => (f.offset, K.P.cellsOf f.type))[i]?) (fun i off t' cs' ag' hp hl' => by
        simp only [plc, harr] at hp
        obtain ⟨fs', fl, k1, k2, k3, k4, _⟩ := hK.fld ty i off t' hp
        rw [h2] at k1; cases k1
        simp [k2, k3, k4, hplen _ _ _ hl']) ps.toList (cells := (cs.map zv).toArray) (by simpa using rels_zero cs) (by
        intro c hc; simp at hc; obtain ⟨x, _, rfl⟩ := hc; exact zv_one x) he
    refine ⟨_, st.objs, ts', g1, Does.same R (v' := .agg cells') ?_ (by simp only [rel]; exact ⟨_, rfl, g2, g3⟩)⟩
    have hrp := run_places hK (fs := fs) (hK.flds ty fs h2 ⟨cs, true, hl⟩) w
    simp only [Array.getElem?_map] at g4
    simp only [execOp, h, Instr.build]
    simp [run_zero hK hl, run_underlying h2, hrp, hzc]
    simp [g4]
  | array n te =>
    obtain ⟨ys, cells', ts', g1, g2, g3, g4⟩ := fillS_ok hK R (place := fun i => some (i * K.P.cellsOf te, K.P.cellsOf te)) (fun i off t' cs' ag' hp hl' => by
        simp only [plc] at hp
        split at hp
        · rename_i n' te' ha
          obtain ⟨k1, _⟩ := hK.arr ty n' te' ha
          rw [h2] at k1; cases k1
          split at hp
          · rename_i ct ag2 hl2
            split at hp
            · simp only [Option.some.injEq, Prod.mk.injEq] at hp
              obtain ⟨rfl, rfl⟩ := hp
              rw [hl2] at hl'; cases hl'
              rw [hplen _ _ _ hl2]
            · cases hp
          · cases hp
        · obtain ⟨fs', fl, k1, _⟩ := hK.fld ty i off t' hp
          rw [h2] at k1; cases k1) ps.toList (cells := (cs.map zv).toArray) (by simpa using rels_zero cs) (by
        intro c hc; simp at hc; obtain ⟨x, _, rfl⟩ := hc; exact zv_one x) he
    refine ⟨_, st.objs, ts', g1, Does.same R (v' := .agg cells') ?_ (by simp only [rel]; exact ⟨_, rfl, g2, g3⟩)⟩
    have ha := hK.arrs ty n te h2 ⟨cs, true, hl⟩
    obtain ⟨_, ct, ag2, hl2, _⟩ := hK.arr ty n te ha
    have hsz := run_size hK hl2 w
    rw [hplen _ _ _ hl2] at g4
    simp [execOp, h, Instr.build, run_zero hK hl, run_underlying h2, hsz, hzc, hps, g4]
  | _ => simp [sm, isAgS] at h5

end Go.Proofs.Ytmigffdeghfbhaa.Ev
