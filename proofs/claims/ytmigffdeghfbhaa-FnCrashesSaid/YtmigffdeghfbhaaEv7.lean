/- Operations on memory: stores, new variables, addresses, fields, elements. -/
import Derived.Test.YtmigffdeghfbhaaEv6
namespace Go.Proofs.Ytmigffdeghfbhaa.Ev
open Go Go.RowKit
set_option linter.unusedSimpArgs false

variable {K : Ctx} {w0 : World} {M0 : Bd} {L : Lk} {st : St} {a : Act} {w : World} {o : Oper} {M : Nat → Nat → Prop}

theorem L_none (R : Rl K w0 M0 L st a w) {i : Nat} (h : getO st.objs i = none) : L i = none := by
  have := R.ob i
  rw [h] at this
  cases hL : L i with
  | none => rfl
  | some p => rw [hL] at this; cases this

theorem ob_put (R : Rl K w0 M0 L st a w) (i : Nat) (l : Loc) (x : Ob) : ∀ j, getO (putO st.objs i x) j = ((upd L i (l, x)) j).map (·.2) := by
  intro j
  rw [getO_putO]
  by_cases hj : j = i
  · subst hj; simp [upd]
  · simp [upd, hj, R.ob j]

/-- A new variable. -/
theorem new_var (hK : K.Ok) (R : Rl K w0 M0 L st a w) {i : Nat} (hi : getO st.objs i = none) {xs : List AV} {v : Value} {t : TypeId} (hr : rels L w (Mut L) xs v.cells.toList) (h1 : ∀ c ∈ v.cells.toList, c.oneCell' = true)
    (hrun : (execOp a.eval o).run K.P w = .ok (.value (.pointer (some ⟨w.heap.size, 0, none⟩))) (w.alloc (.cells v.cells t))) :
    Does K w0 M0 o a w L (putO st.objs i (.var xs)) (.ptr i 0) := by
  have hlen := rels_len hr
  obtain ⟨h2, h3, h4⟩ := R.ro.new hK (L_none R hi) (p := (⟨some (w.heap.size, 0), 0⟩, .var xs)) (w' := w.alloc (.cells v.cells t)) (Fr.alloc w _ _)
    (fun ht => ⟨w.heap.size, 0, v.cells.toList, rfl, by
      have hT : Turn L (upd L i (⟨some (w.heap.size, 0), 0⟩, .var xs)) := by
        intro j l x hj
        have hne : j ≠ i := by intro e; subst e; rw [L_none R hi] at hj; cases hj
        obtain ⟨l', x', h1, h2⟩ := Turn.refl L j l x hj
        exact ⟨l', x', by rw [upd_other L _ hne]; exact h1, h2⟩
      exact rels_tr hT ht xs hr, h1, fun j hj => by
        constructor
        · rw [Nat.zero_add, World.cell?_alloc_new]; simp
        · rw [Nat.zero_add, World.frozen?_alloc_new]⟩)
    (fun b o' hr' => by obtain ⟨o0, e, _, _⟩ := hr'; simp only [Option.some.injEq, Prod.mk.injEq] at e; omega)
  refine Does.val hrun h2 (ob_put R i _ _) h4 h3 ?_
  simp only [rel]
  exact ⟨w.heap.size, 0, 0, xs, upd_same _ _ _, rfl⟩

theorem rel_zero : ∀ (c : CT), rel L w M c.zero (zv c)
  | .int k => by simp [CT.zero, zv, rel]
  | .bool => by simp [CT.zero, zv, rel]
  | .str => by simp [CT.zero, zv, rel]
  | .slice e => by simp [CT.zero, zv, rel]
  | .ptr => by simp [CT.zero, zv, rel]
  | .fn => by simp [CT.zero, zv, rel]
  | .map => by simp [CT.zero, zv, rel]
  | .iface => by simp [CT.zero, zv, rel]

theorem rels_zero : ∀ (cs : List CT), rels L w M (cs.map CT.zero) (cs.map zv)
  | [] => by simp [rels]
  | c :: cs => by simp only [List.map_cons, rels]; exact ⟨_, _, rfl, rel_zero c, rels_zero cs⟩

theorem zv_one (c : CT) : (zv c).oneCell' = true := by cases c <;> rfl
theorem zv_cells (c : CT) : (zv c).cells = #[zv c] := by cases c <;> rfl

theorem lay_one (hK : K.Ok) {t : TypeId} {cs : List CT} (hl : K.lay t = some (cs, false)) : ∃ c, cs = [c] := by
  obtain ⟨i, d, h1, h2, h3, h4, h5, h6⟩ := hK.lay t cs false hl
  revert h5 h6
  cases sm d <;> simp [isAgS, ctOf] <;> (match cs with | [] => simp | [c] => simp | _ :: _ :: _ => simp)

theorem zval_cells (hK : K.Ok) {t : TypeId} {cs : List CT} {ag : Bool} (hl : K.lay t = some (cs, ag)) : (zval cs ag).cells.toList = cs.map zv := by
  cases ag with
  | true => simp [zval, Value.cells]
  | false =>
    obtain ⟨c, rfl⟩ := lay_one hK hl
    simp [zval, zv_cells]

theorem run_zero (hK : K.Ok) {t : TypeId} {cs : List CT} {ag : Bool} (hl : K.lay t = some (cs, ag)) (w : World) : (zeroValue t).run K.P w = .ok (zval cs ag) w := by
  obtain ⟨i, d, h1, h2, h3, h4, h5, h6⟩ := hK.lay t cs ag hl
  simp [zeroValue, typeInfo, h1, h4]

theorem run_size (hK : K.Ok) {t : TypeId} {cs : List CT} {ag : Bool} (hl : K.lay t = some (cs, ag)) (w : World) : (sizeOf t).run K.P w = .ok cs.length w := by
  obtain ⟨i, d, h1, h2, h3, h4, h5, h6⟩ := hK.lay t cs ag hl
  simp [sizeOf, typeInfo, h1, h3]

theorem run_agg (hK : K.Ok) {t : TypeId} {cs : List CT} {ag : Bool} (hl : K.lay t = some (cs, ag)) (w : World) : (isAgg t).run K.P w = .ok ag w := by
  obtain ⟨i, d, h1, h2, h3, h4, h5, h6⟩ := hK.lay t cs ag hl
  rw [← h5]
  cases d <;> simp [isAgg, run_underlying h2, sm, isAgS]

theorem ok_alloc {C : Spec} {O : Opt} (hK : K.Ok) {ty : TypeId} (h : o.op = .alloc ty) : OpOk K C O o := by
  intro w0 M0 L st a w d k t r R he
  rw [h] at he
  simp only [op1] at he
  split at he
  case h_2 => exact (ex_fail he).elim
  rename_i cs ag hl
  obtain ⟨h1, h2⟩ := ex_newO he
  have hz := zval_cells hK hl
  refine ⟨_, _, _, h2, new_var hK R h1 (v := zval cs ag) (t := ty) (by rw [hz]; exact rels_zero cs) (by
    rw [hz]; intro c hc; obtain ⟨x, _, rfl⟩ := List.mem_map.1 hc; exact zv_one x) ?_⟩
  simp [execOp, h, Instr.alloc, run_zero hK hl, newVar, newRow]

theorem ok_box {C : Spec} {O : Opt} (hK : K.Ok) {ty : TypeId} {x : Operand} (h : o.op = .box ty x) : OpOk K C O o := by
  intro w0 M0 L st a w d k t r R he
  rw [h] at he
  simp only [op1] at he
  split at he
  case h_2 => exact (ex_fail he).elim
  rename_i cs ag hl
  obtain ⟨v, t1, h1, hv⟩ := opd_ok R he
  split at h1
  case h_2 => exact (ex_fail h1).elim
  rename_i vs hvs
  split at h1
  case isFalse => exact (ex_fail h1).elim
  obtain ⟨h2, h3⟩ := ex_newO h1
  obtain ⟨h4, h5⟩ := lvs_rel hv hvs
  refine ⟨_, _, _, h3, new_var hK R h2 (v := a.eval x) (t := ty) h4 h5 ?_⟩
  simp [execOp, h, Instr.box, newVar, newRow]

theorem Fr.setCells {N : Nat → Nat → Prop} (b : Nat) : ∀ (vs : List Value) (o : Nat) (w : World), (∀ j, j < vs.length → N b (o + j)) → Fr w N (w.setCells b o vs)
  | [], _, w, _ => Fr.refl w N
  | v :: vs, o, w, h => (Fr.setCell w b o v (by simpa using h 0 (by simp))).trans (Fr.setCells b vs (o + 1) _ fun j hj => by
      have := h (j + 1) (by simpa using hj); rwa [show o + 1 + j = o + (j + 1) by omega]) fun _ _ _ => id

theorem run_store_at (hK : K.Ok) {t : TypeId} {cs : List CT} {ag : Bool} (hl : K.lay t = some (cs, ag)) {b off : Nat} {v : Value} (hn : v.cells.toList.length = cs.length) (h1 : ∀ c ∈ v.cells.toList, c.oneCell' = true)
    (hc : ∀ j, j < cs.length → (∃ u, w.cell? ⟨b, off + j, none⟩ = some u) ∧ w.frozen? ⟨b, off + j, none⟩ = false) : (Instr.storeAt t (.pointer (some ⟨b, off, none⟩)) v).run K.P w = .ok () (w.setCells b off v.cells.toList) := by
  have hst := run_storeCells_cells (P := K.P) b off v.cells.toList 0 w (fun j hj => by
    obtain ⟨⟨u, hu⟩, _⟩ := hc j (by omega); simp [hu]) (fun j hj => by simpa using (hc j (by omega)).2) h1
  simp only [Nat.add_zero] at hst
  have hn' : v.cells.size = cs.length := by rw [← hn]; simp
  simp [Instr.storeAt, storeVar, Instr.sureAddr, run_size hK hl, hn', hst]

theorem setCells_get {b o : Nat} {vs : List Value} {w : World} (hc : ∀ j, j < vs.length → ∃ u, w.cell? ⟨b, o + j, none⟩ = some u) (x : Nat) :
    (w.setCells b o vs).cell? ⟨b, x, none⟩ = if o ≤ x ∧ x < o + vs.length then vs[x - o]? else w.cell? ⟨b, x, none⟩ := by
  split
  · rename_i h
    obtain ⟨j, rfl⟩ : ∃ j, x = o + j := ⟨x - o, by omega⟩
    rw [World.cell?_setCells_in b vs o w (fun j hj => by obtain ⟨u, hu⟩ := hc j hj; simp [hu]) j (by omega)]
    simp only [Nat.add_sub_cancel_left]
    rw [List.getElem?_eq_getElem]
  · rename_i h
    exact World.cell?_setCells_out b vs o w _ fun _ _ => by simp only; omega

/-- A store into a variable. -/
theorem ok_store {C : Spec} {O : Opt} (hK : K.Ok) {ty : TypeId} {p x : Operand} (h : o.op = .store ty p x) : OpOk K C O o := by
  intro w0 M0 L st a w d k t r R he
  rw [h] at he
  simp only [op1] at he
  split at he
  case h_2 => exact (ex_fail he).elim
  rename_i cs ag hl
  obtain ⟨pv, t1, he, hp⟩ := opd_ok R he
  obtain ⟨v, t2, he, hv⟩ := opd_ok R he
  split at he
  case h_2 => exact (ex_fail he).elim
  rename_i vs hvs
  split at he
  case isFalse => exact (ex_fail he).elim
  rename_i hlen
  obtain ⟨h4, h5⟩ := lvs_rel hv hvs
  have hl4 := rels_len h4
  cases pv with
  | ptr i off =>
    obtain ⟨y, h2, h3⟩ := ex_getO he
    cases y with
    | arr _ _ _ _ => exact (ex_fail h3).elim
    | var xs =>
      simp only at h3
      split at h3
      case isFalse => exact (ex_fail h3).elim
      rename_i hle
      obtain ⟨_, h3⟩ := ex_putO h3
      simp only [rel] at hp
      obtain ⟨b, o0, cap, cs', hL, hpe⟩ := hp
      have hob := R.ob i
      rw [h2, hL] at hob
      simp only [Option.map_some, Option.some.injEq, Ob.var.injEq] at hob
      subst hob
      obtain ⟨b', o', us, h6, h7, h8, h9⟩ := R.ro.ok i _ hL
      simp only [Option.some.injEq, Prod.mk.injEq] at h6
      obtain ⟨rfl, rfl⟩ := h6
      have hul := rels_len h7
      have hcell : ∀ j, j < xs.length → ∃ u, w.cell? ⟨b, o0 + j, none⟩ = some u := fun j hj => ⟨us[j]'(by omega), by rw [(h9 j hj).1]; simp [hul, hj]⟩
      have hrun := run_store_at hK hl (w := w) (b := b) (off := o0 + off) (v := a.eval x) (by omega) h5 (fun j hj => by
        rw [Nat.add_assoc]; exact ⟨hcell _ (by omega), (h9 _ (by omega)).2⟩)
      have hT : Turn L (upd L i (⟨some (b, o0), cap⟩, .var (spl xs off vs))) := by
        intro j l y hj
        by_cases hji : j = i
        · subst hji
          rw [hL] at hj; cases hj
          exact ⟨_, _, upd_same _ _ _, rfl, _, rfl⟩
        · obtain ⟨l', x', h1, h2⟩ := Turn.refl L j l y hj
          exact ⟨l', x', by rw [upd_other L _ hji]; exact h1, h2⟩
      obtain ⟨g1, g2⟩ := R.ro.put hK hL (p' := (⟨some (b, o0), cap⟩, .var (spl xs off vs))) (w' := w.setCells b (o0 + off) (a.eval x).cells.toList)
        (Fr.setCells b _ _ w fun j hj => ⟨o0, rfl, by omega, by simp only [ext]; omega⟩) hT
        (fun ht => ⟨b, o0, spl us off (a.eval x).cells.toList, rfl, rels_spl off (rels_tr hT ht xs h7) (rels_tr hT ht vs h4),
          fun c hc => (mem_spl off hc).elim (h8 c) (h5 c), fun j hj => by
            rw [length_spl] at hj
            refine ⟨?_, ?_⟩
            · rw [setCells_get (fun j hj => by rw [Nat.add_assoc]; exact hcell _ (by omega)), spl_get _ _ _ _ (by omega)]
              by_cases hc : off ≤ j ∧ j < off + (a.eval x).cells.toList.length
              · rw [if_pos (by omega), if_pos hc]; congr 1; omega
              · rw [if_neg (by omega), if_neg hc]; exact (h9 j hj).1
            · rw [World.frozen?_setCells]; exact (h9 j hj).2⟩)
        (fun b' o' hr => .inl (by obtain ⟨x0, e, e1, e2⟩ := hr; exact ⟨x0, e, e1, by simpa only [ext, length_spl] using e2⟩))
      exact ⟨_, _, _, h3, Does.skip (by simp [execOp, h, hpe, hrun]) g1 (ob_put R i _ _) hT g2⟩
  | eptr i ver n off =>
    obtain ⟨y, h2, h3⟩ := ex_getO he
    cases y with
    | var _ => exact (ex_fail h3).elim
    | arr e v' z xs =>
      cases z with
      | true => exact (ex_fail h3).elim
      | false =>
      simp only at h3
      split at h3
      case isFalse => exact (ex_fail h3).elim
      rename_i hle
      split at h3
      case h_2 => exact (ex_fail h3).elim
      rename_i y hy
      obtain ⟨_, h3⟩ := ex_putO h3
      simp only [rel] at hp
      obtain ⟨l, e', cur, z', xs', p', hL, h6, hpe, h7⟩ := hp
      have hob := R.ob i
      rw [h2, hL] at hob
      simp only [Option.map_some, Option.some.injEq, Ob.arr.injEq] at hob
      obtain ⟨rfl, rfl, rfl, hxs⟩ := hob
      have hxs := eq_of_heq hxs
      subst hxs
      obtain ⟨b, o0, hb, hn0, hn1, rfl⟩ := h7 hle.1
      have hlt : n.toNat < xs.length := by omega
      have hg : xs.getD n.toNat (Den.zero e) = xs[n.toNat] := by simp [List.getD, hlt]
      rw [hg] at hy
      rcases R.ro.ok i _ hL with ⟨h8, _⟩ | ⟨b', o', h8, h9, h10, h11, _⟩
      · simp only at h8; rw [hb] at h8; cases h8
      · simp only at h8
        rw [hb] at h8
        simp only [Option.some.injEq, Prod.mk.injEq] at h8
        obtain ⟨rfl, rfl⟩ := h8
        replace h11 : ∀ j, j < l.cap * e.size → (∃ u, w.cell? ⟨b, o0 + j, none⟩ = some u) ∧ w.frozen? ⟨b, o0 + j, none⟩ = false := h11 rfl
        replace h9 : xs.length ≤ l.cap := h9
        obtain ⟨ds, h12, h13, h14⟩ := h10 n.toNat hlt
        have hroom : ∀ j, j < e.size → n.toNat * e.size + j < l.cap * e.size := fun j hj => mul_lt (by omega) hj
        have hrun := run_store_at hK hl (w := w) (b := b) (off := o0 + n.toNat * e.size + off) (v := a.eval x) (by omega) h5 (fun j hj => by
          have := h11 (n.toNat * e.size + (off + j)) (hroom _ (by omega))
          rwa [show o0 + (n.toNat * e.size + (off + j)) = o0 + n.toNat * e.size + off + j by omega] at this)
        have hver : ver = v' := hle.1
        subst hver
        have hT : Turn L (upd L i (l, .arr e ver false (xs.set n.toNat y))) := by
          intro j l1 y1 hj
          by_cases hji : j = i
          · subst hji
            rw [hL] at hj; cases hj
            exact ⟨_, _, upd_same _ _ _, ver, false, _, rfl, Nat.le_refl _, fun _ => ⟨rfl, by simp⟩⟩
          · obtain ⟨l', x', h1, h2⟩ := Turn.refl L j l1 y1 hj
            exact ⟨l', x', by rw [upd_other L _ hji]; exact h1, h2⟩
        have hrl := rels_spl off (leaves_rd (L := L) e h13) h4
        obtain ⟨g1, g2⟩ := R.ro.put hK hL (p' := (l, .arr e ver false (xs.set n.toNat y))) (w' := w.setCells b (o0 + n.toNat * e.size + off) (a.eval x).cells.toList)
          (Fr.setCells b _ _ w fun j hj => ⟨o0, hb, by omega, by
            have := hroom (off + j) (by omega)
            simp only [ext, Bool.false_eq_true, if_false]; omega⟩) hT
          (fun ht => .inr ⟨b, o0, hb, by simpa using h9, fun j hj => by
              have hj' : j < xs.length := by simpa using hj
              by_cases hji : j = n.toNat
              · subst hji
                refine ⟨spl ds off (a.eval x).cells.toList, by rw [length_spl]; exact h12, ?_, fun q hq => ?_⟩
                · simp only [List.getElem_set_self]
                  exact rd_tr ht e (ofLeaves_rd hrl hy)
                · rw [setCells_get (fun j hj => by
                    have := (h11 (n.toNat * e.size + (off + j)) (hroom _ (by omega))).1
                    rwa [show o0 + (n.toNat * e.size + (off + j)) = o0 + n.toNat * e.size + off + j by omega] at this), spl_get _ _ _ _ (by omega)]
                  by_cases hc : off ≤ q ∧ q < off + (a.eval x).cells.toList.length
                  · rw [if_pos (by omega), if_pos hc]; congr 1; omega
                  · rw [if_neg (by omega), if_neg hc]; exact h14 q hq
              · obtain ⟨ds', k1, k2, k3⟩ := h10 j hj'
                refine ⟨ds', k1, ?_, fun q hq => ?_⟩
                · rw [List.getElem_set_ne (by omega)]; exact rd_tr ht e k2
                · rw [World.cell?_setCells_out b _ _ w _ (fun _ _ => by
                    simp only
                    rcases Nat.lt_or_gt_of_ne hji with hlt' | hlt'
                    · left
                      have : (j + 1) * e.size ≤ n.toNat * e.size := Nat.mul_le_mul_right _ hlt'
                      rw [Nat.add_mul] at this; omega
                    · right
                      have : (n.toNat + 1) * e.size ≤ j * e.size := Nat.mul_le_mul_right _ hlt'
                      rw [Nat.add_mul] at this; omega)]
                  exact k3 q hq,
            fun _ j hj => by
              obtain ⟨⟨u, k1⟩, k2⟩ := h11 j hj
              refine ⟨?_, by rw [World.frozen?_setCells]; exact k2⟩
              rw [setCells_get (fun j hj => by
                have := (h11 (n.toNat * e.size + (off + j)) (hroom _ (by omega))).1
                rwa [show o0 + (n.toNat * e.size + (off + j)) = o0 + n.toNat * e.size + off + j by omega] at this)]
              split
              · exact ⟨_, List.getElem?_eq_getElem (by omega)⟩
              · exact ⟨u, k1⟩,
            fun hz => by cases hz⟩)
          (fun b' o' hr => .inl hr)
        exact ⟨_, _, _, h3, Does.skip (by simp [execOp, h, hpe, hrun]) g1 (ob_put R i _ _) hT g2⟩
  | _ => exact (ex_fail he).elim

end Go.Proofs.Ytmigffdeghfbhaa.Ev
