/- Operations that make slices: conversions, 'append'. -/
import Derived.Test.YtmigffdeghfbhaaEv14
namespace Go.Proofs.Ytmigffdeghfbhaa.Ev
open Go Go.RowKit
set_option linter.unusedSimpArgs false
set_option linter.unusedVariables false

variable {K : Ctx} {w0 : World} {M0 : Bd} {L : Lk} {st : St} {a : Act} {w : World} {o : Oper} {M : Nat → Nat → Prop}

theorem foldl_push (l : List Int) : ∀ (b : ByteArray), (l.foldl (fun r n => r.push (UInt8.ofNat n.toNat)) b) = ⟨(b.data.toList ++ ofBytes l).toArray⟩ := by
  induction l with
  | nil => intro b; simp [ofBytes]
  | cons n l ih =>
    intro b
    rw [List.foldl_cons, ih]
    simp [ofBytes, ByteArray.push]

theorem u8_size : (Ty.int .u8).size = 1 := rfl

theorem Row.nums {l : List Int} {k : IntKind} {cells : List Value} (h : Row w M (.int k) l cells) : cells = l.map (Value.int k) := by
  have hs : (Ty.int k).size = 1 := rfl
  apply List.ext_getElem?
  intro j
  by_cases hj : j < l.length
  · obtain ⟨ds, h1, h2, h3⟩ := h.2 j hj
    have h4 := h3 0 (by rw [hs]; omega)
    rw [hs, Nat.mul_one, Nat.add_zero] at h4
    rw [h4]
    simp only [rd] at h2
    subst h2
    simp [hj]
  · have : cells.length = l.length := by rw [h.1, hs, Nat.mul_one]
    rw [List.getElem?_eq_none (by omega), List.getElem?_eq_none (by simp; omega)]

theorem ok_convert {C : Spec} {O : Opt} (hK : K.Ok) {src dst : TypeId} {x : Operand} (h : o.op = .convert src dst x) : OpOk K C O o := by
  intro w0 M0 L st a w d k t r R he
  rw [h] at he
  simp only [op1] at he
  obtain ⟨v, t1, he1, hv⟩ := opd_ok R he
  clear he
  have hrun : ∀ {v' : Value} {w' : World}, (convert src dst (a.eval x)).run K.P w = .ok v' w' → (execOp a.eval o).run K.P w = .ok (.value v') w' := by
    intro v' w' h1
    simp [execOp, h, h1]
  have slc : ∀ {y : AV} {ts : List Ac}, ((match K.lay dst with
      | some ([.str], false) => (match K.elt src with
        | some (te, .int .u8, _) => (match K.lay te with
          | some (_, false) => itemsS K src (.int .u8) y fun l => k (.str (ofBytes l))
          | _ => .fail)
        | _ => .fail)
      | _ => .fail : Cmd)).ex st ts = some r → rel L w (Mut L) y (a.eval x) → ∃ v objs t', (k v).ex ⟨st.env, objs⟩ t' = some r ∧ Does K w0 M0 o a w L objs v := by
    intro y ts hy hv
    split at hy
    case h_2 => exact (ex_fail hy).elim
    rename_i hd
    split at hy
    case h_2 => exact (ex_fail hy).elim
    rename_i te b hel
    split at hy
    case h_2 => exact (ex_fail hy).elim
    rename_i cs hte
    obtain ⟨l, ts', cells, p, c, h1, h2, h3, h4, _⟩ := itemsS_ok hK R hv hy
    obtain ⟨i, ag, g0, g1, _⟩ := elt_facts hK hel
    rw [hte] at g1
    cases g1
    have hu8 := lay_int hK hte
    have hconv : (convert src dst (a.eval x)).run K.P w = (Conv.bytesToString (a.eval x)).run K.P w := by
      rw [h3]; exact run_convert_bytes_string w src dst te p l.length c g0 hu8 (lay_str hK hd rfl)
    have hcl := Row.nums h2
    refine ⟨_, st.objs, _, h1, Does.same R (v' := .string ⟨(ofBytes l).toArray⟩) (hrun ?_) (by simp [rel])⟩
    rw [hconv, h3]
    have some_case : ∀ q : Addr, p = some q → (loadCells q l.length).run K.P w = .ok (l.map (Value.int .u8)).toArray w → (Conv.bytesToString (.slice p l.length c)).run K.P w = .ok (.string ⟨(ofBytes l).toArray⟩) w := by
      intro q hq hl
      subst hq
      rw [run_bytesToString w q l.length c l hl, foldl_push]
      simp
    rcases h4 with rfl | ⟨b, off, rfl, h5⟩
    · cases p with
      | none => simp [Conv.bytesToString, ofBytes]; rfl
      | some q => exact some_case q rfl (by simpa using run_loadCells_list (P := K.P) w q [] (by simp))
    · refine some_case _ rfl ?_
      have := run_loadCells_list (P := K.P) w ⟨b, off, none⟩ cells (fun j u hu => by
        have hj := (List.getElem?_eq_some_iff.1 hu).1
        rw [← hu, ← h5 j hj]; simp [Addr.add_lit])
      rw [hcl] at this
      simpa using this
  cases v with
  | int ki n =>
    simp only [rel] at hv
    simp only at he1
    split at he1
    case h_2 => exact (ex_fail he1).elim
    rename_i kk kj hs hd
    refine ⟨_, st.objs, _, he1, Does.same R (v' := .int kj (wrapk kj n)) (hrun ?_) (by simp [rel])⟩
    rw [hv]
    simp [convert, run_underlying (lay_int hK hs), run_underlying (lay_int hK hd), Conv.intToInt, wrapk_eq]
  | str s =>
    simp only [rel] at hv
    simp only at he1
    split at he1
    · rename_i hs hd
      refine ⟨_, st.objs, _, he1, Does.same R (v' := .string ⟨s.toArray⟩) (hrun ?_) (by simp [rel])⟩
      rw [hv]
      simp [convert, run_underlying (lay_str hK hs rfl), run_underlying (lay_str hK hd rfl)]
    · rename_i hs _
      split at he1
      case h_2 => exact (ex_fail he1).elim
      rename_i te b hel
      split at he1
      case h_2 => exact (ex_fail he1).elim
      rename_i cs hte
      obtain ⟨i, ag, g0, g1, _⟩ := elt_facts hK hel
      rw [hte] at g1
      cases g1
      have hu8 := lay_int hK hte
      obtain ⟨h1, h2⟩ := ex_newO he1
      have hr := run_bytes_of_string (P := K.P) w src dst te ⟨s.toArray⟩ (lay_str hK hs rfl) g0 hu8
      have hsz : (ByteArray.mk s.toArray).size = s.length := by simp [ByteArray.size]
      have hge := grownCap_ge w s.length 0 te
      rw [hsz] at hr
      have hcl : (bytesOf s).length = s.length := by simp [bytesOf]
      have hbr : (bytesRow ⟨s.toArray⟩ (grownCap w s.length 0 te)).toList = (bytesOf s).map (Value.int .u8) ++ List.replicate (grownCap w s.length 0 te - s.length) (.int .u8 0) := by
        simp [bytesRow, bytesOf, hsz]
      have hbs : (bytesRow ⟨s.toArray⟩ (grownCap w s.length 0 te)).size = grownCap w s.length 0 te := by
        have := congrArg List.length hbr
        simp [bytesOf] at this; omega
      refine ⟨_, _, _, h2, new_arr hK R h1 (cells := (bytesOf s).map (Value.int .u8)) (rest := List.replicate (grownCap w s.length 0 te - s.length) (.int .u8 0)) (cap := grownCap w s.length 0 te) (Row.ints _ _) (by rw [hcl]; exact hge)
        (by rw [← hbr]; simp [hbs, u8_size]) (w' := w.drew.alloc (.cells (bytesRow ⟨s.toArray⟩ (grownCap w s.length 0 te)) te ((bytesRow ⟨s.toArray⟩ (grownCap w s.length 0 te)).size, (bytesRow ⟨s.toArray⟩ (grownCap w s.length 0 te)).size + 1)))
        (((Fr.refl w _).drew).trans (Fr.alloc _ _ _) fun _ _ _ => id) (fun j hj => ?_) (hrun ?_)⟩
      · rw [u8_size, Nat.mul_one] at hj
        rw [← hbr]
        have e1 : w.heap.size = w.drew.heap.size := rfl
        have e2 : ∀ (C : Array Value) (m : Nat × Nat), (w.drew.alloc (.cells C te m)).heap[w.heap.size]? = some (.cells C te m) := fun C m => by
          show (w.heap.push _)[w.heap.size]? = _
          simp
        constructor
        · simp only [World.cell?, e2]; simp
        · simp only [World.frozen?, e2, hbs]
          simp; omega
      · rw [hv, hr, hcl]
    · exact (ex_fail he1).elim
  | _ => simp only at he1; exact slc he1 hv

end Go.Proofs.Ytmigffdeghfbhaa.Ev
