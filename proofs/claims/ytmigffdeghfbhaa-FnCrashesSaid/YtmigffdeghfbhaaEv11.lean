/- Operations: cuts, freezing. -/
import Derived.Test.YtmigffdeghfbhaaEv10
import Derived.Laws.Strings2
namespace Go.Proofs.Ytmigffdeghfbhaa.Ev
open Go Go.RowKit
set_option linter.unusedSimpArgs false

variable {K : Ctx} {w0 : World} {M0 : Bd} {L : Lk} {st : St} {a : Act} {w : World} {o : Oper} {M : Nat → Nat → Prop}

/-- An own slice that nobody writes any more. -/
theorem RelO.freeze (h : RelO K w0 M0 L w) (hK : K.Ok) {i : Nat} {l : Loc} {e : Ty} {ver : Nat} {z : Bool} {xs : List (Den e)} (hi : L i = some (l, .arr e ver z xs)) :
    RelO K w0 M0 (upd L i (l, .arr e ver true xs)) w ∧ Tr w (Mut L) w (Mut (upd L i (l, .arr e ver true xs))) ∧ Turn L (upd L i (l, .arr e ver true xs)) := by
  have hT : Turn L (upd L i (l, .arr e ver true xs)) := by
    intro j l1 y1 hj
    by_cases hji : j = i
    · subst hji
      rw [hi] at hj; cases hj
      exact ⟨_, _, upd_same _ _ _, ver, true, xs, rfl, Nat.le_refl _, fun _ => ⟨rfl, rfl⟩⟩
    · obtain ⟨l', x', h1, h2⟩ := Turn.refl L j l1 y1 hj
      exact ⟨l', x', by rw [upd_other L _ hji]; exact h1, h2⟩
  have hm : ∀ b o, Mut (upd L i (l, .arr e ver true xs)) b o → L.F b o ∨ ∃ j q, j ≠ i ∧ L j = some q ∧ inR q b o := by
    rintro b o (hf | ⟨j, q, hq, hr⟩)
    · exact .inl hf
    right
    by_cases hji : j = i
    · subst hji
      rw [upd_same] at hq; cases hq
      obtain ⟨o0, _, h1, h2⟩ := hr
      simp [ext] at h2; omega
    · rw [upd_other L _ hji] at hq
      exact ⟨j, q, hji, hq, hr⟩
  obtain ⟨g1, g2⟩ := h.put hK hi (p' := (l, .arr e ver true xs)) (w' := w) (Fr.refl w _) hT
    (fun ht => by
      rcases h.ok i _ hi with h1 | ⟨b, o0, h1, h2, h3, h4, h5⟩
      · exact .inl h1
      · refine .inr ⟨b, o0, h1, h2, fun j hj => ?_, (fun hz => by cases hz), fun _ j hj => ?_⟩
        · obtain ⟨ds, k1, k2, k3⟩ := h3 j hj
          exact ⟨ds, k1, rd_tr ht e k2, k3⟩
        · intro hmm
          cases z with
          | true => exact h5 rfl j hj ((hm _ _ hmm).imp id fun ⟨j', q, _, hq, hr⟩ => ⟨j', q, hq, hr⟩)
          | false =>
            have hin : inR (l, Ob.arr e ver false xs) b (o0 + j) := by
              refine ⟨o0, h1, by omega, ?_⟩
              have : xs.length * e.size ≤ l.cap * e.size := Nat.mul_le_mul_right _ h2
              simp only [ext, Bool.false_eq_true, if_false]; omega
            rcases hm _ _ hmm with hf | ⟨j', q, hne, hq, hr⟩
            · rw [h.ff] at hf; exact h.fo _ _ ⟨i, _, hi, hin⟩ hf
            · exact hne (h.sep j' i q _ _ _ hq hi hr hin))
    (fun b o hr => .inl (by obtain ⟨o0, _, h1, h2⟩ := hr; simp [ext] at h2; omega))
  exact ⟨g1, g2, hT⟩

def optV : Option Int → Option Value → Prop
  | none, none => True
  | some n, some v => ∃ k, v = .int k n
  | _, _ => False

theorem optInt_ok (R : Rl K w0 M0 L st a w) {t : TypeId} {x : Option Operand} {k : Option Int → Cmd} {ts : List Ac} {r : Rz} (h : (optInt K t x k).ex st ts = some r) :
    ∃ n ts', (k n).ex st ts' = some r ∧ optV n (x.map a.eval) := by
  cases x with
  | none => exact ⟨none, ts, h, trivial⟩
  | some x =>
    simp only [optInt] at h
    obtain ⟨v, t1, h1, hv⟩ := opd_ok R h
    cases v with
    | int ki n =>
      simp only [rel] at hv
      exact ⟨some n, t1, h1, by simp only [Option.map_some, optV]; exact ⟨ki, hv⟩⟩
    | _ => exact (ex_fail h1).elim

theorem bounds_ok {len cap : Nat} (hlc : len ≤ cap) {lo hi : Option Int} {lv hv : Option Value} (h1 : optV lo lv) (h2 : optV hi hv) (isS : Bool) {k : Int → Int → Cmd} {ts : List Ac} {r : Rz} (h : (bounds len lo hi k).ex st ts = some r) (P : Program) :
    ∃ l u : Int, 0 ≤ l ∧ l ≤ u ∧ u ≤ len ∧ (k l u).ex st ts = some r ∧ (Instr.sliceBounds isS len cap lv hv none).run P w = .ok (l.toNat, u.toNat, cap) w := by
  unfold bounds at h
  cases hi with
  | none =>
    cases hv with
    | some v => simp [optV] at h2
    | none =>
      cases lo with
      | none =>
        cases lv with
        | some v => simp [optV] at h1
        | none => exact ⟨0, len, by omega, by omega, by omega, h, by simp [Instr.sliceBounds]⟩
      | some l =>
        cases lv with
        | none => simp [optV] at h1
        | some v =>
          obtain ⟨ki, rfl⟩ := h1
          obtain ⟨h3, h⟩ := ex_chk h
          obtain ⟨h4, h⟩ := ex_chk h
          simp only [decide_eq_true_eq] at h3 h4
          exact ⟨l, len, h3, h4, by omega, h, by simp [Instr.sliceBounds, Instr.sliceBound, asIntOf, h3, h4]⟩
  | some u =>
    cases hv with
    | none => simp [optV] at h2
    | some v =>
      obtain ⟨kj, rfl⟩ := h2
      cases lo with
      | none =>
        cases lv with
        | some v => simp [optV] at h1
        | none =>
          obtain ⟨h3, h⟩ := ex_chk h
          obtain ⟨h4, h⟩ := ex_chk h
          simp only [decide_eq_true_eq] at h3 h4
          have h5 : u ≤ (cap : Int) := by omega
          exact ⟨0, u, by omega, h3, h4, h, by simp [Instr.sliceBounds, Instr.sliceBound, asIntOf, h3, h5]⟩
      | some l =>
        cases lv with
        | none => simp [optV] at h1
        | some v =>
          obtain ⟨ki, rfl⟩ := h1
          obtain ⟨h3, h⟩ := ex_chk h
          obtain ⟨h4, h⟩ := ex_chk h
          obtain ⟨h5, h⟩ := ex_chk h
          simp only [decide_eq_true_eq] at h3 h4 h5
          have h6 : u ≤ (cap : Int) := by omega
          have h7 : 0 ≤ u := by omega
          have h8 : ¬ (max u 0 < l) := by omega
          exact ⟨l, u, h3, h4, h5, h, by simp [Instr.sliceBounds, Instr.sliceBound, asIntOf, h3, h6, h7, h8]⟩

theorem cut_eq {α : Type} (l : List α) (i j : Nat) : cut l i j = (l.drop i).take (j - i) := by
  simp [cut, List.drop_take]

theorem length_cut {α : Type} (l : List α) (i j : Int) (h1 : 0 ≤ i) (h2 : i ≤ j) (h3 : j ≤ l.length) : (cut l i j).length = (j - i).toNat := by
  simp [cut]; omega

theorem get_cut {α : Type} (l : List α) (i j : Int) (h1 : 0 ≤ i) (h2 : i ≤ j) (h3 : j ≤ l.length) (q : Nat) (hq : q < (cut l i j).length) : (cut l i j)[q] = l[i.toNat + q]'(by rw [length_cut l i j h1 h2 h3] at hq; omega) := by
  simp [cut]

theorem ok_slice {C : Spec} {O : Opt} (hK : K.Ok) {ty : TypeId} {x : Operand} {lo hi : Option Operand} (h : o.op = .slice ty x lo hi none) : OpOk K C O o := by
  intro w0 M0 L st a w d k t r R he
  rw [h] at he
  simp only [op1] at he
  obtain ⟨v, t1, he1, hv⟩ := opd_ok R he
  obtain ⟨lo', t2, he2, hlo⟩ := optInt_ok R he1
  obtain ⟨hi', t3, he3, hhi⟩ := optInt_ok R he2
  clear he he1 he2
  have slc : ∀ {y : AV} {ts : List Ac}, (slicingS K O d ty y lo' hi' k).ex st ts = some r → rel L w (Mut L) y (a.eval x) → ∃ v objs t', (k v).ex ⟨st.env, objs⟩ t' = some r ∧ Does K w0 M0 o a w L objs v := by
    intro y ts hy hv
    unfold slicingS at hy
    split at hy
    case h_2 => exact (ex_fail hy).elim
    rename_i te e0 b0 hel
    obtain ⟨g0, ⟨ag, g1⟩, g2, _⟩ := hK.elt ty te e0 b0 hel
    have hsz := run_size hK g1 w
    have run : ∀ {p : Option Addr} {n c l u : Nat}, a.eval x = .slice p n c → (Instr.sliceBounds true n c (lo.map a.eval) (hi.map a.eval) none).run K.P w = .ok (l, u, c) w →
        (execOp a.eval o).run K.P w = .ok (.value (.slice (if c = l then p else p.map (·.add (l * e0.size))) (u - l) (c - l))) w := by
      intro p n c l u hx hb
      simp [execOp, h, hx, Instr.sliceAt, Instr.slice, run_underlying g0, hb, hsz, Ty.size]
    cases y with
    | sh e xs =>
      simp only at hy
      split at hy
      case isFalse => exact (ex_fail hy).elim
      rename_i hee
      subst hee
      simp only [rel] at hv
      obtain ⟨p, n, c, h2, rfl, h3, h4⟩ := hv
      simp only [List.cons.injEq, and_true] at h2
      obtain ⟨l, u, k1, k2, k3, k4, k5⟩ := bounds_ok (w := w) h3 hlo hhi true hy K.P
      refine ⟨_, st.objs, _, k4, Does.same R (run h2 k5) ?_⟩
      simp only [rel]
      have hlen := length_cut xs l u k1 k2 k3
      refine ⟨_, _, _, rfl, by rw [hlen]; omega, by omega, ?_⟩
      rcases h4 with h4 | ⟨b, off, hp, hr⟩
      · left; subst h4; simp [cut]
      · by_cases hc : c = l.toNat
        · left
          have : (cut xs l u).length = 0 := by rw [hlen]; omega
          exact List.length_eq_zero_iff.1 this
        · right
          refine ⟨b, off + l.toNat * e.size, by rw [if_neg hc, hp]; simp [add_lit], fun i hi => ?_⟩
          rw [hlen] at hi
          obtain ⟨ds, m1, m2, m3⟩ := hr (l.toNat + i) (by omega)
          refine ⟨ds, m1, by rw [get_cut xs l u k1 k2 k3]; exact m2, fun j hj => ?_⟩
          have := m3 j hj
          rwa [Nat.add_mul, ← Nat.add_assoc off] at this
    | nil e =>
      simp only at hy
      have := rel_nil hv
      obtain ⟨l, u, k1, k2, k3, k4, k5⟩ := bounds_ok (w := w) (len := 0) (Nat.le_refl 0) hlo hhi true hy K.P
      have hl0 : l = 0 := by omega
      have hu0 : u = 0 := by omega
      subst hl0; subst hu0
      refine ⟨_, st.objs, _, k4, Does.same R (run this k5) ?_⟩
      simp [rel]
    | ref j ver =>
      obtain ⟨z, h2, h3⟩ := ex_getO hy
      cases z with
      | var _ => exact (ex_fail h3).elim
      | arr e v' z xs =>
        simp only at h3
        split at h3
        case isFalse => exact (ex_fail h3).elim
        rename_i hee
        subst hee
        split at h3
        case isFalse => exact (ex_fail h3).elim
        rename_i hver
        simp only [rel] at hv
        obtain ⟨l0, e', cur, z', xs', p, m, cc, h4, h5, h6, h7⟩ := hv
        have hob := R.ob j
        rw [h2, h4] at hob
        simp only [Option.map_some, Option.some.injEq, Ob.arr.injEq] at hob
        obtain ⟨rfl, rfl, rfl, hxs⟩ := hob
        have hxs := eq_of_heq hxs
        subst hxs
        obtain ⟨rfl, rfl, rfl⟩ := h7 hver
        subst hver
        have hlc : xs.length ≤ l0.cap := by
          rcases R.ro.ok j _ h4 with ⟨_, h8, _⟩ | ⟨b, o0, h8, h9, _⟩
          · subst h8; simp
          · exact h9
        obtain ⟨l, u, k1, k2, k3, k4, k5⟩ := bounds_ok (w := w) hlc hlo hhi true h3 K.P
        have hrun := run h6 k5
        have hlen := length_cut xs l u k1 k2 k3
        split at k4
        · -- the whole is taken away
          rename_i hcond
          simp only [Bool.and_eq_true, Bool.not_eq_true'] at hcond
          obtain ⟨_, hz⟩ := hcond
          subst hz
          obtain ⟨_, k4⟩ := ex_putO k4
          let l1 : Loc := if l0.cap = l.toNat then ⟨l0.base, 0⟩ else ⟨l0.base.map fun q => (q.1, q.2 + l.toNat * e.size), l0.cap - l.toNat⟩
          have hT : Turn L (upd L j (l1, .arr e (ver + 1) false (cut xs l u))) := by
            intro j' l2 y1 hj
            by_cases hji : j' = j
            · subst hji
              rw [h4] at hj; cases hj
              exact ⟨_, _, upd_same _ _ _, ver + 1, false, _, rfl, by omega, fun hc => by omega⟩
            · obtain ⟨l', x', h1, h2⟩ := Turn.refl L j' l2 y1 hj
              exact ⟨l', x', by rw [upd_other L _ hji]; exact h1, h2⟩
          obtain ⟨q1, q2⟩ := R.ro.put hK h4 (p' := (l1, .arr e (ver + 1) false (cut xs l u))) (w' := w) (Fr.refl w _) hT
            (fun ht => by
              rcases R.ro.ok j _ h4 with ⟨h8, h9, h10⟩ | ⟨b, o0, h8, h9, h10, h11, _⟩
              · simp only at h8 h9 h10
                subst h9
                refine .inl ⟨?_, by simp [cut], ?_⟩
                · simp only [l1]; split <;> simp [h8]
                · simp only [l1]; split <;> simp [h10]
              · simp only at h8 h9 h10
                by_cases hc : l0.cap = l.toNat
                · have hcut : cut xs l u = [] := List.length_eq_zero_iff.1 (by rw [hlen]; omega)
                  refine .inr ⟨b, o0, by simp only [l1, if_pos hc]; exact h8, by rw [hcut]; simp, fun i hi => by rw [hcut] at hi; simp at hi, fun _ j hj => by simp [l1, if_pos hc] at hj, fun hz => by cases hz⟩
                · refine .inr ⟨b, o0 + l.toNat * e.size, by simp only [l1, if_neg hc, h8]; rfl, by simp only [l1, if_neg hc]; rw [hlen]; omega, fun i hi => ?_, fun _ i hi => ?_, fun hz => by cases hz⟩
                  · rw [hlen] at hi
                    obtain ⟨ds, m1, m2, m3⟩ := h10 (l.toNat + i) (by omega)
                    refine ⟨ds, m1, by rw [get_cut xs l u k1 k2 k3]; exact rd_tr ht e m2, fun q hq => ?_⟩
                    have := m3 q hq
                    rwa [Nat.add_mul, ← Nat.add_assoc o0] at this
                  · simp only [l1, if_neg hc] at hi
                    have := h11 rfl (l.toNat * e.size + i) (by
                      show l.toNat * e.size + i < l0.cap * e.size
                      have e1 : l0.cap * e.size = l.toNat * e.size + (l0.cap - l.toNat) * e.size := by rw [← Nat.add_mul]; congr 1; omega
                      omega)
                    rwa [← Nat.add_assoc] at this)
            (fun b' x' hr => .inl (by
              obtain ⟨x0, e1, e2, e3⟩ := hr
              simp only [ext, Bool.false_eq_true, if_false] at e3
              by_cases hc : l0.cap = l.toNat
              · simp only [l1, if_pos hc] at e3; omega
              · simp only [l1, if_neg hc] at e1 e3
                cases hbb : l0.base with
                | none => rw [hbb] at e1; cases e1
                | some q =>
                  rw [hbb] at e1
                  simp only [Option.map_some, Option.some.injEq, Prod.mk.injEq] at e1
                  obtain ⟨rfl, rfl⟩ := e1
                  refine ⟨q.2, by rw [hbb], by omega, ?_⟩
                  have e4 : l0.cap * e.size = l.toNat * e.size + (l0.cap - l.toNat) * e.size := by rw [← Nat.add_mul]; congr 1; omega
                  simp only [ext, Bool.false_eq_true, if_false]
                  omega))
          refine ⟨_, _, _, k4, Does.val hrun q1 (ob_put R j _ _) hT q2 ?_⟩
          simp only [rel]
          refine ⟨l1, e, ver + 1, false, cut xs l u, _, _, _, upd_same _ _ _, Nat.le_refl _, rfl, fun _ => ⟨?_, ?_, ?_⟩⟩
          · by_cases hc : l0.cap = l.toNat
            · simp only [l1, if_pos hc, Loc.addr]
            · simp only [l1, if_neg hc, Loc.addr]
              cases l0.base <;> simp [add_lit]
          · rw [hlen]; omega
          · by_cases hc : l0.cap = l.toNat
            · simp only [l1, if_pos hc]; omega
            · simp only [l1, if_neg hc]
        · -- it is shared from here on
          obtain ⟨_, k4⟩ := ex_putO k4
          obtain ⟨q1, q2, q3⟩ := R.ro.freeze hK h4
          refine ⟨_, _, _, k4, Does.val hrun q1 (ob_put R j _ _) q3 q2 ?_⟩
          simp only [rel]
          refine ⟨_, _, _, rfl, by rw [hlen]; omega, by omega, ?_⟩
          rcases q1.ok j _ (upd_same _ _ _) with ⟨h8, h9, _⟩ | ⟨b, o0, h8, h9, h10, _, h11⟩
          · left; subst h9; simp [cut]
          · replace h8 : l0.base = some (b, o0) := h8
            by_cases hc : l0.cap = l.toNat
            · left
              have : (cut xs l u).length = 0 := by rw [hlen]; omega
              exact List.length_eq_zero_iff.1 this
            · right
              refine ⟨b, o0 + l.toNat * e.size, by rw [if_neg hc]; simp [Loc.addr, h8, add_lit], fun i hi => ?_⟩
              rw [hlen] at hi
              obtain ⟨ds, m1, m2, m3⟩ := h10 (l.toNat + i) (by omega)
              refine ⟨ds, m1, by rw [get_cut xs l u k1 k2 k3]; exact m2, fun q hq => ?_⟩
              have a1 := m3 q hq
              have a2 := h11 rfl ((l.toNat + i) * e.size + q) (mul_lt (by omega) hq)
              rw [← Nat.add_assoc] at a2
              rw [Nat.add_mul, ← Nat.add_assoc o0] at a1 a2
              exact ⟨a1, a2⟩
    | _ => exact (ex_fail hy).elim
  cases v with
  | str s =>
    simp only [slicing] at he3
    split at he3
    case h_2 => exact (ex_fail he3).elim
    rename_i hl
    simp only [rel] at hv
    obtain ⟨l, u, k1, k2, k3, k4, k5⟩ := bounds_ok (w := w) (cap := s.length) (Nat.le_refl _) hlo hhi false he3 K.P
    refine ⟨_, st.objs, _, k4, Does.same R (v' := .string ⟨(cut s l u).toArray⟩) ?_ (by simp [rel])⟩
    have e1 : (ByteArray.mk s.toArray).extract l.toNat u.toNat = ByteArray.mk (cut s l u).toArray := by
      rw [ByteArray.extract_mk]
      simp [cut, List.drop_take]
    simp [execOp, h, hv, Instr.sliceAt, Instr.slice, run_underlying (lay_str hK hl rfl), size_str, k5, e1]
  | _ => simp only [slicing] at he3; exact slc he3 hv

end Go.Proofs.Ytmigffdeghfbhaa.Ev
