/- Operations on memory: loads, stores, addresses, new variables. -/
import Derived.Test.YtmigffdeghfbhaaEv5
namespace Go.Proofs.Ytmigffdeghfbhaa.Ev
open Go Go.RowKit
set_option linter.unusedSimpArgs false

variable {K : Ctx} {w0 : World} {M0 : Bd} {L : Lk} {st : St} {a : Act} {w : World} {o : Oper} {M : Nat → Nat → Prop}

theorem rel_nil {e : Ty} {v : Value} (h : rel L w M (.nil e) v) : v = .slice none 0 0 := by simpa [rel] using h

theorem leaves_rd : ∀ (t : Ty) {x : Den t} {cs : List Value}, rd w M t x cs → rels L w M (leaves t x) cs
  | .int k, _, _, h => by cases h; simp [leaves, rels, rel]
  | .bool, _, _, h => by cases h; simp [leaves, rels, rel]
  | .str, _, _, h => by cases h; simp [leaves, rels, rel]
  | .slice e, _, _, h => by
    obtain ⟨a, n, c, rfl, h2⟩ := id h
    simp only [leaves, rels, rel]
    exact ⟨_, _, rfl, h, rfl⟩
  | .pair a b, _, _, h => by
    obtain ⟨c, d, rfl, h1, h2⟩ := h
    exact rels_append (leaves_rd a h1) (leaves_rd b h2)
  | .unit, _, _, h => by cases h; simp [leaves, rels]

theorem rels_nil {cs : List Value} (h : rels L w M [] cs) : cs = [] := by simpa [rels] using h
theorem rels_cons {x : AV} {xs : List AV} {cs : List Value} (h : rels L w M (x :: xs) cs) : ∃ c cs', cs = c :: cs' ∧ rel L w M x c ∧ rels L w M xs cs' := by simpa only [rels] using h

theorem parse_rd : ∀ (t : Ty) {vs rest : List AV} {x : Den t} {cs : List Value}, rels L w M vs cs → parse t vs = some (x, rest) → ∃ c d, cs = c ++ d ∧ rd w M t x c ∧ rels L w M rest d
  | .int k, vs, rest, x, cs, h, hp => by
    cases vs with
    | nil => simp [parse] at hp
    | cons v vs =>
      cases v <;> simp [parse] at hp
      obtain ⟨rfl, rfl, rfl⟩ := hp
      obtain ⟨c, cs', rfl, h1, h2⟩ := rels_cons h
      simp only [rel] at h1
      subst h1
      exact ⟨[_], cs', rfl, by simp [rd], h2⟩
  | .bool, vs, rest, x, cs, h, hp => by
    cases vs with
    | nil => simp [parse] at hp
    | cons v vs =>
      cases v <;> simp [parse] at hp
      obtain ⟨rfl, rfl⟩ := hp
      obtain ⟨c, cs', rfl, h1, h2⟩ := rels_cons h
      simp only [rel] at h1
      subst h1
      exact ⟨[_], cs', rfl, by simp [rd], h2⟩
  | .str, vs, rest, x, cs, h, hp => by
    cases vs with
    | nil => simp [parse] at hp
    | cons v vs =>
      cases v <;> simp [parse] at hp
      obtain ⟨rfl, rfl⟩ := hp
      obtain ⟨c, cs', rfl, h1, h2⟩ := rels_cons h
      simp only [rel] at h1
      subst h1
      exact ⟨[_], cs', rfl, by simp [rd], h2⟩
  | .slice e, vs, rest, x, cs, h, hp => by
    cases vs with
    | nil => simp [parse] at hp
    | cons v vs =>
      cases v with
      | sh e' l =>
        simp only [parse] at hp
        split at hp
        · rename_i he
          subst he
          simp only [Option.some.injEq, Prod.mk.injEq] at hp
          obtain ⟨rfl, rfl⟩ := hp
          obtain ⟨c, cs', rfl, h1, h2⟩ := rels_cons h
          simp only [rel] at h1
          exact ⟨[_], cs', rfl, h1, h2⟩
        · cases hp
      | nil e' =>
        simp only [parse] at hp
        split at hp
        · simp only [Option.some.injEq, Prod.mk.injEq] at hp
          obtain ⟨rfl, rfl⟩ := hp
          obtain ⟨c, cs', rfl, h1, h2⟩ := rels_cons h
          have := rel_nil h1
          subst this
          exact ⟨[_], cs', rfl, ⟨none, 0, 0, rfl, rfl, Nat.le_refl _, .inl rfl⟩, h2⟩
        · cases hp
      | _ => simp [parse] at hp
  | .pair p q, vs, rest, x, cs, h, hp => by
    unfold parse at hp
    split at hp
    · rename_i x1 cs1 h1
      split at hp
      · rename_i y r h2
        simp only [Option.some.injEq, Prod.mk.injEq] at hp
        obtain ⟨rfl, rfl⟩ := hp
        obtain ⟨c, d, rfl, h3, h4⟩ := parse_rd p h h1
        obtain ⟨c', d', rfl, h5, h6⟩ := parse_rd q h4 h2
        exact ⟨c ++ c', d', by simp, ⟨c, c', rfl, h3, h5⟩, h6⟩
      · cases hp
    · cases hp
  | .unit, vs, rest, x, cs, h, hp => by
    simp only [parse, Option.some.injEq, Prod.mk.injEq] at hp
    obtain ⟨_, rfl⟩ := hp
    exact ⟨[], cs, rfl, rfl, h⟩

theorem ofLeaves_rd {t : Ty} {vs : List AV} {x : Den t} {cs : List Value} (h : rels L w M vs cs) (hp : ofLeaves t vs = some x) : rd w M t x cs := by
  unfold ofLeaves at hp
  split at hp
  · rename_i y h1
    cases hp
    obtain ⟨c, d, rfl, h2, h3⟩ := parse_rd t h h1
    have := rels_nil h3
    subst this
    simpa using h2
  · cases hp

/-- The cells of a value. -/
theorem lvs_rel {v : AV} {v' : Value} {vs : List AV} (h : rel L w M v v') (hl : lvs v = some vs) : rels L w M vs v'.cells.toList ∧ ∀ c ∈ v'.cells.toList, c.oneCell' = true := by
  cases v with
  | undef => cases hl
  | tup _ => cases hl
  | agg xs =>
    cases hl
    simp only [rel] at h
    obtain ⟨cs, rfl, h1, h2⟩ := h
    exact ⟨by simpa [Value.cells] using h1, by simpa [Value.cells] using h2⟩
  | _ =>
    cases hl
    have hc : v'.cells.toList = [v'] ∧ v'.oneCell' = true := by
      simp only [rel] at h
      first
        | (subst h; exact ⟨rfl, rfl⟩)
        | (obtain ⟨_, _, _, e, _⟩ := h; injection e with e; subst e; exact ⟨rfl, rfl⟩)
        | (obtain ⟨_, _, _, e, _⟩ := h; subst e; exact ⟨rfl, rfl⟩)
        | (obtain ⟨_, e, _⟩ := h; subst e; exact ⟨rfl, rfl⟩)
        | (obtain ⟨_, _, e⟩ := h; subst e; exact ⟨rfl, rfl⟩)
        | (obtain ⟨_, _, _, _, _, e⟩ := h; subst e; exact ⟨rfl, rfl⟩)
        | (obtain ⟨_, _, _, _, _, _, _, _, _, _, e, _⟩ := h; subst e; exact ⟨rfl, rfl⟩)
        | (obtain ⟨_, _, _, _, _, _, _, _, e, _⟩ := h; subst e; exact ⟨rfl, rfl⟩)
        | (obtain ⟨_, _, _, e, _⟩ := h; simp only [List.cons.injEq, and_true] at e; subst e; exact ⟨rfl, rfl⟩)
    rw [hc.1]
    refine ⟨?_, by simpa using hc.2⟩
    simp only [rels]
    exact ⟨_, _, rfl, h, rfl⟩


def valOf (ag : Bool) (vs : List Value) : Value := if ag then .agg vs.toArray else vs.headD undef

theorem mkv_rel {ag : Bool} {cs : List AV} {vs : List Value} {v : AV} (h : rels L w M cs vs) (h1 : ∀ c ∈ vs, c.oneCell' = true) (hm : mkv ag cs = some v) : rel L w M v (valOf ag vs) := by
  cases ag with
  | true =>
    simp only [mkv, Option.some.injEq] at hm
    subst hm
    simp only [rel, valOf, if_true]
    exact ⟨_, rfl, by simpa using h, by simpa using h1⟩
  | false =>
    match cs, hm with
    | [x], hm =>
      simp only [mkv, Option.some.injEq] at hm
      subst hm
      obtain ⟨c, cs', rfl, h2, h3⟩ := rels_cons h
      simpa [valOf] using h2

theorem rels_drop : ∀ (n : Nat) {xs : List AV} {vs : List Value}, rels L w M xs vs → rels L w M (xs.drop n) (vs.drop n)
  | 0, _, _, h => by simpa using h
  | n + 1, [], _, h => by have := rels_nil h; subst this; simp [rels]
  | n + 1, x :: xs, _, h => by
    obtain ⟨c, cs', rfl, _, h2⟩ := rels_cons h
    simpa using rels_drop n h2

theorem rels_take : ∀ (n : Nat) {xs : List AV} {vs : List Value}, rels L w M xs vs → rels L w M (xs.take n) (vs.take n)
  | 0, _, _, h => by simp [rels]
  | n + 1, [], _, h => by have := rels_nil h; subst this; simp [rels]
  | n + 1, x :: xs, _, h => by
    obtain ⟨c, cs', rfl, h1, h2⟩ := rels_cons h
    simp only [List.take_succ_cons, rels]
    exact ⟨_, _, rfl, h1, rels_take n h2⟩

theorem rels_sub {xs : List AV} {vs : List Value} (h : rels L w M xs vs) (off n : Nat) : rels L w M (sub xs off n) (sub vs off n) := rels_take n (rels_drop off h)

theorem sub_get {α : Type} (l : List α) (off n j : Nat) (hj : j < n) : (sub l off n)[j]? = l[off + j]? := by
  simp [sub, List.getElem?_take, hj]

theorem length_sub {α : Type} (l : List α) (off n : Nat) (h : off + n ≤ l.length) : (sub l off n).length = n := by
  simp [sub]; omega

theorem mem_sub {α : Type} {l : List α} {off n : Nat} {x : α} (h : x ∈ sub l off n) : x ∈ l := List.mem_of_mem_drop (List.mem_of_mem_take h)

theorem length_over {α : Type} : ∀ (l vs : List α), (over l vs).length = l.length
  | l, [] => by cases l <;> simp [over]
  | [], _ :: _ => by simp [over]
  | _ :: l, v :: vs => by simp [over, length_over l vs]

theorem length_spl {α : Type} : ∀ (l : List α) (n : Nat) (vs : List α), (spl l n vs).length = l.length
  | l, 0, vs => by cases l <;> simp [spl, length_over]
  | [], n + 1, vs => by simp [spl]
  | a :: l, n + 1, vs => by simp [spl, length_spl l n vs]

theorem over_get {α : Type} : ∀ (l vs : List α) (j : Nat), vs.length ≤ l.length → (over l vs)[j]? = if j < vs.length then vs[j]? else l[j]?
  | l, [], j, _ => by cases l <;> simp [over]
  | [], v :: vs, j, h => by simp at h
  | x :: l, v :: vs, 0, h => by simp [over]
  | x :: l, v :: vs, j + 1, h => by simp [over, over_get l vs j (by simpa using h)]

theorem spl_get {α : Type} : ∀ (l : List α) (n : Nat) (vs : List α) (j : Nat), n + vs.length ≤ l.length → (spl l n vs)[j]? = if n ≤ j ∧ j < n + vs.length then vs[j - n]? else l[j]?
  | l, 0, vs, j, h => by
    have h1 := over_get l vs j (by omega)
    have h2 : spl l 0 vs = over l vs := by cases l <;> rfl
    rw [h2, h1]; simp
  | [], n + 1, vs, j, h => by simp at h
  | x :: l, n + 1, vs, 0, h => by simp [spl]
  | x :: l, n + 1, vs, j + 1, h => by
    simp only [spl, List.getElem?_cons_succ, spl_get l n vs j (by simp at h; omega)]
    have : (n + 1 ≤ j + 1 ∧ j + 1 < n + 1 + vs.length) ↔ (n ≤ j ∧ j < n + vs.length) := by omega
    simp only [this]
    congr 2; omega

theorem rels_over : ∀ {xs ys : List AV} {vs us : List Value}, rels L w M xs vs → rels L w M ys us → rels L w M (over xs ys) (over vs us)
  | xs, [], _, _, h, h' => by
    have := rels_nil h'; subst this
    cases xs with
    | nil => have := rels_nil h; subst this; simp [over, rels]
    | cons x xs => obtain ⟨c, cs', rfl, h1, h2⟩ := rels_cons h; simpa only [over] using h
  | [], y :: ys, _, _, h, h' => by
    have := rels_nil h; subst this
    obtain ⟨c, cs', rfl, h1, h2⟩ := rels_cons h'
    simp [over, rels]
  | x :: xs, y :: ys, _, _, h, h' => by
    obtain ⟨c, cs', rfl, h1, h2⟩ := rels_cons h
    obtain ⟨d, ds, rfl, h3, h4⟩ := rels_cons h'
    simp only [over, rels]
    exact ⟨d, _, rfl, h3, rels_over h2 h4⟩

theorem rels_spl : ∀ (n : Nat) {xs ys : List AV} {vs us : List Value}, rels L w M xs vs → rels L w M ys us → rels L w M (spl xs n ys) (spl vs n us)
  | 0, xs, ys, vs, us, h, h' => by
    cases xs with
    | nil => have := rels_nil h; subst this; simpa only [spl] using rels_over h h'
    | cons x xs => obtain ⟨c, cs', rfl, h1, h2⟩ := rels_cons h; simpa only [spl] using rels_over h h'
  | n + 1, [], _, _, _, h, _ => by have := rels_nil h; subst this; simp [spl, rels]
  | n + 1, x :: xs, _, _, _, h, h' => by
    obtain ⟨c, cs', rfl, h1, h2⟩ := rels_cons h
    simp only [spl, rels]
    exact ⟨c, _, rfl, h1, rels_spl n h2 h'⟩

theorem mem_over {α : Type} : ∀ {l vs : List α} {x : α}, x ∈ over l vs → x ∈ l ∨ x ∈ vs
  | [], [], _, h => by simp [over] at h
  | _ :: _, [], _, h => .inl (by simpa [over] using h)
  | [], _ :: _, _, h => by simp [over] at h
  | y :: l, v :: vs, x, h => by
    simp only [over, List.mem_cons] at h ⊢
    rcases h with h | h
    · exact .inr (.inl h)
    · rcases mem_over h with h | h
      · exact .inl (.inr h)
      · exact .inr (.inr h)

theorem mem_spl {α : Type} : ∀ (n : Nat) {l vs : List α} {x : α}, x ∈ spl l n vs → x ∈ l ∨ x ∈ vs
  | 0, [], _, _, h => by simp only [spl] at h; exact mem_over h
  | 0, _ :: _, _, _, h => by simp only [spl] at h; exact mem_over h
  | n + 1, [], _, _, h => by simp [spl] at h
  | n + 1, y :: l, vs, x, h => by
    simp only [spl, List.mem_cons] at h ⊢
    rcases h with h | h
    · exact .inl (.inl h)
    · rcases mem_spl n h with h | h
      · exact .inl (.inr h)
      · exact .inr h

theorem add_lit (b o n : Nat) : (⟨b, o, none⟩ : Addr).add n = ⟨b, o + n, none⟩ := Addr.add_lit b o n

theorem run_load_at (hK : K.Ok) {t : TypeId} {cs : List CT} {ag : Bool} (hl : K.lay t = some (cs, ag)) {b off : Nat} {vs : List Value} (hn : vs.length = cs.length)
    (hc : ∀ j, j < cs.length → w.cell? ⟨b, off + j, none⟩ = vs[j]?) : (Instr.loadAt t (.pointer (some ⟨b, off, none⟩))).run K.P w = .ok (valOf ag vs) w := by
  obtain ⟨i, d, h1, h2, h3, h4, h5, h6⟩ := hK.lay t cs ag hl
  have hcells : (loadCells ⟨b, off, none⟩ cs.length).run K.P w = .ok vs.toArray w := by
    have := run_loadCells_list (P := K.P) w ⟨b, off, none⟩ vs (fun j v hj => by
      have hlt : j < cs.length := by rw [← hn]; exact (List.getElem?_eq_some_iff.1 hj).1
      rw [add_lit, hc j hlt, hj])
    rw [hn] at this
    exact this
  have hag : (isAgg t).run K.P w = .ok ag w := by
    rw [← h5]
    cases d <;> simp [isAgg, run_underlying h2, sm, isAgS]
  unfold Instr.loadAt loadVar
  simp only [Instr.sureAddr, Sem.run_bind, Sem.run_pure, Result.andThen_ok, hag]
  cases ag with
  | true => simp [sizeOf, typeInfo, h1, h3, hcells, valOf]
  | false =>
    have h0 := h6
    have : cs.length = 1 := by
      have h5' : isAgS (sm d) = false := h5
      revert h5' h6
      cases sm d <;> simp [isAgS, ctOf] <;> (match cs with | [] => simp | [_] => simp | _ :: _ :: _ => simp)
    match vs, hn, hc with
    | [v], _, hc =>
      have := hc 0 (by omega)
      simp at this
      simp [valOf, this]
    | [], hn, _ => simp at hn; omega
    | _ :: _ :: _, hn, _ => simp at hn; omega

theorem ok_load {C : Spec} {O : Opt} (hK : K.Ok) {ty : TypeId} {x : Operand} (h : o.op = .load ty x) : OpOk K C O o := by
  intro w0 M0 L st a w d k t r R he
  rw [h] at he
  simp only [op1] at he
  split at he
  case h_2 => exact (ex_fail he).elim
  rename_i cs ag hl
  obtain ⟨v, t1, h1, hv⟩ := opd_ok R he
  have fin : ∀ {xs : List AV} {vs : List Value} {off : Nat} {u : AV} {t2 : List Ac} (b o0 : Nat), rels L w (Mut L) xs vs → (∀ c ∈ vs, c.oneCell' = true) → off + cs.length ≤ xs.length → mkv ag (sub xs off cs.length) = some u →
      (∀ j, j < xs.length → w.cell? ⟨b, o0 + j, none⟩ = vs[j]?) → a.eval x = .pointer (some ⟨b, o0 + off, none⟩) → (k u).ex st t2 = some r →
      ∃ v objs t', (k v).ex ⟨st.env, objs⟩ t' = some r ∧ Does K w0 M0 o a w L objs v := by
    intro xs vs off u t2 b o0 hr hone hle hm hc ha hk
    have hlen := rels_len hr
    refine ⟨u, st.objs, t2, hk, Does.same R (v' := valOf ag (sub vs off cs.length)) ?_ (mkv_rel (rels_sub hr off cs.length) (fun c hc => hone c (mem_sub hc)) hm)⟩
    have := run_load_at hK (w := w) hl (b := b) (off := o0 + off) (vs := sub vs off cs.length) (length_sub _ _ _ (by omega)) (fun j hj => by
      rw [sub_get _ _ _ _ hj, Nat.add_assoc, hc _ (by omega)])
    simp [execOp, h, ha, this]
  cases v with
  | ptr i off =>
    obtain ⟨y, h2, h3⟩ := ex_getO h1
    cases y with
    | arr _ _ _ _ => exact (ex_fail h3).elim
    | var xs =>
      simp only at h3
      split at h3
      case isFalse => exact (ex_fail h3).elim
      rename_i hle
      split at h3
      case h_2 => exact (ex_fail h3).elim
      rename_i u hm
      simp only [rel] at hv
      obtain ⟨b, o0, cap, cs', h4, h5⟩ := hv
      have hob := R.ob i
      rw [h2, h4] at hob
      simp only [Option.map_some, Option.some.injEq, Ob.var.injEq] at hob
      subst hob
      obtain ⟨b', o', vs, h6, h7, h8, h9⟩ := R.ro.ok i _ h4
      simp only [Option.some.injEq, Prod.mk.injEq] at h6
      obtain ⟨rfl, rfl⟩ := h6
      exact fin b o0 h7 h8 hle hm (fun j hj => (h9 j hj).1) h5 h3
  | eptr i ver n off =>
    obtain ⟨y, h2, h3⟩ := ex_getO h1
    cases y with
    | var _ => exact (ex_fail h3).elim
    | arr e v' z xs =>
      simp only at h3
      split at h3
      case isFalse => exact (ex_fail h3).elim
      rename_i hle
      split at h3
      case h_2 => exact (ex_fail h3).elim
      rename_i u hm
      simp only [rel] at hv
      obtain ⟨l, e', cur, z', xs', p, h4, h5, h6, h7⟩ := hv
      have hob := R.ob i
      rw [h2, h4] at hob
      simp only [Option.map_some, Option.some.injEq, Ob.arr.injEq] at hob
      obtain ⟨rfl, rfl, rfl, hxs⟩ := hob
      have hxs := eq_of_heq hxs
      subst hxs
      obtain ⟨b, o0, hb, hn0, hn1, rfl⟩ := h7 hle.1
      rcases R.ro.ok i _ h4 with ⟨h8, _⟩ | ⟨b', o', h8, h9, h10, _, _⟩
      · simp only at h8; rw [hb] at h8; cases h8
      · simp only at h8
        rw [hb] at h8
        simp only [Option.some.injEq, Prod.mk.injEq] at h8
        obtain ⟨rfl, rfl⟩ := h8
        have hlt : n.toNat < xs.length := by omega
        obtain ⟨ds, h11, h12, h13⟩ := h10 n.toNat hlt
        have hg : xs.getD n.toNat (Den.zero e) = xs[n.toNat] := by simp [List.getD, hlt]
        rw [hg] at hm
        have hll : (leaves e xs[n.toNat]).length = e.size := by have := rels_len (leaves_rd (L := L) e h12); omega
        exact fin b (o0 + n.toNat * e.size) (leaves_rd e h12) (rd_one e h12) (by rw [hll]; exact hle.2) hm (fun j hj => h13 j (by omega)) h6 h3
  | sel e y off =>
    simp only at h1
    split at h1
    case isFalse => exact (ex_fail h1).elim
    rename_i hle
    split at h1
    case h_2 => exact (ex_fail h1).elim
    rename_i u hm
    simp only [rel] at hv
    obtain ⟨b, o0, ds, h2, h3, h4, h5⟩ := hv
    have hll : (leaves e y).length = e.size := by have := rels_len (leaves_rd (L := L) e h4); omega
    exact fin b o0 (leaves_rd e h4) (rd_one e h4) (by rw [hll]; exact hle) hm (fun j hj => (h5 j (by omega)).1) h2 h1
  | _ => exact (ex_fail h1).elim

end Go.Proofs.Ytmigffdeghfbhaa.Ev
