/- The types of a program as the evaluator sees them, out of a table; that the table is true. -/
import Derived.Test.YtmigffdeghfbhaaEv3
import Derived.Laws.StructEq
namespace Go.Proofs.Ytmigffdeghfbhaa.Ev
open Go Go.RowKit

/-- A type in short. -/
inductive Sm where
  | int (k : IntKind) | bool | str | slice (te : TypeId) | struct (fs : List (Nat × TypeId)) | arr (n : Nat) (te : TypeId) | ptr | fn | map | iface | other

def sm : TypeDesc → Sm
  | .int k => .int k
  | .bool => .bool
  | .string => .str
  | .slice te => .slice te
  | .struct fs => .struct (fs.toList.map fun f => (f.offset, f.type))
  | .array n te => .arr n te
  | .pointer _ => .ptr
  | .func .. => .fn
  | .map .. => .map
  | .interface _ => .iface
  | _ => .other

structure Ent where
  sm : Sm
  size : Nat
  bytes : Nat
  cts : List CT
  ag : Bool
  el : Option (Ty × Nat)
  flat : Bool

def zv : CT → Value
  | .int k => .int k 0
  | .bool => .bool false
  | .str => .string ⟨#[]⟩
  | .slice _ => .slice none 0 0
  | .ptr => .pointer none
  | .fn => .nilFunc
  | .map => .map none
  | .iface => .nilIface

def zval (cts : List CT) (ag : Bool) : Value :=
  match ag, cts with
  | true, _ => .agg (cts.map zv).toArray
  | false, c :: _ => zv c
  | false, [] => .agg #[]

def findT (t : TypeId) : List (TypeId × Ent) → Option Ent
  | [] => none
  | (k, e) :: l => if k = t then some e else findT t l

def lookT (P : Program) (t : TypeId) : Option (Nat × Nat × Option Value) × Option Sm :=
  ((P.info? t).map fun i => (i.size, i.bytes, i.zero), (P.underlying t).map sm)

def want (e : Ent) : Option (Nat × Nat × Option Value) × Option Sm := (some (e.size, e.bytes, some (zval e.cts e.ag)), some e.sm)

/-- A field of one cell: a number, a bool or a string. -/
def plainT (P : Program) (t : TypeId) : CT → Bool
  | .int _ => match P.underlying t with | some (.int _) => true | _ => false
  | .bool => match P.underlying t with | some .bool => true | _ => false
  | .str => match P.underlying t with | some .string => true | _ => false
  | _ => false

def flatF (P : Program) : Nat → List Field → List CT → Bool
  | _, [], [] => true
  | n, f :: fs, c :: cs => (f.name != "_") && (f.offset == n) && plainT P f.type c && flatF P (n + 1) fs cs
  | _, _, _ => false

def flatT (P : Program) (t : TypeId) (cs : List CT) : Bool :=
  (match P.underlying t with | some (.struct fs) => flatF P 0 fs.toList cs | _ => false) && !P.stoodInHeld t && !P.eqGuardType P.depth t

def isAgS : Sm → Bool
  | .struct _ => true
  | .arr _ _ => true
  | _ => false

def ctOf : Sm → List CT → Bool
  | .int k, [.int k'] => decide (k = k')
  | .bool, [.bool] => true
  | .str, [.str] => true
  | .slice _, [.slice _] => true
  | .ptr, [.ptr] => true
  | .fn, [.fn] => true
  | .map, [.map] => true
  | .iface, [.iface] => true
  | .struct _, _ => true
  | .arr _ _, _ => true
  | _, _ => false

/-- The table agrees with itself. -/
def selfOk (tab : List (TypeId × Ent)) (e : Ent) : Bool :=
  decide (e.size = e.cts.length) && (e.ag == isAgS e.sm) && ctOf e.sm e.cts &&
  match e.sm with
  | .slice te => match e.el, findT te tab with
    | some (y, b), some f => decide (f.cts = y.cts) && decide (f.bytes = b) && decide (e.cts = [.slice y]) && decide (0 < f.size) && decide (0 < b)
    | _, _ => false
  | .struct fs => fs.all fun p => match findT p.2 tab with | some f => decide (0 < f.size) && decide (p.1 + f.size ≤ e.size) | none => false
  | .arr n te => match findT te tab with | some f => decide (0 < f.size) && decide (n * f.size = e.size) | none => false
  | _ => true

def ctx (P : Program) (tab : List (TypeId × Ent)) (G : World → Prop) (g0 : Nat) : Ctx where
  P := P
  G := G
  g0 := g0
  flat t := match findT t tab with | some e => (match e.flat with | true => some e.cts | false => none) | none => none
  lay t := match findT t tab with | some e => some (e.cts, e.ag) | none => none
  fld s f := match findT s tab with
    | some e => match e.sm with | .struct fs => fs[f]? | _ => none
    | none => none
  elt t := match findT t tab with
    | some e => match e.sm, e.el with | .slice te, some (y, b) => some (te, y, b) | _, _ => none
    | none => none
  arr t := match findT t tab with
    | some e => match e.sm with | .arr n te => some (n, te) | _ => none
    | none => none

/-- What the evaluator's steps rest on. -/
structure Ctx.Ok (K : Ctx) : Prop where
  lay : ∀ t cs ag, K.lay t = some (cs, ag) → ∃ i d, K.P.info? t = some i ∧ K.P.underlying t = some d ∧ i.size = cs.length ∧ i.zero = some (zval cs ag) ∧ isAgS (sm d) = ag ∧ ctOf (sm d) cs = true
  fld : ∀ s f n t, K.fld s f = some (n, t) → ∃ fs fl, K.P.underlying s = some (.struct fs) ∧ fs[f]? = some fl ∧ fl.offset = n ∧ fl.type = t ∧ ∃ cs ag, K.lay t = some (cs, ag) ∧ 0 < cs.length
  elt : ∀ t te e b, K.elt t = some (te, e, b) → K.P.underlying t = some (.slice te) ∧ (∃ ag, K.lay te = some (e.cts, ag)) ∧ 0 < e.size ∧ ∃ i, K.P.info? te = some i ∧ i.bytes = b ∧ 0 < b
  flds : ∀ t fs, K.P.underlying t = some (.struct fs) → (∃ cs ag, K.lay t = some (cs, ag)) → ∀ f ∈ fs.toList, ∃ cs ag, K.lay f.type = some (cs, ag)
  arrs : ∀ t n te, K.P.underlying t = some (.array n te) → (∃ cs ag, K.lay t = some (cs, ag)) → K.arr t = some (n, te)
  arr : ∀ t n te, K.arr t = some (n, te) → K.P.underlying t = some (.array n te) ∧ ∃ cs ag, K.lay te = some (cs, ag) ∧ 0 < cs.length
  mixed : K.P.follows .mixedOrders = true
  flat : ∀ t cs, K.flat t = some cs → flatT K.P t cs = true
  gst : ∀ w w' N, Fr w N w' → K.g0 ≤ w.heap.size → (∀ b o, b < K.g0 → ¬ N b o) → K.G w → K.G w'

theorem findT_mem {t : TypeId} {e : Ent} : ∀ {tab : List (TypeId × Ent)}, findT t tab = some e → (t, e) ∈ tab
  | [], h => by simp [findT] at h
  | (k, x) :: l, h => by
    simp only [findT] at h
    split at h
    · rename_i hk; cases h; subst hk; exact List.mem_cons_self ..
    · exact List.mem_cons_of_mem _ (findT_mem h)

theorem map_eq_mem {α β : Type} {f g : α → β} : ∀ {l : List α}, l.map f = l.map g → ∀ x ∈ l, f x = g x
  | a :: l, h, x, hx => by
    simp only [List.map_cons, List.cons.injEq] at h
    cases hx with
    | head => exact h.1
    | tail _ hx => exact map_eq_mem h.2 x hx

theorem sm_struct {d : TypeDesc} {fs : List (Nat × TypeId)} (h : sm d = .struct fs) : ∃ gs, d = .struct gs ∧ fs = gs.toList.map fun f => (f.offset, f.type) := by
  cases d <;> simp [sm] at h
  exact ⟨_, rfl, h.symm⟩
theorem sm_slice {d : TypeDesc} {te : TypeId} (h : sm d = .slice te) : d = .slice te := by cases d <;> simp_all [sm]
theorem sm_arr {d : TypeDesc} {n : Nat} {te : TypeId} (h : sm d = .arr n te) : d = .array n te := by cases d <;> simp_all [sm]

theorem ctx_ok {P : Program} {tab : List (TypeId × Ent)} {G : World → Prop} {g0 : Nat} (h : (tab.map fun p => lookT P p.1) = tab.map fun p => want p.2) (hs : (tab.all fun p => selfOk tab p.2) = true) (hm : P.follows .mixedOrders = true) (hfl : (tab.all fun p => !p.2.flat || flatT P p.1 p.2.cts) = true)
    (hg : ∀ w w' N, Fr w N w' → g0 ≤ w.heap.size → (∀ b o, b < g0 → ¬ N b o) → G w → G w') : (ctx P tab G g0).Ok := by
  have base : ∀ t e, findT t tab = some e → ∃ i d, P.info? t = some i ∧ P.underlying t = some d ∧ i.size = e.size ∧ i.bytes = e.bytes ∧ i.zero = some (zval e.cts e.ag) ∧ sm d = e.sm ∧ selfOk tab e = true := by
    intro t e ht
    have hmem := findT_mem ht
    have hl := map_eq_mem h _ hmem
    have hself := List.all_eq_true.mp hs _ hmem
    simp only [lookT, want, Prod.mk.injEq] at hl
    obtain ⟨h1, h2⟩ := hl
    cases hi : P.info? t with
    | none => simp [hi] at h1
    | some i =>
      cases hd : P.underlying t with
      | none => simp [hd] at h2
      | some d =>
        simp [hi] at h1
        simp [hd] at h2
        exact ⟨i, d, rfl, rfl, h1.1, h1.2.1, h1.2.2, h2, hself⟩
  have lay : ∀ t cs ag, (ctx P tab G g0).lay t = some (cs, ag) → ∃ e, findT t tab = some e ∧ cs = e.cts ∧ ag = e.ag := by
    intro t cs ag hl
    simp only [ctx] at hl
    split at hl
    · rename_i e he; simp only [Option.some.injEq, Prod.mk.injEq] at hl; exact ⟨e, he, hl.1.symm, hl.2.symm⟩
    · cases hl
  have self : ∀ e, selfOk tab e = true → e.size = e.cts.length ∧ e.ag = isAgS e.sm ∧ ctOf e.sm e.cts = true := by
    intro e he
    simp only [selfOk, Bool.and_eq_true, decide_eq_true_eq, beq_iff_eq] at he
    exact ⟨he.1.1.1, he.1.1.2, he.1.2⟩
  refine ⟨?_, ?_, ?_, ?_, ?_, ?_, hm, ?_, hg⟩
  · intro t cs ag hl
    obtain ⟨e, he, rfl, rfl⟩ := lay t cs ag hl
    obtain ⟨i, d, h1, h2, h3, h4, h5, h6, h7⟩ := base t e he
    obtain ⟨s1, s2, s3⟩ := self e h7
    exact ⟨i, d, h1, h2, h3.trans s1, h5, by rw [h6, s2], by rw [h6]; exact s3⟩
  · intro s f n t hf
    simp only [ctx] at hf
    split at hf
    · rename_i e he
      obtain ⟨i, d, h1, h2, h3, h4, h5, h6, h7⟩ := base s e he
      split at hf
      · rename_i fs hfs
        rw [hfs] at h6
        obtain ⟨gs, rfl, rfl⟩ := sm_struct h6
        simp only [selfOk, hfs, Bool.and_eq_true] at h7
        have hall := List.all_eq_true.mp h7.2 (n, t) (List.mem_of_getElem? hf)
        simp only at hall
        rw [List.getElem?_map] at hf
        cases hg : gs.toList[f]? with
        | none => simp [hg] at hf
        | some fl =>
          simp [hg] at hf
          refine ⟨gs, fl, h2, by simpa using hg, hf.1, hf.2, ?_⟩
          split at hall
          · rename_i e' he'
            simp only [Bool.and_eq_true, decide_eq_true_eq] at hall
            refine ⟨e'.cts, e'.ag, by simp [ctx, he'], ?_⟩
            obtain ⟨_, _, _, _, _, _, _, _, h7'⟩ := base t e' he'
            rw [← (self e' h7').1]; exact hall.1
          · cases hall
      · cases hf
    · cases hf
  · intro t te e b hf
    simp only [ctx] at hf
    split at hf
    · rename_i x he
      obtain ⟨i, d, h1, h2, h3, h4, h5, h6, h7⟩ := base t x he
      split at hf
      · rename_i te' y b' hsm hel
        simp only [Option.some.injEq, Prod.mk.injEq] at hf
        obtain ⟨rfl, rfl, rfl⟩ := hf
        rw [hsm] at h6
        have := sm_slice h6
        subst this
        simp only [selfOk, hsm, hel, Bool.and_eq_true] at h7
        refine ⟨h2, ?_⟩
        have h8 := h7.2
        split at h8
        · rename_i y' b'' f hf' hff
          simp only [Option.some.injEq, Prod.mk.injEq] at hf'
          obtain ⟨rfl, rfl⟩ := hf'
          simp only [Bool.and_eq_true, decide_eq_true_eq] at h8
          obtain ⟨i', d', g1, g2, g3, g4, g5, g6, g7⟩ := base _ f hff
          refine ⟨⟨f.ag, by simp [ctx, hff, h8.1.1.1.1]⟩, ?_, i', g1, g4.trans h8.1.1.1.2, h8.2⟩
          rw [Ty.size, ← h8.1.1.1.1, ← (self f g7).1]; exact h8.1.2
        · cases h8
      · cases hf
    · cases hf
  · intro t fs hu ⟨cs, ag, hl⟩ f hf
    obtain ⟨e, he, rfl, rfl⟩ := lay t cs ag hl
    obtain ⟨i, d, h1, h2, h3, h4, h5, h6, h7⟩ := base t e he
    have hu' : P.underlying t = some (.struct fs) := hu
    rw [hu'] at h2
    cases h2
    simp only [sm] at h6
    simp only [selfOk, ← h6, Bool.and_eq_true] at h7
    have hall := List.all_eq_true.mp h7.2 (f.offset, f.type) (List.mem_map_of_mem hf)
    simp only at hall
    split at hall
    · rename_i e' he'
      exact ⟨e'.cts, e'.ag, by simp [ctx, he']⟩
    · cases hall
  · intro t n te hu ⟨cs, ag, hl⟩
    obtain ⟨e, he, rfl, rfl⟩ := lay t cs ag hl
    obtain ⟨i, d, h1, h2, h3, h4, h5, h6, h7⟩ := base t e he
    have hu' : P.underlying t = some (.array n te) := hu
    rw [hu'] at h2
    cases h2
    simp only [sm] at h6
    simp only [ctx, he, ← h6]
  · intro t n te hf
    simp only [ctx] at hf
    split at hf
    · rename_i x he
      obtain ⟨i, d, h1, h2, h3, h4, h5, h6, h7⟩ := base t x he
      split at hf
      · rename_i n' te' hsm
        simp only [Option.some.injEq, Prod.mk.injEq] at hf
        obtain ⟨rfl, rfl⟩ := hf
        rw [hsm] at h6
        have := sm_arr h6
        subst this
        refine ⟨h2, ?_⟩
        simp only [selfOk, hsm, Bool.and_eq_true] at h7
        have h8 := h7.2
        split at h8
        · rename_i f hff
          simp only [Bool.and_eq_true, decide_eq_true_eq] at h8
          obtain ⟨i', d', g1, g2, g3, g4, g5, g6, g7⟩ := base _ f hff
          exact ⟨f.cts, f.ag, by simp [ctx, hff], by rw [← (self f g7).1]; exact h8.1⟩
        · cases h8
      · cases hf
    · cases hf
  · intro t cs hf
    simp only [ctx] at hf
    split at hf
    · rename_i e he
      have := List.all_eq_true.mp hfl _ (findT_mem he)
      split at hf
      · rename_i hfe
        cases hf
        show flatT P t e.cts = true
        simpa [hfe] using this
      · cases hf
    · cases hf

end Go.Proofs.Ytmigffdeghfbhaa.Ev
