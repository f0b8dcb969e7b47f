/- The texts EvX, EvC, Lp, Ev30, Qa, Qb, Qc, Qd, Qe, Qf, Ext0, Lw, ExtH, one behind the other. -/
import Derived.Test.YtgknmoadpgpdeaaGreatDoorK3
import Derived.Test.YtgknmoadpgpdeaaGreatDoorK12
import Derived.Lib.ItoaMem
import Derived.Below
namespace Go.Proofs.YtgknmoadpgpdeaaGreatDoor.Ev
open Go Go.RowKit
noncomputable def nextN (s : String) : Nat := ((Tryz.prog.globalNamed s).map (· + 1)).getD 0
noncomputable def gN : Nat := max (max (nextN "internal/strconv.uint64pow10") (nextN "internal/bytealg.MaxLen")) (max (nextN "strconv.ErrSyntax") (nextN "strconv.ErrRange"))
def Tab10 (w : World) : Prop := Lib.TabIs Tryz.prog w "internal/strconv.uint64pow10" .u64 Lib.pow10Tab
def MaxInt (w : World) : Prop := ∀ g, Tryz.prog.globalNamed "internal/bytealg.MaxLen" = some g → ∃ m, w.cell? ⟨g, 0, none⟩ = some (.int .i64 m)
def ErrAt (n : String) (w : World) : Prop := ∀ g, Tryz.prog.globalNamed n = some g → ∃ tp p, w.cell? ⟨g, 0, none⟩ = some (.iface tp p)
def ErrI (w : World) : Prop := ErrAt "strconv.ErrSyntax" w ∧ ErrAt "strconv.ErrRange" w
def Laid (w : World) : Prop := (Tryz.prog.globalNamed "internal/strconv.uint64pow10" = none ∨ Tab10 w) ∧ MaxInt w ∧ ErrI w
theorem next_lt {s : String} {g : Nat} (h : Tryz.prog.globalNamed s = some g) : g < nextN s := by
  unfold nextN; rw [h]; exact Nat.lt_succ_self g
theorem named_lt {g : Nat} (h : Tryz.prog.globalNamed "internal/strconv.uint64pow10" = some g) : g < gN := Nat.lt_of_lt_of_le (next_lt h) (Nat.le_trans (Nat.le_max_left ..) (Nat.le_max_left ..))
theorem named_lt2 {g : Nat} (h : Tryz.prog.globalNamed "internal/bytealg.MaxLen" = some g) : g < gN := Nat.lt_of_lt_of_le (next_lt h) (Nat.le_trans (Nat.le_max_right ..) (Nat.le_max_left ..))
theorem named_lt3 {g : Nat} (h : Tryz.prog.globalNamed "strconv.ErrSyntax" = some g) : g < gN := Nat.lt_of_lt_of_le (next_lt h) (Nat.le_trans (Nat.le_max_left ..) (Nat.le_max_right ..))
theorem named_lt4 {g : Nat} (h : Tryz.prog.globalNamed "strconv.ErrRange" = some g) : g < gN := Nat.lt_of_lt_of_le (next_lt h) (Nat.le_trans (Nat.le_max_right ..) (Nat.le_max_right ..))
theorem tab_le {w : World} (h : Tryz.prog.globalNamed "internal/strconv.uint64pow10" = none ∨ Tab10 w) : nextN "internal/strconv.uint64pow10" ≤ w.heap.size := by
  unfold nextN
  cases hg : Tryz.prog.globalNamed "internal/strconv.uint64pow10" with
  | none => exact Nat.zero_le _
  | some g =>
    rcases h with h | h
    · rw [hg] at h; cases h
    unfold Tab10 Lib.TabIs World.var? at h
    rw [hg] at h
    simp only [Option.bind_some] at h
    show g + 1 ≤ w.heap.size
    rcases Nat.lt_or_ge g w.heap.size with h' | h'
    · exact h'
    · rw [Array.getElem?_eq_none h'] at h; cases h
theorem max_le {w : World} (h : MaxInt w) : nextN "internal/bytealg.MaxLen" ≤ w.heap.size := by
  unfold nextN
  cases hg : Tryz.prog.globalNamed "internal/bytealg.MaxLen" with
  | none => exact Nat.zero_le _
  | some g =>
    obtain ⟨m, hm⟩ := h g hg
    exact World.block_lt_of_cell? w ⟨g, 0, none⟩ hm
theorem err_le {n : String} {w : World} (h : ErrAt n w) : nextN n ≤ w.heap.size := by
  unfold nextN
  cases hg : Tryz.prog.globalNamed n with
  | none => exact Nat.zero_le _
  | some g =>
    obtain ⟨m, p, hm⟩ := h g hg
    exact World.block_lt_of_cell? w ⟨g, 0, none⟩ hm
theorem laid_le {w : World} (h : Laid w) : gN ≤ w.heap.size := Nat.max_le.2 ⟨Nat.max_le.2 ⟨tab_le h.1, max_le h.2.1⟩, Nat.max_le.2 ⟨err_le h.2.2.1, err_le h.2.2.2⟩⟩
theorem err_stays {n : String} {w w' : World} {N : Nat → Nat → Prop} (hf : Fr w N w') (hs : gN ≤ w.heap.size) (hn : ∀ b o, b < gN → ¬ N b o) (hl : ∀ g, Tryz.prog.globalNamed n = some g → g < gN) (h : ErrAt n w) : ErrAt n w' := fun g hg => by
  obtain ⟨m, p, hm⟩ := h g hg
  have hlt := hl g hg
  exact ⟨m, p, (hf.cel g 0 (Nat.lt_of_lt_of_le hlt hs) (hn g 0 hlt)).trans hm⟩
theorem laid_stays (w w' : World) (N : Nat → Nat → Prop) (hf : Fr w N w') (hs : gN ≤ w.heap.size) (hn : ∀ b o, b < gN → ¬ N b o) (h : Laid w) : Laid w' := by
  refine ⟨?_, fun g hg => ?_, err_stays hf hs hn (fun g hg => named_lt3 hg) h.2.2.1, err_stays hf hs hn (fun g hg => named_lt4 hg) h.2.2.2⟩
  · rcases h.1 with h | h
    · exact .inl h
    · right
      unfold Tab10 Lib.TabIs World.var? at *
      cases hg : Tryz.prog.globalNamed "internal/strconv.uint64pow10" with
      | none => rw [hg] at h; cases h
      | some g =>
        have hlt := named_lt hg
        rw [hg] at h
        simp only [Option.bind_some] at h ⊢
        rw [hf.blk g (Nat.lt_of_lt_of_le hlt hs) fun o => hn g o hlt]
        exact h
  · obtain ⟨m, hm⟩ := h.2.1 g hg
    have hlt := named_lt2 hg
    exact ⟨m, (hf.cel g 0 (Nat.lt_of_lt_of_le hlt hs) (hn g 0 hlt)).trans hm⟩
noncomputable def Kx : Ctx := ctx Tryz.prog tab Laid gN
theorem tabOk1 : (tab.map fun p => lookT Tryz.prog p.1) = tab.map fun p => want p.2 := by kernel_rfl
theorem tabOk2 : (tab.all fun p => selfOk tab p.2) = true := by kernel_rfl
theorem tabOk3 : Tryz.prog.follows .mixedOrders = true := by kernel_rfl
theorem tabOk4 : (tab.all fun p => !p.2.flat || flatT Tryz.prog p.1 p.2.cts) = true := by kernel_rfl
theorem tabOk5 : (tab.all fun p => bzSelf p.1 p.2.cts) = true := by kernel_rfl
theorem tabOk6 : (tab.all fun p => u8Self p.2) = true := by kernel_rfl
theorem KOk : Kx.Ok := ctx_ok tabOk1 tabOk2 tabOk3 tabOk4 tabOk5 tabOk6 laid_stays
end Go.Proofs.YtgknmoadpgpdeaaGreatDoor.Ev

namespace Go.Proofs.YtgknmoadpgpdeaaGreatDoor.Ev
open Go Go.RowKit
noncomputable section

theorem Sound.of {K : Ctx} {fn : Nat} {φ ψ : List AV → List Ob → Br} (h : Sound K fn φ) (he : ∀ args objs r, (ψ args objs).val = some r → (φ args objs).val = some r) : Sound K fn ψ :=
  fun args objs res os hv => h args objs res os (he args objs _ hv)

def noS : Spec := fun _ _ _ => .fail
theorem sound_no (K : Ctx) (fn : Nat) : Sound K fn (fun _ _ => .fail) := fun args objs res os h => by cases h

def add (C : Spec) (k : Nat) (φ : List AV → List Ob → Br) : Spec := fun fn => if fn = k then φ else C fn
theorem sound_add {K : Ctx} {C : Spec} (hC : ∀ fn, Sound K fn (C fn)) {k : Nat} {φ : List AV → List Ob → Br} (h : Sound K k φ) : ∀ fn, Sound K fn (add C k φ fn) := by
  intro fn
  unfold add
  split
  · rename_i e; subst e; exact h
  · exact hC fn

end
end Go.Proofs.YtgknmoadpgpdeaaGreatDoor.Ev

namespace Go.Proofs.YtgknmoadpgpdeaaGreatDoor.Ev
open Go Go.RowKit
set_option linter.unusedVariables false
set_option linter.unusedSimpArgs false

abbrev Rs := AV × List Ob
abbrev Bytes := List UInt8

theorem w64 {n : Int} (h1 : -9223372036854775808 ≤ n) (h2 : n ≤ 9223372036854775807) : wk64 n = n := by rw [wk64_eq]; unfold wrap64; omega
theorem w8 {n : Int} (h1 : 0 ≤ n) (h2 : n < 256) : wk8 n = n := by rw [wk8_eq]; omega
theorem fuel {m n : Nat} (h : m < n) : ∃ k, n = k + 1 := ⟨n - 1, by omega⟩
theorem ite_some {b : Bool} {x y : Br} {r : Rs} (h : (Br.ite b x y).val = some r) (hy : y = .fail := by rfl) : b = true ∧ x.val = some r := by
  subst hy; cases b
  · cases h
  · exact ⟨rfl, h⟩
theorem val_t {b : Bool} {x y : Br} (h : b = true) : (Br.ite b x y).val = x.val := by rw [h]; rfl
theorem val_f {b : Bool} {x y : Br} (h : b = false) : (Br.ite b x y).val = y.val := by rw [h]; rfl
def by8 (c : UInt8) : Int := (c.toNat : Int)
theorem by8_nn (c : UInt8) : 0 ≤ by8 c := by unfold by8; omega
theorem by8_lt (c : UInt8) : by8 c < 256 := by unfold by8; have := c.toNat_lt; omega
theorem by8_inj {a b : UInt8} (h : by8 a = by8 b) : a = b := by
  apply UInt8.toNat_inj.1; unfold by8 at h; omega
def At {α : Type} (l : List α) (i : Int) (r : List α) : Prop := ∃ p, l = p ++ r ∧ i = (p.length : Int)

namespace At
variable {α : Type} {l r : List α} {i : Int} {a : α}
theorem start (l : List α) : At l 0 l := ⟨[], rfl, rfl⟩
theorem nn (h : At l i r) : 0 ≤ i := by obtain ⟨p, _, rfl⟩ := h; omega
theorem le (h : At l i r) : i + r.length = l.length := by obtain ⟨p, rfl, rfl⟩ := h; simp
theorem ge (h : At l i ([] : List α)) : i = l.length := by have := h.le; simp at this; omega
theorem lt (h : At l i (a :: r)) : i < l.length := by have := h.le; simp at this; omega
theorem step (h : At l i (a :: r)) : At l (i + 1) r := by
  obtain ⟨p, rfl, rfl⟩ := h; exact ⟨p ++ [a], by simp, by simp⟩
theorem get (h : At l i (a :: r)) (d : α) : l.getD i.toNat d = a := by
  obtain ⟨p, rfl, rfl⟩ := h; simp [List.getD_eq_getElem?_getD]
theorem dnn (h : At l i r) : decide (0 ≤ i) = true := decide_eq_true h.nn
theorem dlt (h : At l i (a :: r)) : decide (i < (l.length : Int)) = true := decide_eq_true h.lt
theorem dge (h : At l i ([] : List α)) : decide (i < (l.length : Int)) = false := by rw [h.ge]; simp
theorem next (h : At l i (a :: r)) (hl : l.length ≤ 4611686018427387904) : wk64 (i + 1) = i + 1 := by
  have := h.nn; have := h.lt; exact w64 (by omega) (by omega)
theorem drop (h : At l i r) : l.drop i.toNat = r := by obtain ⟨p, rfl, rfl⟩ := h; simp
theorem take (h : At l i r) : l.take i.toNat ++ r = l := by obtain ⟨p, rfl, rfl⟩ := h; simp
end At

theorem At.str {s r : Bytes} {c : UInt8} {i : Int} (h : At s i (c :: r)) : strAt s i = by8 c := by
  unfold strAt by8; rw [h.get]

theorem getD_mid {α : Type} (pre : List α) (a : α) (r : List α) (d : α) : (pre ++ a :: r).getD pre.length d = a := by simp [List.getD_eq_getElem?_getD]
theorem set_mid {α : Type} (pre : List α) (a b : α) (r : List α) : (pre ++ a :: r).set pre.length b = pre ++ b :: r := by simp
theorem cat_one {α : Type} (pre : List α) (a : α) (r : List α) : pre ++ a :: r = (pre ++ [a]) ++ r := by simp
theorem next_len {α : Type} (pre : List α) (a : α) (h : pre.length < 4611686018427387904) : wk64 ((pre.length : Int) + 1) = ((pre ++ [a]).length : Int) := by
  rw [w64 (by omega) (by omega)]; simp
theorem ofBytes_map (l : List UInt8) : ofBytes (bytesOf l) = l := by
  unfold ofBytes bytesOf
  rw [List.map_map]
  conv => rhs; rw [← List.map_id l]
  apply List.map_congr_left
  intro c _
  simp

end Go.Proofs.YtgknmoadpgpdeaaGreatDoor.Ev

namespace Go.Proofs.YtgknmoadpgpdeaaGreatDoor.Ev
open Go Go.RowKit
noncomputable section
set_option linter.unusedSimpArgs false
set_option linter.unusedVariables false

inductive P1 where
  | i (k : IntKind) | b | s | sh (e : Ty)
  | u | nil (e : Ty) | mp (o : Nat) | ref (o v : Nat) | ptr (o f : Nat) | nilp | fn (f : Nat) (l : List (Nat × Nat)) | nilfn | noerr | err | bz (t : Nat)

abbrev P1.D : P1 → Type
  | .i _ => Int
  | .b => Bool
  | .s => List UInt8
  | .sh e => List (Den e)
  | _ => Unit

def P1.pk : (p : P1) → p.D → AV
  | .i k, n => .int k n
  | .b, x => .bool x
  | .s, x => .str x
  | .sh e, l => .sh e l
  | .u, _ => .undef
  | .nil e, _ => .nil e
  | .mp o, _ => .mp o
  | .ref o v, _ => .ref o v
  | .ptr o f, _ => .ptr o f
  | .nilp, _ => .nilp
  | .fn f l, _ => .fn f (l.map fun q => .ptr q.1 q.2)
  | .nilfn, _ => .nilfn
  | .noerr, _ => .noerr
  | .err, _ => .err
  | .bz t, _ => .bz t

def unPtrs : List AV → Option (List (Nat × Nat))
  | [] => some []
  | .ptr o f :: l => match unPtrs l with | some q => some ((o, f) :: q) | none => none
  | _ => none
theorem unPtrs_eq : ∀ (l : List AV) {q : List (Nat × Nat)}, unPtrs l = some q → l = q.map fun x => .ptr x.1 x.2
  | [], q, h => by cases h; rfl
  | a :: l, q, h => by
    cases a <;> simp only [unPtrs] at h <;> try cases h
    split at h
    · rename_i q' hq; cases h; rw [unPtrs_eq l hq]; rfl
    · cases h

def P1.un : (p : P1) → AV → Option p.D
  | .i k, .int k' n => if k = k' then some n else none
  | .b, .bool x => some x
  | .s, .str x => some x
  | .sh e, .sh e' l => if h : e' = e then some (h ▸ l) else none
  | .u, .undef => some ()
  | .nil e, .nil e' => if e = e' then some () else none
  | .mp o, .mp o' => if o = o' then some () else none
  | .ref o v, .ref o' v' => if o = o' ∧ v = v' then some () else none
  | .ptr o f, .ptr o' f' => if o = o' ∧ f = f' then some () else none
  | .nilp, .nilp => some ()
  | .fn f l, .fn f' l' => match unPtrs l' with | some q => if f = f' ∧ l = q then some () else none | none => none
  | .nilfn, .nilfn => some ()
  | .noerr, .noerr => some ()
  | .err, .err => some ()
  | .bz t, .bz t' => if t = t' then some () else none
  | _, _ => none

theorem P1.un_pk : ∀ (p : P1) {a : AV} {d : p.D}, p.un a = some d → a = p.pk d := by
  intro p a d h
  cases p <;> cases a <;> simp only [P1.un] at h <;> first | (cases h; done) | (cases h; rfl) | skip
  all_goals
    first
    | (split at h
       · rename_i e; first | (obtain ⟨rfl, rfl⟩ := e; cases h; rfl) | (subst e; cases h; rfl)
       · cases h)
    | (split at h
       · rename_i q hq
         split at h
         · rename_i e; obtain ⟨rfl, rfl⟩ := e; rw [unPtrs_eq _ hq]; rfl
         · cases h
       · cases h)

abbrev Ps.D : List P1 → Type
  | [] => Unit
  | p :: l => p.D × Ps.D l
def Ps.pk : (l : List P1) → Ps.D l → List AV
  | [], _ => []
  | p :: l, d => p.pk d.1 :: Ps.pk l d.2
def Ps.un : (l : List P1) → List AV → Option (Ps.D l)
  | [], [] => some ()
  | p :: l, a :: az => match p.un a, Ps.un l az with | some x, some y => some (x, y) | _, _ => none
  | _, _ => none
theorem Ps.un_pk : ∀ (l : List P1) {a : List AV} {d : Ps.D l}, Ps.un l a = some d → a = Ps.pk l d
  | [], a, d, h => by cases a <;> simp [Ps.un] at h; rfl
  | p :: l, [], d, h => by simp [Ps.un] at h
  | p :: l, a :: az, d, h => by
    simp only [Ps.un] at h
    split at h
    · rename_i x y hx hy; cases h; rw [p.un_pk hx, Ps.un_pk l hy]; rfl
    · cases h

inductive PV where
  | v (p : P1) | agg (l : List P1)
abbrev PV.D : PV → Type
  | .v p => p.D
  | .agg l => Ps.D l
def PV.pk : (p : PV) → p.D → AV
  | .v p, d => p.pk d
  | .agg l, d => .agg (Ps.pk l d)
def PV.un : (p : PV) → AV → Option p.D
  | .v p, a => p.un a
  | .agg l, .agg vs => Ps.un l vs
  | _, _ => none
theorem PV.un_pk : ∀ (p : PV) {a : AV} {d : p.D}, p.un a = some d → a = p.pk d
  | .v p, a, d, h => p.un_pk h
  | .agg l, a, d, h => by cases a <;> simp only [PV.un] at h <;> first | (cases h; done) | (rw [Ps.un_pk l h]; rfl)
abbrev PVs.D : List PV → Type
  | [] => Unit
  | p :: l => p.D × PVs.D l
def PVs.pk : (l : List PV) → PVs.D l → List AV
  | [], _ => []
  | p :: l, d => p.pk d.1 :: PVs.pk l d.2
def PVs.un : (l : List PV) → List AV → Option (PVs.D l)
  | [], [] => some ()
  | p :: l, a :: az => match p.un a, PVs.un l az with | some x, some y => some (x, y) | _, _ => none
  | _, _ => none
theorem PVs.un_pk : ∀ (l : List PV) {a : List AV} {d : PVs.D l}, PVs.un l a = some d → a = PVs.pk l d
  | [], a, d, h => by cases a <;> simp [PVs.un] at h; rfl
  | p :: l, [], d, h => by simp [PVs.un] at h
  | p :: l, a :: az, d, h => by
    simp only [PVs.un] at h
    split at h
    · rename_i x y hx hy; cases h; rw [p.un_pk hx, PVs.un_pk l hy]; rfl
    · cases h

inductive PO where
  | var (l : List P1) | arr (e : Ty) (v : Nat) (f : Bool) | map (kt vt : Ty) (ag : Bool)
abbrev PO.D : PO → Type
  | .var l => Ps.D l
  | .arr e _ _ => List (Den e)
  | .map kt vt _ => List (Den kt × Den vt)
def PO.pk : (p : PO) → p.D → Ob
  | .var l, d => .var (Ps.pk l d)
  | .arr e v f, d => .arr e v f d
  | .map kt vt ag, d => .map kt vt ag d
def PO.un : (p : PO) → Ob → Option p.D
  | .var l, .var cs => Ps.un l cs
  | .arr e v f, .arr e' v' f' l => if h : e' = e ∧ v = v' ∧ f = f' then some (h.1 ▸ l) else none
  | .map kt vt ag, .map kt' vt' ag' l => if h : kt' = kt ∧ vt' = vt ∧ ag' = ag then some (h.1 ▸ h.2.1 ▸ l) else none
  | _, _ => none
theorem PO.un_pk : ∀ (p : PO) {a : Ob} {d : p.D}, p.un a = some d → a = p.pk d
  | .var l, a, d, h => by cases a <;> simp only [PO.un] at h <;> first | (cases h; done) | (rw [Ps.un_pk l h]; rfl)
  | .arr e v f, a, d, h => by
    cases a <;> simp only [PO.un] at h <;> first | (cases h; done) | skip
    split at h
    · rename_i e; obtain ⟨rfl, rfl, rfl⟩ := e; cases h; rfl
    · cases h
  | .map kt vt ag, a, d, h => by
    cases a <;> simp only [PO.un] at h <;> first | (cases h; done) | skip
    split at h
    · rename_i e; obtain ⟨rfl, rfl, rfl⟩ := e; cases h; rfl
    · cases h
abbrev POs.D : List (Nat × PO) → Type
  | [] => Unit
  | p :: l => p.2.D × POs.D l
def POs.pk : (l : List (Nat × PO)) → POs.D l → List (Nat × Ob)
  | [], _ => []
  | p :: l, d => (p.1, p.2.pk d.1) :: POs.pk l d.2
def POs.un : (l : List (Nat × PO)) → List (Nat × Ob) → Option (POs.D l)
  | [], [] => some ()
  | p :: l, a :: az => if p.1 = a.1 then (match p.2.un a.2, POs.un l az with | some x, some y => some (x, y) | _, _ => none) else none
  | _, _ => none
theorem POs.un_pk : ∀ (l : List (Nat × PO)) {a : List (Nat × Ob)} {d : POs.D l}, POs.un l a = some d → a = POs.pk l d
  | [], a, d, h => by cases a <;> simp [POs.un] at h; rfl
  | p :: l, [], d, h => by simp [POs.un] at h
  | p :: l, (k, o) :: az, d, h => by
    simp only [POs.un] at h
    split at h
    · rename_i e
      split at h
      · rename_i x y hx hy; cases h; rw [POs.un_pk l hy]; simp only [POs.pk]; rw [← e, ← p.2.un_pk hx]
      · cases h
    · cases h

structure SP where
  n : Nat
  ks : List Nat
  vs : List PV
  os : List (Nat × PO)
abbrev SP.D (p : SP) : Type := PVs.D p.vs × POs.D p.os
def SP.pk (p : SP) (d : p.D) : St := ⟨slots 0 p.n (p.ks.zip (PVs.pk p.vs d.1)), POs.pk p.os d.2⟩
def SP.un (p : SP) (s : St) : Option p.D :=
  match takeF p.ks 0 p.n s.env with
  | some vs => (match PVs.un p.vs vs, POs.un p.os s.objs with | some x, some y => some (x, y) | _, _ => none)
  | none => none
theorem SP.un_pk (p : SP) {s : St} {d : p.D} (h : p.un s = some d) : s = p.pk d := by
  obtain ⟨env, objs⟩ := s
  unfold SP.un at h
  split at h
  · rename_i vs hv
    split at h
    · rename_i x y hx hy
      cases h
      have e1 := takeF_slots _ _ _ _ hv
      have e2 := PVs.un_pk _ hx
      have e3 := POs.un_pk _ hy
      simp only at e1 e3
      subst e2 e1 e3
      rfl
    · cases h
  · cases h

abbrev KT := Ex → St → Option Rs
structure LD where
  id : Nat
  p : SP
  G : p.D → KT → Option Rs
def lamOf : List LD → Lam
  | [], _, _, _ => none
  | l :: r, j, st, k => if j = l.id then (match l.p.un st with | some d => l.G d k | none => none) else lamOf r j st k

theorem okL {K : Ctx} {C : Spec} {O : Opt} {m N : Nat} {Λ : Lam} {b : Code} (p : SP) (G : Nat → p.D → KT → Option Rs) (T : p.D → (p.D → Option Rs) → KT → Option Rs)
    (h0 : ∀ d k, G 0 d k = none) (hs : ∀ n d k, G (n + 1) d k = T d (fun d' => G n d' k) k)
    (hl : ∀ s k, Λ (lid b) s k = match p.un s with | some d => G N d k | none => none)
    (hr : ∀ again k w d, roundK m (fun st k => evL K C O m Λ b st k) (p.pk w).env again (p.pk d) (outK O m b k) = T d (fun d' => again (p.pk d')) k)
    (hi : ∀ x ∈ loops b, OkL K C O m N Λ x) : OkL K C O m N Λ b := by
  intro s k k' r hk h
  rw [hl] at h
  split at h
  · rename_i d hd
    have := p.un_pk hd
    subst this
    have key : ∀ n e, loopK m (fun st k => evL K C O m Λ b st k) (p.pk d).env n (p.pk e) (outK O m b k) = G n e k := by
      intro n; induction n with
      | zero => intro e; rw [h0]; rfl
      | succ n ih =>
        intro e
        rw [loopK_succ, hr, hs]
        congr 1
        funext d'
        exact ih d'
    exact loopL (Λ := Λ) b hi N hk ((key N d).trans h)
  · cases h

def AllP {α : Type} (P : α → Prop) : List α → Prop
  | [] => True
  | a :: l => P a ∧ AllP P l
theorem all_of {α : Type} {P : α → Prop} : ∀ {l : List α}, AllP P l → ∀ x ∈ l, P x
  | [], _, x, h => by cases h
  | a :: l, h, x, hx => by
    rcases List.mem_cons.1 hx with rfl | hx
    · exact h.1
    · exact all_of h.2 x hx
theorem okEach {α : Type} {P : α → Prop} {l l' : List α} (e : l = l') (h : AllP P l') : ∀ x ∈ l, P x := by subst e; exact all_of h

structure SC1 where
  fn : Nat
  s : List AV → List Ob → Br
  ok : Sound Kx fn s
abbrev SC := List SC1
def SC.s : SC → Spec
  | [] => noS
  | c :: l => add (SC.s l) c.fn c.s
theorem SC.ok : ∀ (l : SC) (fn : Nat), Sound Kx fn (l.s fn)
  | [], fn => sound_no Kx fn
  | c :: l, fn => sound_add (SC.ok l) c.ok fn
def O0 : Opt := {}

theorem sound_br {C : SC} {O : Opt} {fn : Nat} {f : Func} {s : List AV → List Ob → Br} (hf : Kx.P.funcs[fn]? = some f) (hn : (f.name == "runtime.NumGoroutine") = false)
    (h : ∀ args objs, s args objs = .fail ∨ runF Kx C.s O 1 f args objs = (s args objs).val) : Sound Kx fn s := by
  refine sound_run (C := C.s) (O := O) KOk C.ok hf hn fun args objs res os hv => ?_
  rcases h args objs with e | e
  · rw [e] at hv; cases hv
  · exact ⟨1, e.trans hv⟩

theorem sound_lp {C : SC} {O : Opt} {fn : Nat} {f : Func} {s : List AV → List Ob → Br} (hf : Kx.P.funcs[fn]? = some f) (hn : (f.name == "runtime.NumGoroutine") = false)
    (h : ∀ args objs, s args objs = .fail ∨ ∀ res, (s args objs).val = some res → ∃ n, runF Kx C.s O n f args objs = some res) : Sound Kx fn s := by
  refine sound_run (C := C.s) (O := O) KOk C.ok hf hn fun args objs res os hv => ?_
  rcases h args objs with e | e
  · rw [e] at hv; cases hv
  · exact e _ hv
theorem run_lp {C : SC} {O : Opt} {n : Nat} {f : Func} {Λ : Lam} {args : List AV} {objs : List Ob} {r : Rs} {x : Option Rs} (hb : f.body = some (codeOf f)) (hΛ : ∀ b ∈ loops (codeOf f), OkL Kx C.s O objs.length n Λ b)
    (he : runL Kx C.s O Λ f args objs = x) (h : x = some r) : ∃ n, runF Kx C.s O n f args objs = some r := ⟨n, runL_runF hb hΛ (he.trans h)⟩

end
end Go.Proofs.YtgknmoadpgpdeaaGreatDoor.Ev

namespace Go.Proofs.YtgknmoadpgpdeaaGreatDoor.Ev
open Go Go.RowKit
set_option linter.unusedVariables false
set_option linter.unusedSimpArgs false
noncomputable section

def l1New_O : Opt := { live := [(3, [0, 3, 4])], outs := [(3, [0, 2, 3])] }
def l1New_T3 (v3x0 : (List Int)) (v3x1 v3x2 : Int) (kR3 : (List Int) → Int → Int → Option Rs) (k3e0 : (List Int) → Int → Option Rs) : Option Rs :=
  (bif (decide (v3x2 < (v3x0.length : Int))) then (bif (decide (v3x2 < 4000)) then (bif (decide (0 ≤ v3x2)) then (bif (decide (v3x2 < (v3x0.length : Int))) then (kR3 v3x0 (wkk .i64 (((BitVec.toNat ((BitVec.ofInt 64 (wk64 ((wk64 ((wk64 (v3x1 * 131)) + (wk64 (List.getD v3x0 (Int.toNat v3x2) 0)))) + 7))) &&& (BitVec.ofInt 64 1073741823))) : Nat) : Int)) (wk64 (v3x2 + 1))) else (none)) else (none)) else (k3e0 v3x0 v3x1)) else (k3e0 v3x0 v3x1))
def l1New_F3 : Nat → (List Int) → Int → Int → ((List Int) → Int → Option Rs) → Option Rs
  | 0, _, _, _, _ => none
  | n + 1, v3x0, v3x1, v3x2, k3e0 => l1New_T3 v3x0 v3x1 v3x2 (fun v3x0 v3x1 v3x2 => l1New_F3 n v3x0 v3x1 v3x2 k3e0) k3e0
abbrev l1New_p3 : SP := ⟨32, [0, 3, 4], [(.v (.sh (Ty.int .u8))), (.v (.i .i64)), (.v (.i .i64))], []⟩
noncomputable def l1New_b3 : Code := codeAt (codeOf Tryz.f69) [1, 1, 0, 1, 0, 0]
def l1New_E3 (f : ((List Int) → Int → Option Rs) → Option Rs) (k : KT) : Option Rs := f (fun x3x0x0 x3x0x1 => k (Ex.exit 0) ((St.mk (slots 0 32 [(0, (AV.sh (Ty.int .u8) x3x0x0)), (3, (AV.int .i64 x3x0x1))]) ([] : (List (Nat × (Ob)))))))
def l1New_G3 (n : Nat) (d : l1New_p3.D) : KT → Option Rs := l1New_E3 (l1New_F3 n d.1.1 d.1.2.1 d.1.2.2.1)
def l1New_L (N : Nat) : Lam := lamOf [⟨3, l1New_p3, l1New_G3 N⟩]
theorem l1New_ok3 (N : Nat) : OkL Kx noS l1New_O 0 N (l1New_L N) l1New_b3 := okL l1New_p3 (l1New_G3) (fun d kR => l1New_E3 (l1New_T3 d.1.1 d.1.2.1 d.1.2.2.1 (fun v3x0 v3x1 v3x2 => kR ((v3x0, v3x1, v3x2, ()), ())))) (fun _ _ => by kernel_rfl) (fun _ _ _ => by kernel_rfl) (fun _ _ => by kernel_rfl) (fun _ _ _ _ => by kernel_rfl) (okEach (l' := []) (by kernel_rfl) trivial)
def l1New_run (N : Nat) (code : List Int) : Option Rs := (l1New_F3 N code (wk64 (64242 + (code.length : Int))) 0 (fun x3x0x0 => (fun x3x0x1 => (some ((AV.ptr 0 0), ((Ob.var ((AV.sh (Ty.int .u8) x3x0x0) :: ((AV.int .i64 0) :: ((AV.int .i64 x3x0x1) :: [])))) :: []))))))
def l1New_sOf (φ : (List Int) → Br) : List AV → List Ob → Br
  | [.sh (.int .u8) code], [] => φ code
  | _, _ => .fail
theorem l1New_okOf {φ : (List Int) → Br} (fu : (List Int) → Nat) (hv : ∀ code res_, (φ code).val = some res_ → l1New_run (fu code) code = some res_) : Sound Kx 69 (l1New_sOf φ) := sound_lp (C := []) (O := l1New_O) Tryz.func69 (by kernel_rfl) fun args objs => by
  unfold l1New_sOf; split
  · rename_i code; exact .inr fun _ hyp_ => run_lp (Λ := l1New_L (fu code)) (by kernel_rfl) (okEach (l' := [l1New_b3]) (by kernel_rfl) ⟨l1New_ok3 _, trivial⟩) (by kernel_rfl) (hv code _ hyp_)
  · exact .inl rfl

def l1Byte_br (code : List Int) (i h : Int) : Br := (Br.ite (decide (i < (code.length : Int))) (Br.ite (decide (0 ≤ i)) (Br.ite (decide (i < (code.length : Int))) (Br.ret (AV.int .i64 (wkk .i64 (((BitVec.toNat ((BitVec.ofInt 64 (wk64 ((wkk .i64 (((BitVec.toNat ((BitVec.ofInt 64 (wkk .i64 (((BitVec.toNat ((BitVec.ofInt 64 (Int.fdiv (wk64 ((wk64 (h * 6364136223846793005)) + 1442695040888963407)) 8589934592)) ^^^ (BitVec.ofInt 64 (Int.fdiv (wk64 ((wk64 (h * 6364136223846793005)) + 1442695040888963407)) 35184372088832)))) : Nat) : Int))) &&& (BitVec.ofInt 64 255))) : Nat) : Int)) + (wk64 (List.getD code (Int.toNat i) 0))))) &&& (BitVec.ofInt 64 255))) : Nat) : Int))) ((Ob.var ((AV.sh (Ty.int .u8) code) :: ((AV.int .i64 (wk64 (i + 1))) :: ((AV.int .i64 (wk64 ((wk64 (h * 6364136223846793005)) + 1442695040888963407))) :: [])))) :: [])) Br.fail) Br.fail) (Br.ret (AV.int .i64 (wkk .i64 (((BitVec.toNat ((BitVec.ofInt 64 (wkk .i64 (((BitVec.toNat ((BitVec.ofInt 64 (Int.fdiv (wk64 ((wk64 (h * 6364136223846793005)) + 1442695040888963407)) 8589934592)) ^^^ (BitVec.ofInt 64 (Int.fdiv (wk64 ((wk64 (h * 6364136223846793005)) + 1442695040888963407)) 35184372088832)))) : Nat) : Int))) &&& (BitVec.ofInt 64 255))) : Nat) : Int))) ((Ob.var ((AV.sh (Ty.int .u8) code) :: ((AV.int .i64 i) :: ((AV.int .i64 (wk64 ((wk64 (h * 6364136223846793005)) + 1442695040888963407))) :: [])))) :: [])))
def l1Byte_s : List AV → List Ob → Br
  | [.ptr 0 0], [.var [.sh (.int .u8) code, .int .i64 i, .int .i64 h]] => l1Byte_br code i h
  | _, _ => .fail
theorem l1Byte_ok : Sound Kx 148 l1Byte_s := sound_br (C := []) (O := O0) Tryz.func148 (by kernel_rfl) fun args objs => by
  unfold l1Byte_s; split
  · exact .inr (by kernel_rfl)
  · exact .inl rfl

end
end Go.Proofs.YtgknmoadpgpdeaaGreatDoor.Ev

namespace Go.Proofs.YtgknmoadpgpdeaaGreatDoor.Ev
open Go Go.RowKit
set_option linter.unusedVariables false
set_option linter.unusedSimpArgs false
noncomputable section

def and255 (x : Int) : Int := wkk .i64 ((BitVec.toNat (BitVec.ofInt 64 x &&& BitVec.ofInt 64 255) : Nat) : Int)
theorem and255_in (x : Int) : 0 ≤ and255 x ∧ and255 x ≤ 255 := by
  have h : BitVec.toNat (BitVec.ofInt 64 x &&& BitVec.ofInt 64 255) ≤ 255 := by
    rw [BitVec.toNat_and]
    exact Nat.and_le_right
  unfold and255
  generalize BitVec.toNat (BitVec.ofInt 64 x &&& BitVec.ofInt 64 255) = k at h
  simp only [wkk_eq, IntKind.wrap, IntKind.signed, IntKind.bits]
  simp
  omega
def xorw (a b : Int) : Int := wkk .i64 ((BitVec.toNat (BitVec.ofInt 64 a ^^^ BitVec.ofInt 64 b) : Nat) : Int)
def mix (h : Int) : Int := wk64 (wk64 (h * 6364136223846793005) + 1442695040888963407)
def rawB (h : Int) : Int := and255 (xorw (Int.fdiv (mix h) 8589934592) (Int.fdiv (mix h) 35184372088832))
def byteV (code : List Int) (i h : Int) : Int := bif decide (i < (code.length : Int)) then and255 (wk64 (rawB h + wk64 (code.getD i.toNat 0))) else rawB h
def byteI (code : List Int) (i : Int) : Int := bif decide (i < (code.length : Int)) then wk64 (i + 1) else i
theorem byteV_in (code : List Int) (i h : Int) : 0 ≤ byteV code i h ∧ byteV code i h ≤ 255 := by
  unfold byteV rawB
  cases decide (i < (code.length : Int))
  · exact and255_in _
  · exact and255_in _
def okC (code : List Int) (i : Int) : Bool := decide (0 ≤ i) && decide (code.length ≤ 281474976710656)
theorem okC_next {code : List Int} {i : Int} (h : okC code i = true) : okC code (byteI code i) = true := by
  unfold okC at h ⊢
  simp only [Bool.and_eq_true, decide_eq_true_eq] at h ⊢
  refine ⟨?_, h.2⟩
  unfold byteI
  by_cases h1 : i < (code.length : Int)
  · simp only [h1, decide_true, cond_true]
    rw [w64 (by omega) (by omega)]; omega
  · simp only [h1, decide_false, cond_false]; exact h.1
def curO (code : List Int) (i h : Int) : List Ob := [.var [.sh (.int .u8) code, .int .i64 i, .int .i64 h]]
theorem l1Byte_val (code : List Int) (i h : Int) (hc : okC code i = true) : (l1Byte_br code i h).val = some (.int .i64 (byteV code i h), curO code (byteI code i) (mix h)) := by
  unfold okC at hc
  simp only [Bool.and_eq_true, decide_eq_true_eq] at hc
  unfold l1Byte_br byteV byteI
  by_cases h1 : i < (code.length : Int)
  · simp only [h1, hc.1, decide_true, Br.val, cond_true]; rfl
  · simp only [h1, decide_false, Br.val, cond_false]; rfl
def byteQ_s : List AV → List Ob → Br
  | [.ptr 0 0], [.var [.sh (.int .u8) code, .int .i64 i, .int .i64 h]] => .ite (okC code i) (.ret (.int .i64 (byteV code i h)) [.var [.sh (.int .u8) code, .int .i64 (byteI code i), .int .i64 (mix h)]]) .fail
  | _, _ => .fail
theorem l1Byte_okQ : Sound Kx 148 byteQ_s := l1Byte_ok.of fun args objs r h => by
  unfold byteQ_s at h
  split at h
  · exact (l1Byte_val _ _ _ (ite_some h).1).trans (ite_some h).2
  · cases h

def seedF : List Int → Int → Int → Int
  | [], _, h => h
  | a :: r, i, h => bif decide (i < 4000) then seedF r (i + 1) (wkk .i64 ((BitVec.toNat (BitVec.ofInt 64 (wk64 (wk64 (wk64 (h * 131) + wk64 a) + 7)) &&& BitVec.ofInt 64 1073741823) : Nat) : Int)) else h
theorem l1New_loop (k : List Int → Int → Option Rs) (l : List Int) (hl : l.length ≤ 281474976710656) (r : List Int) : ∀ (pre : List Int) (n : Nat) (h : Int), r.length < n → pre ++ r = l →
    l1New_F3 n l h (pre.length : Int) k = k l (seedF r (pre.length : Int) h) := by
  induction r with
  | nil =>
    intro pre n h hn hp
    obtain ⟨n, rfl⟩ : ∃ m, n = m + 1 := ⟨n - 1, by simp at hn; omega⟩
    have e1 : decide ((pre.length : Int) < (l.length : Int)) = false := by rw [← hp]; simp
    unfold l1New_F3 l1New_T3
    simp only [e1, cond_false, seedF]
  | cons a r ihr =>
    intro pre n h hn hp
    obtain ⟨n, rfl⟩ : ∃ m, n = m + 1 := ⟨n - 1, by omega⟩
    have hlen : l.length = pre.length + r.length + 1 := by rw [← hp]; simp; omega
    have e1 : decide ((pre.length : Int) < (l.length : Int)) = true := by rw [hlen]; simp; omega
    have e2 : decide ((0 : Int) ≤ (pre.length : Int)) = true := by simp
    have e4 : l.getD pre.length 0 = a := by rw [← hp]; exact getD_mid ..
    have e5 : (((pre ++ [a]).length : Nat) : Int) = (pre.length : Int) + 1 := by simp
    have ih := fun x => ihr (pre ++ [a]) n x (by simp at hn; omega) (by rw [← cat_one]; exact hp)
    unfold l1New_F3 l1New_T3
    simp only [e1, e2, e4, cond_true, Int.toNat_natCast]
    rw [next_len pre a (by omega)]
    simp only [seedF, ih]
    simp only [e5]
    cases decide ((pre.length : Int) < 4000) <;> rfl
def newH (code : List Int) : Int := seedF code 0 (wk64 (64242 + (code.length : Int)))
def l1New_br (code : List Int) : Br := .ite (decide (code.length ≤ 281474976710656)) (.ret (.ptr 0 0) [.var [.sh (.int .u8) code, .int .i64 0, .int .i64 (newH code)]]) .fail
def l1New_s := l1New_sOf l1New_br
theorem l1New_ok : Sound Kx 69 l1New_s := by
  refine l1New_okOf (fun c => c.length + 1) fun c r h => ?_
  unfold l1New_br at h
  simp only [Br.val] at h
  split at h
  · rename_i hb
    simp only [decide_eq_true_eq] at hb
    rw [← h]
    exact l1New_loop _ c hb c [] (c.length + 1) _ (by omega) rfl
  · cases h

end
end Go.Proofs.YtgknmoadpgpdeaaGreatDoor.Ev

namespace Go.Proofs.YtgknmoadpgpdeaaGreatDoor.Ev
open Go Go.RowKit
set_option linter.unusedVariables false
set_option linter.unusedSimpArgs false
noncomputable section

def l1Below_C : SC := [⟨148, _, l1Byte_okQ⟩]
def l1Below_br (n : Int) (code : List Int) (i h : Int) : Br := (Br.ite (decide (n ≤ 0)) (Br.ret (AV.int .i64 0) ((Ob.var ((AV.sh (Ty.int .u8) code) :: ((AV.int .i64 i) :: ((AV.int .i64 h) :: [])))) :: [])) (Br.ite (decide (n ≤ 256)) (Br.ite (okC code i) (Br.ite (!(decide (n = 0))) (Br.ret (AV.int .i64 (Int.tmod (byteV code i h) n)) ((Ob.var ((AV.sh (Ty.int .u8) code) :: ((AV.int .i64 (byteI code i)) :: ((AV.int .i64 (mix h)) :: [])))) :: [])) Br.fail) Br.fail) (Br.ite (okC code i) (Br.ite (okC code (byteI code i)) (Br.ite (okC code (byteI code (byteI code i))) (Br.ite (okC code (byteI code (byteI code (byteI code i)))) (Br.ite (!(decide (n = 0))) (Br.ret (AV.int .i64 (Int.tmod (wk64 ((wk64 ((wk64 ((wk64 ((byteV code i h) * 16777216)) + (wk64 ((byteV code (byteI code i) (mix h)) * 65536)))) + (wk64 ((byteV code (byteI code (byteI code i)) (mix (mix h))) * 256)))) + (byteV code (byteI code (byteI code (byteI code i))) (mix (mix (mix h)))))) n)) ((Ob.var ((AV.sh (Ty.int .u8) code) :: ((AV.int .i64 (byteI code (byteI code (byteI code (byteI code i))))) :: ((AV.int .i64 (mix (mix (mix (mix h))))) :: [])))) :: [])) Br.fail) Br.fail) Br.fail) Br.fail) Br.fail)))
def l1Below_s : List AV → List Ob → Br
  | [.ptr 0 0, .int .i64 n], [.var [.sh (.int .u8) code, .int .i64 i, .int .i64 h]] => l1Below_br n code i h
  | _, _ => .fail
theorem l1Below_ok : Sound Kx 71 l1Below_s := sound_br (C := l1Below_C) (O := O0) Tryz.func71 (by kernel_rfl) fun args objs => by
  unfold l1Below_s; split
  · exact .inr (by kernel_rfl)
  · exact .inl rfl

end
end Go.Proofs.YtgknmoadpgpdeaaGreatDoor.Ev

namespace Go.Proofs.YtgknmoadpgpdeaaGreatDoor.Ev
open Go Go.RowKit
set_option linter.unusedVariables false
set_option linter.unusedSimpArgs false
noncomputable section

def belV (n : Int) (code : List Int) (i h : Int) : Int := bif decide (n ≤ 0) then 0 else bif decide (n ≤ 256) then Int.tmod (byteV code i h) n else
  Int.tmod (wk64 ((wk64 ((wk64 ((wk64 ((byteV code i h) * 16777216)) + (wk64 ((byteV code (byteI code i) (mix h)) * 65536)))) + (wk64 ((byteV code (byteI code (byteI code i)) (mix (mix h))) * 256)))) + (byteV code (byteI code (byteI code (byteI code i))) (mix (mix (mix h)))))) n
def belI (n : Int) (code : List Int) (i : Int) : Int := bif decide (n ≤ 0) then i else bif decide (n ≤ 256) then byteI code i else byteI code (byteI code (byteI code (byteI code i)))
def belH (n : Int) (h : Int) : Int := bif decide (n ≤ 0) then h else bif decide (n ≤ 256) then mix h else mix (mix (mix (mix h)))
theorem tmod_in {x n : Int} (h : 0 ≤ x) (hn : 0 < n) : 0 ≤ Int.tmod x n ∧ Int.tmod x n < n := by
  rw [Int.tmod_eq_emod_of_nonneg h]
  exact ⟨Int.emod_nonneg _ (by omega), Int.emod_lt_of_pos _ hn⟩
theorem belV_in (n : Int) (code : List Int) (i h : Int) : 0 ≤ belV n code i h ∧ (0 < n → belV n code i h < n) := by
  unfold belV
  by_cases h1 : n ≤ 0
  · simp only [h1, decide_true, cond_true]; omega
  · by_cases h2 : n ≤ 256
    · simp only [h1, h2, decide_true, decide_false, cond_true, cond_false]
      have := tmod_in (byteV_in code i h).1 (by omega : 0 < n)
      exact ⟨this.1, fun _ => this.2⟩
    · simp only [h1, h2, decide_false, cond_false]
      have b1 := byteV_in code i h
      have b2 := byteV_in code (byteI code i) (mix h)
      have b3 := byteV_in code (byteI code (byteI code i)) (mix (mix h))
      have b4 := byteV_in code (byteI code (byteI code (byteI code i))) (mix (mix (mix h)))
      generalize byteV code i h = x1 at *
      generalize byteV code (byteI code i) (mix h) = x2 at *
      generalize byteV code (byteI code (byteI code i)) (mix (mix h)) = x3 at *
      generalize byteV code (byteI code (byteI code (byteI code i))) (mix (mix (mix h))) = x4 at *
      rw [w64 (n := x1 * 16777216) (by omega) (by omega), w64 (n := x2 * 65536) (by omega) (by omega), w64 (n := x3 * 256) (by omega) (by omega), w64 (n := x1 * 16777216 + x2 * 65536) (by omega) (by omega),
        w64 (n := x1 * 16777216 + x2 * 65536 + x3 * 256) (by omega) (by omega), w64 (by omega) (by omega)]
      have := tmod_in (x := x1 * 16777216 + x2 * 65536 + x3 * 256 + x4) (by omega) (by omega : 0 < n)
      exact ⟨this.1, fun _ => this.2⟩
theorem okC_bel {n : Int} {code : List Int} {i : Int} (h : okC code i = true) : okC code (belI n code i) = true := by
  unfold belI
  cases decide (n ≤ 0)
  · cases decide (n ≤ 256)
    · exact okC_next (okC_next (okC_next (okC_next h)))
    · exact okC_next h
  · exact h
theorem l1Below_val (n : Int) (code : List Int) (i h : Int) (hc : okC code i = true) : (l1Below_br n code i h).val = some (.int .i64 (belV n code i h), curO code (belI n code i) (belH n h)) := by
  unfold l1Below_br belV belI belH
  by_cases h1 : n ≤ 0
  · simp only [h1, decide_true, cond_true, Br.val]; rfl
  · have h3 : ¬ n = 0 := by omega
    have c1 := okC_next hc
    have c2 := okC_next c1
    have c3 := okC_next c2
    by_cases h2 : n ≤ 256
    · simp only [h1, h2, h3, hc, decide_true, decide_false, cond_true, cond_false, Br.val, Bool.not_false]; rfl
    · simp only [h1, h2, h3, hc, c1, c2, c3, decide_true, decide_false, cond_true, cond_false, Br.val, Bool.not_false]; rfl
def belowQ_s : List AV → List Ob → Br
  | [.ptr 0 0, .int .i64 n], [.var [.sh (.int .u8) code, .int .i64 i, .int .i64 h]] => .ite (okC code i) (.ret (.int .i64 (belV n code i h)) [.var [.sh (.int .u8) code, .int .i64 (belI n code i), .int .i64 (belH n h)]]) .fail
  | _, _ => .fail
theorem l1Below_okQ : Sound Kx 71 belowQ_s := l1Below_ok.of fun args objs r h => by
  unfold belowQ_s at h
  split at h
  · exact (l1Below_val _ _ _ _ (ite_some h).1).trans (ite_some h).2
  · cases h

end
end Go.Proofs.YtgknmoadpgpdeaaGreatDoor.Ev

namespace Go.Proofs.YtgknmoadpgpdeaaGreatDoor.Ev
open Go Go.RowKit
set_option linter.unusedVariables false
set_option linter.unusedSimpArgs false
noncomputable section

def l1Once_C : SC := [⟨71, _, l1Below_okQ⟩]
def l1Once_br (n : Int) (code : List Int) (i h : Int) : Br := (Br.ite (okC code i) (Br.ret (AV.bool (decide ((belV n code i h) = 0))) ((Ob.var ((AV.sh (Ty.int .u8) code) :: ((AV.int .i64 (belI n code i)) :: ((AV.int .i64 (belH n h)) :: [])))) :: [])) Br.fail)
def l1Once_s : List AV → List Ob → Br
  | [.ptr 0 0, .int .i64 n], [.var [.sh (.int .u8) code, .int .i64 i, .int .i64 h]] => l1Once_br n code i h
  | _, _ => .fail
theorem l1Once_ok : Sound Kx 98 l1Once_s := sound_br (C := l1Once_C) (O := O0) Tryz.func98 (by kernel_rfl) fun args objs => by
  unfold l1Once_s; split
  · exact .inr (by kernel_rfl)
  · exact .inl rfl

def l1PickT_C : SC := [⟨71, _, l1Below_okQ⟩]
def l1PickT_br (l : List Bytes) (code : List Int) (i h : Int) : Br := (Br.ite (okC code i) (Br.ite (decide (0 ≤ (belV (l.length : Int) code i h))) (Br.ite (decide ((belV (l.length : Int) code i h) < (l.length : Int))) (Br.ret (AV.str (List.getD l (Int.toNat (belV (l.length : Int) code i h)) ([] : Bytes))) ((Ob.var ((AV.sh (Ty.int .u8) code) :: ((AV.int .i64 (belI (l.length : Int) code i)) :: ((AV.int .i64 (belH (l.length : Int) h)) :: [])))) :: [])) Br.fail) Br.fail) Br.fail)
def l1PickT_s : List AV → List Ob → Br
  | [.ptr 0 0, .sh .str l], [.var [.sh (.int .u8) code, .int .i64 i, .int .i64 h]] => l1PickT_br l code i h
  | _, _ => .fail
theorem l1PickT_ok : Sound Kx 146 l1PickT_s := sound_br (C := l1PickT_C) (O := O0) Tryz.func146 (by kernel_rfl) fun args objs => by
  unfold l1PickT_s; split
  · exact .inr (by kernel_rfl)
  · exact .inl rfl

def l1of_O : Opt := { live := [(3, [0, 1, 2, 7, 8])], outs := [(3, [6, 7])] }
def l1of_C : SC := [⟨71, _, l1Below_okQ⟩]
def l1of_T3 (v3x0 : Int) (v3x1 : Bytes) (v3x2 : Int) (v3x3 : (List Int)) (v3x4 v3x5 : Int) (v3x6 : (List Int)) (kR3 : Int → Bytes → Int → (List Int) → Int → Int → (List Int) → Option Rs) (k3e0 : (List Int) → Int → Int → (List Int) → Option Rs) : Option Rs :=
  (bif (decide (v3x2 < v3x0)) then (bif (okC v3x3 v3x4) then (bif (decide (0 ≤ (belV (v3x1.length : Int) v3x3 v3x4 v3x5))) then (bif (decide ((belV (v3x1.length : Int) v3x3 v3x4 v3x5) < (v3x1.length : Int))) then (bif (decide (((v3x6.length + (List.length (List.set (List.replicate 1 0) 0 (strAt v3x1 (belV (v3x1.length : Int) v3x3 v3x4 v3x5))))) * 1) ≤ 140737488355328)) then (kR3 v3x0 v3x1 (wk64 (v3x2 + 1)) v3x3 (belI (v3x1.length : Int) v3x3 v3x4) (belH (v3x1.length : Int) v3x5) (v3x6 ++ (List.set (List.replicate 1 0) 0 (strAt v3x1 (belV (v3x1.length : Int) v3x3 v3x4 v3x5))))) else (none)) else (none)) else (none)) else (none)) else (k3e0 v3x3 v3x4 v3x5 v3x6))
def l1of_F3 : Nat → Int → Bytes → Int → (List Int) → Int → Int → (List Int) → ((List Int) → Int → Int → (List Int) → Option Rs) → Option Rs
  | 0, _, _, _, _, _, _, _, _ => none
  | n + 1, v3x0, v3x1, v3x2, v3x3, v3x4, v3x5, v3x6, k3e0 => l1of_T3 v3x0 v3x1 v3x2 v3x3 v3x4 v3x5 v3x6 (fun v3x0 v3x1 v3x2 v3x3 v3x4 v3x5 v3x6 => l1of_F3 n v3x0 v3x1 v3x2 v3x3 v3x4 v3x5 v3x6 k3e0) k3e0
abbrev l1of_p3 : SP := ⟨25, [0, 1, 2, 7, 8], [(.v (.ptr 0 0)), (.v (.i .i64)), (.v .s), (.v (.ref 512 0)), (.v (.i .i64))], [(0, .var [(.sh (Ty.int .u8)), (.i .i64), (.i .i64)]), (512, .arr (Ty.int .u8) 0 false)]⟩
noncomputable def l1of_b3 : Code := codeAt (codeOf Tryz.f72) [1, 1, 0, 1, 0, 0]
def l1of_E3 (f : ((List Int) → Int → Int → (List Int) → Option Rs) → Option Rs) (k : KT) : Option Rs := f (fun x3x0x0 x3x0x1 x3x0x2 x3x0x3 => k (Ex.exit 0) ((St.mk (slots 0 25 [(7, (AV.ref 512 0))]) ((0, (Ob.var ((AV.sh (Ty.int .u8) x3x0x0) :: ((AV.int .i64 x3x0x1) :: ((AV.int .i64 x3x0x2) :: []))))) :: ((512, (Ob.arr (Ty.int .u8) 0 false x3x0x3)) :: ([] : (List (Nat × (Ob)))))))))
def l1of_G3 (n : Nat) (d : l1of_p3.D) : KT → Option Rs := l1of_E3 (l1of_F3 n d.1.2.1 d.1.2.2.1 d.1.2.2.2.2.1 d.2.1.1 d.2.1.2.1 d.2.1.2.2.1 d.2.2.1)
def l1of_L (N : Nat) : Lam := lamOf [⟨3, l1of_p3, l1of_G3 N⟩]
theorem l1of_ok3 (N : Nat) : OkL Kx l1of_C.s l1of_O 1 N (l1of_L N) l1of_b3 := okL l1of_p3 (l1of_G3) (fun d kR => l1of_E3 (l1of_T3 d.1.2.1 d.1.2.2.1 d.1.2.2.2.2.1 d.2.1.1 d.2.1.2.1 d.2.1.2.2.1 d.2.2.1 (fun v3x0 v3x1 v3x2 v3x3 v3x4 v3x5 v3x6 => kR (((), v3x0, v3x1, (), v3x2, ()), ((v3x3, v3x4, v3x5, ()), v3x6, ()))))) (fun _ _ => by kernel_rfl) (fun _ _ _ => by kernel_rfl) (fun _ _ => by kernel_rfl) (fun _ _ _ _ => by kernel_rfl) (okEach (l' := []) (by kernel_rfl) trivial)
def l1of_run (N : Nat) (n : Int) (set : List UInt8) (code : List Int) (i h : Int) : Option Rs := (l1of_F3 N n set 0 code i h ([] : (List Int)) (fun x3x0x0 => (fun x3x0x1 => (fun x3x0x2 => (fun x3x0x3 => (some ((AV.str (ofBytes x3x0x3)), ((Ob.var ((AV.sh (Ty.int .u8) x3x0x0) :: ((AV.int .i64 x3x0x1) :: ((AV.int .i64 x3x0x2) :: [])))) :: []))))))))
def l1of_sOf (φ : Int → Bytes → (List Int) → Int → Int → Br) : List AV → List Ob → Br
  | [.ptr 0 0, .int .i64 n, .str set], [.var [.sh (.int .u8) code, .int .i64 i, .int .i64 h]] => φ n set code i h
  | _, _ => .fail
theorem l1of_okOf {φ : Int → Bytes → (List Int) → Int → Int → Br} (fu : Int → Bytes → (List Int) → Int → Int → Nat) (hv : ∀ n set code i h res_, (φ n set code i h).val = some res_ → l1of_run (fu n set code i h) n set code i h = some res_) : Sound Kx 72 (l1of_sOf φ) := sound_lp (C := l1of_C) (O := l1of_O) Tryz.func72 (by kernel_rfl) fun args objs => by
  unfold l1of_sOf; split
  · rename_i n set code i h; exact .inr fun _ hyp_ => run_lp (Λ := l1of_L (fu n set code i h)) (by kernel_rfl) (okEach (l' := [l1of_b3]) (by kernel_rfl) ⟨l1of_ok3 _, trivial⟩) (by kernel_rfl) (hv n set code i h _ hyp_)
  · exact .inl rfl

end
end Go.Proofs.YtgknmoadpgpdeaaGreatDoor.Ev

namespace Go.Proofs.YtgknmoadpgpdeaaGreatDoor.Ev
open Go Go.RowKit
set_option linter.unusedVariables false
set_option linter.unusedSimpArgs false
noncomputable section

def onceQ_s : List AV → List Ob → Br
  | [.ptr 0 0, .int .i64 n], [.var [.sh (.int .u8) code, .int .i64 i, .int .i64 h]] => .ite (okC code i) (.ret (.bool (decide (belV n code i h = 0))) [.var [.sh (.int .u8) code, .int .i64 (belI n code i), .int .i64 (belH n h)]]) .fail
  | _, _ => .fail
theorem l1Once_okQ : Sound Kx 98 onceQ_s := l1Once_ok.of fun args objs r h => by
  unfold onceQ_s at h
  split at h
  · rw [← h]; rfl
  · cases h

def pickT_s : List AV → List Ob → Br
  | [.ptr 0 0, .sh .str l], [.var [.sh (.int .u8) code, .int .i64 i, .int .i64 h]] => .ite (okC code i && decide (0 < l.length)) (.ret (.str (l.getD (belV (l.length : Int) code i h).toNat [])) [.var [.sh (.int .u8) code, .int .i64 (belI (l.length : Int) code i), .int .i64 (belH (l.length : Int) h)]]) .fail
  | _, _ => .fail
theorem l1PickT_okQ : Sound Kx 146 pickT_s := l1PickT_ok.of fun args objs r h => by
  unfold pickT_s at h
  split at h
  · rename_i l code i h'
    obtain ⟨h1, h2⟩ := ite_some h
    simp only [Bool.and_eq_true, decide_eq_true_eq] at h1
    rw [← h2]
    show (l1PickT_br l code i h').val = _
    have hb := belV_in (l.length : Int) code i h'
    have e1 : decide ((0 : Int) ≤ belV (l.length : Int) code i h') = true := by rw [decide_eq_true_eq]; exact hb.1
    have e2 : decide (belV (l.length : Int) code i h' < (l.length : Int)) = true := by rw [decide_eq_true_eq]; exact hb.2 (by omega)
    unfold l1PickT_br
    simp only [h1.1, e1, e2, Br.val]
  · cases h

def ofB : Nat → List UInt8 → List Int → Int → Int → List Int × Int × Int
  | 0, _, _, i, h => ([], i, h)
  | k + 1, set, code, i, h =>
    (strAt set (belV (set.length : Int) code i h) :: (ofB k set code (belI (set.length : Int) code i) (belH (set.length : Int) h)).1, (ofB k set code (belI (set.length : Int) code i) (belH (set.length : Int) h)).2)
theorem ofB_len : ∀ (k : Nat) (set : List UInt8) (code : List Int) (i h : Int), (ofB k set code i h).1.length = k
  | 0, _, _, _, _ => rfl
  | k + 1, set, code, i, h => by simp only [ofB, List.length_cons, ofB_len k]
theorem okC_ofB : ∀ (k : Nat) (set : List UInt8) (code : List Int) (i h : Int), okC code i = true → okC code (ofB k set code i h).2.1 = true
  | 0, _, _, _, _, hc => hc
  | k + 1, set, code, i, h, hc => okC_ofB k set code _ _ (okC_bel hc)
theorem l1of_loop (n : Int) (set : List UInt8) (code : List Int) (hs : 0 < set.length) (K : List Int → Int → Int → List Int → Option Rs) : ∀ (k N : Nat) (j i h : Int) (acc : List Int), k < N → 0 ≤ j → j + k = n → n ≤ 1000000 → acc.length ≤ 1000000 → acc.length + k ≤ 1000000 → okC code i = true →
    l1of_F3 N n set j code i h acc K = K code (ofB k set code i h).2.1 (ofB k set code i h).2.2 (acc ++ (ofB k set code i h).1)
  | 0, N, j, i, h, acc, hN, h0, hj, hn, ha, hk, hc => by
    obtain ⟨N, rfl⟩ : ∃ m, N = m + 1 := ⟨N - 1, by omega⟩
    have e1 : decide (j < n) = false := by rw [decide_eq_false_iff_not]; omega
    unfold l1of_F3 l1of_T3
    simp only [e1, cond_false, ofB, List.append_nil]
  | k + 1, N, j, i, h, acc, hN, h0, hj, hn, ha, hk, hc => by
    obtain ⟨N, rfl⟩ : ∃ m, N = m + 1 := ⟨N - 1, by omega⟩
    have hb := belV_in (set.length : Int) code i h
    have e1 : decide (j < n) = true := by rw [decide_eq_true_eq]; omega
    have e2 : decide ((0 : Int) ≤ belV (set.length : Int) code i h) = true := by rw [decide_eq_true_eq]; exact hb.1
    have e3 : decide (belV (set.length : Int) code i h < (set.length : Int)) = true := by rw [decide_eq_true_eq]; exact hb.2 (by omega)
    have e4 : List.set (List.replicate 1 (0 : Int)) 0 (strAt set (belV (set.length : Int) code i h)) = [strAt set (belV (set.length : Int) code i h)] := rfl
    have e5 : ∀ x : Int, decide ((acc.length + [x].length) * 1 ≤ 140737488355328) = true := by intro x; rw [decide_eq_true_eq, List.length_singleton]; omega
    unfold l1of_F3 l1of_T3
    simp only [e1, e2, e3, e4, e5, hc, cond_true]
    rw [w64 (by omega) (by omega), l1of_loop n set code hs K k N (j + 1) _ _ _ (by omega) (by omega) (by omega) hn (by rw [List.length_append, List.length_singleton]; omega) (by rw [List.length_append, List.length_singleton]; omega) (okC_bel hc)]
    simp only [ofB, List.append_assoc, List.singleton_append]
def ofS (n : Int) (set : List UInt8) (code : List Int) (i h : Int) : List UInt8 := ofBytes (ofB n.toNat set code i h).1
theorem ofS_len (n : Int) (set : List UInt8) (code : List Int) (i h : Int) : (ofS n set code i h).length = n.toNat := by simp [ofS, ofBytes, ofB_len]
def ofI (n : Int) (set : List UInt8) (code : List Int) (i h : Int) : Int := (ofB n.toNat set code i h).2.1
def ofH (n : Int) (set : List UInt8) (code : List Int) (i h : Int) : Int := (ofB n.toNat set code i h).2.2
theorem okC_of {n : Int} {set : List UInt8} {code : List Int} {i h : Int} (hc : okC code i = true) : okC code (ofI n set code i h) = true := okC_ofB _ _ _ _ _ hc
def l1of_br (n : Int) (set : List UInt8) (code : List Int) (i h : Int) : Br := .ite (okC code i && decide (n ≤ 1000000) && decide (0 < set.length)) (.ret (.str (ofS n set code i h)) [.var [.sh (.int .u8) code, .int .i64 (ofI n set code i h), .int .i64 (ofH n set code i h)]]) .fail
def l1of_s := l1of_sOf l1of_br
theorem l1of_ok : Sound Kx 72 l1of_s := by
  refine l1of_okOf (fun n _ _ _ _ => n.toNat + 1) fun n set code i h r hv => ?_
  unfold l1of_br at hv
  obtain ⟨h1, h2⟩ := ite_some hv
  simp only [Bool.and_eq_true, decide_eq_true_eq] at h1
  rw [← h2]
  unfold l1of_run
  by_cases hn : 0 ≤ n
  · exact l1of_loop n set code h1.2 _ n.toNat (n.toNat + 1) 0 i h [] (by omega) (by omega) (by omega) h1.1.2 (by simp) (by simp; omega) h1.1.1
  · have e1 : decide ((0 : Int) < n) = false := by rw [decide_eq_false_iff_not]; omega
    have e2 : n.toNat = 0 := by omega
    rw [e2]
    unfold l1of_F3 l1of_T3
    simp only [e1, cond_false]
    unfold ofS ofI ofH
    rw [e2]
    rfl

def curN (code : List Int) (i h : Int) : Ob := .var [.sh (.int .u8) code, .int .i64 i, .int .i64 h]
def drQ {α β : Type} (un : List AV → Option β) (g : β → Bool) (ra : α → AV) (ro : α → List Ob) (D : β → List Int → Int → Int → α × Int × Int) : List AV → List Ob → Br
  | .ptr 0 0 :: l, [.var [.sh (.int .u8) code, .int .i64 i, .int .i64 h]] => (match un l with
    | some b => .ite (okC code i && g b) (.ret (ra (D b code i h).1) (.var [.sh (.int .u8) code, .int .i64 (D b code i h).2.1, .int .i64 (D b code i h).2.2] :: ro (D b code i h).1)) .fail
    | none => .fail)
  | _, _ => .fail
theorem dr_ex {α β : Type} (br : β → List Int → Int → Int → Br) (g : β → Bool) (ra : α → AV) (ro : α → List Ob) (d0 : α) (P : β → α → Prop)
    (h : ∀ b code i h, okC code i = true → g b = true → ∃ (v : α) (i' h' : Int), (br b code i h).val = some (ra v, curN code i' h' :: ro v) ∧ okC code i' = true ∧ P b v) :
    ∃ D : β → List Int → Int → Int → α × Int × Int, ∀ b code i h, okC code i = true → g b = true →
      (br b code i h).val = some (ra (D b code i h).1, curN code (D b code i h).2.1 (D b code i h).2.2 :: ro (D b code i h).1) ∧ okC code (D b code i h).2.1 = true ∧ P b (D b code i h).1 := by
  open Classical in
  refine ⟨fun b code i h' => if hc : okC code i = true ∧ g b = true then ((h b code i h' hc.1 hc.2).choose, (h b code i h' hc.1 hc.2).choose_spec.choose, (h b code i h' hc.1 hc.2).choose_spec.choose_spec.choose) else (d0, 0, 0), fun b code i h' hc hg => ?_⟩
  simp only [dif_pos (And.intro hc hg)]
  exact (h b code i h' hc hg).choose_spec.choose_spec.choose_spec
def unS : List AV → Option (List UInt8) | [.str s] => some s | _ => none
theorem dr_ok {α β : Type} {n : Nat} {s : List AV → List Ob → Br} (hs : Sound Kx n s) {un : List AV → Option β} {g : β → Bool} {ra : α → AV} {ro : α → List Ob} (br : β → List Int → Int → Int → Br) {D : β → List Int → Int → Int → α × Int × Int}
    (hu : ∀ l b code i h, un l = some b → s (.ptr 0 0 :: l) [curN code i h] = br b code i h)
    (hD : ∀ b code i h, okC code i = true → g b = true → (br b code i h).val = some (ra (D b code i h).1, curN code (D b code i h).2.1 (D b code i h).2.2 :: ro (D b code i h).1)) :
    Sound Kx n (drQ un g ra ro D) := hs.of fun args objs r hv => by
  unfold drQ at hv
  split at hv
  · rename_i l code i h
    split at hv
    · rename_i b hb
      obtain ⟨h1, h2⟩ := ite_some hv
      simp only [Bool.and_eq_true] at h1
      rw [← h2]
      show (s (.ptr 0 0 :: l) [curN code i h]).val = _
      rw [hu l b code i h hb, hD b code i h h1.1 h1.2]
      rfl
    · cases hv
  · cases hv
theorem unS_eq {l : List AV} {b : List UInt8} (h : unS l = some b) : l = [.str b] := by unfold unS at h; split at h <;> cases h; rfl
def Dra {α : Type} (code : List Int) (ra : α → AV) (ro : α → List Ob) (P : α → Prop) (b : Br) : Prop := ∃ (v : α) (i' h' : Int), b.val = some (ra v, curN code i' h' :: ro v) ∧ okC code i' = true ∧ P v
theorem dra_ite {α : Type} {code : List Int} {ra : α → AV} {ro : α → List Ob} {P : α → Prop} {c : Bool} {x y : Br} (h1 : c = true → Dra code ra ro P x) (h2 : c = false → Dra code ra ro P y) : Dra code ra ro P (.ite c x y) := by
  cases c
  · exact h2 rfl
  · exact h1 rfl
theorem dra_chk {α : Type} {code : List Int} {ra : α → AV} {ro : α → List Ob} {P : α → Prop} {c : Bool} {x : Br} (h0 : c = true) (h1 : Dra code ra ro P x) : Dra code ra ro P (.ite c x .fail) := by
  subst h0; exact h1
theorem dra_leaf {α : Type} {code : List Int} {ra : α → AV} {ro : α → List Ob} {P : α → Prop} {r : AV} {os : List Ob} (v : α) (i' h' : Int) (e1 : r = ra v) (e2 : os = curN code i' h' :: ro v) (hc : okC code i' = true) (hP : P v) : Dra code ra ro P (.ret r os) := ⟨v, i', h', by rw [e1, e2]; rfl, hc, hP⟩
end
end Go.Proofs.YtgknmoadpgpdeaaGreatDoor.Ev

namespace Go.Proofs.YtgknmoadpgpdeaaGreatDoor.Ev
open Go Go.RowKit
set_option linter.unusedVariables false
set_option linter.unusedSimpArgs false

theorem fr_below {w w' : World} {N : Nat → Nat → Prop} (h : Below w.heap.size w w') : Fr w N w' where
  os := h.os
  tape := h.tape
  output := h.output
  size := h.size
  blk := fun b hb _ => h.block b hb
  cel := fun b o hb _ => h.cell (p := ⟨b, o, none⟩) hb
  frz := fun b o hb _ => h.frozen (p := ⟨b, o, none⟩) hb
  shp := fun b hb => by simp only [World.shape?, h.block b hb]

theorem tr_below {w w' : World} {M : Nat → Nat → Prop} (h : Below w.heap.size w w') : Tr w M w' M := by
  intro b o v hm hv
  exact ⟨hm, (h.cell (p := ⟨b, o, none⟩) (World.block_lt_of_cell? w ⟨b, o, none⟩ hv)).trans hv⟩

theorem relO_below {K : Ctx} {L : Lk} {w w' : World} (h : RelO K w ⟨MutO L, L.F⟩ L w) (hb : Below w.heap.size w w') (hg : K.G w → K.G w') : RelO K w ⟨MutO L, L.F⟩ L w' where
  fr := fr_below hb
  ok := fun i p hp => okO_tr (Turn.refl L) (tr_below hb) (fun b o hr => by
    have hlt := inR_lt (h.ok i p hp) hr
    exact ⟨hb.cell (p := ⟨b, o, none⟩) hlt, hb.frozen (p := ⟨b, o, none⟩) hlt⟩) (fun b s h => by simpa only [World.shape?, hb.block b (shape_lt h)] using h) (fun _ b o hr => hb.block b (inR_lt (h.ok i p hp) hr)) (h.ok i p hp)
  sep := h.sep
  own := h.own
  ff := h.ff
  fs := h.fs
  fo := h.fo
  g := hg h.g
  gs := Nat.le_trans h.gs hb.size
  gb := h.gb

theorem sound_calls {fn : Nat} {f : Func} {c : Code} (hf : Kx.P.funcs[fn]? = some f) (hname : (f.name == "runtime.NumGoroutine") = false) (hb : f.body = some c) {φ : List AV → List Ob → Br}
    (h : ∀ args objs res objs', (φ args objs).val = some (res, objs') → ∀ (w : World) (L : Lk) (vs : List Value), RelO Kx w ⟨MutO L, L.F⟩ L w → rels L w (Mut L) args vs →
      objs' = objs ∧ Calls Kx.P fn vs.toArray w fun e w' => ∃ v, e = .returned v ∧ Below w.heap.size w w' ∧ rel L w' (Mut L) res v) : Sound Kx fn φ := by
  intro args objs res objs' hv w L vs hR ho hr
  obtain ⟨rfl, hc⟩ := h _ _ _ _ hv w L vs hR hr
  refine .inl ⟨Calls.mono hc ?_, f, c, hf, hname, hb⟩
  rintro e w' ⟨v, rfl, hb', hv'⟩
  exact ⟨L, relO_below hR hb' (fun hg => KOk.gst _ _ (fun _ _ => False) (fr_below hb') hR.gs (fun _ _ _ h => h) hg), ho, Kept.refl _ _, hv'⟩

end Go.Proofs.YtgknmoadpgpdeaaGreatDoor.Ev

namespace Go.Proofs.YtgknmoadpgpdeaaGreatDoor.Ev
open Go Go.RowKit
set_option linter.unusedVariables false
set_option linter.unusedSimpArgs false
noncomputable section

def iwithin_br (n lo hi : Int) : Br := (Br.ite (decide (lo ≤ n)) (Br.ret (AV.bool (decide (n ≤ hi))) []) (Br.ret (AV.bool false) []))
def iwithin_s : List AV → List Ob → Br
  | [.int .i64 n, .int .i64 lo, .int .i64 hi], [] => iwithin_br n lo hi
  | _, _ => .fail
theorem iwithin_ok : Sound Kx 201 iwithin_s := sound_br (C := []) (O := O0) Tryz.func201 (by kernel_rfl) fun args objs => by
  unfold iwithin_s; split
  · exact .inr (by kernel_rfl)
  · exact .inl rfl

end
end Go.Proofs.YtgknmoadpgpdeaaGreatDoor.Ev

namespace Go.Proofs.YtgknmoadpgpdeaaGreatDoor.Ev
open Go Go.RowKit
set_option linter.unusedVariables false
set_option linter.unusedSimpArgs false

end Go.Proofs.YtgknmoadpgpdeaaGreatDoor.Ev
