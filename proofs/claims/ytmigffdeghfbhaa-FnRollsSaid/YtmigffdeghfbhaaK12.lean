/- The texts EvX, EvC, Lp, Ext0, Lw, StoreA, StoreB, StoreC, StoreD, StoreE, StoreF, StoreG, StoreH, DrawA, DrawB, DrawC, DrawD, DrawE, DrawF, DrawG, DrawH, DrawI, DrawJ, DrawK, DrawL, one behind the other. -/
import Derived.Test.YtmigffdeghfbhaaK3
import Derived.Test.YtmigffdeghfbhaaK11
import Derived.Lib.ItoaMem
import Derived.Below
namespace Go.Proofs.Ytmigffdeghfbhaa.Ev
open Go Go.RowKit
noncomputable def nextN (s : String) : Nat := ((Try.prog.globalNamed s).map (· + 1)).getD 0
/-- The blocks up to the variables that are spoken of. -/
noncomputable def gN : Nat := max (max (nextN "internal/strconv.uint64pow10") (nextN "internal/bytealg.MaxLen")) (max (nextN "strconv.ErrSyntax") (nextN "strconv.ErrRange"))
def Tab10 (w : World) : Prop := Lib.TabIs Try.prog w "internal/strconv.uint64pow10" .u64 Lib.pow10Tab
def MaxInt (w : World) : Prop := ∀ g, Try.prog.globalNamed "internal/bytealg.MaxLen" = some g → ∃ m, w.cell? ⟨g, 0, none⟩ = some (.int .i64 m)
def ErrAt (n : String) (w : World) : Prop := ∀ g, Try.prog.globalNamed n = some g → ∃ tp p, w.cell? ⟨g, 0, none⟩ = some (.iface tp p)
def ErrI (w : World) : Prop := ErrAt "strconv.ErrSyntax" w ∧ ErrAt "strconv.ErrRange" w
/-- What is known of the program's own variables. -/
def Laid (w : World) : Prop := (Try.prog.globalNamed "internal/strconv.uint64pow10" = none ∨ Tab10 w) ∧ MaxInt w ∧ ErrI w
theorem next_lt {s : String} {g : Nat} (h : Try.prog.globalNamed s = some g) : g < nextN s := by
  unfold nextN; rw [h]; exact Nat.lt_succ_self g
theorem named_lt {g : Nat} (h : Try.prog.globalNamed "internal/strconv.uint64pow10" = some g) : g < gN := Nat.lt_of_lt_of_le (next_lt h) (Nat.le_trans (Nat.le_max_left ..) (Nat.le_max_left ..))
theorem named_lt2 {g : Nat} (h : Try.prog.globalNamed "internal/bytealg.MaxLen" = some g) : g < gN := Nat.lt_of_lt_of_le (next_lt h) (Nat.le_trans (Nat.le_max_right ..) (Nat.le_max_left ..))
theorem named_lt3 {g : Nat} (h : Try.prog.globalNamed "strconv.ErrSyntax" = some g) : g < gN := Nat.lt_of_lt_of_le (next_lt h) (Nat.le_trans (Nat.le_max_left ..) (Nat.le_max_right ..))
theorem named_lt4 {g : Nat} (h : Try.prog.globalNamed "strconv.ErrRange" = some g) : g < gN := Nat.lt_of_lt_of_le (next_lt h) (Nat.le_trans (Nat.le_max_right ..) (Nat.le_max_right ..))
theorem tab_le {w : World} (h : Try.prog.globalNamed "internal/strconv.uint64pow10" = none ∨ Tab10 w) : nextN "internal/strconv.uint64pow10" ≤ w.heap.size := by
  unfold nextN
  cases hg : Try.prog.globalNamed "internal/strconv.uint64pow10" with
  | none => exact Nat.zero_le _
  | some g =>
    rcases h with h | h
    · rw [hg] at h; cases h
    unfold Tab10 Lib.TabIs World.var? at h
    rw [hg] at h
    simp only [Option.bind_some] at h
    show g + 1 ≤ w.heap.size
    rcases Nat.lt_or_ge g w.heap.size with h' | h'
    · exact h'
    · rw [Array.getElem?_eq_none h'] at h; cases h
theorem max_le {w : World} (h : MaxInt w) : nextN "internal/bytealg.MaxLen" ≤ w.heap.size := by
  unfold nextN
  cases hg : Try.prog.globalNamed "internal/bytealg.MaxLen" with
  | none => exact Nat.zero_le _
  | some g =>
    obtain ⟨m, hm⟩ := h g hg
    exact World.block_lt_of_cell? w ⟨g, 0, none⟩ hm
theorem err_le {n : String} {w : World} (h : ErrAt n w) : nextN n ≤ w.heap.size := by
  unfold nextN
  cases hg : Try.prog.globalNamed n with
  | none => exact Nat.zero_le _
  | some g =>
    obtain ⟨m, p, hm⟩ := h g hg
    exact World.block_lt_of_cell? w ⟨g, 0, none⟩ hm
theorem laid_le {w : World} (h : Laid w) : gN ≤ w.heap.size := Nat.max_le.2 ⟨Nat.max_le.2 ⟨tab_le h.1, max_le h.2.1⟩, Nat.max_le.2 ⟨err_le h.2.2.1, err_le h.2.2.2⟩⟩
theorem err_stays {n : String} {w w' : World} {N : Nat → Nat → Prop} (hf : Fr w N w') (hs : gN ≤ w.heap.size) (hn : ∀ b o, b < gN → ¬ N b o) (hl : ∀ g, Try.prog.globalNamed n = some g → g < gN) (h : ErrAt n w) : ErrAt n w' := fun g hg => by
  obtain ⟨m, p, hm⟩ := h g hg
  have hlt := hl g hg
  exact ⟨m, p, (hf.cel g 0 (Nat.lt_of_lt_of_le hlt hs) (hn g 0 hlt)).trans hm⟩
theorem laid_stays (w w' : World) (N : Nat → Nat → Prop) (hf : Fr w N w') (hs : gN ≤ w.heap.size) (hn : ∀ b o, b < gN → ¬ N b o) (h : Laid w) : Laid w' := by
  refine ⟨?_, fun g hg => ?_, err_stays hf hs hn (fun g hg => named_lt3 hg) h.2.2.1, err_stays hf hs hn (fun g hg => named_lt4 hg) h.2.2.2⟩
  · rcases h.1 with h | h
    · exact .inl h
    · right
      unfold Tab10 Lib.TabIs World.var? at *
      cases hg : Try.prog.globalNamed "internal/strconv.uint64pow10" with
      | none => rw [hg] at h; cases h
      | some g =>
        have hlt := named_lt hg
        rw [hg] at h
        simp only [Option.bind_some] at h ⊢
        rw [hf.blk g (Nat.lt_of_lt_of_le hlt hs) fun o => hn g o hlt]
        exact h
  · obtain ⟨m, hm⟩ := h.2.1 g hg
    have hlt := named_lt2 hg
    exact ⟨m, (hf.cel g 0 (Nat.lt_of_lt_of_le hlt hs) (hn g 0 hlt)).trans hm⟩
noncomputable def Kx : Ctx := ctx Try.prog tab Laid gN
theorem tabOk1 : (tab.map fun p => lookT Try.prog p.1) = tab.map fun p => want p.2 := by kernel_rfl
theorem tabOk2 : (tab.all fun p => selfOk tab p.2) = true := by kernel_rfl
theorem tabOk3 : Try.prog.follows .mixedOrders = true := by kernel_rfl
theorem tabOk4 : (tab.all fun p => !p.2.flat || flatT Try.prog p.1 p.2.cts) = true := by kernel_rfl
theorem tabOk5 : (tab.all fun p => bzSelf p.1 p.2.cts) = true := by kernel_rfl
theorem tabOk6 : (tab.all fun p => u8Self p.2) = true := by kernel_rfl
theorem KOk : Kx.Ok := ctx_ok tabOk1 tabOk2 tabOk3 tabOk4 tabOk5 tabOk6 laid_stays
end Go.Proofs.Ytmigffdeghfbhaa.Ev

namespace Go.Proofs.Ytmigffdeghfbhaa.Ev
open Go Go.RowKit
noncomputable section

/-- A spec that says as much as another. -/
theorem Sound.of {K : Ctx} {fn : Nat} {φ ψ : List AV → List Ob → Br} (h : Sound K fn φ) (he : ∀ args objs r, (ψ args objs).val = some r → (φ args objs).val = some r) : Sound K fn ψ :=
  fun args objs res os hv => h args objs res os (he args objs _ hv)

def noS : Spec := fun _ _ _ => .fail
theorem sound_no (K : Ctx) (fn : Nat) : Sound K fn (fun _ _ => .fail) := fun args objs res os h => by cases h

/-- One more function's spec. -/
def add (C : Spec) (k : Nat) (φ : List AV → List Ob → Br) : Spec := fun fn => if fn = k then φ else C fn
theorem sound_add {K : Ctx} {C : Spec} (hC : ∀ fn, Sound K fn (C fn)) {k : Nat} {φ : List AV → List Ob → Br} (h : Sound K k φ) : ∀ fn, Sound K fn (add C k φ fn) := by
  intro fn
  unfold add
  split
  · rename_i e; subst e; exact h
  · exact hC fn

end
end Go.Proofs.Ytmigffdeghfbhaa.Ev

namespace Go.Proofs.Ytmigffdeghfbhaa.Ev
open Go Go.RowKit
set_option linter.unusedVariables false
set_option linter.unusedSimpArgs false

abbrev Rs := AV × List Ob
abbrev Bytes := List UInt8

theorem w64 {n : Int} (h1 : -9223372036854775808 ≤ n) (h2 : n ≤ 9223372036854775807) : wk64 n = n := by rw [wk64_eq]; unfold wrap64; omega
theorem ite_some {b : Bool} {x y : Br} {r : Rs} (h : (Br.ite b x y).val = some r) (hy : y = .fail := by rfl) : b = true ∧ x.val = some r := by
  subst hy; cases b
  · cases h
  · exact ⟨rfl, h⟩
theorem val_t {b : Bool} {x y : Br} (h : b = true) : (Br.ite b x y).val = x.val := by rw [h]; rfl
theorem val_f {b : Bool} {x y : Br} (h : b = false) : (Br.ite b x y).val = y.val := by rw [h]; rfl
/-- A byte as a number. -/
def by8 (c : UInt8) : Int := (c.toNat : Int)
/-- Where a walk over a list stands: what is left. -/
def At {α : Type} (l : List α) (i : Int) (r : List α) : Prop := ∃ p, l = p ++ r ∧ i = (p.length : Int)

namespace At
variable {α : Type} {l r : List α} {i : Int} {a : α}
theorem start (l : List α) : At l 0 l := ⟨[], rfl, rfl⟩
theorem nn (h : At l i r) : 0 ≤ i := by obtain ⟨p, _, rfl⟩ := h; omega
theorem le (h : At l i r) : i + r.length = l.length := by obtain ⟨p, rfl, rfl⟩ := h; simp
theorem lt (h : At l i (a :: r)) : i < l.length := by have := h.le; simp at this; omega
theorem get (h : At l i (a :: r)) (d : α) : l.getD i.toNat d = a := by
  obtain ⟨p, rfl, rfl⟩ := h; simp [List.getD_eq_getElem?_getD]
theorem next (h : At l i (a :: r)) (hl : l.length ≤ 4611686018427387904) : wk64 (i + 1) = i + 1 := by
  have := h.nn; have := h.lt; exact w64 (by omega) (by omega)
theorem drop (h : At l i r) : l.drop i.toNat = r := by obtain ⟨p, rfl, rfl⟩ := h; simp
theorem take (h : At l i r) : l.take i.toNat ++ r = l := by obtain ⟨p, rfl, rfl⟩ := h; simp
end At

theorem At.str {s r : Bytes} {c : UInt8} {i : Int} (h : At s i (c :: r)) : strAt s i = by8 c := by
  unfold strAt by8; rw [h.get]

theorem getD_mid {α : Type} (pre : List α) (a : α) (r : List α) (d : α) : (pre ++ a :: r).getD pre.length d = a := by simp [List.getD_eq_getElem?_getD]
theorem set_mid {α : Type} (pre : List α) (a b : α) (r : List α) : (pre ++ a :: r).set pre.length b = pre ++ b :: r := by simp
theorem cat_one {α : Type} (pre : List α) (a : α) (r : List α) : pre ++ a :: r = (pre ++ [a]) ++ r := by simp
theorem next_len {α : Type} (pre : List α) (a : α) (h : pre.length < 4611686018427387904) : wk64 ((pre.length : Int) + 1) = ((pre ++ [a]).length : Int) := by
  rw [w64 (by omega) (by omega)]; simp
end Go.Proofs.Ytmigffdeghfbhaa.Ev

namespace Go.Proofs.Ytmigffdeghfbhaa.Ev
open Go Go.RowKit
set_option linter.unusedVariables false
set_option linter.unusedSimpArgs false

theorem fr_below {w w' : World} {N : Nat → Nat → Prop} (h : Below w.heap.size w w') : Fr w N w' where
  os := h.os
  tape := h.tape
  output := h.output
  size := h.size
  blk := fun b hb _ => h.block b hb
  cel := fun b o hb _ => h.cell (p := ⟨b, o, none⟩) hb
  frz := fun b o hb _ => h.frozen (p := ⟨b, o, none⟩) hb
  shp := fun b hb => by simp only [World.shape?, h.block b hb]

theorem tr_below {w w' : World} {M : Nat → Nat → Prop} (h : Below w.heap.size w w') : Tr w M w' M := by
  intro b o v hm hv
  exact ⟨hm, (h.cell (p := ⟨b, o, none⟩) (World.block_lt_of_cell? w ⟨b, o, none⟩ hv)).trans hv⟩

theorem relO_below {K : Ctx} {L : Lk} {w w' : World} (h : RelO K w ⟨MutO L, L.F⟩ L w) (hb : Below w.heap.size w w') (hg : K.G w → K.G w') : RelO K w ⟨MutO L, L.F⟩ L w' where
  fr := fr_below hb
  ok := fun i p hp => okO_tr (Turn.refl L) (tr_below hb) (fun b o hr => by
    have hlt := inR_lt (h.ok i p hp) hr
    exact ⟨hb.cell (p := ⟨b, o, none⟩) hlt, hb.frozen (p := ⟨b, o, none⟩) hlt⟩) (fun b s h => by simpa only [World.shape?, hb.block b (shape_lt h)] using h) (h.ok i p hp)
  sep := h.sep
  own := h.own
  ff := h.ff
  fs := h.fs
  fo := h.fo
  g := hg h.g
  gs := Nat.le_trans h.gs hb.size
  gb := h.gb

/-- A function whose calls hand back a plain value and leave all old memory alone. -/
theorem sound_calls {fn : Nat} {f : Func} {c : Code} (hf : Kx.P.funcs[fn]? = some f) (hname : (f.name == "runtime.NumGoroutine") = false) (hb : f.body = some c) {φ : List AV → List Ob → Br}
    (h : ∀ args objs res objs', (φ args objs).val = some (res, objs') → ∀ (w : World) (L : Lk) (vs : List Value), RelO Kx w ⟨MutO L, L.F⟩ L w → rels L w (Mut L) args vs →
      objs' = objs ∧ Calls Kx.P fn vs.toArray w fun e w' => ∃ v, e = .returned v ∧ Below w.heap.size w w' ∧ rel L w' (Mut L) res v) : Sound Kx fn φ := by
  intro args objs res objs' hv w L vs hR ho hr
  obtain ⟨rfl, hc⟩ := h _ _ _ _ hv w L vs hR hr
  refine .inl ⟨Calls.mono hc ?_, f, c, hf, hname, hb⟩
  rintro e w' ⟨v, rfl, hb', hv'⟩
  exact ⟨L, relO_below hR hb' (fun hg => KOk.gst _ _ (fun _ _ => False) (fr_below hb') hR.gs (fun _ _ _ h => h) hg), ho, Kept.refl _ _, hv'⟩

end Go.Proofs.Ytmigffdeghfbhaa.Ev

namespace Go.Proofs.Ytmigffdeghfbhaa.Ev
open Go Go.RowKit
set_option linter.unusedVariables false
set_option linter.unusedSimpArgs false
noncomputable section

/-! impl.within -/
def iwithin_O : Opt := { cons := [], keepNil := false, mutF := [], live := [], outs := [] }
def iwithin_br (n lo hi : Int) : Br := (Br.ite (decide (lo ≤ n)) (Br.ret (AV.bool (decide (n ≤ hi))) ([] : (List (Ob)))) (Br.ret (AV.bool false) ([] : (List (Ob)))))
theorem iwithin_run (n lo hi : Int) : runF Kx noS iwithin_O 1 Try.f32 ([.int .i64 n, .int .i64 lo, .int .i64 hi]) ([]) = (iwithin_br n lo hi).val := by kernel_rfl
def iwithin_s : List AV → List Ob → Br
  | [.int .i64 n, .int .i64 lo, .int .i64 hi], [] => iwithin_br n lo hi
  | _, _ => .fail
theorem iwithin_ok : Sound Kx 32 iwithin_s := by
  refine sound_run (C := noS) (O := iwithin_O) KOk (sound_no Kx) Try.func32 (by kernel_rfl) fun args objs res os h => ?_
  unfold iwithin_s at h
  split at h
  · exact ⟨1, (iwithin_run _ _ _).trans h⟩
  · cases h

end
end Go.Proofs.Ytmigffdeghfbhaa.Ev

namespace Go.Proofs.Ytmigffdeghfbhaa.Ev
open Go Go.RowKit
set_option linter.unusedVariables false
set_option linter.unusedSimpArgs false
noncomputable section

/-! spec.StoreOk -/
def sOk_O : Opt := { cons := [], keepNil := false, mutF := [], live := [(5, [1, 3, 4])], outs := [(5, [2])] }
def sOk_T5 (v5x0 : Int) (v5x1 : Int) (v5x2 : (List ((List UInt8) × Int))) (v5x3 : Int) (kR5 : Int → Int → (List ((List UInt8) × Int)) → Int → Option Rs) (k5e0 : Option Rs) (k5e1 : Option Rs) : Option Rs :=
  (bif (decide (v5x1 < ((List.length v5x2) : Int))) then (bif (decide ((0 : Int) ≤ v5x1)) then (bif (decide (v5x1 < ((List.length v5x2) : Int))) then (bif (decide (v5x0 < ((List.length (List.getD v5x2 (Int.toNat v5x1) (([] : (List UInt8)), (0 : Int))).1) : Int))) then k5e0 else (bif (decide ((List.getD v5x2 (Int.toNat v5x1) (([] : (List UInt8)), (0 : Int))).2 < (0 : Int))) then k5e0 else (bif (decide (((List.length (List.getD v5x2 (Int.toNat v5x1) (([] : (List UInt8)), (0 : Int))).1) : Int) < (List.getD v5x2 (Int.toNat v5x1) (([] : (List UInt8)), (0 : Int))).2)) then k5e0 else (bif (decide ((wk64 (v5x1 + (1 : Int))) < ((List.length v5x2) : Int))) then (bif (decide (((List.length (List.getD v5x2 (Int.toNat v5x1) (([] : (List UInt8)), (0 : Int))).1) : Int) = (0 : Int))) then k5e0 else (bif (!(decide ((List.getD v5x2 (Int.toNat v5x1) (([] : (List UInt8)), (0 : Int))).2 = ((List.length (List.getD v5x2 (Int.toNat v5x1) (([] : (List UInt8)), (0 : Int))).1) : Int)))) then k5e0 else (kR5 (wk64 (v5x0 - ((List.length (List.getD v5x2 (Int.toNat v5x1) (([] : (List UInt8)), (0 : Int))).1) : Int))) (wk64 (v5x1 + (1 : Int))) v5x2 v5x3))) else (kR5 (wk64 (v5x0 - ((List.length (List.getD v5x2 (Int.toNat v5x1) (([] : (List UInt8)), (0 : Int))).1) : Int))) (wk64 (v5x1 + (1 : Int))) v5x2 v5x3))))) else (none)) else (none)) else k5e1)
def sOk_F5 : Nat → Int → Int → (List ((List UInt8) × Int)) → Int → (Option Rs) → (Option Rs) → Option Rs
  | 0, _, _, _, _, _, _ => none
  | n + 1, v5x0, v5x1, v5x2, v5x3, k5e0, k5e1 => sOk_T5 v5x0 v5x1 v5x2 v5x3 (fun v5x0 v5x1 v5x2 v5x3 => sOk_F5 n v5x0 v5x1 v5x2 v5x3 k5e0 k5e1) k5e0 k5e1
def sOk_h5 (v5x0 : Int) (v5x1 : Int) (v5x2 : (List ((List UInt8) × Int))) (v5x3 : Int) : St := (St.mk (slots 0 79 [(1, (AV.ptr (128 : Nat) (0 : Nat))), (3, (AV.int .i64 v5x0)), (4, (AV.int .i64 v5x1))]) (((128 : Nat), (Ob.var ((AV.sh (Ty.pair Ty.str (Ty.int .i64)) v5x2) :: ((AV.int .i64 v5x3) :: ([] : (List (AV))))))) :: ([] : (List (Nat × (Ob))))))
def sOk_x5e0  : St := (St.mk (slots 0 79 [(2, (AV.bool false))]) ([] : (List (Nat × (Ob)))))
def sOk_x5e1  : St := (St.mk (slots 0 79 []) ([] : (List (Nat × (Ob)))))
noncomputable def sOk_b5 : Code := codeAt (codeOf Try.f7) [1, 1, 1, 0, 1, 0, 0]
def sOk_L5 (N : Nat) (st : St) (k : Ex → St → Option Rs) : Option Rs := match takeF [1, 3, 4] 0 79 st.env, st.objs with
  | some [.ptr 128 0, .int .i64 v5x0, .int .i64 v5x1], [(128, .var [.sh (Ty.pair Ty.str (Ty.int .i64)) v5x2, .int .i64 v5x3])] => sOk_F5 N v5x0 v5x1 v5x2 v5x3 (k Ex.ret (sOk_x5e0)) (k (Ex.exit (0 : Nat)) (sOk_x5e1))
  | _, _ => none
def sOk_L (N : Nat) : Lam := fun j st k => match j with
  | 5 => sOk_L5 N st k
  | _ => none
theorem sOk_round5 (N : Nat) (again : St → Option Rs) (k : Ex → St → Option Rs) (wv5x0 : Int) (wv5x1 : Int) (wv5x2 : (List ((List UInt8) × Int))) (wv5x3 : Int) (v5x0 : Int) (v5x1 : Int) (v5x2 : (List ((List UInt8) × Int))) (v5x3 : Int) :
    roundK 0 (fun st k => evL Kx noS sOk_O 0 (sOk_L N) sOk_b5 st k) (sOk_h5 wv5x0 wv5x1 wv5x2 wv5x3).env again (sOk_h5 v5x0 v5x1 v5x2 v5x3) (outK sOk_O 0 sOk_b5 k) = sOk_T5 v5x0 v5x1 v5x2 v5x3 (fun v5x0 v5x1 v5x2 v5x3 => again (sOk_h5 v5x0 v5x1 v5x2 v5x3)) (k Ex.ret (sOk_x5e0)) (k (Ex.exit (0 : Nat)) (sOk_x5e1)) := by kernel_rfl
theorem sOk_loop5 (N : Nat) (k : Ex → St → Option Rs) (wv5x0 : Int) (wv5x1 : Int) (wv5x2 : (List ((List UInt8) × Int))) (wv5x3 : Int) : ∀ (n : Nat) (v5x0 : Int) (v5x1 : Int) (v5x2 : (List ((List UInt8) × Int))) (v5x3 : Int),
    loopK 0 (fun st k => evL Kx noS sOk_O 0 (sOk_L N) sOk_b5 st k) (sOk_h5 wv5x0 wv5x1 wv5x2 wv5x3).env n (sOk_h5 v5x0 v5x1 v5x2 v5x3) (outK sOk_O 0 sOk_b5 k) = sOk_F5 n v5x0 v5x1 v5x2 v5x3 (k Ex.ret (sOk_x5e0)) (k (Ex.exit (0 : Nat)) (sOk_x5e1))
  | 0, _, _, _, _ => rfl
  | n + 1, v5x0, v5x1, v5x2, v5x3 => by
    rw [loopK_succ, sOk_round5]
    simp only [sOk_loop5 N k wv5x0 wv5x1 wv5x2 wv5x3 n]
    rfl
theorem sOk_at5 (N : Nat) {s : St} {k : Ex → St → Option Rs} {r : Rs} (h : sOk_L5 N s k = some r) : ∃ (v5x0 : Int) (v5x1 : Int) (v5x2 : (List ((List UInt8) × Int))) (v5x3 : Int), s = (sOk_h5 v5x0 v5x1 v5x2 v5x3) ∧ sOk_F5 N v5x0 v5x1 v5x2 v5x3 (k Ex.ret (sOk_x5e0)) (k (Ex.exit (0 : Nat)) (sOk_x5e1)) = some r := by
  cases s with | mk env objs =>
  unfold sOk_L5 at h
  split at h
  · rename_i e1 e2
    have e3 := takeF_slots _ _ _ _ e1
    simp only at e2 e3
    subst e2 e3
    exact ⟨_, _, _, _, rfl, h⟩
  · cases h
theorem sOk_in5 : loops sOk_b5 = [] := by kernel_rfl
theorem sOk_lid5 : lid sOk_b5 = 5 := by kernel_rfl
theorem sOk_ok5 (N : Nat) : OkL Kx noS sOk_O 0 N (sOk_L N) sOk_b5 := by
  intro s k k' r hk h
  rw [sOk_lid5] at h
  obtain ⟨v5x0, v5x1, v5x2, v5x3, rfl, h⟩ := sOk_at5 N h
  refine loopL (Λ := sOk_L N) sOk_b5 ?_ N hk ((sOk_loop5 N k v5x0 v5x1 v5x2 v5x3 N v5x0 v5x1 v5x2 v5x3).trans h)
  rw [sOk_in5]
  exact fun _ h => nomatch h
def sOk_run (N : Nat) (l : List (List UInt8 × Int)) (c : Int) : Option Rs := (bif (decide (c < (0 : Int))) then (some ((AV.bool false), ([] : (List (Ob))))) else (bif (decide ((60000 : Int) < c)) then (some ((AV.bool false), ([] : (List (Ob))))) else (bif (decide (((List.length l) : Int) < (1 : Int))) then (some ((AV.bool false), ([] : (List (Ob))))) else (bif (decide ((40 : Int) < ((List.length l) : Int))) then (some ((AV.bool false), ([] : (List (Ob))))) else (sOk_F5 N c (0 : Int) l c (some ((AV.bool false), ([] : (List (Ob))))) (some ((AV.bool true), ([] : (List (Ob))))))))))
theorem sOk_runL (N : Nat) (l : List (List UInt8 × Int)) (c : Int) : runL Kx noS sOk_O (sOk_L N) Try.f7 ([.agg [.sh (.pair .str (.int .i64)) l, .int .i64 c]]) ([]) = sOk_run N l c := by kernel_rfl
theorem sOk_body : Try.f7.body = some (codeOf Try.f7) := by kernel_rfl
theorem sOk_loops : loops (codeOf Try.f7) = [sOk_b5] := by kernel_rfl
theorem sOk_ev (N : Nat) (l : List (List UInt8 × Int)) (c : Int) {res_ : Rs} (hyp_ : sOk_run N l c = some res_) : ∃ n_, runF Kx noS sOk_O n_ Try.f7 ([.agg [.sh (.pair .str (.int .i64)) l, .int .i64 c]]) ([]) = some res_ :=
  ⟨N, runL_runF sOk_body (by rw [sOk_loops]; exact List.forall_mem_cons.2 ⟨sOk_ok5 N, fun _ h => nomatch h⟩) ((sOk_runL N l c).trans hyp_)⟩
def sOk_sOf (φ : (List (List UInt8 × Int)) → Int → Br) : List AV → List Ob → Br
  | [.agg [.sh (.pair .str (.int .i64)) l, .int .i64 c]], [] => φ l c
  | _, _ => .fail
theorem sOk_okOf {φ : (List (List UInt8 × Int)) → Int → Br} (fu : (List (List UInt8 × Int)) → Int → Nat) (hv : ∀ l c res_, (φ l c).val = some res_ → sOk_run (fu l c) l c = some res_) : Sound Kx 7 (sOk_sOf φ) := by
  refine sound_run (C := noS) (O := sOk_O) KOk (sound_no Kx) Try.func7 (by kernel_rfl) fun args objs res os h => ?_
  unfold sOk_sOf at h
  split at h
  · exact sOk_ev _ _ _ (hv _ _ _ h)
  · cases h

/-! (impl.Store).used -/
def used_O : Opt := { cons := [], keepNil := false, mutF := [], live := [(3, [3, 7, 8, 9])], outs := [(3, [2, 3])] }
def used_T3 (v3x0 : Int) (v3x1 : (List ((List UInt8) × Int))) (v3x2 : Int) (v3x3 : Int) (kR3 : Int → (List ((List UInt8) × Int)) → Int → Int → Option Rs) (k3e0 : Int → Option Rs) : Option Rs :=
  (bif (decide (v3x3 < v3x2)) then (bif (decide ((0 : Int) ≤ v3x3)) then (bif (decide (v3x3 < ((List.length v3x1) : Int))) then (kR3 (wk64 (v3x0 + ((List.length (List.getD v3x1 (Int.toNat v3x3) (([] : (List UInt8)), (0 : Int))).1) : Int))) v3x1 v3x2 (wk64 (v3x3 + (1 : Int)))) else (none)) else (none)) else (k3e0 v3x0))
def used_F3 : Nat → Int → (List ((List UInt8) × Int)) → Int → Int → (Int → Option Rs) → Option Rs
  | 0, _, _, _, _, _ => none
  | n + 1, v3x0, v3x1, v3x2, v3x3, k3e0 => used_T3 v3x0 v3x1 v3x2 v3x3 (fun v3x0 v3x1 v3x2 v3x3 => used_F3 n v3x0 v3x1 v3x2 v3x3 k3e0) k3e0
def used_h3 (v3x0 : Int) (v3x1 : (List ((List UInt8) × Int))) (v3x2 : Int) (v3x3 : Int) : St := (St.mk (slots 0 20 [(3, (AV.int .i64 v3x0)), (7, (AV.sh (Ty.pair Ty.str (Ty.int .i64)) v3x1)), (8, (AV.int .i64 v3x2)), (9, (AV.int .i64 v3x3))]) ([] : (List (Nat × (Ob)))))
def used_x3e0 (x3x0x0 : Int) : St := (St.mk (slots 0 20 [(3, (AV.int .i64 x3x0x0))]) ([] : (List (Nat × (Ob)))))
noncomputable def used_b3 : Code := codeAt (codeOf Try.f38) [1, 1, 0, 1, 0, 0]
def used_L3 (N : Nat) (st : St) (k : Ex → St → Option Rs) : Option Rs := match takeF [3, 7, 8, 9] 0 20 st.env, st.objs with
  | some [.int .i64 v3x0, .sh (Ty.pair Ty.str (Ty.int .i64)) v3x1, .int .i64 v3x2, .int .i64 v3x3], [] => used_F3 N v3x0 v3x1 v3x2 v3x3 (fun x3x0x0 => k (Ex.exit (0 : Nat)) (used_x3e0 x3x0x0))
  | _, _ => none
def used_L (N : Nat) : Lam := fun j st k => match j with
  | 3 => used_L3 N st k
  | _ => none
theorem used_round3 (N : Nat) (again : St → Option Rs) (k : Ex → St → Option Rs) (wv3x0 : Int) (wv3x1 : (List ((List UInt8) × Int))) (wv3x2 : Int) (wv3x3 : Int) (v3x0 : Int) (v3x1 : (List ((List UInt8) × Int))) (v3x2 : Int) (v3x3 : Int) :
    roundK 0 (fun st k => evL Kx noS used_O 0 (used_L N) used_b3 st k) (used_h3 wv3x0 wv3x1 wv3x2 wv3x3).env again (used_h3 v3x0 v3x1 v3x2 v3x3) (outK used_O 0 used_b3 k) = used_T3 v3x0 v3x1 v3x2 v3x3 (fun v3x0 v3x1 v3x2 v3x3 => again (used_h3 v3x0 v3x1 v3x2 v3x3)) (fun x3x0x0 => k (Ex.exit (0 : Nat)) (used_x3e0 x3x0x0)) := by kernel_rfl
theorem used_loop3 (N : Nat) (k : Ex → St → Option Rs) (wv3x0 : Int) (wv3x1 : (List ((List UInt8) × Int))) (wv3x2 : Int) (wv3x3 : Int) : ∀ (n : Nat) (v3x0 : Int) (v3x1 : (List ((List UInt8) × Int))) (v3x2 : Int) (v3x3 : Int),
    loopK 0 (fun st k => evL Kx noS used_O 0 (used_L N) used_b3 st k) (used_h3 wv3x0 wv3x1 wv3x2 wv3x3).env n (used_h3 v3x0 v3x1 v3x2 v3x3) (outK used_O 0 used_b3 k) = used_F3 n v3x0 v3x1 v3x2 v3x3 (fun x3x0x0 => k (Ex.exit (0 : Nat)) (used_x3e0 x3x0x0))
  | 0, _, _, _, _ => rfl
  | n + 1, v3x0, v3x1, v3x2, v3x3 => by
    rw [loopK_succ, used_round3]
    simp only [used_loop3 N k wv3x0 wv3x1 wv3x2 wv3x3 n]
    rfl
theorem used_at3 (N : Nat) {s : St} {k : Ex → St → Option Rs} {r : Rs} (h : used_L3 N s k = some r) : ∃ (v3x0 : Int) (v3x1 : (List ((List UInt8) × Int))) (v3x2 : Int) (v3x3 : Int), s = (used_h3 v3x0 v3x1 v3x2 v3x3) ∧ used_F3 N v3x0 v3x1 v3x2 v3x3 (fun x3x0x0 => k (Ex.exit (0 : Nat)) (used_x3e0 x3x0x0)) = some r := by
  cases s with | mk env objs =>
  unfold used_L3 at h
  split at h
  · rename_i e1 e2
    have e3 := takeF_slots _ _ _ _ e1
    simp only at e2 e3
    subst e2 e3
    exact ⟨_, _, _, _, rfl, h⟩
  · cases h
theorem used_in3 : loops used_b3 = [] := by kernel_rfl
theorem used_lid3 : lid used_b3 = 3 := by kernel_rfl
theorem used_ok3 (N : Nat) : OkL Kx noS used_O 0 N (used_L N) used_b3 := by
  intro s k k' r hk h
  rw [used_lid3] at h
  obtain ⟨v3x0, v3x1, v3x2, v3x3, rfl, h⟩ := used_at3 N h
  refine loopL (Λ := used_L N) used_b3 ?_ N hk ((used_loop3 N k v3x0 v3x1 v3x2 v3x3 N v3x0 v3x1 v3x2 v3x3).trans h)
  rw [used_in3]
  exact fun _ h => nomatch h
def used_run (N : Nat) (l : List (List UInt8 × Int)) (c : Int) : Option Rs := (used_F3 N (0 : Int) l ((List.length l) : Int) (0 : Int) (fun x3x0x0 => (some ((AV.int .i64 x3x0x0), ([] : (List (Ob)))))))
theorem used_runL (N : Nat) (l : List (List UInt8 × Int)) (c : Int) : runL Kx noS used_O (used_L N) Try.f38 ([.agg [.sh (.pair .str (.int .i64)) l, .int .i64 c]]) ([]) = used_run N l c := by kernel_rfl
theorem used_body : Try.f38.body = some (codeOf Try.f38) := by kernel_rfl
theorem used_loops : loops (codeOf Try.f38) = [used_b3] := by kernel_rfl
theorem used_ev (N : Nat) (l : List (List UInt8 × Int)) (c : Int) {res_ : Rs} (hyp_ : used_run N l c = some res_) : ∃ n_, runF Kx noS used_O n_ Try.f38 ([.agg [.sh (.pair .str (.int .i64)) l, .int .i64 c]]) ([]) = some res_ :=
  ⟨N, runL_runF used_body (by rw [used_loops]; exact List.forall_mem_cons.2 ⟨used_ok3 N, fun _ h => nomatch h⟩) ((used_runL N l c).trans hyp_)⟩
def used_sOf (φ : (List (List UInt8 × Int)) → Int → Br) : List AV → List Ob → Br
  | [.agg [.sh (.pair .str (.int .i64)) l, .int .i64 c]], [] => φ l c
  | _, _ => .fail
theorem used_okOf {φ : (List (List UInt8 × Int)) → Int → Br} (fu : (List (List UInt8 × Int)) → Int → Nat) (hv : ∀ l c res_, (φ l c).val = some res_ → used_run (fu l c) l c = some res_) : Sound Kx 38 (used_sOf φ) := by
  refine sound_run (C := noS) (O := used_O) KOk (sound_no Kx) Try.func38 (by kernel_rfl) fun args objs res os h => ?_
  unfold used_sOf at h
  split at h
  · exact used_ev _ _ _ (hv _ _ _ h)
  · cases h

/-! spec.l4copy -/
def copy_O : Opt := { cons := [], keepNil := false, mutF := [], live := [], outs := [] }
def copy_br (l : List (List UInt8 × Int)) (c : Int) : Br := (Br.ite (decide ((((0 : Nat) + (List.length l)) * (24 : Nat)) ≤ (140737488355328 : Nat))) (Br.ret (AV.agg ((AV.ref (0 : Nat) (0 : Nat)) :: ((AV.int .i64 c) :: ([] : (List (AV)))))) ((Ob.arr (Ty.pair Ty.str (Ty.int .i64)) (0 : Nat) false l) :: ([] : (List (Ob))))) Br.fail)
theorem copy_run (l : List (List UInt8 × Int)) (c : Int) : runF Kx noS copy_O 1 Try.f41 ([.agg [.sh (.pair .str (.int .i64)) l, .int .i64 c]]) ([]) = (copy_br l c).val := by kernel_rfl
def copy_s : List AV → List Ob → Br
  | [.agg [.sh (.pair .str (.int .i64)) l, .int .i64 c]], [] => copy_br l c
  | _, _ => .fail
theorem copy_ok : Sound Kx 41 copy_s := by
  refine sound_run (C := noS) (O := copy_O) KOk (sound_no Kx) Try.func41 (by kernel_rfl) fun args objs res os h => ?_
  unfold copy_s at h
  split at h
  · exact ⟨1, (copy_run _ _).trans h⟩
  · cases h

/-! (impl.Store).own -/
def own_O : Opt := { cons := [], keepNil := false, mutF := [], live := [], outs := [] }
def own_br (l : List (List UInt8 × Int)) (c : Int) : Br := (Br.ite (decide ((((0 : Nat) + (List.length l)) * (24 : Nat)) ≤ (140737488355328 : Nat))) (Br.ite (decide ((0 : Int) ≤ (wk64 (((List.length l) : Int) - (1 : Int))))) (Br.ite (decide ((wk64 (((List.length l) : Int) - (1 : Int))) < ((List.length l) : Int))) (Br.ret (AV.tup ((AV.agg ((AV.ref (0 : Nat) (0 : Nat)) :: ((AV.int .i64 c) :: ([] : (List (AV)))))) :: ((AV.eptr (0 : Nat) (0 : Nat) (wk64 (((List.length l) : Int) - (1 : Int))) (0 : Nat)) :: ([] : (List (AV)))))) ((Ob.arr (Ty.pair Ty.str (Ty.int .i64)) (0 : Nat) false l) :: ([] : (List (Ob))))) Br.fail) Br.fail) Br.fail)
theorem own_run (l : List (List UInt8 × Int)) (c : Int) : runF Kx noS own_O 1 Try.f26 ([.agg [.sh (.pair .str (.int .i64)) l, .int .i64 c]]) ([]) = (own_br l c).val := by kernel_rfl
def own_s : List AV → List Ob → Br
  | [.agg [.sh (.pair .str (.int .i64)) l, .int .i64 c]], [] => own_br l c
  | _, _ => .fail
theorem own_ok : Sound Kx 26 own_s := by
  refine sound_run (C := noS) (O := own_O) KOk (sound_no Kx) Try.func26 (by kernel_rfl) fun args objs res os h => ?_
  unfold own_s at h
  split at h
  · exact ⟨1, (own_run _ _).trans h⟩
  · cases h

/-! (impl.Store).last -/
def last_O : Opt := { cons := [], keepNil := false, mutF := [], live := [], outs := [] }
def last_br (l : List (List UInt8 × Int)) (c : Int) : Br := (Br.ite (decide ((0 : Int) ≤ (wk64 (((List.length l) : Int) - (1 : Int))))) (Br.ite (decide ((wk64 (((List.length l) : Int) - (1 : Int))) < ((List.length l) : Int))) (Br.ret (AV.agg ((AV.str (List.getD l (Int.toNat (wk64 (((List.length l) : Int) - (1 : Int)))) (([] : (List UInt8)), (0 : Int))).1) :: ((AV.int .i64 (List.getD l (Int.toNat (wk64 (((List.length l) : Int) - (1 : Int)))) (([] : (List UInt8)), (0 : Int))).2) :: ([] : (List (AV)))))) ([] : (List (Ob)))) Br.fail) Br.fail)
theorem last_run (l : List (List UInt8 × Int)) (c : Int) : runF Kx noS last_O 1 Try.f30 ([.agg [.sh (.pair .str (.int .i64)) l, .int .i64 c]]) ([]) = (last_br l c).val := by kernel_rfl
def last_s : List AV → List Ob → Br
  | [.agg [.sh (.pair .str (.int .i64)) l, .int .i64 c]], [] => last_br l c
  | _, _ => .fail
theorem last_ok : Sound Kx 30 last_s := by
  refine sound_run (C := noS) (O := last_O) KOk (sound_no Kx) Try.func30 (by kernel_rfl) fun args objs res os h => ?_
  unfold last_s at h
  split at h
  · exact ⟨1, (last_run _ _).trans h⟩
  · cases h

end
end Go.Proofs.Ytmigffdeghfbhaa.Ev

namespace Go.Proofs.Ytmigffdeghfbhaa.Ev
open Go Go.RowKit
set_option linter.unusedVariables false
set_option linter.unusedSimpArgs false

abbrev Segs := List (List UInt8 × Int)

/-- All bytes of some segments. -/
def total : Segs → Nat
  | [] => 0
  | a :: r => a.1.length + total r

/-! used -/
theorem used_loop (c : Int) (k : Int → Option Rs) : ∀ (r pre : Segs) (n : Nat) (acc : Int), r.length < n → (pre ++ r).length ≤ 281474976710656 → 0 ≤ acc → acc + total r ≤ 4611686018427387904 →
    used_F3 n acc (pre ++ r) ((pre ++ r).length : Int) (pre.length : Int) k = k (acc + total r)
  | [], pre, n + 1, acc, hn, hl, ha, ht => by
    unfold used_F3 used_T3
    simp [total]
  | a :: r, pre, n + 1, acc, hn, hl, ha, ht => by
    have hlen : (pre ++ a :: r).length = pre.length + r.length + 1 := by simp; omega
    have e1 : decide ((pre.length : Int) < ((pre ++ a :: r).length : Int)) = true := by rw [hlen]; simp; omega
    have e2 : decide ((0 : Int) ≤ (pre.length : Int)) = true := by simp
    unfold used_F3 used_T3
    simp only [e1, e2, cond_true, Int.toNat_natCast, getD_mid]
    simp only [total] at ht
    rw [next_len pre a (by omega), w64 (by omega) (by omega)]
    conv => lhs; rw [cat_one]
    rw [used_loop c k r (pre ++ [a]) n _ (by simp at hn; omega) (by rw [← cat_one]; exact hl) (by omega) (by omega)]
    simp only [total]
    congr 1
    push_cast
    omega
def used_br (l : Segs) (c : Int) : Br := .ite (decide (l.length ≤ 281474976710656) && decide (total l ≤ 4611686018427387904)) (.ret (.int .i64 (total l)) []) .fail
def used_s := used_sOf used_br
theorem used_ok : Sound Kx 38 used_s := by
  refine used_okOf (fun l _ => l.length + 1) fun l c r h => ?_
  unfold used_br at h
  simp only [Br.val] at h
  split at h
  · rename_i hb
    simp only [Bool.and_eq_true, decide_eq_true_eq] at hb
    unfold used_run
    have := used_loop c (fun x => some (AV.int .i64 x, ([] : List Ob))) l [] (l.length + 1) 0 (by omega) (by simpa using hb.1) (by omega) (by have := hb.2; omega)
    simp only [List.nil_append, List.length_nil, Int.zero_add] at this
    rw [← h]
    exact this
  · cases h

/-! spec.StoreOk -/
/-- A store's segments, the room that is left aside. -/
def shape : Segs → Bool
  | [] => true
  | a :: r => decide (0 ≤ a.2) && decide (a.2 ≤ (a.1.length : Int)) && (r.isEmpty || (!decide ((a.1.length : Int) = 0) && decide (a.2 = (a.1.length : Int)))) && shape r

/-- As spec.StoreOk goes through them. -/
def walk : Segs → Int → Bool
  | [], _ => true
  | a :: r, left => bif decide (left < (a.1.length : Int)) then false else bif decide (a.2 < 0) then false else bif decide ((a.1.length : Int) < a.2) then false else
    bif !r.isEmpty then (bif decide ((a.1.length : Int) = 0) then false else bif !decide (a.2 = (a.1.length : Int)) then false else walk r (left - a.1.length)) else walk r (left - a.1.length)
theorem walk_eq : ∀ (l : Segs) (left : Int), 0 ≤ left → walk l left = (shape l && decide ((total l : Int) ≤ left))
  | [], left, h => by simp [walk, shape, total, h]
  | a :: r, left, h => by
    have ht : (total (a :: r) : Int) = (a.1.length : Int) + total r := by simp only [total]; push_cast; rfl
    simp only [walk, shape]
    by_cases h1 : left < (a.1.length : Int)
    · have : ¬ (total (a :: r) : Int) ≤ left := by omega
      simp only [h1, this, decide_true, decide_false, cond_true, Bool.and_false]
    · have ih := walk_eq r (left - a.1.length) (by omega)
      have e : decide ((total (a :: r) : Int) ≤ left) = decide ((total r : Int) ≤ left - (a.1.length : Int)) := by congr 1; apply propext; omega
      have e1 : decide (a.2 < 0) = !decide (0 ≤ a.2) := by by_cases h : 0 ≤ a.2 <;> simp [h] <;> omega
      have e2 : decide ((a.1.length : Int) < a.2) = !decide (a.2 ≤ (a.1.length : Int)) := by by_cases h : a.2 ≤ (a.1.length : Int) <;> simp [h] <;> omega
      rw [e, ih, e1, e2]
      simp only [h1, decide_false, cond_false]
      generalize decide (0 ≤ a.2) = b1
      generalize decide (a.2 ≤ (a.1.length : Int)) = b2
      generalize decide ((a.1.length : Int) = 0) = b3
      generalize decide (a.2 = (a.1.length : Int)) = b4
      generalize decide ((total r : Int) ≤ left - (a.1.length : Int)) = b5
      generalize shape r = b6
      generalize r.isEmpty = b7
      revert b1 b2 b3 b4 b5 b6 b7
      decide
theorem sOk_loop (c : Int) (k0 k1 : Option Rs) (r : Segs) : ∀ (pre : Segs) (n : Nat) (left : Int), r.length < n → (pre ++ r).length ≤ 40 → 0 ≤ left → left ≤ 60000 →
    sOk_F5 n left (pre.length : Int) (pre ++ r) c k0 k1 = bif walk r left then k1 else k0 := by
  induction r with
  | nil =>
    intro pre n left hn hl ha ht
    obtain ⟨n, rfl⟩ : ∃ m, n = m + 1 := ⟨n - 1, by simp at hn; omega⟩
    have e1 : decide ((pre.length : Int) < ((pre ++ ([] : Segs)).length : Int)) = false := by simp
    unfold sOk_F5 sOk_T5
    simp only [e1, cond_false, walk, cond_true]
  | cons a r ihr =>
    intro pre n left hn hl ha ht
    obtain ⟨n, rfl⟩ : ∃ m, n = m + 1 := ⟨n - 1, by omega⟩
    have hlen : (pre ++ a :: r).length = pre.length + r.length + 1 := by simp; omega
    have e1 : decide ((pre.length : Int) < ((pre ++ a :: r).length : Int)) = true := by rw [hlen]; simp; omega
    have e2 : decide ((0 : Int) ≤ (pre.length : Int)) = true := by simp
    have ih := fun h1 h2 => ihr (pre ++ [a]) n (left - (a.1.length : Int)) (by simp at hn; omega) (by rw [← cat_one]; exact hl) h1 h2
    rw [← cat_one] at ih
    unfold sOk_F5 sOk_T5
    simp only [e1, e2, cond_true, Int.toNat_natCast, getD_mid]
    rw [next_len pre a (by omega)]
    have e3 : decide (((pre ++ [a]).length : Int) < ((pre ++ a :: r).length : Int)) = !r.isEmpty := by
      rw [hlen]
      cases r with
      | nil => simp
      | cons b r => simp; omega
    simp only [e3, walk]
    by_cases h1 : left < (a.1.length : Int)
    · simp only [h1, decide_true, cond_true, cond_false]
    · rw [w64 (by omega) (by omega), ih (by omega) (by omega)]
      simp only [h1, decide_false, cond_false]
      generalize decide (a.2 < 0) = b1
      generalize decide ((a.1.length : Int) < a.2) = b2
      generalize decide ((a.1.length : Int) = 0) = b3
      generalize decide (a.2 = (a.1.length : Int)) = b4
      generalize r.isEmpty = b7
      generalize walk r (left - (a.1.length : Int)) = b8
      cases b1 <;> cases b2 <;> cases b3 <;> cases b4 <;> cases b7 <;> rfl

/-- Is it a store? -/
def okStore (l : Segs) (c : Int) : Bool := decide (0 ≤ c) && decide (c ≤ 60000) && decide (1 ≤ l.length) && decide (l.length ≤ 40) && (shape l && decide ((total l : Int) ≤ c))
def sOk_br (l : Segs) (c : Int) : Br := .ret (.bool (okStore l c)) []
def sOk_s := sOk_sOf sOk_br
theorem sOk_ok : Sound Kx 7 sOk_s := by
  refine sOk_okOf (fun l _ => l.length + 1) fun l c r h => ?_
  cases h
  unfold sOk_run okStore
  by_cases h1 : c < 0
  · have : ¬ 0 ≤ c := by omega
    simp [h1, this]
  · by_cases h2 : 60000 < c
    · have : ¬ c ≤ 60000 := by omega
      simp [h1, h2, this]
    · by_cases h3 : (l.length : Int) < 1
      · have : ¬ 1 ≤ l.length := by omega
        simp [h1, h2, h3, this]
      · by_cases h4 : 40 < (l.length : Int)
        · have : ¬ l.length ≤ 40 := by omega
          simp [h1, h2, h3, h4, this]
        · have f1 : (0 : Int) ≤ c := by omega
          have f2 : c ≤ 60000 := by omega
          have f3 : 1 ≤ l.length := by omega
          have f4 : l.length ≤ 40 := by omega
          have := sOk_loop c (some (.bool false, [])) (some (.bool true, [])) l [] (l.length + 1) c (by omega) (by simpa using f4) f1 f2
          simp only [List.nil_append, List.length_nil] at this
          simp only [h1, h2, h3, h4, f1, f2, f3, f4, decide_true, decide_false, cond_true, cond_false, Bool.true_and]
          refine Eq.trans this ?_
          rw [walk_eq l c f1]
          cases shape l && decide ((total l : Int) ≤ c) <;> rfl

/-! szSegS -/
/-- Small enough for the machine. -/
def smS (l : Segs) : Bool := decide (l.length ≤ 281474976710656) && l.all fun a => decide (a.1.length ≤ 281474976710656)
/-! toSegS -/
/-! eqSegS -/
end Go.Proofs.Ytmigffdeghfbhaa.Ev

namespace Go.Proofs.Ytmigffdeghfbhaa.Ev
open Go Go.RowKit
set_option linter.unusedVariables false
set_option linter.unusedSimpArgs false
noncomputable section

/-! impl.StoreOk -/
def iOk_O : Opt := { cons := [], keepNil := false, mutF := [], live := [(4, [1, 17, 18, 19])], outs := [(4, [1, 2])] }
def iOk_C : Spec := (add (add noS 32 iwithin_s) 38 used_s)
theorem iOk_C_ok : ∀ fn, Sound Kx fn (iOk_C fn) := (sound_add (sound_add (sound_no Kx) iwithin_ok) used_ok)
def iOk_T4 (v4x0 : (List ((List UInt8) × Int))) (v4x1 : Int) (v4x2 : Int) (v4x3 : (List ((List UInt8) × Int))) (v4x4 : Int) (kR4 : (List ((List UInt8) × Int)) → Int → Int → (List ((List UInt8) × Int)) → Int → Option Rs) (k4e0 : (List ((List UInt8) × Int)) → Int → Option Rs) (k4e1 : (List ((List UInt8) × Int)) → Int → Option Rs) : Option Rs :=
  (bif (decide (v4x2 < v4x1)) then (bif (decide ((0 : Int) ≤ v4x2)) then (bif (decide (v4x2 < ((List.length v4x0) : Int))) then (bif (decide ((0 : Int) ≤ (List.getD v4x0 (Int.toNat v4x2) (([] : (List UInt8)), (0 : Int))).2)) then (bif (!(decide ((List.getD v4x0 (Int.toNat v4x2) (([] : (List UInt8)), (0 : Int))).2 ≤ ((List.length (List.getD v4x0 (Int.toNat v4x2) (([] : (List UInt8)), (0 : Int))).1) : Int)))) then (k4e0 v4x3 v4x4) else (bif (decide (v4x2 < (wk64 (((List.length v4x3) : Int) - (1 : Int))))) then (bif (decide ((List.getD v4x0 (Int.toNat v4x2) (([] : (List UInt8)), (0 : Int))).1 = ([] : (List UInt8)))) then (k4e0 v4x3 v4x4) else (bif (!(decide ((List.getD v4x0 (Int.toNat v4x2) (([] : (List UInt8)), (0 : Int))).2 = ((List.length (List.getD v4x0 (Int.toNat v4x2) (([] : (List UInt8)), (0 : Int))).1) : Int)))) then (k4e0 v4x3 v4x4) else (kR4 v4x0 v4x1 (wk64 (v4x2 + (1 : Int))) v4x3 v4x4))) else (kR4 v4x0 v4x1 (wk64 (v4x2 + (1 : Int))) v4x3 v4x4))) else (k4e0 v4x3 v4x4)) else (none)) else (none)) else (k4e1 v4x3 v4x4))
def iOk_F4 : Nat → (List ((List UInt8) × Int)) → Int → Int → (List ((List UInt8) × Int)) → Int → ((List ((List UInt8) × Int)) → Int → Option Rs) → ((List ((List UInt8) × Int)) → Int → Option Rs) → Option Rs
  | 0, _, _, _, _, _, _, _ => none
  | n + 1, v4x0, v4x1, v4x2, v4x3, v4x4, k4e0, k4e1 => iOk_T4 v4x0 v4x1 v4x2 v4x3 v4x4 (fun v4x0 v4x1 v4x2 v4x3 v4x4 => iOk_F4 n v4x0 v4x1 v4x2 v4x3 v4x4 k4e0 k4e1) k4e0 k4e1
def iOk_h4 (v4x0 : (List ((List UInt8) × Int))) (v4x1 : Int) (v4x2 : Int) (v4x3 : (List ((List UInt8) × Int))) (v4x4 : Int) : St := (St.mk (slots 0 58 [(1, (AV.ptr (128 : Nat) (0 : Nat))), (17, (AV.sh (Ty.pair Ty.str (Ty.int .i64)) v4x0)), (18, (AV.int .i64 v4x1)), (19, (AV.int .i64 v4x2))]) (((128 : Nat), (Ob.var ((AV.sh (Ty.pair Ty.str (Ty.int .i64)) v4x3) :: ((AV.int .i64 v4x4) :: ([] : (List (AV))))))) :: ([] : (List (Nat × (Ob))))))
def iOk_x4e0 (x4x0x0 : (List ((List UInt8) × Int))) (x4x0x1 : Int) : St := (St.mk (slots 0 58 [(1, (AV.ptr (128 : Nat) (0 : Nat))), (2, (AV.bool false))]) (((128 : Nat), (Ob.var ((AV.sh (Ty.pair Ty.str (Ty.int .i64)) x4x0x0) :: ((AV.int .i64 x4x0x1) :: ([] : (List (AV))))))) :: ([] : (List (Nat × (Ob))))))
def iOk_x4e1 (x4x1x0 : (List ((List UInt8) × Int))) (x4x1x1 : Int) : St := (St.mk (slots 0 58 [(1, (AV.ptr (128 : Nat) (0 : Nat)))]) (((128 : Nat), (Ob.var ((AV.sh (Ty.pair Ty.str (Ty.int .i64)) x4x1x0) :: ((AV.int .i64 x4x1x1) :: ([] : (List (AV))))))) :: ([] : (List (Nat × (Ob))))))
noncomputable def iOk_b4 : Code := codeAt (codeOf Try.f25) [1, 1, 0, 1, 0, 0]
def iOk_L4 (N : Nat) (st : St) (k : Ex → St → Option Rs) : Option Rs := match takeF [1, 17, 18, 19] 0 58 st.env, st.objs with
  | some [.ptr 128 0, .sh (Ty.pair Ty.str (Ty.int .i64)) v4x0, .int .i64 v4x1, .int .i64 v4x2], [(128, .var [.sh (Ty.pair Ty.str (Ty.int .i64)) v4x3, .int .i64 v4x4])] => iOk_F4 N v4x0 v4x1 v4x2 v4x3 v4x4 (fun x4x0x0 x4x0x1 => k Ex.ret (iOk_x4e0 x4x0x0 x4x0x1)) (fun x4x1x0 x4x1x1 => k (Ex.exit (0 : Nat)) (iOk_x4e1 x4x1x0 x4x1x1))
  | _, _ => none
def iOk_L (N : Nat) : Lam := fun j st k => match j with
  | 4 => iOk_L4 N st k
  | _ => none
theorem iOk_round4 (N : Nat) (again : St → Option Rs) (k : Ex → St → Option Rs) (wv4x0 : (List ((List UInt8) × Int))) (wv4x1 : Int) (wv4x2 : Int) (wv4x3 : (List ((List UInt8) × Int))) (wv4x4 : Int) (v4x0 : (List ((List UInt8) × Int))) (v4x1 : Int) (v4x2 : Int) (v4x3 : (List ((List UInt8) × Int))) (v4x4 : Int) :
    roundK 0 (fun st k => evL Kx iOk_C iOk_O 0 (iOk_L N) iOk_b4 st k) (iOk_h4 wv4x0 wv4x1 wv4x2 wv4x3 wv4x4).env again (iOk_h4 v4x0 v4x1 v4x2 v4x3 v4x4) (outK iOk_O 0 iOk_b4 k) = iOk_T4 v4x0 v4x1 v4x2 v4x3 v4x4 (fun v4x0 v4x1 v4x2 v4x3 v4x4 => again (iOk_h4 v4x0 v4x1 v4x2 v4x3 v4x4)) (fun x4x0x0 x4x0x1 => k Ex.ret (iOk_x4e0 x4x0x0 x4x0x1)) (fun x4x1x0 x4x1x1 => k (Ex.exit (0 : Nat)) (iOk_x4e1 x4x1x0 x4x1x1)) := by kernel_rfl
theorem iOk_loop4 (N : Nat) (k : Ex → St → Option Rs) (wv4x0 : (List ((List UInt8) × Int))) (wv4x1 : Int) (wv4x2 : Int) (wv4x3 : (List ((List UInt8) × Int))) (wv4x4 : Int) : ∀ (n : Nat) (v4x0 : (List ((List UInt8) × Int))) (v4x1 : Int) (v4x2 : Int) (v4x3 : (List ((List UInt8) × Int))) (v4x4 : Int),
    loopK 0 (fun st k => evL Kx iOk_C iOk_O 0 (iOk_L N) iOk_b4 st k) (iOk_h4 wv4x0 wv4x1 wv4x2 wv4x3 wv4x4).env n (iOk_h4 v4x0 v4x1 v4x2 v4x3 v4x4) (outK iOk_O 0 iOk_b4 k) = iOk_F4 n v4x0 v4x1 v4x2 v4x3 v4x4 (fun x4x0x0 x4x0x1 => k Ex.ret (iOk_x4e0 x4x0x0 x4x0x1)) (fun x4x1x0 x4x1x1 => k (Ex.exit (0 : Nat)) (iOk_x4e1 x4x1x0 x4x1x1))
  | 0, _, _, _, _, _ => rfl
  | n + 1, v4x0, v4x1, v4x2, v4x3, v4x4 => by
    rw [loopK_succ, iOk_round4]
    simp only [iOk_loop4 N k wv4x0 wv4x1 wv4x2 wv4x3 wv4x4 n]
    rfl
theorem iOk_at4 (N : Nat) {s : St} {k : Ex → St → Option Rs} {r : Rs} (h : iOk_L4 N s k = some r) : ∃ (v4x0 : (List ((List UInt8) × Int))) (v4x1 : Int) (v4x2 : Int) (v4x3 : (List ((List UInt8) × Int))) (v4x4 : Int), s = (iOk_h4 v4x0 v4x1 v4x2 v4x3 v4x4) ∧ iOk_F4 N v4x0 v4x1 v4x2 v4x3 v4x4 (fun x4x0x0 x4x0x1 => k Ex.ret (iOk_x4e0 x4x0x0 x4x0x1)) (fun x4x1x0 x4x1x1 => k (Ex.exit (0 : Nat)) (iOk_x4e1 x4x1x0 x4x1x1)) = some r := by
  cases s with | mk env objs =>
  unfold iOk_L4 at h
  split at h
  · rename_i e1 e2
    have e3 := takeF_slots _ _ _ _ e1
    simp only at e2 e3
    subst e2 e3
    exact ⟨_, _, _, _, _, rfl, h⟩
  · cases h
theorem iOk_in4 : loops iOk_b4 = [] := by kernel_rfl
theorem iOk_lid4 : lid iOk_b4 = 4 := by kernel_rfl
theorem iOk_ok4 (N : Nat) : OkL Kx iOk_C iOk_O 0 N (iOk_L N) iOk_b4 := by
  intro s k k' r hk h
  rw [iOk_lid4] at h
  obtain ⟨v4x0, v4x1, v4x2, v4x3, v4x4, rfl, h⟩ := iOk_at4 N h
  refine loopL (Λ := iOk_L N) iOk_b4 ?_ N hk ((iOk_loop4 N k v4x0 v4x1 v4x2 v4x3 v4x4 N v4x0 v4x1 v4x2 v4x3 v4x4).trans h)
  rw [iOk_in4]
  exact fun _ h => nomatch h
def iOk_run (N : Nat) (l : List (List UInt8 × Int)) (c : Int) : Option Rs := (bif (decide ((0 : Int) ≤ c)) then (bif (!(decide (c ≤ (60000 : Int)))) then (some ((AV.bool false), ([] : (List (Ob))))) else (bif (decide ((1 : Int) ≤ ((List.length l) : Int))) then (bif (!(decide (((List.length l) : Int) ≤ (40 : Int)))) then (some ((AV.bool false), ([] : (List (Ob))))) else (iOk_F4 N l ((List.length l) : Int) (0 : Int) l c (fun x4x0x0 => (fun x4x0x1 => (some ((AV.bool false), ([] : (List (Ob))))))) (fun x4x1x0 => (fun x4x1x1 => (bif ((decide ((List.length x4x1x0) ≤ (281474976710656 : Nat))) && (decide ((total x4x1x0) ≤ (4611686018427387904 : Nat)))) then (some ((AV.bool (decide ((((total x4x1x0) : Nat) : Int) ≤ x4x1x1))), ([] : (List (Ob))))) else (none)))))) else (some ((AV.bool false), ([] : (List (Ob))))))) else (some ((AV.bool false), ([] : (List (Ob))))))
theorem iOk_runL (N : Nat) (l : List (List UInt8 × Int)) (c : Int) : runL Kx iOk_C iOk_O (iOk_L N) Try.f25 ([.agg [.sh (.pair .str (.int .i64)) l, .int .i64 c]]) ([]) = iOk_run N l c := by kernel_rfl
theorem iOk_body : Try.f25.body = some (codeOf Try.f25) := by kernel_rfl
theorem iOk_loops : loops (codeOf Try.f25) = [iOk_b4] := by kernel_rfl
theorem iOk_ev (N : Nat) (l : List (List UInt8 × Int)) (c : Int) {res_ : Rs} (hyp_ : iOk_run N l c = some res_) : ∃ n_, runF Kx iOk_C iOk_O n_ Try.f25 ([.agg [.sh (.pair .str (.int .i64)) l, .int .i64 c]]) ([]) = some res_ :=
  ⟨N, runL_runF iOk_body (by rw [iOk_loops]; exact List.forall_mem_cons.2 ⟨iOk_ok4 N, fun _ h => nomatch h⟩) ((iOk_runL N l c).trans hyp_)⟩
def iOk_sOf (φ : (List (List UInt8 × Int)) → Int → Br) : List AV → List Ob → Br
  | [.agg [.sh (.pair .str (.int .i64)) l, .int .i64 c]], [] => φ l c
  | _, _ => .fail
theorem iOk_okOf {φ : (List (List UInt8 × Int)) → Int → Br} (fu : (List (List UInt8 × Int)) → Int → Nat) (hv : ∀ l c res_, (φ l c).val = some res_ → iOk_run (fu l c) l c = some res_) : Sound Kx 25 (iOk_sOf φ) := by
  refine sound_run (C := iOk_C) (O := iOk_O) KOk iOk_C_ok Try.func25 (by kernel_rfl) fun args objs res os h => ?_
  unfold iOk_sOf at h
  split at h
  · exact iOk_ev _ _ _ (hv _ _ _ h)
  · cases h

end
end Go.Proofs.Ytmigffdeghfbhaa.Ev

namespace Go.Proofs.Ytmigffdeghfbhaa.Ev
open Go Go.RowKit
set_option linter.unusedVariables false
set_option linter.unusedSimpArgs false

/-! impl.StoreOk -/
theorem iOk_loop (c : Int) (k0 k1 : Segs → Int → Option Rs) (l : Segs) (hl : l.length ≤ 40) (r : Segs) : ∀ (pre : Segs) (n : Nat), r.length < n → pre ++ r = l →
    iOk_F4 n l (l.length : Int) (pre.length : Int) l c k0 k1 = bif shape r then k1 l c else k0 l c := by
  induction r with
  | nil =>
    intro pre n hn hp
    obtain ⟨n, rfl⟩ : ∃ m, n = m + 1 := ⟨n - 1, by simp at hn; omega⟩
    have e1 : decide ((pre.length : Int) < (l.length : Int)) = false := by rw [← hp]; simp
    unfold iOk_F4 iOk_T4
    simp only [e1, cond_false, shape, cond_true]
  | cons a r ihr =>
    intro pre n hn hp
    obtain ⟨n, rfl⟩ : ∃ m, n = m + 1 := ⟨n - 1, by omega⟩
    have hlen : l.length = pre.length + r.length + 1 := by rw [← hp]; simp; omega
    have e1 : decide ((pre.length : Int) < (l.length : Int)) = true := by rw [hlen]; simp; omega
    have e2 : decide ((0 : Int) ≤ (pre.length : Int)) = true := by simp
    have e4 : l.getD pre.length ([], 0) = a := by rw [← hp]; exact getD_mid ..
    have ih := ihr (pre ++ [a]) n (by simp at hn; omega) (by rw [← cat_one]; exact hp)
    have e3 : decide ((pre.length : Int) < wk64 ((l.length : Int) - 1)) = !r.isEmpty := by
      rw [w64 (by omega) (by omega), hlen]
      cases r with
      | nil => simp
      | cons b r => simp; omega
    have e5 : decide (a.1 = []) = decide ((a.1.length : Int) = 0) := by
      congr 1; apply propext
      constructor
      · intro h; rw [h]; rfl
      · intro h; exact List.length_eq_zero_iff.1 (by omega)
    unfold iOk_F4 iOk_T4
    simp only [e1, e2, e3, e4, e5, cond_true, Int.toNat_natCast]
    rw [next_len pre a (by omega), ih]
    simp only [shape]
    generalize decide (0 ≤ a.2) = b1
    generalize decide (a.2 ≤ (a.1.length : Int)) = b2
    generalize decide ((a.1.length : Int) = 0) = b3
    generalize decide (a.2 = (a.1.length : Int)) = b4
    generalize r.isEmpty = b7
    generalize shape r = b8
    cases b1 <;> cases b2 <;> cases b3 <;> cases b4 <;> cases b7 <;> cases b8 <;> rfl
theorem total_le : ∀ (l : Segs), (∀ a ∈ l, a.1.length ≤ 281474976710656) → total l ≤ l.length * 281474976710656
  | [], _ => by simp [total]
  | a :: r, h => by
    have h1 := h a (List.mem_cons_self ..)
    have h2 := total_le r fun x hx => h x (List.mem_cons_of_mem _ hx)
    simp only [total, List.length_cons]
    omega
def iOk_br (l : Segs) (c : Int) : Br := .ite (smS l) (.ret (.bool (okStore l c)) []) .fail
def iOk_s := iOk_sOf iOk_br
theorem iOk_ok : Sound Kx 25 iOk_s := by
  refine iOk_okOf (fun l _ => l.length + 1) fun l c r h => ?_
  unfold iOk_br at h
  simp only [Br.val] at h
  split at h
  · rename_i hb
    simp only [smS, Bool.and_eq_true, decide_eq_true_eq, List.all_eq_true] at hb
    rw [← h]
    unfold iOk_run okStore
    by_cases h1 : 0 ≤ c
    · by_cases h2 : c ≤ 60000
      · by_cases h3 : 1 ≤ l.length
        · by_cases h4 : l.length ≤ 40
          · have g3 : (1 : Int) ≤ (l.length : Int) := by omega
            have g4 : (l.length : Int) ≤ 40 := by omega
            have ht := total_le l hb.2
            have e1 : decide (l.length ≤ 281474976710656) = true := by simp; omega
            have e2 : decide (total l ≤ 4611686018427387904) = true := by simp; omega
            simp only [h1, h2, h3, h4, g3, g4, decide_true, Bool.not_true, cond_true, cond_false, Bool.true_and]
            refine (iOk_loop c (fun _ _ => some (.bool false, [])) (fun x4x1x0 x4x1x1 => bif (decide (x4x1x0.length ≤ 281474976710656) && decide (total x4x1x0 ≤ 4611686018427387904)) then some (.bool (decide (((total x4x1x0 : Nat) : Int) ≤ x4x1x1)), []) else none) l h4 l [] (l.length + 1) (by omega) rfl).trans ?_
            simp only [e1, e2, Bool.and_self, cond_true]
            cases shape l <;> rfl
          · have g3 : (1 : Int) ≤ (l.length : Int) := by omega
            have g4 : ¬ (l.length : Int) ≤ 40 := by omega
            simp only [h1, h2, h3, h4, g3, g4, decide_true, decide_false, Bool.not_true, Bool.not_false, cond_true, cond_false, Bool.true_and, Bool.and_false, Bool.false_and]
        · have g3 : ¬ (1 : Int) ≤ (l.length : Int) := by omega
          simp only [h1, h2, h3, g3, decide_true, decide_false, Bool.not_true, Bool.not_false, cond_true, cond_false, Bool.true_and, Bool.and_false, Bool.false_and]
      · simp only [h1, h2, decide_true, decide_false, Bool.not_true, Bool.not_false, cond_true, cond_false, Bool.true_and, Bool.and_false, Bool.false_and]
    · simp only [h1, decide_true, decide_false, Bool.not_true, Bool.not_false, cond_true, cond_false, Bool.true_and, Bool.and_false, Bool.false_and]
  · cases h

end Go.Proofs.Ytmigffdeghfbhaa.Ev

namespace Go.Proofs.Ytmigffdeghfbhaa.Ev
open Go Go.RowKit
set_option linter.unusedVariables false
set_option linter.unusedSimpArgs false
noncomputable section

/-! spec.Sync -/
def sSync_O : Opt := { cons := [], keepNil := false, mutF := [], live := [], outs := [] }
def sSync_C : Spec := (add (add noS 7 sOk_s) 41 copy_s)
theorem sSync_C_ok : ∀ fn, Sound Kx fn (sSync_C fn) := (sound_add (sound_add (sound_no Kx) sOk_ok) copy_ok)
def sSync_br (l : List (List UInt8 × Int)) (c : Int) : Br := (Br.ite (!(okStore l c)) (Br.ret (AV.agg ((AV.ref (0 : Nat) (0 : Nat)) :: ((AV.int .i64 (0 : Int)) :: ([] : (List (AV)))))) ((Ob.arr (Ty.pair Ty.str (Ty.int .i64)) (0 : Nat) false ([] : (List ((List UInt8) × Int)))) :: ([] : (List (Ob))))) (Br.ite (decide ((((0 : Nat) + (List.length l)) * (24 : Nat)) ≤ (140737488355328 : Nat))) (Br.ite (decide ((0 : Int) ≤ (wk64 (((List.length l) : Int) - (1 : Int))))) (Br.ite (decide ((wk64 (((List.length l) : Int) - (1 : Int))) < ((List.length l) : Int))) (Br.ite (decide ((0 : Int) ≤ (wk64 (((List.length l) : Int) - (1 : Int))))) (Br.ite (decide ((wk64 (((List.length l) : Int) - (1 : Int))) < ((List.length l) : Int))) (Br.ite (decide ((0 : Int) ≤ (wk64 (((List.length l) : Int) - (1 : Int))))) (Br.ite (decide ((wk64 (((List.length l) : Int) - (1 : Int))) < ((List.length l) : Int))) (Br.ret (AV.agg ((AV.ref (0 : Nat) (0 : Nat)) :: ((AV.int .i64 c) :: ([] : (List (AV)))))) ((Ob.arr (Ty.pair Ty.str (Ty.int .i64)) (0 : Nat) false (List.set l (Int.toNat (wk64 (((List.length l) : Int) - (1 : Int)))) ((List.getD l (Int.toNat (wk64 (((List.length l) : Int) - (1 : Int)))) (([] : (List UInt8)), (0 : Int))).1, ((List.length (List.getD l (Int.toNat (wk64 (((List.length l) : Int) - (1 : Int)))) (([] : (List UInt8)), (0 : Int))).1) : Int)))) :: ([] : (List (Ob))))) Br.fail) Br.fail) Br.fail) Br.fail) Br.fail) Br.fail) Br.fail))
theorem sSync_run (l : List (List UInt8 × Int)) (c : Int) : runF Kx sSync_C sSync_O 1 Try.f31 ([.agg [.sh (.pair .str (.int .i64)) l, .int .i64 c]]) ([]) = (sSync_br l c).val := by kernel_rfl
def sSync_s : List AV → List Ob → Br
  | [.agg [.sh (.pair .str (.int .i64)) l, .int .i64 c]], [] => sSync_br l c
  | _, _ => .fail
theorem sSync_ok : Sound Kx 31 sSync_s := by
  refine sound_run (C := sSync_C) (O := sSync_O) KOk sSync_C_ok Try.func31 (by kernel_rfl) fun args objs res os h => ?_
  unfold sSync_s at h
  split at h
  · exact ⟨1, (sSync_run _ _).trans h⟩
  · cases h

/-! impl.Sync -/
def iSync_O : Opt := { cons := [], keepNil := false, mutF := [], live := [], outs := [] }
def iSync_C : Spec := (add (add noS 25 iOk_s) 26 own_s)
theorem iSync_C_ok : ∀ fn, Sound Kx fn (iSync_C fn) := (sound_add (sound_add (sound_no Kx) iOk_ok) own_ok)
def iSync_br (l : List (List UInt8 × Int)) (c : Int) : Br := (Br.ite (smS l) (Br.ite (!(okStore l c)) (Br.ret (AV.agg ((AV.ref (0 : Nat) (0 : Nat)) :: ((AV.int .i64 (0 : Int)) :: ([] : (List (AV)))))) ((Ob.arr (Ty.pair Ty.str (Ty.int .i64)) (0 : Nat) false ([] : (List ((List UInt8) × Int)))) :: ([] : (List (Ob))))) (Br.ite (decide ((((0 : Nat) + (List.length l)) * (24 : Nat)) ≤ (140737488355328 : Nat))) (Br.ite (decide ((0 : Int) ≤ (wk64 (((List.length l) : Int) - (1 : Int))))) (Br.ite (decide ((wk64 (((List.length l) : Int) - (1 : Int))) < ((List.length l) : Int))) (Br.ret (AV.agg ((AV.ref (0 : Nat) (0 : Nat)) :: ((AV.int .i64 c) :: ([] : (List (AV)))))) ((Ob.arr (Ty.pair Ty.str (Ty.int .i64)) (0 : Nat) false (List.set l (Int.toNat (wk64 (((List.length l) : Int) - (1 : Int)))) ((List.getD l (Int.toNat (wk64 (((List.length l) : Int) - (1 : Int)))) (([] : (List UInt8)), (0 : Int))).1, ((List.length (List.getD l (Int.toNat (wk64 (((List.length l) : Int) - (1 : Int)))) (([] : (List UInt8)), (0 : Int))).1) : Int)))) :: ([] : (List (Ob))))) Br.fail) Br.fail) Br.fail)) Br.fail)
theorem iSync_run (l : List (List UInt8 × Int)) (c : Int) : runF Kx iSync_C iSync_O 1 Try.f16 ([.agg [.sh (.pair .str (.int .i64)) l, .int .i64 c]]) ([]) = (iSync_br l c).val := by kernel_rfl
def iSync_s : List AV → List Ob → Br
  | [.agg [.sh (.pair .str (.int .i64)) l, .int .i64 c]], [] => iSync_br l c
  | _, _ => .fail
theorem iSync_ok : Sound Kx 16 iSync_s := by
  refine sound_run (C := iSync_C) (O := iSync_O) KOk iSync_C_ok Try.func16 (by kernel_rfl) fun args objs res os h => ?_
  unfold iSync_s at h
  split at h
  · exact ⟨1, (iSync_run _ _).trans h⟩
  · cases h

/-! impl.Crash -/
def iCrash_O : Opt := { cons := [], keepNil := false, mutF := [], live := [], outs := [] }
def iCrash_C : Spec := (add (add noS 25 iOk_s) 26 own_s)
theorem iCrash_C_ok : ∀ fn, Sound Kx fn (iCrash_C fn) := (sound_add (sound_add (sound_no Kx) iOk_ok) own_ok)
def iCrash_br (l : List (List UInt8 × Int)) (c : Int) (keep : Int) : Br := (Br.ite (smS l) (Br.ite (!(okStore l c)) (Br.ret (AV.agg ((AV.ref (0 : Nat) (0 : Nat)) :: ((AV.int .i64 (0 : Int)) :: ([] : (List (AV)))))) ((Ob.arr (Ty.pair Ty.str (Ty.int .i64)) (0 : Nat) false ([] : (List ((List UInt8) × Int)))) :: ([] : (List (Ob))))) (Br.ite (decide ((((0 : Nat) + (List.length l)) * (24 : Nat)) ≤ (140737488355328 : Nat))) (Br.ite (decide ((0 : Int) ≤ (wk64 (((List.length l) : Int) - (1 : Int))))) (Br.ite (decide ((wk64 (((List.length l) : Int) - (1 : Int))) < ((List.length l) : Int))) (Br.ite (decide ((0 : Int) ≤ (wk64 ((List.getD l (Int.toNat (wk64 (((List.length l) : Int) - (1 : Int)))) (([] : (List UInt8)), (0 : Int))).2 + (if ((wk64 (((List.length (List.getD l (Int.toNat (wk64 (((List.length l) : Int) - (1 : Int)))) (([] : (List UInt8)), (0 : Int))).1) : Int) - (List.getD l (Int.toNat (wk64 (((List.length l) : Int) - (1 : Int)))) (([] : (List UInt8)), (0 : Int))).2)) < (if ((0 : Int) < keep) then keep else (0 : Int))) then (wk64 (((List.length (List.getD l (Int.toNat (wk64 (((List.length l) : Int) - (1 : Int)))) (([] : (List UInt8)), (0 : Int))).1) : Int) - (List.getD l (Int.toNat (wk64 (((List.length l) : Int) - (1 : Int)))) (([] : (List UInt8)), (0 : Int))).2)) else (if ((0 : Int) < keep) then keep else (0 : Int))))))) (Br.ite (decide ((wk64 ((List.getD l (Int.toNat (wk64 (((List.length l) : Int) - (1 : Int)))) (([] : (List UInt8)), (0 : Int))).2 + (if ((wk64 (((List.length (List.getD l (Int.toNat (wk64 (((List.length l) : Int) - (1 : Int)))) (([] : (List UInt8)), (0 : Int))).1) : Int) - (List.getD l (Int.toNat (wk64 (((List.length l) : Int) - (1 : Int)))) (([] : (List UInt8)), (0 : Int))).2)) < (if ((0 : Int) < keep) then keep else (0 : Int))) then (wk64 (((List.length (List.getD l (Int.toNat (wk64 (((List.length l) : Int) - (1 : Int)))) (([] : (List UInt8)), (0 : Int))).1) : Int) - (List.getD l (Int.toNat (wk64 (((List.length l) : Int) - (1 : Int)))) (([] : (List UInt8)), (0 : Int))).2)) else (if ((0 : Int) < keep) then keep else (0 : Int))))) ≤ ((List.length (List.getD l (Int.toNat (wk64 (((List.length l) : Int) - (1 : Int)))) (([] : (List UInt8)), (0 : Int))).1) : Int))) (Br.ret (AV.agg ((AV.ref (0 : Nat) (0 : Nat)) :: ((AV.int .i64 c) :: ([] : (List (AV)))))) ((Ob.arr (Ty.pair Ty.str (Ty.int .i64)) (0 : Nat) false (List.set (List.set l (Int.toNat (wk64 (((List.length l) : Int) - (1 : Int)))) ((cut (List.getD l (Int.toNat (wk64 (((List.length l) : Int) - (1 : Int)))) (([] : (List UInt8)), (0 : Int))).1 (0 : Int) (wk64 ((List.getD l (Int.toNat (wk64 (((List.length l) : Int) - (1 : Int)))) (([] : (List UInt8)), (0 : Int))).2 + (if ((wk64 (((List.length (List.getD l (Int.toNat (wk64 (((List.length l) : Int) - (1 : Int)))) (([] : (List UInt8)), (0 : Int))).1) : Int) - (List.getD l (Int.toNat (wk64 (((List.length l) : Int) - (1 : Int)))) (([] : (List UInt8)), (0 : Int))).2)) < (if ((0 : Int) < keep) then keep else (0 : Int))) then (wk64 (((List.length (List.getD l (Int.toNat (wk64 (((List.length l) : Int) - (1 : Int)))) (([] : (List UInt8)), (0 : Int))).1) : Int) - (List.getD l (Int.toNat (wk64 (((List.length l) : Int) - (1 : Int)))) (([] : (List UInt8)), (0 : Int))).2)) else (if ((0 : Int) < keep) then keep else (0 : Int)))))), (List.getD l (Int.toNat (wk64 (((List.length l) : Int) - (1 : Int)))) (([] : (List UInt8)), (0 : Int))).2)) (Int.toNat (wk64 (((List.length l) : Int) - (1 : Int)))) ((List.getD (List.set l (Int.toNat (wk64 (((List.length l) : Int) - (1 : Int)))) ((cut (List.getD l (Int.toNat (wk64 (((List.length l) : Int) - (1 : Int)))) (([] : (List UInt8)), (0 : Int))).1 (0 : Int) (wk64 ((List.getD l (Int.toNat (wk64 (((List.length l) : Int) - (1 : Int)))) (([] : (List UInt8)), (0 : Int))).2 + (if ((wk64 (((List.length (List.getD l (Int.toNat (wk64 (((List.length l) : Int) - (1 : Int)))) (([] : (List UInt8)), (0 : Int))).1) : Int) - (List.getD l (Int.toNat (wk64 (((List.length l) : Int) - (1 : Int)))) (([] : (List UInt8)), (0 : Int))).2)) < (if ((0 : Int) < keep) then keep else (0 : Int))) then (wk64 (((List.length (List.getD l (Int.toNat (wk64 (((List.length l) : Int) - (1 : Int)))) (([] : (List UInt8)), (0 : Int))).1) : Int) - (List.getD l (Int.toNat (wk64 (((List.length l) : Int) - (1 : Int)))) (([] : (List UInt8)), (0 : Int))).2)) else (if ((0 : Int) < keep) then keep else (0 : Int)))))), (List.getD l (Int.toNat (wk64 (((List.length l) : Int) - (1 : Int)))) (([] : (List UInt8)), (0 : Int))).2)) (Int.toNat (wk64 (((List.length l) : Int) - (1 : Int)))) (([] : (List UInt8)), (0 : Int))).1, (wk64 ((List.getD l (Int.toNat (wk64 (((List.length l) : Int) - (1 : Int)))) (([] : (List UInt8)), (0 : Int))).2 + (if ((wk64 (((List.length (List.getD l (Int.toNat (wk64 (((List.length l) : Int) - (1 : Int)))) (([] : (List UInt8)), (0 : Int))).1) : Int) - (List.getD l (Int.toNat (wk64 (((List.length l) : Int) - (1 : Int)))) (([] : (List UInt8)), (0 : Int))).2)) < (if ((0 : Int) < keep) then keep else (0 : Int))) then (wk64 (((List.length (List.getD l (Int.toNat (wk64 (((List.length l) : Int) - (1 : Int)))) (([] : (List UInt8)), (0 : Int))).1) : Int) - (List.getD l (Int.toNat (wk64 (((List.length l) : Int) - (1 : Int)))) (([] : (List UInt8)), (0 : Int))).2)) else (if ((0 : Int) < keep) then keep else (0 : Int)))))))) :: ([] : (List (Ob))))) Br.fail) Br.fail) Br.fail) Br.fail) Br.fail)) Br.fail)
theorem iCrash_run (l : List (List UInt8 × Int)) (c : Int) (keep : Int) : runF Kx iCrash_C iCrash_O 1 Try.f6 ([.agg [.sh (.pair .str (.int .i64)) l, .int .i64 c], .int .i64 keep]) ([]) = (iCrash_br l c keep).val := by kernel_rfl
def iCrash_s : List AV → List Ob → Br
  | [.agg [.sh (.pair .str (.int .i64)) l, .int .i64 c], .int .i64 keep], [] => iCrash_br l c keep
  | _, _ => .fail
theorem iCrash_ok : Sound Kx 6 iCrash_s := by
  refine sound_run (C := iCrash_C) (O := iCrash_O) KOk iCrash_C_ok Try.func6 (by kernel_rfl) fun args objs res os h => ?_
  unfold iCrash_s at h
  split at h
  · exact ⟨1, (iCrash_run _ _ _).trans h⟩
  · cases h

/-! impl.Cut -/
def iCut_O : Opt := { cons := [41], keepNil := false, mutF := [], live := [], outs := [] }
def iCut_C : Spec := (add (add (add (add noS 25 iOk_s) 26 own_s) 30 last_s) 32 iwithin_s)
theorem iCut_C_ok : ∀ fn, Sound Kx fn (iCut_C fn) := (sound_add (sound_add (sound_add (sound_add (sound_no Kx) iOk_ok) own_ok) last_ok) iwithin_ok)
def iCut_br (l : List (List UInt8 × Int)) (c : Int) (n : Int) : Br := (Br.ite (smS l) (Br.ite (!(okStore l c)) (Br.ret (AV.tup ((AV.agg ((AV.ref (0 : Nat) (0 : Nat)) :: ((AV.int .i64 (0 : Int)) :: ([] : (List (AV)))))) :: ((AV.int .i64 (1 : Int)) :: ([] : (List (AV)))))) ((Ob.arr (Ty.pair Ty.str (Ty.int .i64)) (0 : Nat) false ([] : (List ((List UInt8) × Int)))) :: ([] : (List (Ob))))) (Br.ite (decide ((0 : Int) ≤ (wk64 (((List.length l) : Int) - (1 : Int))))) (Br.ite (decide ((wk64 (((List.length l) : Int) - (1 : Int))) < ((List.length l) : Int))) (Br.ite (decide ((0 : Int) ≤ n)) (Br.ite (!(decide (n ≤ ((List.length (List.getD l (Int.toNat (wk64 (((List.length l) : Int) - (1 : Int)))) (([] : (List UInt8)), (0 : Int))).1) : Int)))) (Br.ret (AV.tup ((AV.agg ((AV.ref (0 : Nat) (0 : Nat)) :: ((AV.int .i64 (0 : Int)) :: ([] : (List (AV)))))) :: ((AV.int .i64 (3 : Int)) :: ([] : (List (AV)))))) ((Ob.arr (Ty.pair Ty.str (Ty.int .i64)) (0 : Nat) false ([] : (List ((List UInt8) × Int)))) :: ([] : (List (Ob))))) (Br.ite (decide ((((0 : Nat) + (List.length l)) * (24 : Nat)) ≤ (140737488355328 : Nat))) (Br.ite (decide ((0 : Int) ≤ (wk64 (((List.length l) : Int) - (1 : Int))))) (Br.ite (decide ((wk64 (((List.length l) : Int) - (1 : Int))) < ((List.length l) : Int))) (Br.ite (decide (n = (0 : Int))) (Br.ite (decide ((1 : Int) < ((List.length l) : Int))) (Br.ite (decide ((0 : Int) ≤ (wk64 (((List.length l) : Int) - (1 : Int))))) (Br.ite (decide ((wk64 (((List.length l) : Int) - (1 : Int))) ≤ ((List.length l) : Int))) (Br.ret (AV.tup ((AV.agg ((AV.ref (0 : Nat) (0 : Nat)) :: ((AV.int .i64 c) :: ([] : (List (AV)))))) :: ((AV.int .i64 (0 : Int)) :: ([] : (List (AV)))))) ((Ob.arr (Ty.pair Ty.str (Ty.int .i64)) (0 : Nat) false (cut l (0 : Int) (wk64 (((List.length l) : Int) - (1 : Int))))) :: ([] : (List (Ob))))) Br.fail) Br.fail) (Br.ite (decide ((0 : Int) ≤ n)) (Br.ite (decide (n ≤ ((List.length (List.getD l (Int.toNat (wk64 (((List.length l) : Int) - (1 : Int)))) (([] : (List UInt8)), (0 : Int))).1) : Int))) (Br.ret (AV.tup ((AV.agg ((AV.ref (0 : Nat) (0 : Nat)) :: ((AV.int .i64 c) :: ([] : (List (AV)))))) :: ((AV.int .i64 (0 : Int)) :: ([] : (List (AV)))))) ((Ob.arr (Ty.pair Ty.str (Ty.int .i64)) (0 : Nat) false (List.set (List.set l (Int.toNat (wk64 (((List.length l) : Int) - (1 : Int)))) ((cut (List.getD l (Int.toNat (wk64 (((List.length l) : Int) - (1 : Int)))) (([] : (List UInt8)), (0 : Int))).1 (0 : Int) n), (List.getD l (Int.toNat (wk64 (((List.length l) : Int) - (1 : Int)))) (([] : (List UInt8)), (0 : Int))).2)) (Int.toNat (wk64 (((List.length l) : Int) - (1 : Int)))) ((List.getD (List.set l (Int.toNat (wk64 (((List.length l) : Int) - (1 : Int)))) ((cut (List.getD l (Int.toNat (wk64 (((List.length l) : Int) - (1 : Int)))) (([] : (List UInt8)), (0 : Int))).1 (0 : Int) n), (List.getD l (Int.toNat (wk64 (((List.length l) : Int) - (1 : Int)))) (([] : (List UInt8)), (0 : Int))).2)) (Int.toNat (wk64 (((List.length l) : Int) - (1 : Int)))) (([] : (List UInt8)), (0 : Int))).1, n))) :: ([] : (List (Ob))))) Br.fail) Br.fail)) (Br.ite (decide ((0 : Int) ≤ n)) (Br.ite (decide (n ≤ ((List.length (List.getD l (Int.toNat (wk64 (((List.length l) : Int) - (1 : Int)))) (([] : (List UInt8)), (0 : Int))).1) : Int))) (Br.ret (AV.tup ((AV.agg ((AV.ref (0 : Nat) (0 : Nat)) :: ((AV.int .i64 c) :: ([] : (List (AV)))))) :: ((AV.int .i64 (0 : Int)) :: ([] : (List (AV)))))) ((Ob.arr (Ty.pair Ty.str (Ty.int .i64)) (0 : Nat) false (List.set (List.set l (Int.toNat (wk64 (((List.length l) : Int) - (1 : Int)))) ((cut (List.getD l (Int.toNat (wk64 (((List.length l) : Int) - (1 : Int)))) (([] : (List UInt8)), (0 : Int))).1 (0 : Int) n), (List.getD l (Int.toNat (wk64 (((List.length l) : Int) - (1 : Int)))) (([] : (List UInt8)), (0 : Int))).2)) (Int.toNat (wk64 (((List.length l) : Int) - (1 : Int)))) ((List.getD (List.set l (Int.toNat (wk64 (((List.length l) : Int) - (1 : Int)))) ((cut (List.getD l (Int.toNat (wk64 (((List.length l) : Int) - (1 : Int)))) (([] : (List UInt8)), (0 : Int))).1 (0 : Int) n), (List.getD l (Int.toNat (wk64 (((List.length l) : Int) - (1 : Int)))) (([] : (List UInt8)), (0 : Int))).2)) (Int.toNat (wk64 (((List.length l) : Int) - (1 : Int)))) (([] : (List UInt8)), (0 : Int))).1, n))) :: ([] : (List (Ob))))) Br.fail) Br.fail)) Br.fail) Br.fail) Br.fail)) (Br.ret (AV.tup ((AV.agg ((AV.ref (0 : Nat) (0 : Nat)) :: ((AV.int .i64 (0 : Int)) :: ([] : (List (AV)))))) :: ((AV.int .i64 (3 : Int)) :: ([] : (List (AV)))))) ((Ob.arr (Ty.pair Ty.str (Ty.int .i64)) (0 : Nat) false ([] : (List ((List UInt8) × Int)))) :: ([] : (List (Ob)))))) Br.fail) Br.fail)) Br.fail)
theorem iCut_run (l : List (List UInt8 × Int)) (c : Int) (n : Int) : runF Kx iCut_C iCut_O 1 Try.f20 ([.agg [.sh (.pair .str (.int .i64)) l, .int .i64 c], .int .i64 n]) ([]) = (iCut_br l c n).val := by kernel_rfl
def iCut_s : List AV → List Ob → Br
  | [.agg [.sh (.pair .str (.int .i64)) l, .int .i64 c], .int .i64 n], [] => iCut_br l c n
  | _, _ => .fail
theorem iCut_ok : Sound Kx 20 iCut_s := by
  refine sound_run (C := iCut_C) (O := iCut_O) KOk iCut_C_ok Try.func20 (by kernel_rfl) fun args objs res os h => ?_
  unfold iCut_s at h
  split at h
  · exact ⟨1, (iCut_run _ _ _).trans h⟩
  · cases h

/-! spec.Roll -/
def sRoll_O : Opt := { cons := [], keepNil := false, mutF := [], live := [], outs := [] }
def sRoll_C : Spec := (add (add noS 7 sOk_s) 31 sSync_s)
theorem sRoll_C_ok : ∀ fn, Sound Kx fn (sRoll_C fn) := (sound_add (sound_add (sound_no Kx) sOk_ok) sSync_ok)
def sRoll_br (l : List (List UInt8 × Int)) (c : Int) : Br := (Br.ite (!(okStore l c)) (Br.ret (AV.tup ((AV.agg ((AV.ref (0 : Nat) (0 : Nat)) :: ((AV.int .i64 (0 : Int)) :: ([] : (List (AV)))))) :: ((AV.int .i64 (1 : Int)) :: ([] : (List (AV)))))) ((Ob.arr (Ty.pair Ty.str (Ty.int .i64)) (0 : Nat) false ([] : (List ((List UInt8) × Int)))) :: ([] : (List (Ob))))) (Br.ite (decide ((0 : Int) ≤ (wk64 (((List.length l) : Int) - (1 : Int))))) (Br.ite (decide ((wk64 (((List.length l) : Int) - (1 : Int))) < ((List.length l) : Int))) (Br.ite (decide (((List.length (List.getD l (Int.toNat (wk64 (((List.length l) : Int) - (1 : Int)))) (([] : (List UInt8)), (0 : Int))).1) : Int) = (0 : Int))) (Br.ret (AV.tup ((AV.agg ((AV.ref (0 : Nat) (0 : Nat)) :: ((AV.int .i64 (0 : Int)) :: ([] : (List (AV)))))) :: ((AV.int .i64 (3 : Int)) :: ([] : (List (AV)))))) ((Ob.arr (Ty.pair Ty.str (Ty.int .i64)) (0 : Nat) false ([] : (List ((List UInt8) × Int)))) :: ([] : (List (Ob))))) (Br.ite (decide (((List.length l) : Int) = (40 : Int))) (Br.ret (AV.tup ((AV.agg ((AV.ref (0 : Nat) (0 : Nat)) :: ((AV.int .i64 (0 : Int)) :: ([] : (List (AV)))))) :: ((AV.int .i64 (2 : Int)) :: ([] : (List (AV)))))) ((Ob.arr (Ty.pair Ty.str (Ty.int .i64)) (0 : Nat) false ([] : (List ((List UInt8) × Int)))) :: ([] : (List (Ob))))) (Br.ite (!(okStore l c)) (Br.ret (AV.tup ((AV.agg ((AV.ref (0 : Nat) (0 : Nat)) :: ((AV.int .i64 (0 : Int)) :: ([] : (List (AV)))))) :: ((AV.int .i64 (0 : Int)) :: ([] : (List (AV)))))) ((Ob.arr (Ty.pair Ty.str (Ty.int .i64)) (0 : Nat) false (List.set (List.replicate (1 : Nat) (([] : (List UInt8)), (0 : Int))) (0 : Nat) (([] : (List UInt8)), (0 : Int)))) :: ([] : (List (Ob))))) (Br.ite (decide ((((0 : Nat) + (List.length l)) * (24 : Nat)) ≤ (140737488355328 : Nat))) (Br.ite (decide ((0 : Int) ≤ (wk64 (((List.length l) : Int) - (1 : Int))))) (Br.ite (decide ((wk64 (((List.length l) : Int) - (1 : Int))) < ((List.length l) : Int))) (Br.ite (decide ((0 : Int) ≤ (wk64 (((List.length l) : Int) - (1 : Int))))) (Br.ite (decide ((wk64 (((List.length l) : Int) - (1 : Int))) < ((List.length l) : Int))) (Br.ite (decide ((0 : Int) ≤ (wk64 (((List.length l) : Int) - (1 : Int))))) (Br.ite (decide ((wk64 (((List.length l) : Int) - (1 : Int))) < ((List.length l) : Int))) (Br.ite (decide ((((List.length (List.set l (Int.toNat (wk64 (((List.length l) : Int) - (1 : Int)))) ((List.getD l (Int.toNat (wk64 (((List.length l) : Int) - (1 : Int)))) (([] : (List UInt8)), (0 : Int))).1, ((List.length (List.getD l (Int.toNat (wk64 (((List.length l) : Int) - (1 : Int)))) (([] : (List UInt8)), (0 : Int))).1) : Int)))) + (1 : Nat)) * (24 : Nat)) ≤ (140737488355328 : Nat))) (Br.ret (AV.tup ((AV.agg ((AV.ref (0 : Nat) (0 : Nat)) :: ((AV.int .i64 c) :: ([] : (List (AV)))))) :: ((AV.int .i64 (0 : Int)) :: ([] : (List (AV)))))) ((Ob.arr (Ty.pair Ty.str (Ty.int .i64)) (0 : Nat) false ((List.set l (Int.toNat (wk64 (((List.length l) : Int) - (1 : Int)))) ((List.getD l (Int.toNat (wk64 (((List.length l) : Int) - (1 : Int)))) (([] : (List UInt8)), (0 : Int))).1, ((List.length (List.getD l (Int.toNat (wk64 (((List.length l) : Int) - (1 : Int)))) (([] : (List UInt8)), (0 : Int))).1) : Int))) ++ (List.set (List.replicate (1 : Nat) (([] : (List UInt8)), (0 : Int))) (0 : Nat) (([] : (List UInt8)), (0 : Int))))) :: ([] : (List (Ob))))) Br.fail) Br.fail) Br.fail) Br.fail) Br.fail) Br.fail) Br.fail) Br.fail)))) Br.fail) Br.fail))
theorem sRoll_run (l : List (List UInt8 × Int)) (c : Int) : runF Kx sRoll_C sRoll_O 1 Try.f19 ([.agg [.sh (.pair .str (.int .i64)) l, .int .i64 c]]) ([]) = (sRoll_br l c).val := by kernel_rfl
def sRoll_s : List AV → List Ob → Br
  | [.agg [.sh (.pair .str (.int .i64)) l, .int .i64 c]], [] => sRoll_br l c
  | _, _ => .fail
theorem sRoll_ok : Sound Kx 19 sRoll_s := by
  refine sound_run (C := sRoll_C) (O := sRoll_O) KOk sRoll_C_ok Try.func19 (by kernel_rfl) fun args objs res os h => ?_
  unfold sRoll_s at h
  split at h
  · exact ⟨1, (sRoll_run _ _).trans h⟩
  · cases h

/-! impl.Roll -/
def iRoll_O : Opt := { cons := [], keepNil := false, mutF := [], live := [], outs := [] }
def iRoll_C : Spec := (add (add (add noS 25 iOk_s) 30 last_s) 16 iSync_s)
theorem iRoll_C_ok : ∀ fn, Sound Kx fn (iRoll_C fn) := (sound_add (sound_add (sound_add (sound_no Kx) iOk_ok) last_ok) iSync_ok)
def iRoll_br (l : List (List UInt8 × Int)) (c : Int) : Br := (Br.ite (smS l) (Br.ite (!(okStore l c)) (Br.ret (AV.tup ((AV.agg ((AV.ref (0 : Nat) (0 : Nat)) :: ((AV.int .i64 (0 : Int)) :: ([] : (List (AV)))))) :: ((AV.int .i64 (1 : Int)) :: ([] : (List (AV)))))) ((Ob.arr (Ty.pair Ty.str (Ty.int .i64)) (0 : Nat) false ([] : (List ((List UInt8) × Int)))) :: ([] : (List (Ob))))) (Br.ite (decide ((0 : Int) ≤ (wk64 (((List.length l) : Int) - (1 : Int))))) (Br.ite (decide ((wk64 (((List.length l) : Int) - (1 : Int))) < ((List.length l) : Int))) (Br.ite (decide ((List.getD l (Int.toNat (wk64 (((List.length l) : Int) - (1 : Int)))) (([] : (List UInt8)), (0 : Int))).1 = ([] : (List UInt8)))) (Br.ret (AV.tup ((AV.agg ((AV.ref (0 : Nat) (0 : Nat)) :: ((AV.int .i64 (0 : Int)) :: ([] : (List (AV)))))) :: ((AV.int .i64 (3 : Int)) :: ([] : (List (AV)))))) ((Ob.arr (Ty.pair Ty.str (Ty.int .i64)) (0 : Nat) false ([] : (List ((List UInt8) × Int)))) :: ([] : (List (Ob))))) (Br.ite (decide (((List.length l) : Int) = (40 : Int))) (Br.ret (AV.tup ((AV.agg ((AV.ref (0 : Nat) (0 : Nat)) :: ((AV.int .i64 (0 : Int)) :: ([] : (List (AV)))))) :: ((AV.int .i64 (2 : Int)) :: ([] : (List (AV)))))) ((Ob.arr (Ty.pair Ty.str (Ty.int .i64)) (0 : Nat) false ([] : (List ((List UInt8) × Int)))) :: ([] : (List (Ob))))) (Br.ite (smS l) (Br.ite (!(okStore l c)) (Br.ret (AV.tup ((AV.agg ((AV.ref (0 : Nat) (0 : Nat)) :: ((AV.int .i64 (0 : Int)) :: ([] : (List (AV)))))) :: ((AV.int .i64 (0 : Int)) :: ([] : (List (AV)))))) ((Ob.arr (Ty.pair Ty.str (Ty.int .i64)) (0 : Nat) false (List.set (List.replicate (1 : Nat) (([] : (List UInt8)), (0 : Int))) (0 : Nat) (([] : (List UInt8)), (0 : Int)))) :: ([] : (List (Ob))))) (Br.ite (decide ((((0 : Nat) + (List.length l)) * (24 : Nat)) ≤ (140737488355328 : Nat))) (Br.ite (decide ((0 : Int) ≤ (wk64 (((List.length l) : Int) - (1 : Int))))) (Br.ite (decide ((wk64 (((List.length l) : Int) - (1 : Int))) < ((List.length l) : Int))) (Br.ite (decide ((((List.length (List.set l (Int.toNat (wk64 (((List.length l) : Int) - (1 : Int)))) ((List.getD l (Int.toNat (wk64 (((List.length l) : Int) - (1 : Int)))) (([] : (List UInt8)), (0 : Int))).1, ((List.length (List.getD l (Int.toNat (wk64 (((List.length l) : Int) - (1 : Int)))) (([] : (List UInt8)), (0 : Int))).1) : Int)))) + (1 : Nat)) * (24 : Nat)) ≤ (140737488355328 : Nat))) (Br.ret (AV.tup ((AV.agg ((AV.ref (0 : Nat) (0 : Nat)) :: ((AV.int .i64 c) :: ([] : (List (AV)))))) :: ((AV.int .i64 (0 : Int)) :: ([] : (List (AV)))))) ((Ob.arr (Ty.pair Ty.str (Ty.int .i64)) (0 : Nat) false ((List.set l (Int.toNat (wk64 (((List.length l) : Int) - (1 : Int)))) ((List.getD l (Int.toNat (wk64 (((List.length l) : Int) - (1 : Int)))) (([] : (List UInt8)), (0 : Int))).1, ((List.length (List.getD l (Int.toNat (wk64 (((List.length l) : Int) - (1 : Int)))) (([] : (List UInt8)), (0 : Int))).1) : Int))) ++ (List.set (List.replicate (1 : Nat) (([] : (List UInt8)), (0 : Int))) (0 : Nat) (([] : (List UInt8)), (0 : Int))))) :: ([] : (List (Ob))))) Br.fail) Br.fail) Br.fail) Br.fail)) Br.fail))) Br.fail) Br.fail)) Br.fail)
theorem iRoll_run (l : List (List UInt8 × Int)) (c : Int) : runF Kx iRoll_C iRoll_O 1 Try.f18 ([.agg [.sh (.pair .str (.int .i64)) l, .int .i64 c]]) ([]) = (iRoll_br l c).val := by kernel_rfl
def iRoll_s : List AV → List Ob → Br
  | [.agg [.sh (.pair .str (.int .i64)) l, .int .i64 c]], [] => iRoll_br l c
  | _, _ => .fail
theorem iRoll_ok : Sound Kx 18 iRoll_s := by
  refine sound_run (C := iRoll_C) (O := iRoll_O) KOk iRoll_C_ok Try.func18 (by kernel_rfl) fun args objs res os h => ?_
  unfold iRoll_s at h
  split at h
  · exact ⟨1, (iRoll_run _ _).trans h⟩
  · cases h

/-! impl.Append -/
def iAppend_O : Opt := { cons := [], keepNil := false, mutF := [], live := [], outs := [] }
def iAppend_C : Spec := (add (add (add noS 25 iOk_s) 38 used_s) 26 own_s)
theorem iAppend_C_ok : ∀ fn, Sound Kx fn (iAppend_C fn) := (sound_add (sound_add (sound_add (sound_no Kx) iOk_ok) used_ok) own_ok)
def iAppend_br (l : List (List UInt8 × Int)) (c : Int) (b : List UInt8) : Br := (Br.ite (smS l) (Br.ite (!(okStore l c)) (Br.ret (AV.tup ((AV.agg ((AV.ref (0 : Nat) (0 : Nat)) :: ((AV.int .i64 (0 : Int)) :: ([] : (List (AV)))))) :: ((AV.int .i64 (1 : Int)) :: ([] : (List (AV)))))) ((Ob.arr (Ty.pair Ty.str (Ty.int .i64)) (0 : Nat) false ([] : (List ((List UInt8) × Int)))) :: ([] : (List (Ob))))) (Br.ite ((decide ((List.length l) ≤ (281474976710656 : Nat))) && (decide ((total l) ≤ (4611686018427387904 : Nat)))) (Br.ite (decide ((wk64 (c - (((total l) : Nat) : Int))) < ((List.length b) : Int))) (Br.ret (AV.tup ((AV.agg ((AV.ref (0 : Nat) (0 : Nat)) :: ((AV.int .i64 (0 : Int)) :: ([] : (List (AV)))))) :: ((AV.int .i64 (2 : Int)) :: ([] : (List (AV)))))) ((Ob.arr (Ty.pair Ty.str (Ty.int .i64)) (0 : Nat) false ([] : (List ((List UInt8) × Int)))) :: ([] : (List (Ob))))) (Br.ite (decide ((((0 : Nat) + (List.length l)) * (24 : Nat)) ≤ (140737488355328 : Nat))) (Br.ite (decide ((0 : Int) ≤ (wk64 (((List.length l) : Int) - (1 : Int))))) (Br.ite (decide ((wk64 (((List.length l) : Int) - (1 : Int))) < ((List.length l) : Int))) (Br.ite (decide (((List.length (List.getD l (Int.toNat (wk64 (((List.length l) : Int) - (1 : Int)))) (([] : (List UInt8)), (0 : Int))).1) + (List.length b)) ≤ (9223372036854775807 : Nat))) (Br.ret (AV.tup ((AV.agg ((AV.ref (0 : Nat) (0 : Nat)) :: ((AV.int .i64 c) :: ([] : (List (AV)))))) :: ((AV.int .i64 (0 : Int)) :: ([] : (List (AV)))))) ((Ob.arr (Ty.pair Ty.str (Ty.int .i64)) (0 : Nat) false (List.set l (Int.toNat (wk64 (((List.length l) : Int) - (1 : Int)))) (((List.getD l (Int.toNat (wk64 (((List.length l) : Int) - (1 : Int)))) (([] : (List UInt8)), (0 : Int))).1 ++ b), (List.getD l (Int.toNat (wk64 (((List.length l) : Int) - (1 : Int)))) (([] : (List UInt8)), (0 : Int))).2))) :: ([] : (List (Ob))))) Br.fail) Br.fail) Br.fail) Br.fail)) Br.fail)) Br.fail)
theorem iAppend_run (l : List (List UInt8 × Int)) (c : Int) (b : List UInt8) : runF Kx iAppend_C iAppend_O 1 Try.f28 ([.agg [.sh (.pair .str (.int .i64)) l, .int .i64 c], .str b]) ([]) = (iAppend_br l c b).val := by kernel_rfl
def iAppend_s : List AV → List Ob → Br
  | [.agg [.sh (.pair .str (.int .i64)) l, .int .i64 c], .str b], [] => iAppend_br l c b
  | _, _ => .fail
theorem iAppend_ok : Sound Kx 28 iAppend_s := by
  refine sound_run (C := iAppend_C) (O := iAppend_O) KOk iAppend_C_ok Try.func28 (by kernel_rfl) fun args objs res os h => ?_
  unfold iAppend_s at h
  split at h
  · exact ⟨1, (iAppend_run _ _ _).trans h⟩
  · cases h

/-! spec.AllBytes -/
def sAll_O : Opt := { cons := [], keepNil := false, mutF := [], live := [(5, [1, 3, 4])], outs := [(5, [2, 3])] }
def sAll_C : Spec := (add noS 7 sOk_s)
theorem sAll_C_ok : ∀ fn, Sound Kx fn (sAll_C fn) := (sound_add (sound_no Kx) sOk_ok)
def sAll_T5 (v5x0 : Int) (v5x1 : (List ((List UInt8) × Int))) (v5x2 : Int) (v5x3 : (List Int)) (kR5 : Int → (List ((List UInt8) × Int)) → Int → (List Int) → Option Rs) (k5e0 : (List Int) → Option Rs) : Option Rs :=
  (bif (decide (v5x0 < ((List.length v5x1) : Int))) then (bif (decide ((0 : Int) ≤ v5x0)) then (bif (decide (v5x0 < ((List.length v5x1) : Int))) then (bif (decide ((((List.length v5x3) + (List.length (bytesOf (List.getD v5x1 (Int.toNat v5x0) (([] : (List UInt8)), (0 : Int))).1))) * (1 : Nat)) ≤ (140737488355328 : Nat))) then (kR5 (wk64 (v5x0 + (1 : Int))) v5x1 v5x2 (v5x3 ++ (bytesOf (List.getD v5x1 (Int.toNat v5x0) (([] : (List UInt8)), (0 : Int))).1))) else (none)) else (none)) else (none)) else (k5e0 v5x3))
def sAll_F5 : Nat → Int → (List ((List UInt8) × Int)) → Int → (List Int) → ((List Int) → Option Rs) → Option Rs
  | 0, _, _, _, _, _ => none
  | n + 1, v5x0, v5x1, v5x2, v5x3, k5e0 => sAll_T5 v5x0 v5x1 v5x2 v5x3 (fun v5x0 v5x1 v5x2 v5x3 => sAll_F5 n v5x0 v5x1 v5x2 v5x3 k5e0) k5e0
def sAll_h5 (v5x0 : Int) (v5x1 : (List ((List UInt8) × Int))) (v5x2 : Int) (v5x3 : (List Int)) : St := (St.mk (slots 0 25 [(1, (AV.ptr (128 : Nat) (0 : Nat))), (3, (AV.ref (256 : Nat) (0 : Nat))), (4, (AV.int .i64 v5x0))]) (((128 : Nat), (Ob.var ((AV.sh (Ty.pair Ty.str (Ty.int .i64)) v5x1) :: ((AV.int .i64 v5x2) :: ([] : (List (AV))))))) :: (((256 : Nat), (Ob.arr (Ty.int .u8) (0 : Nat) false v5x3)) :: ([] : (List (Nat × (Ob)))))))
def sAll_x5e0 (x5x0x0 : (List Int)) : St := (St.mk (slots 0 25 [(3, (AV.ref (256 : Nat) (0 : Nat)))]) (((256 : Nat), (Ob.arr (Ty.int .u8) (0 : Nat) false x5x0x0)) :: ([] : (List (Nat × (Ob))))))
noncomputable def sAll_b5 : Code := codeAt (codeOf Try.f9) [1, 1, 1, 0, 1, 0, 0]
def sAll_L5 (N : Nat) (st : St) (k : Ex → St → Option Rs) : Option Rs := match takeF [1, 3, 4] 0 25 st.env, st.objs with
  | some [.ptr 128 0, .ref 256 0, .int .i64 v5x0], [(128, .var [.sh (Ty.pair Ty.str (Ty.int .i64)) v5x1, .int .i64 v5x2]), (256, .arr (Ty.int .u8) 0 false v5x3)] => sAll_F5 N v5x0 v5x1 v5x2 v5x3 (fun x5x0x0 => k (Ex.exit (0 : Nat)) (sAll_x5e0 x5x0x0))
  | _, _ => none
def sAll_L (N : Nat) : Lam := fun j st k => match j with
  | 5 => sAll_L5 N st k
  | _ => none
theorem sAll_round5 (N : Nat) (again : St → Option Rs) (k : Ex → St → Option Rs) (wv5x0 : Int) (wv5x1 : (List ((List UInt8) × Int))) (wv5x2 : Int) (wv5x3 : (List Int)) (v5x0 : Int) (v5x1 : (List ((List UInt8) × Int))) (v5x2 : Int) (v5x3 : (List Int)) :
    roundK 0 (fun st k => evL Kx sAll_C sAll_O 0 (sAll_L N) sAll_b5 st k) (sAll_h5 wv5x0 wv5x1 wv5x2 wv5x3).env again (sAll_h5 v5x0 v5x1 v5x2 v5x3) (outK sAll_O 0 sAll_b5 k) = sAll_T5 v5x0 v5x1 v5x2 v5x3 (fun v5x0 v5x1 v5x2 v5x3 => again (sAll_h5 v5x0 v5x1 v5x2 v5x3)) (fun x5x0x0 => k (Ex.exit (0 : Nat)) (sAll_x5e0 x5x0x0)) := by kernel_rfl
theorem sAll_loop5 (N : Nat) (k : Ex → St → Option Rs) (wv5x0 : Int) (wv5x1 : (List ((List UInt8) × Int))) (wv5x2 : Int) (wv5x3 : (List Int)) : ∀ (n : Nat) (v5x0 : Int) (v5x1 : (List ((List UInt8) × Int))) (v5x2 : Int) (v5x3 : (List Int)),
    loopK 0 (fun st k => evL Kx sAll_C sAll_O 0 (sAll_L N) sAll_b5 st k) (sAll_h5 wv5x0 wv5x1 wv5x2 wv5x3).env n (sAll_h5 v5x0 v5x1 v5x2 v5x3) (outK sAll_O 0 sAll_b5 k) = sAll_F5 n v5x0 v5x1 v5x2 v5x3 (fun x5x0x0 => k (Ex.exit (0 : Nat)) (sAll_x5e0 x5x0x0))
  | 0, _, _, _, _ => rfl
  | n + 1, v5x0, v5x1, v5x2, v5x3 => by
    rw [loopK_succ, sAll_round5]
    simp only [sAll_loop5 N k wv5x0 wv5x1 wv5x2 wv5x3 n]
    rfl
theorem sAll_at5 (N : Nat) {s : St} {k : Ex → St → Option Rs} {r : Rs} (h : sAll_L5 N s k = some r) : ∃ (v5x0 : Int) (v5x1 : (List ((List UInt8) × Int))) (v5x2 : Int) (v5x3 : (List Int)), s = (sAll_h5 v5x0 v5x1 v5x2 v5x3) ∧ sAll_F5 N v5x0 v5x1 v5x2 v5x3 (fun x5x0x0 => k (Ex.exit (0 : Nat)) (sAll_x5e0 x5x0x0)) = some r := by
  cases s with | mk env objs =>
  unfold sAll_L5 at h
  split at h
  · rename_i e1 e2
    have e3 := takeF_slots _ _ _ _ e1
    simp only at e2 e3
    subst e2 e3
    exact ⟨_, _, _, _, rfl, h⟩
  · cases h
theorem sAll_in5 : loops sAll_b5 = [] := by kernel_rfl
theorem sAll_lid5 : lid sAll_b5 = 5 := by kernel_rfl
theorem sAll_ok5 (N : Nat) : OkL Kx sAll_C sAll_O 0 N (sAll_L N) sAll_b5 := by
  intro s k k' r hk h
  rw [sAll_lid5] at h
  obtain ⟨v5x0, v5x1, v5x2, v5x3, rfl, h⟩ := sAll_at5 N h
  refine loopL (Λ := sAll_L N) sAll_b5 ?_ N hk ((sAll_loop5 N k v5x0 v5x1 v5x2 v5x3 N v5x0 v5x1 v5x2 v5x3).trans h)
  rw [sAll_in5]
  exact fun _ h => nomatch h
def sAll_run (N : Nat) (l : List (List UInt8 × Int)) (c : Int) : Option Rs := (bif (!(okStore l c)) then (some ((AV.str ([] : (List UInt8))), ([] : (List (Ob))))) else (sAll_F5 N (0 : Int) l c ([] : (List Int)) (fun x5x0x0 => (some ((AV.str (ofBytes x5x0x0)), ([] : (List (Ob))))))))
theorem sAll_runL (N : Nat) (l : List (List UInt8 × Int)) (c : Int) : runL Kx sAll_C sAll_O (sAll_L N) Try.f9 ([.agg [.sh (.pair .str (.int .i64)) l, .int .i64 c]]) ([]) = sAll_run N l c := by kernel_rfl
theorem sAll_body : Try.f9.body = some (codeOf Try.f9) := by kernel_rfl
theorem sAll_loops : loops (codeOf Try.f9) = [sAll_b5] := by kernel_rfl
theorem sAll_ev (N : Nat) (l : List (List UInt8 × Int)) (c : Int) {res_ : Rs} (hyp_ : sAll_run N l c = some res_) : ∃ n_, runF Kx sAll_C sAll_O n_ Try.f9 ([.agg [.sh (.pair .str (.int .i64)) l, .int .i64 c]]) ([]) = some res_ :=
  ⟨N, runL_runF sAll_body (by rw [sAll_loops]; exact List.forall_mem_cons.2 ⟨sAll_ok5 N, fun _ h => nomatch h⟩) ((sAll_runL N l c).trans hyp_)⟩
def sAll_sOf (φ : (List (List UInt8 × Int)) → Int → Br) : List AV → List Ob → Br
  | [.agg [.sh (.pair .str (.int .i64)) l, .int .i64 c]], [] => φ l c
  | _, _ => .fail
theorem sAll_okOf {φ : (List (List UInt8 × Int)) → Int → Br} (fu : (List (List UInt8 × Int)) → Int → Nat) (hv : ∀ l c res_, (φ l c).val = some res_ → sAll_run (fu l c) l c = some res_) : Sound Kx 9 (sAll_sOf φ) := by
  refine sound_run (C := sAll_C) (O := sAll_O) KOk sAll_C_ok Try.func9 (by kernel_rfl) fun args objs res os h => ?_
  unfold sAll_sOf at h
  split at h
  · exact sAll_ev _ _ _ (hv _ _ _ h)
  · cases h

end
end Go.Proofs.Ytmigffdeghfbhaa.Ev

namespace Go.Proofs.Ytmigffdeghfbhaa.Ev
open Go Go.RowKit
set_option linter.unusedVariables false
set_option linter.unusedSimpArgs false

/-! The last segment. -/
theorem total_snoc : ∀ (pre : Segs) (a : List UInt8 × Int), total (pre ++ [a]) = total pre + a.1.length
  | [], a => by simp [total]
  | b :: r, a => by simp only [List.cons_append, total, total_snoc r a]; omega
theorem shape_snoc : ∀ (pre : Segs) (a : List UInt8 × Int), shape (pre ++ [a]) = true → 0 ≤ a.2 ∧ a.2 ≤ (a.1.length : Int)
  | [], a, h => by simpa [shape] using h
  | b :: r, a, h => by
    simp only [List.cons_append, shape, Bool.and_eq_true] at h
    exact shape_snoc r a h.2
theorem okStore_last {l : Segs} {c : Int} (h : okStore l c = true) : ∃ pre a, l = pre ++ [a] ∧ pre.length ≤ 39 ∧ 0 ≤ a.2 ∧ a.2 ≤ (a.1.length : Int) ∧ a.1.length ≤ 60000 ∧ 0 ≤ c ∧ c ≤ 60000 ∧ (total l : Int) ≤ c := by
  unfold okStore at h
  simp only [Bool.and_eq_true, decide_eq_true_eq] at h
  obtain ⟨⟨⟨⟨h1, h2⟩, h3⟩, h4⟩, h5, h6⟩ := h
  have hne : l ≠ [] := by intro e; rw [e] at h3; simp at h3
  refine ⟨l.dropLast, l.getLast hne, (List.dropLast_concat_getLast hne).symm, by simp; omega, ?_⟩
  have e := List.dropLast_concat_getLast hne
  rw [← e] at h5
  have h7 := shape_snoc _ _ h5
  have h8 := total_snoc l.dropLast (l.getLast hne)
  rw [e] at h8
  exact ⟨h7.1, h7.2, by omega, h1, h2, h6⟩

def lastS (l : Segs) : List UInt8 × Int := l.getD (l.length - 1) ([], 0)
theorem lastS_snoc (pre : Segs) (a : List UInt8 × Int) : lastS (pre ++ [a]) = a := by simp [lastS]
/-- The last segment, changed. -/
def updS (l : Segs) (f : List UInt8 × Int → List UInt8 × Int) : Segs := l.take (l.length - 1) ++ [f (lastS l)]
theorem updS_snoc (pre : Segs) (a : List UInt8 × Int) (f : List UInt8 × Int → List UInt8 × Int) : updS (pre ++ [a]) f = pre ++ [f a] := by simp [updS, lastS_snoc]

section
variable (pre : Segs) (a : List UInt8 × Int) (hp : pre.length ≤ 39)
include hp
theorem f1 : decide (((0 : Nat) + (pre ++ [a]).length) * 24 ≤ 140737488355328) = true := by rw [decide_eq_true_eq, List.length_append, List.length_singleton]; omega
theorem f3 : wk64 (((pre ++ [a]).length : Int) - 1) = (pre.length : Int) := by rw [List.length_append, List.length_singleton, w64 (by omega) (by omega)]; omega
omit hp
theorem f4 : decide ((0 : Int) ≤ (pre.length : Int)) = true := by simp
theorem f5 : decide ((pre.length : Int) < ((pre ++ [a]).length : Int)) = true := by rw [decide_eq_true_eq, List.length_append, List.length_singleton]; omega
theorem f5' : decide ((pre.length : Int) ≤ ((pre ++ [a]).length : Int)) = true := by rw [decide_eq_true_eq, List.length_append, List.length_singleton]; omega
theorem f6 : (pre ++ [a]).getD pre.length ([], 0) = a := getD_mid pre a [] _
theorem f7 (b : List UInt8 × Int) : (pre ++ [a]).set pre.length b = pre ++ [b] := set_mid pre a b []
theorem f8 (b : List UInt8 × Int) : (pre ++ [b]).length = (pre ++ [a]).length := by simp
end

def segsOb (l : Segs) : List Ob := [.arr (.pair .str (.int .i64)) 0 false l]
def stRet (p : Segs × Int) : Option Rs := some (.agg [.ref 0 0, .int .i64 p.2], segsOb p.1)
def stRet2 (p : Segs × Int × Int) : Option Rs := some (.tup [.agg [.ref 0 0, .int .i64 p.2.1], .int .i64 p.2.2], segsOb p.1)

/-! Sync -/
def syncP (l : Segs) (c : Int) : Segs × Int := bif okStore l c then (updS l fun a => (a.1, (a.1.length : Int)), c) else ([], 0)
theorem sSync_val (l : Segs) (c : Int) : (sSync_br l c).val = stRet (syncP l c) := by
  unfold sSync_br syncP
  cases hk : okStore l c with
  | false => rfl
  | true =>
    obtain ⟨pre, a, rfl, hp, h1, h2, h3, h4, h5, h6⟩ := okStore_last hk
    simp only [Bool.not_true, Br.val, f1 pre a hp, f3 pre a hp, f4, f5, Int.toNat_natCast, f6, f7, cond_true, updS_snoc]
    rfl
theorem iSync_val (l : Segs) (c : Int) (hs : smS l = true) : (iSync_br l c).val = stRet (syncP l c) := by
  unfold iSync_br syncP
  cases hk : okStore l c with
  | false => simp only [hs]; rfl
  | true =>
    obtain ⟨pre, a, rfl, hp, h1, h2, h3, h4, h5, h6⟩ := okStore_last hk
    simp only [hs, Bool.not_true, Br.val, f1 pre a hp, f3 pre a hp, f4, f5, Int.toNat_natCast, f6, f7, cond_true, updS_snoc]
    rfl

/-! Crash -/
def crashN (a : List UInt8 × Int) (keep : Int) : Int := bif decide (keep < (a.1.length : Int) - a.2) then (bif decide (0 < keep) then a.2 + keep else a.2) else (a.1.length : Int)
def crashP (l : Segs) (c keep : Int) : Segs × Int := bif okStore l c then (updS l fun a => (cut a.1 0 (crashN a keep), crashN a keep), c) else ([], 0)
theorem crashN_in (a : List UInt8 × Int) (keep : Int) (h1 : 0 ≤ a.2) (h2 : a.2 ≤ (a.1.length : Int)) : 0 ≤ crashN a keep ∧ crashN a keep ≤ (a.1.length : Int) := by
  unfold crashN
  by_cases h3 : keep < (a.1.length : Int) - a.2
  · by_cases h4 : 0 < keep
    · simp only [h3, h4, decide_true, cond_true]; omega
    · simp only [h3, h4, decide_true, decide_false, cond_true, cond_false]; omega
  · simp only [h3, decide_false, cond_false]; omega
theorem iCrash_val (l : Segs) (c keep : Int) (hs : smS l = true) : (iCrash_br l c keep).val = stRet (crashP l c keep) := by
  unfold iCrash_br crashP
  cases hk : okStore l c with
  | false => simp only [hs]; rfl
  | true =>
    obtain ⟨pre, a, rfl, hp, h1, h2, h3, h4, h5, h6⟩ := okStore_last hk
    have hc := crashN_in a keep h1 h2
    have e1 : wk64 ((a.1.length : Int) - a.2) = (a.1.length : Int) - a.2 := w64 (by omega) (by omega)
    have e2 : wk64 (a.2 + (if (a.1.length : Int) - a.2 < (if 0 < keep then keep else 0) then (a.1.length : Int) - a.2 else (if 0 < keep then keep else 0))) = crashN a keep := by
      unfold crashN
      by_cases h7 : keep < (a.1.length : Int) - a.2
      · by_cases h8 : 0 < keep
        · have : ¬ (a.1.length : Int) - a.2 < keep := by omega
          simp only [h7, h8, this, if_true, if_false, decide_true, cond_true]
          exact w64 (by omega) (by omega)
        · have : ¬ (a.1.length : Int) - a.2 < 0 := by omega
          simp only [h7, h8, this, if_true, if_false, decide_true, decide_false, cond_true, cond_false]
          rw [w64 (by omega) (by omega)]; omega
      · by_cases h8 : 0 < keep
        · simp only [h7, h8, if_true, decide_true, decide_false, cond_true, cond_false]
          by_cases h9 : (a.1.length : Int) - a.2 < keep
          · simp only [h9, if_true]; rw [w64 (by omega) (by omega)]; omega
          · simp only [h9, if_false]; rw [w64 (by omega) (by omega)]; omega
        · have : ¬ (a.1.length : Int) - a.2 < 0 := by omega
          simp only [h7, h8, this, if_false, decide_true, decide_false, cond_true, cond_false]
          rw [w64 (by omega) (by omega)]; omega
    simp only [hs, Bool.not_true, Br.val, f1 pre a hp, f3 pre a hp, f4, f5, Int.toNat_natCast, f6, f7, cond_true, updS_snoc, e1, e2]
    simp only [hc, decide_true, f4, f5, f6, f7]
    rfl

/-! Cut -/
def stCutP (l : Segs) (c n : Int) : Segs × Int × Int := bif okStore l c then (bif decide (n < 0) || decide (((lastS l).1.length : Int) < n) then ([], 0, 3) else bif decide (n = 0) && decide (1 < l.length) then (l.take (l.length - 1), c, 0) else (updS l fun a => (cut a.1 0 n, n), c, 0)) else ([], 0, 1)
theorem stCut_pre (pre : Segs) (a : List UInt8 × Int) : cut (pre ++ [a]) 0 (pre.length : Int) = (pre ++ [a]).take ((pre ++ [a]).length - 1) := by simp [cut]
theorem len2 (pre : Segs) (a : List UInt8 × Int) : decide ((1 : Int) < ((pre ++ [a]).length : Int)) = decide (1 < (pre ++ [a]).length) := by
  congr 1; apply propext; omega
theorem iCut_val (l : Segs) (c n : Int) (hs : smS l = true) : (iCut_br l c n).val = stRet2 (stCutP l c n) := by
  unfold iCut_br stCutP
  cases hk : okStore l c with
  | false => simp only [hs]; rfl
  | true =>
    obtain ⟨pre, a, rfl, hp, h1, h2, h3, h4, h5, h6⟩ := okStore_last hk
    simp only [hs, Bool.not_true, Br.val, f1 pre a hp, f3 pre a hp, f4, f5, f5', Int.toNat_natCast, f6, f7, cond_true, updS_snoc, lastS_snoc, stCut_pre, len2 pre a]
    by_cases h7 : n < 0
    · have g1 : ¬ 0 ≤ n := by omega
      simp only [h7, g1, decide_true, decide_false, Bool.true_or, cond_true]; rfl
    · have g1 : 0 ≤ n := by omega
      by_cases h8 : (a.1.length : Int) < n
      · have g2 : ¬ n ≤ (a.1.length : Int) := by omega
        simp only [h7, h8, g1, g2, decide_true, decide_false, Bool.or_true, cond_true, Bool.not_false]; rfl
      · have g2 : n ≤ (a.1.length : Int) := by omega
        simp only [h7, h8, g1, g2, decide_true, decide_false, Bool.or_false, cond_false, Bool.not_true]
        cases hn : decide (n = 0) with
        | false => rfl
        | true =>
          simp only [Bool.true_and]
          cases decide (1 < (pre ++ [a]).length) <;> rfl

/-! Roll -/
def rollP (l : Segs) (c : Int) : Segs × Int × Int := bif okStore l c then (bif decide ((lastS l).1 = []) then ([], 0, 3) else bif decide ((l.length : Int) = 40) then ([], 0, 2) else ((updS l fun a => (a.1, (a.1.length : Int))) ++ [([], 0)], c, 0)) else ([], 0, 1)
theorem nil_len (d : List UInt8) : decide ((d.length : Int) = 0) = decide (d = []) := by
  congr 1; apply propext
  exact ⟨fun h => List.length_eq_zero_iff.1 (by omega), fun h => by rw [h]; rfl⟩
theorem f9 (pre : Segs) (hp : pre.length ≤ 39) (b : List UInt8 × Int) : decide (((pre ++ [b]).length + 1) * 24 ≤ 140737488355328) = true := by rw [decide_eq_true_eq, List.length_append, List.length_singleton]; omega
theorem sRoll_val (l : Segs) (c : Int) : (sRoll_br l c).val = stRet2 (rollP l c) := by
  unfold sRoll_br rollP
  cases hk : okStore l c with
  | false => rfl
  | true =>
    obtain ⟨pre, a, rfl, hp, h1, h2, h3, h4, h5, h6⟩ := okStore_last hk
    simp only [Bool.not_true, Br.val, f1 pre a hp, f3 pre a hp, f4, f5, f5', Int.toNat_natCast, f6, f7, cond_true, updS_snoc, lastS_snoc, nil_len, f9 pre hp]
    cases decide (a.1 = []) <;> cases decide (((pre ++ [a]).length : Int) = 40) <;> rfl
theorem iRoll_val (l : Segs) (c : Int) (hs : smS l = true) : (iRoll_br l c).val = stRet2 (rollP l c) := by
  unfold iRoll_br rollP
  cases hk : okStore l c with
  | false => simp only [hs]; rfl
  | true =>
    obtain ⟨pre, a, rfl, hp, h1, h2, h3, h4, h5, h6⟩ := okStore_last hk
    simp only [hs, Bool.not_true, Br.val, f1 pre a hp, f3 pre a hp, f4, f5, f5', Int.toNat_natCast, f6, f7, cond_true, updS_snoc, lastS_snoc, nil_len, f9 pre hp]
    cases decide (a.1 = []) <;> cases decide (((pre ++ [a]).length : Int) = 40) <;> rfl

/-! Append -/
def appendP (l : Segs) (c : Int) (b : List UInt8) : Segs × Int × Int := bif okStore l c then (bif decide (c - (total l : Int) < (b.length : Int)) then ([], 0, 2) else (updS l fun a => (a.1 ++ b, a.2), c, 0)) else ([], 0, 1)
theorem iAppend_val (l : Segs) (c : Int) (b : List UInt8) (hs : smS l = true) : (iAppend_br l c b).val = stRet2 (appendP l c b) := by
  unfold iAppend_br appendP
  cases hk : okStore l c with
  | false => simp only [hs]; rfl
  | true =>
    obtain ⟨pre, a, rfl, hp, h1, h2, h3, h4, h5, h6⟩ := okStore_last hk
    have g1 : (decide ((pre ++ [a]).length ≤ 281474976710656) && decide (total (pre ++ [a]) ≤ 4611686018427387904)) = true := by
      rw [Bool.and_eq_true, decide_eq_true_eq, decide_eq_true_eq, List.length_append, List.length_singleton]; omega
    have g2 : wk64 (c - ((total (pre ++ [a]) : Nat) : Int)) = c - (total (pre ++ [a]) : Int) := w64 (by omega) (by omega)
    simp only [hs, g1, g2, Bool.not_true, Br.val, f1 pre a hp, f3 pre a hp, f4, f5, f5', Int.toNat_natCast, f6, f7, cond_true, updS_snoc, lastS_snoc]
    by_cases h7 : c - (total (pre ++ [a]) : Int) < (b.length : Int)
    · simp only [h7, decide_true, cond_true]; rfl
    · have g3 : decide (a.1.length + b.length ≤ 9223372036854775807) = true := by rw [decide_eq_true_eq]; omega
      simp only [h7, g3, decide_false, cond_false]; rfl

/-! spec.AllBytes -/
def allB : Segs → List UInt8
  | [] => []
  | a :: r => a.1 ++ allB r
theorem allB_len : ∀ (l : Segs), (allB l).length = total l
  | [] => rfl
  | a :: r => by simp [allB, total, allB_len r]
theorem ofBytes_bytesOf (s : List UInt8) : ofBytes (bytesOf s) = s := by
  induction s with
  | nil => rfl
  | cons a s ih =>
    simp only [bytesOf, ofBytes, List.map_cons, Int.toNat_natCast] at ih ⊢
    rw [ih]; simp
theorem sAll_loop (c : Int) (l : Segs) (hl : l.length ≤ 40) (k : List Int → Option Rs) (r : Segs) : ∀ (pre : Segs) (n : Nat) (acc : List UInt8), r.length < n → pre ++ r = l → acc.length + total r ≤ 60000 →
    sAll_F5 n (pre.length : Int) l c (bytesOf acc) k = k (bytesOf (acc ++ allB r)) := by
  induction r with
  | nil =>
    intro pre n acc hn hp ht
    obtain ⟨n, rfl⟩ : ∃ m, n = m + 1 := ⟨n - 1, by simp at hn; omega⟩
    have e1 : decide ((pre.length : Int) < (l.length : Int)) = false := by rw [← hp]; simp
    unfold sAll_F5 sAll_T5
    simp only [e1, cond_false, allB, List.append_nil]
  | cons a r ihr =>
    intro pre n acc hn hp ht
    obtain ⟨n, rfl⟩ : ∃ m, n = m + 1 := ⟨n - 1, by omega⟩
    have hlen : l.length = pre.length + r.length + 1 := by rw [← hp]; simp; omega
    have e1 : decide ((pre.length : Int) < (l.length : Int)) = true := by rw [hlen]; simp; omega
    have e2 : decide ((0 : Int) ≤ (pre.length : Int)) = true := by simp
    have e4 : l.getD pre.length ([], 0) = a := by rw [← hp]; exact getD_mid ..
    simp only [total] at ht
    have e5 : decide (((bytesOf acc).length + (bytesOf a.1).length) * 1 ≤ 140737488355328) = true := by rw [decide_eq_true_eq]; simp only [bytesOf, List.length_map]; omega
    have ih := ihr (pre ++ [a]) n (acc ++ a.1) (by simp at hn; omega) (by rw [← cat_one]; exact hp) (by rw [List.length_append]; omega)
    unfold sAll_F5 sAll_T5
    simp only [e1, e2, e4, e5, cond_true, Int.toNat_natCast]
    rw [next_len pre a (by omega), show bytesOf acc ++ bytesOf a.1 = bytesOf (acc ++ a.1) by simp [bytesOf], ih]
    simp only [allB, List.append_assoc]
def sAll_br (l : Segs) (c : Int) : Br := .ret (.str (bif okStore l c then allB l else [])) []
def sAll_s := sAll_sOf sAll_br
theorem sAll_ok : Sound Kx 9 sAll_s := by
  refine sAll_okOf (fun l _ => l.length + 1) fun l c r h => ?_
  cases h
  unfold sAll_run
  cases hk : okStore l c with
  | false => rfl
  | true =>
    unfold okStore at hk
    simp only [Bool.and_eq_true, decide_eq_true_eq] at hk
    refine (sAll_loop c l hk.1.2 (fun x => some (.str (ofBytes x), [])) l [] (l.length + 1) [] (by omega) rfl (by simp only [List.length_nil]; omega)).trans ?_
    simp only [ofBytes_bytesOf, List.nil_append, cond_true]

/-! The short specs. -/
def retP (p : Segs × Int) : Br := .ret (.agg [.ref 0 0, .int .i64 p.2]) (segsOb p.1)
def retP2 (p : Segs × Int × Int) : Br := .ret (.tup [.agg [.ref 0 0, .int .i64 p.2.1], .int .i64 p.2.2]) (segsOb p.1)
def syncQ_s : List AV → List Ob → Br
  | [.agg [.sh (.pair .str (.int .i64)) l, .int .i64 c]], [] => .ite (smS l) (retP (syncP l c)) .fail
  | _, _ => .fail
def crashQ_s : List AV → List Ob → Br
  | [.agg [.sh (.pair .str (.int .i64)) l, .int .i64 c], .int .i64 k], [] => .ite (smS l) (retP (crashP l c k)) .fail
  | _, _ => .fail
def cutQ_s : List AV → List Ob → Br
  | [.agg [.sh (.pair .str (.int .i64)) l, .int .i64 c], .int .i64 k], [] => .ite (smS l) (retP2 (stCutP l c k)) .fail
  | _, _ => .fail
def rollQ_s : List AV → List Ob → Br
  | [.agg [.sh (.pair .str (.int .i64)) l, .int .i64 c]], [] => .ite (smS l) (retP2 (rollP l c)) .fail
  | _, _ => .fail
def appendQ_s : List AV → List Ob → Br
  | [.agg [.sh (.pair .str (.int .i64)) l, .int .i64 c], .str b], [] => .ite (smS l) (retP2 (appendP l c b)) .fail
  | _, _ => .fail
theorem sSync_okQ : Sound Kx 31 syncQ_s := sSync_ok.of fun args objs r h => by
  unfold syncQ_s at h
  split at h
  · exact (sSync_val _ _).trans (ite_some h).2
  · cases h
theorem iSync_okQ : Sound Kx 16 syncQ_s := iSync_ok.of fun args objs r h => by
  unfold syncQ_s at h
  split at h
  · exact (iSync_val _ _ (ite_some h).1).trans (ite_some h).2
  · cases h
theorem iCrash_okQ : Sound Kx 6 crashQ_s := iCrash_ok.of fun args objs r h => by
  unfold crashQ_s at h
  split at h
  · exact (iCrash_val _ _ _ (ite_some h).1).trans (ite_some h).2
  · cases h
theorem iCut_okQ : Sound Kx 20 cutQ_s := iCut_ok.of fun args objs r h => by
  unfold cutQ_s at h
  split at h
  · exact (iCut_val _ _ _ (ite_some h).1).trans (ite_some h).2
  · cases h
theorem sRoll_okQ : Sound Kx 19 rollQ_s := sRoll_ok.of fun args objs r h => by
  unfold rollQ_s at h
  split at h
  · exact (sRoll_val _ _).trans (ite_some h).2
  · cases h
theorem iRoll_okQ : Sound Kx 18 rollQ_s := iRoll_ok.of fun args objs r h => by
  unfold rollQ_s at h
  split at h
  · exact (iRoll_val _ _ (ite_some h).1).trans (ite_some h).2
  · cases h
theorem iAppend_okQ : Sound Kx 28 appendQ_s := iAppend_ok.of fun args objs r h => by
  unfold appendQ_s at h
  split at h
  · exact (iAppend_val _ _ _ (ite_some h).1).trans (ite_some h).2
  · cases h

end Go.Proofs.Ytmigffdeghfbhaa.Ev

namespace Go.Proofs.Ytmigffdeghfbhaa.Ev
open Go Go.RowKit
set_option linter.unusedVariables false
set_option linter.unusedSimpArgs false
noncomputable section

/-! spec.Used -/
def sUsed_O : Opt := { cons := [], keepNil := false, mutF := [], live := [], outs := [] }
def sUsed_C : Spec := (add (add noS 7 sOk_s) 9 sAll_s)
theorem sUsed_C_ok : ∀ fn, Sound Kx fn (sUsed_C fn) := (sound_add (sound_add (sound_no Kx) sOk_ok) sAll_ok)
def sUsed_br (l : List (List UInt8 × Int)) (c : Int) : Br := (Br.ite (!(okStore l c)) (Br.ret (AV.int .i64 (-(1 : Int))) ([] : (List (Ob)))) (Br.ret (AV.int .i64 ((List.length (bif (okStore l c) then (allB l) else ([] : (List UInt8)))) : Int)) ([] : (List (Ob)))))
theorem sUsed_run (l : List (List UInt8 × Int)) (c : Int) : runF Kx sUsed_C sUsed_O 1 Try.f36 ([.agg [.sh (.pair .str (.int .i64)) l, .int .i64 c]]) ([]) = (sUsed_br l c).val := by kernel_rfl
def sUsed_s : List AV → List Ob → Br
  | [.agg [.sh (.pair .str (.int .i64)) l, .int .i64 c]], [] => sUsed_br l c
  | _, _ => .fail
theorem sUsed_ok : Sound Kx 36 sUsed_s := by
  refine sound_run (C := sUsed_C) (O := sUsed_O) KOk sUsed_C_ok Try.func36 (by kernel_rfl) fun args objs res os h => ?_
  unfold sUsed_s at h
  split at h
  · exact ⟨1, (sUsed_run _ _).trans h⟩
  · cases h

/-! spec.Append -/
def sAppend_O : Opt := { cons := [], keepNil := false, mutF := [], live := [], outs := [] }
def sAppend_C : Spec := (add (add (add noS 7 sOk_s) 41 copy_s) 36 sUsed_s)
theorem sAppend_C_ok : ∀ fn, Sound Kx fn (sAppend_C fn) := (sound_add (sound_add (sound_add (sound_no Kx) sOk_ok) copy_ok) sUsed_ok)
def sAppend_br (l : List (List UInt8 × Int)) (c : Int) (b : List UInt8) : Br := (Br.ite (!(okStore l c)) (Br.ret (AV.tup ((AV.agg ((AV.ref (0 : Nat) (0 : Nat)) :: ((AV.int .i64 (0 : Int)) :: ([] : (List (AV)))))) :: ((AV.int .i64 (1 : Int)) :: ([] : (List (AV)))))) ((Ob.arr (Ty.pair Ty.str (Ty.int .i64)) (0 : Nat) false ([] : (List ((List UInt8) × Int)))) :: ([] : (List (Ob))))) (Br.ite (!(okStore l c)) (Br.ite (decide ((wk64 (c - (-(1 : Int)))) < ((List.length b) : Int))) (Br.ret (AV.tup ((AV.agg ((AV.ref (0 : Nat) (0 : Nat)) :: ((AV.int .i64 (0 : Int)) :: ([] : (List (AV)))))) :: ((AV.int .i64 (2 : Int)) :: ([] : (List (AV)))))) ((Ob.arr (Ty.pair Ty.str (Ty.int .i64)) (0 : Nat) false ([] : (List ((List UInt8) × Int)))) :: ([] : (List (Ob))))) (Br.ite (decide ((((0 : Nat) + (List.length l)) * (24 : Nat)) ≤ (140737488355328 : Nat))) (Br.ite (decide ((0 : Int) ≤ (wk64 (((List.length l) : Int) - (1 : Int))))) (Br.ite (decide ((wk64 (((List.length l) : Int) - (1 : Int))) < ((List.length l) : Int))) (Br.ite (decide (((List.length (List.getD l (Int.toNat (wk64 (((List.length l) : Int) - (1 : Int)))) (([] : (List UInt8)), (0 : Int))).1) + (List.length b)) ≤ (9223372036854775807 : Nat))) (Br.ite (decide ((0 : Int) ≤ (wk64 (((List.length l) : Int) - (1 : Int))))) (Br.ite (decide ((wk64 (((List.length l) : Int) - (1 : Int))) < ((List.length l) : Int))) (Br.ite (decide ((0 : Int) ≤ (wk64 (((List.length l) : Int) - (1 : Int))))) (Br.ite (decide ((wk64 (((List.length l) : Int) - (1 : Int))) < ((List.length l) : Int))) (Br.ret (AV.tup ((AV.agg ((AV.ref (0 : Nat) (0 : Nat)) :: ((AV.int .i64 c) :: ([] : (List (AV)))))) :: ((AV.int .i64 (0 : Int)) :: ([] : (List (AV)))))) ((Ob.arr (Ty.pair Ty.str (Ty.int .i64)) (0 : Nat) false (List.set l (Int.toNat (wk64 (((List.length l) : Int) - (1 : Int)))) (((List.getD l (Int.toNat (wk64 (((List.length l) : Int) - (1 : Int)))) (([] : (List UInt8)), (0 : Int))).1 ++ b), (List.getD l (Int.toNat (wk64 (((List.length l) : Int) - (1 : Int)))) (([] : (List UInt8)), (0 : Int))).2))) :: ([] : (List (Ob))))) Br.fail) Br.fail) Br.fail) Br.fail) Br.fail) Br.fail) Br.fail) Br.fail)) (Br.ite (decide ((wk64 (c - ((List.length (bif (okStore l c) then (allB l) else ([] : (List UInt8)))) : Int))) < ((List.length b) : Int))) (Br.ret (AV.tup ((AV.agg ((AV.ref (0 : Nat) (0 : Nat)) :: ((AV.int .i64 (0 : Int)) :: ([] : (List (AV)))))) :: ((AV.int .i64 (2 : Int)) :: ([] : (List (AV)))))) ((Ob.arr (Ty.pair Ty.str (Ty.int .i64)) (0 : Nat) false ([] : (List ((List UInt8) × Int)))) :: ([] : (List (Ob))))) (Br.ite (decide ((((0 : Nat) + (List.length l)) * (24 : Nat)) ≤ (140737488355328 : Nat))) (Br.ite (decide ((0 : Int) ≤ (wk64 (((List.length l) : Int) - (1 : Int))))) (Br.ite (decide ((wk64 (((List.length l) : Int) - (1 : Int))) < ((List.length l) : Int))) (Br.ite (decide (((List.length (List.getD l (Int.toNat (wk64 (((List.length l) : Int) - (1 : Int)))) (([] : (List UInt8)), (0 : Int))).1) + (List.length b)) ≤ (9223372036854775807 : Nat))) (Br.ite (decide ((0 : Int) ≤ (wk64 (((List.length l) : Int) - (1 : Int))))) (Br.ite (decide ((wk64 (((List.length l) : Int) - (1 : Int))) < ((List.length l) : Int))) (Br.ite (decide ((0 : Int) ≤ (wk64 (((List.length l) : Int) - (1 : Int))))) (Br.ite (decide ((wk64 (((List.length l) : Int) - (1 : Int))) < ((List.length l) : Int))) (Br.ret (AV.tup ((AV.agg ((AV.ref (0 : Nat) (0 : Nat)) :: ((AV.int .i64 c) :: ([] : (List (AV)))))) :: ((AV.int .i64 (0 : Int)) :: ([] : (List (AV)))))) ((Ob.arr (Ty.pair Ty.str (Ty.int .i64)) (0 : Nat) false (List.set l (Int.toNat (wk64 (((List.length l) : Int) - (1 : Int)))) (((List.getD l (Int.toNat (wk64 (((List.length l) : Int) - (1 : Int)))) (([] : (List UInt8)), (0 : Int))).1 ++ b), (List.getD l (Int.toNat (wk64 (((List.length l) : Int) - (1 : Int)))) (([] : (List UInt8)), (0 : Int))).2))) :: ([] : (List (Ob))))) Br.fail) Br.fail) Br.fail) Br.fail) Br.fail) Br.fail) Br.fail) Br.fail))))
theorem sAppend_run (l : List (List UInt8 × Int)) (c : Int) (b : List UInt8) : runF Kx sAppend_C sAppend_O 1 Try.f43 ([.agg [.sh (.pair .str (.int .i64)) l, .int .i64 c], .str b]) ([]) = (sAppend_br l c b).val := by kernel_rfl
def sAppend_s : List AV → List Ob → Br
  | [.agg [.sh (.pair .str (.int .i64)) l, .int .i64 c], .str b], [] => sAppend_br l c b
  | _, _ => .fail
theorem sAppend_ok : Sound Kx 43 sAppend_s := by
  refine sound_run (C := sAppend_C) (O := sAppend_O) KOk sAppend_C_ok Try.func43 (by kernel_rfl) fun args objs res os h => ?_
  unfold sAppend_s at h
  split at h
  · exact ⟨1, (sAppend_run _ _ _).trans h⟩
  · cases h

end
end Go.Proofs.Ytmigffdeghfbhaa.Ev

namespace Go.Proofs.Ytmigffdeghfbhaa.Ev
open Go Go.RowKit
set_option linter.unusedVariables false
set_option linter.unusedSimpArgs false

theorem sAppend_val (l : Segs) (c : Int) (b : List UInt8) : (sAppend_br l c b).val = stRet2 (appendP l c b) := by
  unfold sAppend_br appendP
  cases hk : okStore l c with
  | false => rfl
  | true =>
    obtain ⟨pre, a, rfl, hp, h1, h2, h3, h4, h5, h6⟩ := okStore_last hk
    have g2 : wk64 (c - ((allB (pre ++ [a])).length : Int)) = c - (total (pre ++ [a]) : Int) := by rw [allB_len]; exact w64 (by omega) (by omega)
    simp only [Bool.not_true, Br.val, cond_true, g2, f1 pre a hp, f3 pre a hp, f4, f5, f5', Int.toNat_natCast, f6, f7, updS_snoc, lastS_snoc]
    by_cases h7 : c - (total (pre ++ [a]) : Int) < (b.length : Int)
    · simp only [h7, decide_true, cond_true]; rfl
    · have g3 : decide (a.1.length + b.length ≤ 9223372036854775807) = true := by rw [decide_eq_true_eq]; omega
      simp only [h7, g3, decide_false, cond_false]; rfl
theorem sAppend_okQ : Sound Kx 43 appendQ_s := sAppend_ok.of fun args objs r h => by
  unfold appendQ_s at h
  split at h
  · exact (sAppend_val _ _ _).trans (ite_some h).2
  · cases h

/-! Sizes. -/
theorem t1 (n : Nat) : decide ((1 : Int) + 2 * (n : Int) < 0) = false := by simp; omega
end Go.Proofs.Ytmigffdeghfbhaa.Ev

namespace Go.Proofs.Ytmigffdeghfbhaa.Ev
open Go Go.RowKit
set_option linter.unusedVariables false
set_option linter.unusedSimpArgs false
noncomputable section

/-! spec.l1New -/
def l1New_O : Opt := { cons := [], keepNil := false, mutF := [], live := [(3, [0, 3, 4])], outs := [(3, [0, 2, 3])] }
def l1New_T3 (v3x0 : (List Int)) (v3x1 : Int) (v3x2 : Int) (kR3 : (List Int) → Int → Int → Option Rs) (k3e0 : (List Int) → Int → Option Rs) : Option Rs :=
  (bif (decide (v3x2 < ((List.length v3x0) : Int))) then (bif (decide (v3x2 < (4000 : Int))) then (bif (decide ((0 : Int) ≤ v3x2)) then (bif (decide (v3x2 < ((List.length v3x0) : Int))) then (kR3 v3x0 (wkk .i64 (((BitVec.toNat ((BitVec.ofInt (64 : Nat) (wk64 ((wk64 ((wk64 (v3x1 * (131 : Int))) + (wk64 (List.getD v3x0 (Int.toNat v3x2) (0 : Int))))) + (7 : Int)))) &&& (BitVec.ofInt (64 : Nat) (1073741823 : Int)))) : Nat) : Int)) (wk64 (v3x2 + (1 : Int)))) else (none)) else (none)) else (k3e0 v3x0 v3x1)) else (k3e0 v3x0 v3x1))
def l1New_F3 : Nat → (List Int) → Int → Int → ((List Int) → Int → Option Rs) → Option Rs
  | 0, _, _, _, _ => none
  | n + 1, v3x0, v3x1, v3x2, k3e0 => l1New_T3 v3x0 v3x1 v3x2 (fun v3x0 v3x1 v3x2 => l1New_F3 n v3x0 v3x1 v3x2 k3e0) k3e0
def l1New_h3 (v3x0 : (List Int)) (v3x1 : Int) (v3x2 : Int) : St := (St.mk (slots 0 32 [(0, (AV.sh (Ty.int .u8) v3x0)), (3, (AV.int .i64 v3x1)), (4, (AV.int .i64 v3x2))]) ([] : (List (Nat × (Ob)))))
def l1New_x3e0 (x3x0x0 : (List Int)) (x3x0x1 : Int) : St := (St.mk (slots 0 32 [(0, (AV.sh (Ty.int .u8) x3x0x0)), (3, (AV.int .i64 x3x0x1))]) ([] : (List (Nat × (Ob)))))
noncomputable def l1New_b3 : Code := codeAt (codeOf Try.f21) [1, 1, 0, 1, 0, 0]
def l1New_L3 (N : Nat) (st : St) (k : Ex → St → Option Rs) : Option Rs := match takeF [0, 3, 4] 0 32 st.env, st.objs with
  | some [.sh (Ty.int .u8) v3x0, .int .i64 v3x1, .int .i64 v3x2], [] => l1New_F3 N v3x0 v3x1 v3x2 (fun x3x0x0 x3x0x1 => k (Ex.exit (0 : Nat)) (l1New_x3e0 x3x0x0 x3x0x1))
  | _, _ => none
def l1New_L (N : Nat) : Lam := fun j st k => match j with
  | 3 => l1New_L3 N st k
  | _ => none
theorem l1New_round3 (N : Nat) (again : St → Option Rs) (k : Ex → St → Option Rs) (wv3x0 : (List Int)) (wv3x1 : Int) (wv3x2 : Int) (v3x0 : (List Int)) (v3x1 : Int) (v3x2 : Int) :
    roundK 0 (fun st k => evL Kx noS l1New_O 0 (l1New_L N) l1New_b3 st k) (l1New_h3 wv3x0 wv3x1 wv3x2).env again (l1New_h3 v3x0 v3x1 v3x2) (outK l1New_O 0 l1New_b3 k) = l1New_T3 v3x0 v3x1 v3x2 (fun v3x0 v3x1 v3x2 => again (l1New_h3 v3x0 v3x1 v3x2)) (fun x3x0x0 x3x0x1 => k (Ex.exit (0 : Nat)) (l1New_x3e0 x3x0x0 x3x0x1)) := by kernel_rfl
theorem l1New_loop3 (N : Nat) (k : Ex → St → Option Rs) (wv3x0 : (List Int)) (wv3x1 : Int) (wv3x2 : Int) : ∀ (n : Nat) (v3x0 : (List Int)) (v3x1 : Int) (v3x2 : Int),
    loopK 0 (fun st k => evL Kx noS l1New_O 0 (l1New_L N) l1New_b3 st k) (l1New_h3 wv3x0 wv3x1 wv3x2).env n (l1New_h3 v3x0 v3x1 v3x2) (outK l1New_O 0 l1New_b3 k) = l1New_F3 n v3x0 v3x1 v3x2 (fun x3x0x0 x3x0x1 => k (Ex.exit (0 : Nat)) (l1New_x3e0 x3x0x0 x3x0x1))
  | 0, _, _, _ => rfl
  | n + 1, v3x0, v3x1, v3x2 => by
    rw [loopK_succ, l1New_round3]
    simp only [l1New_loop3 N k wv3x0 wv3x1 wv3x2 n]
    rfl
theorem l1New_at3 (N : Nat) {s : St} {k : Ex → St → Option Rs} {r : Rs} (h : l1New_L3 N s k = some r) : ∃ (v3x0 : (List Int)) (v3x1 : Int) (v3x2 : Int), s = (l1New_h3 v3x0 v3x1 v3x2) ∧ l1New_F3 N v3x0 v3x1 v3x2 (fun x3x0x0 x3x0x1 => k (Ex.exit (0 : Nat)) (l1New_x3e0 x3x0x0 x3x0x1)) = some r := by
  cases s with | mk env objs =>
  unfold l1New_L3 at h
  split at h
  · rename_i e1 e2
    have e3 := takeF_slots _ _ _ _ e1
    simp only at e2 e3
    subst e2 e3
    exact ⟨_, _, _, rfl, h⟩
  · cases h
theorem l1New_in3 : loops l1New_b3 = [] := by kernel_rfl
theorem l1New_lid3 : lid l1New_b3 = 3 := by kernel_rfl
theorem l1New_ok3 (N : Nat) : OkL Kx noS l1New_O 0 N (l1New_L N) l1New_b3 := by
  intro s k k' r hk h
  rw [l1New_lid3] at h
  obtain ⟨v3x0, v3x1, v3x2, rfl, h⟩ := l1New_at3 N h
  refine loopL (Λ := l1New_L N) l1New_b3 ?_ N hk ((l1New_loop3 N k v3x0 v3x1 v3x2 N v3x0 v3x1 v3x2).trans h)
  rw [l1New_in3]
  exact fun _ h => nomatch h
def l1New_run (N : Nat) (code : List Int) : Option Rs := (l1New_F3 N code (wk64 ((64242 : Int) + ((List.length code) : Int))) (0 : Int) (fun x3x0x0 => (fun x3x0x1 => (some ((AV.ptr (0 : Nat) (0 : Nat)), ((Ob.var ((AV.sh (Ty.int .u8) x3x0x0) :: ((AV.int .i64 (0 : Int)) :: ((AV.int .i64 x3x0x1) :: ([] : (List (AV))))))) :: ([] : (List (Ob)))))))))
theorem l1New_runL (N : Nat) (code : List Int) : runL Kx noS l1New_O (l1New_L N) Try.f21 ([.sh (.int .u8) code]) ([]) = l1New_run N code := by kernel_rfl
theorem l1New_body : Try.f21.body = some (codeOf Try.f21) := by kernel_rfl
theorem l1New_loops : loops (codeOf Try.f21) = [l1New_b3] := by kernel_rfl
theorem l1New_ev (N : Nat) (code : List Int) {res_ : Rs} (hyp_ : l1New_run N code = some res_) : ∃ n_, runF Kx noS l1New_O n_ Try.f21 ([.sh (.int .u8) code]) ([]) = some res_ :=
  ⟨N, runL_runF l1New_body (by rw [l1New_loops]; exact List.forall_mem_cons.2 ⟨l1New_ok3 N, fun _ h => nomatch h⟩) ((l1New_runL N code).trans hyp_)⟩
def l1New_sOf (φ : (List Int) → Br) : List AV → List Ob → Br
  | [.sh (.int .u8) code], [] => φ code
  | _, _ => .fail
theorem l1New_okOf {φ : (List Int) → Br} (fu : (List Int) → Nat) (hv : ∀ code res_, (φ code).val = some res_ → l1New_run (fu code) code = some res_) : Sound Kx 21 (l1New_sOf φ) := by
  refine sound_run (C := noS) (O := l1New_O) KOk (sound_no Kx) Try.func21 (by kernel_rfl) fun args objs res os h => ?_
  unfold l1New_sOf at h
  split at h
  · exact l1New_ev _ _ (hv _ _ h)
  · cases h

/-! spec.l1Byte -/
def l1Byte_O : Opt := { cons := [], keepNil := false, mutF := [], live := [], outs := [] }
def l1Byte_br (code : List Int) (i h : Int) : Br := (Br.ite (decide (i < ((List.length code) : Int))) (Br.ite (decide ((0 : Int) ≤ i)) (Br.ite (decide (i < ((List.length code) : Int))) (Br.ret (AV.int .i64 (wkk .i64 (((BitVec.toNat ((BitVec.ofInt (64 : Nat) (wk64 ((wkk .i64 (((BitVec.toNat ((BitVec.ofInt (64 : Nat) (wkk .i64 (((BitVec.toNat ((BitVec.ofInt (64 : Nat) (Int.fdiv (wk64 ((wk64 (h * (6364136223846793005 : Int))) + (1442695040888963407 : Int))) (8589934592 : Int))) ^^^ (BitVec.ofInt (64 : Nat) (Int.fdiv (wk64 ((wk64 (h * (6364136223846793005 : Int))) + (1442695040888963407 : Int))) (35184372088832 : Int))))) : Nat) : Int))) &&& (BitVec.ofInt (64 : Nat) (255 : Int)))) : Nat) : Int)) + (wk64 (List.getD code (Int.toNat i) (0 : Int)))))) &&& (BitVec.ofInt (64 : Nat) (255 : Int)))) : Nat) : Int))) ((Ob.var ((AV.sh (Ty.int .u8) code) :: ((AV.int .i64 (wk64 (i + (1 : Int)))) :: ((AV.int .i64 (wk64 ((wk64 (h * (6364136223846793005 : Int))) + (1442695040888963407 : Int)))) :: ([] : (List (AV))))))) :: ([] : (List (Ob))))) Br.fail) Br.fail) (Br.ret (AV.int .i64 (wkk .i64 (((BitVec.toNat ((BitVec.ofInt (64 : Nat) (wkk .i64 (((BitVec.toNat ((BitVec.ofInt (64 : Nat) (Int.fdiv (wk64 ((wk64 (h * (6364136223846793005 : Int))) + (1442695040888963407 : Int))) (8589934592 : Int))) ^^^ (BitVec.ofInt (64 : Nat) (Int.fdiv (wk64 ((wk64 (h * (6364136223846793005 : Int))) + (1442695040888963407 : Int))) (35184372088832 : Int))))) : Nat) : Int))) &&& (BitVec.ofInt (64 : Nat) (255 : Int)))) : Nat) : Int))) ((Ob.var ((AV.sh (Ty.int .u8) code) :: ((AV.int .i64 i) :: ((AV.int .i64 (wk64 ((wk64 (h * (6364136223846793005 : Int))) + (1442695040888963407 : Int)))) :: ([] : (List (AV))))))) :: ([] : (List (Ob))))))
theorem l1Byte_run (code : List Int) (i h : Int) : runF Kx noS l1Byte_O 1 Try.f37 ([.ptr 0 0]) ([.var [.sh (.int .u8) code, .int .i64 i, .int .i64 h]]) = (l1Byte_br code i h).val := by kernel_rfl
def l1Byte_s : List AV → List Ob → Br
  | [.ptr 0 0], [.var [.sh (.int .u8) code, .int .i64 i, .int .i64 h]] => l1Byte_br code i h
  | _, _ => .fail
theorem l1Byte_ok : Sound Kx 37 l1Byte_s := by
  refine sound_run (C := noS) (O := l1Byte_O) KOk (sound_no Kx) Try.func37 (by kernel_rfl) fun args objs res os h => ?_
  unfold l1Byte_s at h
  split at h
  · exact ⟨1, (l1Byte_run _ _ _).trans h⟩
  · cases h

end
end Go.Proofs.Ytmigffdeghfbhaa.Ev

namespace Go.Proofs.Ytmigffdeghfbhaa.Ev
open Go Go.RowKit
set_option linter.unusedVariables false
set_option linter.unusedSimpArgs false
noncomputable section

def and255 (x : Int) : Int := wkk .i64 ((BitVec.toNat (BitVec.ofInt 64 x &&& BitVec.ofInt 64 255) : Nat) : Int)
theorem and255_in (x : Int) : 0 ≤ and255 x ∧ and255 x ≤ 255 := by
  have h : BitVec.toNat (BitVec.ofInt 64 x &&& BitVec.ofInt 64 255) ≤ 255 := by
    rw [BitVec.toNat_and]
    exact Nat.and_le_right
  unfold and255
  generalize BitVec.toNat (BitVec.ofInt 64 x &&& BitVec.ofInt 64 255) = k at h
  simp only [wkk_eq, IntKind.wrap, IntKind.signed, IntKind.bits]
  simp
  omega
def xorw (a b : Int) : Int := wkk .i64 ((BitVec.toNat (BitVec.ofInt 64 a ^^^ BitVec.ofInt 64 b) : Nat) : Int)
def mix (h : Int) : Int := wk64 (wk64 (h * 6364136223846793005) + 1442695040888963407)
def rawB (h : Int) : Int := and255 (xorw (Int.fdiv (mix h) 8589934592) (Int.fdiv (mix h) 35184372088832))
def byteV (code : List Int) (i h : Int) : Int := bif decide (i < (code.length : Int)) then and255 (wk64 (rawB h + wk64 (code.getD i.toNat 0))) else rawB h
def byteI (code : List Int) (i : Int) : Int := bif decide (i < (code.length : Int)) then wk64 (i + 1) else i
theorem byteV_in (code : List Int) (i h : Int) : 0 ≤ byteV code i h ∧ byteV code i h ≤ 255 := by
  unfold byteV rawB
  cases decide (i < (code.length : Int))
  · exact and255_in _
  · exact and255_in _
def okC (code : List Int) (i : Int) : Bool := decide (0 ≤ i) && decide (code.length ≤ 281474976710656)
theorem okC_next {code : List Int} {i : Int} (h : okC code i = true) : okC code (byteI code i) = true := by
  unfold okC at h ⊢
  simp only [Bool.and_eq_true, decide_eq_true_eq] at h ⊢
  refine ⟨?_, h.2⟩
  unfold byteI
  by_cases h1 : i < (code.length : Int)
  · simp only [h1, decide_true, cond_true]
    rw [w64 (by omega) (by omega)]; omega
  · simp only [h1, decide_false, cond_false]; exact h.1
def curO (code : List Int) (i h : Int) : List Ob := [.var [.sh (.int .u8) code, .int .i64 i, .int .i64 h]]
theorem l1Byte_val (code : List Int) (i h : Int) (hc : okC code i = true) : (l1Byte_br code i h).val = some (.int .i64 (byteV code i h), curO code (byteI code i) (mix h)) := by
  unfold okC at hc
  simp only [Bool.and_eq_true, decide_eq_true_eq] at hc
  unfold l1Byte_br byteV byteI
  by_cases h1 : i < (code.length : Int)
  · simp only [h1, hc.1, decide_true, Br.val, cond_true]; rfl
  · simp only [h1, decide_false, Br.val, cond_false]; rfl
def byteQ_s : List AV → List Ob → Br
  | [.ptr 0 0], [.var [.sh (.int .u8) code, .int .i64 i, .int .i64 h]] => .ite (okC code i) (.ret (.int .i64 (byteV code i h)) [.var [.sh (.int .u8) code, .int .i64 (byteI code i), .int .i64 (mix h)]]) .fail
  | _, _ => .fail
theorem l1Byte_okQ : Sound Kx 37 byteQ_s := l1Byte_ok.of fun args objs r h => by
  unfold byteQ_s at h
  split at h
  · exact (l1Byte_val _ _ _ (ite_some h).1).trans (ite_some h).2
  · cases h

/-! l1New -/
def seedF : List Int → Int → Int → Int
  | [], _, h => h
  | a :: r, i, h => bif decide (i < 4000) then seedF r (i + 1) (wkk .i64 ((BitVec.toNat (BitVec.ofInt 64 (wk64 (wk64 (wk64 (h * 131) + wk64 a) + 7)) &&& BitVec.ofInt 64 1073741823) : Nat) : Int)) else h
theorem l1New_loop (k : List Int → Int → Option Rs) (l : List Int) (hl : l.length ≤ 281474976710656) (r : List Int) : ∀ (pre : List Int) (n : Nat) (h : Int), r.length < n → pre ++ r = l →
    l1New_F3 n l h (pre.length : Int) k = k l (seedF r (pre.length : Int) h) := by
  induction r with
  | nil =>
    intro pre n h hn hp
    obtain ⟨n, rfl⟩ : ∃ m, n = m + 1 := ⟨n - 1, by simp at hn; omega⟩
    have e1 : decide ((pre.length : Int) < (l.length : Int)) = false := by rw [← hp]; simp
    unfold l1New_F3 l1New_T3
    simp only [e1, cond_false, seedF]
  | cons a r ihr =>
    intro pre n h hn hp
    obtain ⟨n, rfl⟩ : ∃ m, n = m + 1 := ⟨n - 1, by omega⟩
    have hlen : l.length = pre.length + r.length + 1 := by rw [← hp]; simp; omega
    have e1 : decide ((pre.length : Int) < (l.length : Int)) = true := by rw [hlen]; simp; omega
    have e2 : decide ((0 : Int) ≤ (pre.length : Int)) = true := by simp
    have e4 : l.getD pre.length 0 = a := by rw [← hp]; exact getD_mid ..
    have e5 : (((pre ++ [a]).length : Nat) : Int) = (pre.length : Int) + 1 := by simp
    have ih := fun x => ihr (pre ++ [a]) n x (by simp at hn; omega) (by rw [← cat_one]; exact hp)
    unfold l1New_F3 l1New_T3
    simp only [e1, e2, e4, cond_true, Int.toNat_natCast]
    rw [next_len pre a (by omega)]
    simp only [seedF, ih]
    simp only [e5]
    cases decide ((pre.length : Int) < 4000) <;> rfl
def newH (code : List Int) : Int := seedF code 0 (wk64 (64242 + (code.length : Int)))
def l1New_br (code : List Int) : Br := .ite (decide (code.length ≤ 281474976710656)) (.ret (.ptr 0 0) [.var [.sh (.int .u8) code, .int .i64 0, .int .i64 (newH code)]]) .fail
def l1New_s := l1New_sOf l1New_br
theorem l1New_ok : Sound Kx 21 l1New_s := by
  refine l1New_okOf (fun c => c.length + 1) fun c r h => ?_
  unfold l1New_br at h
  simp only [Br.val] at h
  split at h
  · rename_i hb
    simp only [decide_eq_true_eq] at hb
    rw [← h]
    exact l1New_loop _ c hb c [] (c.length + 1) _ (by omega) rfl
  · cases h

end
end Go.Proofs.Ytmigffdeghfbhaa.Ev

namespace Go.Proofs.Ytmigffdeghfbhaa.Ev
open Go Go.RowKit
set_option linter.unusedVariables false
set_option linter.unusedSimpArgs false
noncomputable section

/-! spec.l1Below -/
def l1Below_O : Opt := { cons := [], keepNil := false, mutF := [], live := [], outs := [] }
def l1Below_C : Spec := (add noS 37 byteQ_s)
theorem l1Below_C_ok : ∀ fn, Sound Kx fn (l1Below_C fn) := (sound_add (sound_no Kx) l1Byte_okQ)
def l1Below_br (n : Int) (code : List Int) (i h : Int) : Br := (Br.ite (decide (n ≤ (0 : Int))) (Br.ret (AV.int .i64 (0 : Int)) ((Ob.var ((AV.sh (Ty.int .u8) code) :: ((AV.int .i64 i) :: ((AV.int .i64 h) :: ([] : (List (AV))))))) :: ([] : (List (Ob))))) (Br.ite (decide (n ≤ (256 : Int))) (Br.ite (okC code i) (Br.ite (!(decide (n = (0 : Int)))) (Br.ret (AV.int .i64 (Int.tmod (byteV code i h) n)) ((Ob.var ((AV.sh (Ty.int .u8) code) :: ((AV.int .i64 (byteI code i)) :: ((AV.int .i64 (mix h)) :: ([] : (List (AV))))))) :: ([] : (List (Ob))))) Br.fail) Br.fail) (Br.ite (okC code i) (Br.ite (okC code (byteI code i)) (Br.ite (okC code (byteI code (byteI code i))) (Br.ite (okC code (byteI code (byteI code (byteI code i)))) (Br.ite (!(decide (n = (0 : Int)))) (Br.ret (AV.int .i64 (Int.tmod (wk64 ((wk64 ((wk64 ((wk64 ((byteV code i h) * (16777216 : Int))) + (wk64 ((byteV code (byteI code i) (mix h)) * (65536 : Int))))) + (wk64 ((byteV code (byteI code (byteI code i)) (mix (mix h))) * (256 : Int))))) + (byteV code (byteI code (byteI code (byteI code i))) (mix (mix (mix h)))))) n)) ((Ob.var ((AV.sh (Ty.int .u8) code) :: ((AV.int .i64 (byteI code (byteI code (byteI code (byteI code i))))) :: ((AV.int .i64 (mix (mix (mix (mix h))))) :: ([] : (List (AV))))))) :: ([] : (List (Ob))))) Br.fail) Br.fail) Br.fail) Br.fail) Br.fail)))
theorem l1Below_run (n : Int) (code : List Int) (i h : Int) : runF Kx l1Below_C l1Below_O 1 Try.f23 ([.ptr 0 0, .int .i64 n]) ([.var [.sh (.int .u8) code, .int .i64 i, .int .i64 h]]) = (l1Below_br n code i h).val := by kernel_rfl
def l1Below_s : List AV → List Ob → Br
  | [.ptr 0 0, .int .i64 n], [.var [.sh (.int .u8) code, .int .i64 i, .int .i64 h]] => l1Below_br n code i h
  | _, _ => .fail
theorem l1Below_ok : Sound Kx 23 l1Below_s := by
  refine sound_run (C := l1Below_C) (O := l1Below_O) KOk l1Below_C_ok Try.func23 (by kernel_rfl) fun args objs res os h => ?_
  unfold l1Below_s at h
  split at h
  · exact ⟨1, (l1Below_run _ _ _ _).trans h⟩
  · cases h

end
end Go.Proofs.Ytmigffdeghfbhaa.Ev

namespace Go.Proofs.Ytmigffdeghfbhaa.Ev
open Go Go.RowKit
set_option linter.unusedVariables false
set_option linter.unusedSimpArgs false
noncomputable section

def belV (n : Int) (code : List Int) (i h : Int) : Int := bif decide (n ≤ 0) then 0 else bif decide (n ≤ 256) then Int.tmod (byteV code i h) n else
  Int.tmod (wk64 ((wk64 ((wk64 ((wk64 ((byteV code i h) * 16777216)) + (wk64 ((byteV code (byteI code i) (mix h)) * 65536)))) + (wk64 ((byteV code (byteI code (byteI code i)) (mix (mix h))) * 256)))) + (byteV code (byteI code (byteI code (byteI code i))) (mix (mix (mix h)))))) n
def belI (n : Int) (code : List Int) (i : Int) : Int := bif decide (n ≤ 0) then i else bif decide (n ≤ 256) then byteI code i else byteI code (byteI code (byteI code (byteI code i)))
def belH (n : Int) (h : Int) : Int := bif decide (n ≤ 0) then h else bif decide (n ≤ 256) then mix h else mix (mix (mix (mix h)))
theorem tmod_in {x n : Int} (h : 0 ≤ x) (hn : 0 < n) : 0 ≤ Int.tmod x n ∧ Int.tmod x n < n := by
  rw [Int.tmod_eq_emod_of_nonneg h]
  exact ⟨Int.emod_nonneg _ (by omega), Int.emod_lt_of_pos _ hn⟩
theorem belV_in (n : Int) (code : List Int) (i h : Int) : 0 ≤ belV n code i h ∧ (0 < n → belV n code i h < n) := by
  unfold belV
  by_cases h1 : n ≤ 0
  · simp only [h1, decide_true, cond_true]; omega
  · by_cases h2 : n ≤ 256
    · simp only [h1, h2, decide_true, decide_false, cond_true, cond_false]
      have := tmod_in (byteV_in code i h).1 (by omega : 0 < n)
      exact ⟨this.1, fun _ => this.2⟩
    · simp only [h1, h2, decide_false, cond_false]
      have b1 := byteV_in code i h
      have b2 := byteV_in code (byteI code i) (mix h)
      have b3 := byteV_in code (byteI code (byteI code i)) (mix (mix h))
      have b4 := byteV_in code (byteI code (byteI code (byteI code i))) (mix (mix (mix h)))
      generalize byteV code i h = x1 at *
      generalize byteV code (byteI code i) (mix h) = x2 at *
      generalize byteV code (byteI code (byteI code i)) (mix (mix h)) = x3 at *
      generalize byteV code (byteI code (byteI code (byteI code i))) (mix (mix (mix h))) = x4 at *
      rw [w64 (n := x1 * 16777216) (by omega) (by omega), w64 (n := x2 * 65536) (by omega) (by omega), w64 (n := x3 * 256) (by omega) (by omega), w64 (n := x1 * 16777216 + x2 * 65536) (by omega) (by omega),
        w64 (n := x1 * 16777216 + x2 * 65536 + x3 * 256) (by omega) (by omega), w64 (by omega) (by omega)]
      have := tmod_in (x := x1 * 16777216 + x2 * 65536 + x3 * 256 + x4) (by omega) (by omega : 0 < n)
      exact ⟨this.1, fun _ => this.2⟩
theorem okC_bel {n : Int} {code : List Int} {i : Int} (h : okC code i = true) : okC code (belI n code i) = true := by
  unfold belI
  cases decide (n ≤ 0)
  · cases decide (n ≤ 256)
    · exact okC_next (okC_next (okC_next (okC_next h)))
    · exact okC_next h
  · exact h
theorem l1Below_val (n : Int) (code : List Int) (i h : Int) (hc : okC code i = true) : (l1Below_br n code i h).val = some (.int .i64 (belV n code i h), curO code (belI n code i) (belH n h)) := by
  unfold l1Below_br belV belI belH
  by_cases h1 : n ≤ 0
  · simp only [h1, decide_true, cond_true, Br.val]; rfl
  · have h3 : ¬ n = 0 := by omega
    have c1 := okC_next hc
    have c2 := okC_next c1
    have c3 := okC_next c2
    by_cases h2 : n ≤ 256
    · simp only [h1, h2, h3, hc, decide_true, decide_false, cond_true, cond_false, Br.val, Bool.not_false]; rfl
    · simp only [h1, h2, h3, hc, c1, c2, c3, decide_true, decide_false, cond_true, cond_false, Br.val, Bool.not_false]; rfl
def belowQ_s : List AV → List Ob → Br
  | [.ptr 0 0, .int .i64 n], [.var [.sh (.int .u8) code, .int .i64 i, .int .i64 h]] => .ite (okC code i) (.ret (.int .i64 (belV n code i h)) [.var [.sh (.int .u8) code, .int .i64 (belI n code i), .int .i64 (belH n h)]]) .fail
  | _, _ => .fail
theorem l1Below_okQ : Sound Kx 23 belowQ_s := l1Below_ok.of fun args objs r h => by
  unfold belowQ_s at h
  split at h
  · exact (l1Below_val _ _ _ _ (ite_some h).1).trans (ite_some h).2
  · cases h

end
end Go.Proofs.Ytmigffdeghfbhaa.Ev

namespace Go.Proofs.Ytmigffdeghfbhaa.Ev
open Go Go.RowKit
set_option linter.unusedVariables false
set_option linter.unusedSimpArgs false
noncomputable section

/-! spec.l1Once -/
def l1Once_O : Opt := { cons := [], keepNil := false, mutF := [], live := [], outs := [] }
def l1Once_C : Spec := (add noS 23 belowQ_s)
theorem l1Once_C_ok : ∀ fn, Sound Kx fn (l1Once_C fn) := (sound_add (sound_no Kx) l1Below_okQ)
def l1Once_br (n : Int) (code : List Int) (i h : Int) : Br := (Br.ite (okC code i) (Br.ret (AV.bool (decide ((belV n code i h) = (0 : Int)))) ((Ob.var ((AV.sh (Ty.int .u8) code) :: ((AV.int .i64 (belI n code i)) :: ((AV.int .i64 (belH n h)) :: ([] : (List (AV))))))) :: ([] : (List (Ob))))) Br.fail)
theorem l1Once_run (n : Int) (code : List Int) (i h : Int) : runF Kx l1Once_C l1Once_O 1 Try.f34 ([.ptr 0 0, .int .i64 n]) ([.var [.sh (.int .u8) code, .int .i64 i, .int .i64 h]]) = (l1Once_br n code i h).val := by kernel_rfl
def l1Once_s : List AV → List Ob → Br
  | [.ptr 0 0, .int .i64 n], [.var [.sh (.int .u8) code, .int .i64 i, .int .i64 h]] => l1Once_br n code i h
  | _, _ => .fail
theorem l1Once_ok : Sound Kx 34 l1Once_s := by
  refine sound_run (C := l1Once_C) (O := l1Once_O) KOk l1Once_C_ok Try.func34 (by kernel_rfl) fun args objs res os h => ?_
  unfold l1Once_s at h
  split at h
  · exact ⟨1, (l1Once_run _ _ _ _).trans h⟩
  · cases h

/-! spec.l1PickInt -/
def l1Pick_O : Opt := { cons := [], keepNil := false, mutF := [], live := [], outs := [] }
def l1Pick_C : Spec := (add noS 23 belowQ_s)
theorem l1Pick_C_ok : ∀ fn, Sound Kx fn (l1Pick_C fn) := (sound_add (sound_no Kx) l1Below_okQ)
def l1Pick_br (l : List Int) (code : List Int) (i h : Int) : Br := (Br.ite (okC code i) (Br.ite (decide ((0 : Int) ≤ (belV ((List.length l) : Int) code i h))) (Br.ite (decide ((belV ((List.length l) : Int) code i h) < ((List.length l) : Int))) (Br.ret (AV.int .i64 (List.getD l (Int.toNat (belV ((List.length l) : Int) code i h)) (0 : Int))) ((Ob.var ((AV.sh (Ty.int .u8) code) :: ((AV.int .i64 (belI ((List.length l) : Int) code i)) :: ((AV.int .i64 (belH ((List.length l) : Int) h)) :: ([] : (List (AV))))))) :: ([] : (List (Ob))))) Br.fail) Br.fail) Br.fail)
theorem l1Pick_run (l : List Int) (code : List Int) (i h : Int) : runF Kx l1Pick_C l1Pick_O 1 Try.f35 ([.ptr 0 0, .sh (.int .i64) l]) ([.var [.sh (.int .u8) code, .int .i64 i, .int .i64 h]]) = (l1Pick_br l code i h).val := by kernel_rfl
def l1Pick_s : List AV → List Ob → Br
  | [.ptr 0 0, .sh (.int .i64) l], [.var [.sh (.int .u8) code, .int .i64 i, .int .i64 h]] => l1Pick_br l code i h
  | _, _ => .fail
theorem l1Pick_ok : Sound Kx 35 l1Pick_s := by
  refine sound_run (C := l1Pick_C) (O := l1Pick_O) KOk l1Pick_C_ok Try.func35 (by kernel_rfl) fun args objs res os h => ?_
  unfold l1Pick_s at h
  split at h
  · exact ⟨1, (l1Pick_run _ _ _ _).trans h⟩
  · cases h

/-! spec.l1of -/
def l1of_O : Opt := { cons := [], keepNil := false, mutF := [], live := [(3, [0, 1, 2, 7, 8])], outs := [(3, [6, 7])] }
def l1of_C : Spec := (add noS 23 belowQ_s)
theorem l1of_C_ok : ∀ fn, Sound Kx fn (l1of_C fn) := (sound_add (sound_no Kx) l1Below_okQ)
def l1of_T3 (v3x0 : Int) (v3x1 : (List UInt8)) (v3x2 : Int) (v3x3 : (List Int)) (v3x4 : Int) (v3x5 : Int) (v3x6 : (List Int)) (kR3 : Int → (List UInt8) → Int → (List Int) → Int → Int → (List Int) → Option Rs) (k3e0 : (List Int) → Int → Int → (List Int) → Option Rs) : Option Rs :=
  (bif (decide (v3x2 < v3x0)) then (bif (okC v3x3 v3x4) then (bif (decide ((0 : Int) ≤ (belV ((List.length v3x1) : Int) v3x3 v3x4 v3x5))) then (bif (decide ((belV ((List.length v3x1) : Int) v3x3 v3x4 v3x5) < ((List.length v3x1) : Int))) then (bif (decide ((((List.length v3x6) + (List.length (List.set (List.replicate (1 : Nat) (0 : Int)) (0 : Nat) (strAt v3x1 (belV ((List.length v3x1) : Int) v3x3 v3x4 v3x5))))) * (1 : Nat)) ≤ (140737488355328 : Nat))) then (kR3 v3x0 v3x1 (wk64 (v3x2 + (1 : Int))) v3x3 (belI ((List.length v3x1) : Int) v3x3 v3x4) (belH ((List.length v3x1) : Int) v3x5) (v3x6 ++ (List.set (List.replicate (1 : Nat) (0 : Int)) (0 : Nat) (strAt v3x1 (belV ((List.length v3x1) : Int) v3x3 v3x4 v3x5))))) else (none)) else (none)) else (none)) else (none)) else (k3e0 v3x3 v3x4 v3x5 v3x6))
def l1of_F3 : Nat → Int → (List UInt8) → Int → (List Int) → Int → Int → (List Int) → ((List Int) → Int → Int → (List Int) → Option Rs) → Option Rs
  | 0, _, _, _, _, _, _, _, _ => none
  | n + 1, v3x0, v3x1, v3x2, v3x3, v3x4, v3x5, v3x6, k3e0 => l1of_T3 v3x0 v3x1 v3x2 v3x3 v3x4 v3x5 v3x6 (fun v3x0 v3x1 v3x2 v3x3 v3x4 v3x5 v3x6 => l1of_F3 n v3x0 v3x1 v3x2 v3x3 v3x4 v3x5 v3x6 k3e0) k3e0
def l1of_h3 (v3x0 : Int) (v3x1 : (List UInt8)) (v3x2 : Int) (v3x3 : (List Int)) (v3x4 : Int) (v3x5 : Int) (v3x6 : (List Int)) : St := (St.mk (slots 0 25 [(0, (AV.ptr (0 : Nat) (0 : Nat))), (1, (AV.int .i64 v3x0)), (2, (AV.str v3x1)), (7, (AV.ref (512 : Nat) (0 : Nat))), (8, (AV.int .i64 v3x2))]) (((0 : Nat), (Ob.var ((AV.sh (Ty.int .u8) v3x3) :: ((AV.int .i64 v3x4) :: ((AV.int .i64 v3x5) :: ([] : (List (AV)))))))) :: (((512 : Nat), (Ob.arr (Ty.int .u8) (0 : Nat) false v3x6)) :: ([] : (List (Nat × (Ob)))))))
def l1of_x3e0 (x3x0x0 : (List Int)) (x3x0x1 : Int) (x3x0x2 : Int) (x3x0x3 : (List Int)) : St := (St.mk (slots 0 25 [(7, (AV.ref (512 : Nat) (0 : Nat)))]) (((0 : Nat), (Ob.var ((AV.sh (Ty.int .u8) x3x0x0) :: ((AV.int .i64 x3x0x1) :: ((AV.int .i64 x3x0x2) :: ([] : (List (AV)))))))) :: (((512 : Nat), (Ob.arr (Ty.int .u8) (0 : Nat) false x3x0x3)) :: ([] : (List (Nat × (Ob)))))))
noncomputable def l1of_b3 : Code := codeAt (codeOf Try.f44) [1, 1, 0, 1, 0, 0]
def l1of_L3 (N : Nat) (st : St) (k : Ex → St → Option Rs) : Option Rs := match takeF [0, 1, 2, 7, 8] 0 25 st.env, st.objs with
  | some [.ptr 0 0, .int .i64 v3x0, .str v3x1, .ref 512 0, .int .i64 v3x2], [(0, .var [.sh (Ty.int .u8) v3x3, .int .i64 v3x4, .int .i64 v3x5]), (512, .arr (Ty.int .u8) 0 false v3x6)] => l1of_F3 N v3x0 v3x1 v3x2 v3x3 v3x4 v3x5 v3x6 (fun x3x0x0 x3x0x1 x3x0x2 x3x0x3 => k (Ex.exit (0 : Nat)) (l1of_x3e0 x3x0x0 x3x0x1 x3x0x2 x3x0x3))
  | _, _ => none
def l1of_L (N : Nat) : Lam := fun j st k => match j with
  | 3 => l1of_L3 N st k
  | _ => none
theorem l1of_round3 (N : Nat) (again : St → Option Rs) (k : Ex → St → Option Rs) (wv3x0 : Int) (wv3x1 : (List UInt8)) (wv3x2 : Int) (wv3x3 : (List Int)) (wv3x4 : Int) (wv3x5 : Int) (wv3x6 : (List Int)) (v3x0 : Int) (v3x1 : (List UInt8)) (v3x2 : Int) (v3x3 : (List Int)) (v3x4 : Int) (v3x5 : Int) (v3x6 : (List Int)) :
    roundK 1 (fun st k => evL Kx l1of_C l1of_O 1 (l1of_L N) l1of_b3 st k) (l1of_h3 wv3x0 wv3x1 wv3x2 wv3x3 wv3x4 wv3x5 wv3x6).env again (l1of_h3 v3x0 v3x1 v3x2 v3x3 v3x4 v3x5 v3x6) (outK l1of_O 1 l1of_b3 k) = l1of_T3 v3x0 v3x1 v3x2 v3x3 v3x4 v3x5 v3x6 (fun v3x0 v3x1 v3x2 v3x3 v3x4 v3x5 v3x6 => again (l1of_h3 v3x0 v3x1 v3x2 v3x3 v3x4 v3x5 v3x6)) (fun x3x0x0 x3x0x1 x3x0x2 x3x0x3 => k (Ex.exit (0 : Nat)) (l1of_x3e0 x3x0x0 x3x0x1 x3x0x2 x3x0x3)) := by kernel_rfl
theorem l1of_loop3 (N : Nat) (k : Ex → St → Option Rs) (wv3x0 : Int) (wv3x1 : (List UInt8)) (wv3x2 : Int) (wv3x3 : (List Int)) (wv3x4 : Int) (wv3x5 : Int) (wv3x6 : (List Int)) : ∀ (n : Nat) (v3x0 : Int) (v3x1 : (List UInt8)) (v3x2 : Int) (v3x3 : (List Int)) (v3x4 : Int) (v3x5 : Int) (v3x6 : (List Int)),
    loopK 1 (fun st k => evL Kx l1of_C l1of_O 1 (l1of_L N) l1of_b3 st k) (l1of_h3 wv3x0 wv3x1 wv3x2 wv3x3 wv3x4 wv3x5 wv3x6).env n (l1of_h3 v3x0 v3x1 v3x2 v3x3 v3x4 v3x5 v3x6) (outK l1of_O 1 l1of_b3 k) = l1of_F3 n v3x0 v3x1 v3x2 v3x3 v3x4 v3x5 v3x6 (fun x3x0x0 x3x0x1 x3x0x2 x3x0x3 => k (Ex.exit (0 : Nat)) (l1of_x3e0 x3x0x0 x3x0x1 x3x0x2 x3x0x3))
  | 0, _, _, _, _, _, _, _ => rfl
  | n + 1, v3x0, v3x1, v3x2, v3x3, v3x4, v3x5, v3x6 => by
    rw [loopK_succ, l1of_round3]
    simp only [l1of_loop3 N k wv3x0 wv3x1 wv3x2 wv3x3 wv3x4 wv3x5 wv3x6 n]
    rfl
theorem l1of_at3 (N : Nat) {s : St} {k : Ex → St → Option Rs} {r : Rs} (h : l1of_L3 N s k = some r) : ∃ (v3x0 : Int) (v3x1 : (List UInt8)) (v3x2 : Int) (v3x3 : (List Int)) (v3x4 : Int) (v3x5 : Int) (v3x6 : (List Int)), s = (l1of_h3 v3x0 v3x1 v3x2 v3x3 v3x4 v3x5 v3x6) ∧ l1of_F3 N v3x0 v3x1 v3x2 v3x3 v3x4 v3x5 v3x6 (fun x3x0x0 x3x0x1 x3x0x2 x3x0x3 => k (Ex.exit (0 : Nat)) (l1of_x3e0 x3x0x0 x3x0x1 x3x0x2 x3x0x3)) = some r := by
  cases s with | mk env objs =>
  unfold l1of_L3 at h
  split at h
  · rename_i e1 e2
    have e3 := takeF_slots _ _ _ _ e1
    simp only at e2 e3
    subst e2 e3
    exact ⟨_, _, _, _, _, _, _, rfl, h⟩
  · cases h
theorem l1of_in3 : loops l1of_b3 = [] := by kernel_rfl
theorem l1of_lid3 : lid l1of_b3 = 3 := by kernel_rfl
theorem l1of_ok3 (N : Nat) : OkL Kx l1of_C l1of_O 1 N (l1of_L N) l1of_b3 := by
  intro s k k' r hk h
  rw [l1of_lid3] at h
  obtain ⟨v3x0, v3x1, v3x2, v3x3, v3x4, v3x5, v3x6, rfl, h⟩ := l1of_at3 N h
  refine loopL (Λ := l1of_L N) l1of_b3 ?_ N hk ((l1of_loop3 N k v3x0 v3x1 v3x2 v3x3 v3x4 v3x5 v3x6 N v3x0 v3x1 v3x2 v3x3 v3x4 v3x5 v3x6).trans h)
  rw [l1of_in3]
  exact fun _ h => nomatch h
def l1of_run (N : Nat) (n : Int) (set : List UInt8) (code : List Int) (i h : Int) : Option Rs := (l1of_F3 N n set (0 : Int) code i h ([] : (List Int)) (fun x3x0x0 => (fun x3x0x1 => (fun x3x0x2 => (fun x3x0x3 => (some ((AV.str (ofBytes x3x0x3)), ((Ob.var ((AV.sh (Ty.int .u8) x3x0x0) :: ((AV.int .i64 x3x0x1) :: ((AV.int .i64 x3x0x2) :: ([] : (List (AV))))))) :: ([] : (List (Ob)))))))))))
theorem l1of_runL (N : Nat) (n : Int) (set : List UInt8) (code : List Int) (i h : Int) : runL Kx l1of_C l1of_O (l1of_L N) Try.f44 ([.ptr 0 0, .int .i64 n, .str set]) ([.var [.sh (.int .u8) code, .int .i64 i, .int .i64 h]]) = l1of_run N n set code i h := by kernel_rfl
theorem l1of_body : Try.f44.body = some (codeOf Try.f44) := by kernel_rfl
theorem l1of_loops : loops (codeOf Try.f44) = [l1of_b3] := by kernel_rfl
theorem l1of_ev (N : Nat) (n : Int) (set : List UInt8) (code : List Int) (i h : Int) {res_ : Rs} (hyp_ : l1of_run N n set code i h = some res_) : ∃ n_, runF Kx l1of_C l1of_O n_ Try.f44 ([.ptr 0 0, .int .i64 n, .str set]) ([.var [.sh (.int .u8) code, .int .i64 i, .int .i64 h]]) = some res_ :=
  ⟨N, runL_runF l1of_body (by rw [l1of_loops]; exact List.forall_mem_cons.2 ⟨l1of_ok3 N, fun _ h => nomatch h⟩) ((l1of_runL N n set code i h).trans hyp_)⟩
def l1of_sOf (φ : Int → (List UInt8) → (List Int) → Int → Int → Br) : List AV → List Ob → Br
  | [.ptr 0 0, .int .i64 n, .str set], [.var [.sh (.int .u8) code, .int .i64 i, .int .i64 h]] => φ n set code i h
  | _, _ => .fail
theorem l1of_okOf {φ : Int → (List UInt8) → (List Int) → Int → Int → Br} (fu : Int → (List UInt8) → (List Int) → Int → Int → Nat) (hv : ∀ n set code i h res_, (φ n set code i h).val = some res_ → l1of_run (fu n set code i h) n set code i h = some res_) : Sound Kx 44 (l1of_sOf φ) := by
  refine sound_run (C := l1of_C) (O := l1of_O) KOk l1of_C_ok Try.func44 (by kernel_rfl) fun args objs res os h => ?_
  unfold l1of_sOf at h
  split at h
  · exact l1of_ev _ _ _ _ _ _ (hv _ _ _ _ _ _ h)
  · cases h

/-! spec.StoreNew -/
def sNewD_O : Opt := { cons := [], keepNil := false, mutF := [], live := [], outs := [] }
def sNewD_C : Spec := (add noS 7 sOk_s)
theorem sNewD_C_ok : ∀ fn, Sound Kx fn (sNewD_C fn) := (sound_add (sound_no Kx) sOk_ok)
def sNewD_br (room : Int) : Br := (Br.ite (!(okStore (List.set (List.replicate (1 : Nat) (([] : (List UInt8)), (0 : Int))) (0 : Nat) (([] : (List UInt8)), (0 : Int))) room)) (Br.ret (AV.tup ((AV.agg ((AV.ref (0 : Nat) (0 : Nat)) :: ((AV.int .i64 (0 : Int)) :: ([] : (List (AV)))))) :: ((AV.bool false) :: ([] : (List (AV)))))) ((Ob.arr (Ty.pair Ty.str (Ty.int .i64)) (0 : Nat) false ([] : (List ((List UInt8) × Int)))) :: ([] : (List (Ob))))) (Br.ret (AV.tup ((AV.agg ((AV.ref (0 : Nat) (0 : Nat)) :: ((AV.int .i64 room) :: ([] : (List (AV)))))) :: ((AV.bool true) :: ([] : (List (AV)))))) ((Ob.arr (Ty.pair Ty.str (Ty.int .i64)) (0 : Nat) false (List.set (List.replicate (1 : Nat) (([] : (List UInt8)), (0 : Int))) (0 : Nat) (([] : (List UInt8)), (0 : Int)))) :: ([] : (List (Ob))))))
theorem sNewD_run (room : Int) : runF Kx sNewD_C sNewD_O 1 Try.f42 ([.int .i64 room]) ([]) = (sNewD_br room).val := by kernel_rfl
def sNewD_s : List AV → List Ob → Br
  | [.int .i64 room], [] => sNewD_br room
  | _, _ => .fail
theorem sNewD_ok : Sound Kx 42 sNewD_s := by
  refine sound_run (C := sNewD_C) (O := sNewD_O) KOk sNewD_C_ok Try.func42 (by kernel_rfl) fun args objs res os h => ?_
  unfold sNewD_s at h
  split at h
  · exact ⟨1, (sNewD_run _).trans h⟩
  · cases h

/-! spec.l4last -/
end
end Go.Proofs.Ytmigffdeghfbhaa.Ev

namespace Go.Proofs.Ytmigffdeghfbhaa.Ev
open Go Go.RowKit
set_option linter.unusedVariables false
set_option linter.unusedSimpArgs false
noncomputable section

def pickQ_s : List AV → List Ob → Br
  | [.ptr 0 0, .sh (.int .i64) l], [.var [.sh (.int .u8) code, .int .i64 i, .int .i64 h]] => .ite (okC code i && decide (0 < l.length)) (.ret (.int .i64 (l.getD (belV (l.length : Int) code i h).toNat 0)) [.var [.sh (.int .u8) code, .int .i64 (belI (l.length : Int) code i), .int .i64 (belH (l.length : Int) h)]]) .fail
  | _, _ => .fail
theorem l1Pick_okQ : Sound Kx 35 pickQ_s := l1Pick_ok.of fun args objs r h => by
  unfold pickQ_s at h
  split at h
  · rename_i l code i h'
    obtain ⟨h1, h2⟩ := ite_some h
    simp only [Bool.and_eq_true, decide_eq_true_eq] at h1
    rw [← h2]
    show (l1Pick_br l code i h').val = _
    have hb := belV_in (l.length : Int) code i h'
    have e1 : decide ((0 : Int) ≤ belV (l.length : Int) code i h') = true := by rw [decide_eq_true_eq]; exact hb.1
    have e2 : decide (belV (l.length : Int) code i h' < (l.length : Int)) = true := by rw [decide_eq_true_eq]; exact hb.2 (by omega)
    unfold l1Pick_br
    simp only [h1.1, e1, e2, Br.val]
  · cases h

/-! l1of -/
def ofB : Nat → List UInt8 → List Int → Int → Int → List Int × Int × Int
  | 0, _, _, i, h => ([], i, h)
  | k + 1, set, code, i, h =>
    (strAt set (belV (set.length : Int) code i h) :: (ofB k set code (belI (set.length : Int) code i) (belH (set.length : Int) h)).1, (ofB k set code (belI (set.length : Int) code i) (belH (set.length : Int) h)).2)
theorem okC_ofB : ∀ (k : Nat) (set : List UInt8) (code : List Int) (i h : Int), okC code i = true → okC code (ofB k set code i h).2.1 = true
  | 0, _, _, _, _, hc => hc
  | k + 1, set, code, i, h, hc => okC_ofB k set code _ _ (okC_bel hc)
theorem l1of_loop (n : Int) (set : List UInt8) (code : List Int) (hs : 0 < set.length) (K : List Int → Int → Int → List Int → Option Rs) : ∀ (k N : Nat) (j i h : Int) (acc : List Int), k < N → 0 ≤ j → j + k = n → n ≤ 1000000 → acc.length ≤ 1000000 → acc.length + k ≤ 1000000 → okC code i = true →
    l1of_F3 N n set j code i h acc K = K code (ofB k set code i h).2.1 (ofB k set code i h).2.2 (acc ++ (ofB k set code i h).1)
  | 0, N, j, i, h, acc, hN, h0, hj, hn, ha, hk, hc => by
    obtain ⟨N, rfl⟩ : ∃ m, N = m + 1 := ⟨N - 1, by omega⟩
    have e1 : decide (j < n) = false := by rw [decide_eq_false_iff_not]; omega
    unfold l1of_F3 l1of_T3
    simp only [e1, cond_false, ofB, List.append_nil]
  | k + 1, N, j, i, h, acc, hN, h0, hj, hn, ha, hk, hc => by
    obtain ⟨N, rfl⟩ : ∃ m, N = m + 1 := ⟨N - 1, by omega⟩
    have hb := belV_in (set.length : Int) code i h
    have e1 : decide (j < n) = true := by rw [decide_eq_true_eq]; omega
    have e2 : decide ((0 : Int) ≤ belV (set.length : Int) code i h) = true := by rw [decide_eq_true_eq]; exact hb.1
    have e3 : decide (belV (set.length : Int) code i h < (set.length : Int)) = true := by rw [decide_eq_true_eq]; exact hb.2 (by omega)
    have e4 : List.set (List.replicate 1 (0 : Int)) 0 (strAt set (belV (set.length : Int) code i h)) = [strAt set (belV (set.length : Int) code i h)] := rfl
    have e5 : ∀ x : Int, decide ((acc.length + [x].length) * 1 ≤ 140737488355328) = true := by intro x; rw [decide_eq_true_eq, List.length_singleton]; omega
    unfold l1of_F3 l1of_T3
    simp only [e1, e2, e3, e4, e5, hc, cond_true]
    rw [w64 (by omega) (by omega), l1of_loop n set code hs K k N (j + 1) _ _ _ (by omega) (by omega) (by omega) hn (by rw [List.length_append, List.length_singleton]; omega) (by rw [List.length_append, List.length_singleton]; omega) (okC_bel hc)]
    simp only [ofB, List.append_assoc, List.singleton_append]
def ofS (n : Int) (set : List UInt8) (code : List Int) (i h : Int) : List UInt8 := ofBytes (ofB n.toNat set code i h).1
def ofI (n : Int) (set : List UInt8) (code : List Int) (i h : Int) : Int := (ofB n.toNat set code i h).2.1
def ofH (n : Int) (set : List UInt8) (code : List Int) (i h : Int) : Int := (ofB n.toNat set code i h).2.2
theorem okC_of {n : Int} {set : List UInt8} {code : List Int} {i h : Int} (hc : okC code i = true) : okC code (ofI n set code i h) = true := okC_ofB _ _ _ _ _ hc
def l1of_br (n : Int) (set : List UInt8) (code : List Int) (i h : Int) : Br := .ite (okC code i && decide (n ≤ 1000000) && decide (0 < set.length)) (.ret (.str (ofS n set code i h)) [.var [.sh (.int .u8) code, .int .i64 (ofI n set code i h), .int .i64 (ofH n set code i h)]]) .fail
def l1of_s := l1of_sOf l1of_br
theorem l1of_ok : Sound Kx 44 l1of_s := by
  refine l1of_okOf (fun n _ _ _ _ => n.toNat + 1) fun n set code i h r hv => ?_
  unfold l1of_br at hv
  obtain ⟨h1, h2⟩ := ite_some hv
  simp only [Bool.and_eq_true, decide_eq_true_eq] at h1
  rw [← h2]
  unfold l1of_run
  by_cases hn : 0 ≤ n
  · exact l1of_loop n set code h1.2 _ n.toNat (n.toNat + 1) 0 i h [] (by omega) (by omega) (by omega) h1.1.2 (by simp) (by simp; omega) h1.1.1
  · have e1 : decide ((0 : Int) < n) = false := by rw [decide_eq_false_iff_not]; omega
    have e2 : n.toNat = 0 := by omega
    rw [e2]
    unfold l1of_F3 l1of_T3
    simp only [e1, cond_false]
    unfold ofS ofI ofH
    rw [e2]
    rfl

/-! StoreNew, l4last -/
def newS (room : Int) : Segs := bif decide (0 ≤ room) && decide (room ≤ 60000) then [([], 0)] else []
def newC (room : Int) : Int := bif decide (0 ≤ room) && decide (room ≤ 60000) then room else 0
def newQ_s : List AV → List Ob → Br
  | [.int .i64 room], [] => .ret (.tup [.agg [.ref 0 0, .int .i64 (newC room)], .bool (decide (0 ≤ room) && decide (room ≤ 60000))]) [.arr (.pair .str (.int .i64)) 0 false (newS room)]
  | _, _ => .fail
theorem okStore_new (a : Int) : okStore (List.set (List.replicate 1 (([] : List UInt8), (0 : Int))) 0 ([], 0)) a = (decide (0 ≤ a) && decide (a ≤ 60000)) := by
  unfold okStore
  by_cases h : 0 ≤ a <;> simp [h, shape, total]
theorem sNewD_okQ : Sound Kx 42 newQ_s := sNewD_ok.of fun args objs r h => by
  unfold newQ_s at h
  split at h
  · rename_i room
    rw [← h]
    show (sNewD_br room).val = _
    unfold sNewD_br newS newC
    rw [okStore_new]
    cases decide (0 ≤ room) && decide (room ≤ 60000) <;> rfl
  · cases h
end
end Go.Proofs.Ytmigffdeghfbhaa.Ev

namespace Go.Proofs.Ytmigffdeghfbhaa.Ev
open Go Go.RowKit
set_option linter.unusedVariables false
set_option linter.unusedSimpArgs false
noncomputable section

/-! spec.l4draw -/
def l4draw_O : Opt := { cons := [], keepNil := false, mutF := [], live := [(3, [0, 2, 3, 5])], outs := [(3, [2, 3])] }
def l4draw_C : Spec := (add (add (add (add (add (add (add noS 23 belowQ_s) 35 pickQ_s) 44 l1of_s) 42 newQ_s) 31 syncQ_s) 19 rollQ_s) 43 appendQ_s)
theorem l4draw_C_ok : ∀ fn, Sound Kx fn (l4draw_C fn) := (sound_add (sound_add (sound_add (sound_add (sound_add (sound_add (sound_add (sound_no Kx) l1Below_okQ) l1Pick_okQ) l1of_ok) sNewD_okQ) sSync_okQ) sRoll_okQ) sAppend_okQ)
def l4draw_T3 (v3x0 : Int) (v3x1 : (List Int)) (v3x2 : Int) (v3x3 : Int) (v3x4 : Int) (v3x5 : (List ((List UInt8) × Int))) (v3x6 : Int) (v3x7 : (List ((List UInt8) × Int))) (kR3 : Int → (List Int) → Int → Int → Int → (List ((List UInt8) × Int)) → Int → (List ((List UInt8) × Int)) → Option Rs) (k3e0 : (List Int) → Int → Int → Int → (List ((List UInt8) × Int)) → Int → (List ((List UInt8) × Int)) → Option Rs) : Option Rs :=
  (bif (decide ((0 : Int) < v3x0)) then (bif (okC v3x1 v3x2) then (bif (decide ((belV (5 : Int) v3x1 v3x2 v3x3) = (0 : Int))) then (bif (smS v3x7) then (kR3 (wk64 (v3x0 - (1 : Int))) v3x1 (belI (5 : Int) v3x1 v3x2) (belH (5 : Int) v3x3) v3x4 v3x5 (syncP v3x7 v3x6).2 (syncP v3x7 v3x6).1) else (none)) else (bif (decide ((belV (5 : Int) v3x1 v3x2 v3x3) = (1 : Int))) then (bif (smS v3x7) then (bif (decide ((rollP v3x7 v3x6).2.2 = (0 : Int))) then (kR3 (wk64 (v3x0 - (1 : Int))) v3x1 (belI (5 : Int) v3x1 v3x2) (belH (5 : Int) v3x3) v3x4 v3x5 (rollP v3x7 v3x6).2.1 (rollP v3x7 v3x6).1) else (kR3 (wk64 (v3x0 - (1 : Int))) v3x1 (belI (5 : Int) v3x1 v3x2) (belH (5 : Int) v3x3) v3x4 v3x5 v3x6 v3x7)) else (none)) else (bif (okC v3x1 (belI (5 : Int) v3x1 v3x2)) then (bif (((okC v3x1 (belI (9 : Int) v3x1 (belI (5 : Int) v3x1 v3x2))) && (decide ((belV (9 : Int) v3x1 (belI (5 : Int) v3x1 v3x2) (belH (5 : Int) v3x3)) ≤ (1000000 : Int)))) && true) then (bif (smS v3x7) then (bif (decide ((appendP v3x7 v3x6 (ofS (belV (9 : Int) v3x1 (belI (5 : Int) v3x1 v3x2) (belH (5 : Int) v3x3)) ((97 : UInt8) :: ((98 : UInt8) :: ((99 : UInt8) :: ((13 : UInt8) :: ((10 : UInt8) :: ([] : (List UInt8))))))) v3x1 (belI (9 : Int) v3x1 (belI (5 : Int) v3x1 v3x2)) (belH (9 : Int) (belH (5 : Int) v3x3)))).2.2 = (0 : Int))) then (kR3 (wk64 (v3x0 - (1 : Int))) v3x1 (ofI (belV (9 : Int) v3x1 (belI (5 : Int) v3x1 v3x2) (belH (5 : Int) v3x3)) ((97 : UInt8) :: ((98 : UInt8) :: ((99 : UInt8) :: ((13 : UInt8) :: ((10 : UInt8) :: ([] : (List UInt8))))))) v3x1 (belI (9 : Int) v3x1 (belI (5 : Int) v3x1 v3x2)) (belH (9 : Int) (belH (5 : Int) v3x3))) (ofH (belV (9 : Int) v3x1 (belI (5 : Int) v3x1 v3x2) (belH (5 : Int) v3x3)) ((97 : UInt8) :: ((98 : UInt8) :: ((99 : UInt8) :: ((13 : UInt8) :: ((10 : UInt8) :: ([] : (List UInt8))))))) v3x1 (belI (9 : Int) v3x1 (belI (5 : Int) v3x1 v3x2)) (belH (9 : Int) (belH (5 : Int) v3x3))) v3x4 v3x5 (appendP v3x7 v3x6 (ofS (belV (9 : Int) v3x1 (belI (5 : Int) v3x1 v3x2) (belH (5 : Int) v3x3)) ((97 : UInt8) :: ((98 : UInt8) :: ((99 : UInt8) :: ((13 : UInt8) :: ((10 : UInt8) :: ([] : (List UInt8))))))) v3x1 (belI (9 : Int) v3x1 (belI (5 : Int) v3x1 v3x2)) (belH (9 : Int) (belH (5 : Int) v3x3)))).2.1 (appendP v3x7 v3x6 (ofS (belV (9 : Int) v3x1 (belI (5 : Int) v3x1 v3x2) (belH (5 : Int) v3x3)) ((97 : UInt8) :: ((98 : UInt8) :: ((99 : UInt8) :: ((13 : UInt8) :: ((10 : UInt8) :: ([] : (List UInt8))))))) v3x1 (belI (9 : Int) v3x1 (belI (5 : Int) v3x1 v3x2)) (belH (9 : Int) (belH (5 : Int) v3x3)))).1) else (kR3 (wk64 (v3x0 - (1 : Int))) v3x1 (ofI (belV (9 : Int) v3x1 (belI (5 : Int) v3x1 v3x2) (belH (5 : Int) v3x3)) ((97 : UInt8) :: ((98 : UInt8) :: ((99 : UInt8) :: ((13 : UInt8) :: ((10 : UInt8) :: ([] : (List UInt8))))))) v3x1 (belI (9 : Int) v3x1 (belI (5 : Int) v3x1 v3x2)) (belH (9 : Int) (belH (5 : Int) v3x3))) (ofH (belV (9 : Int) v3x1 (belI (5 : Int) v3x1 v3x2) (belH (5 : Int) v3x3)) ((97 : UInt8) :: ((98 : UInt8) :: ((99 : UInt8) :: ((13 : UInt8) :: ((10 : UInt8) :: ([] : (List UInt8))))))) v3x1 (belI (9 : Int) v3x1 (belI (5 : Int) v3x1 v3x2)) (belH (9 : Int) (belH (5 : Int) v3x3))) v3x4 v3x5 v3x6 v3x7)) else (none)) else (none)) else (none)))) else (none)) else (k3e0 v3x1 v3x2 v3x3 v3x4 v3x5 v3x6 v3x7))
def l4draw_F3 : Nat → Int → (List Int) → Int → Int → Int → (List ((List UInt8) × Int)) → Int → (List ((List UInt8) × Int)) → ((List Int) → Int → Int → Int → (List ((List UInt8) × Int)) → Int → (List ((List UInt8) × Int)) → Option Rs) → Option Rs
  | 0, _, _, _, _, _, _, _, _, _ => none
  | n + 1, v3x0, v3x1, v3x2, v3x3, v3x4, v3x5, v3x6, v3x7, k3e0 => l4draw_T3 v3x0 v3x1 v3x2 v3x3 v3x4 v3x5 v3x6 v3x7 (fun v3x0 v3x1 v3x2 v3x3 v3x4 v3x5 v3x6 v3x7 => l4draw_F3 n v3x0 v3x1 v3x2 v3x3 v3x4 v3x5 v3x6 v3x7 k3e0) k3e0
def l4draw_h3 (v3x0 : Int) (v3x1 : (List Int)) (v3x2 : Int) (v3x3 : Int) (v3x4 : Int) (v3x5 : (List ((List UInt8) × Int))) (v3x6 : Int) (v3x7 : (List ((List UInt8) × Int))) : St := (St.mk (slots 0 48 [(0, (AV.ptr (0 : Nat) (0 : Nat))), (2, (AV.ptr (192 : Nat) (0 : Nat))), (3, (AV.ptr (256 : Nat) (0 : Nat))), (5, (AV.int .i64 v3x0))]) (((0 : Nat), (Ob.var ((AV.sh (Ty.int .u8) v3x1) :: ((AV.int .i64 v3x2) :: ((AV.int .i64 v3x3) :: ([] : (List (AV)))))))) :: (((192 : Nat), (Ob.var ((AV.ref (193 : Nat) (0 : Nat)) :: ((AV.int .i64 v3x4) :: ([] : (List (AV))))))) :: (((193 : Nat), (Ob.arr (Ty.pair Ty.str (Ty.int .i64)) (0 : Nat) false v3x5)) :: (((256 : Nat), (Ob.var ((AV.ref (257 : Nat) (0 : Nat)) :: ((AV.int .i64 v3x6) :: ([] : (List (AV))))))) :: (((257 : Nat), (Ob.arr (Ty.pair Ty.str (Ty.int .i64)) (0 : Nat) false v3x7)) :: ([] : (List (Nat × (Ob))))))))))
def l4draw_x3e0 (x3x0x0 : (List Int)) (x3x0x1 : Int) (x3x0x2 : Int) (x3x0x3 : Int) (x3x0x4 : (List ((List UInt8) × Int))) (x3x0x5 : Int) (x3x0x6 : (List ((List UInt8) × Int))) : St := (St.mk (slots 0 48 [(2, (AV.ptr (192 : Nat) (0 : Nat))), (3, (AV.ptr (256 : Nat) (0 : Nat)))]) (((0 : Nat), (Ob.var ((AV.sh (Ty.int .u8) x3x0x0) :: ((AV.int .i64 x3x0x1) :: ((AV.int .i64 x3x0x2) :: ([] : (List (AV)))))))) :: (((192 : Nat), (Ob.var ((AV.ref (193 : Nat) (0 : Nat)) :: ((AV.int .i64 x3x0x3) :: ([] : (List (AV))))))) :: (((193 : Nat), (Ob.arr (Ty.pair Ty.str (Ty.int .i64)) (0 : Nat) false x3x0x4)) :: (((256 : Nat), (Ob.var ((AV.ref (257 : Nat) (0 : Nat)) :: ((AV.int .i64 x3x0x5) :: ([] : (List (AV))))))) :: (((257 : Nat), (Ob.arr (Ty.pair Ty.str (Ty.int .i64)) (0 : Nat) false x3x0x6)) :: ([] : (List (Nat × (Ob))))))))))
noncomputable def l4draw_b3 : Code := codeAt (codeOf Try.f33) [1, 1, 0, 1, 0, 0]
def l4draw_L3 (N : Nat) (st : St) (k : Ex → St → Option Rs) : Option Rs := match takeF [0, 2, 3, 5] 0 48 st.env, st.objs with
  | some [.ptr 0 0, .ptr 192 0, .ptr 256 0, .int .i64 v3x0], [(0, .var [.sh (Ty.int .u8) v3x1, .int .i64 v3x2, .int .i64 v3x3]), (192, .var [.ref 193 0, .int .i64 v3x4]), (193, .arr (Ty.pair Ty.str (Ty.int .i64)) 0 false v3x5), (256, .var [.ref 257 0, .int .i64 v3x6]), (257, .arr (Ty.pair Ty.str (Ty.int .i64)) 0 false v3x7)] => l4draw_F3 N v3x0 v3x1 v3x2 v3x3 v3x4 v3x5 v3x6 v3x7 (fun x3x0x0 x3x0x1 x3x0x2 x3x0x3 x3x0x4 x3x0x5 x3x0x6 => k (Ex.exit (0 : Nat)) (l4draw_x3e0 x3x0x0 x3x0x1 x3x0x2 x3x0x3 x3x0x4 x3x0x5 x3x0x6))
  | _, _ => none
def l4draw_L (N : Nat) : Lam := fun j st k => match j with
  | 3 => l4draw_L3 N st k
  | _ => none
theorem l4draw_round3 (N : Nat) (again : St → Option Rs) (k : Ex → St → Option Rs) (wv3x0 : Int) (wv3x1 : (List Int)) (wv3x2 : Int) (wv3x3 : Int) (wv3x4 : Int) (wv3x5 : (List ((List UInt8) × Int))) (wv3x6 : Int) (wv3x7 : (List ((List UInt8) × Int))) (v3x0 : Int) (v3x1 : (List Int)) (v3x2 : Int) (v3x3 : Int) (v3x4 : Int) (v3x5 : (List ((List UInt8) × Int))) (v3x6 : Int) (v3x7 : (List ((List UInt8) × Int))) :
    roundK 1 (fun st k => evL Kx l4draw_C l4draw_O 1 (l4draw_L N) l4draw_b3 st k) (l4draw_h3 wv3x0 wv3x1 wv3x2 wv3x3 wv3x4 wv3x5 wv3x6 wv3x7).env again (l4draw_h3 v3x0 v3x1 v3x2 v3x3 v3x4 v3x5 v3x6 v3x7) (outK l4draw_O 1 l4draw_b3 k) = l4draw_T3 v3x0 v3x1 v3x2 v3x3 v3x4 v3x5 v3x6 v3x7 (fun v3x0 v3x1 v3x2 v3x3 v3x4 v3x5 v3x6 v3x7 => again (l4draw_h3 v3x0 v3x1 v3x2 v3x3 v3x4 v3x5 v3x6 v3x7)) (fun x3x0x0 x3x0x1 x3x0x2 x3x0x3 x3x0x4 x3x0x5 x3x0x6 => k (Ex.exit (0 : Nat)) (l4draw_x3e0 x3x0x0 x3x0x1 x3x0x2 x3x0x3 x3x0x4 x3x0x5 x3x0x6)) := by kernel_rfl
theorem l4draw_loop3 (N : Nat) (k : Ex → St → Option Rs) (wv3x0 : Int) (wv3x1 : (List Int)) (wv3x2 : Int) (wv3x3 : Int) (wv3x4 : Int) (wv3x5 : (List ((List UInt8) × Int))) (wv3x6 : Int) (wv3x7 : (List ((List UInt8) × Int))) : ∀ (n : Nat) (v3x0 : Int) (v3x1 : (List Int)) (v3x2 : Int) (v3x3 : Int) (v3x4 : Int) (v3x5 : (List ((List UInt8) × Int))) (v3x6 : Int) (v3x7 : (List ((List UInt8) × Int))),
    loopK 1 (fun st k => evL Kx l4draw_C l4draw_O 1 (l4draw_L N) l4draw_b3 st k) (l4draw_h3 wv3x0 wv3x1 wv3x2 wv3x3 wv3x4 wv3x5 wv3x6 wv3x7).env n (l4draw_h3 v3x0 v3x1 v3x2 v3x3 v3x4 v3x5 v3x6 v3x7) (outK l4draw_O 1 l4draw_b3 k) = l4draw_F3 n v3x0 v3x1 v3x2 v3x3 v3x4 v3x5 v3x6 v3x7 (fun x3x0x0 x3x0x1 x3x0x2 x3x0x3 x3x0x4 x3x0x5 x3x0x6 => k (Ex.exit (0 : Nat)) (l4draw_x3e0 x3x0x0 x3x0x1 x3x0x2 x3x0x3 x3x0x4 x3x0x5 x3x0x6))
  | 0, _, _, _, _, _, _, _, _ => rfl
  | n + 1, v3x0, v3x1, v3x2, v3x3, v3x4, v3x5, v3x6, v3x7 => by
    rw [loopK_succ, l4draw_round3]
    simp only [l4draw_loop3 N k wv3x0 wv3x1 wv3x2 wv3x3 wv3x4 wv3x5 wv3x6 wv3x7 n]
    rfl
theorem l4draw_at3 (N : Nat) {s : St} {k : Ex → St → Option Rs} {r : Rs} (h : l4draw_L3 N s k = some r) : ∃ (v3x0 : Int) (v3x1 : (List Int)) (v3x2 : Int) (v3x3 : Int) (v3x4 : Int) (v3x5 : (List ((List UInt8) × Int))) (v3x6 : Int) (v3x7 : (List ((List UInt8) × Int))), s = (l4draw_h3 v3x0 v3x1 v3x2 v3x3 v3x4 v3x5 v3x6 v3x7) ∧ l4draw_F3 N v3x0 v3x1 v3x2 v3x3 v3x4 v3x5 v3x6 v3x7 (fun x3x0x0 x3x0x1 x3x0x2 x3x0x3 x3x0x4 x3x0x5 x3x0x6 => k (Ex.exit (0 : Nat)) (l4draw_x3e0 x3x0x0 x3x0x1 x3x0x2 x3x0x3 x3x0x4 x3x0x5 x3x0x6)) = some r := by
  cases s with | mk env objs =>
  unfold l4draw_L3 at h
  split at h
  · rename_i e1 e2
    have e3 := takeF_slots _ _ _ _ e1
    simp only at e2 e3
    subst e2 e3
    exact ⟨_, _, _, _, _, _, _, _, rfl, h⟩
  · cases h
theorem l4draw_in3 : loops l4draw_b3 = [] := by kernel_rfl
theorem l4draw_lid3 : lid l4draw_b3 = 3 := by kernel_rfl
theorem l4draw_ok3 (N : Nat) : OkL Kx l4draw_C l4draw_O 1 N (l4draw_L N) l4draw_b3 := by
  intro s k k' r hk h
  rw [l4draw_lid3] at h
  obtain ⟨v3x0, v3x1, v3x2, v3x3, v3x4, v3x5, v3x6, v3x7, rfl, h⟩ := l4draw_at3 N h
  refine loopL (Λ := l4draw_L N) l4draw_b3 ?_ N hk ((l4draw_loop3 N k v3x0 v3x1 v3x2 v3x3 v3x4 v3x5 v3x6 v3x7 N v3x0 v3x1 v3x2 v3x3 v3x4 v3x5 v3x6 v3x7).trans h)
  rw [l4draw_in3]
  exact fun _ h => nomatch h
def l4draw_run (N : Nat) (code : List Int) (i h : Int) : Option Rs := (bif ((okC code i) && true) then (bif (okC code (belI (5 : Int) code i)) then (l4draw_F3 N (belV (14 : Int) code (belI (5 : Int) code i) (belH (5 : Int) h)) code (belI (14 : Int) code (belI (5 : Int) code i)) (belH (14 : Int) (belH (5 : Int) h)) (0 : Int) ([] : (List ((List UInt8) × Int))) (newC (List.getD (List.set (List.set (List.set (List.set (List.set (List.replicate (5 : Nat) (0 : Int)) (0 : Nat) (0 : Int)) (1 : Nat) (10 : Int)) (2 : Nat) (40 : Int)) (3 : Nat) (100 : Int)) (4 : Nat) (60000 : Int)) (Int.toNat (belV (5 : Int) code i h)) (0 : Int))) (newS (List.getD (List.set (List.set (List.set (List.set (List.set (List.replicate (5 : Nat) (0 : Int)) (0 : Nat) (0 : Int)) (1 : Nat) (10 : Int)) (2 : Nat) (40 : Int)) (3 : Nat) (100 : Int)) (4 : Nat) (60000 : Int)) (Int.toNat (belV (5 : Int) code i h)) (0 : Int))) (fun x3x0x0 => (fun x3x0x1 => (fun x3x0x2 => (fun x3x0x3 => (fun x3x0x4 => (fun x3x0x5 => (fun x3x0x6 => (some ((AV.agg ((AV.ref (1 : Nat) (0 : Nat)) :: ((AV.int .i64 x3x0x5) :: ([] : (List (AV)))))), ((Ob.var ((AV.sh (Ty.int .u8) x3x0x0) :: ((AV.int .i64 x3x0x1) :: ((AV.int .i64 x3x0x2) :: ([] : (List (AV))))))) :: ((Ob.arr (Ty.pair Ty.str (Ty.int .i64)) (0 : Nat) false x3x0x6) :: ([] : (List (Ob))))))))))))))) else (none)) else (none))
theorem l4draw_runL (N : Nat) (code : List Int) (i h : Int) : runL Kx l4draw_C l4draw_O (l4draw_L N) Try.f33 ([.ptr 0 0]) ([.var [.sh (.int .u8) code, .int .i64 i, .int .i64 h]]) = l4draw_run N code i h := by kernel_rfl
theorem l4draw_body : Try.f33.body = some (codeOf Try.f33) := by kernel_rfl
theorem l4draw_loops : loops (codeOf Try.f33) = [l4draw_b3] := by kernel_rfl
theorem l4draw_ev (N : Nat) (code : List Int) (i h : Int) {res_ : Rs} (hyp_ : l4draw_run N code i h = some res_) : ∃ n_, runF Kx l4draw_C l4draw_O n_ Try.f33 ([.ptr 0 0]) ([.var [.sh (.int .u8) code, .int .i64 i, .int .i64 h]]) = some res_ :=
  ⟨N, runL_runF l4draw_body (by rw [l4draw_loops]; exact List.forall_mem_cons.2 ⟨l4draw_ok3 N, fun _ h => nomatch h⟩) ((l4draw_runL N code i h).trans hyp_)⟩
def l4draw_sOf (φ : (List Int) → Int → Int → Br) : List AV → List Ob → Br
  | [.ptr 0 0], [.var [.sh (.int .u8) code, .int .i64 i, .int .i64 h]] => φ code i h
  | _, _ => .fail
theorem l4draw_okOf {φ : (List Int) → Int → Int → Br} (fu : (List Int) → Int → Int → Nat) (hv : ∀ code i h res_, (φ code i h).val = some res_ → l4draw_run (fu code i h) code i h = some res_) : Sound Kx 33 (l4draw_sOf φ) := by
  refine sound_run (C := l4draw_C) (O := l4draw_O) KOk l4draw_C_ok Try.func33 (by kernel_rfl) fun args objs res os h => ?_
  unfold l4draw_sOf at h
  split at h
  · exact l4draw_ev _ _ _ _ (hv _ _ _ _ h)
  · cases h

end
end Go.Proofs.Ytmigffdeghfbhaa.Ev

namespace Go.Proofs.Ytmigffdeghfbhaa.Ev
open Go Go.RowKit
set_option linter.unusedVariables false
set_option linter.unusedSimpArgs false
noncomputable section

def good (l : Segs) : Prop := l.length ≤ 41 ∧ ∀ a ∈ l, a.1.length ≤ 100000
theorem good_nil : good [] := ⟨by simp, fun a h => by cases h⟩
theorem good_smS {l : Segs} (h : good l) : smS l = true := by
  unfold smS
  simp only [Bool.and_eq_true, decide_eq_true_eq, List.all_eq_true]
  exact ⟨by have := h.1; omega, fun a ha => by have := h.2 a ha; omega⟩
theorem bif_ex {P : Option Rs → Prop} {b : Bool} {x y : Option Rs} (hx : b = true → P x) (hy : b = false → P y) : P (bif b then x else y) := by
  cases b
  · exact hy rfl
  · exact hx rfl
/-! What keeps a store a store. -/
def full : Segs → Bool
  | [] => true
  | a :: r => !decide ((a.1.length : Int) = 0) && decide (a.2 = (a.1.length : Int)) && full r
theorem shape_app : ∀ (pre : Segs) (a : List UInt8 × Int), shape (pre ++ [a]) = (full pre && (decide (0 ≤ a.2) && decide (a.2 ≤ (a.1.length : Int))))
  | [], a => by simp [shape, full]
  | b :: r, a => by
    have e : (r ++ [a]).isEmpty = false := by cases r <;> rfl
    simp only [List.cons_append, shape, full, e, shape_app r a, Bool.false_or]
    by_cases h : b.2 = (b.1.length : Int)
    · have h1 : 0 ≤ b.2 := by omega
      have h2 : b.2 ≤ (b.1.length : Int) := by omega
      simp only [h, decide_true, Bool.and_true, Bool.true_and]
      have h3 : (0 : Int) ≤ (b.1.length : Int) := by omega
      simp only [h3, Int.le_refl, decide_true, Bool.true_and, Bool.and_assoc]
    · simp only [h, decide_false, Bool.and_false, Bool.false_and]
theorem okStore_snoc {pre : Segs} {a : List UInt8 × Int} {c : Int} (h1 : full pre = true) (h2 : 0 ≤ a.2) (h3 : a.2 ≤ (a.1.length : Int)) (h4 : pre.length ≤ 39) (h5 : (total (pre ++ [a]) : Int) ≤ c) (h6 : c ≤ 60000) : okStore (pre ++ [a]) c = true := by
  unfold okStore
  rw [shape_app]
  have e1 : 0 ≤ c := by omega
  have e2 : 1 ≤ (pre ++ [a]).length := by simp
  have e3 : (pre ++ [a]).length ≤ 40 := by simp; omega
  simp only [h1, h2, h3, h5, h6, e1, e2, e3, decide_true, Bool.and_self]
theorem okStore_full {pre : Segs} {a : List UInt8 × Int} {c : Int} (h : okStore (pre ++ [a]) c = true) : full pre = true := by
  unfold okStore at h
  rw [shape_app] at h
  simp only [Bool.and_eq_true] at h
  exact h.2.1.1
theorem okS_sync {l : Segs} {c : Int} (h : okStore l c = true) : okStore (syncP l c).1 (syncP l c).2 = true := by
  unfold syncP
  rw [h]
  obtain ⟨pre, a, rfl, hp, h1, h2, h3, h4, h5, h6⟩ := okStore_last h
  simp only [cond_true, updS_snoc]
  have hf := okStore_full h
  rw [total_snoc] at h6
  exact okStore_snoc hf (by simp only; omega) (by simp only; omega) hp (by rw [total_snoc]; exact h6) h5
theorem full_snoc : ∀ (pre : Segs) (a : List UInt8 × Int), full (pre ++ [a]) = (full pre && (!decide ((a.1.length : Int) = 0) && decide (a.2 = (a.1.length : Int))))
  | [], a => by simp [full]
  | b :: r, a => by simp only [List.cons_append, full, full_snoc r a, Bool.and_assoc]
theorem okS_roll {l : Segs} {c : Int} (h : okStore l c = true) (h0 : (rollP l c).2.2 = 0) : okStore (rollP l c).1 (rollP l c).2.1 = true := by
  unfold rollP at h0 ⊢
  rw [h] at h0 ⊢
  obtain ⟨pre, a, rfl, hp, h1, h2, h3, h4, h5, h6⟩ := okStore_last h
  have hf := okStore_full h
  simp only [cond_true, updS_snoc, lastS_snoc] at h0 ⊢
  by_cases h7 : a.1 = []
  · simp only [h7, decide_true, cond_true] at h0; omega
  · by_cases h8 : ((pre ++ [a]).length : Int) = 40
    · simp only [h7, h8, decide_true, decide_false, cond_true, cond_false] at h0; omega
    · simp only [h7, h8, decide_false, cond_false]
      have h9 : ¬ (a.1.length : Int) = 0 := fun e => h7 (List.length_eq_zero_iff.1 (by omega))
      refine okStore_snoc ?_ (by simp) (by simp) (by simp at h8 ⊢; omega) ?_ h5
      · rw [full_snoc]; simp only [hf, h9, decide_false, decide_true, Bool.not_false, Bool.and_self]
      · rw [total_snoc, total_snoc]; rw [total_snoc] at h6; simpa using h6
theorem okS_append {l : Segs} {c : Int} {b : List UInt8} (h : okStore l c = true) (h0 : (appendP l c b).2.2 = 0) : okStore (appendP l c b).1 (appendP l c b).2.1 = true := by
  unfold appendP at h0 ⊢
  rw [h] at h0 ⊢
  obtain ⟨pre, a, rfl, hp, h1, h2, h3, h4, h5, h6⟩ := okStore_last h
  have hf := okStore_full h
  simp only [cond_true, updS_snoc] at h0 ⊢
  by_cases h7 : c - (total (pre ++ [a]) : Int) < (b.length : Int)
  · simp only [h7, decide_true, cond_true] at h0; omega
  · simp only [h7, decide_false, cond_false]
    refine okStore_snoc hf h1 (by simp; omega) hp ?_ h5
    rw [total_snoc] at h7 ⊢
    simp only [List.length_append]; omega
theorem total_mem : ∀ {l : Segs} {a : List UInt8 × Int}, a ∈ l → a.1.length ≤ total l
  | b :: r, a, h => by
    rcases List.mem_cons.1 h with rfl | h
    · simp only [total]; omega
    · have := total_mem h; simp only [total]; omega
theorem ok_good {l : Segs} {c : Int} (h : okStore l c = true) : good l := by
  unfold okStore at h
  simp only [Bool.and_eq_true, decide_eq_true_eq] at h
  exact ⟨by omega, fun a ha => by have := total_mem ha; omega⟩
theorem okS_new {room : Int} (h1 : 0 ≤ room) (h2 : room ≤ 60000) : okStore (newS room) (newC room) = true := by
  unfold newS newC
  simp only [h1, h2, decide_true, Bool.and_self, cond_true]
  exact okStore_snoc (pre := []) rfl (by simp) (by simp) (by simp) (by simpa [total] using h1) h2

theorem l4draw_loop (code : List Int) (x4 : Int) (l5 : Segs) (K : List Int → Int → Int → Int → Segs → Int → Segs → Option Rs) : ∀ (N : Nat) (k i h c : Int) (l : Segs), k.toNat < N → k ≤ 1000 → okC code i = true → okStore l c = true →
    ∃ i' h' c' l', okC code i' = true ∧ okStore l' c' = true ∧ l4draw_F3 N k code i h x4 l5 c l K = K code i' h' x4 l5 c' l'
  | 0, k, i, h, c, l, hN, hk, hc, hg => by omega
  | N + 1, k, i, h, c, l, hN, hk, hc, hg => by
    have hs := good_smS (ok_good hg)
    by_cases h1 : 0 < k
    · have e1 : wk64 (k - 1) = k - 1 := w64 (by omega) (by omega)
      have c1 := okC_bel (n := 5) hc
      have c2 := okC_bel (n := 9) c1
      have b9 := belV_in 9 code (belI 5 code i) (belH 5 h)
      have e2 : decide (belV 9 code (belI 5 code i) (belH 5 h) ≤ 1000000) = true := by rw [decide_eq_true_eq]; have := b9.2 (by omega); omega
      have ih := fun i h c l => l4draw_loop code x4 l5 K N (k - 1) i h c l (by omega) (by omega)
      unfold l4draw_F3 l4draw_T3
      simp only [h1, hc, c1, c2, hs, e1, e2, decide_true, cond_true, Bool.and_self]
      cases decide (belV 5 code i h = 0)
      · cases decide (belV 5 code i h = 1)
        · simp only [cond_false]
          refine bif_ex (P := fun z => ∃ i' h' c' l', okC code i' = true ∧ okStore l' c' = true ∧ z = K code i' h' x4 l5 c' l') (fun hd => ?_) (fun _ => ?_)
          · exact ih _ _ _ _ (okC_of c2) (okS_append hg (of_decide_eq_true hd))
          · exact ih _ _ _ _ (okC_of c2) hg
        · simp only [cond_true, cond_false]
          refine bif_ex (P := fun z => ∃ i' h' c' l', okC code i' = true ∧ okStore l' c' = true ∧ z = K code i' h' x4 l5 c' l') (fun hd => ?_) (fun _ => ?_)
          · exact ih _ _ _ _ c1 (okS_roll hg (of_decide_eq_true hd))
          · exact ih _ _ _ _ c1 hg
      · exact ih _ _ _ _ c1 (okS_sync hg)
    · refine ⟨i, h, c, l, hc, hg, ?_⟩
      unfold l4draw_F3 l4draw_T3
      simp only [h1, decide_false, cond_false]

theorem rooms : ∀ k : Nat, k < 5 → 0 ≤ (List.set (List.set (List.set (List.set (List.set (List.replicate 5 (0 : Int)) 0 0) 1 10) 2 40) 3 100) 4 60000).getD k 0 ∧ (List.set (List.set (List.set (List.set (List.set (List.replicate 5 (0 : Int)) 0 0) 1 10) 2 40) 3 100) 4 60000).getD k 0 ≤ 60000 := by decide
theorem ok_room (code : List Int) (i h : Int) : okStore (newS ((List.set (List.set (List.set (List.set (List.set (List.replicate 5 (0 : Int)) 0 0) 1 10) 2 40) 3 100) 4 60000).getD (belV 5 code i h).toNat 0)) (newC ((List.set (List.set (List.set (List.set (List.set (List.replicate 5 (0 : Int)) 0 0) 1 10) 2 40) 3 100) 4 60000).getD (belV 5 code i h).toNat 0)) = true := by
  have hb := belV_in 5 code i h
  have := rooms (belV 5 code i h).toNat (by have := hb.2 (by omega); omega)
  exact okS_new this.1 this.2

/-- What l4draw hands back. -/
def drawR (code : List Int) (i h c : Int) (l : Segs) : Rs := (.agg [.ref 1 0, .int .i64 c], [.var [.sh (.int .u8) code, .int .i64 i, .int .i64 h], .arr (.pair .str (.int .i64)) 0 false l])
theorem l4draw_ex (code : List Int) (i h : Int) (hc : okC code i = true) : ∃ i' h' c' l', okC code i' = true ∧ okStore l' c' = true ∧ l4draw_run 1000 code i h = some (drawR code i' h' c' l') := by
  have c1 := okC_bel (n := 5) hc
  have c2 := okC_bel (n := 14) c1
  have b14 := belV_in 14 code (belI 5 code i) (belH 5 h)
  have := b14.2 (by omega)
  unfold l4draw_run
  simp only [hc, c1, cond_true, Bool.and_self]
  exact l4draw_loop code _ _ _ 1000 _ _ _ _ _ (by omega) (by omega) c2 (ok_room code i h)
open Classical in
noncomputable def dI (code : List Int) (i h : Int) : Int := if hc : okC code i = true then (l4draw_ex code i h hc).choose else 0
open Classical in
noncomputable def dH (code : List Int) (i h : Int) : Int := if hc : okC code i = true then (l4draw_ex code i h hc).choose_spec.choose else 0
open Classical in
noncomputable def dC (code : List Int) (i h : Int) : Int := if hc : okC code i = true then (l4draw_ex code i h hc).choose_spec.choose_spec.choose else 0
open Classical in
noncomputable def dL (code : List Int) (i h : Int) : Segs := if hc : okC code i = true then (l4draw_ex code i h hc).choose_spec.choose_spec.choose_spec.choose else []
theorem draw_spec {code : List Int} {i h : Int} (hc : okC code i = true) : okC code (dI code i h) = true ∧ okStore (dL code i h) (dC code i h) = true ∧ l4draw_run 1000 code i h = some (drawR code (dI code i h) (dH code i h) (dC code i h) (dL code i h)) := by
  unfold dI dH dC dL
  simp only [hc, dif_pos]
  exact (l4draw_ex code i h hc).choose_spec.choose_spec.choose_spec.choose_spec
noncomputable def l4draw_br (code : List Int) (i h : Int) : Br := .ite (okC code i) (.ret (.agg [.ref 1 0, .int .i64 (dC code i h)]) [.var [.sh (.int .u8) code, .int .i64 (dI code i h), .int .i64 (dH code i h)], .arr (.pair .str (.int .i64)) 0 false (dL code i h)]) .fail
noncomputable def l4draw_s := l4draw_sOf l4draw_br
theorem l4draw_ok : Sound Kx 33 l4draw_s := by
  refine l4draw_okOf (fun _ _ _ => 1000) fun code i h r hv => ?_
  unfold l4draw_br at hv
  obtain ⟨h1, h2⟩ := ite_some hv
  rw [← h2]
  exact (draw_spec h1).2.2

end
end Go.Proofs.Ytmigffdeghfbhaa.Ev

namespace Go.Proofs.Ytmigffdeghfbhaa.Ev
open Go Go.RowKit
set_option linter.unusedVariables false
set_option linter.unusedSimpArgs false
noncomputable section

/-! spec.l4bent -/
def l4bent_O : Opt := { cons := [], keepNil := false, mutF := [], live := [(6, [0, 2, 3])], outs := [(6, [2, 3])] }
def l4bent_C : Spec := (add (add (add (add (add noS 23 belowQ_s) 35 pickQ_s) 34 l1Once_s) 33 l4draw_s) 36 sUsed_s)
theorem l4bent_C_ok : ∀ fn, Sound Kx fn (l4bent_C fn) := (sound_add (sound_add (sound_add (sound_add (sound_add (sound_no Kx) l1Below_okQ) l1Pick_okQ) l1Once_ok) l4draw_ok) sUsed_ok)
def l4bent_T6 (v6x0 : (List Int)) (v6x1 : Int) (v6x2 : Int) (v6x3 : Int) (v6x4 : (List ((List UInt8) × Int))) (v6x5 : Int) (v6x6 : (List ((List UInt8) × Int))) (kR6 : (List Int) → Int → Int → Int → (List ((List UInt8) × Int)) → Int → (List ((List UInt8) × Int)) → Option Rs) (k6e0 : (List Int) → Int → Int → Int → (List ((List UInt8) × Int)) → Int → (List ((List UInt8) × Int)) → Option Rs) : Option Rs :=
  (bif (okC v6x0 v6x1) then (bif (decide (((List.length v6x6) : Int) < (wk64 ((40 : Int) + (belV (2 : Int) v6x0 v6x1 v6x2))))) then (bif (decide ((((1 : Nat) + (List.length v6x6)) * (24 : Nat)) ≤ (140737488355328 : Nat))) then (kR6 v6x0 (belI (2 : Int) v6x0 v6x1) (belH (2 : Int) v6x2) v6x3 v6x4 v6x5 ((List.set (List.replicate (1 : Nat) (([] : (List UInt8)), (0 : Int))) (0 : Nat) (((120 : UInt8) :: ([] : (List UInt8))), (1 : Int))) ++ v6x6)) else (none)) else (k6e0 v6x0 (belI (2 : Int) v6x0 v6x1) (belH (2 : Int) v6x2) v6x3 v6x4 v6x5 v6x6)) else (none))
def l4bent_F6 : Nat → (List Int) → Int → Int → Int → (List ((List UInt8) × Int)) → Int → (List ((List UInt8) × Int)) → ((List Int) → Int → Int → Int → (List ((List UInt8) × Int)) → Int → (List ((List UInt8) × Int)) → Option Rs) → Option Rs
  | 0, _, _, _, _, _, _, _, _ => none
  | n + 1, v6x0, v6x1, v6x2, v6x3, v6x4, v6x5, v6x6, k6e0 => l4bent_T6 v6x0 v6x1 v6x2 v6x3 v6x4 v6x5 v6x6 (fun v6x0 v6x1 v6x2 v6x3 v6x4 v6x5 v6x6 => l4bent_F6 n v6x0 v6x1 v6x2 v6x3 v6x4 v6x5 v6x6 k6e0) k6e0
def l4bent_h6 (v6x0 : (List Int)) (v6x1 : Int) (v6x2 : Int) (v6x3 : Int) (v6x4 : (List ((List UInt8) × Int))) (v6x5 : Int) (v6x6 : (List ((List UInt8) × Int))) : St := (St.mk (slots 0 72 [(0, (AV.ptr (0 : Nat) (0 : Nat))), (2, (AV.ptr (192 : Nat) (0 : Nat))), (3, (AV.ptr (256 : Nat) (0 : Nat)))]) (((0 : Nat), (Ob.var ((AV.sh (Ty.int .u8) v6x0) :: ((AV.int .i64 v6x1) :: ((AV.int .i64 v6x2) :: ([] : (List (AV)))))))) :: (((192 : Nat), (Ob.var ((AV.ref (193 : Nat) (0 : Nat)) :: ((AV.int .i64 v6x3) :: ([] : (List (AV))))))) :: (((193 : Nat), (Ob.arr (Ty.pair Ty.str (Ty.int .i64)) (0 : Nat) false v6x4)) :: (((256 : Nat), (Ob.var ((AV.ref (257 : Nat) (0 : Nat)) :: ((AV.int .i64 v6x5) :: ([] : (List (AV))))))) :: (((257 : Nat), (Ob.arr (Ty.pair Ty.str (Ty.int .i64)) (0 : Nat) false v6x6)) :: ([] : (List (Nat × (Ob))))))))))
def l4bent_x6e0 (x6x0x0 : (List Int)) (x6x0x1 : Int) (x6x0x2 : Int) (x6x0x3 : Int) (x6x0x4 : (List ((List UInt8) × Int))) (x6x0x5 : Int) (x6x0x6 : (List ((List UInt8) × Int))) : St := (St.mk (slots 0 72 [(2, (AV.ptr (192 : Nat) (0 : Nat))), (3, (AV.ptr (256 : Nat) (0 : Nat)))]) (((0 : Nat), (Ob.var ((AV.sh (Ty.int .u8) x6x0x0) :: ((AV.int .i64 x6x0x1) :: ((AV.int .i64 x6x0x2) :: ([] : (List (AV)))))))) :: (((192 : Nat), (Ob.var ((AV.ref (193 : Nat) (0 : Nat)) :: ((AV.int .i64 x6x0x3) :: ([] : (List (AV))))))) :: (((193 : Nat), (Ob.arr (Ty.pair Ty.str (Ty.int .i64)) (0 : Nat) false x6x0x4)) :: (((256 : Nat), (Ob.var ((AV.ref (257 : Nat) (0 : Nat)) :: ((AV.int .i64 x6x0x5) :: ([] : (List (AV))))))) :: (((257 : Nat), (Ob.arr (Ty.pair Ty.str (Ty.int .i64)) (0 : Nat) false x6x0x6)) :: ([] : (List (Nat × (Ob))))))))))
noncomputable def l4bent_b6 : Code := codeAt (codeOf Try.f22) [1, 1, 1, 1, 0, 1, 0, 1, 1, 1, 1, 1, 1, 1, 1, 0, 0, 0]
def l4bent_L6 (N : Nat) (st : St) (k : Ex → St → Option Rs) : Option Rs := match takeF [0, 2, 3] 0 72 st.env, st.objs with
  | some [.ptr 0 0, .ptr 192 0, .ptr 256 0], [(0, .var [.sh (Ty.int .u8) v6x0, .int .i64 v6x1, .int .i64 v6x2]), (192, .var [.ref 193 0, .int .i64 v6x3]), (193, .arr (Ty.pair Ty.str (Ty.int .i64)) 0 false v6x4), (256, .var [.ref 257 0, .int .i64 v6x5]), (257, .arr (Ty.pair Ty.str (Ty.int .i64)) 0 false v6x6)] => l4bent_F6 N v6x0 v6x1 v6x2 v6x3 v6x4 v6x5 v6x6 (fun x6x0x0 x6x0x1 x6x0x2 x6x0x3 x6x0x4 x6x0x5 x6x0x6 => k (Ex.exit (1 : Nat)) (l4bent_x6e0 x6x0x0 x6x0x1 x6x0x2 x6x0x3 x6x0x4 x6x0x5 x6x0x6))
  | _, _ => none
def l4bent_L (N : Nat) : Lam := fun j st k => match j with
  | 6 => l4bent_L6 N st k
  | _ => none
theorem l4bent_round6 (N : Nat) (again : St → Option Rs) (k : Ex → St → Option Rs) (wv6x0 : (List Int)) (wv6x1 : Int) (wv6x2 : Int) (wv6x3 : Int) (wv6x4 : (List ((List UInt8) × Int))) (wv6x5 : Int) (wv6x6 : (List ((List UInt8) × Int))) (v6x0 : (List Int)) (v6x1 : Int) (v6x2 : Int) (v6x3 : Int) (v6x4 : (List ((List UInt8) × Int))) (v6x5 : Int) (v6x6 : (List ((List UInt8) × Int))) :
    roundK 1 (fun st k => evL Kx l4bent_C l4bent_O 1 (l4bent_L N) l4bent_b6 st k) (l4bent_h6 wv6x0 wv6x1 wv6x2 wv6x3 wv6x4 wv6x5 wv6x6).env again (l4bent_h6 v6x0 v6x1 v6x2 v6x3 v6x4 v6x5 v6x6) (outK l4bent_O 1 l4bent_b6 k) = l4bent_T6 v6x0 v6x1 v6x2 v6x3 v6x4 v6x5 v6x6 (fun v6x0 v6x1 v6x2 v6x3 v6x4 v6x5 v6x6 => again (l4bent_h6 v6x0 v6x1 v6x2 v6x3 v6x4 v6x5 v6x6)) (fun x6x0x0 x6x0x1 x6x0x2 x6x0x3 x6x0x4 x6x0x5 x6x0x6 => k (Ex.exit (1 : Nat)) (l4bent_x6e0 x6x0x0 x6x0x1 x6x0x2 x6x0x3 x6x0x4 x6x0x5 x6x0x6)) := by kernel_rfl
theorem l4bent_loop6 (N : Nat) (k : Ex → St → Option Rs) (wv6x0 : (List Int)) (wv6x1 : Int) (wv6x2 : Int) (wv6x3 : Int) (wv6x4 : (List ((List UInt8) × Int))) (wv6x5 : Int) (wv6x6 : (List ((List UInt8) × Int))) : ∀ (n : Nat) (v6x0 : (List Int)) (v6x1 : Int) (v6x2 : Int) (v6x3 : Int) (v6x4 : (List ((List UInt8) × Int))) (v6x5 : Int) (v6x6 : (List ((List UInt8) × Int))),
    loopK 1 (fun st k => evL Kx l4bent_C l4bent_O 1 (l4bent_L N) l4bent_b6 st k) (l4bent_h6 wv6x0 wv6x1 wv6x2 wv6x3 wv6x4 wv6x5 wv6x6).env n (l4bent_h6 v6x0 v6x1 v6x2 v6x3 v6x4 v6x5 v6x6) (outK l4bent_O 1 l4bent_b6 k) = l4bent_F6 n v6x0 v6x1 v6x2 v6x3 v6x4 v6x5 v6x6 (fun x6x0x0 x6x0x1 x6x0x2 x6x0x3 x6x0x4 x6x0x5 x6x0x6 => k (Ex.exit (1 : Nat)) (l4bent_x6e0 x6x0x0 x6x0x1 x6x0x2 x6x0x3 x6x0x4 x6x0x5 x6x0x6))
  | 0, _, _, _, _, _, _, _ => rfl
  | n + 1, v6x0, v6x1, v6x2, v6x3, v6x4, v6x5, v6x6 => by
    rw [loopK_succ, l4bent_round6]
    simp only [l4bent_loop6 N k wv6x0 wv6x1 wv6x2 wv6x3 wv6x4 wv6x5 wv6x6 n]
    rfl
theorem l4bent_at6 (N : Nat) {s : St} {k : Ex → St → Option Rs} {r : Rs} (h : l4bent_L6 N s k = some r) : ∃ (v6x0 : (List Int)) (v6x1 : Int) (v6x2 : Int) (v6x3 : Int) (v6x4 : (List ((List UInt8) × Int))) (v6x5 : Int) (v6x6 : (List ((List UInt8) × Int))), s = (l4bent_h6 v6x0 v6x1 v6x2 v6x3 v6x4 v6x5 v6x6) ∧ l4bent_F6 N v6x0 v6x1 v6x2 v6x3 v6x4 v6x5 v6x6 (fun x6x0x0 x6x0x1 x6x0x2 x6x0x3 x6x0x4 x6x0x5 x6x0x6 => k (Ex.exit (1 : Nat)) (l4bent_x6e0 x6x0x0 x6x0x1 x6x0x2 x6x0x3 x6x0x4 x6x0x5 x6x0x6)) = some r := by
  cases s with | mk env objs =>
  unfold l4bent_L6 at h
  split at h
  · rename_i e1 e2
    have e3 := takeF_slots _ _ _ _ e1
    simp only at e2 e3
    subst e2 e3
    exact ⟨_, _, _, _, _, _, _, rfl, h⟩
  · cases h
theorem l4bent_in6 : loops l4bent_b6 = [] := by kernel_rfl
theorem l4bent_lid6 : lid l4bent_b6 = 6 := by kernel_rfl
theorem l4bent_ok6 (N : Nat) : OkL Kx l4bent_C l4bent_O 1 N (l4bent_L N) l4bent_b6 := by
  intro s k k' r hk h
  rw [l4bent_lid6] at h
  obtain ⟨v6x0, v6x1, v6x2, v6x3, v6x4, v6x5, v6x6, rfl, h⟩ := l4bent_at6 N h
  refine loopL (Λ := l4bent_L N) l4bent_b6 ?_ N hk ((l4bent_loop6 N k v6x0 v6x1 v6x2 v6x3 v6x4 v6x5 v6x6 N v6x0 v6x1 v6x2 v6x3 v6x4 v6x5 v6x6).trans h)
  rw [l4bent_in6]
  exact fun _ h => nomatch h
def l4bent_run (N : Nat) (code : List Int) (i h : Int) : Option Rs := (bif (okC code i) then (bif (okC code (dI code i h)) then (bif (!(decide ((belV (6 : Int) code (dI code i h) (dH code i h)) = (0 : Int)))) then (some ((AV.agg ((AV.ref (1 : Nat) (0 : Nat)) :: ((AV.int .i64 (dC code i h)) :: ([] : (List (AV)))))), ((Ob.var ((AV.sh (Ty.int .u8) code) :: ((AV.int .i64 (belI (6 : Int) code (dI code i h))) :: ((AV.int .i64 (belH (6 : Int) (dH code i h))) :: ([] : (List (AV))))))) :: ((Ob.arr (Ty.pair Ty.str (Ty.int .i64)) (0 : Nat) false (dL code i h)) :: ([] : (List (Ob))))))) else (bif (okC code (belI (6 : Int) code (dI code i h))) then (bif (okC code (belI ((List.length (dL code i h)) : Int) code (belI (6 : Int) code (dI code i h)))) then (bif (decide ((belV (5 : Int) code (belI ((List.length (dL code i h)) : Int) code (belI (6 : Int) code (dI code i h))) (belH ((List.length (dL code i h)) : Int) (belH (6 : Int) (dH code i h)))) = (0 : Int))) then (bif (!(okStore (dL code i h) (dC code i h))) then (bif (!(okStore (dL code i h) (dC code i h))) then (bif ((okC code (belI (5 : Int) code (belI ((List.length (dL code i h)) : Int) code (belI (6 : Int) code (dI code i h))))) && true) then (some ((AV.agg ((AV.ref (1 : Nat) (0 : Nat)) :: ((AV.int .i64 (List.getD (List.set (List.set (List.set (List.set (List.replicate (4 : Nat) (0 : Int)) (0 : Nat) (-(1 : Int))) (1 : Nat) (60001 : Int)) (2 : Nat) (-(1 : Int))) (3 : Nat) (wrapk .i64 ((-(1 : Int)) - (1 : Int)))) (Int.toNat (belV (4 : Int) code (belI (5 : Int) code (belI ((List.length (dL code i h)) : Int) code (belI (6 : Int) code (dI code i h)))) (belH (5 : Int) (belH ((List.length (dL code i h)) : Int) (belH (6 : Int) (dH code i h)))))) (0 : Int))) :: ([] : (List (AV)))))), ((Ob.var ((AV.sh (Ty.int .u8) code) :: ((AV.int .i64 (belI (4 : Int) code (belI (5 : Int) code (belI ((List.length (dL code i h)) : Int) code (belI (6 : Int) code (dI code i h)))))) :: ((AV.int .i64 (belH (4 : Int) (belH (5 : Int) (belH ((List.length (dL code i h)) : Int) (belH (6 : Int) (dH code i h)))))) :: ([] : (List (AV))))))) :: ((Ob.arr (Ty.pair Ty.str (Ty.int .i64)) (0 : Nat) false (dL code i h)) :: ([] : (List (Ob))))))) else (none)) else (bif ((okC code (belI (5 : Int) code (belI ((List.length (dL code i h)) : Int) code (belI (6 : Int) code (dI code i h))))) && (decide ((0 : Nat) < (List.length (List.set (List.set (List.set (List.set (List.replicate (4 : Nat) (0 : Int)) (0 : Nat) (-(1 : Int))) (1 : Nat) (60001 : Int)) (2 : Nat) (-(1 : Int))) (3 : Nat) (wk64 (((List.length (bif (okStore (dL code i h) (dC code i h)) then (allB (dL code i h)) else ([] : (List UInt8)))) : Int) - (1 : Int)))))))) then (some ((AV.agg ((AV.ref (1 : Nat) (0 : Nat)) :: ((AV.int .i64 (List.getD (List.set (List.set (List.set (List.set (List.replicate (4 : Nat) (0 : Int)) (0 : Nat) (-(1 : Int))) (1 : Nat) (60001 : Int)) (2 : Nat) (-(1 : Int))) (3 : Nat) (wk64 (((List.length (bif (okStore (dL code i h) (dC code i h)) then (allB (dL code i h)) else ([] : (List UInt8)))) : Int) - (1 : Int)))) (Int.toNat (belV ((List.length (List.set (List.set (List.set (List.set (List.replicate (4 : Nat) (0 : Int)) (0 : Nat) (-(1 : Int))) (1 : Nat) (60001 : Int)) (2 : Nat) (-(1 : Int))) (3 : Nat) (wk64 (((List.length (bif (okStore (dL code i h) (dC code i h)) then (allB (dL code i h)) else ([] : (List UInt8)))) : Int) - (1 : Int))))) : Int) code (belI (5 : Int) code (belI ((List.length (dL code i h)) : Int) code (belI (6 : Int) code (dI code i h)))) (belH (5 : Int) (belH ((List.length (dL code i h)) : Int) (belH (6 : Int) (dH code i h)))))) (0 : Int))) :: ([] : (List (AV)))))), ((Ob.var ((AV.sh (Ty.int .u8) code) :: ((AV.int .i64 (belI ((List.length (List.set (List.set (List.set (List.set (List.replicate (4 : Nat) (0 : Int)) (0 : Nat) (-(1 : Int))) (1 : Nat) (60001 : Int)) (2 : Nat) (-(1 : Int))) (3 : Nat) (wk64 (((List.length (bif (okStore (dL code i h) (dC code i h)) then (allB (dL code i h)) else ([] : (List UInt8)))) : Int) - (1 : Int))))) : Int) code (belI (5 : Int) code (belI ((List.length (dL code i h)) : Int) code (belI (6 : Int) code (dI code i h)))))) :: ((AV.int .i64 (belH ((List.length (List.set (List.set (List.set (List.set (List.replicate (4 : Nat) (0 : Int)) (0 : Nat) (-(1 : Int))) (1 : Nat) (60001 : Int)) (2 : Nat) (-(1 : Int))) (3 : Nat) (wk64 (((List.length (bif (okStore (dL code i h) (dC code i h)) then (allB (dL code i h)) else ([] : (List UInt8)))) : Int) - (1 : Int))))) : Int) (belH (5 : Int) (belH ((List.length (dL code i h)) : Int) (belH (6 : Int) (dH code i h)))))) :: ([] : (List (AV))))))) :: ((Ob.arr (Ty.pair Ty.str (Ty.int .i64)) (0 : Nat) false (dL code i h)) :: ([] : (List (Ob))))))) else (none))) else (bif (!(okStore (dL code i h) (dC code i h))) then (bif ((okC code (belI (5 : Int) code (belI ((List.length (dL code i h)) : Int) code (belI (6 : Int) code (dI code i h))))) && (decide ((0 : Nat) < (List.length (List.set (List.set (List.set (List.set (List.replicate (4 : Nat) (0 : Int)) (0 : Nat) (-(1 : Int))) (1 : Nat) (60001 : Int)) (2 : Nat) ((List.length (bif (okStore (dL code i h) (dC code i h)) then (allB (dL code i h)) else ([] : (List UInt8)))) : Int)) (3 : Nat) (wrapk .i64 ((-(1 : Int)) - (1 : Int)))))))) then (some ((AV.agg ((AV.ref (1 : Nat) (0 : Nat)) :: ((AV.int .i64 (List.getD (List.set (List.set (List.set (List.set (List.replicate (4 : Nat) (0 : Int)) (0 : Nat) (-(1 : Int))) (1 : Nat) (60001 : Int)) (2 : Nat) ((List.length (bif (okStore (dL code i h) (dC code i h)) then (allB (dL code i h)) else ([] : (List UInt8)))) : Int)) (3 : Nat) (wrapk .i64 ((-(1 : Int)) - (1 : Int)))) (Int.toNat (belV ((List.length (List.set (List.set (List.set (List.set (List.replicate (4 : Nat) (0 : Int)) (0 : Nat) (-(1 : Int))) (1 : Nat) (60001 : Int)) (2 : Nat) ((List.length (bif (okStore (dL code i h) (dC code i h)) then (allB (dL code i h)) else ([] : (List UInt8)))) : Int)) (3 : Nat) (wrapk .i64 ((-(1 : Int)) - (1 : Int))))) : Int) code (belI (5 : Int) code (belI ((List.length (dL code i h)) : Int) code (belI (6 : Int) code (dI code i h)))) (belH (5 : Int) (belH ((List.length (dL code i h)) : Int) (belH (6 : Int) (dH code i h)))))) (0 : Int))) :: ([] : (List (AV)))))), ((Ob.var ((AV.sh (Ty.int .u8) code) :: ((AV.int .i64 (belI ((List.length (List.set (List.set (List.set (List.set (List.replicate (4 : Nat) (0 : Int)) (0 : Nat) (-(1 : Int))) (1 : Nat) (60001 : Int)) (2 : Nat) ((List.length (bif (okStore (dL code i h) (dC code i h)) then (allB (dL code i h)) else ([] : (List UInt8)))) : Int)) (3 : Nat) (wrapk .i64 ((-(1 : Int)) - (1 : Int))))) : Int) code (belI (5 : Int) code (belI ((List.length (dL code i h)) : Int) code (belI (6 : Int) code (dI code i h)))))) :: ((AV.int .i64 (belH ((List.length (List.set (List.set (List.set (List.set (List.replicate (4 : Nat) (0 : Int)) (0 : Nat) (-(1 : Int))) (1 : Nat) (60001 : Int)) (2 : Nat) ((List.length (bif (okStore (dL code i h) (dC code i h)) then (allB (dL code i h)) else ([] : (List UInt8)))) : Int)) (3 : Nat) (wrapk .i64 ((-(1 : Int)) - (1 : Int))))) : Int) (belH (5 : Int) (belH ((List.length (dL code i h)) : Int) (belH (6 : Int) (dH code i h)))))) :: ([] : (List (AV))))))) :: ((Ob.arr (Ty.pair Ty.str (Ty.int .i64)) (0 : Nat) false (dL code i h)) :: ([] : (List (Ob))))))) else (none)) else (bif ((okC code (belI (5 : Int) code (belI ((List.length (dL code i h)) : Int) code (belI (6 : Int) code (dI code i h))))) && (decide ((0 : Nat) < (List.length (List.set (List.set (List.set (List.set (List.replicate (4 : Nat) (0 : Int)) (0 : Nat) (-(1 : Int))) (1 : Nat) (60001 : Int)) (2 : Nat) ((List.length (bif (okStore (dL code i h) (dC code i h)) then (allB (dL code i h)) else ([] : (List UInt8)))) : Int)) (3 : Nat) (wk64 (((List.length (bif (okStore (dL code i h) (dC code i h)) then (allB (dL code i h)) else ([] : (List UInt8)))) : Int) - (1 : Int)))))))) then (some ((AV.agg ((AV.ref (1 : Nat) (0 : Nat)) :: ((AV.int .i64 (List.getD (List.set (List.set (List.set (List.set (List.replicate (4 : Nat) (0 : Int)) (0 : Nat) (-(1 : Int))) (1 : Nat) (60001 : Int)) (2 : Nat) ((List.length (bif (okStore (dL code i h) (dC code i h)) then (allB (dL code i h)) else ([] : (List UInt8)))) : Int)) (3 : Nat) (wk64 (((List.length (bif (okStore (dL code i h) (dC code i h)) then (allB (dL code i h)) else ([] : (List UInt8)))) : Int) - (1 : Int)))) (Int.toNat (belV ((List.length (List.set (List.set (List.set (List.set (List.replicate (4 : Nat) (0 : Int)) (0 : Nat) (-(1 : Int))) (1 : Nat) (60001 : Int)) (2 : Nat) ((List.length (bif (okStore (dL code i h) (dC code i h)) then (allB (dL code i h)) else ([] : (List UInt8)))) : Int)) (3 : Nat) (wk64 (((List.length (bif (okStore (dL code i h) (dC code i h)) then (allB (dL code i h)) else ([] : (List UInt8)))) : Int) - (1 : Int))))) : Int) code (belI (5 : Int) code (belI ((List.length (dL code i h)) : Int) code (belI (6 : Int) code (dI code i h)))) (belH (5 : Int) (belH ((List.length (dL code i h)) : Int) (belH (6 : Int) (dH code i h)))))) (0 : Int))) :: ([] : (List (AV)))))), ((Ob.var ((AV.sh (Ty.int .u8) code) :: ((AV.int .i64 (belI ((List.length (List.set (List.set (List.set (List.set (List.replicate (4 : Nat) (0 : Int)) (0 : Nat) (-(1 : Int))) (1 : Nat) (60001 : Int)) (2 : Nat) ((List.length (bif (okStore (dL code i h) (dC code i h)) then (allB (dL code i h)) else ([] : (List UInt8)))) : Int)) (3 : Nat) (wk64 (((List.length (bif (okStore (dL code i h) (dC code i h)) then (allB (dL code i h)) else ([] : (List UInt8)))) : Int) - (1 : Int))))) : Int) code (belI (5 : Int) code (belI ((List.length (dL code i h)) : Int) code (belI (6 : Int) code (dI code i h)))))) :: ((AV.int .i64 (belH ((List.length (List.set (List.set (List.set (List.set (List.replicate (4 : Nat) (0 : Int)) (0 : Nat) (-(1 : Int))) (1 : Nat) (60001 : Int)) (2 : Nat) ((List.length (bif (okStore (dL code i h) (dC code i h)) then (allB (dL code i h)) else ([] : (List UInt8)))) : Int)) (3 : Nat) (wk64 (((List.length (bif (okStore (dL code i h) (dC code i h)) then (allB (dL code i h)) else ([] : (List UInt8)))) : Int) - (1 : Int))))) : Int) (belH (5 : Int) (belH ((List.length (dL code i h)) : Int) (belH (6 : Int) (dH code i h)))))) :: ([] : (List (AV))))))) :: ((Ob.arr (Ty.pair Ty.str (Ty.int .i64)) (0 : Nat) false (dL code i h)) :: ([] : (List (Ob))))))) else (none)))) else (bif (decide ((belV (5 : Int) code (belI ((List.length (dL code i h)) : Int) code (belI (6 : Int) code (dI code i h))) (belH ((List.length (dL code i h)) : Int) (belH (6 : Int) (dH code i h)))) = (1 : Int))) then (bif (decide ((0 : Int) ≤ (belV ((List.length (dL code i h)) : Int) code (belI (6 : Int) code (dI code i h)) (belH (6 : Int) (dH code i h))))) then (bif (decide ((belV ((List.length (dL code i h)) : Int) code (belI (6 : Int) code (dI code i h)) (belH (6 : Int) (dH code i h))) < ((List.length (dL code i h)) : Int))) then (bif ((okC code (belI (5 : Int) code (belI ((List.length (dL code i h)) : Int) code (belI (6 : Int) code (dI code i h))))) && (decide ((0 : Nat) < (List.length (List.set (List.set (List.set (List.replicate (3 : Nat) (0 : Int)) (0 : Nat) (-(1 : Int))) (1 : Nat) (wk64 (((List.length (List.getD (dL code i h) (Int.toNat (belV ((List.length (dL code i h)) : Int) code (belI (6 : Int) code (dI code i h)) (belH (6 : Int) (dH code i h)))) (([] : (List UInt8)), (0 : Int))).1) : Int) + (1 : Int)))) (2 : Nat) (0 : Int)))))) then (bif (decide ((0 : Int) ≤ (belV ((List.length (dL code i h)) : Int) code (belI (6 : Int) code (dI code i h)) (belH (6 : Int) (dH code i h))))) then (bif (decide ((belV ((List.length (dL code i h)) : Int) code (belI (6 : Int) code (dI code i h)) (belH (6 : Int) (dH code i h))) < ((List.length (dL code i h)) : Int))) then (some ((AV.agg ((AV.ref (1 : Nat) (0 : Nat)) :: ((AV.int .i64 (dC code i h)) :: ([] : (List (AV)))))), ((Ob.var ((AV.sh (Ty.int .u8) code) :: ((AV.int .i64 (belI ((List.length (List.set (List.set (List.set (List.replicate (3 : Nat) (0 : Int)) (0 : Nat) (-(1 : Int))) (1 : Nat) (wk64 (((List.length (List.getD (dL code i h) (Int.toNat (belV ((List.length (dL code i h)) : Int) code (belI (6 : Int) code (dI code i h)) (belH (6 : Int) (dH code i h)))) (([] : (List UInt8)), (0 : Int))).1) : Int) + (1 : Int)))) (2 : Nat) (0 : Int))) : Int) code (belI (5 : Int) code (belI ((List.length (dL code i h)) : Int) code (belI (6 : Int) code (dI code i h)))))) :: ((AV.int .i64 (belH ((List.length (List.set (List.set (List.set (List.replicate (3 : Nat) (0 : Int)) (0 : Nat) (-(1 : Int))) (1 : Nat) (wk64 (((List.length (List.getD (dL code i h) (Int.toNat (belV ((List.length (dL code i h)) : Int) code (belI (6 : Int) code (dI code i h)) (belH (6 : Int) (dH code i h)))) (([] : (List UInt8)), (0 : Int))).1) : Int) + (1 : Int)))) (2 : Nat) (0 : Int))) : Int) (belH (5 : Int) (belH ((List.length (dL code i h)) : Int) (belH (6 : Int) (dH code i h)))))) :: ([] : (List (AV))))))) :: ((Ob.arr (Ty.pair Ty.str (Ty.int .i64)) (0 : Nat) false (List.set (dL code i h) (Int.toNat (belV ((List.length (dL code i h)) : Int) code (belI (6 : Int) code (dI code i h)) (belH (6 : Int) (dH code i h)))) ((List.getD (dL code i h) (Int.toNat (belV ((List.length (dL code i h)) : Int) code (belI (6 : Int) code (dI code i h)) (belH (6 : Int) (dH code i h)))) (([] : (List UInt8)), (0 : Int))).1, (List.getD (List.set (List.set (List.set (List.replicate (3 : Nat) (0 : Int)) (0 : Nat) (-(1 : Int))) (1 : Nat) (wk64 (((List.length (List.getD (dL code i h) (Int.toNat (belV ((List.length (dL code i h)) : Int) code (belI (6 : Int) code (dI code i h)) (belH (6 : Int) (dH code i h)))) (([] : (List UInt8)), (0 : Int))).1) : Int) + (1 : Int)))) (2 : Nat) (0 : Int)) (Int.toNat (belV ((List.length (List.set (List.set (List.set (List.replicate (3 : Nat) (0 : Int)) (0 : Nat) (-(1 : Int))) (1 : Nat) (wk64 (((List.length (List.getD (dL code i h) (Int.toNat (belV ((List.length (dL code i h)) : Int) code (belI (6 : Int) code (dI code i h)) (belH (6 : Int) (dH code i h)))) (([] : (List UInt8)), (0 : Int))).1) : Int) + (1 : Int)))) (2 : Nat) (0 : Int))) : Int) code (belI (5 : Int) code (belI ((List.length (dL code i h)) : Int) code (belI (6 : Int) code (dI code i h)))) (belH (5 : Int) (belH ((List.length (dL code i h)) : Int) (belH (6 : Int) (dH code i h)))))) (0 : Int))))) :: ([] : (List (Ob))))))) else (none)) else (none)) else (none)) else (none)) else (none)) else (bif (decide ((belV (5 : Int) code (belI ((List.length (dL code i h)) : Int) code (belI (6 : Int) code (dI code i h))) (belH ((List.length (dL code i h)) : Int) (belH (6 : Int) (dH code i h)))) = (2 : Int))) then (bif (decide ((0 : Int) ≤ (belV ((List.length (dL code i h)) : Int) code (belI (6 : Int) code (dI code i h)) (belH (6 : Int) (dH code i h))))) then (bif (decide ((belV ((List.length (dL code i h)) : Int) code (belI (6 : Int) code (dI code i h)) (belH (6 : Int) (dH code i h))) < ((List.length (dL code i h)) : Int))) then (some ((AV.agg ((AV.ref (1 : Nat) (0 : Nat)) :: ((AV.int .i64 (dC code i h)) :: ([] : (List (AV)))))), ((Ob.var ((AV.sh (Ty.int .u8) code) :: ((AV.int .i64 (belI (5 : Int) code (belI ((List.length (dL code i h)) : Int) code (belI (6 : Int) code (dI code i h))))) :: ((AV.int .i64 (belH (5 : Int) (belH ((List.length (dL code i h)) : Int) (belH (6 : Int) (dH code i h))))) :: ([] : (List (AV))))))) :: ((Ob.arr (Ty.pair Ty.str (Ty.int .i64)) (0 : Nat) false (List.set (dL code i h) (Int.toNat (belV ((List.length (dL code i h)) : Int) code (belI (6 : Int) code (dI code i h)) (belH (6 : Int) (dH code i h)))) (([] : (List UInt8)), (0 : Int)))) :: ([] : (List (Ob))))))) else (none)) else (none)) else (bif (decide ((belV (5 : Int) code (belI ((List.length (dL code i h)) : Int) code (belI (6 : Int) code (dI code i h))) (belH ((List.length (dL code i h)) : Int) (belH (6 : Int) (dH code i h)))) = (3 : Int))) then (some ((AV.agg ((AV.ref (List.length ((Ob.var ((AV.sh (Ty.int .u8) code) :: ((AV.int .i64 (belI (5 : Int) code (belI ((List.length (dL code i h)) : Int) code (belI (6 : Int) code (dI code i h))))) :: ((AV.int .i64 (belH (5 : Int) (belH ((List.length (dL code i h)) : Int) (belH (6 : Int) (dH code i h))))) :: ([] : (List (AV))))))) :: ([] : (List (Ob))))) (0 : Nat)) :: ((AV.int .i64 (dC code i h)) :: ([] : (List (AV)))))), ((Ob.var ((AV.sh (Ty.int .u8) code) :: ((AV.int .i64 (belI (5 : Int) code (belI ((List.length (dL code i h)) : Int) code (belI (6 : Int) code (dI code i h))))) :: ((AV.int .i64 (belH (5 : Int) (belH ((List.length (dL code i h)) : Int) (belH (6 : Int) (dH code i h))))) :: ([] : (List (AV))))))) :: ((Ob.arr (Ty.pair Ty.str (Ty.int .i64)) (0 : Nat) false ([] : (List ((List UInt8) × Int)))) :: ([] : (List (Ob))))))) else (l4bent_F6 N code (belI (5 : Int) code (belI ((List.length (dL code i h)) : Int) code (belI (6 : Int) code (dI code i h)))) (belH (5 : Int) (belH ((List.length (dL code i h)) : Int) (belH (6 : Int) (dH code i h)))) (0 : Int) ([] : (List ((List UInt8) × Int))) (dC code i h) (dL code i h) (fun x6x0x0 => (fun x6x0x1 => (fun x6x0x2 => (fun x6x0x3 => (fun x6x0x4 => (fun x6x0x5 => (fun x6x0x6 => (some ((AV.agg ((AV.ref (1 : Nat) (0 : Nat)) :: ((AV.int .i64 (60000 : Int)) :: ([] : (List (AV)))))), ((Ob.var ((AV.sh (Ty.int .u8) x6x0x0) :: ((AV.int .i64 x6x0x1) :: ((AV.int .i64 x6x0x2) :: ([] : (List (AV))))))) :: ((Ob.arr (Ty.pair Ty.str (Ty.int .i64)) (0 : Nat) false x6x0x6) :: ([] : (List (Ob))))))))))))))))))) else (none)) else (none))) else (none)) else (none))
theorem l4bent_runL (N : Nat) (code : List Int) (i h : Int) : runL Kx l4bent_C l4bent_O (l4bent_L N) Try.f22 ([.ptr 0 0]) ([.var [.sh (.int .u8) code, .int .i64 i, .int .i64 h]]) = l4bent_run N code i h := by kernel_rfl
theorem l4bent_body : Try.f22.body = some (codeOf Try.f22) := by kernel_rfl
theorem l4bent_loops : loops (codeOf Try.f22) = [l4bent_b6] := by kernel_rfl
theorem l4bent_ev (N : Nat) (code : List Int) (i h : Int) {res_ : Rs} (hyp_ : l4bent_run N code i h = some res_) : ∃ n_, runF Kx l4bent_C l4bent_O n_ Try.f22 ([.ptr 0 0]) ([.var [.sh (.int .u8) code, .int .i64 i, .int .i64 h]]) = some res_ :=
  ⟨N, runL_runF l4bent_body (by rw [l4bent_loops]; exact List.forall_mem_cons.2 ⟨l4bent_ok6 N, fun _ h => nomatch h⟩) ((l4bent_runL N code i h).trans hyp_)⟩
def l4bent_sOf (φ : (List Int) → Int → Int → Br) : List AV → List Ob → Br
  | [.ptr 0 0], [.var [.sh (.int .u8) code, .int .i64 i, .int .i64 h]] => φ code i h
  | _, _ => .fail
theorem l4bent_okOf {φ : (List Int) → Int → Int → Br} (fu : (List Int) → Int → Int → Nat) (hv : ∀ code i h res_, (φ code i h).val = some res_ → l4bent_run (fu code i h) code i h = some res_) : Sound Kx 22 (l4bent_sOf φ) := by
  refine sound_run (C := l4bent_C) (O := l4bent_O) KOk l4bent_C_ok Try.func22 (by kernel_rfl) fun args objs res os h => ?_
  unfold l4bent_sOf at h
  split at h
  · exact l4bent_ev _ _ _ _ (hv _ _ _ _ h)
  · cases h

end
end Go.Proofs.Ytmigffdeghfbhaa.Ev

namespace Go.Proofs.Ytmigffdeghfbhaa.Ev
open Go Go.RowKit
set_option linter.unusedVariables false
set_option linter.unusedSimpArgs false
noncomputable section

theorem l4bent_loop (code : List Int) (x3 : Int) (x4 : Segs) (x5 : Int) (K : List Int → Int → Int → Int → Segs → Int → Segs → Option Rs) : ∀ (N : Nat) (i h : Int) (l : Segs), 42 - l.length < N → okC code i = true → good l →
    ∃ i' h' l', okC code i' = true ∧ good l' ∧ l4bent_F6 N code i h x3 x4 x5 l K = K code i' h' x3 x4 x5 l'
  | 0, i, h, l, hN, hc, hg => by omega
  | N + 1, i, h, l, hN, hc, hg => by
    have hb := belV_in 2 code i h
    have hb2 := hb.2 (by omega)
    have e1 : wk64 (40 + belV 2 code i h) = 40 + belV 2 code i h := w64 (by omega) (by omega)
    have c1 := okC_bel (n := 2) hc
    unfold l4bent_F6 l4bent_T6
    simp only [hc, e1, cond_true]
    by_cases h1 : (l.length : Int) < 40 + belV 2 code i h
    · have e2 : decide ((1 + l.length) * 24 ≤ 140737488355328) = true := by rw [decide_eq_true_eq]; omega
      simp only [h1, e2, decide_true, cond_true]
      have e3 : List.set (List.replicate 1 (([] : List UInt8), (0 : Int))) 0 ([120], 1) ++ l = ([120], 1) :: l := rfl
      rw [e3]
      refine l4bent_loop code x3 x4 x5 K N _ _ _ (by simp only [List.length_cons]; omega) c1 ⟨by simp only [List.length_cons]; omega, fun x hx => ?_⟩
      rcases List.mem_cons.1 hx with rfl | hx
      · simp
      · exact hg.2 x hx
    · simp only [h1, decide_false, cond_false]
      exact ⟨_, _, l, c1, hg, rfl⟩
theorem good_set {l : Segs} (h : good l) (k : Nat) (a : List UInt8 × Int) (ha : a.1.length ≤ 100000) : good (l.set k a) := by
  refine ⟨by rw [List.length_set]; exact h.1, fun x hx => ?_⟩
  rcases List.mem_or_eq_of_mem_set hx with hx | rfl
  · exact h.2 x hx
  · exact ha
theorem good_getD {l : Segs} (h : good l) (k : Nat) : (l.getD k ([], 0)).1.length ≤ 100000 := by
  rw [List.getD_eq_getElem?_getD]
  cases hk : l[k]? with
  | none => simp
  | some a => exact h.2 a (List.mem_of_getElem? hk)
theorem l4bent_ex (code : List Int) (i h : Int) (hc : okC code i = true) : ∃ i' h' c' l', okC code i' = true ∧ good l' ∧ l4bent_run 100 code i h = some (drawR code i' h' c' l') := by
  obtain ⟨d1, d2, _⟩ := draw_spec hc (h := h)
  unfold l4bent_run
  generalize dI code i h = i1 at *
  generalize dH code i h = h1 at *
  generalize dC code i h = c1 at *
  generalize dL code i h = l1 at *
  have hg := ok_good d2
  have hl : 1 ≤ l1.length := by
    unfold okStore at d2
    simp only [Bool.and_eq_true, decide_eq_true_eq] at d2
    exact d2.1.1.2
  have B := belV_in (l1.length : Int) code (belI 6 code i1) (belH 6 h1)
  have B2 := B.2 (by omega)
  have g1 : decide (0 ≤ belV (l1.length : Int) code (belI 6 code i1) (belH 6 h1)) = true := by rw [decide_eq_true_eq]; exact B.1
  have g2 : decide (belV (l1.length : Int) code (belI 6 code i1) (belH 6 h1) < (l1.length : Int)) = true := by rw [decide_eq_true_eq]; exact B2
  have k1 := okC_bel (n := 6) d1
  have k2 := okC_bel (n := (l1.length : Int)) k1
  have k3 := okC_bel (n := 5) k2
  simp only [hc, d1, d2, g1, g2, k1, k2, k3, cond_true, cond_false, Bool.not_true, Bool.true_and, Bool.and_true, List.length_set, List.length_replicate, (by decide : decide (0 < 4) = true), (by decide : decide (0 < 3) = true)]
  refine bif_ex (P := fun z => ∃ i' h' c' l', okC code i' = true ∧ good l' ∧ z = some (drawR code i' h' c' l')) (fun _ => ⟨_, _, _, _, k1, hg, rfl⟩) (fun _ => ?_)
  refine bif_ex (P := fun z => ∃ i' h' c' l', okC code i' = true ∧ good l' ∧ z = some (drawR code i' h' c' l')) (fun _ => ?_) (fun _ => ?_)
  · exact ⟨_, _, _, _, okC_bel k3, hg, rfl⟩
  refine bif_ex (P := fun z => ∃ i' h' c' l', okC code i' = true ∧ good l' ∧ z = some (drawR code i' h' c' l')) (fun _ => ?_) (fun _ => ?_)
  · refine ⟨_, _, _, _, okC_bel k3, ?_, rfl⟩
    exact good_set hg _ _ (good_getD hg _)
  refine bif_ex (P := fun z => ∃ i' h' c' l', okC code i' = true ∧ good l' ∧ z = some (drawR code i' h' c' l')) (fun _ => ?_) (fun _ => ?_)
  · exact ⟨_, _, _, _, k3, good_set hg _ _ (by simp), rfl⟩
  refine bif_ex (P := fun z => ∃ i' h' c' l', okC code i' = true ∧ good l' ∧ z = some (drawR code i' h' c' l')) (fun _ => ?_) (fun _ => ?_)
  · exact ⟨_, _, _, _, k3, good_nil, rfl⟩
  obtain ⟨i', h', l', q1, q2, q3⟩ := l4bent_loop code 0 [] c1 (fun x0 x1 x2 x3 x4 x5 x6 => some (AV.agg [.ref 1 0, .int .i64 60000], [.var [.sh (.int .u8) x0, .int .i64 x1, .int .i64 x2], .arr (.pair .str (.int .i64)) 0 false x6])) 100 _ (belH 5 (belH (l1.length : Int) (belH 6 h1))) l1 (by omega) k3 hg
  exact ⟨i', h', 60000, l', q1, q2, q3⟩

open Classical in
noncomputable def bI (code : List Int) (i h : Int) : Int := if hc : okC code i = true then (l4bent_ex code i h hc).choose else 0
open Classical in
noncomputable def bH (code : List Int) (i h : Int) : Int := if hc : okC code i = true then (l4bent_ex code i h hc).choose_spec.choose else 0
open Classical in
noncomputable def bC (code : List Int) (i h : Int) : Int := if hc : okC code i = true then (l4bent_ex code i h hc).choose_spec.choose_spec.choose else 0
open Classical in
noncomputable def bL (code : List Int) (i h : Int) : Segs := if hc : okC code i = true then (l4bent_ex code i h hc).choose_spec.choose_spec.choose_spec.choose else []
theorem bent_spec {code : List Int} {i h : Int} (hc : okC code i = true) : okC code (bI code i h) = true ∧ good (bL code i h) ∧ l4bent_run 100 code i h = some (drawR code (bI code i h) (bH code i h) (bC code i h) (bL code i h)) := by
  unfold bI bH bC bL
  simp only [hc, dif_pos]
  exact (l4bent_ex code i h hc).choose_spec.choose_spec.choose_spec.choose_spec
noncomputable def l4bent_br (code : List Int) (i h : Int) : Br := .ite (okC code i) (.ret (.agg [.ref 1 0, .int .i64 (bC code i h)]) [.var [.sh (.int .u8) code, .int .i64 (bI code i h), .int .i64 (bH code i h)], .arr (.pair .str (.int .i64)) 0 false (bL code i h)]) .fail
noncomputable def l4bent_s := l4bent_sOf l4bent_br
theorem l4bent_ok : Sound Kx 22 l4bent_s := by
  refine l4bent_okOf (fun _ _ _ => 100) fun code i h r hv => ?_
  unfold l4bent_br at hv
  obtain ⟨h1, h2⟩ := ite_some hv
  rw [← h2]
  exact (bent_spec h1).2.2

end
end Go.Proofs.Ytmigffdeghfbhaa.Ev

namespace Go.Proofs.Ytmigffdeghfbhaa.Ev
open Go Go.RowKit
set_option linter.unusedVariables false
set_option linter.unusedSimpArgs false
noncomputable section

/-! spec.DrawCrash -/
/-! spec.DrawRoll -/
def drRoll_O : Opt := { cons := [], keepNil := false, mutF := [], live := [], outs := [] }
def drRoll_C : Spec := (add (add noS 21 l1New_s) 22 l4bent_s)
theorem drRoll_C_ok : ∀ fn, Sound Kx fn (drRoll_C fn) := (sound_add (sound_add (sound_no Kx) l1New_ok) l4bent_ok)
def drRoll_br (code : List Int) : Br := (Br.ite (decide ((List.length code) ≤ (281474976710656 : Nat))) (Br.ite (okC code (0 : Int)) (Br.ret (AV.agg ((AV.ref (0 : Nat) (0 : Nat)) :: ((AV.int .i64 (bC code (0 : Int) (newH code))) :: ([] : (List (AV)))))) ((Ob.arr (Ty.pair Ty.str (Ty.int .i64)) (0 : Nat) false (bL code (0 : Int) (newH code))) :: ([] : (List (Ob))))) Br.fail) Br.fail)
theorem drRoll_run (code : List Int) : runF Kx drRoll_C drRoll_O 1 Try.f17 ([.sh (.int .u8) code]) ([]) = (drRoll_br code).val := by kernel_rfl
def drRoll_s : List AV → List Ob → Br
  | [.sh (.int .u8) code], [] => drRoll_br code
  | _, _ => .fail
theorem drRoll_ok : Sound Kx 17 drRoll_s := by
  refine sound_run (C := drRoll_C) (O := drRoll_O) KOk drRoll_C_ok Try.func17 (by kernel_rfl) fun args objs res os h => ?_
  unfold drRoll_s at h
  split at h
  · exact ⟨1, (drRoll_run _).trans h⟩
  · cases h

end
end Go.Proofs.Ytmigffdeghfbhaa.Ev

namespace Go.Proofs.Ytmigffdeghfbhaa.Ev
open Go Go.RowKit
set_option linter.unusedVariables false
set_option linter.unusedSimpArgs false
noncomputable section

theorem okC0 {code : List Int} (h : code.length ≤ 281474976710656) : okC code 0 = true := by
  unfold okC; simp only [Bool.and_eq_true, decide_eq_true_eq]; exact ⟨by omega, h⟩
noncomputable def rL (code : List Int) : Segs := bL code 0 (newH code)
noncomputable def rC (code : List Int) : Int := bC code 0 (newH code)
theorem rL_good {code : List Int} (h : code.length ≤ 281474976710656) : good (rL code) := (bent_spec (okC0 h)).2.1
noncomputable def kCrash (code : List Int) : Int := wk64 (belV (wk64 (((lastS (rL code)).1.length : Int) + 4)) code (bI code 0 (newH code)) (bH code 0 (newH code)) - 2)
noncomputable def kCut (code : List Int) : Int := wk64 (belV (wk64 (((lastS (rL code)).1.length : Int) + 3)) code (bI code 0 (newH code)) (bH code 0 (newH code)) - 1)

open Classical in
noncomputable def drRollQ_s : List AV → List Ob → Br
  | [.sh (.int .u8) code], [] => .ite (decide (code.length ≤ 281474976710656)) (.ret (.agg [.ref 0 0, .int .i64 (rC code)]) [.arr (.pair .str (.int .i64)) 0 false (rL code)]) .fail
  | _, _ => .fail
theorem drRoll_okQ : Sound Kx 17 drRollQ_s := drRoll_ok.of fun args objs r hv => by
  unfold drRollQ_s at hv
  split at hv
  · rename_i code
    obtain ⟨h1, h2⟩ := ite_some hv
    rw [← h2]
    show (drRoll_br code).val = _
    unfold drRoll_br
    simp only [h1, okC0 (of_decide_eq_true h1), Br.val]
    rfl
  · cases hv
end
end Go.Proofs.Ytmigffdeghfbhaa.Ev
