/- From a call's law in the kit's words to a spec: calls that leave all old memory alone. -/
import Derived.Test.YtmigffdeghfbhaaEvC
import Derived.Below
namespace Go.Proofs.Ytmigffdeghfbhaa.Ev
open Go Go.RowKit
set_option linter.unusedVariables false
set_option linter.unusedSimpArgs false

theorem fr_below {w w' : World} {N : Nat → Nat → Prop} (h : Below w.heap.size w w') : Fr w N w' where
  os := h.os
  tape := h.tape
  output := h.output
  size := h.size
  blk := fun b hb _ => h.block b hb
  cel := fun b o hb _ => h.cell (p := ⟨b, o, none⟩) hb
  frz := fun b o hb => h.frozen (p := ⟨b, o, none⟩) hb
  shp := fun b hb => by simp only [World.shape?, h.block b hb]

theorem tr_below {w w' : World} {M : Nat → Nat → Prop} (h : Below w.heap.size w w') : Tr w M w' M := by
  intro b o v hm hv
  exact ⟨hm, (h.cell (p := ⟨b, o, none⟩) (World.block_lt_of_cell? w ⟨b, o, none⟩ hv)).trans hv⟩

theorem relO_below {K : Ctx} {L : Lk} {w w' : World} (h : RelO K w ⟨MutO L, L.F⟩ L w) (hb : Below w.heap.size w w') (hg : K.G w → K.G w') : RelO K w ⟨MutO L, L.F⟩ L w' where
  fr := fr_below hb
  ok := fun i p hp => okO_tr (Turn.refl L) (tr_below hb) (fun b o hr => by
    have hlt := inR_lt (h.ok i p hp) hr
    exact ⟨hb.cell (p := ⟨b, o, none⟩) hlt, hb.frozen (p := ⟨b, o, none⟩) hlt⟩) (h.ok i p hp)
  sep := h.sep
  own := h.own
  ff := h.ff
  fs := h.fs
  fo := h.fo
  g := hg h.g
  gs := Nat.le_trans h.gs hb.size
  gb := h.gb

/-- A function whose calls hand back a plain value and leave all old memory alone. -/
theorem sound_calls {fn : Nat} {f : Func} {c : Code} (hf : Kx.P.funcs[fn]? = some f) (hname : (f.name == "runtime.NumGoroutine") = false) (hb : f.body = some c) {φ : List AV → List Ob → Br}
    (h : ∀ args objs res objs', (φ args objs).val = some (res, objs') → ∀ (w : World) (L : Lk) (vs : List Value), RelO Kx w ⟨MutO L, L.F⟩ L w → rels L w (Mut L) args vs →
      objs' = objs ∧ Calls Kx.P fn vs.toArray w fun e w' => ∃ v, e = .returned v ∧ Below w.heap.size w w' ∧ rel L w' (Mut L) res v) : Sound Kx fn φ := by
  intro args objs res objs' hv w L vs hR ho hr
  obtain ⟨rfl, hc⟩ := h _ _ _ _ hv w L vs hR hr
  refine .inl ⟨Calls.mono hc ?_, f, c, hf, hname, hb⟩
  rintro e w' ⟨v, rfl, hb', hv'⟩
  exact ⟨L, relO_below hR hb' (fun h => h), ho, Kept.refl _ _, hv'⟩

end Go.Proofs.Ytmigffdeghfbhaa.Ev
