/- Specs that are evaluations. -/
import Derived.Test.YtmigffdeghfbhaaEvX
namespace Go.Proofs.Ytmigffdeghfbhaa.Ev
open Go Go.RowKit

/-- A function's own evaluation, as its spec. -/
noncomputable def evS (K : Ctx) (C : Spec) (O : Opt) (n : Nat) (f : Func) (args : List AV) (objs : List Ob) : Br :=
  match runF K C O n f args objs with
  | some (r, os) => .ret r os
  | none => .fail

theorem sound_evS {K : Ctx} {C : Spec} {O : Opt} (hK : K.Ok) (hC : ∀ fn, Sound K fn (C fn)) {fn : Nat} {f : Func} (hf : K.P.funcs[fn]? = some f) (hname : (f.name == "runtime.NumGoroutine") = false) (n : Nat) : Sound K fn (evS K C O n f) := by
  refine sound_run (C := C) (O := O) hK hC hf hname fun args objs res os h => ⟨n, ?_⟩
  unfold evS at h
  split at h
  · rename_i r o hr
    simp only [Br.val, Option.some.injEq, Prod.mk.injEq] at h
    rw [hr, h.1, h.2]
  · cases h

/-- A spec that says as much as another. -/
theorem Sound.of {K : Ctx} {fn : Nat} {φ ψ : List AV → List Ob → Br} (h : Sound K fn φ) (he : ∀ args objs r, (ψ args objs).val = some r → (φ args objs).val = some r) : Sound K fn ψ :=
  fun args objs res os hv => h args objs res os (he args objs _ hv)

def noS : Spec := fun _ _ _ => .fail
theorem sound_no (K : Ctx) (fn : Nat) : Sound K fn (fun _ _ => .fail) := fun args objs res os h => by cases h

/-- One more function's spec. -/
def add (C : Spec) (k : Nat) (φ : List AV → List Ob → Br) : Spec := fun fn => if fn = k then φ else C fn
theorem sound_add {K : Ctx} {C : Spec} (hC : ∀ fn, Sound K fn (C fn)) {k : Nat} {φ : List AV → List Ob → Br} (h : Sound K k φ) : ∀ fn, Sound K fn (add C k φ fn) := by
  intro fn
  unfold add
  split
  · rename_i e; subst e; exact h
  · exact hC fn

end Go.Proofs.Ytmigffdeghfbhaa.Ev
