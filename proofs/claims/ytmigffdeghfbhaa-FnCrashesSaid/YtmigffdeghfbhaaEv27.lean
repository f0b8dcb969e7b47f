/- A law's function: from its evaluation to its calls. -/
import Derived.Test.YtmigffdeghfbhaaEv26
import Derived.OpenShut
import Derived.ShutString
import Derived.ChangeOld
import Derived.Below
namespace Go.Proofs.Ytmigffdeghfbhaa.Ev
open Go Go.RowKit
set_option linter.unusedSimpArgs false
set_option linter.unusedVariables false

/-- No object at hand. -/
def lk0 : Lk := ⟨fun _ => none, fun _ _ => False⟩

theorem mut0 : ∀ b o, ¬ Mut lk0 b o := by
  rintro b o (h | ⟨i, p, h, _⟩)
  · exact h
  · cases h

/-- An argument. -/
def avA (t : Ty) (ag : Bool) (x : Den t) : AV :=
  match ag with
  | true => .agg (leaves t x)
  | false => match leaves t x with | [a] => a | _ => .undef

def isStruct (P : Program) (t : TypeId) : Bool := match P.underlying t with | some (.struct _) => true | _ => false

def viewA (P : Program) (t : TypeId) : Option (Ty × Bool) := (view P 9 t).map fun y => (y, isStruct P t)

def Args : List (Ty × Bool) → List AV → Prop
  | [], as => as = []
  | (y, ag) :: r, as => ∃ x a', Good y x ∧ as = avA y ag x :: a' ∧ Args r a'

section
variable {H : Type} {enc : TypeId × Value → H} {P : Program} {w : World} {base : Nat} {spare : Nat → Bool} {held : Bool}

theorem open_arg {r : Reach} {b0 : Nat} {t : TypeId} {y : Ty} {ag : Bool} (hv : viewA P t = some (y, ag)) {v : Value} {d : DataW H} {ps : List MemPlace} (hval : Value.okWide P w r b0 t v) (hd : DataW.Trod enc P w base spare held t v d ps)
    (hz : ∀ m ∈ d.weights P t, m ≤ reachBytes) : ∃ x : Den y, Good y x ∧ rel lk0 w (Mut lk0) (avA y ag x) v := by
  obtain ⟨n, hd⟩ := hd
  unfold viewA at hv
  cases hy : view P 9 t with
  | none => rw [hy] at hv; cases hv
  | some y' =>
    rw [hy] at hv
    simp only [Option.map_some, Option.some.injEq, Prod.mk.injEq] at hv
    obtain ⟨rfl, rfl⟩ := hv
    obtain ⟨x, hx, hg⟩ := open_view 9 hy hd hz
    have hx' : rd w (Mut lk0) y' x v.cells.toList := rd_tr (fun b o v _ h => ⟨mut0 b o, h⟩) y' hx
    refine ⟨x, hg, ?_⟩
    have hl := leaves_rd (L := lk0) y' hx'
    by_cases hs : isStruct P t = true
    · rw [hs]
      unfold isStruct at hs
      split at hs
      case h_2 => cases hs
      rename_i fs hu
      unfold Value.okWide at hval
      rw [hu] at hval
      obtain ⟨cs, rfl, _, _⟩ := hval
      simp only [avA, rel]
      exact ⟨cs, rfl, by simpa [Value.cells] using hl, fun c hc => rd_one y' hx' c (by simpa [Value.cells] using hc)⟩
    · simp only [Bool.not_eq_true] at hs
      rw [hs]
      have hone : v.cells.toList = [v] := by
        simp only [view] at hy
        split at hy
        · rename_i q hu; obtain ⟨n, rfl⟩ := WideShapes.okWide_int hu hval; rfl
        · rename_i hu; obtain ⟨n, rfl⟩ := WideShapes.okWide_bool hu hval; rfl
        · rename_i hu; obtain ⟨n, rfl⟩ := WideShapes.okWide_string hu hval; rfl
        · rename_i e hu; obtain ⟨_, _, _, rfl⟩ := WideShapes.okWide_slice hu hval; rfl
        · rename_i fs hu; simp [isStruct, hu] at hs
        · cases hy
      rw [hone] at hl
      have hlen := rels_len hl
      simp only [avA]
      match hle : leaves y' x, hlen with
      | [c], _ =>
        rw [hle] at hl
        obtain ⟨c', hc', hr⟩ := rels_one hl
        simp only [List.cons.injEq, and_true] at hc'
        subst hc'
        exact hr

theorem open_args {r : Reach} {b0 : Nat} : ∀ (ts : List TypeId) {tys : List (Ty × Bool)}, ts.map (viewA P) = tys.map some → ∀ {vs : List Value} {ds : List (DataW H)} {ps : List MemPlace}, DataW.TrodAll enc P w base spare held ts vs ds ps →
    (∀ (j : Nat) t v, ts[j]? = some t → vs[j]? = some v → Value.okWide P w r b0 t v) → (∀ m ∈ DataW.weightsEach P ts ds, m ≤ reachBytes) → ∃ as, Args tys as ∧ rels lk0 w (Mut lk0) as vs
  | [], tys, hv, vs, ds, ps, h, hval, hz => by
    obtain ⟨rfl, rfl, rfl⟩ := ChangeShapes.trodAll_nil h
    have : tys = [] := by cases tys <;> simp_all
    subst this
    exact ⟨[], rfl, by simp [rels]⟩
  | t :: ts, tys, hv, vs, ds, ps, h, hval, hz => by
    obtain ⟨v, vs', d, ds', p, q, rfl, rfl, rfl, h1, h2⟩ := ChangeShapes.trodAll_cons h
    cases tys with
    | nil => simp at hv
    | cons y tys =>
      obtain ⟨y, ag⟩ := y
      simp only [List.map_cons, List.cons.injEq] at hv
      simp only [DataW.weightsEach, List.mem_append] at hz
      obtain ⟨x, g, hr⟩ := open_arg hv.1 (hval 0 t v rfl rfl) h1 fun m hm => hz m (.inl hm)
      obtain ⟨as, ha, hrs⟩ := open_args ts hv.2 h2 (fun j t' v' ht hv' => hval (j + 1) t' v' (by simpa using ht) (by simpa using hv')) fun m hm => hz m (.inr hm)
      exact ⟨_, ⟨x, as, g, rfl, ha⟩, by simp only [rels]; exact ⟨v, vs', rfl, hr, hrs⟩⟩
end

theorem relO0 {K : Ctx} {W : World} (hg : K.G W) (hg0 : K.g0 ≤ W.heap.size) : RelO K W ⟨MutO lk0, lk0.F⟩ lk0 W :=
  { fr := Fr.refl W _, ok := fun i p h => (by cases h), sep := fun i j p q b o h => (by cases h), own := fun b o h _ => h, ff := rfl, fs := fun b o h => False.elim h, fo := fun b o _ h => h, g := hg, gs := hg0, gb := fun b o h => absurd (.inr h) (mut0 b o) }

/-- What a law's function comes to. -/
theorem law_calls {K : Ctx} {fn : Nat} {f : Func} {c : Code} (hf : K.P.funcs[fn]? = some f) (hb : f.body = some c) (hname : (f.name == "runtime.NumGoroutine") = false) {φ : List AV → List Ob → Br} (hS : Sound K fn φ) {as : List AV} {vs : List Value} {W : World}
    (hg : K.G W) (hg0 : K.g0 ≤ W.heap.size) (hr : rels lk0 W (Mut lk0) as vs) (hφ : (φ as []).val = some (.bool true, [])) : Calls K.P fn vs.toArray W fun e w' => e = .returned (.bool true) ∧ Below W.heap.size W w' := by
  have := hS as [] _ _ hφ W lk0 vs (relO0 hg hg0) (fun i => by simp [lk0]) hr
  rcases this with ⟨h, _⟩ | ⟨v, w', h, _⟩
  · refine Calls.mono h fun e w' he => ?_
    cases e with
    | returned v =>
      obtain ⟨L', h1, h2, h3, h4⟩ := he
      simp only [rel] at h4
      subst h4
      exact ⟨rfl, (h1.fr.mono (N' := fun _ _ => False) fun b o _ hm => mut0 b o (.inr hm)).below⟩
    | panicked ch => exact he.elim
    | outgrown => exact he.elim
  · exfalso
    have hname' : ¬ f.name = "runtime.NumGoroutine" := by simpa using hname
    have e1 : (callFunc fn vs.toArray).run K.P W = .ok (.enter fn vs.toArray) W := by
      simp [callFunc, hf, hname', hb, Sem.run_bind]
    rw [e1] at h; cases h

end Go.Proofs.Ytmigffdeghfbhaa.Ev
