/- Loops told by a summary. -/
import Derived.Test.YtmigffdeghfbhaaEv27
namespace Go.Proofs.Ytmigffdeghfbhaa.Ev
open Go Go.RowKit
set_option linter.unusedSimpArgs false
set_option linter.unusedVariables false

/-- What says the more: wherever the one tells a result, the other tells it too. -/
def KLe {R : Type} (k k' : Ex → St → Option R) : Prop := ∀ e st r, k e st = some r → k' e st = some r

theorem opsK_mono {K : Ctx} {C : Spec} {O : Opt} {all : List Oper} {R : Type} {k k' : St → Option R} (h : ∀ st r, k st = some r → k' st = some r) : ∀ (l : List Oper) {st : St} {r : R}, opsK K C O all l st k = some r → opsK K C O all l st k' = some r
  | [], st, r, hr => h st r hr
  | o :: l, st, r, hr => by
    simp only [opsK] at hr ⊢
    rw [run_ex _ _ [] _] at hr ⊢
    split at hr
    · exact opsK_mono h l hr
    · cases hr

theorem opsT_mono {K : Ctx} {C : Spec} {O : Opt} {all l : List Oper} {R : Type} {k k' : St → List (List Ac) → Option R} {st : St} {ts : List (List Ac)} {r : R} (h : ∀ st ts r, k st ts = some r → k' st ts = some r) (hr : opsT K C O all l st ts k = some r) : opsT K C O all l st ts k' = some r := by
  rw [opsT_spec] at hr ⊢
  split at hr
  · exact h _ _ _ hr
  · cases hr

theorem loopK_mono {m : Nat} {R : Type} {f f' : St → (Ex → St → Option R) → Option R} (hf : ∀ st k k' r, KLe k k' → f st k = some r → f' st k' = some r) {shape : List AV} : ∀ (n : Nat) {st : St} {k k' : Ex → St → Option R} {r : R}, KLe k k' → loopK m f shape n st k = some r → loopK m f' shape n st k' = some r
  | 0, st, k, k', r, hk, h => by simp [loopK] at h
  | n + 1, st, k, k', r, hk, h => by
    simp only [loopK] at h ⊢
    refine hf _ _ _ _ (fun e st' r' h' => ?_) h
    cases e with
    | normal =>
      simp only at h' ⊢
      split at h'
      · exact loopK_mono hf n hk h'
      · cases h'
    | exit i => exact hk _ _ _ h'
    | ret => exact hk _ _ _ h'

abbrev Lam := Nat → St → (Ex → St → Option (AV × List Ob)) → Option (AV × List Ob)

/-- Code, its loops told by a summary. -/
def evL (K : Ctx) (C : Spec) (O : Opt) (m : Nat) (Λ : Lam) : Code → St → (Ex → St → Option (AV × List Ob)) → Option (AV × List Ob)
  | .skip, st, k => k .normal st
  | .region _ ops false, st, k => opsK K C O ops.toList ops.toList st (k .normal)
  | .region _ ops true, st, k => opsT K C O ops.toList ops.toList st [] fun st ts => if orderOk ops.toList ts then k .normal st else none
  | .seq a b, st, k => evL K C O m Λ a st fun e st' => match e with
    | .normal => evL K C O m Λ b st' k
    | .exit i => k (.exit i) st'
    | .ret => k .ret st'
  | .cond c a b, st, k => match c with
    | .tmp s => match getS st.env s with
      | .bool v => (match v with
        | true => evL K C O m Λ a ⟨putS st.env s (.bool true), st.objs⟩ k
        | false => evL K C O m Λ b ⟨putS st.env s (.bool false), st.objs⟩ k)
      | _ => none
    | .const (.bool v) => (match v with | true => evL K C O m Λ a st k | false => evL K C O m Λ b st k)
    | _ => none
  | .block id b, st, k => evL K C O m Λ b st fun e st' => match e with
    | .normal => k .normal st'
    | .exit i => if i = id then k .normal st' else k (.exit i) st'
    | .ret => k .ret st'
  | .loop b, st, k => match norm m (cutE O b st.env) ⟨cutE O b st.env, st.objs⟩ with
    | some s => Λ (lid b) s k
    | none => none
  | .exit id, st, k => k (.exit id) st
  | .ret, st, k => k .ret st
  | _, _, _ => none

theorem outK_mono {O : Opt} {m : Nat} {b : Code} {R : Type} {k k' : Ex → St → Option R} (h : KLe k k') : KLe (outK O m b k) (outK O m b k') := by
  intro e st r hr
  unfold outK at hr ⊢
  cases hf : findL (lid b) O.outs with
  | none => rw [hf] at hr; exact h _ _ _ hr
  | some l =>
    rw [hf] at hr
    simp only at hr ⊢
    cases hs : norm m (only l 0 st.env) ⟨only l 0 st.env, st.objs⟩ with
    | none => rw [hs] at hr; cases hr
    | some s => rw [hs] at hr; exact h _ _ _ hr

/-- The loops in some code, the inner ones too. -/
def loops : Code → List Code
  | .seq a b => loops a ++ loops b
  | .cond _ a b => loops a ++ loops b
  | .block _ b => loops b
  | .loop b => b :: loops b
  | _ => []

/-- A loop's summary is true. -/
def OkL (K : Ctx) (C : Spec) (O : Opt) (m n : Nat) (Λ : Lam) (b : Code) : Prop :=
  ∀ s k k' r, KLe k k' → Λ (lid b) s k = some r → loopK m (fun st k => evK K C O m n b st k) s.env n s (outK O m b k') = some r

theorem evL_evK {K : Ctx} {C : Spec} {O : Opt} {m n : Nat} {Λ : Lam} : ∀ (c : Code), (∀ b ∈ loops c, OkL K C O m n Λ b) →
    ∀ {st : St} {k k' : Ex → St → Option (AV × List Ob)} {r : AV × List Ob}, KLe k k' → evL K C O m Λ c st k = some r → evK K C O m n c st k' = some r
  | .skip, hΛ, st, k, k', r, hk, h => hk _ _ _ h
  | .region _ ops false, hΛ, st, k, k', r, hk, h => by
    simp only [evL, evK] at h ⊢
    exact opsK_mono (fun st r h => hk _ _ _ h) _ h
  | .region _ ops true, hΛ, st, k, k', r, hk, h => by
    simp only [evL, evK] at h ⊢
    refine opsT_mono (fun st ts r h => ?_) h
    split at h
    · rename_i ho; rw [if_pos ho]; exact hk _ _ _ h
    · cases h
  | .seq a b, hΛ, st, k, k', r, hk, h => by
    simp only [evL, evK] at h ⊢
    refine evL_evK a (fun x hx => hΛ x (List.mem_append_left _ hx)) (fun e st' r' h' => ?_) h
    cases e with
    | normal => exact evL_evK b (fun x hx => hΛ x (List.mem_append_right _ hx)) hk h'
    | exit i => exact hk _ _ _ h'
    | ret => exact hk _ _ _ h'
  | .cond c a b, hΛ, st, k, k', r, hk, h => by
    simp only [evL, evK] at h ⊢
    split at h
    · rename_i s
      split at h
      · rename_i v hv
        simp only [hv]
        split at h
        · exact evL_evK a (fun x hx => hΛ x (List.mem_append_left _ hx)) hk h
        · exact evL_evK b (fun x hx => hΛ x (List.mem_append_right _ hx)) hk h
      · cases h
    · split at h
      · exact evL_evK a (fun x hx => hΛ x (List.mem_append_left _ hx)) hk h
      · exact evL_evK b (fun x hx => hΛ x (List.mem_append_right _ hx)) hk h
    · cases h
  | .block id b, hΛ, st, k, k', r, hk, h => by
    simp only [evL, evK] at h ⊢
    refine evL_evK b hΛ (fun e st' r' h' => ?_) h
    cases e with
    | normal => exact hk _ _ _ h'
    | exit i =>
      simp only at h' ⊢
      split at h'
      · rename_i hi; rw [if_pos hi]; exact hk _ _ _ h'
      · rename_i hi; rw [if_neg hi]; exact hk _ _ _ h'
    | ret => exact hk _ _ _ h'
  | .loop b, hΛ, st, k, k', r, hk, h => by
    simp only [evL, evK] at h ⊢
    split at h
    · rename_i s hs
      rw [hs]
      exact hΛ b (List.mem_cons_self ..) _ _ _ _ hk h
    · cases h
  | .exit id, hΛ, st, k, k', r, hk, h => by simp only [evL, evK] at h ⊢; exact hk _ _ _ h
  | .ret, hΛ, st, k, k', r, hk, h => by simp only [evL, evK] at h ⊢; exact hk _ _ _ h
  | .rangeFunc .., hΛ, st, k, k', r, hk, h => by simp [evL] at h
  | .scope _, hΛ, st, k, k', r, hk, h => by simp [evL] at h
  | .label _, hΛ, st, k, k', r, hk, h => by simp [evL] at h
  | .goto _, hΛ, st, k, k', r, hk, h => by simp [evL] at h
  | .refuse _, hΛ, st, k, k', r, hk, h => by simp [evL] at h

/-- A loop: a summary of its rounds, the inner loops told by their summaries. -/
theorem loopL {K : Ctx} {C : Spec} {O : Opt} {m n : Nat} {Λ : Lam} (b : Code) (hΛ : ∀ x ∈ loops b, OkL K C O m n Λ x)
    {shape : List AV} (q : Nat) {s : St} {k k' : Ex → St → Option (AV × List Ob)} {r : AV × List Ob} (hk : KLe k k') (h : loopK m (fun st k => evL K C O m Λ b st k) shape q s (outK O m b k) = some r) : loopK m (fun st k => evK K C O m n b st k) shape q s (outK O m b k') = some r :=
  loopK_mono (f := fun st k => evL K C O m Λ b st k) (f' := fun st k => evK K C O m n b st k) (fun st k k' r hk h => evL_evK b hΛ hk h) q (outK_mono hk) h

/-- A function, its loops told by a summary. -/
def runL (K : Ctx) (C : Spec) (O : Opt) (Λ : Lam) (fn : Func) (args : List AV) (objs : List Ob) : Option (AV × List Ob) :=
  match fn.body with
  | some c => evL K C O objs.length Λ c (start fn args objs) fun e st => match e with
    | .exit _ => none
    | _ => endK K O objs.length fn st
  | none => none

theorem runL_runF {K : Ctx} {C : Spec} {O : Opt} {Λ : Lam} {n : Nat} {fn : Func} {c : Code} (hb : fn.body = some c) {args : List AV} {objs : List Ob} {r : AV × List Ob}
    (hΛ : ∀ b ∈ loops c, OkL K C O objs.length n Λ b) (h : runL K C O Λ fn args objs = some r) : runF K C O n fn args objs = some r := by
  unfold runL at h
  unfold runF
  simp only [hb] at h ⊢
  refine evL_evK c hΛ (fun e st r h => ?_) h
  cases e <;> exact h

/-- One round. -/
def roundK {R : Type} (m : Nat) (body : St → (Ex → St → Option R) → Option R) (shape : List AV) (again : St → Option R) (st : St) (k : Ex → St → Option R) : Option R :=
  body st fun e st' => match e with
    | .normal => match norm m shape st' with
      | some s => again s
      | none => none
    | .exit i => k (.exit i) st'
    | .ret => k .ret st'

theorem loopK_succ {R : Type} (m : Nat) (body : St → (Ex → St → Option R) → Option R) (shape : List AV) (n : Nat) (st : St) (k : Ex → St → Option R) : loopK m body shape (n + 1) st k = roundK m body shape (fun s => loopK m body shape n s k) st k := rfl

/-- Slots by their numbers. -/
def slots (i n : Nat) (l : List (Nat × AV)) : List AV :=
  match n with
  | 0 => []
  | n + 1 => match l with
    | [] => .undef :: slots (i + 1) n []
    | (k, v) :: r => if k = i then v :: slots (i + 1) n r else .undef :: slots (i + 1) n l

/-- A frame's values at some slots, the others being forgotten. -/
def takeF : List Nat → Nat → Nat → List AV → Option (List AV)
  | [], _, 0, [] => some []
  | [], i, n + 1, .undef :: l => takeF [] (i + 1) n l
  | k :: ks, i, n + 1, v :: l => if k = i then (match takeF ks (i + 1) n l with | some vs => some (v :: vs) | none => none) else (match v with
    | .undef => takeF (k :: ks) (i + 1) n l
    | _ => none)
  | _, _, _, _ => none

theorem takeF_slots : ∀ (ks : List Nat) (i n : Nat) (env : List AV) {vs : List AV}, takeF ks i n env = some vs → env = slots i n (ks.zip vs)
  | [], i, 0, env, vs, h => by
    cases env with
    | nil => simp [slots]
    | cons v l => simp [takeF] at h
  | [], i, n + 1, env, vs, h => by
    cases env with
    | nil => simp [takeF] at h
    | cons v l => cases v with
      | undef => simp only [takeF] at h; rw [takeF_slots [] (i + 1) n l h]; simp [slots]
      | _ => simp [takeF] at h
  | k :: ks, i, 0, env, vs, h => by simp [takeF] at h
  | k :: ks, i, n + 1, env, vs, h => by
    cases env with
    | nil => simp [takeF] at h
    | cons v l =>
      simp only [takeF] at h
      split at h
      · rename_i hk
        split at h
        · rename_i us hu
          cases h
          have := takeF_slots ks (i + 1) n l hu
          simp [slots, hk, this]
        · cases h
      · rename_i hk
        split at h
        · have h1 := takeF_slots (k :: ks) (i + 1) n l h
          cases vs with
          | nil => rw [h1]; simp [slots]
          | cons u us => rw [h1]; simp [slots, hk]
        · cases h

/-- A function's code. -/
def codeOf (f : Func) : Code := match f.body with | some c => c | none => .skip

/-- The code at a place. -/
def codeAt : Code → List Nat → Code
  | c, [] => c
  | .seq a _, 0 :: p => codeAt a p
  | .seq _ b, _ :: p => codeAt b p
  | .cond _ a _, 0 :: p => codeAt a p
  | .cond _ _ b, _ :: p => codeAt b p
  | .block _ b, _ :: p => codeAt b p
  | .loop b, _ :: p => codeAt b p
  | _, _ => .skip

end Go.Proofs.Ytmigffdeghfbhaa.Ev
