/- Printed by dec.py. -/
import Derived.Test.YthdiildelpmknaaConfD
namespace Go.Proofs.Ythdiildelpmknaa.Ev
open Go Go.RowKit
set_option linter.unusedVariables false
set_option linter.unusedSimpArgs false

/-! spec.Token -/
def sToken_O : Opt := { cons := [], keepNil := false, mutF := [], live := [(4, [0, 3])], outs := [(4, [2])] }
def sToken_C : Spec := (add noS 103 tokQ_s)
theorem sToken_C_ok : ∀ fn, Sound Kx fn (sToken_C fn) := (sound_add (sound_no Kx) tchar_okQ)
def sToken_T4 (v4x0 : (List UInt8)) (v4x1 : Int) (kR4 : (List UInt8) → Int → Option Rs) (k4e0 : Option Rs) (k4e1 : Option Rs) : Option Rs :=
  (bif (decide (v4x1 < ((List.length v4x0) : Int))) then (bif (decide ((0 : Int) ≤ v4x1)) then (bif (decide (v4x1 < ((List.length v4x0) : Int))) then (bif ((decide ((0 : Int) ≤ (strAt v4x0 v4x1))) && (decide ((strAt v4x0 v4x1) < (256 : Int)))) then (bif (!(tokB (strAt v4x0 v4x1))) then k4e0 else (kR4 v4x0 (wrap64 (v4x1 + (1 : Int))))) else (none)) else (none)) else (none)) else k4e1)
def sToken_F4 : Nat → (List UInt8) → Int → (Option Rs) → (Option Rs) → Option Rs
  | 0, _, _, _, _ => none
  | n + 1, v4x0, v4x1, k4e0, k4e1 => sToken_T4 v4x0 v4x1 (fun v4x0 v4x1 => sToken_F4 n v4x0 v4x1 k4e0 k4e1) k4e0 k4e1
def sToken_h4 (v4x0 : (List UInt8)) (v4x1 : Int) : St := (St.mk (slots 0 23 [(0, (AV.str v4x0)), (3, (AV.int .i64 v4x1))]) ([] : (List (Nat × (Ob)))))
def sToken_x4e0  : St := (St.mk (slots 0 23 [(2, (AV.bool false))]) ([] : (List (Nat × (Ob)))))
def sToken_x4e1  : St := (St.mk (slots 0 23 []) ([] : (List (Nat × (Ob)))))
noncomputable def sToken_b4 : Code := codeAt (codeOf Try.f88) [1, 1, 0, 1, 0, 0]
def sToken_L4 (N : Nat) (st : St) (k : Ex → St → Option Rs) : Option Rs := match takeF [0, 3] 0 23 st.env, st.objs with
  | some [.str v4x0, .int .i64 v4x1], [] => sToken_F4 N v4x0 v4x1 (k Ex.ret (sToken_x4e0)) (k (Ex.exit (0 : Nat)) (sToken_x4e1))
  | _, _ => none
def sToken_L (N : Nat) : Lam := fun j st k => match j with
  | 4 => sToken_L4 N st k
  | _ => none
theorem sToken_round4 (N : Nat) (again : St → Option Rs) (k : Ex → St → Option Rs) (wv4x0 : (List UInt8)) (wv4x1 : Int) (v4x0 : (List UInt8)) (v4x1 : Int) :
    roundK 0 (fun st k => evL Kx sToken_C sToken_O 0 (sToken_L N) sToken_b4 st k) (sToken_h4 wv4x0 wv4x1).env again (sToken_h4 v4x0 v4x1) (outK sToken_O 0 sToken_b4 k) = sToken_T4 v4x0 v4x1 (fun v4x0 v4x1 => again (sToken_h4 v4x0 v4x1)) (k Ex.ret (sToken_x4e0)) (k (Ex.exit (0 : Nat)) (sToken_x4e1)) := by kernel_rfl
theorem sToken_loop4 (N : Nat) (k : Ex → St → Option Rs) (wv4x0 : (List UInt8)) (wv4x1 : Int) : ∀ (n : Nat) (v4x0 : (List UInt8)) (v4x1 : Int),
    loopK 0 (fun st k => evL Kx sToken_C sToken_O 0 (sToken_L N) sToken_b4 st k) (sToken_h4 wv4x0 wv4x1).env n (sToken_h4 v4x0 v4x1) (outK sToken_O 0 sToken_b4 k) = sToken_F4 n v4x0 v4x1 (k Ex.ret (sToken_x4e0)) (k (Ex.exit (0 : Nat)) (sToken_x4e1))
  | 0, _, _ => rfl
  | n + 1, v4x0, v4x1 => by
    rw [loopK_succ, sToken_round4]
    simp only [sToken_loop4 N k wv4x0 wv4x1 n]
    rfl
theorem sToken_at4 (N : Nat) {s : St} {k : Ex → St → Option Rs} {r : Rs} (h : sToken_L4 N s k = some r) : ∃ (v4x0 : (List UInt8)) (v4x1 : Int), s = (sToken_h4 v4x0 v4x1) ∧ sToken_F4 N v4x0 v4x1 (k Ex.ret (sToken_x4e0)) (k (Ex.exit (0 : Nat)) (sToken_x4e1)) = some r := by
  cases s with | mk env objs =>
  unfold sToken_L4 at h
  split at h
  · rename_i e1 e2
    have e3 := takeF_slots _ _ _ _ e1
    simp only at e2 e3
    subst e2 e3
    exact ⟨_, _, rfl, h⟩
  · cases h
theorem sToken_in4 : loops sToken_b4 = [] := by kernel_rfl
theorem sToken_lid4 : lid sToken_b4 = 4 := by kernel_rfl
theorem sToken_ok4 (N : Nat) : OkL Kx sToken_C sToken_O 0 N (sToken_L N) sToken_b4 := by
  intro s k k' r hk h
  rw [sToken_lid4] at h
  obtain ⟨v4x0, v4x1, rfl, h⟩ := sToken_at4 N h
  refine loopL (Λ := sToken_L N) sToken_b4 ?_ N hk ((sToken_loop4 N k v4x0 v4x1 N v4x0 v4x1).trans h)
  rw [sToken_in4]
  exact fun _ h => nomatch h
def sToken_run (N : Nat) (s : List UInt8) : Option Rs := (bif (decide (((List.length s) : Int) = (0 : Int))) then (some ((AV.bool false), ([] : (List (Ob))))) else (bif (decide ((4000 : Int) < ((List.length s) : Int))) then (some ((AV.bool false), ([] : (List (Ob))))) else (sToken_F4 N s (0 : Int) (some ((AV.bool false), ([] : (List (Ob))))) (some ((AV.bool true), ([] : (List (Ob))))))))
theorem sToken_runL (N : Nat) (s : List UInt8) : runL Kx sToken_C sToken_O (sToken_L N) Try.f88 ([.str s]) ([]) = sToken_run N s := by kernel_rfl
theorem sToken_body : Try.f88.body = some (codeOf Try.f88) := by kernel_rfl
theorem sToken_loops : loops (codeOf Try.f88) = [sToken_b4] := by kernel_rfl
theorem sToken_ev (N : Nat) (s : List UInt8) {r : Rs} (h : sToken_run N s = some r) : ∃ n, runF Kx sToken_C sToken_O n Try.f88 ([.str s]) ([]) = some r :=
  ⟨N, runL_runF sToken_body (by rw [sToken_loops]; exact List.forall_mem_cons.2 ⟨sToken_ok4 N, fun _ h => nomatch h⟩) ((sToken_runL N s).trans h)⟩
def sToken_sOf (φ : (List UInt8) → Br) : List AV → List Ob → Br
  | [.str s], [] => φ s
  | _, _ => .fail
theorem sToken_okOf {φ : (List UInt8) → Br} (fu : (List UInt8) → Nat) (hv : ∀ s r, (φ s).val = some r → sToken_run (fu s) s = some r) : Sound Kx 88 (sToken_sOf φ) := by
  refine sound_run (C := sToken_C) (O := sToken_O) KOk sToken_C_ok Try.func88 (by kernel_rfl) fun args objs res os h => ?_
  unfold sToken_sOf at h
  split at h
  · exact sToken_ev _ _ (hv _ _ h)
  · cases h

/-! impl.Token -/
def iToken_O : Opt := { cons := [], keepNil := false, mutF := [], live := [], outs := [] }
def iToken_C : Spec := (add (add noS 60 iwithin_s) 104 all_s)
theorem iToken_C_ok : ∀ fn, Sound Kx fn (iToken_C fn) := (sound_add (sound_add (sound_no Kx) iwithin_ok) all_ok)
def iToken_br (s : List UInt8) : Br := (Br.ite (decide ((1 : Int) ≤ ((List.length s) : Int))) (Br.ite (decide (((List.length s) : Int) ≤ (4000 : Int))) (Br.ite (decide ((List.length s) ≤ (281474976710656 : Nat))) (Br.ret (AV.bool (allTok s)) ([] : (List (Ob)))) Br.fail) (Br.ret (AV.bool false) ([] : (List (Ob))))) (Br.ret (AV.bool false) ([] : (List (Ob)))))
theorem iToken_run (s : List UInt8) : runF Kx iToken_C iToken_O 1 Try.f89 ([.str s]) ([]) = (iToken_br s).val := by kernel_rfl
def iToken_s : List AV → List Ob → Br
  | [.str s], [] => iToken_br s
  | _, _ => .fail
theorem iToken_ok : Sound Kx 89 iToken_s := by
  refine sound_run (C := iToken_C) (O := iToken_O) KOk iToken_C_ok Try.func89 (by kernel_rfl) fun args objs res os h => ?_
  unfold iToken_s at h
  split at h
  · exact ⟨1, (iToken_run _).trans h⟩
  · cases h

end Go.Proofs.Ythdiildelpmknaa.Ev
