/- Printed by dec.py. -/
import Derived.Test.YthdiildelpmknaaConfB
namespace Go.Proofs.Ythdiildelpmknaa.Ev
open Go Go.RowKit
set_option linter.unusedVariables false
set_option linter.unusedSimpArgs false

/-! spec.l1tchar -/
def tchar_O : Opt := { cons := [], keepNil := false, mutF := [], live := [], outs := [] }
def tchar_C : Spec := (add (add (add noS 109 l1lower_s) 110 l1digit_s) 111 l1has_s)
theorem tchar_C_ok : ∀ fn, Sound Kx fn (tchar_C fn) := (sound_add (sound_add (sound_add (sound_no Kx) l1lower_ok) l1digit_ok) l1has_ok)
def tchar_br (b : Int) : Br := (Br.ite (decide ((65 : Int) ≤ b)) (Br.ite (decide (b ≤ (90 : Int))) (Br.ite (decide ((97 : Int) ≤ ((b + (32 : Int)) % (256 : Int)))) (Br.ite (decide (((b + (32 : Int)) % (256 : Int)) ≤ (122 : Int))) (Br.ret (AV.bool true) ([] : (List (Ob)))) (Br.ite (decide ((48 : Int) ≤ b)) (Br.ite (decide (b ≤ (57 : Int))) (Br.ret (AV.bool true) ([] : (List (Ob)))) (Br.ite (decide (b = (96 : Int))) (Br.ret (AV.bool true) ([] : (List (Ob)))) (Br.ret (AV.bool (hasB ((33 : UInt8) :: ((35 : UInt8) :: ((36 : UInt8) :: ((37 : UInt8) :: ((38 : UInt8) :: ((39 : UInt8) :: ((42 : UInt8) :: ((43 : UInt8) :: ((45 : UInt8) :: ((46 : UInt8) :: ((94 : UInt8) :: ((95 : UInt8) :: ((124 : UInt8) :: ((126 : UInt8) :: ([] : (List UInt8)))))))))))))))) b)) ([] : (List (Ob)))))) (Br.ite (decide (b = (96 : Int))) (Br.ret (AV.bool true) ([] : (List (Ob)))) (Br.ret (AV.bool (hasB ((33 : UInt8) :: ((35 : UInt8) :: ((36 : UInt8) :: ((37 : UInt8) :: ((38 : UInt8) :: ((39 : UInt8) :: ((42 : UInt8) :: ((43 : UInt8) :: ((45 : UInt8) :: ((46 : UInt8) :: ((94 : UInt8) :: ((95 : UInt8) :: ((124 : UInt8) :: ((126 : UInt8) :: ([] : (List UInt8)))))))))))))))) b)) ([] : (List (Ob))))))) (Br.ite (decide ((48 : Int) ≤ b)) (Br.ite (decide (b ≤ (57 : Int))) (Br.ret (AV.bool true) ([] : (List (Ob)))) (Br.ite (decide (b = (96 : Int))) (Br.ret (AV.bool true) ([] : (List (Ob)))) (Br.ret (AV.bool (hasB ((33 : UInt8) :: ((35 : UInt8) :: ((36 : UInt8) :: ((37 : UInt8) :: ((38 : UInt8) :: ((39 : UInt8) :: ((42 : UInt8) :: ((43 : UInt8) :: ((45 : UInt8) :: ((46 : UInt8) :: ((94 : UInt8) :: ((95 : UInt8) :: ((124 : UInt8) :: ((126 : UInt8) :: ([] : (List UInt8)))))))))))))))) b)) ([] : (List (Ob)))))) (Br.ite (decide (b = (96 : Int))) (Br.ret (AV.bool true) ([] : (List (Ob)))) (Br.ret (AV.bool (hasB ((33 : UInt8) :: ((35 : UInt8) :: ((36 : UInt8) :: ((37 : UInt8) :: ((38 : UInt8) :: ((39 : UInt8) :: ((42 : UInt8) :: ((43 : UInt8) :: ((45 : UInt8) :: ((46 : UInt8) :: ((94 : UInt8) :: ((95 : UInt8) :: ((124 : UInt8) :: ((126 : UInt8) :: ([] : (List UInt8)))))))))))))))) b)) ([] : (List (Ob))))))) (Br.ite (decide ((97 : Int) ≤ b)) (Br.ite (decide (b ≤ (122 : Int))) (Br.ret (AV.bool true) ([] : (List (Ob)))) (Br.ite (decide ((48 : Int) ≤ b)) (Br.ite (decide (b ≤ (57 : Int))) (Br.ret (AV.bool true) ([] : (List (Ob)))) (Br.ite (decide (b = (96 : Int))) (Br.ret (AV.bool true) ([] : (List (Ob)))) (Br.ret (AV.bool (hasB ((33 : UInt8) :: ((35 : UInt8) :: ((36 : UInt8) :: ((37 : UInt8) :: ((38 : UInt8) :: ((39 : UInt8) :: ((42 : UInt8) :: ((43 : UInt8) :: ((45 : UInt8) :: ((46 : UInt8) :: ((94 : UInt8) :: ((95 : UInt8) :: ((124 : UInt8) :: ((126 : UInt8) :: ([] : (List UInt8)))))))))))))))) b)) ([] : (List (Ob)))))) (Br.ite (decide (b = (96 : Int))) (Br.ret (AV.bool true) ([] : (List (Ob)))) (Br.ret (AV.bool (hasB ((33 : UInt8) :: ((35 : UInt8) :: ((36 : UInt8) :: ((37 : UInt8) :: ((38 : UInt8) :: ((39 : UInt8) :: ((42 : UInt8) :: ((43 : UInt8) :: ((45 : UInt8) :: ((46 : UInt8) :: ((94 : UInt8) :: ((95 : UInt8) :: ((124 : UInt8) :: ((126 : UInt8) :: ([] : (List UInt8)))))))))))))))) b)) ([] : (List (Ob))))))) (Br.ite (decide ((48 : Int) ≤ b)) (Br.ite (decide (b ≤ (57 : Int))) (Br.ret (AV.bool true) ([] : (List (Ob)))) (Br.ite (decide (b = (96 : Int))) (Br.ret (AV.bool true) ([] : (List (Ob)))) (Br.ret (AV.bool (hasB ((33 : UInt8) :: ((35 : UInt8) :: ((36 : UInt8) :: ((37 : UInt8) :: ((38 : UInt8) :: ((39 : UInt8) :: ((42 : UInt8) :: ((43 : UInt8) :: ((45 : UInt8) :: ((46 : UInt8) :: ((94 : UInt8) :: ((95 : UInt8) :: ((124 : UInt8) :: ((126 : UInt8) :: ([] : (List UInt8)))))))))))))))) b)) ([] : (List (Ob)))))) (Br.ite (decide (b = (96 : Int))) (Br.ret (AV.bool true) ([] : (List (Ob)))) (Br.ret (AV.bool (hasB ((33 : UInt8) :: ((35 : UInt8) :: ((36 : UInt8) :: ((37 : UInt8) :: ((38 : UInt8) :: ((39 : UInt8) :: ((42 : UInt8) :: ((43 : UInt8) :: ((45 : UInt8) :: ((46 : UInt8) :: ((94 : UInt8) :: ((95 : UInt8) :: ((124 : UInt8) :: ((126 : UInt8) :: ([] : (List UInt8)))))))))))))))) b)) ([] : (List (Ob)))))))) (Br.ite (decide ((97 : Int) ≤ b)) (Br.ite (decide (b ≤ (122 : Int))) (Br.ret (AV.bool true) ([] : (List (Ob)))) (Br.ite (decide ((48 : Int) ≤ b)) (Br.ite (decide (b ≤ (57 : Int))) (Br.ret (AV.bool true) ([] : (List (Ob)))) (Br.ite (decide (b = (96 : Int))) (Br.ret (AV.bool true) ([] : (List (Ob)))) (Br.ret (AV.bool (hasB ((33 : UInt8) :: ((35 : UInt8) :: ((36 : UInt8) :: ((37 : UInt8) :: ((38 : UInt8) :: ((39 : UInt8) :: ((42 : UInt8) :: ((43 : UInt8) :: ((45 : UInt8) :: ((46 : UInt8) :: ((94 : UInt8) :: ((95 : UInt8) :: ((124 : UInt8) :: ((126 : UInt8) :: ([] : (List UInt8)))))))))))))))) b)) ([] : (List (Ob)))))) (Br.ite (decide (b = (96 : Int))) (Br.ret (AV.bool true) ([] : (List (Ob)))) (Br.ret (AV.bool (hasB ((33 : UInt8) :: ((35 : UInt8) :: ((36 : UInt8) :: ((37 : UInt8) :: ((38 : UInt8) :: ((39 : UInt8) :: ((42 : UInt8) :: ((43 : UInt8) :: ((45 : UInt8) :: ((46 : UInt8) :: ((94 : UInt8) :: ((95 : UInt8) :: ((124 : UInt8) :: ((126 : UInt8) :: ([] : (List UInt8)))))))))))))))) b)) ([] : (List (Ob))))))) (Br.ite (decide ((48 : Int) ≤ b)) (Br.ite (decide (b ≤ (57 : Int))) (Br.ret (AV.bool true) ([] : (List (Ob)))) (Br.ite (decide (b = (96 : Int))) (Br.ret (AV.bool true) ([] : (List (Ob)))) (Br.ret (AV.bool (hasB ((33 : UInt8) :: ((35 : UInt8) :: ((36 : UInt8) :: ((37 : UInt8) :: ((38 : UInt8) :: ((39 : UInt8) :: ((42 : UInt8) :: ((43 : UInt8) :: ((45 : UInt8) :: ((46 : UInt8) :: ((94 : UInt8) :: ((95 : UInt8) :: ((124 : UInt8) :: ((126 : UInt8) :: ([] : (List UInt8)))))))))))))))) b)) ([] : (List (Ob)))))) (Br.ite (decide (b = (96 : Int))) (Br.ret (AV.bool true) ([] : (List (Ob)))) (Br.ret (AV.bool (hasB ((33 : UInt8) :: ((35 : UInt8) :: ((36 : UInt8) :: ((37 : UInt8) :: ((38 : UInt8) :: ((39 : UInt8) :: ((42 : UInt8) :: ((43 : UInt8) :: ((45 : UInt8) :: ((46 : UInt8) :: ((94 : UInt8) :: ((95 : UInt8) :: ((124 : UInt8) :: ((126 : UInt8) :: ([] : (List UInt8)))))))))))))))) b)) ([] : (List (Ob))))))))
theorem tchar_run (b : Int) : runF Kx tchar_C tchar_O 1 Try.f103 ([.int .u8 b]) ([]) = (tchar_br b).val := by kernel_rfl
def tchar_s : List AV → List Ob → Br
  | [.int .u8 b], [] => tchar_br b
  | _, _ => .fail
theorem tchar_ok : Sound Kx 103 tchar_s := by
  refine sound_run (C := tchar_C) (O := tchar_O) KOk tchar_C_ok Try.func103 (by kernel_rfl) fun args objs res os h => ?_
  unfold tchar_s at h
  split at h
  · exact ⟨1, (tchar_run _).trans h⟩
  · cases h

/-! impl.all -/
def all_O : Opt := { cons := [], keepNil := false, mutF := [], live := [(2, [0, 1, 5])], outs := [(2, [4])] }
def all_C : Spec := (add noS 105 tokQ_s)
theorem all_C_ok : ∀ fn, Sound Kx fn (all_C fn) := (sound_add (sound_no Kx) isTok_okQ)
def all_T2 (v2x0 : (List UInt8)) (v2x1 : Int) (kR2 : (List UInt8) → Int → Option Rs) (k2e0 : Option Rs) (k2e1 : Option Rs) : Option Rs :=
  (bif (decide (v2x1 < ((List.length v2x0) : Int))) then (bif (decide ((0 : Int) ≤ v2x1)) then (bif (decide (v2x1 < ((List.length v2x0) : Int))) then (bif ((decide ((0 : Int) ≤ (strAt v2x0 v2x1))) && (decide ((strAt v2x0 v2x1) < (256 : Int)))) then (bif (!(tokB (strAt v2x0 v2x1))) then k2e0 else (kR2 v2x0 (wrap64 (v2x1 + (1 : Int))))) else (none)) else (none)) else (none)) else k2e1)
def all_F2 : Nat → (List UInt8) → Int → (Option Rs) → (Option Rs) → Option Rs
  | 0, _, _, _, _ => none
  | n + 1, v2x0, v2x1, k2e0, k2e1 => all_T2 v2x0 v2x1 (fun v2x0 v2x1 => all_F2 n v2x0 v2x1 k2e0 k2e1) k2e0 k2e1
def all_h2 (v2x0 : (List UInt8)) (v2x1 : Int) : St := (St.mk (slots 0 18 [(0, (AV.str v2x0)), (1, (AV.fn (105 : Nat) ([] : (List (AV))))), (5, (AV.int .i64 v2x1))]) ([] : (List (Nat × (Ob)))))
def all_x2e0  : St := (St.mk (slots 0 18 [(4, (AV.bool false))]) ([] : (List (Nat × (Ob)))))
def all_x2e1  : St := (St.mk (slots 0 18 []) ([] : (List (Nat × (Ob)))))
noncomputable def all_b2 : Code := codeAt (codeOf Try.f104) [1, 0, 1, 0, 0]
def all_L2 (N : Nat) (st : St) (k : Ex → St → Option Rs) : Option Rs := match takeF [0, 1, 5] 0 18 st.env, st.objs with
  | some [.str v2x0, .fn 105 [], .int .i64 v2x1], [] => all_F2 N v2x0 v2x1 (k Ex.ret (all_x2e0)) (k (Ex.exit (0 : Nat)) (all_x2e1))
  | _, _ => none
def all_L (N : Nat) : Lam := fun j st k => match j with
  | 2 => all_L2 N st k
  | _ => none
theorem all_round2 (N : Nat) (again : St → Option Rs) (k : Ex → St → Option Rs) (wv2x0 : (List UInt8)) (wv2x1 : Int) (v2x0 : (List UInt8)) (v2x1 : Int) :
    roundK 0 (fun st k => evL Kx all_C all_O 0 (all_L N) all_b2 st k) (all_h2 wv2x0 wv2x1).env again (all_h2 v2x0 v2x1) (outK all_O 0 all_b2 k) = all_T2 v2x0 v2x1 (fun v2x0 v2x1 => again (all_h2 v2x0 v2x1)) (k Ex.ret (all_x2e0)) (k (Ex.exit (0 : Nat)) (all_x2e1)) := by kernel_rfl
theorem all_loop2 (N : Nat) (k : Ex → St → Option Rs) (wv2x0 : (List UInt8)) (wv2x1 : Int) : ∀ (n : Nat) (v2x0 : (List UInt8)) (v2x1 : Int),
    loopK 0 (fun st k => evL Kx all_C all_O 0 (all_L N) all_b2 st k) (all_h2 wv2x0 wv2x1).env n (all_h2 v2x0 v2x1) (outK all_O 0 all_b2 k) = all_F2 n v2x0 v2x1 (k Ex.ret (all_x2e0)) (k (Ex.exit (0 : Nat)) (all_x2e1))
  | 0, _, _ => rfl
  | n + 1, v2x0, v2x1 => by
    rw [loopK_succ, all_round2]
    simp only [all_loop2 N k wv2x0 wv2x1 n]
    rfl
theorem all_at2 (N : Nat) {s : St} {k : Ex → St → Option Rs} {r : Rs} (h : all_L2 N s k = some r) : ∃ (v2x0 : (List UInt8)) (v2x1 : Int), s = (all_h2 v2x0 v2x1) ∧ all_F2 N v2x0 v2x1 (k Ex.ret (all_x2e0)) (k (Ex.exit (0 : Nat)) (all_x2e1)) = some r := by
  cases s with | mk env objs =>
  unfold all_L2 at h
  split at h
  · rename_i e1 e2
    have e3 := takeF_slots _ _ _ _ e1
    simp only at e2 e3
    subst e2 e3
    exact ⟨_, _, rfl, h⟩
  · cases h
theorem all_in2 : loops all_b2 = [] := by kernel_rfl
theorem all_lid2 : lid all_b2 = 2 := by kernel_rfl
theorem all_ok2 (N : Nat) : OkL Kx all_C all_O 0 N (all_L N) all_b2 := by
  intro s k k' r hk h
  rw [all_lid2] at h
  obtain ⟨v2x0, v2x1, rfl, h⟩ := all_at2 N h
  refine loopL (Λ := all_L N) all_b2 ?_ N hk ((all_loop2 N k v2x0 v2x1 N v2x0 v2x1).trans h)
  rw [all_in2]
  exact fun _ h => nomatch h
def all_run (N : Nat) (s : List UInt8) : Option Rs := (all_F2 N s (0 : Int) (some ((AV.bool false), ([] : (List (Ob))))) (some ((AV.bool true), ([] : (List (Ob))))))
theorem all_runL (N : Nat) (s : List UInt8) : runL Kx all_C all_O (all_L N) Try.f104 ([.str s, .fn 105 []]) ([]) = all_run N s := by kernel_rfl
theorem all_body : Try.f104.body = some (codeOf Try.f104) := by kernel_rfl
theorem all_loops : loops (codeOf Try.f104) = [all_b2] := by kernel_rfl
theorem all_ev (N : Nat) (s : List UInt8) {r : Rs} (h : all_run N s = some r) : ∃ n, runF Kx all_C all_O n Try.f104 ([.str s, .fn 105 []]) ([]) = some r :=
  ⟨N, runL_runF all_body (by rw [all_loops]; exact List.forall_mem_cons.2 ⟨all_ok2 N, fun _ h => nomatch h⟩) ((all_runL N s).trans h)⟩
def all_sOf (φ : (List UInt8) → Br) : List AV → List Ob → Br
  | [.str s, .fn 105 []], [] => φ s
  | _, _ => .fail
theorem all_okOf {φ : (List UInt8) → Br} (fu : (List UInt8) → Nat) (hv : ∀ s r, (φ s).val = some r → all_run (fu s) s = some r) : Sound Kx 104 (all_sOf φ) := by
  refine sound_run (C := all_C) (O := all_O) KOk all_C_ok Try.func104 (by kernel_rfl) fun args objs res os h => ?_
  unfold all_sOf at h
  split at h
  · exact all_ev _ _ (hv _ _ h)
  · cases h

end Go.Proofs.Ythdiildelpmknaa.Ev
