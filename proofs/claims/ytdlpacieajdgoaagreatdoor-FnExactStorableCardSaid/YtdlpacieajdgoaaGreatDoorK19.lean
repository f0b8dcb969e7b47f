/- The texts Pa, Pb, Pq, Pc, one behind the other. -/
import Derived.Test.YtdlpacieajdgoaaGreatDoorK17
import Derived.Test.YtdlpacieajdgoaaGreatDoorK18
import Derived.Test.YtdlpacieajdgoaaGreatDoorK15
namespace Go.Proofs.YtdlpacieajdgoaaGreatDoor.Ev
open Go Go.RowKit
set_option linter.unusedVariables false
set_option linter.unusedSimpArgs false
noncomputable section

/-! impl.all -/
def allDig_O : Opt := { cons := [], keepNil := false, mutF := [], live := [(2, [0, 1, 5])], outs := [(2, [4])] }
def allDig_C : Spec := (add noS 103 (pr_s isDig))
theorem allDig_C_ok : ∀ fn, Sound Kx fn (allDig_C fn) := (sound_add (sound_no Kx) isDigit_okQ)
def allDig_T2 (v2x0 : (List UInt8)) (v2x1 : Int) (kR2 : (List UInt8) → Int → Option Rs) (k2e0 : Option Rs) (k2e1 : Option Rs) : Option Rs :=
  (bif (decide (v2x1 < ((List.length v2x0) : Int))) then (bif (decide ((0 : Int) ≤ v2x1)) then (bif (decide (v2x1 < ((List.length v2x0) : Int))) then (bif (!(isDig (strAt v2x0 v2x1))) then k2e0 else (kR2 v2x0 (wk64 (v2x1 + (1 : Int))))) else (none)) else (none)) else k2e1)
def allDig_F2 : Nat → (List UInt8) → Int → (Option Rs) → (Option Rs) → Option Rs
  | 0, _, _, _, _ => none
  | n + 1, v2x0, v2x1, k2e0, k2e1 => allDig_T2 v2x0 v2x1 (fun v2x0 v2x1 => allDig_F2 n v2x0 v2x1 k2e0 k2e1) k2e0 k2e1
def allDig_h2 (v2x0 : (List UInt8)) (v2x1 : Int) : St := (St.mk (slots 0 18 [(0, (AV.str v2x0)), (1, (AV.fn (103 : Nat) ([] : (List (AV))))), (5, (AV.int .i64 v2x1))]) ([] : (List (Nat × (Ob)))))
def allDig_x2e0  : St := (St.mk (slots 0 18 [(4, (AV.bool false))]) ([] : (List (Nat × (Ob)))))
def allDig_x2e1  : St := (St.mk (slots 0 18 []) ([] : (List (Nat × (Ob)))))
noncomputable def allDig_b2 : Code := codeAt (codeOf Tryz.f74) [1, 0, 1, 0, 0]
def allDig_L2 (N : Nat) (st : St) (k : Ex → St → Option Rs) : Option Rs := match takeF [0, 1, 5] 0 18 st.env, st.objs with
  | some [.str v2x0, .fn 103 [], .int .i64 v2x1], [] => allDig_F2 N v2x0 v2x1 (k Ex.ret (allDig_x2e0)) (k (Ex.exit (0 : Nat)) (allDig_x2e1))
  | _, _ => none
def allDig_L (N : Nat) : Lam := fun j st k => match j with
  | 2 => allDig_L2 N st k
  | _ => none
theorem allDig_round2 (N : Nat) (again : St → Option Rs) (k : Ex → St → Option Rs) (wv2x0 : (List UInt8)) (wv2x1 : Int) (v2x0 : (List UInt8)) (v2x1 : Int) :
    roundK 0 (fun st k => evL Kx allDig_C allDig_O 0 (allDig_L N) allDig_b2 st k) (allDig_h2 wv2x0 wv2x1).env again (allDig_h2 v2x0 v2x1) (outK allDig_O 0 allDig_b2 k) = allDig_T2 v2x0 v2x1 (fun v2x0 v2x1 => again (allDig_h2 v2x0 v2x1)) (k Ex.ret (allDig_x2e0)) (k (Ex.exit (0 : Nat)) (allDig_x2e1)) := by kernel_rfl
theorem allDig_loop2 (N : Nat) (k : Ex → St → Option Rs) (wv2x0 : (List UInt8)) (wv2x1 : Int) : ∀ (n : Nat) (v2x0 : (List UInt8)) (v2x1 : Int),
    loopK 0 (fun st k => evL Kx allDig_C allDig_O 0 (allDig_L N) allDig_b2 st k) (allDig_h2 wv2x0 wv2x1).env n (allDig_h2 v2x0 v2x1) (outK allDig_O 0 allDig_b2 k) = allDig_F2 n v2x0 v2x1 (k Ex.ret (allDig_x2e0)) (k (Ex.exit (0 : Nat)) (allDig_x2e1))
  | 0, _, _ => rfl
  | n + 1, v2x0, v2x1 => by
    rw [loopK_succ, allDig_round2]
    simp only [allDig_loop2 N k wv2x0 wv2x1 n]
    rfl
theorem allDig_at2 (N : Nat) {s : St} {k : Ex → St → Option Rs} {r : Rs} (h : allDig_L2 N s k = some r) : ∃ (v2x0 : (List UInt8)) (v2x1 : Int), s = (allDig_h2 v2x0 v2x1) ∧ allDig_F2 N v2x0 v2x1 (k Ex.ret (allDig_x2e0)) (k (Ex.exit (0 : Nat)) (allDig_x2e1)) = some r := by
  cases s with | mk env objs =>
  unfold allDig_L2 at h
  split at h
  · rename_i e1 e2
    have e3 := takeF_slots _ _ _ _ e1
    simp only at e2 e3
    subst e2 e3
    exact ⟨_, _, rfl, h⟩
  · cases h
theorem allDig_in2 : loops allDig_b2 = [] := by kernel_rfl
theorem allDig_lid2 : lid allDig_b2 = 2 := by kernel_rfl
theorem allDig_ok2 (N : Nat) : OkL Kx allDig_C allDig_O 0 N (allDig_L N) allDig_b2 := by
  intro s k k' r hk h
  rw [allDig_lid2] at h
  obtain ⟨v2x0, v2x1, rfl, h⟩ := allDig_at2 N h
  refine loopL (Λ := allDig_L N) allDig_b2 ?_ N hk ((allDig_loop2 N k v2x0 v2x1 N v2x0 v2x1).trans h)
  rw [allDig_in2]
  exact fun _ h => nomatch h
def allDig_run (N : Nat) (s : Bytes) : Option Rs := (allDig_F2 N s (0 : Int) (some ((AV.bool false), ([] : (List (Ob))))) (some ((AV.bool true), ([] : (List (Ob))))))
theorem allDig_runL (N : Nat) (s : Bytes) : runL Kx allDig_C allDig_O (allDig_L N) Tryz.f74 ([.str s, .fn 103 []]) ([]) = allDig_run N s := by kernel_rfl
theorem allDig_body : Tryz.f74.body = some (codeOf Tryz.f74) := by kernel_rfl
theorem allDig_loops : loops (codeOf Tryz.f74) = [allDig_b2] := by kernel_rfl
theorem allDig_ev (N : Nat) (s : Bytes) {res_ : Rs} (hyp_ : allDig_run N s = some res_) : ∃ n_, runF Kx allDig_C allDig_O n_ Tryz.f74 ([.str s, .fn 103 []]) ([]) = some res_ :=
  ⟨N, runL_runF allDig_body (by rw [allDig_loops]; exact List.forall_mem_cons.2 ⟨allDig_ok2 N, fun _ h => nomatch h⟩) ((allDig_runL N s).trans hyp_)⟩
def allDig_sOf (φ : Bytes → Br) : List AV → List Ob → Br
  | [.str s, .fn 103 []], [] => φ s
  | _, _ => .fail
theorem allDig_okOf {φ : Bytes → Br} (fu : Bytes → Nat) (hv : ∀ s res_, (φ s).val = some res_ → allDig_run (fu s) s = some res_) : Sound Kx 74 (allDig_sOf φ) := by
  refine sound_run (C := allDig_C) (O := allDig_O) KOk allDig_C_ok Tryz.func74 (by kernel_rfl) fun args objs res os h => ?_
  unfold allDig_sOf at h
  split at h
  · exact allDig_ev _ _ (hv _ _ h)
  · cases h

/-! spec.Delta -/
def sDelta_O : Opt := { cons := [], keepNil := false, mutF := [], live := [(5, [0, 4, 5])], outs := [(5, [2, 3, 4])] }
def sDelta_C : Spec := (add noS 95 (pr_s isDig))
theorem sDelta_C_ok : ∀ fn, Sound Kx fn (sDelta_C fn) := (sound_add (sound_no Kx) sdigit_okQ)
def sDelta_T5 (v5x0 : (List UInt8)) (v5x1 : Int) (v5x2 : Int) (kR5 : (List UInt8) → Int → Int → Option Rs) (k5e0 : Int → Option Rs) (k5e1 : Int → Option Rs) : Option Rs :=
  (bif (decide (v5x2 < ((List.length v5x0) : Int))) then (bif (decide ((0 : Int) ≤ v5x2)) then (bif (decide (v5x2 < ((List.length v5x0) : Int))) then (bif (!(isDig (strAt v5x0 v5x2))) then (k5e0 v5x1) else (bif (decide ((0 : Int) ≤ v5x2)) then (bif (decide (v5x2 < ((List.length v5x0) : Int))) then (bif (decide ((2147483648 : Int) < (wk64 ((wk64 (v5x1 * (10 : Int))) + (wk64 (wk8 ((strAt v5x0 v5x2) - (48 : Int)))))))) then (kR5 v5x0 (2147483648 : Int) (wk64 (v5x2 + (1 : Int)))) else (kR5 v5x0 (wk64 ((wk64 (v5x1 * (10 : Int))) + (wk64 (wk8 ((strAt v5x0 v5x2) - (48 : Int)))))) (wk64 (v5x2 + (1 : Int))))) else (none)) else (none))) else (none)) else (none)) else (k5e1 v5x1))
def sDelta_F5 : Nat → (List UInt8) → Int → Int → (Int → Option Rs) → (Int → Option Rs) → Option Rs
  | 0, _, _, _, _, _ => none
  | n + 1, v5x0, v5x1, v5x2, k5e0, k5e1 => sDelta_T5 v5x0 v5x1 v5x2 (fun v5x0 v5x1 v5x2 => sDelta_F5 n v5x0 v5x1 v5x2 k5e0 k5e1) k5e0 k5e1
def sDelta_h5 (v5x0 : (List UInt8)) (v5x1 : Int) (v5x2 : Int) : St := (St.mk (slots 0 30 [(0, (AV.str v5x0)), (4, (AV.int .i64 v5x1)), (5, (AV.int .i64 v5x2))]) ([] : (List (Nat × (Ob)))))
def sDelta_x5e0 (x5x0x0 : Int) : St := (St.mk (slots 0 30 [(2, (AV.int .i64 (0 : Int))), (3, (AV.bool false)), (4, (AV.int .i64 x5x0x0))]) ([] : (List (Nat × (Ob)))))
def sDelta_x5e1 (x5x1x0 : Int) : St := (St.mk (slots 0 30 [(4, (AV.int .i64 x5x1x0))]) ([] : (List (Nat × (Ob)))))
noncomputable def sDelta_b5 : Code := codeAt (codeOf Tryz.f68) [1, 1, 1, 0, 1, 0, 0]
def sDelta_L5 (N : Nat) (st : St) (k : Ex → St → Option Rs) : Option Rs := match takeF [0, 4, 5] 0 30 st.env, st.objs with
  | some [.str v5x0, .int .i64 v5x1, .int .i64 v5x2], [] => sDelta_F5 N v5x0 v5x1 v5x2 (fun x5x0x0 => k Ex.ret (sDelta_x5e0 x5x0x0)) (fun x5x1x0 => k (Ex.exit (0 : Nat)) (sDelta_x5e1 x5x1x0))
  | _, _ => none
def sDelta_L (N : Nat) : Lam := fun j st k => match j with
  | 5 => sDelta_L5 N st k
  | _ => none
theorem sDelta_round5 (N : Nat) (again : St → Option Rs) (k : Ex → St → Option Rs) (wv5x0 : (List UInt8)) (wv5x1 : Int) (wv5x2 : Int) (v5x0 : (List UInt8)) (v5x1 : Int) (v5x2 : Int) :
    roundK 0 (fun st k => evL Kx sDelta_C sDelta_O 0 (sDelta_L N) sDelta_b5 st k) (sDelta_h5 wv5x0 wv5x1 wv5x2).env again (sDelta_h5 v5x0 v5x1 v5x2) (outK sDelta_O 0 sDelta_b5 k) = sDelta_T5 v5x0 v5x1 v5x2 (fun v5x0 v5x1 v5x2 => again (sDelta_h5 v5x0 v5x1 v5x2)) (fun x5x0x0 => k Ex.ret (sDelta_x5e0 x5x0x0)) (fun x5x1x0 => k (Ex.exit (0 : Nat)) (sDelta_x5e1 x5x1x0)) := by kernel_rfl
theorem sDelta_loop5 (N : Nat) (k : Ex → St → Option Rs) (wv5x0 : (List UInt8)) (wv5x1 : Int) (wv5x2 : Int) : ∀ (n : Nat) (v5x0 : (List UInt8)) (v5x1 : Int) (v5x2 : Int),
    loopK 0 (fun st k => evL Kx sDelta_C sDelta_O 0 (sDelta_L N) sDelta_b5 st k) (sDelta_h5 wv5x0 wv5x1 wv5x2).env n (sDelta_h5 v5x0 v5x1 v5x2) (outK sDelta_O 0 sDelta_b5 k) = sDelta_F5 n v5x0 v5x1 v5x2 (fun x5x0x0 => k Ex.ret (sDelta_x5e0 x5x0x0)) (fun x5x1x0 => k (Ex.exit (0 : Nat)) (sDelta_x5e1 x5x1x0))
  | 0, _, _, _ => rfl
  | n + 1, v5x0, v5x1, v5x2 => by
    rw [loopK_succ, sDelta_round5]
    simp only [sDelta_loop5 N k wv5x0 wv5x1 wv5x2 n]
    rfl
theorem sDelta_at5 (N : Nat) {s : St} {k : Ex → St → Option Rs} {r : Rs} (h : sDelta_L5 N s k = some r) : ∃ (v5x0 : (List UInt8)) (v5x1 : Int) (v5x2 : Int), s = (sDelta_h5 v5x0 v5x1 v5x2) ∧ sDelta_F5 N v5x0 v5x1 v5x2 (fun x5x0x0 => k Ex.ret (sDelta_x5e0 x5x0x0)) (fun x5x1x0 => k (Ex.exit (0 : Nat)) (sDelta_x5e1 x5x1x0)) = some r := by
  cases s with | mk env objs =>
  unfold sDelta_L5 at h
  split at h
  · rename_i e1 e2
    have e3 := takeF_slots _ _ _ _ e1
    simp only at e2 e3
    subst e2 e3
    exact ⟨_, _, _, rfl, h⟩
  · cases h
theorem sDelta_in5 : loops sDelta_b5 = [] := by kernel_rfl
theorem sDelta_lid5 : lid sDelta_b5 = 5 := by kernel_rfl
theorem sDelta_ok5 (N : Nat) : OkL Kx sDelta_C sDelta_O 0 N (sDelta_L N) sDelta_b5 := by
  intro s k k' r hk h
  rw [sDelta_lid5] at h
  obtain ⟨v5x0, v5x1, v5x2, rfl, h⟩ := sDelta_at5 N h
  refine loopL (Λ := sDelta_L N) sDelta_b5 ?_ N hk ((sDelta_loop5 N k v5x0 v5x1 v5x2 N v5x0 v5x1 v5x2).trans h)
  rw [sDelta_in5]
  exact fun _ h => nomatch h
def sDelta_run (N : Nat) (s : Bytes) : Option Rs := (bif (decide (s = ([] : (List UInt8)))) then (some ((AV.tup ((AV.int .i64 (0 : Int)) :: ((AV.bool false) :: ([] : (List (AV)))))), ([] : (List (Ob))))) else (sDelta_F5 N s (0 : Int) (0 : Int) (fun x5x0x0 => (some ((AV.tup ((AV.int .i64 (0 : Int)) :: ((AV.bool false) :: ([] : (List (AV)))))), ([] : (List (Ob)))))) (fun x5x1x0 => (some ((AV.tup ((AV.int .i64 x5x1x0) :: ((AV.bool true) :: ([] : (List (AV)))))), ([] : (List (Ob))))))))
theorem sDelta_runL (N : Nat) (s : Bytes) : runL Kx sDelta_C sDelta_O (sDelta_L N) Tryz.f68 ([.str s]) ([]) = sDelta_run N s := by kernel_rfl
theorem sDelta_body : Tryz.f68.body = some (codeOf Tryz.f68) := by kernel_rfl
theorem sDelta_loops : loops (codeOf Tryz.f68) = [sDelta_b5] := by kernel_rfl
theorem sDelta_ev (N : Nat) (s : Bytes) {res_ : Rs} (hyp_ : sDelta_run N s = some res_) : ∃ n_, runF Kx sDelta_C sDelta_O n_ Tryz.f68 ([.str s]) ([]) = some res_ :=
  ⟨N, runL_runF sDelta_body (by rw [sDelta_loops]; exact List.forall_mem_cons.2 ⟨sDelta_ok5 N, fun _ h => nomatch h⟩) ((sDelta_runL N s).trans hyp_)⟩
def sDelta_sOf (φ : Bytes → Br) : List AV → List Ob → Br
  | [.str s], [] => φ s
  | _, _ => .fail
theorem sDelta_okOf {φ : Bytes → Br} (fu : Bytes → Nat) (hv : ∀ s res_, (φ s).val = some res_ → sDelta_run (fu s) s = some res_) : Sound Kx 68 (sDelta_sOf φ) := by
  refine sound_run (C := sDelta_C) (O := sDelta_O) KOk sDelta_C_ok Tryz.func68 (by kernel_rfl) fun args objs res os h => ?_
  unfold sDelta_sOf at h
  split at h
  · exact sDelta_ev _ _ (hv _ _ h)
  · cases h

/-! impl.Unquote -/
def iUnquote_O : Opt := { cons := [], keepNil := false, mutF := [], live := [(6, [4, 5, 6])], outs := [(6, [2, 3, 5])] }
def iUnquote_C : Spec := (add noS 76 (pr_s isPl))
theorem iUnquote_C_ok : ∀ fn, Sound Kx fn (iUnquote_C fn) := (sound_add (sound_no Kx) isPlain_okQ)
def iUnquote_T6 (v6x0 : (List UInt8)) (v6x1 : Int) (v6x2 : (List Int)) (kR6 : (List UInt8) → Int → (List Int) → Option Rs) (k6e0 : (List Int) → Option Rs) (k6e1 : (List Int) → Option Rs) : Option Rs :=
  (bif (decide (v6x1 < ((List.length v6x0) : Int))) then (bif (decide ((0 : Int) ≤ v6x1)) then (bif (decide (v6x1 < ((List.length v6x0) : Int))) then (bif (decide ((strAt v6x0 v6x1) = (34 : Int))) then (k6e0 v6x2) else (bif (decide ((0 : Int) ≤ v6x1)) then (bif (decide (v6x1 < ((List.length v6x0) : Int))) then (bif (decide ((strAt v6x0 v6x1) = (92 : Int))) then (bif (decide ((wk64 (v6x1 + (1 : Int))) = ((List.length v6x0) : Int))) then (k6e0 v6x2) else (bif (decide ((0 : Int) ≤ (wk64 (v6x1 + (1 : Int))))) then (bif (decide ((wk64 (v6x1 + (1 : Int))) < ((List.length v6x0) : Int))) then (bif (!(isPl (strAt v6x0 (wk64 (v6x1 + (1 : Int)))))) then (k6e0 v6x2) else (bif (decide ((0 : Int) ≤ (wk64 (v6x1 + (1 : Int))))) then (bif (decide ((wk64 (v6x1 + (1 : Int))) < ((List.length v6x0) : Int))) then (bif (decide ((((List.length v6x2) + (List.length (List.set (List.replicate (1 : Nat) (0 : Int)) (0 : Nat) (strAt v6x0 (wk64 (v6x1 + (1 : Int))))))) * (1 : Nat)) ≤ (140737488355328 : Nat))) then (kR6 v6x0 (wk64 ((wk64 (v6x1 + (1 : Int))) + (1 : Int))) (v6x2 ++ (List.set (List.replicate (1 : Nat) (0 : Int)) (0 : Nat) (strAt v6x0 (wk64 (v6x1 + (1 : Int))))))) else (none)) else (none)) else (none))) else (none)) else (none))) else (bif (decide (v6x1 = ((List.length v6x0) : Int))) then (k6e0 v6x2) else (bif (decide ((0 : Int) ≤ v6x1)) then (bif (decide (v6x1 < ((List.length v6x0) : Int))) then (bif (!(isPl (strAt v6x0 v6x1))) then (k6e0 v6x2) else (bif (decide ((0 : Int) ≤ v6x1)) then (bif (decide (v6x1 < ((List.length v6x0) : Int))) then (bif (decide ((((List.length v6x2) + (List.length (List.set (List.replicate (1 : Nat) (0 : Int)) (0 : Nat) (strAt v6x0 v6x1)))) * (1 : Nat)) ≤ (140737488355328 : Nat))) then (kR6 v6x0 (wk64 (v6x1 + (1 : Int))) (v6x2 ++ (List.set (List.replicate (1 : Nat) (0 : Int)) (0 : Nat) (strAt v6x0 v6x1)))) else (none)) else (none)) else (none))) else (none)) else (none)))) else (none)) else (none))) else (none)) else (none)) else (k6e1 v6x2))
def iUnquote_F6 : Nat → (List UInt8) → Int → (List Int) → ((List Int) → Option Rs) → ((List Int) → Option Rs) → Option Rs
  | 0, _, _, _, _, _ => none
  | n + 1, v6x0, v6x1, v6x2, k6e0, k6e1 => iUnquote_T6 v6x0 v6x1 v6x2 (fun v6x0 v6x1 v6x2 => iUnquote_F6 n v6x0 v6x1 v6x2 k6e0 k6e1) k6e0 k6e1
def iUnquote_h6 (v6x0 : (List UInt8)) (v6x1 : Int) (v6x2 : (List Int)) : St := (St.mk (slots 0 66 [(4, (AV.str v6x0)), (5, (AV.ref (384 : Nat) (0 : Nat))), (6, (AV.int .i64 v6x1))]) (((384 : Nat), (Ob.arr (Ty.int .u8) (0 : Nat) false v6x2)) :: ([] : (List (Nat × (Ob))))))
def iUnquote_x6e0 (x6x0x0 : (List Int)) : St := (St.mk (slots 0 66 [(2, (AV.str ([] : (List UInt8)))), (3, (AV.bool false)), (5, (AV.ref (384 : Nat) (0 : Nat)))]) (((384 : Nat), (Ob.arr (Ty.int .u8) (0 : Nat) false x6x0x0)) :: ([] : (List (Nat × (Ob))))))
def iUnquote_x6e1 (x6x1x0 : (List Int)) : St := (St.mk (slots 0 66 [(5, (AV.ref (384 : Nat) (0 : Nat)))]) (((384 : Nat), (Ob.arr (Ty.int .u8) (0 : Nat) false x6x1x0)) :: ([] : (List (Nat × (Ob))))))
noncomputable def iUnquote_b6 : Code := codeAt (codeOf Tryz.f49) [1, 1, 1, 1, 0, 1, 0, 0]
def iUnquote_L6 (N : Nat) (st : St) (k : Ex → St → Option Rs) : Option Rs := match takeF [4, 5, 6] 0 66 st.env, st.objs with
  | some [.str v6x0, .ref 384 0, .int .i64 v6x1], [(384, .arr (Ty.int .u8) 0 false v6x2)] => iUnquote_F6 N v6x0 v6x1 v6x2 (fun x6x0x0 => k Ex.ret (iUnquote_x6e0 x6x0x0)) (fun x6x1x0 => k (Ex.exit (0 : Nat)) (iUnquote_x6e1 x6x1x0))
  | _, _ => none
def iUnquote_L (N : Nat) : Lam := fun j st k => match j with
  | 6 => iUnquote_L6 N st k
  | _ => none
theorem iUnquote_round6 (N : Nat) (again : St → Option Rs) (k : Ex → St → Option Rs) (wv6x0 : (List UInt8)) (wv6x1 : Int) (wv6x2 : (List Int)) (v6x0 : (List UInt8)) (v6x1 : Int) (v6x2 : (List Int)) :
    roundK 0 (fun st k => evL Kx iUnquote_C iUnquote_O 0 (iUnquote_L N) iUnquote_b6 st k) (iUnquote_h6 wv6x0 wv6x1 wv6x2).env again (iUnquote_h6 v6x0 v6x1 v6x2) (outK iUnquote_O 0 iUnquote_b6 k) = iUnquote_T6 v6x0 v6x1 v6x2 (fun v6x0 v6x1 v6x2 => again (iUnquote_h6 v6x0 v6x1 v6x2)) (fun x6x0x0 => k Ex.ret (iUnquote_x6e0 x6x0x0)) (fun x6x1x0 => k (Ex.exit (0 : Nat)) (iUnquote_x6e1 x6x1x0)) := by kernel_rfl
theorem iUnquote_loop6 (N : Nat) (k : Ex → St → Option Rs) (wv6x0 : (List UInt8)) (wv6x1 : Int) (wv6x2 : (List Int)) : ∀ (n : Nat) (v6x0 : (List UInt8)) (v6x1 : Int) (v6x2 : (List Int)),
    loopK 0 (fun st k => evL Kx iUnquote_C iUnquote_O 0 (iUnquote_L N) iUnquote_b6 st k) (iUnquote_h6 wv6x0 wv6x1 wv6x2).env n (iUnquote_h6 v6x0 v6x1 v6x2) (outK iUnquote_O 0 iUnquote_b6 k) = iUnquote_F6 n v6x0 v6x1 v6x2 (fun x6x0x0 => k Ex.ret (iUnquote_x6e0 x6x0x0)) (fun x6x1x0 => k (Ex.exit (0 : Nat)) (iUnquote_x6e1 x6x1x0))
  | 0, _, _, _ => rfl
  | n + 1, v6x0, v6x1, v6x2 => by
    rw [loopK_succ, iUnquote_round6]
    simp only [iUnquote_loop6 N k wv6x0 wv6x1 wv6x2 n]
    rfl
theorem iUnquote_at6 (N : Nat) {s : St} {k : Ex → St → Option Rs} {r : Rs} (h : iUnquote_L6 N s k = some r) : ∃ (v6x0 : (List UInt8)) (v6x1 : Int) (v6x2 : (List Int)), s = (iUnquote_h6 v6x0 v6x1 v6x2) ∧ iUnquote_F6 N v6x0 v6x1 v6x2 (fun x6x0x0 => k Ex.ret (iUnquote_x6e0 x6x0x0)) (fun x6x1x0 => k (Ex.exit (0 : Nat)) (iUnquote_x6e1 x6x1x0)) = some r := by
  cases s with | mk env objs =>
  unfold iUnquote_L6 at h
  split at h
  · rename_i e1 e2
    have e3 := takeF_slots _ _ _ _ e1
    simp only at e2 e3
    subst e2 e3
    exact ⟨_, _, _, rfl, h⟩
  · cases h
theorem iUnquote_in6 : loops iUnquote_b6 = [] := by kernel_rfl
theorem iUnquote_lid6 : lid iUnquote_b6 = 6 := by kernel_rfl
theorem iUnquote_ok6 (N : Nat) : OkL Kx iUnquote_C iUnquote_O 0 N (iUnquote_L N) iUnquote_b6 := by
  intro s k k' r hk h
  rw [iUnquote_lid6] at h
  obtain ⟨v6x0, v6x1, v6x2, rfl, h⟩ := iUnquote_at6 N h
  refine loopL (Λ := iUnquote_L N) iUnquote_b6 ?_ N hk ((iUnquote_loop6 N k v6x0 v6x1 v6x2 N v6x0 v6x1 v6x2).trans h)
  rw [iUnquote_in6]
  exact fun _ h => nomatch h
def iUnquote_run (N : Nat) (s : Bytes) : Option Rs := (bif (decide (((List.length s) : Int) < (2 : Int))) then (some ((AV.tup ((AV.str ([] : (List UInt8))) :: ((AV.bool false) :: ([] : (List (AV)))))), ([] : (List (Ob))))) else (bif (decide ((0 : Int) < ((List.length s) : Int))) then (bif (!(decide ((strAt s (0 : Int)) = (34 : Int)))) then (some ((AV.tup ((AV.str ([] : (List UInt8))) :: ((AV.bool false) :: ([] : (List (AV)))))), ([] : (List (Ob))))) else (bif (decide ((0 : Int) ≤ (wk64 (((List.length s) : Int) - (1 : Int))))) then (bif (decide ((wk64 (((List.length s) : Int) - (1 : Int))) < ((List.length s) : Int))) then (bif (!(decide ((strAt s (wk64 (((List.length s) : Int) - (1 : Int)))) = (34 : Int)))) then (some ((AV.tup ((AV.str ([] : (List UInt8))) :: ((AV.bool false) :: ([] : (List (AV)))))), ([] : (List (Ob))))) else (bif (decide ((1 : Int) ≤ (wk64 (((List.length s) : Int) - (1 : Int))))) then (bif (decide ((wk64 (((List.length s) : Int) - (1 : Int))) ≤ ((List.length s) : Int))) then (iUnquote_F6 N (cut s (1 : Int) (wk64 (((List.length s) : Int) - (1 : Int)))) (0 : Int) ([] : (List Int)) (fun x6x0x0 => (some ((AV.tup ((AV.str ([] : (List UInt8))) :: ((AV.bool false) :: ([] : (List (AV)))))), ([] : (List (Ob)))))) (fun x6x1x0 => (bif (decide ((4000 : Int) < ((List.length x6x1x0) : Int))) then (some ((AV.tup ((AV.str ([] : (List UInt8))) :: ((AV.bool false) :: ([] : (List (AV)))))), ([] : (List (Ob))))) else (some ((AV.tup ((AV.str (ofBytes x6x1x0)) :: ((AV.bool true) :: ([] : (List (AV)))))), ([] : (List (Ob)))))))) else (none)) else (none))) else (none)) else (none))) else (none)))
theorem iUnquote_runL (N : Nat) (s : Bytes) : runL Kx iUnquote_C iUnquote_O (iUnquote_L N) Tryz.f49 ([.str s]) ([]) = iUnquote_run N s := by kernel_rfl
theorem iUnquote_body : Tryz.f49.body = some (codeOf Tryz.f49) := by kernel_rfl
theorem iUnquote_loops : loops (codeOf Tryz.f49) = [iUnquote_b6] := by kernel_rfl
theorem iUnquote_ev (N : Nat) (s : Bytes) {res_ : Rs} (hyp_ : iUnquote_run N s = some res_) : ∃ n_, runF Kx iUnquote_C iUnquote_O n_ Tryz.f49 ([.str s]) ([]) = some res_ :=
  ⟨N, runL_runF iUnquote_body (by rw [iUnquote_loops]; exact List.forall_mem_cons.2 ⟨iUnquote_ok6 N, fun _ h => nomatch h⟩) ((iUnquote_runL N s).trans hyp_)⟩
def iUnquote_sOf (φ : Bytes → Br) : List AV → List Ob → Br
  | [.str s], [] => φ s
  | _, _ => .fail
theorem iUnquote_okOf {φ : Bytes → Br} (fu : Bytes → Nat) (hv : ∀ s res_, (φ s).val = some res_ → iUnquote_run (fu s) s = some res_) : Sound Kx 49 (iUnquote_sOf φ) := by
  refine sound_run (C := iUnquote_C) (O := iUnquote_O) KOk iUnquote_C_ok Tryz.func49 (by kernel_rfl) fun args objs res os h => ?_
  unfold iUnquote_sOf at h
  split at h
  · exact iUnquote_ev _ _ (hv _ _ h)
  · cases h

/-! spec.Unquote -/
def sUnquote_O : Opt := { cons := [], keepNil := false, mutF := [], live := [(6, [4, 5, 6])], outs := [(6, [2, 3, 4])] }
def sUnquote_C : Spec := (add noS 93 (pr_s isPl))
theorem sUnquote_C_ok : ∀ fn, Sound Kx fn (sUnquote_C fn) := (sound_add (sound_no Kx) splain_okQ)
def sUnquote_T6 (v6x0 : (List UInt8)) (v6x1 : Int) (v6x2 : (List Int)) (kR6 : (List UInt8) → Int → (List Int) → Option Rs) (k6e0 : (List Int) → Option Rs) (k6e1 : (List Int) → Option Rs) : Option Rs :=
  (bif (decide (v6x1 < ((List.length v6x0) : Int))) then (bif (decide ((0 : Int) ≤ v6x1)) then (bif (decide (v6x1 < ((List.length v6x0) : Int))) then (bif (decide ((strAt v6x0 v6x1) = (92 : Int))) then (bif (decide ((wk64 (v6x1 + (1 : Int))) = ((List.length v6x0) : Int))) then (k6e0 v6x2) else (bif (decide ((0 : Int) ≤ (wk64 (v6x1 + (1 : Int))))) then (bif (decide ((wk64 (v6x1 + (1 : Int))) < ((List.length v6x0) : Int))) then (bif (!(isPl (strAt v6x0 (wk64 (v6x1 + (1 : Int)))))) then (k6e0 v6x2) else (bif (decide ((0 : Int) ≤ (wk64 (v6x1 + (1 : Int))))) then (bif (decide ((wk64 (v6x1 + (1 : Int))) < ((List.length v6x0) : Int))) then (bif (decide ((((List.length v6x2) + (List.length (List.set (List.replicate (1 : Nat) (0 : Int)) (0 : Nat) (strAt v6x0 (wk64 (v6x1 + (1 : Int))))))) * (1 : Nat)) ≤ (140737488355328 : Nat))) then (kR6 v6x0 (wk64 ((wk64 (v6x1 + (1 : Int))) + (1 : Int))) (v6x2 ++ (List.set (List.replicate (1 : Nat) (0 : Int)) (0 : Nat) (strAt v6x0 (wk64 (v6x1 + (1 : Int))))))) else (none)) else (none)) else (none))) else (none)) else (none))) else (bif (decide ((0 : Int) ≤ v6x1)) then (bif (decide (v6x1 < ((List.length v6x0) : Int))) then (bif (decide ((strAt v6x0 v6x1) = (34 : Int))) then (k6e0 v6x2) else (bif (decide ((0 : Int) ≤ v6x1)) then (bif (decide (v6x1 < ((List.length v6x0) : Int))) then (bif (!(isPl (strAt v6x0 v6x1))) then (k6e0 v6x2) else (bif (decide ((0 : Int) ≤ v6x1)) then (bif (decide (v6x1 < ((List.length v6x0) : Int))) then (bif (decide ((((List.length v6x2) + (List.length (List.set (List.replicate (1 : Nat) (0 : Int)) (0 : Nat) (strAt v6x0 v6x1)))) * (1 : Nat)) ≤ (140737488355328 : Nat))) then (kR6 v6x0 (wk64 (v6x1 + (1 : Int))) (v6x2 ++ (List.set (List.replicate (1 : Nat) (0 : Int)) (0 : Nat) (strAt v6x0 v6x1)))) else (none)) else (none)) else (none))) else (none)) else (none))) else (none)) else (none))) else (none)) else (none)) else (k6e1 v6x2))
def sUnquote_F6 : Nat → (List UInt8) → Int → (List Int) → ((List Int) → Option Rs) → ((List Int) → Option Rs) → Option Rs
  | 0, _, _, _, _, _ => none
  | n + 1, v6x0, v6x1, v6x2, k6e0, k6e1 => sUnquote_T6 v6x0 v6x1 v6x2 (fun v6x0 v6x1 v6x2 => sUnquote_F6 n v6x0 v6x1 v6x2 k6e0 k6e1) k6e0 k6e1
def sUnquote_h6 (v6x0 : (List UInt8)) (v6x1 : Int) (v6x2 : (List Int)) : St := (St.mk (slots 0 69 [(4, (AV.ref (320 : Nat) (0 : Nat))), (5, (AV.str v6x0)), (6, (AV.int .i64 v6x1))]) (((320 : Nat), (Ob.arr (Ty.int .u8) (0 : Nat) false v6x2)) :: ([] : (List (Nat × (Ob))))))
def sUnquote_x6e0 (x6x0x0 : (List Int)) : St := (St.mk (slots 0 69 [(2, (AV.str ([] : (List UInt8)))), (3, (AV.bool false)), (4, (AV.ref (320 : Nat) (0 : Nat)))]) (((320 : Nat), (Ob.arr (Ty.int .u8) (0 : Nat) false x6x0x0)) :: ([] : (List (Nat × (Ob))))))
def sUnquote_x6e1 (x6x1x0 : (List Int)) : St := (St.mk (slots 0 69 [(4, (AV.ref (320 : Nat) (0 : Nat)))]) (((320 : Nat), (Ob.arr (Ty.int .u8) (0 : Nat) false x6x1x0)) :: ([] : (List (Nat × (Ob))))))
noncomputable def sUnquote_b6 : Code := codeAt (codeOf Tryz.f118) [1, 1, 1, 1, 0, 1, 0, 0]
def sUnquote_L6 (N : Nat) (st : St) (k : Ex → St → Option Rs) : Option Rs := match takeF [4, 5, 6] 0 69 st.env, st.objs with
  | some [.ref 320 0, .str v6x0, .int .i64 v6x1], [(320, .arr (Ty.int .u8) 0 false v6x2)] => sUnquote_F6 N v6x0 v6x1 v6x2 (fun x6x0x0 => k Ex.ret (sUnquote_x6e0 x6x0x0)) (fun x6x1x0 => k (Ex.exit (0 : Nat)) (sUnquote_x6e1 x6x1x0))
  | _, _ => none
def sUnquote_L (N : Nat) : Lam := fun j st k => match j with
  | 6 => sUnquote_L6 N st k
  | _ => none
theorem sUnquote_round6 (N : Nat) (again : St → Option Rs) (k : Ex → St → Option Rs) (wv6x0 : (List UInt8)) (wv6x1 : Int) (wv6x2 : (List Int)) (v6x0 : (List UInt8)) (v6x1 : Int) (v6x2 : (List Int)) :
    roundK 0 (fun st k => evL Kx sUnquote_C sUnquote_O 0 (sUnquote_L N) sUnquote_b6 st k) (sUnquote_h6 wv6x0 wv6x1 wv6x2).env again (sUnquote_h6 v6x0 v6x1 v6x2) (outK sUnquote_O 0 sUnquote_b6 k) = sUnquote_T6 v6x0 v6x1 v6x2 (fun v6x0 v6x1 v6x2 => again (sUnquote_h6 v6x0 v6x1 v6x2)) (fun x6x0x0 => k Ex.ret (sUnquote_x6e0 x6x0x0)) (fun x6x1x0 => k (Ex.exit (0 : Nat)) (sUnquote_x6e1 x6x1x0)) := by kernel_rfl
theorem sUnquote_loop6 (N : Nat) (k : Ex → St → Option Rs) (wv6x0 : (List UInt8)) (wv6x1 : Int) (wv6x2 : (List Int)) : ∀ (n : Nat) (v6x0 : (List UInt8)) (v6x1 : Int) (v6x2 : (List Int)),
    loopK 0 (fun st k => evL Kx sUnquote_C sUnquote_O 0 (sUnquote_L N) sUnquote_b6 st k) (sUnquote_h6 wv6x0 wv6x1 wv6x2).env n (sUnquote_h6 v6x0 v6x1 v6x2) (outK sUnquote_O 0 sUnquote_b6 k) = sUnquote_F6 n v6x0 v6x1 v6x2 (fun x6x0x0 => k Ex.ret (sUnquote_x6e0 x6x0x0)) (fun x6x1x0 => k (Ex.exit (0 : Nat)) (sUnquote_x6e1 x6x1x0))
  | 0, _, _, _ => rfl
  | n + 1, v6x0, v6x1, v6x2 => by
    rw [loopK_succ, sUnquote_round6]
    simp only [sUnquote_loop6 N k wv6x0 wv6x1 wv6x2 n]
    rfl
theorem sUnquote_at6 (N : Nat) {s : St} {k : Ex → St → Option Rs} {r : Rs} (h : sUnquote_L6 N s k = some r) : ∃ (v6x0 : (List UInt8)) (v6x1 : Int) (v6x2 : (List Int)), s = (sUnquote_h6 v6x0 v6x1 v6x2) ∧ sUnquote_F6 N v6x0 v6x1 v6x2 (fun x6x0x0 => k Ex.ret (sUnquote_x6e0 x6x0x0)) (fun x6x1x0 => k (Ex.exit (0 : Nat)) (sUnquote_x6e1 x6x1x0)) = some r := by
  cases s with | mk env objs =>
  unfold sUnquote_L6 at h
  split at h
  · rename_i e1 e2
    have e3 := takeF_slots _ _ _ _ e1
    simp only at e2 e3
    subst e2 e3
    exact ⟨_, _, _, rfl, h⟩
  · cases h
theorem sUnquote_in6 : loops sUnquote_b6 = [] := by kernel_rfl
theorem sUnquote_lid6 : lid sUnquote_b6 = 6 := by kernel_rfl
theorem sUnquote_ok6 (N : Nat) : OkL Kx sUnquote_C sUnquote_O 0 N (sUnquote_L N) sUnquote_b6 := by
  intro s k k' r hk h
  rw [sUnquote_lid6] at h
  obtain ⟨v6x0, v6x1, v6x2, rfl, h⟩ := sUnquote_at6 N h
  refine loopL (Λ := sUnquote_L N) sUnquote_b6 ?_ N hk ((sUnquote_loop6 N k v6x0 v6x1 v6x2 N v6x0 v6x1 v6x2).trans h)
  rw [sUnquote_in6]
  exact fun _ h => nomatch h
def sUnquote_run (N : Nat) (s : Bytes) : Option Rs := (bif (decide (((List.length s) : Int) < (2 : Int))) then (some ((AV.tup ((AV.str ([] : (List UInt8))) :: ((AV.bool false) :: ([] : (List (AV)))))), ([] : (List (Ob))))) else (bif (decide ((8002 : Int) < ((List.length s) : Int))) then (some ((AV.tup ((AV.str ([] : (List UInt8))) :: ((AV.bool false) :: ([] : (List (AV)))))), ([] : (List (Ob))))) else (bif (decide ((0 : Int) < ((List.length s) : Int))) then (bif (!(decide ((strAt s (0 : Int)) = (34 : Int)))) then (some ((AV.tup ((AV.str ([] : (List UInt8))) :: ((AV.bool false) :: ([] : (List (AV)))))), ([] : (List (Ob))))) else (bif (decide ((0 : Int) ≤ (wk64 (((List.length s) : Int) - (1 : Int))))) then (bif (decide ((wk64 (((List.length s) : Int) - (1 : Int))) < ((List.length s) : Int))) then (bif (!(decide ((strAt s (wk64 (((List.length s) : Int) - (1 : Int)))) = (34 : Int)))) then (some ((AV.tup ((AV.str ([] : (List UInt8))) :: ((AV.bool false) :: ([] : (List (AV)))))), ([] : (List (Ob))))) else (bif (decide ((1 : Int) ≤ (wk64 (((List.length s) : Int) - (1 : Int))))) then (bif (decide ((wk64 (((List.length s) : Int) - (1 : Int))) ≤ ((List.length s) : Int))) then (sUnquote_F6 N (cut s (1 : Int) (wk64 (((List.length s) : Int) - (1 : Int)))) (0 : Int) ([] : (List Int)) (fun x6x0x0 => (some ((AV.tup ((AV.str ([] : (List UInt8))) :: ((AV.bool false) :: ([] : (List (AV)))))), ([] : (List (Ob)))))) (fun x6x1x0 => (bif (decide ((4000 : Int) < ((List.length x6x1x0) : Int))) then (some ((AV.tup ((AV.str ([] : (List UInt8))) :: ((AV.bool false) :: ([] : (List (AV)))))), ([] : (List (Ob))))) else (some ((AV.tup ((AV.str (ofBytes x6x1x0)) :: ((AV.bool true) :: ([] : (List (AV)))))), ([] : (List (Ob)))))))) else (none)) else (none))) else (none)) else (none))) else (none))))
theorem sUnquote_runL (N : Nat) (s : Bytes) : runL Kx sUnquote_C sUnquote_O (sUnquote_L N) Tryz.f118 ([.str s]) ([]) = sUnquote_run N s := by kernel_rfl
theorem sUnquote_body : Tryz.f118.body = some (codeOf Tryz.f118) := by kernel_rfl
theorem sUnquote_loops : loops (codeOf Tryz.f118) = [sUnquote_b6] := by kernel_rfl
theorem sUnquote_ev (N : Nat) (s : Bytes) {res_ : Rs} (hyp_ : sUnquote_run N s = some res_) : ∃ n_, runF Kx sUnquote_C sUnquote_O n_ Tryz.f118 ([.str s]) ([]) = some res_ :=
  ⟨N, runL_runF sUnquote_body (by rw [sUnquote_loops]; exact List.forall_mem_cons.2 ⟨sUnquote_ok6 N, fun _ h => nomatch h⟩) ((sUnquote_runL N s).trans hyp_)⟩
def sUnquote_sOf (φ : Bytes → Br) : List AV → List Ob → Br
  | [.str s], [] => φ s
  | _, _ => .fail
theorem sUnquote_okOf {φ : Bytes → Br} (fu : Bytes → Nat) (hv : ∀ s res_, (φ s).val = some res_ → sUnquote_run (fu s) s = some res_) : Sound Kx 118 (sUnquote_sOf φ) := by
  refine sound_run (C := sUnquote_C) (O := sUnquote_O) KOk sUnquote_C_ok Tryz.func118 (by kernel_rfl) fun args objs res os h => ?_
  unfold sUnquote_sOf at h
  split at h
  · exact sUnquote_ev _ _ (hv _ _ h)
  · cases h

/-! spec.l6upto -/
def supto_O : Opt := { cons := [], keepNil := false, mutF := [], live := [(2, [0, 1, 5])], outs := [(2, [0, 4])] }
def supto_T2 (v2x0 : (List UInt8)) (v2x1 : Int) (v2x2 : Int) (kR2 : (List UInt8) → Int → Int → Option Rs) (k2e0 : (List UInt8) → (List UInt8) → Option Rs) (k2e1 : (List UInt8) → Option Rs) : Option Rs :=
  (bif (decide (v2x2 < ((List.length v2x0) : Int))) then (bif (decide ((0 : Int) ≤ v2x2)) then (bif (decide (v2x2 < ((List.length v2x0) : Int))) then (bif (decide ((strAt v2x0 v2x2) = v2x1)) then (bif (decide ((0 : Int) ≤ v2x2)) then (bif (decide (v2x2 ≤ ((List.length v2x0) : Int))) then (k2e0 v2x0 (cut v2x0 (0 : Int) v2x2)) else (none)) else (none)) else (kR2 v2x0 v2x1 (wk64 (v2x2 + (1 : Int))))) else (none)) else (none)) else (k2e1 v2x0))
def supto_F2 : Nat → (List UInt8) → Int → Int → ((List UInt8) → (List UInt8) → Option Rs) → ((List UInt8) → Option Rs) → Option Rs
  | 0, _, _, _, _, _ => none
  | n + 1, v2x0, v2x1, v2x2, k2e0, k2e1 => supto_T2 v2x0 v2x1 v2x2 (fun v2x0 v2x1 v2x2 => supto_F2 n v2x0 v2x1 v2x2 k2e0 k2e1) k2e0 k2e1
def supto_h2 (v2x0 : (List UInt8)) (v2x1 : Int) (v2x2 : Int) : St := (St.mk (slots 0 21 [(0, (AV.str v2x0)), (1, (AV.int .u8 v2x1)), (5, (AV.int .i64 v2x2))]) ([] : (List (Nat × (Ob)))))
def supto_x2e0 (x2x0x0 : (List UInt8)) (x2x0x1 : (List UInt8)) : St := (St.mk (slots 0 21 [(0, (AV.str x2x0x0)), (4, (AV.str x2x0x1))]) ([] : (List (Nat × (Ob)))))
def supto_x2e1 (x2x1x0 : (List UInt8)) : St := (St.mk (slots 0 21 [(0, (AV.str x2x1x0))]) ([] : (List (Nat × (Ob)))))
noncomputable def supto_b2 : Code := codeAt (codeOf Tryz.f117) [1, 0, 1, 0, 0]
def supto_L2 (N : Nat) (st : St) (k : Ex → St → Option Rs) : Option Rs := match takeF [0, 1, 5] 0 21 st.env, st.objs with
  | some [.str v2x0, .int .u8 v2x1, .int .i64 v2x2], [] => supto_F2 N v2x0 v2x1 v2x2 (fun x2x0x0 x2x0x1 => k Ex.ret (supto_x2e0 x2x0x0 x2x0x1)) (fun x2x1x0 => k (Ex.exit (0 : Nat)) (supto_x2e1 x2x1x0))
  | _, _ => none
def supto_L (N : Nat) : Lam := fun j st k => match j with
  | 2 => supto_L2 N st k
  | _ => none
theorem supto_round2 (N : Nat) (again : St → Option Rs) (k : Ex → St → Option Rs) (wv2x0 : (List UInt8)) (wv2x1 : Int) (wv2x2 : Int) (v2x0 : (List UInt8)) (v2x1 : Int) (v2x2 : Int) :
    roundK 0 (fun st k => evL Kx noS supto_O 0 (supto_L N) supto_b2 st k) (supto_h2 wv2x0 wv2x1 wv2x2).env again (supto_h2 v2x0 v2x1 v2x2) (outK supto_O 0 supto_b2 k) = supto_T2 v2x0 v2x1 v2x2 (fun v2x0 v2x1 v2x2 => again (supto_h2 v2x0 v2x1 v2x2)) (fun x2x0x0 x2x0x1 => k Ex.ret (supto_x2e0 x2x0x0 x2x0x1)) (fun x2x1x0 => k (Ex.exit (0 : Nat)) (supto_x2e1 x2x1x0)) := by kernel_rfl
theorem supto_loop2 (N : Nat) (k : Ex → St → Option Rs) (wv2x0 : (List UInt8)) (wv2x1 : Int) (wv2x2 : Int) : ∀ (n : Nat) (v2x0 : (List UInt8)) (v2x1 : Int) (v2x2 : Int),
    loopK 0 (fun st k => evL Kx noS supto_O 0 (supto_L N) supto_b2 st k) (supto_h2 wv2x0 wv2x1 wv2x2).env n (supto_h2 v2x0 v2x1 v2x2) (outK supto_O 0 supto_b2 k) = supto_F2 n v2x0 v2x1 v2x2 (fun x2x0x0 x2x0x1 => k Ex.ret (supto_x2e0 x2x0x0 x2x0x1)) (fun x2x1x0 => k (Ex.exit (0 : Nat)) (supto_x2e1 x2x1x0))
  | 0, _, _, _ => rfl
  | n + 1, v2x0, v2x1, v2x2 => by
    rw [loopK_succ, supto_round2]
    simp only [supto_loop2 N k wv2x0 wv2x1 wv2x2 n]
    rfl
theorem supto_at2 (N : Nat) {s : St} {k : Ex → St → Option Rs} {r : Rs} (h : supto_L2 N s k = some r) : ∃ (v2x0 : (List UInt8)) (v2x1 : Int) (v2x2 : Int), s = (supto_h2 v2x0 v2x1 v2x2) ∧ supto_F2 N v2x0 v2x1 v2x2 (fun x2x0x0 x2x0x1 => k Ex.ret (supto_x2e0 x2x0x0 x2x0x1)) (fun x2x1x0 => k (Ex.exit (0 : Nat)) (supto_x2e1 x2x1x0)) = some r := by
  cases s with | mk env objs =>
  unfold supto_L2 at h
  split at h
  · rename_i e1 e2
    have e3 := takeF_slots _ _ _ _ e1
    simp only at e2 e3
    subst e2 e3
    exact ⟨_, _, _, rfl, h⟩
  · cases h
theorem supto_in2 : loops supto_b2 = [] := by kernel_rfl
theorem supto_lid2 : lid supto_b2 = 2 := by kernel_rfl
theorem supto_ok2 (N : Nat) : OkL Kx noS supto_O 0 N (supto_L N) supto_b2 := by
  intro s k k' r hk h
  rw [supto_lid2] at h
  obtain ⟨v2x0, v2x1, v2x2, rfl, h⟩ := supto_at2 N h
  refine loopL (Λ := supto_L N) supto_b2 ?_ N hk ((supto_loop2 N k v2x0 v2x1 v2x2 N v2x0 v2x1 v2x2).trans h)
  rw [supto_in2]
  exact fun _ h => nomatch h
def supto_run (N : Nat) (s : Bytes) (b : Int) : Option Rs := (supto_F2 N s b (0 : Int) (fun x2x0x0 => (fun x2x0x1 => (some ((AV.str x2x0x1), ([] : (List (Ob))))))) (fun x2x1x0 => (some ((AV.str x2x1x0), ([] : (List (Ob)))))))
theorem supto_runL (N : Nat) (s : Bytes) (b : Int) : runL Kx noS supto_O (supto_L N) Tryz.f117 ([.str s, .int .u8 b]) ([]) = supto_run N s b := by kernel_rfl
theorem supto_body : Tryz.f117.body = some (codeOf Tryz.f117) := by kernel_rfl
theorem supto_loops : loops (codeOf Tryz.f117) = [supto_b2] := by kernel_rfl
theorem supto_ev (N : Nat) (s : Bytes) (b : Int) {res_ : Rs} (hyp_ : supto_run N s b = some res_) : ∃ n_, runF Kx noS supto_O n_ Tryz.f117 ([.str s, .int .u8 b]) ([]) = some res_ :=
  ⟨N, runL_runF supto_body (by rw [supto_loops]; exact List.forall_mem_cons.2 ⟨supto_ok2 N, fun _ h => nomatch h⟩) ((supto_runL N s b).trans hyp_)⟩
def supto_sOf (φ : Bytes → Int → Br) : List AV → List Ob → Br
  | [.str s, .int .u8 b], [] => φ s b
  | _, _ => .fail
theorem supto_okOf {φ : Bytes → Int → Br} (fu : Bytes → Int → Nat) (hv : ∀ s b res_, (φ s b).val = some res_ → supto_run (fu s b) s b = some res_) : Sound Kx 117 (supto_sOf φ) := by
  refine sound_run (C := noS) (O := supto_O) KOk (sound_no Kx) Tryz.func117 (by kernel_rfl) fun args objs res os h => ?_
  unfold supto_sOf at h
  split at h
  · exact supto_ev _ _ _ (hv _ _ _ h)
  · cases h

/-! impl.ReadDirs$1 -/
def setA_O : Opt := { cons := [], keepNil := false, mutF := [], live := [], outs := [] }
def setA_br (a b c d e f : Bool) (g h i j n : Int) : Br := (Br.ite (decide (g < (0 : Int))) (Br.ret (AV.tup ([] : (List (AV)))) ((Ob.var ((AV.bool a) :: ((AV.bool b) :: ((AV.bool c) :: ((AV.bool d) :: ((AV.bool e) :: ((AV.bool f) :: ((AV.int .i64 n) :: ((AV.int .i64 h) :: ((AV.int .i64 i) :: ((AV.int .i64 j) :: ([] : (List (AV)))))))))))))) :: ([] : (List (Ob))))) (Br.ret (AV.tup ([] : (List (AV)))) ((Ob.var ((AV.bool a) :: ((AV.bool b) :: ((AV.bool c) :: ((AV.bool d) :: ((AV.bool e) :: ((AV.bool f) :: ((AV.int .i64 g) :: ((AV.int .i64 h) :: ((AV.int .i64 i) :: ((AV.int .i64 j) :: ([] : (List (AV)))))))))))))) :: ([] : (List (Ob))))))
theorem setA_run (a b c d e f : Bool) (g h i j n : Int) : runF Kx noS setA_O 1 Tryz.f45 ([.ptr 0 6, .int .i64 n]) ([.var [.bool a, .bool b, .bool c, .bool d, .bool e, .bool f, .int .i64 g, .int .i64 h, .int .i64 i, .int .i64 j]]) = (setA_br a b c d e f g h i j n).val := by kernel_rfl
def setA_s : List AV → List Ob → Br
  | [.ptr 0 6, .int .i64 n], [.var [.bool a, .bool b, .bool c, .bool d, .bool e, .bool f, .int .i64 g, .int .i64 h, .int .i64 i, .int .i64 j]] => setA_br a b c d e f g h i j n
  | _, _ => .fail
theorem setA_ok : Sound Kx 45 setA_s := by
  refine sound_run (C := noS) (O := setA_O) KOk (sound_no Kx) Tryz.func45 (by kernel_rfl) fun args objs res os h => ?_
  unfold setA_s at h
  split at h
  · exact ⟨1, (setA_run _ _ _ _ _ _ _ _ _ _ _).trans h⟩
  · cases h

/-! impl.ReadDirs$1 -/
def setB_O : Opt := { cons := [], keepNil := false, mutF := [], live := [], outs := [] }
def setB_br (a b c d e f : Bool) (g h i j n : Int) : Br := (Br.ite (decide (h < (0 : Int))) (Br.ret (AV.tup ([] : (List (AV)))) ((Ob.var ((AV.bool a) :: ((AV.bool b) :: ((AV.bool c) :: ((AV.bool d) :: ((AV.bool e) :: ((AV.bool f) :: ((AV.int .i64 g) :: ((AV.int .i64 n) :: ((AV.int .i64 i) :: ((AV.int .i64 j) :: ([] : (List (AV)))))))))))))) :: ([] : (List (Ob))))) (Br.ret (AV.tup ([] : (List (AV)))) ((Ob.var ((AV.bool a) :: ((AV.bool b) :: ((AV.bool c) :: ((AV.bool d) :: ((AV.bool e) :: ((AV.bool f) :: ((AV.int .i64 g) :: ((AV.int .i64 h) :: ((AV.int .i64 i) :: ((AV.int .i64 j) :: ([] : (List (AV)))))))))))))) :: ([] : (List (Ob))))))
theorem setB_run (a b c d e f : Bool) (g h i j n : Int) : runF Kx noS setB_O 1 Tryz.f45 ([.ptr 0 7, .int .i64 n]) ([.var [.bool a, .bool b, .bool c, .bool d, .bool e, .bool f, .int .i64 g, .int .i64 h, .int .i64 i, .int .i64 j]]) = (setB_br a b c d e f g h i j n).val := by kernel_rfl
def setB_s : List AV → List Ob → Br
  | [.ptr 0 7, .int .i64 n], [.var [.bool a, .bool b, .bool c, .bool d, .bool e, .bool f, .int .i64 g, .int .i64 h, .int .i64 i, .int .i64 j]] => setB_br a b c d e f g h i j n
  | _, _ => .fail
theorem setB_ok : Sound Kx 45 setB_s := by
  refine sound_run (C := noS) (O := setB_O) KOk (sound_no Kx) Tryz.func45 (by kernel_rfl) fun args objs res os h => ?_
  unfold setB_s at h
  split at h
  · exact ⟨1, (setB_run _ _ _ _ _ _ _ _ _ _ _).trans h⟩
  · cases h

/-! impl.ReadDirs$1 -/
def setC_O : Opt := { cons := [], keepNil := false, mutF := [], live := [], outs := [] }
def setC_br (a b c d e f : Bool) (g h i j n : Int) : Br := (Br.ite (decide (i < (0 : Int))) (Br.ret (AV.tup ([] : (List (AV)))) ((Ob.var ((AV.bool a) :: ((AV.bool b) :: ((AV.bool c) :: ((AV.bool d) :: ((AV.bool e) :: ((AV.bool f) :: ((AV.int .i64 g) :: ((AV.int .i64 h) :: ((AV.int .i64 n) :: ((AV.int .i64 j) :: ([] : (List (AV)))))))))))))) :: ([] : (List (Ob))))) (Br.ret (AV.tup ([] : (List (AV)))) ((Ob.var ((AV.bool a) :: ((AV.bool b) :: ((AV.bool c) :: ((AV.bool d) :: ((AV.bool e) :: ((AV.bool f) :: ((AV.int .i64 g) :: ((AV.int .i64 h) :: ((AV.int .i64 i) :: ((AV.int .i64 j) :: ([] : (List (AV)))))))))))))) :: ([] : (List (Ob))))))
theorem setC_run (a b c d e f : Bool) (g h i j n : Int) : runF Kx noS setC_O 1 Tryz.f45 ([.ptr 0 8, .int .i64 n]) ([.var [.bool a, .bool b, .bool c, .bool d, .bool e, .bool f, .int .i64 g, .int .i64 h, .int .i64 i, .int .i64 j]]) = (setC_br a b c d e f g h i j n).val := by kernel_rfl
def setC_s : List AV → List Ob → Br
  | [.ptr 0 8, .int .i64 n], [.var [.bool a, .bool b, .bool c, .bool d, .bool e, .bool f, .int .i64 g, .int .i64 h, .int .i64 i, .int .i64 j]] => setC_br a b c d e f g h i j n
  | _, _ => .fail
theorem setC_ok : Sound Kx 45 setC_s := by
  refine sound_run (C := noS) (O := setC_O) KOk (sound_no Kx) Tryz.func45 (by kernel_rfl) fun args objs res os h => ?_
  unfold setC_s at h
  split at h
  · exact ⟨1, (setC_run _ _ _ _ _ _ _ _ _ _ _).trans h⟩
  · cases h

/-! impl.ReadDirs$1 -/
def setD_O : Opt := { cons := [], keepNil := false, mutF := [], live := [], outs := [] }
def setD_br (a b c d e f : Bool) (g h i j n : Int) : Br := (Br.ite (decide (j < (0 : Int))) (Br.ret (AV.tup ([] : (List (AV)))) ((Ob.var ((AV.bool a) :: ((AV.bool b) :: ((AV.bool c) :: ((AV.bool d) :: ((AV.bool e) :: ((AV.bool f) :: ((AV.int .i64 g) :: ((AV.int .i64 h) :: ((AV.int .i64 i) :: ((AV.int .i64 n) :: ([] : (List (AV)))))))))))))) :: ([] : (List (Ob))))) (Br.ret (AV.tup ([] : (List (AV)))) ((Ob.var ((AV.bool a) :: ((AV.bool b) :: ((AV.bool c) :: ((AV.bool d) :: ((AV.bool e) :: ((AV.bool f) :: ((AV.int .i64 g) :: ((AV.int .i64 h) :: ((AV.int .i64 i) :: ((AV.int .i64 j) :: ([] : (List (AV)))))))))))))) :: ([] : (List (Ob))))))
theorem setD_run (a b c d e f : Bool) (g h i j n : Int) : runF Kx noS setD_O 1 Tryz.f45 ([.ptr 0 9, .int .i64 n]) ([.var [.bool a, .bool b, .bool c, .bool d, .bool e, .bool f, .int .i64 g, .int .i64 h, .int .i64 i, .int .i64 j]]) = (setD_br a b c d e f g h i j n).val := by kernel_rfl
def setD_s : List AV → List Ob → Br
  | [.ptr 0 9, .int .i64 n], [.var [.bool a, .bool b, .bool c, .bool d, .bool e, .bool f, .int .i64 g, .int .i64 h, .int .i64 i, .int .i64 j]] => setD_br a b c d e f g h i j n
  | _, _ => .fail
theorem setD_ok : Sound Kx 45 setD_s := by
  refine sound_run (C := noS) (O := setD_O) KOk (sound_no Kx) Tryz.func45 (by kernel_rfl) fun args objs res os h => ?_
  unfold setD_s at h
  split at h
  · exact ⟨1, (setD_run _ _ _ _ _ _ _ _ _ _ _).trans h⟩
  · cases h

/-! spec.Guessed -/
def sGuessed_O : Opt := { cons := [], keepNil := false, mutF := [], live := [], outs := [] }
def sGuessed_br (n : Int) : Br := (Br.ite (decide (n = (200 : Int))) (Br.ret (AV.bool true) ([] : (List (Ob)))) (Br.ite (decide (n = (203 : Int))) (Br.ret (AV.bool true) ([] : (List (Ob)))) (Br.ite (decide (n = (204 : Int))) (Br.ret (AV.bool true) ([] : (List (Ob)))) (Br.ite (decide (n = (300 : Int))) (Br.ret (AV.bool true) ([] : (List (Ob)))) (Br.ite (decide (n = (301 : Int))) (Br.ret (AV.bool true) ([] : (List (Ob)))) (Br.ite (decide (n = (308 : Int))) (Br.ret (AV.bool true) ([] : (List (Ob)))) (Br.ite (decide (n = (404 : Int))) (Br.ret (AV.bool true) ([] : (List (Ob)))) (Br.ite (decide (n = (405 : Int))) (Br.ret (AV.bool true) ([] : (List (Ob)))) (Br.ite (decide (n = (410 : Int))) (Br.ret (AV.bool true) ([] : (List (Ob)))) (Br.ite (decide (n = (414 : Int))) (Br.ret (AV.bool true) ([] : (List (Ob)))) (Br.ite (decide (n = (501 : Int))) (Br.ret (AV.bool true) ([] : (List (Ob)))) (Br.ret (AV.bool false) ([] : (List (Ob)))))))))))))))
theorem sGuessed_run (n : Int) : runF Kx noS sGuessed_O 1 Tryz.f15 ([.int .i64 n]) ([]) = (sGuessed_br n).val := by kernel_rfl
def sGuessed_s : List AV → List Ob → Br
  | [.int .i64 n], [] => sGuessed_br n
  | _, _ => .fail
theorem sGuessed_ok : Sound Kx 15 sGuessed_s := by
  refine sound_run (C := noS) (O := sGuessed_O) KOk (sound_no Kx) Tryz.func15 (by kernel_rfl) fun args objs res os h => ?_
  unfold sGuessed_s at h
  split at h
  · exact ⟨1, (sGuessed_run _).trans h⟩
  · cases h

/-! slices.Index[[]int,int] -/
def hasI_O : Opt := { cons := [], keepNil := false, mutF := [], live := [(2, [0, 1, 7, 8])], outs := [(2, [4])] }
def hasI_T2 (v2x0 : (List Int)) (v2x1 : Int) (v2x2 : Int) (v2x3 : Int) (kR2 : (List Int) → Int → Int → Int → Option Rs) (k2e0 : Int → Option Rs) (k2e1 : Option Rs) : Option Rs :=
  (bif (decide (v2x3 < v2x2)) then (bif (decide ((0 : Int) ≤ v2x3)) then (bif (decide (v2x3 < ((List.length v2x0) : Int))) then (bif (decide (v2x1 = (List.getD v2x0 (Int.toNat v2x3) (0 : Int)))) then (k2e0 v2x3) else (kR2 v2x0 v2x1 v2x2 (wk64 (v2x3 + (1 : Int))))) else (none)) else (none)) else k2e1)
def hasI_F2 : Nat → (List Int) → Int → Int → Int → (Int → Option Rs) → (Option Rs) → Option Rs
  | 0, _, _, _, _, _, _ => none
  | n + 1, v2x0, v2x1, v2x2, v2x3, k2e0, k2e1 => hasI_T2 v2x0 v2x1 v2x2 v2x3 (fun v2x0 v2x1 v2x2 v2x3 => hasI_F2 n v2x0 v2x1 v2x2 v2x3 k2e0 k2e1) k2e0 k2e1
def hasI_h2 (v2x0 : (List Int)) (v2x1 : Int) (v2x2 : Int) (v2x3 : Int) : St := (St.mk (slots 0 19 [(0, (AV.sh (Ty.int .i64) v2x0)), (1, (AV.int .i64 v2x1)), (7, (AV.int .i64 v2x2)), (8, (AV.int .i64 v2x3))]) ([] : (List (Nat × (Ob)))))
def hasI_x2e0 (x2x0x0 : Int) : St := (St.mk (slots 0 19 [(4, (AV.int .i64 x2x0x0))]) ([] : (List (Nat × (Ob)))))
def hasI_x2e1  : St := (St.mk (slots 0 19 []) ([] : (List (Nat × (Ob)))))
noncomputable def hasI_b2 : Code := codeAt (codeOf Tryz.f90) [1, 0, 1, 0, 0]
def hasI_L2 (N : Nat) (st : St) (k : Ex → St → Option Rs) : Option Rs := match takeF [0, 1, 7, 8] 0 19 st.env, st.objs with
  | some [.sh (Ty.int .i64) v2x0, .int .i64 v2x1, .int .i64 v2x2, .int .i64 v2x3], [] => hasI_F2 N v2x0 v2x1 v2x2 v2x3 (fun x2x0x0 => k Ex.ret (hasI_x2e0 x2x0x0)) (k (Ex.exit (0 : Nat)) (hasI_x2e1))
  | _, _ => none
def hasI_L (N : Nat) : Lam := fun j st k => match j with
  | 2 => hasI_L2 N st k
  | _ => none
theorem hasI_round2 (N : Nat) (again : St → Option Rs) (k : Ex → St → Option Rs) (wv2x0 : (List Int)) (wv2x1 : Int) (wv2x2 : Int) (wv2x3 : Int) (v2x0 : (List Int)) (v2x1 : Int) (v2x2 : Int) (v2x3 : Int) :
    roundK 0 (fun st k => evL Kx noS hasI_O 0 (hasI_L N) hasI_b2 st k) (hasI_h2 wv2x0 wv2x1 wv2x2 wv2x3).env again (hasI_h2 v2x0 v2x1 v2x2 v2x3) (outK hasI_O 0 hasI_b2 k) = hasI_T2 v2x0 v2x1 v2x2 v2x3 (fun v2x0 v2x1 v2x2 v2x3 => again (hasI_h2 v2x0 v2x1 v2x2 v2x3)) (fun x2x0x0 => k Ex.ret (hasI_x2e0 x2x0x0)) (k (Ex.exit (0 : Nat)) (hasI_x2e1)) := by kernel_rfl
theorem hasI_loop2 (N : Nat) (k : Ex → St → Option Rs) (wv2x0 : (List Int)) (wv2x1 : Int) (wv2x2 : Int) (wv2x3 : Int) : ∀ (n : Nat) (v2x0 : (List Int)) (v2x1 : Int) (v2x2 : Int) (v2x3 : Int),
    loopK 0 (fun st k => evL Kx noS hasI_O 0 (hasI_L N) hasI_b2 st k) (hasI_h2 wv2x0 wv2x1 wv2x2 wv2x3).env n (hasI_h2 v2x0 v2x1 v2x2 v2x3) (outK hasI_O 0 hasI_b2 k) = hasI_F2 n v2x0 v2x1 v2x2 v2x3 (fun x2x0x0 => k Ex.ret (hasI_x2e0 x2x0x0)) (k (Ex.exit (0 : Nat)) (hasI_x2e1))
  | 0, _, _, _, _ => rfl
  | n + 1, v2x0, v2x1, v2x2, v2x3 => by
    rw [loopK_succ, hasI_round2]
    simp only [hasI_loop2 N k wv2x0 wv2x1 wv2x2 wv2x3 n]
    rfl
theorem hasI_at2 (N : Nat) {s : St} {k : Ex → St → Option Rs} {r : Rs} (h : hasI_L2 N s k = some r) : ∃ (v2x0 : (List Int)) (v2x1 : Int) (v2x2 : Int) (v2x3 : Int), s = (hasI_h2 v2x0 v2x1 v2x2 v2x3) ∧ hasI_F2 N v2x0 v2x1 v2x2 v2x3 (fun x2x0x0 => k Ex.ret (hasI_x2e0 x2x0x0)) (k (Ex.exit (0 : Nat)) (hasI_x2e1)) = some r := by
  cases s with | mk env objs =>
  unfold hasI_L2 at h
  split at h
  · rename_i e1 e2
    have e3 := takeF_slots _ _ _ _ e1
    simp only at e2 e3
    subst e2 e3
    exact ⟨_, _, _, _, rfl, h⟩
  · cases h
theorem hasI_in2 : loops hasI_b2 = [] := by kernel_rfl
theorem hasI_lid2 : lid hasI_b2 = 2 := by kernel_rfl
theorem hasI_ok2 (N : Nat) : OkL Kx noS hasI_O 0 N (hasI_L N) hasI_b2 := by
  intro s k k' r hk h
  rw [hasI_lid2] at h
  obtain ⟨v2x0, v2x1, v2x2, v2x3, rfl, h⟩ := hasI_at2 N h
  refine loopL (Λ := hasI_L N) hasI_b2 ?_ N hk ((hasI_loop2 N k v2x0 v2x1 v2x2 v2x3 N v2x0 v2x1 v2x2 v2x3).trans h)
  rw [hasI_in2]
  exact fun _ h => nomatch h
def hasI_run (N : Nat) (l : List Int) (x : Int) : Option Rs := (hasI_F2 N l x ((List.length l) : Int) (0 : Int) (fun x2x0x0 => (some ((AV.int .i64 x2x0x0), ([] : (List (Ob)))))) (some ((AV.int .i64 (-(1 : Int))), ([] : (List (Ob))))))
theorem hasI_runL (N : Nat) (l : List Int) (x : Int) : runL Kx noS hasI_O (hasI_L N) Tryz.f90 ([.sh (.int .i64) l, .int .i64 x]) ([]) = hasI_run N l x := by kernel_rfl
theorem hasI_body : Tryz.f90.body = some (codeOf Tryz.f90) := by kernel_rfl
theorem hasI_loops : loops (codeOf Tryz.f90) = [hasI_b2] := by kernel_rfl
theorem hasI_ev (N : Nat) (l : List Int) (x : Int) {res_ : Rs} (hyp_ : hasI_run N l x = some res_) : ∃ n_, runF Kx noS hasI_O n_ Tryz.f90 ([.sh (.int .i64) l, .int .i64 x]) ([]) = some res_ :=
  ⟨N, runL_runF hasI_body (by rw [hasI_loops]; exact List.forall_mem_cons.2 ⟨hasI_ok2 N, fun _ h => nomatch h⟩) ((hasI_runL N l x).trans hyp_)⟩
def hasI_sOf (φ : (List Int) → Int → Br) : List AV → List Ob → Br
  | [.sh (.int .i64) l, .int .i64 x], [] => φ l x
  | _, _ => .fail
theorem hasI_okOf {φ : (List Int) → Int → Br} (fu : (List Int) → Int → Nat) (hv : ∀ l x res_, (φ l x).val = some res_ → hasI_run (fu l x) l x = some res_) : Sound Kx 90 (hasI_sOf φ) := by
  refine sound_run (C := noS) (O := hasI_O) KOk (sound_no Kx) Tryz.func90 (by kernel_rfl) fun args objs res os h => ?_
  unfold hasI_sOf at h
  split at h
  · exact hasI_ev _ _ _ (hv _ _ _ h)
  · cases h

/-! slices.Index[[]string,string] -/
def hasS_O : Opt := { cons := [], keepNil := false, mutF := [], live := [(2, [0, 1, 7, 8])], outs := [(2, [4])] }
def hasS_T2 (v2x0 : (List (List UInt8))) (v2x1 : (List UInt8)) (v2x2 : Int) (v2x3 : Int) (kR2 : (List (List UInt8)) → (List UInt8) → Int → Int → Option Rs) (k2e0 : Int → Option Rs) (k2e1 : Option Rs) : Option Rs :=
  (bif (decide (v2x3 < v2x2)) then (bif (decide ((0 : Int) ≤ v2x3)) then (bif (decide (v2x3 < ((List.length v2x0) : Int))) then (bif (decide (v2x1 = (List.getD v2x0 (Int.toNat v2x3) ([] : (List UInt8))))) then (k2e0 v2x3) else (kR2 v2x0 v2x1 v2x2 (wk64 (v2x3 + (1 : Int))))) else (none)) else (none)) else k2e1)
def hasS_F2 : Nat → (List (List UInt8)) → (List UInt8) → Int → Int → (Int → Option Rs) → (Option Rs) → Option Rs
  | 0, _, _, _, _, _, _ => none
  | n + 1, v2x0, v2x1, v2x2, v2x3, k2e0, k2e1 => hasS_T2 v2x0 v2x1 v2x2 v2x3 (fun v2x0 v2x1 v2x2 v2x3 => hasS_F2 n v2x0 v2x1 v2x2 v2x3 k2e0 k2e1) k2e0 k2e1
def hasS_h2 (v2x0 : (List (List UInt8))) (v2x1 : (List UInt8)) (v2x2 : Int) (v2x3 : Int) : St := (St.mk (slots 0 19 [(0, (AV.sh Ty.str v2x0)), (1, (AV.str v2x1)), (7, (AV.int .i64 v2x2)), (8, (AV.int .i64 v2x3))]) ([] : (List (Nat × (Ob)))))
def hasS_x2e0 (x2x0x0 : Int) : St := (St.mk (slots 0 19 [(4, (AV.int .i64 x2x0x0))]) ([] : (List (Nat × (Ob)))))
def hasS_x2e1  : St := (St.mk (slots 0 19 []) ([] : (List (Nat × (Ob)))))
noncomputable def hasS_b2 : Code := codeAt (codeOf Tryz.f52) [1, 0, 1, 0, 0]
def hasS_L2 (N : Nat) (st : St) (k : Ex → St → Option Rs) : Option Rs := match takeF [0, 1, 7, 8] 0 19 st.env, st.objs with
  | some [.sh Ty.str v2x0, .str v2x1, .int .i64 v2x2, .int .i64 v2x3], [] => hasS_F2 N v2x0 v2x1 v2x2 v2x3 (fun x2x0x0 => k Ex.ret (hasS_x2e0 x2x0x0)) (k (Ex.exit (0 : Nat)) (hasS_x2e1))
  | _, _ => none
def hasS_L (N : Nat) : Lam := fun j st k => match j with
  | 2 => hasS_L2 N st k
  | _ => none
theorem hasS_round2 (N : Nat) (again : St → Option Rs) (k : Ex → St → Option Rs) (wv2x0 : (List (List UInt8))) (wv2x1 : (List UInt8)) (wv2x2 : Int) (wv2x3 : Int) (v2x0 : (List (List UInt8))) (v2x1 : (List UInt8)) (v2x2 : Int) (v2x3 : Int) :
    roundK 0 (fun st k => evL Kx noS hasS_O 0 (hasS_L N) hasS_b2 st k) (hasS_h2 wv2x0 wv2x1 wv2x2 wv2x3).env again (hasS_h2 v2x0 v2x1 v2x2 v2x3) (outK hasS_O 0 hasS_b2 k) = hasS_T2 v2x0 v2x1 v2x2 v2x3 (fun v2x0 v2x1 v2x2 v2x3 => again (hasS_h2 v2x0 v2x1 v2x2 v2x3)) (fun x2x0x0 => k Ex.ret (hasS_x2e0 x2x0x0)) (k (Ex.exit (0 : Nat)) (hasS_x2e1)) := by kernel_rfl
theorem hasS_loop2 (N : Nat) (k : Ex → St → Option Rs) (wv2x0 : (List (List UInt8))) (wv2x1 : (List UInt8)) (wv2x2 : Int) (wv2x3 : Int) : ∀ (n : Nat) (v2x0 : (List (List UInt8))) (v2x1 : (List UInt8)) (v2x2 : Int) (v2x3 : Int),
    loopK 0 (fun st k => evL Kx noS hasS_O 0 (hasS_L N) hasS_b2 st k) (hasS_h2 wv2x0 wv2x1 wv2x2 wv2x3).env n (hasS_h2 v2x0 v2x1 v2x2 v2x3) (outK hasS_O 0 hasS_b2 k) = hasS_F2 n v2x0 v2x1 v2x2 v2x3 (fun x2x0x0 => k Ex.ret (hasS_x2e0 x2x0x0)) (k (Ex.exit (0 : Nat)) (hasS_x2e1))
  | 0, _, _, _, _ => rfl
  | n + 1, v2x0, v2x1, v2x2, v2x3 => by
    rw [loopK_succ, hasS_round2]
    simp only [hasS_loop2 N k wv2x0 wv2x1 wv2x2 wv2x3 n]
    rfl
theorem hasS_at2 (N : Nat) {s : St} {k : Ex → St → Option Rs} {r : Rs} (h : hasS_L2 N s k = some r) : ∃ (v2x0 : (List (List UInt8))) (v2x1 : (List UInt8)) (v2x2 : Int) (v2x3 : Int), s = (hasS_h2 v2x0 v2x1 v2x2 v2x3) ∧ hasS_F2 N v2x0 v2x1 v2x2 v2x3 (fun x2x0x0 => k Ex.ret (hasS_x2e0 x2x0x0)) (k (Ex.exit (0 : Nat)) (hasS_x2e1)) = some r := by
  cases s with | mk env objs =>
  unfold hasS_L2 at h
  split at h
  · rename_i e1 e2
    have e3 := takeF_slots _ _ _ _ e1
    simp only at e2 e3
    subst e2 e3
    exact ⟨_, _, _, _, rfl, h⟩
  · cases h
theorem hasS_in2 : loops hasS_b2 = [] := by kernel_rfl
theorem hasS_lid2 : lid hasS_b2 = 2 := by kernel_rfl
theorem hasS_ok2 (N : Nat) : OkL Kx noS hasS_O 0 N (hasS_L N) hasS_b2 := by
  intro s k k' r hk h
  rw [hasS_lid2] at h
  obtain ⟨v2x0, v2x1, v2x2, v2x3, rfl, h⟩ := hasS_at2 N h
  refine loopL (Λ := hasS_L N) hasS_b2 ?_ N hk ((hasS_loop2 N k v2x0 v2x1 v2x2 v2x3 N v2x0 v2x1 v2x2 v2x3).trans h)
  rw [hasS_in2]
  exact fun _ h => nomatch h
def hasS_run (N : Nat) (l : List Bytes) (x : Bytes) : Option Rs := (hasS_F2 N l x ((List.length l) : Int) (0 : Int) (fun x2x0x0 => (some ((AV.int .i64 x2x0x0), ([] : (List (Ob)))))) (some ((AV.int .i64 (-(1 : Int))), ([] : (List (Ob))))))
theorem hasS_runL (N : Nat) (l : List Bytes) (x : Bytes) : runL Kx noS hasS_O (hasS_L N) Tryz.f52 ([.sh .str l, .str x]) ([]) = hasS_run N l x := by kernel_rfl
theorem hasS_body : Tryz.f52.body = some (codeOf Tryz.f52) := by kernel_rfl
theorem hasS_loops : loops (codeOf Tryz.f52) = [hasS_b2] := by kernel_rfl
theorem hasS_ev (N : Nat) (l : List Bytes) (x : Bytes) {res_ : Rs} (hyp_ : hasS_run N l x = some res_) : ∃ n_, runF Kx noS hasS_O n_ Tryz.f52 ([.sh .str l, .str x]) ([]) = some res_ :=
  ⟨N, runL_runF hasS_body (by rw [hasS_loops]; exact List.forall_mem_cons.2 ⟨hasS_ok2 N, fun _ h => nomatch h⟩) ((hasS_runL N l x).trans hyp_)⟩
def hasS_sOf (φ : (List Bytes) → Bytes → Br) : List AV → List Ob → Br
  | [.sh .str l, .str x], [] => φ l x
  | _, _ => .fail
theorem hasS_okOf {φ : (List Bytes) → Bytes → Br} (fu : (List Bytes) → Bytes → Nat) (hv : ∀ l x res_, (φ l x).val = some res_ → hasS_run (fu l x) l x = some res_) : Sound Kx 52 (hasS_sOf φ) := by
  refine sound_run (C := noS) (O := hasS_O) KOk (sound_no Kx) Tryz.func52 (by kernel_rfl) fun args objs res os h => ?_
  unfold hasS_sOf at h
  split at h
  · exact hasS_ev _ _ _ (hv _ _ _ h)
  · cases h

end
end Go.Proofs.YtdlpacieajdgoaaGreatDoor.Ev

namespace Go.Proofs.YtdlpacieajdgoaaGreatDoor.Ev
open Go Go.RowKit
set_option linter.unusedVariables false
set_option linter.unusedSimpArgs false
noncomputable section

theorem allDig_loop (l : Bytes) (hl : l.length ≤ 4611686018427387904) (k0 k1 : Option Rs) : ∀ (r : Bytes) (i : Int) (n : Nat), At l i r → r.length < n → allDig_F2 n l i k0 k1 = bif allP isDig r then k1 else k0 := by
  intro r; induction r with
  | nil => intro i n h hn; obtain ⟨n, rfl⟩ := fuel hn; unfold allDig_F2 allDig_T2; simp only [h.dge, cond_false]; rfl
  | cons a r ih =>
    intro i n h hn; obtain ⟨n, rfl⟩ := fuel hn
    have hs := ih (i + 1) n h.step (by simp at hn; omega)
    unfold allDig_F2 allDig_T2
    simp only [h.dlt, h.dnn, h.str, cond_true, h.next hl, hs]
    unfold allP; rw [List.all_cons]
    cases isDig (by8 a) <;> rfl
def allDig_s : List AV → List Ob → Br := allDig_sOf fun s => .ite (isM s) (.ret (.bool (allP isDig s)) []) .fail
theorem allDig_okQ : Sound Kx 74 allDig_s := by
  refine allDig_okOf (fun s => s.length + 1) fun s r h => ?_
  obtain ⟨h1, h2⟩ := ite_some h
  unfold allDig_run
  rw [allDig_loop s (isM_le h1) _ _ s 0 _ (At.start s) (by omega), ← h2]
  cases allP isDig s <;> rfl

/-! a number of seconds -/
def clampD (n : Int) (c : UInt8) : Int := bif decide (2147483648 < n * 10 + (by8 c - 48)) then 2147483648 else n * 10 + (by8 c - 48)
def deltaN (r : Bytes) (n : Int) : Int := r.foldl clampD n
def deltaP (s : Bytes) : Int × Bool := bif decide (s = []) then (0, false) else bif allP isDig s then (deltaN s 0, true) else (0, false)
theorem dig_le {c : UInt8} (h : isDig (by8 c) = true) : 48 ≤ by8 c ∧ by8 c ≤ 57 := by
  unfold isDig at h; rw [Bool.and_eq_true, decide_eq_true_eq, decide_eq_true_eq] at h; exact h
theorem clamp_bd {n : Int} {c : UInt8} (h0 : 0 ≤ n) (h1 : n ≤ 2147483648) (hc : isDig (by8 c) = true) : 0 ≤ clampD n c ∧ clampD n c ≤ 2147483648 := by
  have := dig_le hc
  unfold clampD
  cases h : decide (2147483648 < n * 10 + (by8 c - 48))
  · have := of_decide_eq_false h; rw [cond_false]; omega
  · rw [cond_true]; omega
theorem sDelta_loop (s : Bytes) (hl : s.length ≤ 4611686018427387904) (k0 k1 : Int → Option Rs) (K0 : Option Rs) (hk : ∀ x, k0 x = K0) : ∀ (r : Bytes) (v i : Int) (n : Nat), At s i r → r.length < n → 0 ≤ v → v ≤ 2147483648 →
    sDelta_F5 n s v i k0 k1 = bif allP isDig r then k1 (deltaN r v) else K0 := by
  intro r; induction r with
  | nil => intro v i n h hn h0 h1; obtain ⟨n, rfl⟩ := fuel hn; unfold sDelta_F5 sDelta_T5; simp only [h.dge, cond_false]; rfl
  | cons a r ih =>
    intro v i n h hn h0 h1; obtain ⟨n, rfl⟩ := fuel hn
    simp only [List.length_cons] at hn
    have hs := fun v h0 h1 => ih v (i + 1) n h.step (by omega) h0 h1
    unfold sDelta_F5 sDelta_T5
    simp only [h.dlt, h.dnn, h.str, cond_true, h.next hl]
    have hall : allP isDig (a :: r) = (isDig (by8 a) && allP isDig r) := rfl
    rw [hall]
    cases hd : isDig (by8 a)
    · simp only [Bool.not_false, cond_true, hk, Bool.false_and, cond_false]
    · have hb := dig_le hd
      have hc := clamp_bd h0 h1 hd
      have e1 : wk8 (by8 a - 48) = by8 a - 48 := w8 (by omega) (by omega)
      have e2 : wk64 (by8 a - 48) = by8 a - 48 := w64 (by omega) (by omega)
      have e3 : wk64 (v * 10) = v * 10 := w64 (by omega) (by omega)
      have e4 : wk64 (v * 10 + (by8 a - 48)) = v * 10 + (by8 a - 48) := w64 (by omega) (by omega)
      simp only [e1, e2, e3, e4, Bool.not_true, cond_false, Bool.true_and]
      show _ = bif allP isDig r then k1 (deltaN r (clampD v a)) else K0
      rw [← hs _ hc.1 hc.2]
      unfold clampD
      cases decide (2147483648 < v * 10 + (by8 a - 48)) <;> rfl
def de_s : List AV → List Ob → Br
  | [.str s], [] => .ite (isM s) (.ret (.tup [.int .i64 (deltaP s).1, .bool (deltaP s).2]) []) .fail
  | _, _ => .fail
theorem sDelta_okQ : Sound Kx 68 de_s := by
  refine (sDelta_okOf (φ := fun s => .ite (isM s) (.ret (.tup [.int .i64 (deltaP s).1, .bool (deltaP s).2]) []) .fail) (fun s => s.length + 1) fun s r h => ?_).of fun args objs r h => ?_
  · obtain ⟨h1, h2⟩ := ite_some h
    cases h2
    unfold sDelta_run deltaP
    cases c : decide (s = [])
    · simp only [cond_false]
      rw [sDelta_loop s (isM_le h1) _ _ (some (.tup [.int .i64 0, .bool false], [])) (fun _ => rfl) s 0 0 _ (At.start s) (by omega) (by omega) (by omega)]
      cases allP isDig s <;> rfl
    · rfl
  · unfold de_s at h; split at h
    · exact h
    · cases h

/-! the closure that sets a number once -/
def set1 (x n : Int) : Int := bif decide (x < 0) then n else x
def set_s : List AV → List Ob → Br
  | [.ptr 0 6, .int .i64 n], [.var [.bool a, .bool b, .bool c, .bool d, .bool e, .bool f, .int .i64 g, .int .i64 h, .int .i64 i, .int .i64 j]] => .ret (.tup []) [.var [.bool a, .bool b, .bool c, .bool d, .bool e, .bool f, .int .i64 (set1 g n), .int .i64 h, .int .i64 i, .int .i64 j]]
  | [.ptr 0 7, .int .i64 n], [.var [.bool a, .bool b, .bool c, .bool d, .bool e, .bool f, .int .i64 g, .int .i64 h, .int .i64 i, .int .i64 j]] => .ret (.tup []) [.var [.bool a, .bool b, .bool c, .bool d, .bool e, .bool f, .int .i64 g, .int .i64 (set1 h n), .int .i64 i, .int .i64 j]]
  | [.ptr 0 8, .int .i64 n], [.var [.bool a, .bool b, .bool c, .bool d, .bool e, .bool f, .int .i64 g, .int .i64 h, .int .i64 i, .int .i64 j]] => .ret (.tup []) [.var [.bool a, .bool b, .bool c, .bool d, .bool e, .bool f, .int .i64 g, .int .i64 h, .int .i64 (set1 i n), .int .i64 j]]
  | [.ptr 0 9, .int .i64 n], [.var [.bool a, .bool b, .bool c, .bool d, .bool e, .bool f, .int .i64 g, .int .i64 h, .int .i64 i, .int .i64 j]] => .ret (.tup []) [.var [.bool a, .bool b, .bool c, .bool d, .bool e, .bool f, .int .i64 g, .int .i64 h, .int .i64 i, .int .i64 (set1 j n)]]
  | _, _ => .fail
theorem set_okQ : Sound Kx 45 set_s := by
  intro args objs res objs' hv
  unfold set_s at hv
  split at hv
  · cases hv
    refine setA_ok _ _ _ _ ?_
    show (setA_br _ _ _ _ _ _ _ _ _ _ _).val = _
    unfold setA_br set1
    rename_i n a b c d e f g h i j
    cases decide (g < 0) <;> rfl
  · cases hv
    refine setB_ok _ _ _ _ ?_
    show (setB_br _ _ _ _ _ _ _ _ _ _ _).val = _
    unfold setB_br set1
    rename_i n a b c d e f g h i j
    cases decide (h < 0) <;> rfl
  · cases hv
    refine setC_ok _ _ _ _ ?_
    show (setC_br _ _ _ _ _ _ _ _ _ _ _).val = _
    unfold setC_br set1
    rename_i n a b c d e f g h i j
    cases decide (i < 0) <;> rfl
  · cases hv
    refine setD_ok _ _ _ _ ?_
    show (setD_br _ _ _ _ _ _ _ _ _ _ _).val = _
    unfold setD_br set1
    rename_i n a b c d e f g h i j
    cases decide (j < 0) <;> rfl
  · cases hv

/-! lists: where something stands -/
def idxP {α : Type} [DecidableEq α] (x : α) : List α → Int → Int
  | [], _ => -1
  | a :: r, i => bif decide (x = a) then i else idxP x r (i + 1)
theorem hasI_loop (l : List Int) (hl : l.length ≤ 4611686018427387904) (x : Int) (k0 : Int → Option Rs) (k1 : Option Rs) (K : Int → Option Rs) (h0 : ∀ i, k0 i = K i) (h1 : k1 = K (-1)) : ∀ (r : List Int) (i : Int) (n : Nat), At l i r → r.length < n →
    hasI_F2 n l x (l.length : Int) i k0 k1 = K (idxP x r i) := by
  intro r; induction r with
  | nil => intro i n h hn; obtain ⟨n, rfl⟩ := fuel hn; unfold hasI_F2 hasI_T2; simp only [h.dge, cond_false, h1]; rfl
  | cons a r ih =>
    intro i n h hn; obtain ⟨n, rfl⟩ := fuel hn
    have hs := ih (i + 1) n h.step (by simp at hn; omega)
    unfold hasI_F2 hasI_T2
    simp only [h.dlt, h.dnn, h.get, cond_true, h.next hl, hs, h0, idxP]
    cases decide (x = a) <;> rfl
theorem hasS_loop (l : List Bytes) (hl : l.length ≤ 4611686018427387904) (x : Bytes) (k0 : Int → Option Rs) (k1 : Option Rs) (K : Int → Option Rs) (h0 : ∀ i, k0 i = K i) (h1 : k1 = K (-1)) : ∀ (r : List Bytes) (i : Int) (n : Nat), At l i r → r.length < n →
    hasS_F2 n l x (l.length : Int) i k0 k1 = K (idxP x r i) := by
  intro r; induction r with
  | nil => intro i n h hn; obtain ⟨n, rfl⟩ := fuel hn; unfold hasS_F2 hasS_T2; simp only [h.dge, cond_false, h1]; rfl
  | cons a r ih =>
    intro i n h hn; obtain ⟨n, rfl⟩ := fuel hn
    have hs := ih (i + 1) n h.step (by simp at hn; omega)
    unfold hasS_F2 hasS_T2
    simp only [h.dlt, h.dnn, h.get, cond_true, h.next hl, hs, h0, idxP]
    cases decide (x = a) <;> rfl
def ixI_s : List AV → List Ob → Br
  | [.sh (.int .i64) l, .int .i64 x], [] => .ite (decide (l.length ≤ 1000000)) (.ret (.int .i64 (idxP x l 0)) []) .fail
  | _, _ => .fail
theorem hasI_okQ : Sound Kx 90 ixI_s := by
  refine (hasI_okOf (φ := fun l x => .ite (decide (l.length ≤ 1000000)) (.ret (.int .i64 (idxP x l 0)) []) .fail) (fun l _ => l.length + 1) fun l x r h => ?_).of fun args objs r h => ?_
  · obtain ⟨h1, h2⟩ := ite_some h
    cases h2
    rw [decide_eq_true_eq] at h1
    unfold hasI_run
    exact hasI_loop l (by omega) x _ _ (fun i => some (.int .i64 i, [])) (fun _ => rfl) rfl l 0 _ (At.start l) (by omega)
  · unfold ixI_s at h; split at h
    · exact h
    · cases h
def ixS_s : List AV → List Ob → Br
  | [.sh .str l, .str x], [] => .ite (decide (l.length ≤ 1000000)) (.ret (.int .i64 (idxP x l 0)) []) .fail
  | _, _ => .fail
theorem hasS_okQ : Sound Kx 52 ixS_s := by
  refine (hasS_okOf (φ := fun l x => .ite (decide (l.length ≤ 1000000)) (.ret (.int .i64 (idxP x l 0)) []) .fail) (fun l _ => l.length + 1) fun l x r h => ?_).of fun args objs r h => ?_
  · obtain ⟨h1, h2⟩ := ite_some h
    cases h2
    rw [decide_eq_true_eq] at h1
    unfold hasS_run
    exact hasS_loop l (by omega) x _ _ (fun i => some (.int .i64 i, [])) (fun _ => rfl) rfl l 0 _ (At.start l) (by omega)
  · unfold ixS_s at h; split at h
    · exact h
    · cases h
theorem idx_nn {α : Type} [DecidableEq α] (x : α) : ∀ (l : List α) (i : Int), 0 ≤ i → decide (0 ≤ idxP x l i) = l.any fun a => decide (a = x)
  | [], i, h => by rfl
  | a :: r, i, h => by
    unfold idxP
    rw [List.any_cons]
    by_cases c : x = a
    · rw [decide_eq_true c, cond_true, decide_eq_true h, decide_eq_true c.symm]; rfl
    · have c2 : decide (a = x) = false := decide_eq_false fun e => c e.symm
      rw [decide_eq_false c, cond_false, c2, Bool.false_or]
      exact idx_nn x r (i + 1) (by omega)
end
end Go.Proofs.YtdlpacieajdgoaaGreatDoor.Ev

namespace Go.Proofs.YtdlpacieajdgoaaGreatDoor.Ev
open Go Go.RowKit
set_option linter.unusedVariables false
set_option linter.unusedSimpArgs false
noncomputable section

/-- What stands between quotes, the backslashes processed. -/
def unqL : Bytes → Option Bytes
  | [] => some []
  | c :: r => bif decide (by8 c = 34) then none else bif decide (by8 c = 92) then (match r with | [] => none | d :: r' => bif isPl (by8 d) then (unqL r').map (d :: ·) else none)
      else bif isPl (by8 c) then (unqL r).map (c :: ·) else none
theorem unqL_cons (c : UInt8) (r : Bytes) : unqL (c :: r) = bif decide (by8 c = 34) then none else bif decide (by8 c = 92) then (match r with | [] => none | d :: r' => bif isPl (by8 d) then (unqL r').map (d :: ·) else none)
      else bif isPl (by8 c) then (unqL r).map (c :: ·) else none := by cases r <;> rfl
theorem ap8 (out : List Int) (x : Int) (h : out.length ≤ 5000000) : decide ((out.length + (List.set (List.replicate 1 (0 : Int)) 0 x).length) * 1 ≤ 140737488355328) = true := decide_eq_true (by rw [one_set, List.length_singleton]; omega)
theorem bytes_snoc (o : Bytes) (d : UInt8) : bytesOf o ++ [by8 d] = bytesOf (o ++ [d]) := by simp [bytesOf, by8]
theorem bytes_len (o : Bytes) : (bytesOf o).length = o.length := by simp [bytesOf]
def unqK (K0 : Option Rs) (k1 : List Int → Option Rs) (o : Bytes) (x : Option Bytes) : Option Rs := match x with | none => K0 | some t => k1 (bytesOf (o ++ t))
theorem unqK_map (K0 : Option Rs) (k1 : List Int → Option Rs) (o : Bytes) (d : UInt8) (x : Option Bytes) : unqK K0 k1 (o ++ [d]) x = unqK K0 k1 o (x.map (d :: ·)) := by cases x <;> simp [unqK]
theorem iUnquote_loop (s : Bytes) (hl : s.length ≤ 100000) (k0 k1 : List Int → Option Rs) (K0 : Option Rs) (hk : ∀ x, k0 x = K0) : ∀ (n : Nat) (r o : Bytes) (i : Int), At s i r → r.length < n → o.length + r.length ≤ 200000 →
    iUnquote_F6 n s i (bytesOf o) k0 k1 = unqK K0 k1 o (unqL r) := by
  intro n; induction n with
  | zero => intro r o i h hn; omega
  | succ n ih =>
    intro r o i h hn ho
    unfold iUnquote_F6 iUnquote_T6
    cases r with
    | nil => simp only [h.dge, cond_false]; simp [unqK, unqL]
    | cons c r =>
      simp only [List.length_cons] at hn ho
      have hle := h.le
      simp only [List.length_cons] at hle
      have hnn := h.nn
      have hw : wk64 (i + 1) = i + 1 := w64 (by omega) (by omega)
      have hne : decide (i = (s.length : Int)) = false := decide_eq_false (by omega)
      have hap : ∀ x, decide (((bytesOf o).length + (List.set (List.replicate 1 (0 : Int)) 0 x).length) * 1 ≤ 140737488355328) = true := fun x => ap8 _ x (by rw [bytes_len]; omega)
      have h1 : iUnquote_F6 n s (i + 1) (bytesOf (o ++ [c])) k0 k1 = _ := ih r (o ++ [c]) (i + 1) h.step (by omega) (by simp only [List.length_append, List.length_singleton]; omega)
      have hz : (bytesOf o).length ≤ 140737488355327 := by rw [bytes_len]; omega
      rw [unqK_map] at h1
      rw [unqL_cons]
      simp only [h.dlt, h.dnn, h.str, hw, hne, hap, hk, one_set, bytes_snoc, h1, cond_true, cond_false]
      cases decide (by8 c = 34)
      · cases decide (by8 c = 92)
        · simp only [cond_false]
          cases isPl (by8 c) <;> simp [unqK, hz]
        · simp only [cond_true, cond_false]
          cases r with
          | nil =>
            have he : decide (i + 1 = (s.length : Int)) = true := decide_eq_true (by simp only [List.length_nil] at hle; omega)
            simp only [he, cond_true]; simp [unqK]
          | cons d r =>
            simp only [List.length_cons] at hn ho hle
            have hs := h.step
            have he : decide (i + 1 = (s.length : Int)) = false := decide_eq_false (by omega)
            have hw2 : wk64 (i + 1 + 1) = i + 1 + 1 := w64 (by omega) (by omega)
            have h2 : iUnquote_F6 n s (i + 1 + 1) (bytesOf (o ++ [d])) k0 k1 = _ := ih r (o ++ [d]) (i + 1 + 1) hs.step (by omega) (by simp only [List.length_append, List.length_singleton]; omega)
            rw [unqK_map] at h2
            simp only [he, hs.dlt, hs.dnn, hs.str, hw2, hap, one_set, bytes_snoc, h2, cond_true, cond_false]
            cases isPl (by8 d) <;> simp [unqK, hz]
      · simp [unqK]
theorem sUnquote_loop (s : Bytes) (hl : s.length ≤ 100000) (k0 k1 : List Int → Option Rs) (K0 : Option Rs) (hk : ∀ x, k0 x = K0) : ∀ (n : Nat) (r o : Bytes) (i : Int), At s i r → r.length < n → o.length + r.length ≤ 200000 →
    sUnquote_F6 n s i (bytesOf o) k0 k1 = unqK K0 k1 o (unqL r) := by
  intro n; induction n with
  | zero => intro r o i h hn; omega
  | succ n ih =>
    intro r o i h hn ho
    unfold sUnquote_F6 sUnquote_T6
    cases r with
    | nil => simp only [h.dge, cond_false]; simp [unqK, unqL]
    | cons c r =>
      simp only [List.length_cons] at hn ho
      have hle := h.le
      simp only [List.length_cons] at hle
      have hnn := h.nn
      have hw : wk64 (i + 1) = i + 1 := w64 (by omega) (by omega)
      have hap : ∀ x, decide (((bytesOf o).length + (List.set (List.replicate 1 (0 : Int)) 0 x).length) * 1 ≤ 140737488355328) = true := fun x => ap8 _ x (by rw [bytes_len]; omega)
      have h1 : sUnquote_F6 n s (i + 1) (bytesOf (o ++ [c])) k0 k1 = _ := ih r (o ++ [c]) (i + 1) h.step (by omega) (by simp only [List.length_append, List.length_singleton]; omega)
      have hz : (bytesOf o).length ≤ 140737488355327 := by rw [bytes_len]; omega
      rw [unqK_map] at h1
      rw [unqL_cons]
      simp only [h.dlt, h.dnn, h.str, hw, hap, hk, one_set, bytes_snoc, h1, cond_true, cond_false]
      cases c34 : decide (by8 c = 34)
      · cases decide (by8 c = 92)
        · simp only [cond_false]
          cases isPl (by8 c) <;> simp [unqK, hz]
        · simp only [cond_true, cond_false]
          cases r with
          | nil =>
            have he : decide (i + 1 = (s.length : Int)) = true := decide_eq_true (by simp only [List.length_nil] at hle; omega)
            simp only [he, cond_true]; simp [unqK]
          | cons d r =>
            simp only [List.length_cons] at hn ho hle
            have hs := h.step
            have he : decide (i + 1 = (s.length : Int)) = false := decide_eq_false (by omega)
            have hw2 : wk64 (i + 1 + 1) = i + 1 + 1 := w64 (by omega) (by omega)
            have h2 : sUnquote_F6 n s (i + 1 + 1) (bytesOf (o ++ [d])) k0 k1 = _ := ih r (o ++ [d]) (i + 1 + 1) hs.step (by omega) (by simp only [List.length_append, List.length_singleton]; omega)
            rw [unqK_map] at h2
            simp only [he, hs.dlt, hs.dnn, hs.str, hw2, hap, one_set, bytes_snoc, h2, cond_true, cond_false]
            cases isPl (by8 d) <;> simp [unqK, hz]
      · have c92 : decide (by8 c = 92) = false := decide_eq_false (by have := of_decide_eq_true c34; omega)
        simp [unqK, c92]
def unqR (x : Option Bytes) : Bytes × Bool := match x with | some t => (t, true) | none => ([], false)
def unqP (s : Bytes) : Bytes × Bool :=
  bif decide ((s.length : Int) < 2) then ([], false) else bif !decide (strAt s 0 = 34) then ([], false) else bif !decide (strAt s ((s.length : Int) - 1) = 34) then ([], false) else unqR (unqL (Ev.cut s 1 ((s.length : Int) - 1)))
def un_s : List AV → List Ob → Br
  | [.str s], [] => .ite (decide (s.length ≤ 4000)) (.ret (.tup [.str (unqP s).1, .bool (unqP s).2]) []) .fail
  | _, _ => .fail
theorem unqL_len : ∀ (n : Nat) (r t : Bytes), r.length ≤ n → unqL r = some t → t.length ≤ r.length := by
  intro n; induction n with
  | zero =>
    intro r t h e
    obtain rfl : r = [] := List.length_eq_zero_iff.1 (by omega)
    simp only [unqL, Option.some.injEq] at e; subst e; simp
  | succ n ih =>
    intro r t h e
    cases r with
    | nil => simp only [unqL, Option.some.injEq] at e; subst e; simp
    | cons c r =>
      simp only [List.length_cons] at h
      rw [unqL_cons] at e
      cases h1 : decide (by8 c = 34) <;> rw [h1] at e
      · cases h2 : decide (by8 c = 92) <;> rw [h2] at e
        · cases h3 : isPl (by8 c) <;> rw [h3] at e
          · cases e
          · simp only [cond_true, cond_false, Option.map_eq_some_iff] at e
            obtain ⟨u, hu, rfl⟩ := e
            have := ih r u (by omega) hu
            simp only [List.length_cons]; omega
        · cases r with
          | nil => cases e
          | cons d r =>
            simp only [List.length_cons] at h
            simp only [cond_true, cond_false] at e
            cases h3 : isPl (by8 d) <;> rw [h3] at e
            · cases e
            · simp only [cond_true, Option.map_eq_some_iff] at e
              obtain ⟨u, hu, rfl⟩ := e
              have := ih r u (by omega) hu
              simp only [List.length_cons]; omega
      · cases e
theorem cut_len {α : Type} (l : List α) (a b : Int) : (Ev.cut l a b).length ≤ l.length := by
  unfold Ev.cut
  rw [List.length_drop]
  have := List.length_take_le' b.toNat l
  omega
theorem unq_fin (x : Bytes) (hx : x.length ≤ 4000) : unqK (some (.tup [.str [], .bool false], [])) (fun o => bif decide ((4000 : Int) < (o.length : Int)) then some (.tup [.str [], .bool false], []) else some (.tup [.str (ofBytes o), .bool true], [])) [] (unqL x) = some (.tup [.str (unqR (unqL x)).1, .bool (unqR (unqL x)).2], []) := by
  cases h : unqL x with
  | none => rfl
  | some t =>
    have := unqL_len _ x t (Nat.le_refl _) h
    have e : decide ((4000 : Int) < ((bytesOf ([] ++ t)).length : Int)) = false := decide_eq_false (by rw [bytes_len, List.nil_append]; omega)
    simp only [unqK, unqR, e, cond_false]
    rw [List.nil_append, ofBytes_map]
theorem iUnquote_okQ : Sound Kx 49 un_s := by
  refine (iUnquote_okOf (φ := fun s => .ite (decide (s.length ≤ 4000)) (.ret (.tup [.str (unqP s).1, .bool (unqP s).2]) []) .fail) (fun s => s.length + 1) fun s r h => ?_).of fun args objs r h => ?_
  · obtain ⟨h1, h2⟩ := ite_some h
    cases h2
    rw [decide_eq_true_eq] at h1
    unfold iUnquote_run unqP
    cases c : decide ((s.length : Int) < 2)
    · have c' := of_decide_eq_false c
      have hw : wk64 ((s.length : Int) - 1) = (s.length : Int) - 1 := w64 (by omega) (by omega)
      have a1 : decide ((0 : Int) < (s.length : Int)) = true := decide_eq_true (by omega)
      have a2 : decide (0 ≤ (s.length : Int) - 1) = true := decide_eq_true (by omega)
      have a3 : decide ((s.length : Int) - 1 < (s.length : Int)) = true := decide_eq_true (by omega)
      have a4 : decide (1 ≤ (s.length : Int) - 1) = true := decide_eq_true (by omega)
      have a5 : decide ((s.length : Int) - 1 ≤ (s.length : Int)) = true := decide_eq_true (by omega)
      simp only [hw, a1, a2, a3, a4, a5, cond_true, cond_false]
      cases decide (strAt s 0 = 34)
      · rfl
      · cases decide (strAt s ((s.length : Int) - 1) = 34)
        · rfl
        · have hcl := cut_len s 1 ((s.length : Int) - 1)
          simp only [Bool.not_true, cond_false]
          exact (iUnquote_loop (Ev.cut s 1 ((s.length : Int) - 1)) (by omega) _ _ _ (fun _ => rfl) (s.length + 1) (Ev.cut s 1 ((s.length : Int) - 1)) [] 0 (At.start _) (by omega) (by simp only [List.length_nil]; omega)).trans (unq_fin _ (by omega))
    · rfl
  · unfold un_s at h; split at h
    · exact h
    · cases h
theorem sUnquote_okQ : Sound Kx 118 un_s := by
  refine (sUnquote_okOf (φ := fun s => .ite (decide (s.length ≤ 4000)) (.ret (.tup [.str (unqP s).1, .bool (unqP s).2]) []) .fail) (fun s => s.length + 1) fun s r h => ?_).of fun args objs r h => ?_
  · obtain ⟨h1, h2⟩ := ite_some h
    cases h2
    rw [decide_eq_true_eq] at h1
    unfold sUnquote_run unqP
    cases c : decide ((s.length : Int) < 2)
    · have c' := of_decide_eq_false c
      have hw : wk64 ((s.length : Int) - 1) = (s.length : Int) - 1 := w64 (by omega) (by omega)
      have a0 : decide ((8002 : Int) < (s.length : Int)) = false := decide_eq_false (by omega)
      have a1 : decide ((0 : Int) < (s.length : Int)) = true := decide_eq_true (by omega)
      have a2 : decide (0 ≤ (s.length : Int) - 1) = true := decide_eq_true (by omega)
      have a3 : decide ((s.length : Int) - 1 < (s.length : Int)) = true := decide_eq_true (by omega)
      have a4 : decide (1 ≤ (s.length : Int) - 1) = true := decide_eq_true (by omega)
      have a5 : decide ((s.length : Int) - 1 ≤ (s.length : Int)) = true := decide_eq_true (by omega)
      simp only [hw, a0, a1, a2, a3, a4, a5, cond_true, cond_false]
      cases decide (strAt s 0 = 34)
      · rfl
      · cases decide (strAt s ((s.length : Int) - 1) = 34)
        · rfl
        · have hcl := cut_len s 1 ((s.length : Int) - 1)
          simp only [Bool.not_true, cond_false]
          exact (sUnquote_loop (Ev.cut s 1 ((s.length : Int) - 1)) (by omega) _ _ _ (fun _ => rfl) (s.length + 1) (Ev.cut s 1 ((s.length : Int) - 1)) [] 0 (At.start _) (by omega) (by simp only [List.length_nil]; omega)).trans (unq_fin _ (by omega))
    · rfl
  · unfold un_s at h; split at h
    · exact h
    · cases h
end
end Go.Proofs.YtdlpacieajdgoaaGreatDoor.Ev

namespace Go.Proofs.YtdlpacieajdgoaaGreatDoor.Ev
open Go Go.RowKit
set_option linter.unusedVariables false
set_option linter.unusedSimpArgs false
noncomputable section

/-! impl.Delta -/
def iDelta_O : Opt := { cons := [], keepNil := false, mutF := [], live := [(5, [0, 4, 5])], outs := [(5, [2, 3, 4])] }
def iDelta_C : Spec := (add noS 74 allDig_s)
theorem iDelta_C_ok : ∀ fn, Sound Kx fn (iDelta_C fn) := (sound_add (sound_no Kx) allDig_okQ)
def iDelta_T5 (v5x0 : (List UInt8)) (v5x1 : Int) (v5x2 : Int) (kR5 : (List UInt8) → Int → Int → Option Rs) (k5e0 : Int → Option Rs) : Option Rs :=
  (bif (decide (v5x2 < ((List.length v5x0) : Int))) then (bif (decide ((0 : Int) ≤ v5x2)) then (bif (decide (v5x2 < ((List.length v5x0) : Int))) then (kR5 v5x0 (if ((wk64 ((wk64 ((10 : Int) * v5x1)) + (wk64 (wk8 ((strAt v5x0 v5x2) - (48 : Int)))))) < (2147483648 : Int)) then (wk64 ((wk64 ((10 : Int) * v5x1)) + (wk64 (wk8 ((strAt v5x0 v5x2) - (48 : Int)))))) else (2147483648 : Int)) (wk64 (v5x2 + (1 : Int)))) else (none)) else (none)) else (k5e0 v5x1))
def iDelta_F5 : Nat → (List UInt8) → Int → Int → (Int → Option Rs) → Option Rs
  | 0, _, _, _, _ => none
  | n + 1, v5x0, v5x1, v5x2, k5e0 => iDelta_T5 v5x0 v5x1 v5x2 (fun v5x0 v5x1 v5x2 => iDelta_F5 n v5x0 v5x1 v5x2 k5e0) k5e0
def iDelta_h5 (v5x0 : (List UInt8)) (v5x1 : Int) (v5x2 : Int) : St := (St.mk (slots 0 29 [(0, (AV.str v5x0)), (4, (AV.int .i64 v5x1)), (5, (AV.int .i64 v5x2))]) ([] : (List (Nat × (Ob)))))
def iDelta_x5e0 (x5x0x0 : Int) : St := (St.mk (slots 0 29 [(4, (AV.int .i64 x5x0x0))]) ([] : (List (Nat × (Ob)))))
noncomputable def iDelta_b5 : Code := codeAt (codeOf Tryz.f86) [1, 1, 1, 0, 1, 0, 0]
def iDelta_L5 (N : Nat) (st : St) (k : Ex → St → Option Rs) : Option Rs := match takeF [0, 4, 5] 0 29 st.env, st.objs with
  | some [.str v5x0, .int .i64 v5x1, .int .i64 v5x2], [] => iDelta_F5 N v5x0 v5x1 v5x2 (fun x5x0x0 => k (Ex.exit (0 : Nat)) (iDelta_x5e0 x5x0x0))
  | _, _ => none
def iDelta_L (N : Nat) : Lam := fun j st k => match j with
  | 5 => iDelta_L5 N st k
  | _ => none
theorem iDelta_round5 (N : Nat) (again : St → Option Rs) (k : Ex → St → Option Rs) (wv5x0 : (List UInt8)) (wv5x1 : Int) (wv5x2 : Int) (v5x0 : (List UInt8)) (v5x1 : Int) (v5x2 : Int) :
    roundK 0 (fun st k => evL Kx iDelta_C iDelta_O 0 (iDelta_L N) iDelta_b5 st k) (iDelta_h5 wv5x0 wv5x1 wv5x2).env again (iDelta_h5 v5x0 v5x1 v5x2) (outK iDelta_O 0 iDelta_b5 k) = iDelta_T5 v5x0 v5x1 v5x2 (fun v5x0 v5x1 v5x2 => again (iDelta_h5 v5x0 v5x1 v5x2)) (fun x5x0x0 => k (Ex.exit (0 : Nat)) (iDelta_x5e0 x5x0x0)) := by kernel_rfl
theorem iDelta_loop5 (N : Nat) (k : Ex → St → Option Rs) (wv5x0 : (List UInt8)) (wv5x1 : Int) (wv5x2 : Int) : ∀ (n : Nat) (v5x0 : (List UInt8)) (v5x1 : Int) (v5x2 : Int),
    loopK 0 (fun st k => evL Kx iDelta_C iDelta_O 0 (iDelta_L N) iDelta_b5 st k) (iDelta_h5 wv5x0 wv5x1 wv5x2).env n (iDelta_h5 v5x0 v5x1 v5x2) (outK iDelta_O 0 iDelta_b5 k) = iDelta_F5 n v5x0 v5x1 v5x2 (fun x5x0x0 => k (Ex.exit (0 : Nat)) (iDelta_x5e0 x5x0x0))
  | 0, _, _, _ => rfl
  | n + 1, v5x0, v5x1, v5x2 => by
    rw [loopK_succ, iDelta_round5]
    simp only [iDelta_loop5 N k wv5x0 wv5x1 wv5x2 n]
    rfl
theorem iDelta_at5 (N : Nat) {s : St} {k : Ex → St → Option Rs} {r : Rs} (h : iDelta_L5 N s k = some r) : ∃ (v5x0 : (List UInt8)) (v5x1 : Int) (v5x2 : Int), s = (iDelta_h5 v5x0 v5x1 v5x2) ∧ iDelta_F5 N v5x0 v5x1 v5x2 (fun x5x0x0 => k (Ex.exit (0 : Nat)) (iDelta_x5e0 x5x0x0)) = some r := by
  cases s with | mk env objs =>
  unfold iDelta_L5 at h
  split at h
  · rename_i e1 e2
    have e3 := takeF_slots _ _ _ _ e1
    simp only at e2 e3
    subst e2 e3
    exact ⟨_, _, _, rfl, h⟩
  · cases h
theorem iDelta_in5 : loops iDelta_b5 = [] := by kernel_rfl
theorem iDelta_lid5 : lid iDelta_b5 = 5 := by kernel_rfl
theorem iDelta_ok5 (N : Nat) : OkL Kx iDelta_C iDelta_O 0 N (iDelta_L N) iDelta_b5 := by
  intro s k k' r hk h
  rw [iDelta_lid5] at h
  obtain ⟨v5x0, v5x1, v5x2, rfl, h⟩ := iDelta_at5 N h
  refine loopL (Λ := iDelta_L N) iDelta_b5 ?_ N hk ((iDelta_loop5 N k v5x0 v5x1 v5x2 N v5x0 v5x1 v5x2).trans h)
  rw [iDelta_in5]
  exact fun _ h => nomatch h
def iDelta_run (N : Nat) (s : Bytes) : Option Rs := (bif (decide (s = ([] : (List UInt8)))) then (some ((AV.tup ((AV.int .i64 (0 : Int)) :: ((AV.bool false) :: ([] : (List (AV)))))), ([] : (List (Ob))))) else (bif (isM s) then (bif (!(allP isDig s)) then (some ((AV.tup ((AV.int .i64 (0 : Int)) :: ((AV.bool false) :: ([] : (List (AV)))))), ([] : (List (Ob))))) else (iDelta_F5 N s (0 : Int) (0 : Int) (fun x5x0x0 => (some ((AV.tup ((AV.int .i64 x5x0x0) :: ((AV.bool true) :: ([] : (List (AV)))))), ([] : (List (Ob)))))))) else (none)))
theorem iDelta_runL (N : Nat) (s : Bytes) : runL Kx iDelta_C iDelta_O (iDelta_L N) Tryz.f86 ([.str s]) ([]) = iDelta_run N s := by kernel_rfl
theorem iDelta_body : Tryz.f86.body = some (codeOf Tryz.f86) := by kernel_rfl
theorem iDelta_loops : loops (codeOf Tryz.f86) = [iDelta_b5] := by kernel_rfl
theorem iDelta_ev (N : Nat) (s : Bytes) {res_ : Rs} (hyp_ : iDelta_run N s = some res_) : ∃ n_, runF Kx iDelta_C iDelta_O n_ Tryz.f86 ([.str s]) ([]) = some res_ :=
  ⟨N, runL_runF iDelta_body (by rw [iDelta_loops]; exact List.forall_mem_cons.2 ⟨iDelta_ok5 N, fun _ h => nomatch h⟩) ((iDelta_runL N s).trans hyp_)⟩
def iDelta_sOf (φ : Bytes → Br) : List AV → List Ob → Br
  | [.str s], [] => φ s
  | _, _ => .fail
theorem iDelta_okOf {φ : Bytes → Br} (fu : Bytes → Nat) (hv : ∀ s res_, (φ s).val = some res_ → iDelta_run (fu s) s = some res_) : Sound Kx 86 (iDelta_sOf φ) := by
  refine sound_run (C := iDelta_C) (O := iDelta_O) KOk iDelta_C_ok Tryz.func86 (by kernel_rfl) fun args objs res os h => ?_
  unfold iDelta_sOf at h
  split at h
  · exact iDelta_ev _ _ (hv _ _ h)
  · cases h

/-! slices.Contains[[]int,int] -/
def conI_O : Opt := { cons := [], keepNil := false, mutF := [], live := [], outs := [] }
def conI_C : Spec := (add noS 90 ixI_s)
theorem conI_C_ok : ∀ fn, Sound Kx fn (conI_C fn) := (sound_add (sound_no Kx) hasI_okQ)
def conI_br (l : List Int) (x : Int) : Br := (Br.ite (decide ((List.length l) ≤ (1000000 : Nat))) (Br.ret (AV.bool (decide ((0 : Int) ≤ (idxP x l (0 : Int))))) ([] : (List (Ob)))) Br.fail)
theorem conI_run (l : List Int) (x : Int) : runF Kx conI_C conI_O 1 Tryz.f56 ([.sh (.int .i64) l, .int .i64 x]) ([]) = (conI_br l x).val := by kernel_rfl
def conI_s : List AV → List Ob → Br
  | [.sh (.int .i64) l, .int .i64 x], [] => conI_br l x
  | _, _ => .fail
theorem conI_ok : Sound Kx 56 conI_s := by
  refine sound_run (C := conI_C) (O := conI_O) KOk conI_C_ok Tryz.func56 (by kernel_rfl) fun args objs res os h => ?_
  unfold conI_s at h
  split at h
  · exact ⟨1, (conI_run _ _).trans h⟩
  · cases h

/-! slices.Contains[[]string,string] -/
def conS_O : Opt := { cons := [], keepNil := false, mutF := [], live := [], outs := [] }
def conS_C : Spec := (add noS 52 ixS_s)
theorem conS_C_ok : ∀ fn, Sound Kx fn (conS_C fn) := (sound_add (sound_no Kx) hasS_okQ)
def conS_br (l : List Bytes) (x : Bytes) : Br := (Br.ite (decide ((List.length l) ≤ (1000000 : Nat))) (Br.ret (AV.bool (decide ((0 : Int) ≤ (idxP x l (0 : Int))))) ([] : (List (Ob)))) Br.fail)
theorem conS_run (l : List Bytes) (x : Bytes) : runF Kx conS_C conS_O 1 Tryz.f19 ([.sh .str l, .str x]) ([]) = (conS_br l x).val := by kernel_rfl
def conS_s : List AV → List Ob → Br
  | [.sh .str l, .str x], [] => conS_br l x
  | _, _ => .fail
theorem conS_ok : Sound Kx 19 conS_s := by
  refine sound_run (C := conS_C) (O := conS_O) KOk conS_C_ok Tryz.func19 (by kernel_rfl) fun args objs res os h => ?_
  unfold conS_s at h
  split at h
  · exact ⟨1, (conS_run _ _).trans h⟩
  · cases h

end
end Go.Proofs.YtdlpacieajdgoaaGreatDoor.Ev
