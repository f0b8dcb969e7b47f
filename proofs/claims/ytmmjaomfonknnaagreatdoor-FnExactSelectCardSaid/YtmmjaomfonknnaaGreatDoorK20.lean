/- The texts Pa, Pb, Pq, Pc, one behind the other. -/
import Derived.Test.YtmmjaomfonknnaaGreatDoorK17
import Derived.Test.YtmmjaomfonknnaaGreatDoorK19
import Derived.Test.YtmmjaomfonknnaaGreatDoorK16
namespace Go.Proofs.YtmmjaomfonknnaaGreatDoor.Ev
open Go Go.RowKit
set_option linter.unusedVariables false
set_option linter.unusedSimpArgs false
noncomputable section

def supto_O : Opt := { cons := [], keepNil := false, mutF := [], live := [(2, [0, 1, 5])], outs := [(2, [0, 4])] }
def supto_T2 (v2x0 : Bytes) (v2x1 : Int) (v2x2 : Int) (kR2 : Bytes → Int → Int → Option Rs) (k2e0 : Bytes → Bytes → Option Rs) (k2e1 : Bytes → Option Rs) : Option Rs :=
  (bif (decide (v2x2 < ((List.length v2x0) : Int))) then (bif (decide ((0 : Int) ≤ v2x2)) then (bif (decide (v2x2 < ((List.length v2x0) : Int))) then (bif (decide ((strAt v2x0 v2x2) = v2x1)) then (bif (decide ((0 : Int) ≤ v2x2)) then (bif (decide (v2x2 ≤ ((List.length v2x0) : Int))) then (k2e0 v2x0 (cut v2x0 (0 : Int) v2x2)) else (none)) else (none)) else (kR2 v2x0 v2x1 (wk64 (v2x2 + (1 : Int))))) else (none)) else (none)) else (k2e1 v2x0))
def supto_F2 : Nat → Bytes → Int → Int → (Bytes → Bytes → Option Rs) → (Bytes → Option Rs) → Option Rs
  | 0, _, _, _, _, _ => none
  | n + 1, v2x0, v2x1, v2x2, k2e0, k2e1 => supto_T2 v2x0 v2x1 v2x2 (fun v2x0 v2x1 v2x2 => supto_F2 n v2x0 v2x1 v2x2 k2e0 k2e1) k2e0 k2e1
def supto_h2 (v2x0 : Bytes) (v2x1 : Int) (v2x2 : Int) : St := (St.mk (slots 0 21 [(0, (AV.str v2x0)), (1, (AV.int .u8 v2x1)), (5, (AV.int .i64 v2x2))]) ([] : (List (Nat × (Ob)))))
def supto_x2e0 (x2x0x0 : Bytes) (x2x0x1 : Bytes) : St := (St.mk (slots 0 21 [(0, (AV.str x2x0x0)), (4, (AV.str x2x0x1))]) ([] : (List (Nat × (Ob)))))
def supto_x2e1 (x2x1x0 : Bytes) : St := (St.mk (slots 0 21 [(0, (AV.str x2x1x0))]) ([] : (List (Nat × (Ob)))))
noncomputable def supto_b2 : Code := codeAt (codeOf Tryz.f200) [1, 0, 1, 0, 0]
def supto_L2 (N : Nat) (st : St) (k : Ex → St → Option Rs) : Option Rs := match takeF [0, 1, 5] 0 21 st.env, st.objs with
  | some [.str v2x0, .int .u8 v2x1, .int .i64 v2x2], [] => supto_F2 N v2x0 v2x1 v2x2 (fun x2x0x0 x2x0x1 => k Ex.ret (supto_x2e0 x2x0x0 x2x0x1)) (fun x2x1x0 => k (Ex.exit (0 : Nat)) (supto_x2e1 x2x1x0))
  | _, _ => none
def supto_L (N : Nat) : Lam := fun j st k => match j with
  | 2 => supto_L2 N st k
  | _ => none
theorem supto_round2 (N : Nat) (again : St → Option Rs) (k : Ex → St → Option Rs) (wv2x0 : Bytes) (wv2x1 : Int) (wv2x2 : Int) (v2x0 : Bytes) (v2x1 : Int) (v2x2 : Int) :
    roundK 0 (fun st k => evL Kx noS supto_O 0 (supto_L N) supto_b2 st k) (supto_h2 wv2x0 wv2x1 wv2x2).env again (supto_h2 v2x0 v2x1 v2x2) (outK supto_O 0 supto_b2 k) = supto_T2 v2x0 v2x1 v2x2 (fun v2x0 v2x1 v2x2 => again (supto_h2 v2x0 v2x1 v2x2)) (fun x2x0x0 x2x0x1 => k Ex.ret (supto_x2e0 x2x0x0 x2x0x1)) (fun x2x1x0 => k (Ex.exit (0 : Nat)) (supto_x2e1 x2x1x0)) := by kernel_rfl
theorem supto_loop2 (N : Nat) (k : Ex → St → Option Rs) (wv2x0 : Bytes) (wv2x1 : Int) (wv2x2 : Int) : ∀ (n : Nat) (v2x0 : Bytes) (v2x1 : Int) (v2x2 : Int),
    loopK 0 (fun st k => evL Kx noS supto_O 0 (supto_L N) supto_b2 st k) (supto_h2 wv2x0 wv2x1 wv2x2).env n (supto_h2 v2x0 v2x1 v2x2) (outK supto_O 0 supto_b2 k) = supto_F2 n v2x0 v2x1 v2x2 (fun x2x0x0 x2x0x1 => k Ex.ret (supto_x2e0 x2x0x0 x2x0x1)) (fun x2x1x0 => k (Ex.exit (0 : Nat)) (supto_x2e1 x2x1x0))
  | 0, _, _, _ => rfl
  | n + 1, v2x0, v2x1, v2x2 => by
    rw [loopK_succ, supto_round2]
    simp only [supto_loop2 N k wv2x0 wv2x1 wv2x2 n]
    rfl
theorem supto_at2 (N : Nat) {s : St} {k : Ex → St → Option Rs} {r : Rs} (h : supto_L2 N s k = some r) : ∃ (v2x0 : Bytes) (v2x1 : Int) (v2x2 : Int), s = (supto_h2 v2x0 v2x1 v2x2) ∧ supto_F2 N v2x0 v2x1 v2x2 (fun x2x0x0 x2x0x1 => k Ex.ret (supto_x2e0 x2x0x0 x2x0x1)) (fun x2x1x0 => k (Ex.exit (0 : Nat)) (supto_x2e1 x2x1x0)) = some r := by
  cases s with | mk env objs =>
  unfold supto_L2 at h
  split at h
  · rename_i e1 e2
    have e3 := takeF_slots _ _ _ _ e1
    simp only at e2 e3
    subst e2 e3
    exact ⟨_, _, _, rfl, h⟩
  · cases h
theorem supto_in2 : loops supto_b2 = [] := by kernel_rfl
theorem supto_lid2 : lid supto_b2 = 2 := by kernel_rfl
theorem supto_ok2 (N : Nat) : OkL Kx noS supto_O 0 N (supto_L N) supto_b2 := by
  intro s k k' r hk h
  rw [supto_lid2] at h
  obtain ⟨v2x0, v2x1, v2x2, rfl, h⟩ := supto_at2 N h
  refine loopL (Λ := supto_L N) supto_b2 ?_ N hk ((supto_loop2 N k v2x0 v2x1 v2x2 N v2x0 v2x1 v2x2).trans h)
  rw [supto_in2]
  exact fun _ h => nomatch h
def supto_run (N : Nat) (s : Bytes) (b : Int) : Option Rs := (supto_F2 N s b (0 : Int) (fun x2x0x0 => (fun x2x0x1 => (some ((AV.str x2x0x1), ([] : List Ob))))) (fun x2x1x0 => (some ((AV.str x2x1x0), ([] : List Ob)))))
theorem supto_runL (N : Nat) (s : Bytes) (b : Int) : runL Kx noS supto_O (supto_L N) Tryz.f200 ([.str s, .int .u8 b]) ([]) = supto_run N s b := by kernel_rfl
theorem supto_body : Tryz.f200.body = some (codeOf Tryz.f200) := by kernel_rfl
theorem supto_loops : loops (codeOf Tryz.f200) = [supto_b2] := by kernel_rfl
theorem supto_ev (N : Nat) (s : Bytes) (b : Int) {res_ : Rs} (hyp_ : supto_run N s b = some res_) : ∃ n_, runF Kx noS supto_O n_ Tryz.f200 ([.str s, .int .u8 b]) ([]) = some res_ :=
  ⟨N, runL_runF supto_body (by rw [supto_loops]; exact List.forall_mem_cons.2 ⟨supto_ok2 N, fun _ h => nomatch h⟩) ((supto_runL N s b).trans hyp_)⟩
def supto_sOf (φ : Bytes → Int → Br) : List AV → List Ob → Br
  | [.str s, .int .u8 b], [] => φ s b
  | _, _ => .fail
theorem supto_okOf {φ : Bytes → Int → Br} (fu : Bytes → Int → Nat) (hv : ∀ s b res_, (φ s b).val = some res_ → supto_run (fu s b) s b = some res_) : Sound Kx 200 (supto_sOf φ) := by
  refine sound_run (C := noS) (O := supto_O) KOk (sound_no Kx) Tryz.func200 (by kernel_rfl) fun args objs res os h => ?_
  unfold supto_sOf at h
  split at h
  · exact supto_ev _ _ _ (hv _ _ _ h)
  · cases h

def hasS_O : Opt := { cons := [], keepNil := false, mutF := [], live := [(2, [0, 1, 7, 8])], outs := [(2, [4])] }
def hasS_T2 (v2x0 : (List Bytes)) (v2x1 : Bytes) (v2x2 : Int) (v2x3 : Int) (kR2 : (List Bytes) → Bytes → Int → Int → Option Rs) (k2e0 : Int → Option Rs) (k2e1 : Option Rs) : Option Rs :=
  (bif (decide (v2x3 < v2x2)) then (bif (decide ((0 : Int) ≤ v2x3)) then (bif (decide (v2x3 < ((List.length v2x0) : Int))) then (bif (decide (v2x1 = (List.getD v2x0 (Int.toNat v2x3) ([] : Bytes)))) then (k2e0 v2x3) else (kR2 v2x0 v2x1 v2x2 (wk64 (v2x3 + (1 : Int))))) else (none)) else (none)) else k2e1)
def hasS_F2 : Nat → (List Bytes) → Bytes → Int → Int → (Int → Option Rs) → (Option Rs) → Option Rs
  | 0, _, _, _, _, _, _ => none
  | n + 1, v2x0, v2x1, v2x2, v2x3, k2e0, k2e1 => hasS_T2 v2x0 v2x1 v2x2 v2x3 (fun v2x0 v2x1 v2x2 v2x3 => hasS_F2 n v2x0 v2x1 v2x2 v2x3 k2e0 k2e1) k2e0 k2e1
def hasS_h2 (v2x0 : (List Bytes)) (v2x1 : Bytes) (v2x2 : Int) (v2x3 : Int) : St := (St.mk (slots 0 19 [(0, (AV.sh Ty.str v2x0)), (1, (AV.str v2x1)), (7, (AV.int .i64 v2x2)), (8, (AV.int .i64 v2x3))]) ([] : (List (Nat × (Ob)))))
def hasS_x2e0 (x2x0x0 : Int) : St := (St.mk (slots 0 19 [(4, (AV.int .i64 x2x0x0))]) ([] : (List (Nat × (Ob)))))
def hasS_x2e1  : St := (St.mk (slots 0 19 []) ([] : (List (Nat × (Ob)))))
noncomputable def hasS_b2 : Code := codeAt (codeOf Tryz.f274) [1, 0, 1, 0, 0]
def hasS_L2 (N : Nat) (st : St) (k : Ex → St → Option Rs) : Option Rs := match takeF [0, 1, 7, 8] 0 19 st.env, st.objs with
  | some [.sh Ty.str v2x0, .str v2x1, .int .i64 v2x2, .int .i64 v2x3], [] => hasS_F2 N v2x0 v2x1 v2x2 v2x3 (fun x2x0x0 => k Ex.ret (hasS_x2e0 x2x0x0)) (k (Ex.exit (0 : Nat)) (hasS_x2e1))
  | _, _ => none
def hasS_L (N : Nat) : Lam := fun j st k => match j with
  | 2 => hasS_L2 N st k
  | _ => none
theorem hasS_round2 (N : Nat) (again : St → Option Rs) (k : Ex → St → Option Rs) (wv2x0 : (List Bytes)) (wv2x1 : Bytes) (wv2x2 : Int) (wv2x3 : Int) (v2x0 : (List Bytes)) (v2x1 : Bytes) (v2x2 : Int) (v2x3 : Int) :
    roundK 0 (fun st k => evL Kx noS hasS_O 0 (hasS_L N) hasS_b2 st k) (hasS_h2 wv2x0 wv2x1 wv2x2 wv2x3).env again (hasS_h2 v2x0 v2x1 v2x2 v2x3) (outK hasS_O 0 hasS_b2 k) = hasS_T2 v2x0 v2x1 v2x2 v2x3 (fun v2x0 v2x1 v2x2 v2x3 => again (hasS_h2 v2x0 v2x1 v2x2 v2x3)) (fun x2x0x0 => k Ex.ret (hasS_x2e0 x2x0x0)) (k (Ex.exit (0 : Nat)) (hasS_x2e1)) := by kernel_rfl
theorem hasS_loop2 (N : Nat) (k : Ex → St → Option Rs) (wv2x0 : (List Bytes)) (wv2x1 : Bytes) (wv2x2 : Int) (wv2x3 : Int) : ∀ (n : Nat) (v2x0 : (List Bytes)) (v2x1 : Bytes) (v2x2 : Int) (v2x3 : Int),
    loopK 0 (fun st k => evL Kx noS hasS_O 0 (hasS_L N) hasS_b2 st k) (hasS_h2 wv2x0 wv2x1 wv2x2 wv2x3).env n (hasS_h2 v2x0 v2x1 v2x2 v2x3) (outK hasS_O 0 hasS_b2 k) = hasS_F2 n v2x0 v2x1 v2x2 v2x3 (fun x2x0x0 => k Ex.ret (hasS_x2e0 x2x0x0)) (k (Ex.exit (0 : Nat)) (hasS_x2e1))
  | 0, _, _, _, _ => rfl
  | n + 1, v2x0, v2x1, v2x2, v2x3 => by
    rw [loopK_succ, hasS_round2]
    simp only [hasS_loop2 N k wv2x0 wv2x1 wv2x2 wv2x3 n]
    rfl
theorem hasS_at2 (N : Nat) {s : St} {k : Ex → St → Option Rs} {r : Rs} (h : hasS_L2 N s k = some r) : ∃ (v2x0 : (List Bytes)) (v2x1 : Bytes) (v2x2 : Int) (v2x3 : Int), s = (hasS_h2 v2x0 v2x1 v2x2 v2x3) ∧ hasS_F2 N v2x0 v2x1 v2x2 v2x3 (fun x2x0x0 => k Ex.ret (hasS_x2e0 x2x0x0)) (k (Ex.exit (0 : Nat)) (hasS_x2e1)) = some r := by
  cases s with | mk env objs =>
  unfold hasS_L2 at h
  split at h
  · rename_i e1 e2
    have e3 := takeF_slots _ _ _ _ e1
    simp only at e2 e3
    subst e2 e3
    exact ⟨_, _, _, _, rfl, h⟩
  · cases h
theorem hasS_in2 : loops hasS_b2 = [] := by kernel_rfl
theorem hasS_lid2 : lid hasS_b2 = 2 := by kernel_rfl
theorem hasS_ok2 (N : Nat) : OkL Kx noS hasS_O 0 N (hasS_L N) hasS_b2 := by
  intro s k k' r hk h
  rw [hasS_lid2] at h
  obtain ⟨v2x0, v2x1, v2x2, v2x3, rfl, h⟩ := hasS_at2 N h
  refine loopL (Λ := hasS_L N) hasS_b2 ?_ N hk ((hasS_loop2 N k v2x0 v2x1 v2x2 v2x3 N v2x0 v2x1 v2x2 v2x3).trans h)
  rw [hasS_in2]
  exact fun _ h => nomatch h
def hasS_run (N : Nat) (l : List Bytes) (x : Bytes) : Option Rs := (hasS_F2 N l x ((List.length l) : Int) (0 : Int) (fun x2x0x0 => (some ((AV.int .i64 x2x0x0), ([] : List Ob)))) (some ((AV.int .i64 (-(1 : Int))), ([] : List Ob))))
theorem hasS_runL (N : Nat) (l : List Bytes) (x : Bytes) : runL Kx noS hasS_O (hasS_L N) Tryz.f274 ([.sh .str l, .str x]) ([]) = hasS_run N l x := by kernel_rfl
theorem hasS_body : Tryz.f274.body = some (codeOf Tryz.f274) := by kernel_rfl
theorem hasS_loops : loops (codeOf Tryz.f274) = [hasS_b2] := by kernel_rfl
theorem hasS_ev (N : Nat) (l : List Bytes) (x : Bytes) {res_ : Rs} (hyp_ : hasS_run N l x = some res_) : ∃ n_, runF Kx noS hasS_O n_ Tryz.f274 ([.sh .str l, .str x]) ([]) = some res_ :=
  ⟨N, runL_runF hasS_body (by rw [hasS_loops]; exact List.forall_mem_cons.2 ⟨hasS_ok2 N, fun _ h => nomatch h⟩) ((hasS_runL N l x).trans hyp_)⟩
def hasS_sOf (φ : (List Bytes) → Bytes → Br) : List AV → List Ob → Br
  | [.sh .str l, .str x], [] => φ l x
  | _, _ => .fail
theorem hasS_okOf {φ : (List Bytes) → Bytes → Br} (fu : (List Bytes) → Bytes → Nat) (hv : ∀ l x res_, (φ l x).val = some res_ → hasS_run (fu l x) l x = some res_) : Sound Kx 274 (hasS_sOf φ) := by
  refine sound_run (C := noS) (O := hasS_O) KOk (sound_no Kx) Tryz.func274 (by kernel_rfl) fun args objs res os h => ?_
  unfold hasS_sOf at h
  split at h
  · exact hasS_ev _ _ _ (hv _ _ _ h)
  · cases h

end
end Go.Proofs.YtmmjaomfonknnaaGreatDoor.Ev

namespace Go.Proofs.YtmmjaomfonknnaaGreatDoor.Ev
open Go Go.RowKit
set_option linter.unusedVariables false
set_option linter.unusedSimpArgs false
noncomputable section

def idxP {α : Type} [DecidableEq α] (x : α) : List α → Int → Int
  | [], _ => -1
  | a :: r, i => bif decide (x = a) then i else idxP x r (i + 1)
theorem hasS_loop (l : List Bytes) (hl : l.length ≤ 4611686018427387904) (x : Bytes) (k0 : Int → Option Rs) (k1 : Option Rs) (K : Int → Option Rs) (h0 : ∀ i, k0 i = K i) (h1 : k1 = K (-1)) : ∀ (r : List Bytes) (i : Int) (n : Nat), At l i r → r.length < n →
    hasS_F2 n l x (l.length : Int) i k0 k1 = K (idxP x r i) := by
  intro r; induction r with
  | nil => intro i n h hn; obtain ⟨n, rfl⟩ := fuel hn; unfold hasS_F2 hasS_T2; simp only [h.dge, cond_false, h1]; rfl
  | cons a r ih =>
    intro i n h hn; obtain ⟨n, rfl⟩ := fuel hn
    have hs := ih (i + 1) n h.step (by simp at hn; omega)
    unfold hasS_F2 hasS_T2
    simp only [h.dlt, h.dnn, h.get, cond_true, h.next hl, hs, h0, idxP]
    cases decide (x = a) <;> rfl
def ixS_s : List AV → List Ob → Br
  | [.sh .str l, .str x], [] => .ite (decide (l.length ≤ 1000000)) (.ret (.int .i64 (idxP x l 0)) []) .fail
  | _, _ => .fail
theorem hasS_okQ : Sound Kx 274 ixS_s := by
  refine (hasS_okOf (φ := fun l x => .ite (decide (l.length ≤ 1000000)) (.ret (.int .i64 (idxP x l 0)) []) .fail) (fun l _ => l.length + 1) fun l x r h => ?_).of fun args objs r h => ?_
  · obtain ⟨h1, h2⟩ := ite_some h
    cases h2
    rw [decide_eq_true_eq] at h1
    unfold hasS_run
    exact hasS_loop l (by omega) x _ _ (fun i => some (.int .i64 i, [])) (fun _ => rfl) rfl l 0 _ (At.start l) (by omega)
  · unfold ixS_s at h; split at h
    · exact h
    · cases h
theorem idx_nn {α : Type} [DecidableEq α] (x : α) : ∀ (l : List α) (i : Int), 0 ≤ i → decide (0 ≤ idxP x l i) = l.any fun a => decide (a = x)
  | [], i, h => by rfl
  | a :: r, i, h => by
    unfold idxP
    rw [List.any_cons]
    by_cases c : x = a
    · rw [decide_eq_true c, cond_true, decide_eq_true h, decide_eq_true c.symm]; rfl
    · have c2 : decide (a = x) = false := decide_eq_false fun e => c e.symm
      rw [decide_eq_false c, cond_false, c2, Bool.false_or]
      exact idx_nn x r (i + 1) (by omega)
end
end Go.Proofs.YtmmjaomfonknnaaGreatDoor.Ev

namespace Go.Proofs.YtmmjaomfonknnaaGreatDoor.Ev
open Go Go.RowKit
set_option linter.unusedVariables false
set_option linter.unusedSimpArgs false
noncomputable section

end
end Go.Proofs.YtmmjaomfonknnaaGreatDoor.Ev

namespace Go.Proofs.YtmmjaomfonknnaaGreatDoor.Ev
open Go Go.RowKit
set_option linter.unusedVariables false
set_option linter.unusedSimpArgs false
noncomputable section

def conS_O : Opt := { cons := [], keepNil := false, mutF := [], live := [], outs := [] }
def conS_C : Spec := (add noS 274 ixS_s)
theorem conS_C_ok : ∀ fn, Sound Kx fn (conS_C fn) := (sound_add (sound_no Kx) hasS_okQ)
def conS_br (l : List Bytes) (x : Bytes) : Br := (Br.ite (decide ((List.length l) ≤ (1000000 : Nat))) (Br.ret (AV.bool (decide ((0 : Int) ≤ (idxP x l (0 : Int))))) ([] : List Ob)) Br.fail)
theorem conS_run (l : List Bytes) (x : Bytes) : runF Kx conS_C conS_O 1 Tryz.f261 ([.sh .str l, .str x]) ([]) = (conS_br l x).val := by kernel_rfl
def conS_s : List AV → List Ob → Br
  | [.sh .str l, .str x], [] => conS_br l x
  | _, _ => .fail
theorem conS_ok : Sound Kx 261 conS_s := by
  refine sound_run (C := conS_C) (O := conS_O) KOk conS_C_ok Tryz.func261 (by kernel_rfl) fun args objs res os h => ?_
  unfold conS_s at h
  split at h
  · exact ⟨1, (conS_run _ _).trans h⟩
  · cases h

end
end Go.Proofs.YtmmjaomfonknnaaGreatDoor.Ev
