/- The texts Pa, Pb, Pq, Pc, one behind the other. -/
import Derived.Test.YtgknmoadpgpdeaaGreatDoorK18
import Derived.Test.YtgknmoadpgpdeaaGreatDoorK21
import Derived.Test.YtgknmoadpgpdeaaGreatDoorK16
import Derived.Test.YtgknmoadpgpdeaaGreatDoorK13
namespace Go.Proofs.YtgknmoadpgpdeaaGreatDoor.Ev
open Go Go.RowKit
set_option linter.unusedVariables false
set_option linter.unusedSimpArgs false
noncomputable section

def hasS_O : Opt := { live := [(2, [0, 1, 7, 8])], outs := [(2, [4])] }
def hasS_T2 (v2x0 : (List Bytes)) (v2x1 : Bytes) (v2x2 v2x3 : Int) (kR2 : (List Bytes) → Bytes → Int → Int → Option Rs) (k2e0 : Int → Option Rs) (k2e1 : Option Rs) : Option Rs :=
  (bif (decide (v2x3 < v2x2)) then (bif (decide (0 ≤ v2x3)) then (bif (decide (v2x3 < (v2x0.length : Int))) then (bif (decide (v2x1 = (List.getD v2x0 (Int.toNat v2x3) ([] : Bytes)))) then (k2e0 v2x3) else (kR2 v2x0 v2x1 v2x2 (wk64 (v2x3 + 1)))) else (none)) else (none)) else k2e1)
def hasS_F2 : Nat → (List Bytes) → Bytes → Int → Int → (Int → Option Rs) → (Option Rs) → Option Rs
  | 0, _, _, _, _, _, _ => none
  | n + 1, v2x0, v2x1, v2x2, v2x3, k2e0, k2e1 => hasS_T2 v2x0 v2x1 v2x2 v2x3 (fun v2x0 v2x1 v2x2 v2x3 => hasS_F2 n v2x0 v2x1 v2x2 v2x3 k2e0 k2e1) k2e0 k2e1
abbrev hasS_p2 : SP := ⟨19, [0, 1, 7, 8], [(.v (.sh Ty.str)), (.v .s), (.v (.i .i64)), (.v (.i .i64))], []⟩
noncomputable def hasS_b2 : Code := codeAt (codeOf Tryz.f183) [1, 0, 1, 0, 0]
def hasS_E2 (f : (Int → Option Rs) → (Option Rs) → Option Rs) (k : KT) : Option Rs := f (fun x2x0x0 => k Ex.ret ((St.mk (slots 0 19 [(4, (AV.int .i64 x2x0x0))]) ([] : (List (Nat × (Ob))))))) (k (Ex.exit 0) ((St.mk (slots 0 19 []) ([] : (List (Nat × (Ob)))))))
def hasS_G2 (n : Nat) (d : hasS_p2.D) : KT → Option Rs := hasS_E2 (hasS_F2 n d.1.1 d.1.2.1 d.1.2.2.1 d.1.2.2.2.1)
def hasS_L (N : Nat) : Lam := lamOf [⟨2, hasS_p2, hasS_G2 N⟩]
theorem hasS_ok2 (N : Nat) : OkL Kx noS hasS_O 0 N (hasS_L N) hasS_b2 := okL hasS_p2 (hasS_G2) (fun d kR => hasS_E2 (hasS_T2 d.1.1 d.1.2.1 d.1.2.2.1 d.1.2.2.2.1 (fun v2x0 v2x1 v2x2 v2x3 => kR ((v2x0, v2x1, v2x2, v2x3, ()), ())))) (fun _ _ => by kernel_rfl) (fun _ _ _ => by kernel_rfl) (fun _ _ => by kernel_rfl) (fun _ _ _ _ => by kernel_rfl) (okEach (l' := []) (by kernel_rfl) trivial)
def hasS_run (N : Nat) (l : List Bytes) (x : Bytes) : Option Rs := (hasS_F2 N l x (l.length : Int) 0 (fun x2x0x0 => (some ((AV.int .i64 x2x0x0), []))) (some ((AV.int .i64 (-1)), [])))
def hasS_sOf (φ : (List Bytes) → Bytes → Br) : List AV → List Ob → Br
  | [.sh .str l, .str x], [] => φ l x
  | _, _ => .fail
theorem hasS_okOf {φ : (List Bytes) → Bytes → Br} (fu : (List Bytes) → Bytes → Nat) (hv : ∀ l x res_, (φ l x).val = some res_ → hasS_run (fu l x) l x = some res_) : Sound Kx 183 (hasS_sOf φ) := sound_lp (C := []) (O := hasS_O) Tryz.func183 (by kernel_rfl) fun args objs => by
  unfold hasS_sOf; split
  · rename_i l x; exact .inr fun _ hyp_ => run_lp (Λ := hasS_L (fu l x)) (by kernel_rfl) (okEach (l' := [hasS_b2]) (by kernel_rfl) ⟨hasS_ok2 _, trivial⟩) (by kernel_rfl) (hv l x _ hyp_)
  · exact .inl rfl


def idxP {α : Type} [DecidableEq α] (x : α) : List α → Int → Int
  | [], _ => -1
  | a :: r, i => bif decide (x = a) then i else idxP x r (i + 1)
theorem hasS_loop (l : List Bytes) (hl : l.length ≤ 4611686018427387904) (x : Bytes) (k0 : Int → Option Rs) (k1 : Option Rs) (K : Int → Option Rs) (h0 : ∀ i, k0 i = K i) (h1 : k1 = K (-1)) : ∀ (r : List Bytes) (i : Int) (n : Nat), At l i r → r.length < n →
    hasS_F2 n l x (l.length : Int) i k0 k1 = K (idxP x r i) := by
  intro r; induction r with
  | nil => intro i n h hn; obtain ⟨n, rfl⟩ := fuel hn; unfold hasS_F2 hasS_T2; simp only [h.dge, cond_false, h1]; rfl
  | cons a r ih =>
    intro i n h hn; obtain ⟨n, rfl⟩ := fuel hn
    have hs := ih (i + 1) n h.step (by simp at hn; omega)
    unfold hasS_F2 hasS_T2
    simp only [h.dlt, h.dnn, h.get, cond_true, h.next hl, hs, h0, idxP]
    cases decide (x = a) <;> rfl
def ixS_s : List AV → List Ob → Br
  | [.sh .str l, .str x], [] => .ite (decide (l.length ≤ 1000000)) (.ret (.int .i64 (idxP x l 0)) []) .fail
  | _, _ => .fail
theorem hasS_okQ : Sound Kx 183 ixS_s := by
  refine (hasS_okOf (φ := fun l x => .ite (decide (l.length ≤ 1000000)) (.ret (.int .i64 (idxP x l 0)) []) .fail) (fun l _ => l.length + 1) fun l x r h => ?_).of fun args objs r h => ?_
  · obtain ⟨h1, h2⟩ := ite_some h
    cases h2
    rw [decide_eq_true_eq] at h1
    unfold hasS_run
    exact hasS_loop l (by omega) x _ _ (fun i => some (.int .i64 i, [])) (fun _ => rfl) rfl l 0 _ (At.start l) (by omega)
  · unfold ixS_s at h; split at h
    · exact h
    · cases h
theorem idx_nn {α : Type} [DecidableEq α] (x : α) : ∀ (l : List α) (i : Int), 0 ≤ i → decide (0 ≤ idxP x l i) = l.any fun a => decide (a = x)
  | [], i, h => by rfl
  | a :: r, i, h => by
    unfold idxP
    rw [List.any_cons]
    by_cases c : x = a
    · rw [decide_eq_true c, cond_true, decide_eq_true h, decide_eq_true c.symm]; rfl
    · have c2 : decide (a = x) = false := decide_eq_false fun e => c e.symm
      rw [decide_eq_false c, cond_false, c2, Bool.false_or]
      exact idx_nn x r (i + 1) (by omega)

theorem cut_len {α : Type} (l : List α) (a b : Int) : (Ev.cut l a b).length ≤ l.length := by
  unfold Ev.cut
  rw [List.length_drop]
  have := List.length_take_le' b.toNat l
  omega

def conS_C : SC := [⟨183, _, hasS_okQ⟩]
def conS_br (l : List Bytes) (x : Bytes) : Br := (Br.ite (decide (l.length ≤ 1000000)) (Br.ret (AV.bool (decide (0 ≤ (idxP x l 0)))) []) Br.fail)
def conS_s : List AV → List Ob → Br
  | [.sh .str l, .str x], [] => conS_br l x
  | _, _ => .fail
theorem conS_ok : Sound Kx 103 conS_s := sound_br (C := conS_C) (O := O0) Tryz.func103 (by kernel_rfl) fun args objs => by
  unfold conS_s; split
  · exact .inr (by kernel_rfl)
  · exact .inl rfl

end
end Go.Proofs.YtgknmoadpgpdeaaGreatDoor.Ev
