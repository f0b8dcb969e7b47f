/- The texts Ud, Ue, Uf, Ug, Uh, Ui, Uj, Uk, Ul, Um, Un, Uo, Va, Vb, Vc, Vd, Ve, Vf, Vg, Vh, Xa, Xb, Xc, Xd, Vi, Vj, Vk, Vl, Vm, Vn, Wa, Wb, Vo, Xe, Xf, Xg, Xh, Xi, Xj, one behind the other. -/
import Derived.Test.YtgknmoadpgpdeaaGreatDoorK24
import Derived.Test.YtgknmoadpgpdeaaGreatDoorK27
import Derived.Test.YtgknmoadpgpdeaaGreatDoorK28
import Derived.Test.YtgknmoadpgpdeaaGreatDoorK13
import Derived.Test.YtgknmoadpgpdeaaGreatDoorK19
import Derived.Test.YtgknmoadpgpdeaaGreatDoorK21
import Derived.Test.YtgknmoadpgpdeaaGreatDoorK23
namespace Go.Proofs.YtgknmoadpgpdeaaGreatDoor.Ev
open Go Go.RowKit
set_option linter.unusedVariables false
set_option linter.unusedSimpArgs false
noncomputable section

def iunes_O : Opt := { live := [(3, [0, 3, 4])], outs := [(3, [2, 3])] }
def iunes_C : SC := [⟨336, _, isFree_okQ⟩, ⟨335, _, hexOf_okQ⟩]
def iunes_T3 (v3x0 : Bytes) (v3x1 : Int) (v3x2 : (List Int)) (kR3 : Bytes → Int → (List Int) → Option Rs) (k3e0 : (List Int) → Option Rs) : Option Rs :=
  (bif (decide (v3x1 < (v3x0.length : Int))) then (bif (decide (0 ≤ v3x1)) then (bif (decide (v3x1 < (v3x0.length : Int))) then (bif (!(decide ((strAt v3x0 v3x1) = 37))) then (bif (decide (0 ≤ v3x1)) then (bif (decide (v3x1 < (v3x0.length : Int))) then (bif (decide (((v3x2.length + (List.length (List.set (List.replicate 1 0) 0 (strAt v3x0 v3x1)))) * 1) ≤ 140737488355328)) then (kR3 v3x0 (wk64 (v3x1 + 1)) (v3x2 ++ (List.set (List.replicate 1 0) 0 (strAt v3x0 v3x1)))) else (none)) else (none)) else (none)) else (bif (decide ((v3x0.length : Int) ≤ (wk64 (v3x1 + 2)))) then (bif (decide (0 ≤ v3x1)) then (bif (decide (v3x1 < (v3x0.length : Int))) then (bif (decide (((v3x2.length + (List.length (List.set (List.replicate 1 0) 0 (strAt v3x0 v3x1)))) * 1) ≤ 140737488355328)) then (kR3 v3x0 (wk64 (v3x1 + 1)) (v3x2 ++ (List.set (List.replicate 1 0) 0 (strAt v3x0 v3x1)))) else (none)) else (none)) else (none)) else (bif (decide (0 ≤ (wk64 (v3x1 + 1)))) then (bif (decide ((wk64 (v3x1 + 1)) < (v3x0.length : Int))) then (bif (decide ((hexI (strAt v3x0 (wk64 (v3x1 + 1)))) < 0)) then (bif (decide (0 ≤ v3x1)) then (bif (decide (v3x1 < (v3x0.length : Int))) then (bif (decide (((v3x2.length + (List.length (List.set (List.replicate 1 0) 0 (strAt v3x0 v3x1)))) * 1) ≤ 140737488355328)) then (kR3 v3x0 (wk64 (v3x1 + 1)) (v3x2 ++ (List.set (List.replicate 1 0) 0 (strAt v3x0 v3x1)))) else (none)) else (none)) else (none)) else (bif (decide (0 ≤ (wk64 (v3x1 + 2)))) then (bif (decide ((wk64 (v3x1 + 2)) < (v3x0.length : Int))) then (bif (decide ((hexI (strAt v3x0 (wk64 (v3x1 + 2)))) < 0)) then (bif (decide (0 ≤ v3x1)) then (bif (decide (v3x1 < (v3x0.length : Int))) then (bif (decide (((v3x2.length + (List.length (List.set (List.replicate 1 0) 0 (strAt v3x0 v3x1)))) * 1) ≤ 140737488355328)) then (kR3 v3x0 (wk64 (v3x1 + 1)) (v3x2 ++ (List.set (List.replicate 1 0) 0 (strAt v3x0 v3x1)))) else (none)) else (none)) else (none)) else (bif (decide (0 ≤ (wk64 (v3x1 + 1)))) then (bif (decide ((wk64 (v3x1 + 1)) < (v3x0.length : Int))) then (bif (decide (0 ≤ (wk64 (v3x1 + 2)))) then (bif (decide ((wk64 (v3x1 + 2)) < (v3x0.length : Int))) then (bif (freeB (wk8 (wk64 ((wk64 (16 * (hexI (strAt v3x0 (wk64 (v3x1 + 1)))))) + (hexI (strAt v3x0 (wk64 (v3x1 + 2)))))))) then (bif (decide (((v3x2.length + (List.length (List.set (List.replicate 1 0) 0 (wk8 (wk64 ((wk64 (16 * (hexI (strAt v3x0 (wk64 (v3x1 + 1)))))) + (hexI (strAt v3x0 (wk64 (v3x1 + 2)))))))))) * 1) ≤ 140737488355328)) then (kR3 v3x0 (wk64 ((wk64 (v3x1 + 2)) + 1)) (v3x2 ++ (List.set (List.replicate 1 0) 0 (wk8 (wk64 ((wk64 (16 * (hexI (strAt v3x0 (wk64 (v3x1 + 1)))))) + (hexI (strAt v3x0 (wk64 (v3x1 + 2)))))))))) else (none)) else (bif (decide (0 ≤ (Int.fdiv (wk8 (wk64 ((wk64 (16 * (hexI (strAt v3x0 (wk64 (v3x1 + 1)))))) + (hexI (strAt v3x0 (wk64 (v3x1 + 2))))))) 16))) then (bif (decide ((Int.fdiv (wk8 (wk64 ((wk64 (16 * (hexI (strAt v3x0 (wk64 (v3x1 + 1)))))) + (hexI (strAt v3x0 (wk64 (v3x1 + 2))))))) 16) < 16)) then (bif (decide (0 ≤ (wkk .u8 (((BitVec.toNat ((BitVec.ofInt 8 (wk8 (wk64 ((wk64 (16 * (hexI (strAt v3x0 (wk64 (v3x1 + 1)))))) + (hexI (strAt v3x0 (wk64 (v3x1 + 2)))))))) &&& (BitVec.ofInt 8 15))) : Nat) : Int)))) then (bif (decide ((wkk .u8 (((BitVec.toNat ((BitVec.ofInt 8 (wk8 (wk64 ((wk64 (16 * (hexI (strAt v3x0 (wk64 (v3x1 + 1)))))) + (hexI (strAt v3x0 (wk64 (v3x1 + 2)))))))) &&& (BitVec.ofInt 8 15))) : Nat) : Int)) < 16)) then (bif (decide (((v3x2.length + (List.length (List.set (List.set (List.set (List.replicate 3 0) 0 37) 1 (strAt ([48, 49, 50, 51, 52, 53, 54, 55, 56, 57, 65, 66, 67, 68, 69, 70] : Bytes) (Int.fdiv (wk8 (wk64 ((wk64 (16 * (hexI (strAt v3x0 (wk64 (v3x1 + 1)))))) + (hexI (strAt v3x0 (wk64 (v3x1 + 2))))))) 16))) 2 (strAt ([48, 49, 50, 51, 52, 53, 54, 55, 56, 57, 65, 66, 67, 68, 69, 70] : Bytes) (wkk .u8 (((BitVec.toNat ((BitVec.ofInt 8 (wk8 (wk64 ((wk64 (16 * (hexI (strAt v3x0 (wk64 (v3x1 + 1)))))) + (hexI (strAt v3x0 (wk64 (v3x1 + 2)))))))) &&& (BitVec.ofInt 8 15))) : Nat) : Int)))))) * 1) ≤ 140737488355328)) then (kR3 v3x0 (wk64 ((wk64 (v3x1 + 2)) + 1)) (v3x2 ++ (List.set (List.set (List.set (List.replicate 3 0) 0 37) 1 (strAt ([48, 49, 50, 51, 52, 53, 54, 55, 56, 57, 65, 66, 67, 68, 69, 70] : Bytes) (Int.fdiv (wk8 (wk64 ((wk64 (16 * (hexI (strAt v3x0 (wk64 (v3x1 + 1)))))) + (hexI (strAt v3x0 (wk64 (v3x1 + 2))))))) 16))) 2 (strAt ([48, 49, 50, 51, 52, 53, 54, 55, 56, 57, 65, 66, 67, 68, 69, 70] : Bytes) (wkk .u8 (((BitVec.toNat ((BitVec.ofInt 8 (wk8 (wk64 ((wk64 (16 * (hexI (strAt v3x0 (wk64 (v3x1 + 1)))))) + (hexI (strAt v3x0 (wk64 (v3x1 + 2)))))))) &&& (BitVec.ofInt 8 15))) : Nat) : Int)))))) else (none)) else (none)) else (none)) else (none)) else (none))) else (none)) else (none)) else (none)) else (none))) else (none)) else (none))) else (none)) else (none)))) else (none)) else (none)) else (k3e0 v3x2))
def iunes_F3 : Nat → Bytes → Int → (List Int) → ((List Int) → Option Rs) → Option Rs
  | 0, _, _, _, _ => none
  | n + 1, v3x0, v3x1, v3x2, k3e0 => iunes_T3 v3x0 v3x1 v3x2 (fun v3x0 v3x1 v3x2 => iunes_F3 n v3x0 v3x1 v3x2 k3e0) k3e0
abbrev iunes_p3 : SP := ⟨77, [0, 3, 4], [(.v .s), (.v (.ref 256 0)), (.v (.i .i64))], [(256, .arr (Ty.int .u8) 0 false)]⟩
noncomputable def iunes_b3 : Code := codeAt (codeOf Tryz.f319) [1, 1, 0, 1, 0, 0]
def iunes_E3 (f : ((List Int) → Option Rs) → Option Rs) (k : KT) : Option Rs := f (fun x3x0x0 => k (Ex.exit 0) ((St.mk (slots 0 77 [(3, (AV.ref 256 0))]) ((256, (Ob.arr (Ty.int .u8) 0 false x3x0x0)) :: ([] : (List (Nat × (Ob))))))))
def iunes_G3 (n : Nat) (d : iunes_p3.D) : KT → Option Rs := iunes_E3 (iunes_F3 n d.1.1 d.1.2.2.1 d.2.1)
def iunes_L (N : Nat) : Lam := lamOf [⟨3, iunes_p3, iunes_G3 N⟩]
theorem iunes_ok3 (N : Nat) : OkL Kx iunes_C.s iunes_O 0 N (iunes_L N) iunes_b3 := okL iunes_p3 (iunes_G3) (fun d kR => iunes_E3 (iunes_T3 d.1.1 d.1.2.2.1 d.2.1 (fun v3x0 v3x1 v3x2 => kR ((v3x0, (), v3x1, ()), (v3x2, ()))))) (fun _ _ => by kernel_rfl) (fun _ _ _ => by kernel_rfl) (fun _ _ => by kernel_rfl) (fun _ _ _ _ => by kernel_rfl) (okEach (l' := []) (by kernel_rfl) trivial)
def iunes_run (N : Nat) (s : Bytes) : Option Rs := (iunes_F3 N s 0 ([] : (List Int)) (fun x3x0x0 => (some ((AV.str (ofBytes x3x0x0)), []))))
def iunes_sOf (φ : Bytes → Br) : List AV → List Ob → Br
  | [.str s], [] => φ s
  | _, _ => .fail
theorem iunes_okOf {φ : Bytes → Br} (fu : Bytes → Nat) (hv : ∀ s res_, (φ s).val = some res_ → iunes_run (fu s) s = some res_) : Sound Kx 319 (iunes_sOf φ) := sound_lp (C := iunes_C) (O := iunes_O) Tryz.func319 (by kernel_rfl) fun args objs => by
  unfold iunes_sOf; split
  · rename_i s; exact .inr fun _ hyp_ => run_lp (Λ := iunes_L (fu s)) (by kernel_rfl) (okEach (l' := [iunes_b3]) (by kernel_rfl) ⟨iunes_ok3 _, trivial⟩) (by kernel_rfl) (hv s _ hyp_)
  · exact .inl rfl

def allHost_O : Opt := { live := [(2, [0, 1, 5])], outs := [(2, [4])] }
def allHost_C : SC := [⟨337, _, hostB_okQ⟩]
def allHost_T2 (v2x0 : Bytes) (v2x1 : Int) (kR2 : Bytes → Int → Option Rs) (k2e0 k2e1 : Option Rs) : Option Rs :=
  (bif (decide (v2x1 < (v2x0.length : Int))) then (bif (decide (0 ≤ v2x1)) then (bif (decide (v2x1 < (v2x0.length : Int))) then (bif (!(hoB (strAt v2x0 v2x1))) then k2e0 else (kR2 v2x0 (wk64 (v2x1 + 1)))) else (none)) else (none)) else k2e1)
def allHost_F2 : Nat → Bytes → Int → (Option Rs) → (Option Rs) → Option Rs
  | 0, _, _, _, _ => none
  | n + 1, v2x0, v2x1, k2e0, k2e1 => allHost_T2 v2x0 v2x1 (fun v2x0 v2x1 => allHost_F2 n v2x0 v2x1 k2e0 k2e1) k2e0 k2e1
abbrev allHost_p2 : SP := ⟨18, [0, 1, 5], [(.v .s), (.v (.fn 337 [])), (.v (.i .i64))], []⟩
noncomputable def allHost_b2 : Code := codeAt (codeOf Tryz.f74) [1, 0, 1, 0, 0]
def allHost_E2 (f : (Option Rs) → (Option Rs) → Option Rs) (k : KT) : Option Rs := f (k Ex.ret ((St.mk (slots 0 18 [(4, (AV.bool false))]) ([] : (List (Nat × (Ob))))))) (k (Ex.exit 0) ((St.mk (slots 0 18 []) ([] : (List (Nat × (Ob)))))))
def allHost_G2 (n : Nat) (d : allHost_p2.D) : KT → Option Rs := allHost_E2 (allHost_F2 n d.1.1 d.1.2.2.1)
def allHost_L (N : Nat) : Lam := lamOf [⟨2, allHost_p2, allHost_G2 N⟩]
theorem allHost_ok2 (N : Nat) : OkL Kx allHost_C.s allHost_O 0 N (allHost_L N) allHost_b2 := okL allHost_p2 (allHost_G2) (fun d kR => allHost_E2 (allHost_T2 d.1.1 d.1.2.2.1 (fun v2x0 v2x1 => kR ((v2x0, (), v2x1, ()), ())))) (fun _ _ => by kernel_rfl) (fun _ _ _ => by kernel_rfl) (fun _ _ => by kernel_rfl) (fun _ _ _ _ => by kernel_rfl) (okEach (l' := []) (by kernel_rfl) trivial)
def allHost_run (N : Nat) (s : Bytes) : Option Rs := (allHost_F2 N s 0 (some ((AV.bool false), [])) (some ((AV.bool true), [])))
def allHost_sOf (φ : Bytes → Br) : List AV → List Ob → Br
  | [.str s, .fn 337 []], [] => φ s
  | _, _ => .fail
theorem allHost_okOf {φ : Bytes → Br} (fu : Bytes → Nat) (hv : ∀ s res_, (φ s).val = some res_ → allHost_run (fu s) s = some res_) : Sound Kx 74 (allHost_sOf φ) := sound_lp (C := allHost_C) (O := allHost_O) Tryz.func74 (by kernel_rfl) fun args objs => by
  unfold allHost_sOf; split
  · rename_i s; exact .inr fun _ hyp_ => run_lp (Λ := allHost_L (fu s)) (by kernel_rfl) (okEach (l' := [allHost_b2]) (by kernel_rfl) ⟨allHost_ok2 _, trivial⟩) (by kernel_rfl) (hv s _ hyp_)
  · exact .inl rfl

def iDecT_C : SC := [⟨201, _, iwithin_ok⟩, ⟨232, _, itoa_ok⟩]
def iDecT_br (n : Int) : Br := (Br.ite (decide (0 ≤ n)) (Br.ite (!(decide (n ≤ 999999999999999))) (Br.ret (AV.str ([] : Bytes)) []) (Br.ite (num15 n) (Br.ret (AV.str (decD n)) []) Br.fail)) (Br.ret (AV.str ([] : Bytes)) []))
def iDecT_s : List AV → List Ob → Br
  | [.int .i64 n], [] => iDecT_br n
  | _, _ => .fail
theorem iDecT_ok : Sound Kx 316 iDecT_s := sound_br (C := iDecT_C) (O := O0) Tryz.func316 (by kernel_rfl) fun args objs => by
  unfold iDecT_s; split
  · exact .inr (by kernel_rfl)
  · exact .inl rfl


theorem tab_fin : ∀ k : Fin 256, 0 ≤ hexI (k.val : Int) → strAt hexTab (hexI (k.val : Int)) = upI (k.val : Int) := by decide +kernel
theorem tab_up (a : UInt8) (h : 0 ≤ hexI (by8 a)) : strAt hexTab (hexI (by8 a)) = upI (by8 a) := tab_fin ⟨a.toNat, a.toNat_lt⟩ h
theorem up_fin : ∀ k : Fin 256, 0 ≤ upI (k.val : Int) ∧ upI (k.val : Int) < 256 := by decide +kernel
theorem up_bd (a : UInt8) : 0 ≤ upI (by8 a) ∧ upI (by8 a) < 256 := up_fin ⟨a.toNat, a.toNat_lt⟩
theorem and_fin : ∀ x y : Fin 16, IntKind.u8.wrap ((BitVec.ofInt 8 (16 * (x.val : Int) + (y.val : Int)) &&& BitVec.ofInt 8 15).toNat : Int) = (y.val : Int) := by decide +kernel
theorem and_low (x y : Int) (hx : 0 ≤ x) (hx' : x < 16) (hy : 0 ≤ y) (hy' : y < 16) : wkk .u8 ((BitVec.ofInt 8 (16 * x + y) &&& BitVec.ofInt 8 15).toNat : Int) = y := by
  have h := and_fin ⟨x.toNat, by omega⟩ ⟨y.toNat, by omega⟩
  simp only at h
  rw [show ((x.toNat : Nat) : Int) = x by omega, show ((y.toNat : Nat) : Int) = y by omega] at h
  rw [wkk_eq]; exact h
theorem by8_ofNat (n : Int) (h0 : 0 ≤ n) (h1 : n < 256) : by8 (UInt8.ofNat n.toNat) = n := by
  unfold by8; rw [UInt8.toNat_ofNat']; omega
theorem bytesOf_cons (c : UInt8) (r : Bytes) : bytesOf (c :: r) = by8 c :: bytesOf r := rfl
theorem bytesOf_app (a b : Bytes) : bytesOf (a ++ b) = bytesOf a ++ bytesOf b := by simp [bytesOf]
theorem pct_cons (c a b : UInt8) (r : Bytes) : pctP (c :: a :: b :: r) = bif isPct c a b then pctOne a b ++ pctP r else c :: pctP (a :: b :: r) := by rw [pctP]
theorem pctOne_bytes (a b : UInt8) (h0 : 0 ≤ pairI a b) (h1 : pairI a b < 256) : bytesOf (pctOne a b) = bif freeB (pairI a b) then [pairI a b] else [37, upI (by8 a), upI (by8 b)] := by
  have ha := up_bd a
  have hb := up_bd b
  unfold pctOne
  cases freeB (pairI a b)
  · simp only [cond_false, bytesOf_cons, by8_ofNat _ ha.1 ha.2, by8_ofNat _ hb.1 hb.2]; rfl
  · simp only [cond_true, bytesOf_cons, by8_ofNat _ h0 h1]; rfl
theorem cond_of {α : Type} {b : Bool} {x y : α} (h : b = true) : (bif b then x else y) = x := by rw [h]; rfl
theorem set3 (a b c : Int) : List.set (List.set (List.set (List.replicate 3 (0 : Int)) 0 a) 1 b) 2 c = [a, b, c] := rfl
theorem hexTab_eq : ((48 : UInt8) :: ((49 : UInt8) :: ((50 : UInt8) :: ((51 : UInt8) :: ((52 : UInt8) :: ((53 : UInt8) :: ((54 : UInt8) :: ((55 : UInt8) :: ((56 : UInt8) :: ((57 : UInt8) :: ((65 : UInt8) :: ((66 : UInt8) :: ((67 : UInt8) :: ((68 : UInt8) :: ((69 : UInt8) :: ((70 : UInt8) :: ([] : (List UInt8)))))))))))))))))) = hexTab := rfl
theorem iunes_loop (s : Bytes) (hl : s.length ≤ 1000000) (k : List Int → Option Rs) : ∀ (n : Nat) (r : Bytes) (i : Int) (out : List Int), At s i r → r.length < n → out.length + r.length ≤ s.length →
    iunes_F3 n s i out k = k (out ++ bytesOf (pctP r)) := by
  intro n; induction n with
  | zero => intro r i out h hn; omega
  | succ n ih =>
    intro r i out h hn ho
    cases r with
    | nil => unfold iunes_F3 iunes_T3; simp only [h.dge, cond_false, pctP]; simp [bytesOf]
    | cons c r =>
      simp only [List.length_cons] at hn ho
      have hap : decide ((out.length + [by8 c].length) * 1 ≤ 140737488355328) = true := decide_eq_true (by simp only [List.length_singleton]; omega)
      have hi := h.nn
      have hle := h.le
      simp only [List.length_cons] at hle
      have w1 : wk64 (i + 1) = i + 1 := w64 (by omega) (by omega)
      have w2 : wk64 (i + 2) = i + 2 := w64 (by omega) (by omega)
      have hstep := ih r (i + 1) (out ++ [by8 c]) h.step (by omega) (by simp; omega)
      have hst' : k (out ++ [by8 c] ++ bytesOf (pctP r)) = k (out ++ by8 c :: bytesOf (pctP r)) := by simp
      rw [hst'] at hstep
      unfold iunes_F3 iunes_T3
      simp only [h.dlt, h.dnn, h.str, cond_true, one_set, hap, w1, w2, hstep]
      cases c1 : decide (by8 c = 37)
      · simp only [Bool.not_false, cond_true]
        have e : ∀ a b, isPct c a b = false := fun a b => by unfold isPct; rw [c1]; rfl
        cases r with
        | nil => rfl
        | cons a r => cases r with
          | nil => rfl
          | cons b r => rw [pct_cons, e a b, cond_false]; rfl
      · simp only [Bool.not_true, cond_false]
        cases r with
        | nil =>
          rw [decide_eq_true (show (s.length : Int) ≤ i + 2 by simp at hle; omega), cond_true]; rfl
        | cons a r => cases r with
          | nil =>
            rw [decide_eq_true (show (s.length : Int) ≤ i + 2 by simp at hle; omega), cond_true]; rfl
          | cons b r =>
            simp only [List.length_cons] at hle hn ho
            have h2 := h.step
            have h3 := h2.step
            have e2 : i + 1 + 1 = i + 2 := by omega
            rw [e2] at h3
            rw [decide_eq_false (show ¬ (s.length : Int) ≤ i + 2 by omega), cond_false, pct_cons]
            simp only [h2.dlt, h2.dnn, h2.str, h3.dlt, h3.dnn, h3.str, cond_true]
            unfold isPct
            rw [c1, Bool.true_and]
            have hxa := hexI_lt (by8 a)
            have hxb := hexI_lt (by8 b)
            cases c2 : decide (hexI (by8 a) < 0)
            · cases c3 : decide (hexI (by8 b) < 0)
              · have g2 := of_decide_eq_false c2
                have g3 := of_decide_eq_false c3
                have hp : wk8 (wk64 (wk64 (16 * hexI (by8 a)) + hexI (by8 b))) = pairI a b := by unfold pairI; simp (disch := omega) only [w8, w64]
                have p0 : 0 ≤ pairI a b := by unfold pairI; omega
                have p1 : pairI a b < 256 := by unfold pairI; omega
                have hd : (pairI a b).fdiv 16 = hexI (by8 a) := by unfold pairI; rw [Int.fdiv_eq_ediv_of_nonneg _ (by decide)]; omega
                have hm : wkk .u8 ((BitVec.ofInt 8 (pairI a b) &&& BitVec.ofInt 8 15).toNat : Int) = hexI (by8 b) := and_low _ _ (by omega) hxa (by omega) hxb
                have w3 : wk64 (i + 2 + 1) = i + 3 := by rw [w64 (by omega) (by omega)]; omega
                have ha3 : decide ((out.length + [37, upI (by8 a), upI (by8 b)].length) * 1 ≤ 140737488355328) = true := decide_eq_true (by simp only [List.length_cons, List.length_nil]; omega)
                have ha1 : decide ((out.length + [pairI a b].length) * 1 ≤ 140737488355328) = true := decide_eq_true (by simp only [List.length_cons, List.length_nil]; omega)
                have q1 : decide (0 ≤ hexI (by8 a)) = true := decide_eq_true (by omega)
                have q2 : decide (hexI (by8 a) < 16) = true := decide_eq_true hxa
                have q3 : decide (0 ≤ hexI (by8 b)) = true := decide_eq_true (by omega)
                have q4 : decide (hexI (by8 b) < 16) = true := decide_eq_true hxb
                simp only [hp, hd, hm, Bool.not_false, Bool.and_self, cond_true, cond_false, bytesOf_app, pctOne_bytes a b p0 p1, set3, hexTab_eq, tab_up a (by omega), tab_up b (by omega), w3, one_set, ha3, ha1, q1, q2, q3, q4]
                have h4 := h3.step
                rw [show i + 2 + 1 = i + 3 by omega] at h4
                cases freeB (pairI a b)
                · have := ih r (i + 3) (out ++ [37, upI (by8 a), upI (by8 b)]) h4 (by omega) (by simp; omega)
                  rw [cond_false, this, List.append_assoc]; rfl
                · have := ih r (i + 3) (out ++ [pairI a b]) h4 (by omega) (by simp; omega)
                  rw [cond_true, this, List.append_assoc]; rfl
              · simp only [Bool.not_false, Bool.not_true, Bool.and_false, cond_true, cond_false]; rfl
            · simp only [Bool.not_true, Bool.false_and, cond_true, cond_false]; rfl
def un8_s : List AV → List Ob → Br
  | [.str s], [] => .ite (decide (s.length ≤ 1000000)) (.ret (.str (pctP s)) []) .fail
  | _, _ => .fail
theorem iunes_okQ : Sound Kx 319 un8_s := by
  refine (iunes_okOf (φ := fun s => .ite (decide (s.length ≤ 1000000)) (.ret (.str (pctP s)) []) .fail) (fun s => s.length + 1) fun s r h => ?_).of fun args objs r h => ?_
  · obtain ⟨h1, h2⟩ := ite_some h
    cases h2
    rw [decide_eq_true_eq] at h1
    unfold iunes_run
    rw [iunes_loop s h1 _ _ s 0 [] (At.start s) (by omega) (by simp), List.nil_append, ofBytes_map]
  · unfold un8_s at h; split at h
    · exact h
    · cases h
theorem allHost_loop (l : Bytes) (hl : l.length ≤ 4611686018427387904) (k0 k1 : Option Rs) : ∀ (r : Bytes) (i : Int) (n : Nat), At l i r → r.length < n → allHost_F2 n l i k0 k1 = bif allP hoB r then k1 else k0 := by
  intro r; induction r with
  | nil => intro i n h hn; obtain ⟨n, rfl⟩ := fuel hn; unfold allHost_F2 allHost_T2; simp only [h.dge, cond_false, allP, List.all_nil, cond_true]
  | cons a r ih =>
    intro i n h hn; obtain ⟨n, rfl⟩ := fuel hn
    have hs := ih (i + 1) n h.step (by simp at hn; omega)
    unfold allHost_F2 allHost_T2; simp only [h.dlt, h.dnn, h.str, cond_true, h.next hl, hs, allP, List.all_cons]
    cases hoB (by8 a) <;> rfl
def allHost_s := allHost_sOf fun s => .ite (isM s) (.ret (.bool (allP hoB s)) []) .fail
theorem allHost_okQ : Sound Kx 74 allHost_s := by
  refine allHost_okOf (fun s => s.length + 1) fun s r h => ?_
  obtain ⟨h1, h2⟩ := ite_some h
  unfold allHost_run
  rw [allHost_loop s (isM_le h1) _ _ s 0 _ (At.start s) (by omega), ← h2]
  cases allP hoB s <;> rfl
def dt_s : List AV → List Ob → Br
  | [.int .i64 n], [] => .ret (.str (bif num15 n then decD n else [])) []
  | _, _ => .fail
theorem iDecT_okQ : Sound Kx 316 dt_s := iDecT_ok.of fun args objs r h => by
  unfold dt_s at h
  split at h
  case h_2 => cases h
  rename_i n
  cases h
  show (iDecT_br n).val = _
  unfold iDecT_br num15
  cases decide (0 ≤ n) <;> cases decide (n ≤ 999999999999999) <;> rfl

def iClean_O : Opt := { cons := [49], live := [(6, [3, 4, 29, 30, 31])], outs := [(6, [2, 3, 4])] }
def iClean_C : SC := [⟨117, _, hpS_ok⟩, ⟨74, _, allVis_okQ⟩, ⟨317, _, coAny_okQ⟩, ⟨319, _, iunes_okQ⟩, ⟨318, _, split_okQ⟩, ⟨223, _, join_okQ⟩]
def iClean_T6 (v6x0 v6x1 : (List Bytes)) (v6x2 v6x3 : Int) (v6x4 : (List Bytes)) (kR6 : (List Bytes) → (List Bytes) → Int → Int → (List Bytes) → Option Rs) (k6e0 : (List Bytes) → (List Bytes) → Option Rs) : Option Rs :=
  (bif (decide (v6x3 < v6x2)) then (bif (decide (0 ≤ v6x3)) then (bif (decide (v6x3 < (v6x1.length : Int))) then (bif (decide ((List.getD v6x1 (Int.toNat v6x3) ([] : Bytes)) = ([46] : Bytes))) then (kR6 v6x0 v6x1 v6x2 (wk64 (v6x3 + 1)) v6x4) else (bif (decide ((List.getD v6x1 (Int.toNat v6x3) ([] : Bytes)) = ([46, 46] : Bytes))) then (bif (decide (0 ≤ (if (0 < (wk64 ((v6x4.length : Int) - 1))) then (wk64 ((v6x4.length : Int) - 1)) else 0))) then (bif (decide ((if (0 < (wk64 ((v6x4.length : Int) - 1))) then (wk64 ((v6x4.length : Int) - 1)) else 0) ≤ (v6x4.length : Int))) then (kR6 v6x0 v6x1 v6x2 (wk64 (v6x3 + 1)) (cut v6x4 0 (if (0 < (wk64 ((v6x4.length : Int) - 1))) then (wk64 ((v6x4.length : Int) - 1)) else 0))) else (none)) else (none)) else (bif (decide (((v6x4.length + (List.length (List.set (List.replicate 1 ([] : Bytes)) 0 (List.getD v6x1 (Int.toNat v6x3) ([] : Bytes))))) * 16) ≤ 140737488355328)) then (kR6 v6x0 v6x1 v6x2 (wk64 (v6x3 + 1)) (v6x4 ++ (List.set (List.replicate 1 ([] : Bytes)) 0 (List.getD v6x1 (Int.toNat v6x3) ([] : Bytes))))) else (none)))) else (none)) else (none)) else (k6e0 v6x0 v6x4))
def iClean_F6 : Nat → (List Bytes) → (List Bytes) → Int → Int → (List Bytes) → ((List Bytes) → (List Bytes) → Option Rs) → Option Rs
  | 0, _, _, _, _, _, _ => none
  | n + 1, v6x0, v6x1, v6x2, v6x3, v6x4, k6e0 => iClean_T6 v6x0 v6x1 v6x2 v6x3 v6x4 (fun v6x0 v6x1 v6x2 v6x3 v6x4 => iClean_F6 n v6x0 v6x1 v6x2 v6x3 v6x4 k6e0) k6e0
abbrev iClean_p6 : SP := ⟨69, [3, 4, 29, 30, 31], [(.v (.ref 256 0)), (.v (.sh Ty.str)), (.v (.sh Ty.str)), (.v (.i .i64)), (.v (.i .i64))], [(256, .arr Ty.str 0 false)]⟩
noncomputable def iClean_b6 : Code := codeAt (codeOf Tryz.f286) [1, 1, 1, 1, 0, 1, 0, 0]
def iClean_E6 (f : ((List Bytes) → (List Bytes) → Option Rs) → Option Rs) (k : KT) : Option Rs := f (fun x6x0x0 x6x0x1 => k (Ex.exit 0) ((St.mk (slots 0 69 [(3, (AV.ref 256 0)), (4, (AV.sh Ty.str x6x0x0))]) ((256, (Ob.arr Ty.str 0 false x6x0x1)) :: ([] : (List (Nat × (Ob))))))))
def iClean_G6 (n : Nat) (d : iClean_p6.D) : KT → Option Rs := iClean_E6 (iClean_F6 n d.1.2.1 d.1.2.2.1 d.1.2.2.2.1 d.1.2.2.2.2.1 d.2.1)
def iClean_L (N : Nat) : Lam := lamOf [⟨6, iClean_p6, iClean_G6 N⟩]
theorem iClean_ok6 (N : Nat) : OkL Kx iClean_C.s iClean_O 0 N (iClean_L N) iClean_b6 := okL iClean_p6 (iClean_G6) (fun d kR => iClean_E6 (iClean_T6 d.1.2.1 d.1.2.2.1 d.1.2.2.2.1 d.1.2.2.2.2.1 d.2.1 (fun v6x0 v6x1 v6x2 v6x3 v6x4 => kR (((), v6x0, v6x1, v6x2, v6x3, ()), (v6x4, ()))))) (fun _ _ => by kernel_rfl) (fun _ _ _ => by kernel_rfl) (fun _ _ => by kernel_rfl) (fun _ _ _ _ => by kernel_rfl) (okEach (l' := []) (by kernel_rfl) trivial)
def iClean_run (N : Nat) (p : Bytes) : Option Rs := (bif (decide (1 ≤ (p.length : Int))) then (bif (decide (1 ≤ (p.length : Int))) then (bif (!(decide ((cut p 0 1) = ([47] : Bytes)))) then (some ((AV.str ([] : Bytes)), [])) else (bif (decide (200 < (p.length : Int))) then (some ((AV.str ([] : Bytes)), [])) else (bif (isM p) then (bif (!(allP isVis p)) then (some ((AV.str ([] : Bytes)), [])) else (bif ((((decide (p.length ≤ 1000000)) && true) && (ascP p)) && true) then (bif (decide (0 ≤ (anyIx p ([35, 63] : Bytes)))) then (some ((AV.str ([] : Bytes)), [])) else (bif (decide (p.length ≤ 1000000)) then (bif (decide (1 ≤ ((List.length (pctP p)) : Int))) then (bif (decide ((List.length (cut (pctP p) 1 ((List.length (pctP p)) : Int))) ≤ 1000000)) then (iClean_F6 N (splP (cut (pctP p) 1 ((List.length (pctP p)) : Int)) 47) (splP (cut (pctP p) 1 ((List.length (pctP p)) : Int)) 47) ((List.length (splP (cut (pctP p) 1 ((List.length (pctP p)) : Int)) 47)) : Int) 0 ([] : (List Bytes)) (fun x6x0x0 => (fun x6x0x1 => (bif (decide (0 ≤ (wk64 ((x6x0x0.length : Int) - 1)))) then (bif (decide ((wk64 ((x6x0x0.length : Int) - 1)) < (x6x0x0.length : Int))) then (bif (decide ((List.getD x6x0x0 (Int.toNat (wk64 ((x6x0x0.length : Int) - 1))) ([] : Bytes)) = ([46] : Bytes))) then (bif (decide (((x6x0x1.length + 1) * 16) ≤ 140737488355328)) then (bif ((decide ((List.length (x6x0x1 ++ (List.set (List.replicate 1 ([] : Bytes)) 0 ([] : Bytes)))) ≤ 1000000)) && (decide ((List.length (joinP (x6x0x1 ++ (List.set (List.replicate 1 ([] : Bytes)) 0 ([] : Bytes))) ([47] : Bytes))) ≤ 1000000))) then (bif (decide ((1 + (List.length (joinP (x6x0x1 ++ (List.set (List.replicate 1 ([] : Bytes)) 0 ([] : Bytes))) ([47] : Bytes)))) ≤ 9223372036854775807)) then (some ((AV.str (([47] : Bytes) ++ (joinP (x6x0x1 ++ (List.set (List.replicate 1 ([] : Bytes)) 0 ([] : Bytes))) ([47] : Bytes)))), [])) else (none)) else (none)) else (none)) else (bif (decide ((List.getD x6x0x0 (Int.toNat (wk64 ((x6x0x0.length : Int) - 1))) ([] : Bytes)) = ([46, 46] : Bytes))) then (bif (decide (((x6x0x1.length + 1) * 16) ≤ 140737488355328)) then (bif ((decide ((List.length (x6x0x1 ++ (List.set (List.replicate 1 ([] : Bytes)) 0 ([] : Bytes)))) ≤ 1000000)) && (decide ((List.length (joinP (x6x0x1 ++ (List.set (List.replicate 1 ([] : Bytes)) 0 ([] : Bytes))) ([47] : Bytes))) ≤ 1000000))) then (bif (decide ((1 + (List.length (joinP (x6x0x1 ++ (List.set (List.replicate 1 ([] : Bytes)) 0 ([] : Bytes))) ([47] : Bytes)))) ≤ 9223372036854775807)) then (some ((AV.str (([47] : Bytes) ++ (joinP (x6x0x1 ++ (List.set (List.replicate 1 ([] : Bytes)) 0 ([] : Bytes))) ([47] : Bytes)))), [])) else (none)) else (none)) else (none)) else (bif ((decide (x6x0x1.length ≤ 1000000)) && (decide ((List.length (joinP x6x0x1 ([47] : Bytes))) ≤ 1000000))) then (bif (decide ((1 + (List.length (joinP x6x0x1 ([47] : Bytes)))) ≤ 9223372036854775807)) then (some ((AV.str (([47] : Bytes) ++ (joinP x6x0x1 ([47] : Bytes)))), [])) else (none)) else (none)))) else (none)) else (none))))) else (none)) else (none)) else (none))) else (none))) else (none)))) else (none)) else (some ((AV.str ([] : Bytes)), [])))
def iClean_sOf (φ : Bytes → Br) : List AV → List Ob → Br
  | [.str p], [] => φ p
  | _, _ => .fail
theorem iClean_okOf {φ : Bytes → Br} (fu : Bytes → Nat) (hv : ∀ p res_, (φ p).val = some res_ → iClean_run (fu p) p = some res_) : Sound Kx 286 (iClean_sOf φ) := sound_lp (C := iClean_C) (O := iClean_O) Tryz.func286 (by kernel_rfl) fun args objs => by
  unfold iClean_sOf; split
  · rename_i p; exact .inr fun _ hyp_ => run_lp (Λ := iClean_L (fu p)) (by kernel_rfl) (okEach (l' := [iClean_b6]) (by kernel_rfl) ⟨iClean_ok6 _, trivial⟩) (by kernel_rfl) (hv p _ hyp_)
  · exact .inl rfl

def iHost_C : SC := [⟨201, _, iwithin_ok⟩, ⟨74, _, allHost_okQ⟩, ⟨318, _, split_okQ⟩, ⟨103, _, conS_okQ⟩]
def iHost_br (s : Bytes) : Br := (Br.ite (decide (1 ≤ (s.length : Int))) (Br.ite (!(decide ((s.length : Int) ≤ 60))) (Br.ret (AV.bool false) []) (Br.ite (isM s) (Br.ite (!(allP hoB s)) (Br.ret (AV.bool false) []) (Br.ite (decide (s.length ≤ 1000000)) (Br.ite (decide ((List.length (splP s 46)) ≤ 1000000)) (Br.ret (AV.bool (!(inP (splP s 46) ([] : Bytes)))) []) Br.fail) Br.fail)) Br.fail)) (Br.ret (AV.bool false) []))
def iHost_s : List AV → List Ob → Br
  | [.str s], [] => iHost_br s
  | _, _ => .fail
theorem iHost_ok : Sound Kx 320 iHost_s := sound_br (C := iHost_C) (O := O0) Tryz.func320 (by kernel_rfl) fun args objs => by
  unfold iHost_s; split
  · exact .inr (by kernel_rfl)
  · exact .inl rfl

def iReadDec_C : SC := [⟨315, _, atoi_okQ⟩, ⟨201, _, iwithin_ok⟩, ⟨316, _, iDecT_okQ⟩]
def iReadDec_br (s : Bytes) : Br := (Br.ite (decide (s.length ≤ 1000000)) (Br.ite (atoiOk s) (Br.ite (decide (0 ≤ (atoiV s))) (Br.ite (!(decide ((atoiV s) ≤ 999999999999999))) (Br.ret (AV.tup ((AV.int .i64 0) :: ((AV.bool false) :: []))) []) (Br.ite (!(decide ((bif (num15 (atoiV s)) then (decD (atoiV s)) else ([] : Bytes)) = s))) (Br.ret (AV.tup ((AV.int .i64 0) :: ((AV.bool false) :: []))) []) (Br.ret (AV.tup ((AV.int .i64 (atoiV s)) :: ((AV.bool true) :: []))) []))) (Br.ret (AV.tup ((AV.int .i64 0) :: ((AV.bool false) :: []))) [])) (Br.ret (AV.tup ((AV.int .i64 0) :: ((AV.bool false) :: []))) [])) Br.fail)
def iReadDec_s : List AV → List Ob → Br
  | [.str s], [] => iReadDec_br s
  | _, _ => .fail
theorem iReadDec_ok : Sound Kx 285 iReadDec_s := sound_br (C := iReadDec_C) (O := O0) Tryz.func285 (by kernel_rfl) fun args objs => by
  unfold iReadDec_s; split
  · exact .inr (by kernel_rfl)
  · exact .inl rfl


def slashP : List Bytes → Bytes
  | [] => []
  | w :: r => 47 :: (w ++ slashP r)
theorem slash_cons (w : Bytes) (r : List Bytes) : slashP (w :: r) = 47 :: (w ++ slashP r) := rfl
theorem andT {a b : Bool} (h : a = true) (k : b = true) : (a && b) = true := by rw [h, k]; rfl
theorem slash_tail (l : List Bytes) : Lib.joinTail [47] l = slashP l := by
  induction l with
  | nil => rfl
  | cons w r ih =>
    unfold slashP
    rw [← ih]
    simp [Lib.joinTail]
theorem slash_join (l : List Bytes) : 47 :: joinP l [47] = bif decide (slashP l = []) then [47] else slashP l := by
  cases l with
  | nil => rfl
  | cons w r =>
    unfold joinP
    rw [Lib.join_cons, slash_tail, slash_cons, decide_eq_false (by simp)]; rfl
theorem slash_app (a b : List Bytes) : slashP (a ++ b) = slashP a ++ slashP b := by
  induction a with
  | nil => rfl
  | cons w a ih => simp only [List.cons_append, slashP, ih]; simp
theorem slash_len (l : List Bytes) : l.length ≤ (slashP l).length := by
  induction l with
  | nil => exact Nat.le_refl _
  | cons w r ih => simp only [slashP, List.length_cons, List.length_append]; omega
theorem slash_spl (b : Int) : ∀ (r cur : Bytes), (slashP (splR b cur r)).length = cur.length + r.length + 1
  | [], cur => by simp [splR, slashP]
  | x :: r, cur => by
    rw [splR_cons]
    cases decide (by8 x = b)
    · rw [cond_false, slash_spl b r]; simp; try omega
    · rw [cond_true]; simp only [slashP, List.length_cons, List.length_append, slash_spl b r]; simp; try omega
theorem slash_drop (l : List Bytes) : (slashP l.dropLast).length ≤ (slashP l).length := by
  cases h : l.reverse with
  | nil => have : l = [] := by simpa using h
           subst this; exact Nat.le_refl _
  | cons w r =>
    have e : l = r.reverse ++ [w] := by rw [← List.reverse_reverse l, h]; simp
    rw [e, List.dropLast_concat, slash_app]; simp
theorem slash_step (out : List Bytes) (w : Bytes) : (slashP (stepS out w)).length ≤ (slashP out).length + w.length + 1 := by
  unfold stepS
  cases decide (w = [46])
  · cases decide (w = [46, 46])
    · simp only [cond_false, slash_app, List.length_append, slashP, List.length_cons]; simp; omega
    · have := slash_drop out; simp only [cond_true, cond_false]; omega
  · rw [cond_true]; omega
theorem slash_fold : ∀ (l out : List Bytes), (slashP (l.foldl stepS out)).length ≤ (slashP out).length + (slashP l).length
  | [], out => by simp
  | w :: l, out => by
    have h1 := slash_step out w
    have h2 := slash_fold l (stepS out w)
    simp only [List.foldl_cons, slashP, List.length_cons, List.length_append]; omega
theorem slash_segs (l : List Bytes) : (slashP (segsP l)).length ≤ (slashP l).length + 1 := by
  unfold segsP
  have := slash_fold l []
  rw [slash_app]
  cases dotB (l.getLastD [])
  · simp [slashP] at this ⊢; omega
  · simp [slashP] at this ⊢; omega
theorem fold_len (l : List Bytes) : ∀ out : List Bytes, (l.foldl stepS out).length ≤ out.length + l.length := by
  induction l with
  | nil => intro out; simp
  | cons w l ih => intro out; have := ih (stepS out w); have := stepS_len out w; simp only [List.foldl_cons, List.length_cons]; omega
theorem join_len (l : List Bytes) : (joinP l [47]).length ≤ (slashP l).length := by
  have := congrArg List.length (slash_join l)
  simp only [List.length_cons] at this
  cases h : decide (slashP l = [])
  · rw [h, cond_false] at this; omega
  · rw [h, cond_true] at this; simp only [List.length_cons, List.length_nil] at this; omega
theorem cut_last (l : List Bytes) (v : Int) (h : v = ((l.length - 1 : Nat) : Int)) : cut l 0 v = l.dropLast := by
  subst h
  unfold cut
  rw [Int.toNat_natCast]
  simp [List.dropLast_eq_take]
theorem getD_last : ∀ (l : List Bytes), l ≠ [] → l.getD (l.length - 1) [] = l.getLastD []
  | [], h => absurd rfl h
  | [w], _ => rfl
  | w :: x :: r, _ => by
    have ih := getD_last (x :: r) (by simp)
    simp only [List.length_cons, Nat.add_sub_cancel] at ih ⊢
    rw [List.getD_cons_succ, ih]
    rfl

theorem iClean_loop (l0 l : List Bytes) (hl : l.length ≤ 1000000) (k : List Bytes → List Bytes → Option Rs) : ∀ (r : List Bytes) (i : Int) (out : List Bytes) (n : Nat), At l i r → r.length < n → out.length + r.length ≤ 1000000 →
    iClean_F6 n l0 l (l.length : Int) i out k = k l0 (r.foldl stepS out) := by
  intro r; induction r with
  | nil => intro i out n h hn ho; obtain ⟨n, rfl⟩ := fuel hn; unfold iClean_F6 iClean_T6; simp only [h.dge, cond_false]; rfl
  | cons w r ih =>
    intro i out n h hn ho; obtain ⟨n, rfl⟩ := fuel hn
    simp only [List.length_cons] at hn ho
    have hs := stepS_len out w
    have hr := ih (i + 1) (stepS out w) n h.step (by omega) (by omega)
    have hap : decide ((out.length + [w].length) * 16 ≤ 140737488355328) = true := decide_eq_true (by simp only [List.length_singleton]; omega)
    have hv : (if (0 : Int) < wk64 ((out.length : Int) - 1) then wk64 ((out.length : Int) - 1) else 0) = ((out.length - 1 : Nat) : Int) := by
      rw [w64 (by omega) (by omega)]
      split <;> omega
    have q1 : decide ((0 : Int) ≤ ((out.length - 1 : Nat) : Int)) = true := decide_eq_true (by omega)
    have q2 : decide (((out.length - 1 : Nat) : Int) ≤ (out.length : Int)) = true := decide_eq_true (by omega)
    unfold iClean_F6 iClean_T6
    simp only [h.dlt, h.dnn, h.get, cond_true, h.next (show l.length ≤ 4611686018427387904 by omega), one_set, hap, hv, q1, q2, cut_last out _ rfl]
    simp only [List.foldl_cons]
    unfold stepS at hr ⊢
    cases c1 : decide (w = [46])
    · cases c2 : decide (w = [46, 46])
      · rw [c1, c2] at hr; exact hr
      · rw [c1, c2] at hr; exact hr
    · rw [c1] at hr; exact hr
theorem cleanP_not (c : UInt8) (r : Bytes) (h : c ≠ 47) : cleanP (c :: r) = [] := by
  unfold cleanP
  split
  · rename_i e; injection e with e1 e2; exact absurd e1 h
  · rfl
theorem cleanP_at (r : Bytes) : cleanP (47 :: r) = bif pathOk (47 :: r) then 47 :: joinP (segsP (splP (pctP r) 47)) [47] else [] := rfl
theorem vis_asc (s : Bytes) (h : allP isVis s = true) : ascP s = true := by
  unfold ascP allP at *
  rw [List.all_eq_true] at *
  intro c hc
  have := h c hc
  simp only [isVis, Bool.and_eq_true, decide_eq_true_eq] at this
  exact decide_eq_true (by omega)
theorem anyIx_nn (s : Bytes) (a b : UInt8) : decide (0 ≤ anyIx s [a, b]) = (hasB s (by8 a) || hasB s (by8 b)) := by
  rw [anyIx_cases]
  cases hasB s (by8 a) || hasB s (by8 b)
  · rfl
  · rw [cond_true]; exact decide_eq_true (by omega)
theorem segs_bd (r : Bytes) (h : r.length ≤ 200) : (splP (pctP r) 47).length ≤ 201 ∧ (slashP (splP (pctP r) 47)).length ≤ 201 := by
  have h1 := pctP_len r
  have h2 := spl_len (pctP r) 47
  have h3 := slash_spl 47 (pctP r) []
  unfold splP at h2 ⊢
  simp only [List.length_nil] at h3
  omega
theorem iClean_okQ : Sound Kx 286 (t1_s fun s => .str (cleanP s)) := by
  refine (iClean_okOf (φ := fun s => .ite (isM s) (.ret (.str (cleanP s)) []) .fail) (fun s => s.length + 3) fun p r h => ?_).of fun args objs r h => ?_
  · obtain ⟨hM, h2⟩ := ite_some h
    cases h2
    unfold iClean_run
    cases p with
    | nil => rfl
    | cons c r =>
      have e1 : decide ((1 : Int) ≤ ((c :: r).length : Int)) = true := decide_eq_true (by simp only [List.length_cons]; omega)
      have e2 : cut (c :: r) 0 1 = [c] := rfl
      simp only [e1, cond_true, e2]
      by_cases hc : c = 47
      · subst hc
        rw [cleanP_at]
        unfold pathOk
        simp only [decide_true, Bool.not_true, cond_false, hM, cond_true]
        cases d1 : decide ((200 : Int) < ((47 :: r : Bytes).length : Int))
        · have d1' := of_decide_eq_false d1
          simp only [List.length_cons] at d1'
          rw [decide_eq_true (show (47 :: r : Bytes).length ≤ 200 by simp only [List.length_cons]; omega)]
          simp only [cond_false, Bool.true_and]
          cases d2 : allP isVis (47 :: r)
          · rfl
          have a1 := vis_asc _ d2
          have m1 : decide ((47 :: r : Bytes).length ≤ 1000000) = true := decide_eq_true (by simp only [List.length_cons]; omega)
          simp only [Bool.not_true, cond_false, Bool.true_and, Bool.and_true, a1, m1, cond_true, anyIx_nn]
          rw [show by8 35 = 35 from rfl, show by8 63 = 63 from rfl]
          cases d3 : hasB (47 :: r) 35
          · cases d4 : hasB (47 :: r) 63
            · simp only [Bool.or_false, cond_false, Bool.not_false, Bool.and_self, cond_true, pctP_slash]
              have hcut : cut (47 :: pctP r) 1 ((47 :: pctP r).length : Int) = pctP r := by
                exact cut_of (p := [47]) (r := []) (by simp) rfl (by simp only [List.length_cons]; omega)
              have hb := segs_bd r (by omega)
              have hp := pctP_len r
              rw [hcut]
              have n1 : decide ((1 : Int) ≤ ((47 :: pctP r).length : Int)) = true := decide_eq_true (by simp only [List.length_cons]; omega)
              have n2 : decide ((pctP r).length ≤ 1000000) = true := decide_eq_true (by omega)
              rw [n1, n2]
              simp only [cond_true]
              generalize hL : splP (pctP r) 47 = L at hb
              have hne : L ≠ [] := by rw [← hL]; exact splR_ne 47 _ _
              rw [iClean_loop L L (by omega) _ L 0 [] _ (At.start L) (by have := spl_len (pctP r) 47; rw [hL] at this; simp only [List.length_cons]; omega) (by simp; omega)]
              have hlen : 1 ≤ L.length := List.length_pos_iff.2 hne
              have w1 : wk64 ((L.length : Int) - 1) = (L.length : Int) - 1 := w64 (by omega) (by omega)
              have t1 : ((L.length : Int) - 1).toNat = L.length - 1 := by omega
              have g1 := slash_segs L
              have g2 := join_len (segsP L)
              have g3 := slash_len (segsP L)
              have g4 := slash_fold L []
              have g5 := fold_len L []
              have q1 : decide ((0 : Int) ≤ (L.length : Int) - 1) = true := decide_eq_true (by omega)
              have q2 : decide ((L.length : Int) - 1 < (L.length : Int)) = true := decide_eq_true (by omega)
              have q3 : decide (((L.foldl stepS []).length + 1) * 16 ≤ 140737488355328) = true := decide_eq_true (by simp at g5; omega)
              simp only [w1, t1, q1, q2, q3, cond_true, getD_last L hne, one_set]
              have hsd : dotB (L.getLastD []) = (decide (L.getLastD [] = [46]) || decide (L.getLastD [] = [46, 46])) := rfl
              unfold segsP at g1 g2 g3 ⊢
              rw [hsd] at g1 g2 g3 ⊢
              cases z1 : decide (L.getLastD [] = [46])
              · cases z2 : decide (L.getLastD [] = [46, 46])
                · rw [z1, z2] at g1 g2 g3
                  simp only [Bool.or_false, cond_false, List.append_nil] at g1 g2 g3 ⊢
                  exact Eq.trans (cond_of (andT (decide_eq_true (by omega)) (decide_eq_true (by omega)))) (Eq.trans (cond_of (decide_eq_true (by omega))) rfl)
                · rw [z1, z2] at g1 g2 g3
                  simp only [Bool.or_true, cond_true, cond_false] at g1 g2 g3 ⊢
                  exact Eq.trans (cond_of (andT (decide_eq_true (by omega)) (decide_eq_true (by omega)))) (Eq.trans (cond_of (decide_eq_true (by omega))) rfl)
              · rw [z1] at g1 g2 g3
                simp only [Bool.true_or, cond_true] at g1 g2 g3 ⊢
                exact Eq.trans (cond_of (andT (decide_eq_true (by omega)) (decide_eq_true (by omega)))) (Eq.trans (cond_of (decide_eq_true (by omega))) rfl)
            · rfl
          · rfl
        · have d1' := of_decide_eq_true d1
          rw [decide_eq_false (show ¬ (47 :: r : Bytes).length ≤ 200 by omega)]
          rfl
      · rw [cleanP_not c r hc, decide_eq_false (show ¬ [c] = [47] from fun e => hc (by injection e))]
        rfl
  · unfold t1_s at h; split at h
    · exact h
    · cases h

theorem iHost_okQ : Sound Kx 320 (t1_s fun s => .bool (hostP s)) := iHost_ok.of fun args objs r h => by
  unfold t1_s at h
  split at h
  case h_2 => cases h
  rename_i s
  obtain ⟨hM, h2⟩ := ite_some h
  cases h2
  show (iHost_br s).val = some (.bool (hostP s), [])
  unfold iHost_br hostP
  cases d1 : decide ((1 : Int) ≤ (s.length : Int))
  · have d1' := of_decide_eq_false d1
    rw [decide_eq_false (show ¬ 1 ≤ s.length by omega)]; rfl
  · have d1' := of_decide_eq_true d1
    rw [decide_eq_true (show 1 ≤ s.length by omega)]
    cases d2 : decide ((s.length : Int) ≤ 60)
    · have d2' := of_decide_eq_false d2
      rw [decide_eq_false (show ¬ s.length ≤ 60 by omega)]; rfl
    · have d2' := of_decide_eq_true d2
      have hlen := spl_len s 46
      rw [decide_eq_true (show s.length ≤ 60 by omega), hM]
      cases allP hoB s
      · rfl
      · refine (val_t rfl).trans ((val_f rfl).trans ((val_t rfl).trans ((val_f rfl).trans ((val_t (decide_eq_true (by omega))).trans ((val_t (decide_eq_true (by omega))).trans rfl)))))
def rdI_s : List AV → List Ob → Br
  | [.str s], [] => .ite (decide (s.length ≤ 1000000)) (.ret (.tup [.int .i64 (decR s).1, .bool (decR s).2]) []) .fail
  | _, _ => .fail
theorem iReadDec_okQ : Sound Kx 285 rdI_s := iReadDec_ok.of fun args objs r h => by
  unfold rdI_s at h
  split at h
  case h_2 => cases h
  rename_i s
  obtain ⟨hM, h2⟩ := ite_some h
  cases h2
  show (iReadDec_br s).val = _
  unfold iReadDec_br
  refine (val_t hM).trans ?_
  rw [decR_atoi]
  cases c1 : atoiOk s
  · rfl
  · cases c2 : decide (0 ≤ atoiV s)
    · rfl
    · cases c3 : decide (atoiV s ≤ 999999999999999)
      · rfl
      · have h15 : num15 (atoiV s) = true := by unfold num15; rw [c2, c3]; rfl
        rw [h15]
        cases c4 : decide (decD (atoiV s) = s)
        · refine (val_t rfl).trans ((val_t rfl).trans ((val_f rfl).trans ((val_t ?_).trans rfl)))
          rw [cond_true, c4]; rfl
        · refine (val_t rfl).trans ((val_t rfl).trans ((val_f rfl).trans ((val_f ?_).trans rfl)))
          rw [cond_true, c4]; rfl

def iPort_C : SC := [⟨232, _, itoa_ok⟩]
def iPort_br (h : Bytes) (po : Int) (pa q : Bytes) (hq : Bool) : Br := (Br.ite (decide (po = 80)) (Br.ret (AV.str ([] : Bytes)) []) (Br.ite (num15 po) (Br.ite (decide ((1 + (List.length (decD po))) ≤ 9223372036854775807)) (Br.ret (AV.str (([58] : Bytes) ++ (decD po))) []) Br.fail) Br.fail))
def iPort_s : List AV → List Ob → Br
  | [.agg [.str h, .int .i64 po, .str pa, .str q, .bool hq]], [] => iPort_br h po pa q hq
  | _, _ => .fail
theorem iPort_ok : Sound Kx 288 iPort_s := sound_br (C := iPort_C) (O := O0) Tryz.func288 (by kernel_rfl) fun args objs => by
  unfold iPort_s; split
  · exact .inr (by kernel_rfl)
  · exact .inl rfl

def iPathT_br (h : Bytes) (po : Int) (pa q : Bytes) (hq : Bool) : Br := (Br.ite hq (Br.ite (decide ((pa.length + 1) ≤ 9223372036854775807)) (Br.ite (decide (((List.length (pa ++ ([63] : Bytes))) + q.length) ≤ 9223372036854775807)) (Br.ret (AV.str ((pa ++ ([63] : Bytes)) ++ q)) []) Br.fail) Br.fail) (Br.ret (AV.str pa) []))
def iPathT_s : List AV → List Ob → Br
  | [.agg [.str h, .int .i64 po, .str pa, .str q, .bool hq]], [] => iPathT_br h po pa q hq
  | _, _ => .fail
theorem iPathT_ok : Sound Kx 289 iPathT_s := sound_br (C := []) (O := O0) Tryz.func289 (by kernel_rfl) fun args objs => by
  unfold iPathT_s; split
  · exact .inr (by kernel_rfl)
  · exact .inl rfl

def iUrlT_C : SC := [⟨288, _, iPort_ok⟩, ⟨289, _, iPathT_ok⟩]
def iUrlT_br (h : Bytes) (po : Int) (pa q : Bytes) (hq : Bool) : Br := (Br.ite (decide ((7 + h.length) ≤ 9223372036854775807)) (Br.ite (decide (po = 80)) (Br.ite (decide (((List.length (([104, 116, 116, 112, 58, 47, 47] : Bytes) ++ h)) + 0) ≤ 9223372036854775807)) (Br.ite hq (Br.ite (decide ((pa.length + 1) ≤ 9223372036854775807)) (Br.ite (decide (((List.length (pa ++ ([63] : Bytes))) + q.length) ≤ 9223372036854775807)) (Br.ite (decide (((List.length ((([104, 116, 116, 112, 58, 47, 47] : Bytes) ++ h) ++ ([] : Bytes))) + (List.length ((pa ++ ([63] : Bytes)) ++ q))) ≤ 9223372036854775807)) (Br.ret (AV.str (((([104, 116, 116, 112, 58, 47, 47] : Bytes) ++ h) ++ ([] : Bytes)) ++ ((pa ++ ([63] : Bytes)) ++ q))) []) Br.fail) Br.fail) Br.fail) (Br.ite (decide (((List.length ((([104, 116, 116, 112, 58, 47, 47] : Bytes) ++ h) ++ ([] : Bytes))) + pa.length) ≤ 9223372036854775807)) (Br.ret (AV.str (((([104, 116, 116, 112, 58, 47, 47] : Bytes) ++ h) ++ ([] : Bytes)) ++ pa)) []) Br.fail)) Br.fail) (Br.ite (num15 po) (Br.ite (decide ((1 + (List.length (decD po))) ≤ 9223372036854775807)) (Br.ite (decide (((List.length (([104, 116, 116, 112, 58, 47, 47] : Bytes) ++ h)) + (List.length (([58] : Bytes) ++ (decD po)))) ≤ 9223372036854775807)) (Br.ite hq (Br.ite (decide ((pa.length + 1) ≤ 9223372036854775807)) (Br.ite (decide (((List.length (pa ++ ([63] : Bytes))) + q.length) ≤ 9223372036854775807)) (Br.ite (decide (((List.length ((([104, 116, 116, 112, 58, 47, 47] : Bytes) ++ h) ++ (([58] : Bytes) ++ (decD po)))) + (List.length ((pa ++ ([63] : Bytes)) ++ q))) ≤ 9223372036854775807)) (Br.ret (AV.str (((([104, 116, 116, 112, 58, 47, 47] : Bytes) ++ h) ++ (([58] : Bytes) ++ (decD po))) ++ ((pa ++ ([63] : Bytes)) ++ q))) []) Br.fail) Br.fail) Br.fail) (Br.ite (decide (((List.length ((([104, 116, 116, 112, 58, 47, 47] : Bytes) ++ h) ++ (([58] : Bytes) ++ (decD po)))) + pa.length) ≤ 9223372036854775807)) (Br.ret (AV.str (((([104, 116, 116, 112, 58, 47, 47] : Bytes) ++ h) ++ (([58] : Bytes) ++ (decD po))) ++ pa)) []) Br.fail)) Br.fail) Br.fail) Br.fail)) Br.fail)
def iUrlT_s : List AV → List Ob → Br
  | [.agg [.str h, .int .i64 po, .str pa, .str q, .bool hq]], [] => iUrlT_br h po pa q hq
  | _, _ => .fail
theorem iUrlT_ok : Sound Kx 243 iUrlT_s := sound_br (C := iUrlT_C) (O := O0) Tryz.func243 (by kernel_rfl) fun args objs => by
  unfold iUrlT_s; split
  · exact .inr (by kernel_rfl)
  · exact .inl rfl

def iReadPath_C : SC := [⟨179, _, cut_okQ⟩]
def iReadPath_br (s : Bytes) : Br := (Br.ite (decide (s.length ≤ 1000000)) (Br.ret (AV.agg ((AV.str ([] : Bytes)) :: ((AV.int .i64 0) :: ((AV.str (cutP s ([63] : Bytes)).1) :: ((AV.str (cutP s ([63] : Bytes)).2.1) :: ((AV.bool (cutP s ([63] : Bytes)).2.2) :: [])))))) []) Br.fail)
def iReadPath_s : List AV → List Ob → Br
  | [.str s], [] => iReadPath_br s
  | _, _ => .fail
theorem iReadPath_ok : Sound Kx 284 iReadPath_s := sound_br (C := iReadPath_C) (O := O0) Tryz.func284 (by kernel_rfl) fun args objs => by
  unfold iReadPath_s; split
  · exact .inr (by kernel_rfl)
  · exact .inl rfl


def smU (h : Bytes) (po : Int) (pa q : Bytes) : Bool := decide (h.length ≤ 1000000) && num15 po && decide (pa.length ≤ 1000000) && isM q
def ur_s (p : Bytes → Int → Bytes → Bytes → Bool → Bool) (v : Bytes → Int → Bytes → Bytes → Bool → AV) : List AV → List Ob → Br
  | [.agg [.str h, .int .i64 po, .str pa, .str q, .bool hq]], [] => .ite (p h po pa q hq) (.ret (v h po pa q hq) []) .fail
  | _, _ => .fail
def ut_s : List AV → List Ob → Br := ur_s (fun h po pa q _ => smU h po pa q) (fun h po pa q hq => .str (urlT h po pa q hq))
theorem of_ur {n : Nat} {s : List AV → List Ob → Br} (hs : Sound Kx n s) {p : Bytes → Int → Bytes → Bytes → Bool → Bool} {v : Bytes → Int → Bytes → Bytes → Bool → AV} (h : ∀ ho po pa q hq, p ho po pa q hq = true → (s [.agg [.str ho, .int .i64 po, .str pa, .str q, .bool hq]] []).val = some (v ho po pa q hq, [])) : Sound Kx n (ur_s p v) := hs.of fun args objs r hv => by
  unfold ur_s at hv
  split at hv
  case h_2 => cases hv
  obtain ⟨h1, h2⟩ := ite_some hv
  cases h2
  exact h _ _ _ _ _ h1
theorem dec_len20 (n : Int) (h : num15 n = true) : (decD n).length ≤ 15 := by
  unfold num15 at h
  simp only [Bool.and_eq_true, decide_eq_true_eq] at h
  rw [decD_eq]; exact dec_len15 _ (by omega)
theorem smU_of {h : Bytes} {po : Int} {pa q : Bytes} (hs : smU h po pa q = true) : h.length ≤ 1000000 ∧ num15 po = true ∧ pa.length ≤ 1000000 ∧ q.length ≤ 4611686018427387904 := by
  unfold smU at hs
  simp only [Bool.and_eq_true, decide_eq_true_eq] at hs
  exact ⟨hs.1.1.1, hs.1.1.2, hs.1.2, isM_le hs.2⟩
theorem iUrlT_okQ : Sound Kx 243 ut_s := of_ur iUrlT_ok fun h po pa q hq hs => by
  obtain ⟨h1, h2, h3, h4⟩ := smU_of hs
  have hd := dec_len20 po h2
  show (iUrlT_br h po pa q hq).val = some (.str (urlT h po pa q hq), [])
  unfold iUrlT_br urlT portT queryT httpB
  cases decide (po = 80) <;> cases hq <;>
    simp (disch := (first | omega | (simp only [List.length_append, List.length_cons, List.length_nil]; omega))) only [Br.val, dle, h2, cond_true, cond_false, List.append_assoc, List.cons_append, List.nil_append, List.append_nil]

def iUrlOk_O : Opt := { split := true }
def iUrlOk_C : SC := [⟨320, _, iHost_okQ⟩, ⟨201, _, iwithin_ok⟩, ⟨286, _, iClean_okQ⟩, ⟨74, _, allVis_okQ⟩, ⟨246, _, con1_okQ⟩, ⟨243, _, iUrlT_okQ⟩]
def iUrlOk_br (h : Bytes) (po : Int) (pa q : Bytes) (hq : Bool) : Br := (Br.ite (isM h) (Br.ite (hostP h) (Br.ite (decide (1 ≤ po)) (Br.ite (decide (po ≤ 65535)) (Br.ite (decide (pa = ([] : Bytes))) (Br.ret (AV.bool false) []) (Br.ite (isM pa) (Br.ite (!(decide ((cleanP pa) = pa))) (Br.ret (AV.bool false) []) (Br.ite (isM q) (Br.ite (!(allP isVis q)) (Br.ret (AV.bool false) []) (Br.ite (hasB q 35) (Br.ret (AV.bool false) []) (Br.ite (!hq) (Br.ite (!(decide (q = ([] : Bytes)))) (Br.ret (AV.bool false) []) (Br.ite (smU h po pa q) (Br.ret (AV.bool (decide (((List.length (urlT h po pa q hq)) : Int) ≤ 200))) []) Br.fail)) (Br.ite (smU h po pa q) (Br.ret (AV.bool (decide (((List.length (urlT h po pa q hq)) : Int) ≤ 200))) []) Br.fail)))) Br.fail)) Br.fail)) (Br.ret (AV.bool false) [])) (Br.ret (AV.bool false) [])) (Br.ret (AV.bool false) [])) Br.fail)
def iUrlOk_s : List AV → List Ob → Br
  | [.agg [.str h, .int .i64 po, .str pa, .str q, .bool hq]], [] => iUrlOk_br h po pa q hq
  | _, _ => .fail
theorem iUrlOk_ok : Sound Kx 287 iUrlOk_s := sound_br (C := iUrlOk_C) (O := iUrlOk_O) Tryz.func287 (by kernel_rfl) fun args objs => by
  unfold iUrlOk_s; split
  · exact .inr (by kernel_rfl)
  · exact .inl rfl


theorem clean_fix {pa : Bytes} (h : cleanP pa = pa) (h0 : pa ≠ []) : pa.length ≤ 200 := by
  cases pa with
  | nil => exact absurd rfl h0
  | cons c r =>
    by_cases hc : c = 47
    · subst hc
      rw [cleanP_at] at h
      cases ho : pathOk (47 :: r)
      · rw [ho, cond_false] at h; exact absurd h.symm h0
      · unfold pathOk at ho
        simp only [Bool.and_eq_true, decide_eq_true_eq] at ho
        exact ho.1.1.1
    · rw [cleanP_not c r hc] at h; exact absurd h.symm h0
theorem host_len {h : Bytes} (hh : hostP h = true) : h.length ≤ 60 := by
  unfold hostP at hh
  simp only [Bool.and_eq_true, decide_eq_true_eq] at hh
  exact hh.1.1.2
theorem nat_int (n : Nat) : decide ((n : Int) ≤ 200) = decide (n ≤ 200) := by
  rw [Bool.eq_iff_iff, decide_eq_true_eq, decide_eq_true_eq]; omega
theorem upto_has (s : Bytes) (b : Int) : decide (uptoP s b = s) = !hasB s b := by
  induction s with
  | nil => rfl
  | cons c s ih =>
    have e : hasB (c :: s) b = (decide (by8 c = b) || hasB s b) := rfl
    unfold uptoP at ih ⊢
    rw [e, List.takeWhile_cons]
    cases decide (by8 c = b)
    · simp only [Bool.not_false, if_true, Bool.false_or]
      rw [← ih, Bool.eq_iff_iff, decide_eq_true_eq, decide_eq_true_eq]
      simp
    · simp
theorem urlT_q (h : Bytes) (po : Int) (pa q : Bytes) : q.length ≤ (urlT h po pa q true).length := by
  unfold urlT queryT
  simp only [cond_true, List.length_append, List.length_cons]; omega
def uk_s : List AV → List Ob → Br := ur_s (fun h _ pa q _ => isM h && isM pa && isM q) (fun h po pa q hq => .bool (urlOkP h po pa q hq))
theorem smU_mk {h : Bytes} {po : Int} {pa q : Bytes} (h1 : hostP h = true) (h2 : decide (1 ≤ po) = true) (h3 : decide (po ≤ 65535) = true) (h4 : decide (pa = []) = false) (h5 : decide (cleanP pa = pa) = true) (h6 : isM q = true) : smU h po pa q = true := by
  have a := host_len h1
  have b := clean_fix (of_decide_eq_true h5) (of_decide_eq_false h4)
  have c := of_decide_eq_true h2
  have d := of_decide_eq_true h3
  unfold smU num15
  rw [decide_eq_true (show h.length ≤ 1000000 by omega), decide_eq_true (show 0 ≤ po by omega), decide_eq_true (show po ≤ 999999999999999 by omega), decide_eq_true (show pa.length ≤ 1000000 by omega), h6]; rfl
theorem iUrlOk_okQ : Sound Kx 287 uk_s := of_ur iUrlOk_ok fun h po pa q hq hs => by
  simp only [Bool.and_eq_true] at hs
  obtain ⟨⟨m1, m2⟩, m3⟩ := hs
  show (iUrlOk_br h po pa q hq).val = some (.bool (urlOkP h po pa q hq), [])
  unfold iUrlOk_br urlOkP
  rw [m1, m2, m3, nat_int]
  cases d1 : hostP h
  · rfl
  cases d2 : decide (1 ≤ po)
  · rfl
  cases d3 : decide (po ≤ 65535)
  · rfl
  cases d4 : decide (pa = [])
  case true => rfl
  cases d5 : decide (cleanP pa = pa)
  · rfl
  rw [smU_mk d1 d2 d3 d4 d5 m3]
  cases allP isVis q
  · rfl
  cases hasB q 35
  case true => rfl
  cases hq <;> cases decide (q = []) <;> rfl

def iReadUrl_O : Opt := { split := true }
def iReadUrl_C : SC := [⟨74, _, allVis_okQ⟩, ⟨246, _, con1_okQ⟩, ⟨118, _, ifold_okQ⟩, ⟨283, _, ixAny_okQ⟩, ⟨179, _, cut_okQ⟩, ⟨284, _, iReadPath_ok⟩, ⟨285, _, iReadDec_okQ⟩, ⟨286, _, iClean_okQ⟩, ⟨287, _, iUrlOk_okQ⟩]
abbrev iReadUrl_c1 (s : Bytes) := (cutP (cut (cut s 7 (s.length : Int)) (anyIx (cut s 7 (s.length : Int)) ([47, 63] : Bytes)) ((List.length (cut s 7 (s.length : Int))) : Int)) ([63] : Bytes))
abbrev iReadUrl_c2 (s : Bytes) := (cutP (cut (cut s 7 (s.length : Int)) ((List.length (cut s 7 (s.length : Int))) : Int) ((List.length (cut s 7 (s.length : Int))) : Int)) ([63] : Bytes))
abbrev iReadUrl_c3 (s : Bytes) := (Br.ret (AV.tup ((AV.agg ((AV.str ([] : Bytes)) :: ((AV.int .i64 0) :: ((AV.str ([] : Bytes)) :: ((AV.str ([] : Bytes)) :: ((AV.bool false) :: [])))))) :: ((AV.bool false) :: []))) [])
abbrev iReadUrl_c4 (s : Bytes) := (cutP (cut (cut s 7 (s.length : Int)) 0 (anyIx (cut s 7 (s.length : Int)) ([47, 63] : Bytes))) ([58] : Bytes))
abbrev iReadUrl_c5 (s : Bytes) := (cutP (cut (cut s 7 (s.length : Int)) 0 ((List.length (cut s 7 (s.length : Int))) : Int)) ([58] : Bytes))
abbrev iReadUrl_c6 (s : Bytes) := ((List.length (cut s 7 (s.length : Int))) : Int)
abbrev iReadUrl_c7 (s : Bytes) := (anyIx (cut s 7 (s.length : Int)) ([47, 63] : Bytes))
abbrev iReadUrl_c8 (s : Bytes) := ((AV.str (iReadUrl_c2 s).2.1) :: ((AV.bool (iReadUrl_c2 s).2.2) :: []))
abbrev iReadUrl_c9 (s : Bytes) := ((AV.str (iReadUrl_c1 s).2.1) :: ((AV.bool (iReadUrl_c1 s).2.2) :: []))
def iReadUrl_br (s : Bytes) : Br := (Br.ite (decide (200 < (s.length : Int))) (iReadUrl_c3 s) (Br.ite (isM s) (Br.ite (!(allP isVis s)) (iReadUrl_c3 s) (Br.ite (hasB s 35) (iReadUrl_c3 s) (Br.ite (decide ((s.length : Int) < 7)) (iReadUrl_c3 s) (Br.ite (decide (7 ≤ (s.length : Int))) (Br.ite (isM (cut s 0 7)) (Br.ite (!(decide ((foldP (cut s 0 7)) = ([104, 116, 116, 112, 58, 47, 47] : Bytes)))) (iReadUrl_c3 s) (Br.ite (decide (7 ≤ (s.length : Int))) (Br.ite ((((decide ((List.length (cut s 7 (s.length : Int))) ≤ 1000000)) && true) && (ascP (cut s 7 (s.length : Int)))) && true) (Br.ite (decide ((iReadUrl_c7 s) < 0)) (Br.ite (decide (0 ≤ (iReadUrl_c6 s))) (Br.ite (decide ((iReadUrl_c6 s) ≤ (iReadUrl_c6 s))) (Br.ite (decide ((List.length (cut (cut s 7 (s.length : Int)) 0 (iReadUrl_c6 s))) ≤ 1000000)) (Br.ite (decide (0 ≤ (iReadUrl_c6 s))) (Br.ite (decide ((iReadUrl_c6 s) ≤ (iReadUrl_c6 s))) (Br.ite (decide ((List.length (cut (cut s 7 (s.length : Int)) (iReadUrl_c6 s) (iReadUrl_c6 s))) ≤ 1000000)) (Br.ite (isM (iReadUrl_c5 s).1) (Br.ite (iReadUrl_c5 s).2.2 (Br.ite (decide ((List.length (iReadUrl_c5 s).2.1) ≤ 1000000)) (Br.ite (!(decR (iReadUrl_c5 s).2.1).2) (iReadUrl_c3 s) (Br.ite (decide ((iReadUrl_c2 s).1 = ([] : Bytes))) (Br.ite (((isM (foldP (iReadUrl_c5 s).1)) && true) && (isM (iReadUrl_c2 s).2.1)) (Br.ite (!(urlOkP (foldP (iReadUrl_c5 s).1) (decR (iReadUrl_c5 s).2.1).1 ([47] : Bytes) (iReadUrl_c2 s).2.1 (iReadUrl_c2 s).2.2)) (iReadUrl_c3 s) (Br.ret (AV.tup ((AV.agg ((AV.str (foldP (iReadUrl_c5 s).1)) :: ((AV.int .i64 (decR (iReadUrl_c5 s).2.1).1) :: ((AV.str ([47] : Bytes)) :: (iReadUrl_c8 s))))) :: ((AV.bool true) :: []))) [])) Br.fail) (Br.ite (isM (iReadUrl_c2 s).1) (Br.ite (((isM (foldP (iReadUrl_c5 s).1)) && (isM (cleanP (iReadUrl_c2 s).1))) && (isM (iReadUrl_c2 s).2.1)) (Br.ite (!(urlOkP (foldP (iReadUrl_c5 s).1) (decR (iReadUrl_c5 s).2.1).1 (cleanP (iReadUrl_c2 s).1) (iReadUrl_c2 s).2.1 (iReadUrl_c2 s).2.2)) (iReadUrl_c3 s) (Br.ret (AV.tup ((AV.agg ((AV.str (foldP (iReadUrl_c5 s).1)) :: ((AV.int .i64 (decR (iReadUrl_c5 s).2.1).1) :: ((AV.str (cleanP (iReadUrl_c2 s).1)) :: (iReadUrl_c8 s))))) :: ((AV.bool true) :: []))) [])) Br.fail) Br.fail))) Br.fail) (Br.ite (decide ((iReadUrl_c2 s).1 = ([] : Bytes))) (Br.ite (((isM (foldP (iReadUrl_c5 s).1)) && true) && (isM (iReadUrl_c2 s).2.1)) (Br.ite (!(urlOkP (foldP (iReadUrl_c5 s).1) 80 ([47] : Bytes) (iReadUrl_c2 s).2.1 (iReadUrl_c2 s).2.2)) (iReadUrl_c3 s) (Br.ret (AV.tup ((AV.agg ((AV.str (foldP (iReadUrl_c5 s).1)) :: ((AV.int .i64 80) :: ((AV.str ([47] : Bytes)) :: (iReadUrl_c8 s))))) :: ((AV.bool true) :: []))) [])) Br.fail) (Br.ite (isM (iReadUrl_c2 s).1) (Br.ite (((isM (foldP (iReadUrl_c5 s).1)) && (isM (cleanP (iReadUrl_c2 s).1))) && (isM (iReadUrl_c2 s).2.1)) (Br.ite (!(urlOkP (foldP (iReadUrl_c5 s).1) 80 (cleanP (iReadUrl_c2 s).1) (iReadUrl_c2 s).2.1 (iReadUrl_c2 s).2.2)) (iReadUrl_c3 s) (Br.ret (AV.tup ((AV.agg ((AV.str (foldP (iReadUrl_c5 s).1)) :: ((AV.int .i64 80) :: ((AV.str (cleanP (iReadUrl_c2 s).1)) :: (iReadUrl_c8 s))))) :: ((AV.bool true) :: []))) [])) Br.fail) Br.fail))) Br.fail) Br.fail) Br.fail) Br.fail) Br.fail) Br.fail) Br.fail) (Br.ite (decide (0 ≤ (iReadUrl_c7 s))) (Br.ite (decide ((iReadUrl_c7 s) ≤ (iReadUrl_c6 s))) (Br.ite (decide ((List.length (cut (cut s 7 (s.length : Int)) 0 (iReadUrl_c7 s))) ≤ 1000000)) (Br.ite (decide (0 ≤ (iReadUrl_c7 s))) (Br.ite (decide ((iReadUrl_c7 s) ≤ (iReadUrl_c6 s))) (Br.ite (decide ((List.length (cut (cut s 7 (s.length : Int)) (iReadUrl_c7 s) (iReadUrl_c6 s))) ≤ 1000000)) (Br.ite (isM (iReadUrl_c4 s).1) (Br.ite (iReadUrl_c4 s).2.2 (Br.ite (decide ((List.length (iReadUrl_c4 s).2.1) ≤ 1000000)) (Br.ite (!(decR (iReadUrl_c4 s).2.1).2) (iReadUrl_c3 s) (Br.ite (decide ((iReadUrl_c1 s).1 = ([] : Bytes))) (Br.ite (((isM (foldP (iReadUrl_c4 s).1)) && true) && (isM (iReadUrl_c1 s).2.1)) (Br.ite (!(urlOkP (foldP (iReadUrl_c4 s).1) (decR (iReadUrl_c4 s).2.1).1 ([47] : Bytes) (iReadUrl_c1 s).2.1 (iReadUrl_c1 s).2.2)) (iReadUrl_c3 s) (Br.ret (AV.tup ((AV.agg ((AV.str (foldP (iReadUrl_c4 s).1)) :: ((AV.int .i64 (decR (iReadUrl_c4 s).2.1).1) :: ((AV.str ([47] : Bytes)) :: (iReadUrl_c9 s))))) :: ((AV.bool true) :: []))) [])) Br.fail) (Br.ite (isM (iReadUrl_c1 s).1) (Br.ite (((isM (foldP (iReadUrl_c4 s).1)) && (isM (cleanP (iReadUrl_c1 s).1))) && (isM (iReadUrl_c1 s).2.1)) (Br.ite (!(urlOkP (foldP (iReadUrl_c4 s).1) (decR (iReadUrl_c4 s).2.1).1 (cleanP (iReadUrl_c1 s).1) (iReadUrl_c1 s).2.1 (iReadUrl_c1 s).2.2)) (iReadUrl_c3 s) (Br.ret (AV.tup ((AV.agg ((AV.str (foldP (iReadUrl_c4 s).1)) :: ((AV.int .i64 (decR (iReadUrl_c4 s).2.1).1) :: ((AV.str (cleanP (iReadUrl_c1 s).1)) :: (iReadUrl_c9 s))))) :: ((AV.bool true) :: []))) [])) Br.fail) Br.fail))) Br.fail) (Br.ite (decide ((iReadUrl_c1 s).1 = ([] : Bytes))) (Br.ite (((isM (foldP (iReadUrl_c4 s).1)) && true) && (isM (iReadUrl_c1 s).2.1)) (Br.ite (!(urlOkP (foldP (iReadUrl_c4 s).1) 80 ([47] : Bytes) (iReadUrl_c1 s).2.1 (iReadUrl_c1 s).2.2)) (iReadUrl_c3 s) (Br.ret (AV.tup ((AV.agg ((AV.str (foldP (iReadUrl_c4 s).1)) :: ((AV.int .i64 80) :: ((AV.str ([47] : Bytes)) :: (iReadUrl_c9 s))))) :: ((AV.bool true) :: []))) [])) Br.fail) (Br.ite (isM (iReadUrl_c1 s).1) (Br.ite (((isM (foldP (iReadUrl_c4 s).1)) && (isM (cleanP (iReadUrl_c1 s).1))) && (isM (iReadUrl_c1 s).2.1)) (Br.ite (!(urlOkP (foldP (iReadUrl_c4 s).1) 80 (cleanP (iReadUrl_c1 s).1) (iReadUrl_c1 s).2.1 (iReadUrl_c1 s).2.2)) (iReadUrl_c3 s) (Br.ret (AV.tup ((AV.agg ((AV.str (foldP (iReadUrl_c4 s).1)) :: ((AV.int .i64 80) :: ((AV.str (cleanP (iReadUrl_c1 s).1)) :: (iReadUrl_c9 s))))) :: ((AV.bool true) :: []))) [])) Br.fail) Br.fail))) Br.fail) Br.fail) Br.fail) Br.fail) Br.fail) Br.fail) Br.fail)) Br.fail) Br.fail)) Br.fail) Br.fail)))) Br.fail))
def iReadUrl_s : List AV → List Ob → Br
  | [.str s], [] => iReadUrl_br s
  | _, _ => .fail
theorem iReadUrl_ok : Sound Kx 242 iReadUrl_s := sound_br (C := iReadUrl_C) (O := iReadUrl_O) Tryz.func242 (by kernel_rfl) fun args objs => by
  unfold iReadUrl_s; split
  · exact .inr (by kernel_rfl)
  · exact .inl rfl


theorem upto_drop (b : Int) : ∀ (r : Bytes) (k : Nat), k ≤ (uptoP r b).length → uptoP (r.drop k) b = (uptoP r b).drop k
  | r, 0, _ => rfl
  | [], k + 1, h => by simp [uptoP] at h
  | x :: r, k + 1, h => by
    have ih := upto_drop b r k
    unfold uptoP at ih h ⊢
    rw [List.takeWhile_cons] at h ⊢
    cases c : decide (by8 x = b)
    · rw [c] at h
      simp only [Bool.not_false, if_true, List.length_cons] at h ⊢
      rw [List.drop_succ_cons, List.drop_succ_cons]
      exact ih (by omega)
    · rw [c] at h; simp at h
theorem cut_end {l : Bytes} {k : Nat} {i : Int} (h : i = (k : Int)) : cut l i (l.length : Int) = l.drop k := by
  subst h; unfold cut; simp
theorem cut_take {l : Bytes} {k : Nat} {i : Int} (h : i = (k : Int)) : cut l 0 i = l.take k := by
  subst h; unfold cut; simp
theorem clean_len (p : Bytes) : (cleanP p).length ≤ 1000 := by
  cases p with
  | nil => exact Nat.zero_le _
  | cons c r =>
    by_cases hc : c = 47
    · subst hc
      rw [cleanP_at]
      cases ho : pathOk (47 :: r)
      · exact Nat.zero_le _
      · unfold pathOk at ho
        simp only [Bool.and_eq_true, decide_eq_true_eq, List.length_cons] at ho
        have h1 := segs_bd r (by omega)
        have h2 := slash_segs (splP (pctP r) 47)
        have h3 := join_len (segsP (splP (pctP r) 47))
        simp only [cond_true, List.length_cons]; omega
    · rw [cleanP_not c r hc]; exact Nat.zero_le _
def urA (u : Ur) : AV := .agg [.str u.h, .int .i64 u.po, .str u.pa, .str u.q, .bool u.hq]
theorem readU_no {s : Bytes} (h : readOk s = false) : readUP s = (u0, false) := by unfold readUP; rw [h]; rfl
theorem readU_yes {s : Bytes} (h : readOk s = true) : readUP s = bif (portR (authP (s.drop 7))).2 && (urlR (s.drop 7)).ok then (urlR (s.drop 7), true) else (u0, false) := by
  unfold readUP; rw [h, Bool.true_and]
theorem readOk_parts (s : Bytes) : readOk s = (decide (s.length ≤ 200) && decide (7 ≤ s.length) && allP isVis s && !hasB s 35 && decide (foldP (s.take 7) = httpB)) := rfl
def ru_s : List AV → List Ob → Br := t1_s fun s => .tup [urA (readUP s).1, .bool (readUP s).2]
theorem auth_take (r : Bytes) : r.take (uptoP (uptoP r 63) 47).length = uptoP (uptoP r 63) 47 := by
  have h1 := upto_take r 63
  have h2 := upto_take (uptoP r 63) 47
  have h3 := upto_le (uptoP r 63) 47
  calc r.take (uptoP (uptoP r 63) 47).length = (r.take (uptoP r 63).length).take (uptoP (uptoP r 63) 47).length := by rw [List.take_take, Nat.min_eq_left h3]
    _ = (uptoP r 63).take (uptoP (uptoP r 63) 47).length := by rw [h1]
    _ = uptoP (uptoP r 63) 47 := h2
theorem any_end (r : Bytes) : (decide (anyIx r [47, 63] < 0) = true → (uptoP (uptoP r 63) 47).length = r.length) ∧ (decide (anyIx r [47, 63] < 0) = false → anyIx r [47, 63] = ((uptoP (uptoP r 63) 47).length : Int)) := by
  rw [anyIx_cases, show by8 47 = 47 from rfl, show by8 63 = 63 from rfl]
  cases h : hasB r 47 || hasB r 63
  · rw [cond_false]
    rw [Bool.or_eq_false_iff] at h
    have h1 : uptoP r 63 = r := by have := upto_has r 63; rw [h.2] at this; exact of_decide_eq_true this
    have h2 : uptoP r 47 = r := by have := upto_has r 47; rw [h.1] at this; exact of_decide_eq_true this
    rw [h1, h2]
    exact ⟨fun _ => rfl, fun e => by simp at e⟩
  · rw [cond_true]
    exact ⟨fun e => by have := of_decide_eq_true e; omega, fun _ => rfl⟩
theorem drop_nil {l : Bytes} {k : Nat} : decide (l.drop k = []) = !decide (k < l.length) := by
  rw [Bool.eq_iff_iff]; simp
theorem lt_ne {a b : Nat} (h : a ≤ b) : (!decide (a = b)) = decide (a < b) := by
  rw [Bool.eq_iff_iff]; simp; omega
theorem iReadUrl_okQ : Sound Kx 242 ru_s := iReadUrl_ok.of fun args objs r h => by
  unfold ru_s t1_s at h
  split at h
  case h_2 => cases h
  rename_i s
  obtain ⟨hM, h2⟩ := ite_some h
  cases h2
  show (iReadUrl_br s).val = some (.tup [urA (readUP s).1, .bool (readUP s).2], [])
  unfold iReadUrl_br iReadUrl_c9 iReadUrl_c8 iReadUrl_c7 iReadUrl_c6 iReadUrl_c5 iReadUrl_c4 iReadUrl_c3 iReadUrl_c2 iReadUrl_c1
  have hok := readOk_parts s
  cases d1 : decide ((200 : Int) < (s.length : Int))
  case true =>
    have := of_decide_eq_true d1
    rw [decide_eq_false (show ¬ s.length ≤ 200 by omega)] at hok
    rw [readU_no (by rw [hok]; rfl)]; rfl
  have d1' := of_decide_eq_false d1
  rw [decide_eq_true (show s.length ≤ 200 by omega)] at hok
  rw [hM]
  cases d3 : allP isVis s
  · rw [d3] at hok
    rw [readU_no (by rw [hok]; simp)]; rfl
  rw [d3] at hok
  cases d4 : hasB s 35
  case true =>
    rw [d4] at hok
    rw [readU_no (by rw [hok]; simp)]; rfl
  rw [d4] at hok
  cases d2 : decide ((s.length : Int) < 7)
  case true =>
    have d2' := of_decide_eq_true d2
    rw [decide_eq_false (show ¬ 7 ≤ s.length by omega)] at hok
    rw [readU_no (by rw [hok]; rfl)]; rfl
  have d2' := of_decide_eq_false d2
  rw [decide_eq_true (show 7 ≤ s.length by omega)] at hok
  rw [decide_eq_true (show (7 : Int) ≤ (s.length : Int) by omega), show cut s 0 7 = s.take 7 from cut_take (k := 7) rfl, show cut s 7 (s.length : Int) = s.drop 7 from cut_end (k := 7) rfl]
  have e7 : isM (s.take 7) = true := isM_of (n := 7) (by rw [List.length_take]; exact Nat.min_le_left _ _)
  rw [e7]
  cases d5 : decide (foldP (s.take 7) = [104, 116, 116, 112, 58, 47, 47])
  · rw [show decide (foldP (s.take 7) = httpB) = false from d5] at hok
    rw [readU_no (by rw [hok]; rfl)]; rfl
  rw [show decide (foldP (s.take 7) = httpB) = true from d5] at hok
  rw [readU_yes (by rw [hok]; rfl)]
  have hvis : allP isVis (s.drop 7) = true := by
    have e := allP_app isVis (s.take 7) (s.drop 7)
    rw [List.take_append_drop, d3] at e
    cases hh : allP isVis (s.drop 7)
    · rw [hh, Bool.and_false] at e; cases e
    · rfl
  have hasc := vis_asc _ hvis
  generalize hr : s.drop 7 = r at hasc
  have hrl : r.length ≤ 200 := by rw [← hr, List.length_drop]; omega
  have hend := any_end r
  have hat := auth_take r
  have mr : decide (r.length ≤ 1000000) = true := decide_eq_true (by omega)
  refine (val_f rfl).trans ((val_t rfl).trans ((val_f rfl).trans ((val_f rfl).trans ((val_f rfl).trans ((val_t rfl).trans ((val_t rfl).trans ((val_f rfl).trans ((val_t rfl).trans ((val_t (by rw [mr, hasc]; rfl)).trans ?_)))))))))
  unfold urlR pathR portR authP frontP Ur.ok urA
  have lF := upto_le r 63
  have ud := upto_drop 63 r (uptoP (uptoP r 63) 47).length (upto_le _ _)
  generalize hF : uptoP r 63 = F at lF hend hat ud
  have lA := upto_le F 47
  generalize hA : uptoP F 47 = A at lA hend hat ud
  have lH := upto_le A 58
  have ct : cut r 0 (A.length : Int) = A := (cut_take rfl).trans hat
  have cd : cut r (A.length : Int) (r.length : Int) = r.drop A.length := cut_end rfl
  have x1 := cut_upto 58 A
  rw [show by8 58 = 58 from rfl] at x1
  have x2 := cut_upto 63 (r.drop A.length)
  rw [show by8 63 = 63 from rfl, ud] at x2
  generalize hH : uptoP A 58 = H at lH x1
  have y1 : (cutP A [58]).1 = H := by rw [x1]
  have y2 : (cutP A [58]).2.1 = A.drop (H.length + 1) := by rw [x1]
  have y3 : (cutP A [58]).2.2 = decide (H.length < A.length) := by rw [x1]; exact lt_ne lH
  have z1 : (cutP (r.drop A.length) [63]).1 = F.drop A.length := by rw [x2]
  have z2 : (cutP (r.drop A.length) [63]).2.1 = bif decide (F.length < r.length) then r.drop (F.length + 1) else [] := by
    rw [x2]
    simp only [List.length_drop, List.drop_drop]
    cases t : decide (F.length < r.length)
    · have := of_decide_eq_false t
      rw [cond_false]
      exact List.drop_eq_nil_of_le (by omega)
    · rw [cond_true]
      congr 1; omega
  have z3 : (cutP (r.drop A.length) [63]).2.2 = decide (F.length < r.length) := by
    rw [x2]
    simp only [List.length_drop]
    rw [lt_ne (by omega), Bool.eq_iff_iff, decide_eq_true_eq, decide_eq_true_eq]; omega
  have m4 : isM H = true := isM_of (n := 200) (by omega)
  have m5 : isM (foldP H) = true := isM_of (n := 200) (by rw [foldP_len]; omega)
  have m6 : ∀ p, isM (cleanP p) = true := fun p => isM_of (n := 1000) (clean_len p)
  have m7 : isM (F.drop A.length) = true := isM_of (n := 200) (by rw [List.length_drop]; omega)
  have m8 : isM (bif decide (F.length < r.length) then r.drop (F.length + 1) else []) = true := by
    refine isM_of (n := 200) ?_
    cases decide (F.length < r.length)
    · exact Nat.zero_le _
    · rw [cond_true, List.length_drop]; omega
  have q0 : ∀ n : Nat, decide ((0 : Int) ≤ (n : Int)) = true := fun n => decide_eq_true (by omega)
  have qA : decide ((A.length : Int) ≤ (r.length : Int)) = true := decide_eq_true (by omega)
  have q1 : decide (A.length ≤ 1000000) = true := decide_eq_true (by omega)
  have q2 : decide ((r.drop A.length).length ≤ 1000000) = true := decide_eq_true (by rw [List.length_drop]; omega)
  have q3 : decide ((A.drop (H.length + 1)).length ≤ 1000000) = true := decide_eq_true (by rw [List.length_drop]; omega)
  cases t0 : decide (anyIx r [47, 63] < 0)
  · rw [hend.2 t0]
    simp only [Br.val, cond_true, cond_false, q0, qA, ct, cd, q1, q2, y1, y2, y3, z1, z2, z3, m4, m5, m6, m7, m8, q3, Bool.and_self, Bool.and_true, drop_nil]
    cases t1 : decide (H.length < A.length)
    · cases t2 : decide (A.length < F.length)
      · simp only [Br.val, cond_true, cond_false, Bool.not_false, Bool.true_and]
        cases urlOkP (foldP H) 80 [47] (bif decide (F.length < r.length) then r.drop (F.length + 1) else []) (decide (F.length < r.length)) <;> rfl
      · simp only [Br.val, cond_true, cond_false, Bool.not_true, Bool.true_and]
        cases urlOkP (foldP H) 80 (cleanP (F.drop A.length)) (bif decide (F.length < r.length) then r.drop (F.length + 1) else []) (decide (F.length < r.length)) <;> rfl
    · cases t4 : (decR (A.drop (H.length + 1))).2
      · simp only [Br.val, cond_true, cond_false, Bool.not_false, Bool.false_and, t4]; rfl
      · cases t2 : decide (A.length < F.length)
        · simp only [Br.val, cond_true, cond_false, Bool.not_false, Bool.not_true, Bool.true_and, t4]
          cases urlOkP (foldP H) (decR (A.drop (H.length + 1))).1 [47] (bif decide (F.length < r.length) then r.drop (F.length + 1) else []) (decide (F.length < r.length)) <;> rfl
        · simp only [Br.val, cond_true, cond_false, Bool.not_true, Bool.true_and, t4]
          cases urlOkP (foldP H) (decR (A.drop (H.length + 1))).1 (cleanP (F.drop A.length)) (bif decide (F.length < r.length) then r.drop (F.length + 1) else []) (decide (F.length < r.length)) <;> rfl
  · have hl := hend.1 t0
    have ct2 : cut r 0 (r.length : Int) = A := by rw [hl] at ct; exact ct
    have cd2 : cut r (r.length : Int) (r.length : Int) = r.drop A.length := by
      rw [cut_end (l := r) (k := r.length) rfl, hl]
    have qB : decide ((r.length : Int) ≤ (r.length : Int)) = true := decide_eq_true (Int.le_refl _)
    simp only [Br.val, cond_true, cond_false, q0, qB, ct2, cd2, q1, q2, y1, y2, y3, z1, z2, z3, m4, m5, m6, m7, m8, q3, Bool.and_self, Bool.and_true, drop_nil]
    cases t1 : decide (H.length < A.length)
    · cases t2 : decide (A.length < F.length)
      · simp only [Br.val, cond_true, cond_false, Bool.not_false, Bool.true_and]
        cases urlOkP (foldP H) 80 [47] (bif decide (F.length < r.length) then r.drop (F.length + 1) else []) (decide (F.length < r.length)) <;> rfl
      · simp only [Br.val, cond_true, cond_false, Bool.not_true, Bool.true_and]
        cases urlOkP (foldP H) 80 (cleanP (F.drop A.length)) (bif decide (F.length < r.length) then r.drop (F.length + 1) else []) (decide (F.length < r.length)) <;> rfl
    · cases t4 : (decR (A.drop (H.length + 1))).2
      · simp only [Br.val, cond_true, cond_false, Bool.not_false, Bool.false_and, t4]; rfl
      · cases t2 : decide (A.length < F.length)
        · simp only [Br.val, cond_true, cond_false, Bool.not_false, Bool.not_true, Bool.true_and, t4]
          cases urlOkP (foldP H) (decR (A.drop (H.length + 1))).1 [47] (bif decide (F.length < r.length) then r.drop (F.length + 1) else []) (decide (F.length < r.length)) <;> rfl
        · simp only [Br.val, cond_true, cond_false, Bool.not_true, Bool.true_and, t4]
          cases urlOkP (foldP H) (decR (A.drop (H.length + 1))).1 (cleanP (F.drop A.length)) (bif decide (F.length < r.length) then r.drop (F.length + 1) else []) (decide (F.length < r.length)) <;> rfl

def iCanon_C : SC := [⟨242, _, iReadUrl_okQ⟩, ⟨243, _, iUrlT_okQ⟩]
def iCanon_br (s : Bytes) : Br := (Br.ite (isM s) (Br.ite (!(readUP s).2) (Br.ret (AV.tup ((AV.str ([] : Bytes)) :: ((AV.bool false) :: []))) []) (Br.ite (smU (readUP s).1.1 (readUP s).1.2 (readUP s).1.3 (readUP s).1.4) (Br.ret (AV.tup ((AV.str (urlT (readUP s).1.1 (readUP s).1.2 (readUP s).1.3 (readUP s).1.4 (readUP s).1.5)) :: ((AV.bool true) :: []))) []) Br.fail)) Br.fail)
def iCanon_s : List AV → List Ob → Br
  | [.str s], [] => iCanon_br s
  | _, _ => .fail
theorem iCanon_ok : Sound Kx 200 iCanon_s := sound_br (C := iCanon_C) (O := O0) Tryz.func200 (by kernel_rfl) fun args objs => by
  unfold iCanon_s; split
  · exact .inr (by kernel_rfl)
  · exact .inl rfl


theorem readU_ok {s : Bytes} (h : (readUP s).2 = true) : (readUP s).1.ok = true := by
  unfold readUP at h ⊢
  cases c : readOk s && (portR (authP (s.drop 7))).2 && (urlR (s.drop 7)).ok
  · rw [c] at h; cases h
  · rw [cond_true]
    simp only [Bool.and_eq_true] at c
    exact c.2
theorem ok_parts {h : Bytes} {po : Int} {pa q : Bytes} {hq : Bool} (ho : urlOkP h po pa q hq = true) : hostP h = true ∧ decide (1 ≤ po) = true ∧ decide (po ≤ 65535) = true ∧ decide (pa = []) = false ∧ decide (cleanP pa = pa) = true ∧ (urlT h po pa q hq).length ≤ 200 := by
  unfold urlOkP at ho
  simp only [Bool.and_eq_true, Bool.not_eq_true', decide_eq_false_iff_not] at ho
  obtain ⟨⟨⟨⟨⟨⟨⟨h1, h2, h3⟩, h4⟩, h5⟩, _⟩, _⟩, _⟩, h8⟩ := ho
  exact ⟨h1, h2, h3, decide_eq_false h4, h5, of_decide_eq_true h8⟩
theorem q_len {h : Bytes} {po : Int} {pa q : Bytes} {hq : Bool} (ho : urlOkP h po pa q hq = true) : q.length ≤ 200 := by
  have hl := (ok_parts ho).2.2.2.2.2
  unfold urlOkP at ho
  simp only [Bool.and_eq_true, Bool.or_eq_true, decide_eq_true_eq] at ho
  rcases ho.1.2 with h' | h'
  · subst h'
    have := urlT_q h po pa q; omega
  · rw [h']; exact Nat.zero_le _
theorem ur_sizes {u : Ur} (ho : u.ok = true) : smU u.h u.po u.pa u.q = true ∧ (isM u.h && isM u.pa && isM u.q) = true := by
  unfold Ur.ok at ho
  obtain ⟨h1, h2, h3, h4, h5, _⟩ := ok_parts ho
  have hq : isM u.q = true := isM_of (n := 200) (q_len ho)
  have a := host_len h1
  have b := clean_fix (of_decide_eq_true h5) (of_decide_eq_false h4)
  exact ⟨smU_mk h1 h2 h3 h4 h5 hq, by rw [hq, isM_of (n := 60) a, isM_of (n := 200) b]; rfl⟩
def ca_s : List AV → List Ob → Br := t1_s fun s => .tup [.str (canonP s).1, .bool (canonP s).2]
theorem iCanon_okQ : Sound Kx 200 ca_s := iCanon_ok.of fun args objs r h => by
  unfold ca_s t1_s at h
  split at h
  case h_2 => cases h
  rename_i s
  obtain ⟨hM, h2⟩ := ite_some h
  cases h2
  show (iCanon_br s).val = some (.tup [.str (canonP s).1, .bool (canonP s).2], [])
  unfold iCanon_br canonP
  refine (val_t hM).trans ?_
  cases c : (readUP s).2
  · rfl
  · exact (val_f rfl).trans ((val_t (ur_sizes (readU_ok c)).1).trans rfl)

def iIsCan_C : SC := [⟨200, _, iCanon_okQ⟩]
def iIsCan_br (s : Bytes) : Br := (Br.ite (isM s) (Br.ite (canonP s).2 (Br.ret (AV.bool (decide ((canonP s).1 = s))) []) (Br.ret (AV.bool false) [])) Br.fail)
def iIsCan_s : List AV → List Ob → Br
  | [.str s], [] => iIsCan_br s
  | _, _ => .fail
theorem iIsCan_ok : Sound Kx 129 iIsCan_s := sound_br (C := iIsCan_C) (O := O0) Tryz.func129 (by kernel_rfl) fun args objs => by
  unfold iIsCan_s; split
  · exact .inr (by kernel_rfl)
  · exact .inl rfl

def iTime_C : SC := [⟨201, _, iwithin_ok⟩]
def iTime_br (n : Int) : Br := (Br.ite (decide (0 ≤ n)) (Br.ret (AV.bool (decide (n ≤ 253402300799))) []) (Br.ret (AV.bool false) []))
def iTime_s : List AV → List Ob → Br
  | [.int .i64 n], [] => iTime_br n
  | _, _ => .fail
theorem iTime_ok : Sound Kx 130 iTime_s := sound_br (C := iTime_C) (O := O0) Tryz.func130 (by kernel_rfl) fun args objs => by
  unfold iTime_s; split
  · exact .inr (by kernel_rfl)
  · exact .inl rfl


theorem iIsCan_okQ : Sound Kx 129 (t1_s fun s => .bool (isCanP s)) := iIsCan_ok.of fun args objs r h => by
  unfold t1_s at h
  split at h
  case h_2 => cases h
  rename_i s
  obtain ⟨hM, h2⟩ := ite_some h
  cases h2
  show (iIsCan_br s).val = some (.bool (isCanP s), [])
  unfold iIsCan_br isCanP
  refine (val_t hM).trans ?_
  cases (canonP s).2 <;> rfl
theorem iTime_okQ : Sound Kx 130 (pn_s timB) := of_pn iTime_ok fun b => v_and _ _
abbrev En := Bytes × Int × Int × List Fd × Mg
def en_s (g : En → Bool) (p : En → AV) : List AV → List Ob → Br
  | [.agg [.str ur, .int .i64 t1, .int .i64 t2, .sh (.pair .str .str) ak, .str me, .str ta, .int .i64 st, .str re, .bool ba, .sh (.pair .str .str) fs, .str bo]], [] =>
    .ite (g (ur, t1, t2, ak, me, ta, st, re, ba, fs, bo)) (.ret (p (ur, t1, t2, ak, me, ta, st, re, ba, fs, bo)) []) .fail
  | _, _ => .fail
theorem of_en {n : Nat} {s : List AV → List Ob → Br} (hs : Sound Kx n s) {g : En → Bool} {p : En → AV}
    (h : ∀ ur t1 t2 ak me ta st re ba fs bo, g (ur, t1, t2, ak, me, ta, st, re, ba, fs, bo) = true → (s [.agg [.str ur, .int .i64 t1, .int .i64 t2, .sh (.pair .str .str) ak, .str me, .str ta, .int .i64 st, .str re, .bool ba, .sh (.pair .str .str) fs, .str bo]] []).val = some (p (ur, t1, t2, ak, me, ta, st, re, ba, fs, bo), [])) : Sound Kx n (en_s g p) := hs.of fun args objs r hv => by
  unfold en_s at hv
  split at hv
  case h_2 => cases hv
  obtain ⟨h1, h2⟩ := ite_some hv
  cases h2
  exact h _ _ _ _ _ _ _ _ _ _ _ h1
def entP (e : En) : Bool :=
  isCanP e.1 && timB e.2.1 && timB e.2.2.1 && decide (e.2.1 ≤ e.2.2.1) && fdsOk e.2.2.2.1 && msgOkP e.2.2.2.2.1 e.2.2.2.2.2.1 e.2.2.2.2.2.2.1 e.2.2.2.2.2.2.2.1 e.2.2.2.2.2.2.2.2.1 e.2.2.2.2.2.2.2.2.2.1 e.2.2.2.2.2.2.2.2.2.2 && decide (e.2.2.2.2.1 = []) && !e.2.2.2.2.2.2.2.2.1

def iEntryOk_O : Opt := { split := true }
def iEntryOk_C : SC := [⟨129, _, iIsCan_okQ⟩, ⟨130, _, iTime_okQ⟩, ⟨84, _, iFieldsOk_okQ⟩, ⟨101, _, iMsgOk_okQ⟩]
def iEntryOk_br (ur : Bytes) (t1 t2 : Int) (ak : List Fd) (me ta : Bytes) (st : Int) (re : Bytes) (ba : Bool) (fs : List Fd) (bo : Bytes) : Br := (Br.ite (isM ur) (Br.ite (isCanP ur) (Br.ite (timB t1) (Br.ite (timB t2) (Br.ite (decide (t1 ≤ t2)) (Br.ite (fdsOk ak) (Br.ite (msgOkP me ta st re ba fs bo) (Br.ite (decide (me = ([] : Bytes))) (Br.ret (AV.bool (!ba)) []) (Br.ret (AV.bool false) [])) (Br.ret (AV.bool false) [])) (Br.ret (AV.bool false) [])) (Br.ret (AV.bool false) [])) (Br.ret (AV.bool false) [])) (Br.ret (AV.bool false) [])) (Br.ret (AV.bool false) [])) Br.fail)
def iEntryOk_s : List AV → List Ob → Br
  | [.agg [.str ur, .int .i64 t1, .int .i64 t2, .sh (.pair .str .str) ak, .str me, .str ta, .int .i64 st, .str re, .bool ba, .sh (.pair .str .str) fs, .str bo]], [] => iEntryOk_br ur t1 t2 ak me ta st re ba fs bo
  | _, _ => .fail
theorem iEntryOk_ok : Sound Kx 49 iEntryOk_s := sound_br (C := iEntryOk_C) (O := iEntryOk_O) Tryz.func49 (by kernel_rfl) fun args objs => by
  unfold iEntryOk_s; split
  · exact .inr (by kernel_rfl)
  · exact .inl rfl

def ek_s : List AV → List Ob → Br := en_s (fun e => isM e.1) (fun e => .bool (entP e))
theorem iEntryOk_okQ : Sound Kx 49 ek_s := of_en iEntryOk_ok fun ur t1 t2 ak me ta st re ba fs bo h => by
  show (iEntryOk_br ur t1 t2 ak me ta st re ba fs bo).val = some (.bool (entP (ur, t1, t2, ak, me, ta, st, re, ba, fs, bo)), [])
  unfold iEntryOk_br entP
  refine (val_t h).trans ?_
  simp only
  cases isCanP ur <;> cases timB t1 <;> cases timB t2 <;> cases decide (t1 ≤ t2) <;> cases fdsOk ak <;> cases msgOkP me ta st re ba fs bo <;> cases decide (me = []) <;> rfl

end
end Go.Proofs.YtgknmoadpgpdeaaGreatDoor.Ev

namespace Go.Proofs.YtgknmoadpgpdeaaGreatDoor.Ev
open Go Go.RowKit
set_option linter.unusedVariables false
set_option linter.unusedSimpArgs false
noncomputable section

end
end Go.Proofs.YtgknmoadpgpdeaaGreatDoor.Ev

namespace Go.Proofs.YtgknmoadpgpdeaaGreatDoor.Ev
open Go Go.RowKit
set_option linter.unusedVariables false
set_option linter.unusedSimpArgs false
noncomputable section

def eqSl_O : Opt := { live := [(4, [0, 1, 12, 13])], outs := [(4, [4])] }
def eqSl_T4 (v4x0 v4x1 : (List Bytes)) (v4x2 v4x3 : Int) (kR4 : (List Bytes) → (List Bytes) → Int → Int → Option Rs) (k4e0 k4e1 : Option Rs) : Option Rs :=
  (bif (decide (v4x3 < v4x2)) then (bif (decide (0 ≤ v4x3)) then (bif (decide (v4x3 < (v4x0.length : Int))) then (bif (decide (0 ≤ v4x3)) then (bif (decide (v4x3 < (v4x1.length : Int))) then (bif (!(decide ((List.getD v4x0 (Int.toNat v4x3) ([] : Bytes)) = (List.getD v4x1 (Int.toNat v4x3) ([] : Bytes))))) then k4e0 else (kR4 v4x0 v4x1 v4x2 (wk64 (v4x3 + 1)))) else (none)) else (none)) else (none)) else (none)) else k4e1)
def eqSl_F4 : Nat → (List Bytes) → (List Bytes) → Int → Int → (Option Rs) → (Option Rs) → Option Rs
  | 0, _, _, _, _, _, _ => none
  | n + 1, v4x0, v4x1, v4x2, v4x3, k4e0, k4e1 => eqSl_T4 v4x0 v4x1 v4x2 v4x3 (fun v4x0 v4x1 v4x2 v4x3 => eqSl_F4 n v4x0 v4x1 v4x2 v4x3 k4e0 k4e1) k4e0 k4e1
abbrev eqSl_p4 : SP := ⟨26, [0, 1, 12, 13], [(.v (.sh Ty.str)), (.v (.sh Ty.str)), (.v (.i .i64)), (.v (.i .i64))], []⟩
noncomputable def eqSl_b4 : Code := codeAt (codeOf Tryz.f93) [1, 1, 0, 1, 0, 0]
def eqSl_E4 (f : (Option Rs) → (Option Rs) → Option Rs) (k : KT) : Option Rs := f (k Ex.ret ((St.mk (slots 0 26 [(4, (AV.bool false))]) ([] : (List (Nat × (Ob))))))) (k (Ex.exit 0) ((St.mk (slots 0 26 []) ([] : (List (Nat × (Ob)))))))
def eqSl_G4 (n : Nat) (d : eqSl_p4.D) : KT → Option Rs := eqSl_E4 (eqSl_F4 n d.1.1 d.1.2.1 d.1.2.2.1 d.1.2.2.2.1)
def eqSl_L (N : Nat) : Lam := lamOf [⟨4, eqSl_p4, eqSl_G4 N⟩]
theorem eqSl_ok4 (N : Nat) : OkL Kx noS eqSl_O 0 N (eqSl_L N) eqSl_b4 := okL eqSl_p4 (eqSl_G4) (fun d kR => eqSl_E4 (eqSl_T4 d.1.1 d.1.2.1 d.1.2.2.1 d.1.2.2.2.1 (fun v4x0 v4x1 v4x2 v4x3 => kR ((v4x0, v4x1, v4x2, v4x3, ()), ())))) (fun _ _ => by kernel_rfl) (fun _ _ _ => by kernel_rfl) (fun _ _ => by kernel_rfl) (fun _ _ _ _ => by kernel_rfl) (okEach (l' := []) (by kernel_rfl) trivial)
def eqSl_run (N : Nat) (a b : List Bytes) : Option Rs := (bif (!(decide ((a.length : Int) = (b.length : Int)))) then (some ((AV.bool false), [])) else (eqSl_F4 N a b (a.length : Int) 0 (some ((AV.bool false), [])) (some ((AV.bool true), []))))
def eqSl_sOf (φ : (List Bytes) → (List Bytes) → Br) : List AV → List Ob → Br
  | [.sh .str a, .sh .str b], [] => φ a b
  | _, _ => .fail
theorem eqSl_okOf {φ : (List Bytes) → (List Bytes) → Br} (fu : (List Bytes) → (List Bytes) → Nat) (hv : ∀ a b res_, (φ a b).val = some res_ → eqSl_run (fu a b) a b = some res_) : Sound Kx 93 (eqSl_sOf φ) := sound_lp (C := []) (O := eqSl_O) Tryz.func93 (by kernel_rfl) fun args objs => by
  unfold eqSl_sOf; split
  · rename_i a b; exact .inr fun _ hyp_ => run_lp (Λ := eqSl_L (fu a b)) (by kernel_rfl) (okEach (l' := [eqSl_b4]) (by kernel_rfl) ⟨eqSl_ok4 _, trivial⟩) (by kernel_rfl) (hv a b _ hyp_)
  · exact .inl rfl

def tt_s : List AV → List Ob → Br
  | [.sh .str a, .sh .str b], [] => .ite (decide (a.length ≤ 1000000)) (.ret (.bool (decide (a = b))) []) .fail
  | _, _ => .fail
theorem eqSl_loop (a b : List Bytes) (hl : a.length ≤ 4611686018427387904) (k0 k1 : Option Rs) : ∀ (r r' : List Bytes) (i : Int) (n : Nat), At a i r → At b i r' → r.length = r'.length → r.length < n →
    eqSl_F4 n a b (a.length : Int) i k0 k1 = bif decide (r = r') then k1 else k0 := by
  intro r; induction r with
  | nil =>
    intro r' i n h h' he hn; obtain ⟨n, rfl⟩ := fuel hn
    obtain rfl : r' = [] := List.length_eq_zero_iff.1 he.symm
    unfold eqSl_F4 eqSl_T4; simp only [h.dge, cond_false, decide_true, cond_true]
  | cons x r ih =>
    intro r' i n h h' he hn; obtain ⟨n, rfl⟩ := fuel hn
    cases r' with
    | nil => cases he
    | cons y r' =>
      have hs := ih r' (i + 1) n h.step h'.step (by simpa using he) (by simp at hn; omega)
      unfold eqSl_F4 eqSl_T4; simp only [h.dlt, h'.dlt, h.dnn, h.get, h'.get, cond_true, h.next hl, hs]
      by_cases c1 : x = y <;> by_cases c2 : r = r' <;> simp [c1, c2]
theorem eqSl_okQ : Sound Kx 93 tt_s := by
  refine (eqSl_okOf (φ := fun a b => .ite (decide (a.length ≤ 1000000)) (.ret (.bool (decide (a = b))) []) .fail) (fun a _ => a.length + 1) fun a b r h => ?_).of fun args objs r h => ?_
  · obtain ⟨h1, h2⟩ := ite_some h
    cases h2
    rw [decide_eq_true_eq] at h1
    unfold eqSl_run
    by_cases c : a.length = b.length
    · rw [decide_eq_true (show (a.length : Int) = (b.length : Int) by omega)]
      refine (eqSl_loop a b (by omega) _ _ a b 0 _ (At.start a) (At.start b) c (by omega)).trans ?_
      cases decide (a = b) <;> rfl
    · rw [decide_eq_false (show ¬ (a.length : Int) = (b.length : Int) by omega), decide_eq_false (show ¬ a = b from fun e => c (by rw [e]))]
      rfl
  · unfold tt_s at h; split at h
    · exact h
    · cases h
theorem ins_mem (s : Bytes) : ∀ (l : List Bytes) (x : Bytes), x ∈ insP l s → x = s ∨ x ∈ l
  | [], x, h => by simp [insP] at h; exact .inl h
  | a :: l, x, h => by
    unfold insP at h
    cases c : bytesLess s a
    · rw [c, cond_false] at h
      rcases List.mem_cons.1 h with rfl | h
      · exact .inr (List.mem_cons_self ..)
      · rcases ins_mem s l x h with h | h
        · exact .inl h
        · exact .inr (List.mem_cons_of_mem _ h)
    · rw [c, cond_true] at h
      rcases List.mem_cons.1 h with h | h
      · exact .inl h
      · exact .inr h
theorem put_mem (l : List Bytes) (s x : Bytes) (h : x ∈ putP l s) : x = s ∨ x ∈ l := by
  unfold putP at h
  cases c : inP l s
  · rw [c, cond_false] at h; exact ins_mem s l x h
  · rw [c, cond_true] at h; exact .inr h
theorem fold_put : ∀ (ws out : List Bytes), (∀ x ∈ out, x.length ≤ 4000) → (∀ x ∈ ws, x.length ≤ 4000) → ∀ x ∈ ws.foldl (fun o w => putP o (foldP w)) out, x.length ≤ 4000
  | [], out, h, _ => h
  | w :: ws, out, h, hw => by
    rw [List.foldl_cons]
    refine fold_put ws _ (fun x hx => ?_) fun x hx => hw x (List.mem_cons_of_mem _ hx)
    rcases put_mem _ _ _ hx with rfl | hx
    · rw [foldP_len]; exact hw w (List.mem_cons_self ..)
    · exact h x hx
theorem vary_mem (l : List Fd) : ∀ x ∈ varyP l, x.length ≤ 4000 := fold_put _ [] (fun x h => by cases h) fun x hx => (elem_bd _).2 x hx

def iChosen_O : Opt := { live := [(4, [1, 2, 18, 19, 20])], outs := [(4, [4])] }
def iChosen_C : SC := [⟨49, _, iEntryOk_okQ⟩, ⟨84, _, iFieldsOk_okQ⟩, ⟨92, _, iVary_okQ⟩, ⟨87, _, iWords_okQ⟩, ⟨93, _, eqSl_okQ⟩]
def iChosen_T4 (v4x0 : (List Fd)) (v4x1 v4x2 : Int) (v4x3 : Bytes) (v4x4 v4x5 : Int) (v4x6 : (List Fd)) (v4x7 v4x8 : Bytes) (v4x9 : Int) (v4x10 : Bytes) (v4x11 : Bool) (v4x12 : (List Fd)) (v4x13 : Bytes) (v4x14 : (List Bytes)) (kR4 : (List Fd) → Int → Int → Bytes → Int → Int → (List Fd) → Bytes → Bytes → Int → Bytes → Bool → (List Fd) → Bytes → (List Bytes) → Option Rs) (k4e0 k4e1 : Option Rs) : Option Rs :=
  (bif (decide (v4x2 < v4x1)) then (bif (decide (0 ≤ v4x2)) then (bif (decide (v4x2 < (v4x14.length : Int))) then (bif (decide ((List.getD v4x14 (Int.toNat v4x2) ([] : Bytes)) = ([42] : Bytes))) then k4e0 else (bif (isM (List.getD v4x14 (Int.toNat v4x2) ([] : Bytes))) then (bif (isM (List.getD v4x14 (Int.toNat v4x2) ([] : Bytes))) then (bif (decide ((List.length (wordsP v4x6 (List.getD v4x14 (Int.toNat v4x2) ([] : Bytes)))) ≤ 1000000)) then (bif (!(decide ((wordsP v4x6 (List.getD v4x14 (Int.toNat v4x2) ([] : Bytes))) = (wordsP v4x0 (List.getD v4x14 (Int.toNat v4x2) ([] : Bytes)))))) then k4e0 else (kR4 v4x0 v4x1 (wk64 (v4x2 + 1)) v4x3 v4x4 v4x5 v4x6 v4x7 v4x8 v4x9 v4x10 v4x11 v4x12 v4x13 v4x14)) else (none)) else (none)) else (none))) else (none)) else (none)) else k4e1)
def iChosen_F4 : Nat → (List Fd) → Int → Int → Bytes → Int → Int → (List Fd) → Bytes → Bytes → Int → Bytes → Bool → (List Fd) → Bytes → (List Bytes) → (Option Rs) → (Option Rs) → Option Rs
  | 0, _, _, _, _, _, _, _, _, _, _, _, _, _, _, _, _, _ => none
  | n + 1, v4x0, v4x1, v4x2, v4x3, v4x4, v4x5, v4x6, v4x7, v4x8, v4x9, v4x10, v4x11, v4x12, v4x13, v4x14, k4e0, k4e1 => iChosen_T4 v4x0 v4x1 v4x2 v4x3 v4x4 v4x5 v4x6 v4x7 v4x8 v4x9 v4x10 v4x11 v4x12 v4x13 v4x14 (fun v4x0 v4x1 v4x2 v4x3 v4x4 v4x5 v4x6 v4x7 v4x8 v4x9 v4x10 v4x11 v4x12 v4x13 v4x14 => iChosen_F4 n v4x0 v4x1 v4x2 v4x3 v4x4 v4x5 v4x6 v4x7 v4x8 v4x9 v4x10 v4x11 v4x12 v4x13 v4x14 k4e0 k4e1) k4e0 k4e1
abbrev iChosen_p4 : SP := ⟨38, [1, 2, 18, 19, 20], [(.v (.sh (Ty.pair Ty.str Ty.str))), (.v (.ptr 192 0)), (.v (.ref 1216 0)), (.v (.i .i64)), (.v (.i .i64))], [(192, .var [.s, (.i .i64), (.i .i64), (.sh (Ty.pair Ty.str Ty.str)), .s, .s, (.i .i64), .s, .b, (.sh (Ty.pair Ty.str Ty.str)), .s]), (1216, .arr Ty.str 0 false)]⟩
noncomputable def iChosen_b4 : Code := codeAt (codeOf Tryz.f35) [1, 1, 0, 1, 0, 0]
def iChosen_E4 (f : (Option Rs) → (Option Rs) → Option Rs) (k : KT) : Option Rs := f (k Ex.ret ((St.mk (slots 0 38 [(4, (AV.bool false))]) ([] : (List (Nat × (Ob))))))) (k (Ex.exit 0) ((St.mk (slots 0 38 []) ([] : (List (Nat × (Ob)))))))
def iChosen_G4 (n : Nat) (d : iChosen_p4.D) : KT → Option Rs := iChosen_E4 (iChosen_F4 n d.1.1 d.1.2.2.2.1 d.1.2.2.2.2.1 d.2.1.1 d.2.1.2.1 d.2.1.2.2.1 d.2.1.2.2.2.1 d.2.1.2.2.2.2.1 d.2.1.2.2.2.2.2.1 d.2.1.2.2.2.2.2.2.1 d.2.1.2.2.2.2.2.2.2.1 d.2.1.2.2.2.2.2.2.2.2.1 d.2.1.2.2.2.2.2.2.2.2.2.1 d.2.1.2.2.2.2.2.2.2.2.2.2.1 d.2.2.1)
def iChosen_L (N : Nat) : Lam := lamOf [⟨4, iChosen_p4, iChosen_G4 N⟩]
theorem iChosen_ok4 (N : Nat) : OkL Kx iChosen_C.s iChosen_O 0 N (iChosen_L N) iChosen_b4 := okL iChosen_p4 (iChosen_G4) (fun d kR => iChosen_E4 (iChosen_T4 d.1.1 d.1.2.2.2.1 d.1.2.2.2.2.1 d.2.1.1 d.2.1.2.1 d.2.1.2.2.1 d.2.1.2.2.2.1 d.2.1.2.2.2.2.1 d.2.1.2.2.2.2.2.1 d.2.1.2.2.2.2.2.2.1 d.2.1.2.2.2.2.2.2.2.1 d.2.1.2.2.2.2.2.2.2.2.1 d.2.1.2.2.2.2.2.2.2.2.2.1 d.2.1.2.2.2.2.2.2.2.2.2.2.1 d.2.2.1 (fun v4x0 v4x1 v4x2 v4x3 v4x4 v4x5 v4x6 v4x7 v4x8 v4x9 v4x10 v4x11 v4x12 v4x13 v4x14 => kR ((v4x0, (), (), v4x1, v4x2, ()), ((v4x3, v4x4, v4x5, v4x6, v4x7, v4x8, v4x9, v4x10, v4x11, v4x12, v4x13, ()), v4x14, ()))))) (fun _ _ => by kernel_rfl) (fun _ _ _ => by kernel_rfl) (fun _ _ => by kernel_rfl) (fun _ _ _ _ => by kernel_rfl) (okEach (l' := []) (by kernel_rfl) trivial)
def iChosen_run (N : Nat) (ur : Bytes) (t1 t2 : Int) (ak : List Fd) (me ta : Bytes) (st : Int) (re : Bytes) (ba : Bool) (fs : List Fd) (bo : Bytes) (l : List Fd) : Option Rs := (bif (isM ur) then (bif (!(entP (ur, (t1, (t2, (ak, (me, (ta, (st, (re, (ba, (fs, bo)))))))))))) then (some ((AV.bool false), [])) else (bif (!(fdsOk l)) then (some ((AV.bool false), [])) else (iChosen_F4 N l ((List.length (varyP fs)) : Int) 0 ur t1 t2 ak me ta st re ba fs bo (varyP fs) (some ((AV.bool false), [])) (some ((AV.bool true), []))))) else (none))
def iChosen_sOf (φ : Bytes → Int → Int → (List Fd) → Bytes → Bytes → Int → Bytes → Bool → (List Fd) → Bytes → (List Fd) → Br) : List AV → List Ob → Br
  | [.agg [.str ur, .int .i64 t1, .int .i64 t2, .sh (.pair .str .str) ak, .str me, .str ta, .int .i64 st, .str re, .bool ba, .sh (.pair .str .str) fs, .str bo], .sh (.pair .str .str) l], [] => φ ur t1 t2 ak me ta st re ba fs bo l
  | _, _ => .fail
theorem iChosen_okOf {φ : Bytes → Int → Int → (List Fd) → Bytes → Bytes → Int → Bytes → Bool → (List Fd) → Bytes → (List Fd) → Br} (fu : Bytes → Int → Int → (List Fd) → Bytes → Bytes → Int → Bytes → Bool → (List Fd) → Bytes → (List Fd) → Nat) (hv : ∀ ur t1 t2 ak me ta st re ba fs bo l res_, (φ ur t1 t2 ak me ta st re ba fs bo l).val = some res_ → iChosen_run (fu ur t1 t2 ak me ta st re ba fs bo l) ur t1 t2 ak me ta st re ba fs bo l = some res_) : Sound Kx 35 (iChosen_sOf φ) := sound_lp (C := iChosen_C) (O := iChosen_O) Tryz.func35 (by kernel_rfl) fun args objs => by
  unfold iChosen_sOf; split
  · rename_i ur t1 t2 ak me ta st re ba fs bo l; exact .inr fun _ hyp_ => run_lp (Λ := iChosen_L (fu ur t1 t2 ak me ta st re ba fs bo l)) (by kernel_rfl) (okEach (l' := [iChosen_b4]) (by kernel_rfl) ⟨iChosen_ok4 _, trivial⟩) (by kernel_rfl) (hv ur t1 t2 ak me ta st re ba fs bo l _ hyp_)
  · exact .inl rfl

def sameW (ak l : List Fd) (n : Bytes) : Bool := bif decide (n = [42]) then false else decide (wordsP ak n = wordsP l n)
def chosenP (e : En) (l : List Fd) : Bool := entP e && fdsOk l && (varyP e.2.2.2.2.2.2.2.2.2.1).all (sameW e.2.2.2.1 l)
theorem words_dec (ak : List Fd) (n : Bytes) : decide ((wordsP ak n).length ≤ 1000000) = true := decide_eq_true (by have := (words_bd ak n).1; omega)
theorem iChosen_loop (ws : List Bytes) (hl : ws.length ≤ 100000) (ur : Bytes) (t1 t2 : Int) (ak : List Fd) (me ta : Bytes) (st : Int) (re : Bytes) (ba : Bool) (fs : List Fd) (bo : Bytes) (l : List Fd) (k0 k1 : Option Rs) :
    ∀ (r : List Bytes) (i : Int) (n : Nat), At ws i r → r.length < n → (∀ x ∈ r, x.length ≤ 4000) →
    iChosen_F4 n l (ws.length : Int) i ur t1 t2 ak me ta st re ba fs bo ws k0 k1 = bif r.all (sameW ak l) then k1 else k0 := by
  intro r; induction r with
  | nil => intro i n h hn hm; obtain ⟨n, rfl⟩ := fuel hn; unfold iChosen_F4 iChosen_T4; simp only [h.dge, cond_false, List.all_nil, cond_true]
  | cons e r ih =>
    intro i n h hn hm; obtain ⟨n, rfl⟩ := fuel hn
    simp only [List.length_cons] at hn
    have hM : isM e = true := isM_of (n := 4000) (hm e (List.mem_cons_self ..))
    have hr := ih (i + 1) n h.step (by omega) (fun x hx => hm x (List.mem_cons_of_mem _ hx))
    unfold iChosen_F4 iChosen_T4
    simp only [h.dlt, h.dnn, h.get, cond_true, h.next (show ws.length ≤ 4611686018427387904 by omega), hM, hr, List.all_cons, words_dec]
    unfold sameW
    cases decide (e = [42]) <;> cases decide (wordsP ak e = wordsP l e) <;> rfl
def ch_s : List AV → List Ob → Br
  | [.agg [.str ur, .int .i64 t1, .int .i64 t2, .sh (.pair .str .str) ak, .str me, .str ta, .int .i64 st, .str re, .bool ba, .sh (.pair .str .str) fs, .str bo], .sh (.pair .str .str) l], [] => .ite (isM ur) (.ret (.bool (chosenP (ur, t1, t2, ak, me, ta, st, re, ba, fs, bo) l)) []) .fail
  | _, _ => .fail
theorem iChosen_okQ : Sound Kx 35 ch_s := by
  refine (iChosen_okOf (φ := fun ur t1 t2 ak me ta st re ba fs bo l => .ite (isM ur) (.ret (.bool (chosenP (ur, t1, t2, ak, me, ta, st, re, ba, fs, bo) l)) []) .fail) (fun _ _ _ _ _ _ _ _ _ fs _ _ => (varyP fs).length + 1)
    fun ur t1 t2 ak me ta st re ba fs bo l r h => ?_).of fun args objs r h => ?_
  · obtain ⟨h1, h2⟩ := ite_some h
    cases h2
    unfold iChosen_run chosenP
    rw [h1, cond_true, iChosen_loop (varyP fs) (by have := vary_len fs; omega) ur t1 t2 ak me ta st re ba fs bo l _ _ (varyP fs) 0 ((varyP fs).length + 1) (At.start _) (by omega) (vary_mem fs)]
    cases entP (ur, t1, t2, ak, me, ta, st, re, ba, fs, bo) <;> cases fdsOk l <;> cases (varyP fs).all (sameW ak l) <;> rfl
  · unfold ch_s at h; split at h
    · exact h
    · cases h


end
end Go.Proofs.YtgknmoadpgpdeaaGreatDoor.Ev

namespace Go.Proofs.YtgknmoadpgpdeaaGreatDoor.Ev
open Go Go.RowKit
set_option linter.unusedVariables false
set_option linter.unusedSimpArgs false
noncomputable section

end
end Go.Proofs.YtgknmoadpgpdeaaGreatDoor.Ev

namespace Go.Proofs.YtgknmoadpgpdeaaGreatDoor.Ev
open Go Go.RowKit
set_option linter.unusedVariables false
set_option linter.unusedSimpArgs false
noncomputable section


end
end Go.Proofs.YtgknmoadpgpdeaaGreatDoor.Ev

namespace Go.Proofs.YtgknmoadpgpdeaaGreatDoor.Ev
open Go Go.RowKit
set_option linter.unusedVariables false
set_option linter.unusedSimpArgs false


end Go.Proofs.YtgknmoadpgpdeaaGreatDoor.Ev

namespace Go.Proofs.YtgknmoadpgpdeaaGreatDoor.Ev
open Go Go.RowKit
set_option linter.unusedVariables false
set_option linter.unusedSimpArgs false
noncomputable section

end
end Go.Proofs.YtgknmoadpgpdeaaGreatDoor.Ev

namespace Go.Proofs.YtgknmoadpgpdeaaGreatDoor.Ev
open Go Go.RowKit
set_option linter.unusedVariables false
set_option linter.unusedSimpArgs false
noncomputable section

end
end Go.Proofs.YtgknmoadpgpdeaaGreatDoor.Ev

namespace Go.Proofs.YtgknmoadpgpdeaaGreatDoor.Ev
open Go Go.RowKit
set_option linter.unusedVariables false
set_option linter.unusedSimpArgs false
noncomputable section

end
end Go.Proofs.YtgknmoadpgpdeaaGreatDoor.Ev

namespace Go.Proofs.YtgknmoadpgpdeaaGreatDoor.Ev
open Go Go.RowKit
set_option linter.unusedVariables false
set_option linter.unusedSimpArgs false
end Go.Proofs.YtgknmoadpgpdeaaGreatDoor.Ev
