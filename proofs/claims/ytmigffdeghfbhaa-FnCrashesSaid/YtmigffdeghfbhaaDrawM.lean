/- DrawA, DrawB, DrawC, DrawD, DrawE, DrawF, DrawG, DrawH, DrawI, DrawJ, DrawK, DrawL, one behind the other (merge.py). -/
import Derived.Test.YtmigffdeghfbhaaStoreM
namespace Go.Proofs.Ytmigffdeghfbhaa.Ev
open Go Go.RowKit
set_option linter.unusedVariables false
set_option linter.unusedSimpArgs false

/-! spec.l1New -/
def l1New_O : Opt := { cons := [], keepNil := false, mutF := [], live := [(3, [0, 3, 4])], outs := [(3, [0, 2, 3])] }
def l1New_T3 (v3x0 : (List Int)) (v3x1 : Int) (v3x2 : Int) (kR3 : (List Int) → Int → Int → Option Rs) (k3e0 : (List Int) → Int → Option Rs) : Option Rs :=
  (bif (decide (v3x2 < ((List.length v3x0) : Int))) then (bif (decide (v3x2 < (4000 : Int))) then (bif (decide ((0 : Int) ≤ v3x2)) then (bif (decide (v3x2 < ((List.length v3x0) : Int))) then (kR3 v3x0 (IntKind.wrap .i64 (((BitVec.toNat ((BitVec.ofInt (64 : Nat) (wrap64 ((wrap64 ((wrap64 (v3x1 * (131 : Int))) + (wrap64 (List.getD v3x0 (Int.toNat v3x2) (0 : Int))))) + (7 : Int)))) &&& (BitVec.ofInt (64 : Nat) (1073741823 : Int)))) : Nat) : Int)) (wrap64 (v3x2 + (1 : Int)))) else (none)) else (none)) else (k3e0 v3x0 v3x1)) else (k3e0 v3x0 v3x1))
def l1New_F3 : Nat → (List Int) → Int → Int → ((List Int) → Int → Option Rs) → Option Rs
  | 0, _, _, _, _ => none
  | n + 1, v3x0, v3x1, v3x2, k3e0 => l1New_T3 v3x0 v3x1 v3x2 (fun v3x0 v3x1 v3x2 => l1New_F3 n v3x0 v3x1 v3x2 k3e0) k3e0
def l1New_h3 (v3x0 : (List Int)) (v3x1 : Int) (v3x2 : Int) : St := (St.mk (slots 0 32 [(0, (AV.sh (Ty.int .u8) v3x0)), (3, (AV.int .i64 v3x1)), (4, (AV.int .i64 v3x2))]) ([] : (List (Nat × (Ob)))))
def l1New_x3e0 (x3x0x0 : (List Int)) (x3x0x1 : Int) : St := (St.mk (slots 0 32 [(0, (AV.sh (Ty.int .u8) x3x0x0)), (3, (AV.int .i64 x3x0x1))]) ([] : (List (Nat × (Ob)))))
noncomputable def l1New_b3 : Code := codeAt (codeOf Try.f21) [1, 1, 0, 1, 0, 0]
def l1New_L3 (N : Nat) (st : St) (k : Ex → St → Option Rs) : Option Rs := match takeF [0, 3, 4] 0 32 st.env, st.objs with
  | some [.sh (Ty.int .u8) v3x0, .int .i64 v3x1, .int .i64 v3x2], [] => l1New_F3 N v3x0 v3x1 v3x2 (fun x3x0x0 x3x0x1 => k (Ex.exit (0 : Nat)) (l1New_x3e0 x3x0x0 x3x0x1))
  | _, _ => none
def l1New_L (N : Nat) : Lam := fun j st k => match j with
  | 3 => l1New_L3 N st k
  | _ => none
theorem l1New_round3 (N : Nat) (again : St → Option Rs) (k : Ex → St → Option Rs) (wv3x0 : (List Int)) (wv3x1 : Int) (wv3x2 : Int) (v3x0 : (List Int)) (v3x1 : Int) (v3x2 : Int) :
    roundK 0 (fun st k => evL Kx noS l1New_O 0 (l1New_L N) l1New_b3 st k) (l1New_h3 wv3x0 wv3x1 wv3x2).env again (l1New_h3 v3x0 v3x1 v3x2) (outK l1New_O 0 l1New_b3 k) = l1New_T3 v3x0 v3x1 v3x2 (fun v3x0 v3x1 v3x2 => again (l1New_h3 v3x0 v3x1 v3x2)) (fun x3x0x0 x3x0x1 => k (Ex.exit (0 : Nat)) (l1New_x3e0 x3x0x0 x3x0x1)) := by kernel_rfl
theorem l1New_loop3 (N : Nat) (k : Ex → St → Option Rs) (wv3x0 : (List Int)) (wv3x1 : Int) (wv3x2 : Int) : ∀ (n : Nat) (v3x0 : (List Int)) (v3x1 : Int) (v3x2 : Int),
    loopK 0 (fun st k => evL Kx noS l1New_O 0 (l1New_L N) l1New_b3 st k) (l1New_h3 wv3x0 wv3x1 wv3x2).env n (l1New_h3 v3x0 v3x1 v3x2) (outK l1New_O 0 l1New_b3 k) = l1New_F3 n v3x0 v3x1 v3x2 (fun x3x0x0 x3x0x1 => k (Ex.exit (0 : Nat)) (l1New_x3e0 x3x0x0 x3x0x1))
  | 0, _, _, _ => rfl
  | n + 1, v3x0, v3x1, v3x2 => by
    rw [loopK_succ, l1New_round3]
    simp only [l1New_loop3 N k wv3x0 wv3x1 wv3x2 n]
    rfl
theorem l1New_at3 (N : Nat) {s : St} {k : Ex → St → Option Rs} {r : Rs} (h : l1New_L3 N s k = some r) : ∃ (v3x0 : (List Int)) (v3x1 : Int) (v3x2 : Int), s = (l1New_h3 v3x0 v3x1 v3x2) ∧ l1New_F3 N v3x0 v3x1 v3x2 (fun x3x0x0 x3x0x1 => k (Ex.exit (0 : Nat)) (l1New_x3e0 x3x0x0 x3x0x1)) = some r := by
  cases s with | mk env objs =>
  unfold l1New_L3 at h
  split at h
  · rename_i e1 e2
    have e3 := takeF_slots _ _ _ _ e1
    simp only at e2 e3
    subst e2 e3
    exact ⟨_, _, _, rfl, h⟩
  · cases h
theorem l1New_in3 : loops l1New_b3 = [] := by kernel_rfl
theorem l1New_lid3 : lid l1New_b3 = 3 := by kernel_rfl
theorem l1New_ok3 (N : Nat) : OkL Kx noS l1New_O 0 N (l1New_L N) l1New_b3 := by
  intro s k k' r hk h
  rw [l1New_lid3] at h
  obtain ⟨v3x0, v3x1, v3x2, rfl, h⟩ := l1New_at3 N h
  refine loopL (Λ := l1New_L N) l1New_b3 ?_ N hk ((l1New_loop3 N k v3x0 v3x1 v3x2 N v3x0 v3x1 v3x2).trans h)
  rw [l1New_in3]
  exact fun _ h => nomatch h
def l1New_run (N : Nat) (code : List Int) : Option Rs := (l1New_F3 N code (wrap64 ((64242 : Int) + ((List.length code) : Int))) (0 : Int) (fun x3x0x0 => (fun x3x0x1 => (some ((AV.ptr (0 : Nat) (0 : Nat)), ((Ob.var ((AV.sh (Ty.int .u8) x3x0x0) :: ((AV.int .i64 (0 : Int)) :: ((AV.int .i64 x3x0x1) :: ([] : (List (AV))))))) :: ([] : (List (Ob)))))))))
theorem l1New_runL (N : Nat) (code : List Int) : runL Kx noS l1New_O (l1New_L N) Try.f21 ([.sh (.int .u8) code]) ([]) = l1New_run N code := by kernel_rfl
theorem l1New_body : Try.f21.body = some (codeOf Try.f21) := by kernel_rfl
theorem l1New_loops : loops (codeOf Try.f21) = [l1New_b3] := by kernel_rfl
theorem l1New_ev (N : Nat) (code : List Int) {r : Rs} (h : l1New_run N code = some r) : ∃ n, runF Kx noS l1New_O n Try.f21 ([.sh (.int .u8) code]) ([]) = some r :=
  ⟨N, runL_runF l1New_body (by rw [l1New_loops]; exact List.forall_mem_cons.2 ⟨l1New_ok3 N, fun _ h => nomatch h⟩) ((l1New_runL N code).trans h)⟩
def l1New_sOf (φ : (List Int) → Br) : List AV → List Ob → Br
  | [.sh (.int .u8) code], [] => φ code
  | _, _ => .fail
theorem l1New_okOf {φ : (List Int) → Br} (fu : (List Int) → Nat) (hv : ∀ code r, (φ code).val = some r → l1New_run (fu code) code = some r) : Sound Kx 21 (l1New_sOf φ) := by
  refine sound_run (C := noS) (O := l1New_O) KOk (sound_no Kx) Try.func21 (by kernel_rfl) fun args objs res os h => ?_
  unfold l1New_sOf at h
  split at h
  · exact l1New_ev _ _ (hv _ _ h)
  · cases h

/-! spec.l1Byte -/
def l1Byte_O : Opt := { cons := [], keepNil := false, mutF := [], live := [], outs := [] }
def l1Byte_br (code : List Int) (i h : Int) : Br := (Br.ite (decide (i < ((List.length code) : Int))) (Br.ite (decide ((0 : Int) ≤ i)) (Br.ite (decide (i < ((List.length code) : Int))) (Br.ret (AV.int .i64 (IntKind.wrap .i64 (((BitVec.toNat ((BitVec.ofInt (64 : Nat) (wrap64 ((IntKind.wrap .i64 (((BitVec.toNat ((BitVec.ofInt (64 : Nat) (IntKind.wrap .i64 (((BitVec.toNat ((BitVec.ofInt (64 : Nat) (Int.fdiv (wrap64 ((wrap64 (h * (6364136223846793005 : Int))) + (1442695040888963407 : Int))) (8589934592 : Int))) ^^^ (BitVec.ofInt (64 : Nat) (Int.fdiv (wrap64 ((wrap64 (h * (6364136223846793005 : Int))) + (1442695040888963407 : Int))) (35184372088832 : Int))))) : Nat) : Int))) &&& (BitVec.ofInt (64 : Nat) (255 : Int)))) : Nat) : Int)) + (wrap64 (List.getD code (Int.toNat i) (0 : Int)))))) &&& (BitVec.ofInt (64 : Nat) (255 : Int)))) : Nat) : Int))) ((Ob.var ((AV.sh (Ty.int .u8) code) :: ((AV.int .i64 (wrap64 (i + (1 : Int)))) :: ((AV.int .i64 (wrap64 ((wrap64 (h * (6364136223846793005 : Int))) + (1442695040888963407 : Int)))) :: ([] : (List (AV))))))) :: ([] : (List (Ob))))) Br.fail) Br.fail) (Br.ret (AV.int .i64 (IntKind.wrap .i64 (((BitVec.toNat ((BitVec.ofInt (64 : Nat) (IntKind.wrap .i64 (((BitVec.toNat ((BitVec.ofInt (64 : Nat) (Int.fdiv (wrap64 ((wrap64 (h * (6364136223846793005 : Int))) + (1442695040888963407 : Int))) (8589934592 : Int))) ^^^ (BitVec.ofInt (64 : Nat) (Int.fdiv (wrap64 ((wrap64 (h * (6364136223846793005 : Int))) + (1442695040888963407 : Int))) (35184372088832 : Int))))) : Nat) : Int))) &&& (BitVec.ofInt (64 : Nat) (255 : Int)))) : Nat) : Int))) ((Ob.var ((AV.sh (Ty.int .u8) code) :: ((AV.int .i64 i) :: ((AV.int .i64 (wrap64 ((wrap64 (h * (6364136223846793005 : Int))) + (1442695040888963407 : Int)))) :: ([] : (List (AV))))))) :: ([] : (List (Ob))))))
theorem l1Byte_run (code : List Int) (i h : Int) : runF Kx noS l1Byte_O 1 Try.f37 ([.ptr 0 0]) ([.var [.sh (.int .u8) code, .int .i64 i, .int .i64 h]]) = (l1Byte_br code i h).val := by kernel_rfl
def l1Byte_s : List AV → List Ob → Br
  | [.ptr 0 0], [.var [.sh (.int .u8) code, .int .i64 i, .int .i64 h]] => l1Byte_br code i h
  | _, _ => .fail
theorem l1Byte_ok : Sound Kx 37 l1Byte_s := by
  refine sound_run (C := noS) (O := l1Byte_O) KOk (sound_no Kx) Try.func37 (by kernel_rfl) fun args objs res os h => ?_
  unfold l1Byte_s at h
  split at h
  · exact ⟨1, (l1Byte_run _ _ _).trans h⟩
  · cases h

end Go.Proofs.Ytmigffdeghfbhaa.Ev

namespace Go.Proofs.Ytmigffdeghfbhaa.Ev
open Go Go.RowKit
set_option linter.unusedVariables false
set_option linter.unusedSimpArgs false

def and255 (x : Int) : Int := IntKind.wrap .i64 ((BitVec.toNat (BitVec.ofInt 64 x &&& BitVec.ofInt 64 255) : Nat) : Int)
theorem and255_in (x : Int) : 0 ≤ and255 x ∧ and255 x ≤ 255 := by
  have h : BitVec.toNat (BitVec.ofInt 64 x &&& BitVec.ofInt 64 255) ≤ 255 := by
    rw [BitVec.toNat_and]
    exact Nat.and_le_right
  unfold and255
  generalize BitVec.toNat (BitVec.ofInt 64 x &&& BitVec.ofInt 64 255) = k at h
  simp only [IntKind.wrap, IntKind.signed, IntKind.bits]
  simp
  omega
def xorw (a b : Int) : Int := IntKind.wrap .i64 ((BitVec.toNat (BitVec.ofInt 64 a ^^^ BitVec.ofInt 64 b) : Nat) : Int)
def mix (h : Int) : Int := wrap64 (wrap64 (h * 6364136223846793005) + 1442695040888963407)
def rawB (h : Int) : Int := and255 (xorw (Int.fdiv (mix h) 8589934592) (Int.fdiv (mix h) 35184372088832))
def byteV (code : List Int) (i h : Int) : Int := bif decide (i < (code.length : Int)) then and255 (wrap64 (rawB h + wrap64 (code.getD i.toNat 0))) else rawB h
def byteI (code : List Int) (i : Int) : Int := bif decide (i < (code.length : Int)) then wrap64 (i + 1) else i
theorem byteV_in (code : List Int) (i h : Int) : 0 ≤ byteV code i h ∧ byteV code i h ≤ 255 := by
  unfold byteV rawB
  cases decide (i < (code.length : Int))
  · exact and255_in _
  · exact and255_in _
def okC (code : List Int) (i : Int) : Bool := decide (0 ≤ i) && decide (code.length ≤ 281474976710656)
theorem okC_next {code : List Int} {i : Int} (h : okC code i = true) : okC code (byteI code i) = true := by
  unfold okC at h ⊢
  simp only [Bool.and_eq_true, decide_eq_true_eq] at h ⊢
  refine ⟨?_, h.2⟩
  unfold byteI
  by_cases h1 : i < (code.length : Int)
  · simp only [h1, decide_true, cond_true]
    rw [w64 (by omega) (by omega)]; omega
  · simp only [h1, decide_false, cond_false]; exact h.1
def curO (code : List Int) (i h : Int) : List Ob := [.var [.sh (.int .u8) code, .int .i64 i, .int .i64 h]]
theorem l1Byte_val (code : List Int) (i h : Int) (hc : okC code i = true) : (l1Byte_br code i h).val = some (.int .i64 (byteV code i h), curO code (byteI code i) (mix h)) := by
  unfold okC at hc
  simp only [Bool.and_eq_true, decide_eq_true_eq] at hc
  unfold l1Byte_br byteV byteI
  by_cases h1 : i < (code.length : Int)
  · simp only [h1, hc.1, decide_true, Br.val, cond_true]; rfl
  · simp only [h1, decide_false, Br.val, cond_false]; rfl
def byteQ_s : List AV → List Ob → Br
  | [.ptr 0 0], [.var [.sh (.int .u8) code, .int .i64 i, .int .i64 h]] => .ite (okC code i) (.ret (.int .i64 (byteV code i h)) [.var [.sh (.int .u8) code, .int .i64 (byteI code i), .int .i64 (mix h)]]) .fail
  | _, _ => .fail
theorem l1Byte_okQ : Sound Kx 37 byteQ_s := l1Byte_ok.of fun args objs r h => by
  unfold byteQ_s at h
  split at h
  · exact (l1Byte_val _ _ _ (ite_some h).1).trans (ite_some h).2
  · cases h

/-! l1New -/
def seedF : List Int → Int → Int → Int
  | [], _, h => h
  | a :: r, i, h => bif decide (i < 4000) then seedF r (i + 1) (IntKind.wrap .i64 ((BitVec.toNat (BitVec.ofInt 64 (wrap64 (wrap64 (wrap64 (h * 131) + wrap64 a) + 7)) &&& BitVec.ofInt 64 1073741823) : Nat) : Int)) else h
theorem l1New_loop (k : List Int → Int → Option Rs) (l : List Int) (hl : l.length ≤ 281474976710656) (r : List Int) : ∀ (pre : List Int) (n : Nat) (h : Int), r.length < n → pre ++ r = l →
    l1New_F3 n l h (pre.length : Int) k = k l (seedF r (pre.length : Int) h) := by
  induction r with
  | nil =>
    intro pre n h hn hp
    obtain ⟨n, rfl⟩ : ∃ m, n = m + 1 := ⟨n - 1, by simp at hn; omega⟩
    have e1 : decide ((pre.length : Int) < (l.length : Int)) = false := by rw [← hp]; simp
    unfold l1New_F3 l1New_T3
    simp only [e1, cond_false, seedF]
  | cons a r ihr =>
    intro pre n h hn hp
    obtain ⟨n, rfl⟩ : ∃ m, n = m + 1 := ⟨n - 1, by omega⟩
    have hlen : l.length = pre.length + r.length + 1 := by rw [← hp]; simp; omega
    have e1 : decide ((pre.length : Int) < (l.length : Int)) = true := by rw [hlen]; simp; omega
    have e2 : decide ((0 : Int) ≤ (pre.length : Int)) = true := by simp
    have e4 : l.getD pre.length 0 = a := by rw [← hp]; exact getD_mid ..
    have e5 : (((pre ++ [a]).length : Nat) : Int) = (pre.length : Int) + 1 := by simp
    have ih := fun x => ihr (pre ++ [a]) n x (by simp at hn; omega) (by rw [← cat_one]; exact hp)
    unfold l1New_F3 l1New_T3
    simp only [e1, e2, e4, cond_true, Int.toNat_natCast]
    rw [next_len pre a (by omega)]
    simp only [seedF, ih]
    simp only [e5]
    cases decide ((pre.length : Int) < 4000) <;> rfl
def newH (code : List Int) : Int := seedF code 0 (wrap64 (64242 + (code.length : Int)))
def l1New_br (code : List Int) : Br := .ite (decide (code.length ≤ 281474976710656)) (.ret (.ptr 0 0) [.var [.sh (.int .u8) code, .int .i64 0, .int .i64 (newH code)]]) .fail
def l1New_s := l1New_sOf l1New_br
theorem l1New_ok : Sound Kx 21 l1New_s := by
  refine l1New_okOf (fun c => c.length + 1) fun c r h => ?_
  unfold l1New_br at h
  simp only [Br.val] at h
  split at h
  · rename_i hb
    simp only [decide_eq_true_eq] at hb
    rw [← h]
    exact l1New_loop _ c hb c [] (c.length + 1) _ (by omega) rfl
  · cases h

end Go.Proofs.Ytmigffdeghfbhaa.Ev

namespace Go.Proofs.Ytmigffdeghfbhaa.Ev
open Go Go.RowKit
set_option linter.unusedVariables false
set_option linter.unusedSimpArgs false

/-! spec.l1Below -/
def l1Below_O : Opt := { cons := [], keepNil := false, mutF := [], live := [], outs := [] }
def l1Below_C : Spec := (add noS 37 byteQ_s)
theorem l1Below_C_ok : ∀ fn, Sound Kx fn (l1Below_C fn) := (sound_add (sound_no Kx) l1Byte_okQ)
def l1Below_br (n : Int) (code : List Int) (i h : Int) : Br := (Br.ite (decide (n ≤ (0 : Int))) (Br.ret (AV.int .i64 (0 : Int)) ((Ob.var ((AV.sh (Ty.int .u8) code) :: ((AV.int .i64 i) :: ((AV.int .i64 h) :: ([] : (List (AV))))))) :: ([] : (List (Ob))))) (Br.ite (decide (n ≤ (256 : Int))) (Br.ite (okC code i) (Br.ite (!(decide (n = (0 : Int)))) (Br.ret (AV.int .i64 (Int.tmod (byteV code i h) n)) ((Ob.var ((AV.sh (Ty.int .u8) code) :: ((AV.int .i64 (byteI code i)) :: ((AV.int .i64 (mix h)) :: ([] : (List (AV))))))) :: ([] : (List (Ob))))) Br.fail) Br.fail) (Br.ite (okC code i) (Br.ite (okC code (byteI code i)) (Br.ite (okC code (byteI code (byteI code i))) (Br.ite (okC code (byteI code (byteI code (byteI code i)))) (Br.ite (!(decide (n = (0 : Int)))) (Br.ret (AV.int .i64 (Int.tmod (wrap64 ((wrap64 ((wrap64 ((wrap64 ((byteV code i h) * (16777216 : Int))) + (wrap64 ((byteV code (byteI code i) (mix h)) * (65536 : Int))))) + (wrap64 ((byteV code (byteI code (byteI code i)) (mix (mix h))) * (256 : Int))))) + (byteV code (byteI code (byteI code (byteI code i))) (mix (mix (mix h)))))) n)) ((Ob.var ((AV.sh (Ty.int .u8) code) :: ((AV.int .i64 (byteI code (byteI code (byteI code (byteI code i))))) :: ((AV.int .i64 (mix (mix (mix (mix h))))) :: ([] : (List (AV))))))) :: ([] : (List (Ob))))) Br.fail) Br.fail) Br.fail) Br.fail) Br.fail)))
theorem l1Below_run (n : Int) (code : List Int) (i h : Int) : runF Kx l1Below_C l1Below_O 1 Try.f23 ([.ptr 0 0, .int .i64 n]) ([.var [.sh (.int .u8) code, .int .i64 i, .int .i64 h]]) = (l1Below_br n code i h).val := by kernel_rfl
def l1Below_s : List AV → List Ob → Br
  | [.ptr 0 0, .int .i64 n], [.var [.sh (.int .u8) code, .int .i64 i, .int .i64 h]] => l1Below_br n code i h
  | _, _ => .fail
theorem l1Below_ok : Sound Kx 23 l1Below_s := by
  refine sound_run (C := l1Below_C) (O := l1Below_O) KOk l1Below_C_ok Try.func23 (by kernel_rfl) fun args objs res os h => ?_
  unfold l1Below_s at h
  split at h
  · exact ⟨1, (l1Below_run _ _ _ _).trans h⟩
  · cases h

end Go.Proofs.Ytmigffdeghfbhaa.Ev

namespace Go.Proofs.Ytmigffdeghfbhaa.Ev
open Go Go.RowKit
set_option linter.unusedVariables false
set_option linter.unusedSimpArgs false

def belV (n : Int) (code : List Int) (i h : Int) : Int := bif decide (n ≤ 0) then 0 else bif decide (n ≤ 256) then Int.tmod (byteV code i h) n else
  Int.tmod (wrap64 ((wrap64 ((wrap64 ((wrap64 ((byteV code i h) * 16777216)) + (wrap64 ((byteV code (byteI code i) (mix h)) * 65536)))) + (wrap64 ((byteV code (byteI code (byteI code i)) (mix (mix h))) * 256)))) + (byteV code (byteI code (byteI code (byteI code i))) (mix (mix (mix h)))))) n
def belI (n : Int) (code : List Int) (i : Int) : Int := bif decide (n ≤ 0) then i else bif decide (n ≤ 256) then byteI code i else byteI code (byteI code (byteI code (byteI code i)))
def belH (n : Int) (h : Int) : Int := bif decide (n ≤ 0) then h else bif decide (n ≤ 256) then mix h else mix (mix (mix (mix h)))
theorem tmod_in {x n : Int} (h : 0 ≤ x) (hn : 0 < n) : 0 ≤ Int.tmod x n ∧ Int.tmod x n < n := by
  rw [Int.tmod_eq_emod_of_nonneg h]
  exact ⟨Int.emod_nonneg _ (by omega), Int.emod_lt_of_pos _ hn⟩
theorem belV_in (n : Int) (code : List Int) (i h : Int) : 0 ≤ belV n code i h ∧ (0 < n → belV n code i h < n) := by
  unfold belV
  by_cases h1 : n ≤ 0
  · simp only [h1, decide_true, cond_true]; omega
  · by_cases h2 : n ≤ 256
    · simp only [h1, h2, decide_true, decide_false, cond_true, cond_false]
      have := tmod_in (byteV_in code i h).1 (by omega : 0 < n)
      exact ⟨this.1, fun _ => this.2⟩
    · simp only [h1, h2, decide_false, cond_false]
      have b1 := byteV_in code i h
      have b2 := byteV_in code (byteI code i) (mix h)
      have b3 := byteV_in code (byteI code (byteI code i)) (mix (mix h))
      have b4 := byteV_in code (byteI code (byteI code (byteI code i))) (mix (mix (mix h)))
      generalize byteV code i h = x1 at *
      generalize byteV code (byteI code i) (mix h) = x2 at *
      generalize byteV code (byteI code (byteI code i)) (mix (mix h)) = x3 at *
      generalize byteV code (byteI code (byteI code (byteI code i))) (mix (mix (mix h))) = x4 at *
      rw [w64 (n := x1 * 16777216) (by omega) (by omega), w64 (n := x2 * 65536) (by omega) (by omega), w64 (n := x3 * 256) (by omega) (by omega), w64 (n := x1 * 16777216 + x2 * 65536) (by omega) (by omega),
        w64 (n := x1 * 16777216 + x2 * 65536 + x3 * 256) (by omega) (by omega), w64 (by omega) (by omega)]
      have := tmod_in (x := x1 * 16777216 + x2 * 65536 + x3 * 256 + x4) (by omega) (by omega : 0 < n)
      exact ⟨this.1, fun _ => this.2⟩
theorem okC_bel {n : Int} {code : List Int} {i : Int} (h : okC code i = true) : okC code (belI n code i) = true := by
  unfold belI
  cases decide (n ≤ 0)
  · cases decide (n ≤ 256)
    · exact okC_next (okC_next (okC_next (okC_next h)))
    · exact okC_next h
  · exact h
theorem l1Below_val (n : Int) (code : List Int) (i h : Int) (hc : okC code i = true) : (l1Below_br n code i h).val = some (.int .i64 (belV n code i h), curO code (belI n code i) (belH n h)) := by
  unfold l1Below_br belV belI belH
  by_cases h1 : n ≤ 0
  · simp only [h1, decide_true, cond_true, Br.val]; rfl
  · have h3 : ¬ n = 0 := by omega
    have c1 := okC_next hc
    have c2 := okC_next c1
    have c3 := okC_next c2
    by_cases h2 : n ≤ 256
    · simp only [h1, h2, h3, hc, decide_true, decide_false, cond_true, cond_false, Br.val, Bool.not_false]; rfl
    · simp only [h1, h2, h3, hc, c1, c2, c3, decide_true, decide_false, cond_true, cond_false, Br.val, Bool.not_false]; rfl
def belowQ_s : List AV → List Ob → Br
  | [.ptr 0 0, .int .i64 n], [.var [.sh (.int .u8) code, .int .i64 i, .int .i64 h]] => .ite (okC code i) (.ret (.int .i64 (belV n code i h)) [.var [.sh (.int .u8) code, .int .i64 (belI n code i), .int .i64 (belH n h)]]) .fail
  | _, _ => .fail
theorem l1Below_okQ : Sound Kx 23 belowQ_s := l1Below_ok.of fun args objs r h => by
  unfold belowQ_s at h
  split at h
  · exact (l1Below_val _ _ _ _ (ite_some h).1).trans (ite_some h).2
  · cases h

end Go.Proofs.Ytmigffdeghfbhaa.Ev

namespace Go.Proofs.Ytmigffdeghfbhaa.Ev
open Go Go.RowKit
set_option linter.unusedVariables false
set_option linter.unusedSimpArgs false

/-! spec.l1Once -/
def l1Once_O : Opt := { cons := [], keepNil := false, mutF := [], live := [], outs := [] }
def l1Once_C : Spec := (add noS 23 belowQ_s)
theorem l1Once_C_ok : ∀ fn, Sound Kx fn (l1Once_C fn) := (sound_add (sound_no Kx) l1Below_okQ)
def l1Once_br (n : Int) (code : List Int) (i h : Int) : Br := (Br.ite (okC code i) (Br.ret (AV.bool (decide ((belV n code i h) = (0 : Int)))) ((Ob.var ((AV.sh (Ty.int .u8) code) :: ((AV.int .i64 (belI n code i)) :: ((AV.int .i64 (belH n h)) :: ([] : (List (AV))))))) :: ([] : (List (Ob))))) Br.fail)
theorem l1Once_run (n : Int) (code : List Int) (i h : Int) : runF Kx l1Once_C l1Once_O 1 Try.f34 ([.ptr 0 0, .int .i64 n]) ([.var [.sh (.int .u8) code, .int .i64 i, .int .i64 h]]) = (l1Once_br n code i h).val := by kernel_rfl
def l1Once_s : List AV → List Ob → Br
  | [.ptr 0 0, .int .i64 n], [.var [.sh (.int .u8) code, .int .i64 i, .int .i64 h]] => l1Once_br n code i h
  | _, _ => .fail
theorem l1Once_ok : Sound Kx 34 l1Once_s := by
  refine sound_run (C := l1Once_C) (O := l1Once_O) KOk l1Once_C_ok Try.func34 (by kernel_rfl) fun args objs res os h => ?_
  unfold l1Once_s at h
  split at h
  · exact ⟨1, (l1Once_run _ _ _ _).trans h⟩
  · cases h

/-! spec.l1PickInt -/
def l1Pick_O : Opt := { cons := [], keepNil := false, mutF := [], live := [], outs := [] }
def l1Pick_C : Spec := (add noS 23 belowQ_s)
theorem l1Pick_C_ok : ∀ fn, Sound Kx fn (l1Pick_C fn) := (sound_add (sound_no Kx) l1Below_okQ)
def l1Pick_br (l : List Int) (code : List Int) (i h : Int) : Br := (Br.ite (okC code i) (Br.ite (decide ((0 : Int) ≤ (belV ((List.length l) : Int) code i h))) (Br.ite (decide ((belV ((List.length l) : Int) code i h) < ((List.length l) : Int))) (Br.ret (AV.int .i64 (List.getD l (Int.toNat (belV ((List.length l) : Int) code i h)) (0 : Int))) ((Ob.var ((AV.sh (Ty.int .u8) code) :: ((AV.int .i64 (belI ((List.length l) : Int) code i)) :: ((AV.int .i64 (belH ((List.length l) : Int) h)) :: ([] : (List (AV))))))) :: ([] : (List (Ob))))) Br.fail) Br.fail) Br.fail)
theorem l1Pick_run (l : List Int) (code : List Int) (i h : Int) : runF Kx l1Pick_C l1Pick_O 1 Try.f35 ([.ptr 0 0, .sh (.int .i64) l]) ([.var [.sh (.int .u8) code, .int .i64 i, .int .i64 h]]) = (l1Pick_br l code i h).val := by kernel_rfl
def l1Pick_s : List AV → List Ob → Br
  | [.ptr 0 0, .sh (.int .i64) l], [.var [.sh (.int .u8) code, .int .i64 i, .int .i64 h]] => l1Pick_br l code i h
  | _, _ => .fail
theorem l1Pick_ok : Sound Kx 35 l1Pick_s := by
  refine sound_run (C := l1Pick_C) (O := l1Pick_O) KOk l1Pick_C_ok Try.func35 (by kernel_rfl) fun args objs res os h => ?_
  unfold l1Pick_s at h
  split at h
  · exact ⟨1, (l1Pick_run _ _ _ _).trans h⟩
  · cases h

/-! spec.l1of -/
def l1of_O : Opt := { cons := [], keepNil := false, mutF := [], live := [(3, [0, 1, 2, 7, 8])], outs := [(3, [6, 7])] }
def l1of_C : Spec := (add noS 23 belowQ_s)
theorem l1of_C_ok : ∀ fn, Sound Kx fn (l1of_C fn) := (sound_add (sound_no Kx) l1Below_okQ)
def l1of_T3 (v3x0 : Int) (v3x1 : (List UInt8)) (v3x2 : Int) (v3x3 : (List Int)) (v3x4 : Int) (v3x5 : Int) (v3x6 : (List Int)) (kR3 : Int → (List UInt8) → Int → (List Int) → Int → Int → (List Int) → Option Rs) (k3e0 : (List Int) → Int → Int → (List Int) → Option Rs) : Option Rs :=
  (bif (decide (v3x2 < v3x0)) then (bif (okC v3x3 v3x4) then (bif (decide ((0 : Int) ≤ (belV ((List.length v3x1) : Int) v3x3 v3x4 v3x5))) then (bif (decide ((belV ((List.length v3x1) : Int) v3x3 v3x4 v3x5) < ((List.length v3x1) : Int))) then (bif (decide ((((List.length v3x6) + (List.length (List.set (List.replicate (1 : Nat) (0 : Int)) (0 : Nat) (strAt v3x1 (belV ((List.length v3x1) : Int) v3x3 v3x4 v3x5))))) * (1 : Nat)) ≤ (140737488355328 : Nat))) then (kR3 v3x0 v3x1 (wrap64 (v3x2 + (1 : Int))) v3x3 (belI ((List.length v3x1) : Int) v3x3 v3x4) (belH ((List.length v3x1) : Int) v3x5) (v3x6 ++ (List.set (List.replicate (1 : Nat) (0 : Int)) (0 : Nat) (strAt v3x1 (belV ((List.length v3x1) : Int) v3x3 v3x4 v3x5))))) else (none)) else (none)) else (none)) else (none)) else (k3e0 v3x3 v3x4 v3x5 v3x6))
def l1of_F3 : Nat → Int → (List UInt8) → Int → (List Int) → Int → Int → (List Int) → ((List Int) → Int → Int → (List Int) → Option Rs) → Option Rs
  | 0, _, _, _, _, _, _, _, _ => none
  | n + 1, v3x0, v3x1, v3x2, v3x3, v3x4, v3x5, v3x6, k3e0 => l1of_T3 v3x0 v3x1 v3x2 v3x3 v3x4 v3x5 v3x6 (fun v3x0 v3x1 v3x2 v3x3 v3x4 v3x5 v3x6 => l1of_F3 n v3x0 v3x1 v3x2 v3x3 v3x4 v3x5 v3x6 k3e0) k3e0
def l1of_h3 (v3x0 : Int) (v3x1 : (List UInt8)) (v3x2 : Int) (v3x3 : (List Int)) (v3x4 : Int) (v3x5 : Int) (v3x6 : (List Int)) : St := (St.mk (slots 0 25 [(0, (AV.ptr (0 : Nat) (0 : Nat))), (1, (AV.int .i64 v3x0)), (2, (AV.str v3x1)), (7, (AV.ref (512 : Nat) (0 : Nat))), (8, (AV.int .i64 v3x2))]) (((0 : Nat), (Ob.var ((AV.sh (Ty.int .u8) v3x3) :: ((AV.int .i64 v3x4) :: ((AV.int .i64 v3x5) :: ([] : (List (AV)))))))) :: (((512 : Nat), (Ob.arr (Ty.int .u8) (0 : Nat) false v3x6)) :: ([] : (List (Nat × (Ob)))))))
def l1of_x3e0 (x3x0x0 : (List Int)) (x3x0x1 : Int) (x3x0x2 : Int) (x3x0x3 : (List Int)) : St := (St.mk (slots 0 25 [(7, (AV.ref (512 : Nat) (0 : Nat)))]) (((0 : Nat), (Ob.var ((AV.sh (Ty.int .u8) x3x0x0) :: ((AV.int .i64 x3x0x1) :: ((AV.int .i64 x3x0x2) :: ([] : (List (AV)))))))) :: (((512 : Nat), (Ob.arr (Ty.int .u8) (0 : Nat) false x3x0x3)) :: ([] : (List (Nat × (Ob)))))))
noncomputable def l1of_b3 : Code := codeAt (codeOf Try.f44) [1, 1, 0, 1, 0, 0]
def l1of_L3 (N : Nat) (st : St) (k : Ex → St → Option Rs) : Option Rs := match takeF [0, 1, 2, 7, 8] 0 25 st.env, st.objs with
  | some [.ptr 0 0, .int .i64 v3x0, .str v3x1, .ref 512 0, .int .i64 v3x2], [(0, .var [.sh (Ty.int .u8) v3x3, .int .i64 v3x4, .int .i64 v3x5]), (512, .arr (Ty.int .u8) 0 false v3x6)] => l1of_F3 N v3x0 v3x1 v3x2 v3x3 v3x4 v3x5 v3x6 (fun x3x0x0 x3x0x1 x3x0x2 x3x0x3 => k (Ex.exit (0 : Nat)) (l1of_x3e0 x3x0x0 x3x0x1 x3x0x2 x3x0x3))
  | _, _ => none
def l1of_L (N : Nat) : Lam := fun j st k => match j with
  | 3 => l1of_L3 N st k
  | _ => none
theorem l1of_round3 (N : Nat) (again : St → Option Rs) (k : Ex → St → Option Rs) (wv3x0 : Int) (wv3x1 : (List UInt8)) (wv3x2 : Int) (wv3x3 : (List Int)) (wv3x4 : Int) (wv3x5 : Int) (wv3x6 : (List Int)) (v3x0 : Int) (v3x1 : (List UInt8)) (v3x2 : Int) (v3x3 : (List Int)) (v3x4 : Int) (v3x5 : Int) (v3x6 : (List Int)) :
    roundK 1 (fun st k => evL Kx l1of_C l1of_O 1 (l1of_L N) l1of_b3 st k) (l1of_h3 wv3x0 wv3x1 wv3x2 wv3x3 wv3x4 wv3x5 wv3x6).env again (l1of_h3 v3x0 v3x1 v3x2 v3x3 v3x4 v3x5 v3x6) (outK l1of_O 1 l1of_b3 k) = l1of_T3 v3x0 v3x1 v3x2 v3x3 v3x4 v3x5 v3x6 (fun v3x0 v3x1 v3x2 v3x3 v3x4 v3x5 v3x6 => again (l1of_h3 v3x0 v3x1 v3x2 v3x3 v3x4 v3x5 v3x6)) (fun x3x0x0 x3x0x1 x3x0x2 x3x0x3 => k (Ex.exit (0 : Nat)) (l1of_x3e0 x3x0x0 x3x0x1 x3x0x2 x3x0x3)) := by kernel_rfl
theorem l1of_loop3 (N : Nat) (k : Ex → St → Option Rs) (wv3x0 : Int) (wv3x1 : (List UInt8)) (wv3x2 : Int) (wv3x3 : (List Int)) (wv3x4 : Int) (wv3x5 : Int) (wv3x6 : (List Int)) : ∀ (n : Nat) (v3x0 : Int) (v3x1 : (List UInt8)) (v3x2 : Int) (v3x3 : (List Int)) (v3x4 : Int) (v3x5 : Int) (v3x6 : (List Int)),
    loopK 1 (fun st k => evL Kx l1of_C l1of_O 1 (l1of_L N) l1of_b3 st k) (l1of_h3 wv3x0 wv3x1 wv3x2 wv3x3 wv3x4 wv3x5 wv3x6).env n (l1of_h3 v3x0 v3x1 v3x2 v3x3 v3x4 v3x5 v3x6) (outK l1of_O 1 l1of_b3 k) = l1of_F3 n v3x0 v3x1 v3x2 v3x3 v3x4 v3x5 v3x6 (fun x3x0x0 x3x0x1 x3x0x2 x3x0x3 => k (Ex.exit (0 : Nat)) (l1of_x3e0 x3x0x0 x3x0x1 x3x0x2 x3x0x3))
  | 0, _, _, _, _, _, _, _ => rfl
  | n + 1, v3x0, v3x1, v3x2, v3x3, v3x4, v3x5, v3x6 => by
    rw [loopK_succ, l1of_round3]
    simp only [l1of_loop3 N k wv3x0 wv3x1 wv3x2 wv3x3 wv3x4 wv3x5 wv3x6 n]
    rfl
theorem l1of_at3 (N : Nat) {s : St} {k : Ex → St → Option Rs} {r : Rs} (h : l1of_L3 N s k = some r) : ∃ (v3x0 : Int) (v3x1 : (List UInt8)) (v3x2 : Int) (v3x3 : (List Int)) (v3x4 : Int) (v3x5 : Int) (v3x6 : (List Int)), s = (l1of_h3 v3x0 v3x1 v3x2 v3x3 v3x4 v3x5 v3x6) ∧ l1of_F3 N v3x0 v3x1 v3x2 v3x3 v3x4 v3x5 v3x6 (fun x3x0x0 x3x0x1 x3x0x2 x3x0x3 => k (Ex.exit (0 : Nat)) (l1of_x3e0 x3x0x0 x3x0x1 x3x0x2 x3x0x3)) = some r := by
  cases s with | mk env objs =>
  unfold l1of_L3 at h
  split at h
  · rename_i e1 e2
    have e3 := takeF_slots _ _ _ _ e1
    simp only at e2 e3
    subst e2 e3
    exact ⟨_, _, _, _, _, _, _, rfl, h⟩
  · cases h
theorem l1of_in3 : loops l1of_b3 = [] := by kernel_rfl
theorem l1of_lid3 : lid l1of_b3 = 3 := by kernel_rfl
theorem l1of_ok3 (N : Nat) : OkL Kx l1of_C l1of_O 1 N (l1of_L N) l1of_b3 := by
  intro s k k' r hk h
  rw [l1of_lid3] at h
  obtain ⟨v3x0, v3x1, v3x2, v3x3, v3x4, v3x5, v3x6, rfl, h⟩ := l1of_at3 N h
  refine loopL (Λ := l1of_L N) l1of_b3 ?_ N hk ((l1of_loop3 N k v3x0 v3x1 v3x2 v3x3 v3x4 v3x5 v3x6 N v3x0 v3x1 v3x2 v3x3 v3x4 v3x5 v3x6).trans h)
  rw [l1of_in3]
  exact fun _ h => nomatch h
def l1of_run (N : Nat) (n : Int) (set : List UInt8) (code : List Int) (i h : Int) : Option Rs := (l1of_F3 N n set (0 : Int) code i h ([] : (List Int)) (fun x3x0x0 => (fun x3x0x1 => (fun x3x0x2 => (fun x3x0x3 => (some ((AV.str (ofBytes x3x0x3)), ((Ob.var ((AV.sh (Ty.int .u8) x3x0x0) :: ((AV.int .i64 x3x0x1) :: ((AV.int .i64 x3x0x2) :: ([] : (List (AV))))))) :: ([] : (List (Ob)))))))))))
theorem l1of_runL (N : Nat) (n : Int) (set : List UInt8) (code : List Int) (i h : Int) : runL Kx l1of_C l1of_O (l1of_L N) Try.f44 ([.ptr 0 0, .int .i64 n, .str set]) ([.var [.sh (.int .u8) code, .int .i64 i, .int .i64 h]]) = l1of_run N n set code i h := by kernel_rfl
theorem l1of_body : Try.f44.body = some (codeOf Try.f44) := by kernel_rfl
theorem l1of_loops : loops (codeOf Try.f44) = [l1of_b3] := by kernel_rfl
theorem l1of_ev (N : Nat) (n : Int) (set : List UInt8) (code : List Int) (i h : Int) {res_ : Rs} (hyp_ : l1of_run N n set code i h = some res_) : ∃ n_, runF Kx l1of_C l1of_O n_ Try.f44 ([.ptr 0 0, .int .i64 n, .str set]) ([.var [.sh (.int .u8) code, .int .i64 i, .int .i64 h]]) = some res_ :=
  ⟨N, runL_runF l1of_body (by rw [l1of_loops]; exact List.forall_mem_cons.2 ⟨l1of_ok3 N, fun _ h => nomatch h⟩) ((l1of_runL N n set code i h).trans hyp_)⟩
def l1of_sOf (φ : Int → (List UInt8) → (List Int) → Int → Int → Br) : List AV → List Ob → Br
  | [.ptr 0 0, .int .i64 n, .str set], [.var [.sh (.int .u8) code, .int .i64 i, .int .i64 h]] => φ n set code i h
  | _, _ => .fail
theorem l1of_okOf {φ : Int → (List UInt8) → (List Int) → Int → Int → Br} (fu : Int → (List UInt8) → (List Int) → Int → Int → Nat) (hv : ∀ n set code i h res_, (φ n set code i h).val = some res_ → l1of_run (fu n set code i h) n set code i h = some res_) : Sound Kx 44 (l1of_sOf φ) := by
  refine sound_run (C := l1of_C) (O := l1of_O) KOk l1of_C_ok Try.func44 (by kernel_rfl) fun args objs res os h => ?_
  unfold l1of_sOf at h
  split at h
  · exact l1of_ev _ _ _ _ _ _ (hv _ _ _ _ _ _ h)
  · cases h

/-! spec.StoreNew -/
def sNewD_O : Opt := { cons := [], keepNil := false, mutF := [], live := [], outs := [] }
def sNewD_C : Spec := (add noS 7 sOk_s)
theorem sNewD_C_ok : ∀ fn, Sound Kx fn (sNewD_C fn) := (sound_add (sound_no Kx) sOk_ok)
def sNewD_br (room : Int) : Br := (Br.ite (!(okStore (List.set (List.replicate (1 : Nat) (([] : (List UInt8)), (0 : Int))) (0 : Nat) (([] : (List UInt8)), (0 : Int))) room)) (Br.ret (AV.tup ((AV.agg ((AV.ref (List.length ([] : (List (Ob)))) (0 : Nat)) :: ((AV.int .i64 (0 : Int)) :: ([] : (List (AV)))))) :: ((AV.bool false) :: ([] : (List (AV)))))) ((Ob.arr (Ty.pair Ty.str (Ty.int .i64)) (0 : Nat) false ([] : (List ((List UInt8) × Int)))) :: ([] : (List (Ob))))) (Br.ret (AV.tup ((AV.agg ((AV.ref (0 : Nat) (0 : Nat)) :: ((AV.int .i64 room) :: ([] : (List (AV)))))) :: ((AV.bool true) :: ([] : (List (AV)))))) ((Ob.arr (Ty.pair Ty.str (Ty.int .i64)) (0 : Nat) false (List.set (List.replicate (1 : Nat) (([] : (List UInt8)), (0 : Int))) (0 : Nat) (([] : (List UInt8)), (0 : Int)))) :: ([] : (List (Ob))))))
theorem sNewD_run (room : Int) : runF Kx sNewD_C sNewD_O 1 Try.f42 ([.int .i64 room]) ([]) = (sNewD_br room).val := by kernel_rfl
def sNewD_s : List AV → List Ob → Br
  | [.int .i64 room], [] => sNewD_br room
  | _, _ => .fail
theorem sNewD_ok : Sound Kx 42 sNewD_s := by
  refine sound_run (C := sNewD_C) (O := sNewD_O) KOk sNewD_C_ok Try.func42 (by kernel_rfl) fun args objs res os h => ?_
  unfold sNewD_s at h
  split at h
  · exact ⟨1, (sNewD_run _).trans h⟩
  · cases h

/-! spec.l4last -/
def l4last_O : Opt := { cons := [], keepNil := false, mutF := [], live := [], outs := [] }
def l4last_br (l : List (List UInt8 × Int)) (c : Int) : Br := (Br.ite (decide (((List.length l) : Int) = (0 : Int))) (Br.ret (AV.int .i64 (0 : Int)) ([] : (List (Ob)))) (Br.ite (decide ((0 : Int) ≤ (wrap64 (((List.length l) : Int) - (1 : Int))))) (Br.ite (decide ((wrap64 (((List.length l) : Int) - (1 : Int))) < ((List.length l) : Int))) (Br.ret (AV.int .i64 ((List.length (List.getD l (Int.toNat (wrap64 (((List.length l) : Int) - (1 : Int)))) (([] : (List UInt8)), (0 : Int))).1) : Int)) ([] : (List (Ob)))) Br.fail) Br.fail))
theorem l4last_run (l : List (List UInt8 × Int)) (c : Int) : runF Kx noS l4last_O 1 Try.f24 ([.agg [.sh (.pair .str (.int .i64)) l, .int .i64 c]]) ([]) = (l4last_br l c).val := by kernel_rfl
def l4last_s : List AV → List Ob → Br
  | [.agg [.sh (.pair .str (.int .i64)) l, .int .i64 c]], [] => l4last_br l c
  | _, _ => .fail
theorem l4last_ok : Sound Kx 24 l4last_s := by
  refine sound_run (C := noS) (O := l4last_O) KOk (sound_no Kx) Try.func24 (by kernel_rfl) fun args objs res os h => ?_
  unfold l4last_s at h
  split at h
  · exact ⟨1, (l4last_run _ _).trans h⟩
  · cases h

end Go.Proofs.Ytmigffdeghfbhaa.Ev

namespace Go.Proofs.Ytmigffdeghfbhaa.Ev
open Go Go.RowKit
set_option linter.unusedVariables false
set_option linter.unusedSimpArgs false

def pickQ_s : List AV → List Ob → Br
  | [.ptr 0 0, .sh (.int .i64) l], [.var [.sh (.int .u8) code, .int .i64 i, .int .i64 h]] => .ite (okC code i && decide (0 < l.length)) (.ret (.int .i64 (l.getD (belV (l.length : Int) code i h).toNat 0)) [.var [.sh (.int .u8) code, .int .i64 (belI (l.length : Int) code i), .int .i64 (belH (l.length : Int) h)]]) .fail
  | _, _ => .fail
theorem l1Pick_okQ : Sound Kx 35 pickQ_s := l1Pick_ok.of fun args objs r h => by
  unfold pickQ_s at h
  split at h
  · rename_i l code i h'
    obtain ⟨h1, h2⟩ := ite_some h
    simp only [Bool.and_eq_true, decide_eq_true_eq] at h1
    rw [← h2]
    show (l1Pick_br l code i h').val = _
    have hb := belV_in (l.length : Int) code i h'
    have e1 : decide ((0 : Int) ≤ belV (l.length : Int) code i h') = true := by rw [decide_eq_true_eq]; exact hb.1
    have e2 : decide (belV (l.length : Int) code i h' < (l.length : Int)) = true := by rw [decide_eq_true_eq]; exact hb.2 (by omega)
    unfold l1Pick_br
    simp only [h1.1, e1, e2, Br.val]
  · cases h

/-! l1of -/
def ofB : Nat → List UInt8 → List Int → Int → Int → List Int × Int × Int
  | 0, _, _, i, h => ([], i, h)
  | k + 1, set, code, i, h =>
    (strAt set (belV (set.length : Int) code i h) :: (ofB k set code (belI (set.length : Int) code i) (belH (set.length : Int) h)).1, (ofB k set code (belI (set.length : Int) code i) (belH (set.length : Int) h)).2)
theorem ofB_len : ∀ (k : Nat) (set : List UInt8) (code : List Int) (i h : Int), (ofB k set code i h).1.length = k
  | 0, _, _, _, _ => rfl
  | k + 1, set, code, i, h => by simp only [ofB, List.length_cons, ofB_len k]
theorem okC_ofB : ∀ (k : Nat) (set : List UInt8) (code : List Int) (i h : Int), okC code i = true → okC code (ofB k set code i h).2.1 = true
  | 0, _, _, _, _, hc => hc
  | k + 1, set, code, i, h, hc => okC_ofB k set code _ _ (okC_bel hc)
theorem l1of_loop (n : Int) (set : List UInt8) (code : List Int) (hs : 0 < set.length) (K : List Int → Int → Int → List Int → Option Rs) : ∀ (k N : Nat) (j i h : Int) (acc : List Int), k < N → 0 ≤ j → j + k = n → n ≤ 1000000 → acc.length ≤ 1000000 → acc.length + k ≤ 1000000 → okC code i = true →
    l1of_F3 N n set j code i h acc K = K code (ofB k set code i h).2.1 (ofB k set code i h).2.2 (acc ++ (ofB k set code i h).1)
  | 0, N, j, i, h, acc, hN, h0, hj, hn, ha, hk, hc => by
    obtain ⟨N, rfl⟩ : ∃ m, N = m + 1 := ⟨N - 1, by omega⟩
    have e1 : decide (j < n) = false := by rw [decide_eq_false_iff_not]; omega
    unfold l1of_F3 l1of_T3
    simp only [e1, cond_false, ofB, List.append_nil]
  | k + 1, N, j, i, h, acc, hN, h0, hj, hn, ha, hk, hc => by
    obtain ⟨N, rfl⟩ : ∃ m, N = m + 1 := ⟨N - 1, by omega⟩
    have hb := belV_in (set.length : Int) code i h
    have e1 : decide (j < n) = true := by rw [decide_eq_true_eq]; omega
    have e2 : decide ((0 : Int) ≤ belV (set.length : Int) code i h) = true := by rw [decide_eq_true_eq]; exact hb.1
    have e3 : decide (belV (set.length : Int) code i h < (set.length : Int)) = true := by rw [decide_eq_true_eq]; exact hb.2 (by omega)
    have e4 : List.set (List.replicate 1 (0 : Int)) 0 (strAt set (belV (set.length : Int) code i h)) = [strAt set (belV (set.length : Int) code i h)] := rfl
    have e5 : ∀ x : Int, decide ((acc.length + [x].length) * 1 ≤ 140737488355328) = true := by intro x; rw [decide_eq_true_eq, List.length_singleton]; omega
    unfold l1of_F3 l1of_T3
    simp only [e1, e2, e3, e4, e5, hc, cond_true]
    rw [w64 (by omega) (by omega), l1of_loop n set code hs K k N (j + 1) _ _ _ (by omega) (by omega) (by omega) hn (by rw [List.length_append, List.length_singleton]; omega) (by rw [List.length_append, List.length_singleton]; omega) (okC_bel hc)]
    simp only [ofB, List.append_assoc, List.singleton_append]
def ofS (n : Int) (set : List UInt8) (code : List Int) (i h : Int) : List UInt8 := ofBytes (ofB n.toNat set code i h).1
theorem ofS_len (n : Int) (set : List UInt8) (code : List Int) (i h : Int) : (ofS n set code i h).length = n.toNat := by simp [ofS, ofBytes, ofB_len]
def ofI (n : Int) (set : List UInt8) (code : List Int) (i h : Int) : Int := (ofB n.toNat set code i h).2.1
def ofH (n : Int) (set : List UInt8) (code : List Int) (i h : Int) : Int := (ofB n.toNat set code i h).2.2
theorem okC_of {n : Int} {set : List UInt8} {code : List Int} {i h : Int} (hc : okC code i = true) : okC code (ofI n set code i h) = true := okC_ofB _ _ _ _ _ hc
def l1of_br (n : Int) (set : List UInt8) (code : List Int) (i h : Int) : Br := .ite (okC code i && decide (n ≤ 1000000) && decide (0 < set.length)) (.ret (.str (ofS n set code i h)) [.var [.sh (.int .u8) code, .int .i64 (ofI n set code i h), .int .i64 (ofH n set code i h)]]) .fail
def l1of_s := l1of_sOf l1of_br
theorem l1of_ok : Sound Kx 44 l1of_s := by
  refine l1of_okOf (fun n _ _ _ _ => n.toNat + 1) fun n set code i h r hv => ?_
  unfold l1of_br at hv
  obtain ⟨h1, h2⟩ := ite_some hv
  simp only [Bool.and_eq_true, decide_eq_true_eq] at h1
  rw [← h2]
  unfold l1of_run
  by_cases hn : 0 ≤ n
  · exact l1of_loop n set code h1.2 _ n.toNat (n.toNat + 1) 0 i h [] (by omega) (by omega) (by omega) h1.1.2 (by simp) (by simp; omega) h1.1.1
  · have e1 : decide ((0 : Int) < n) = false := by rw [decide_eq_false_iff_not]; omega
    have e2 : n.toNat = 0 := by omega
    rw [e2]
    unfold l1of_F3 l1of_T3
    simp only [e1, cond_false]
    unfold ofS ofI ofH
    rw [e2]
    rfl

/-! StoreNew, l4last -/
def newS (room : Int) : Segs := bif decide (0 ≤ room) && decide (room ≤ 60000) then [([], 0)] else []
def newC (room : Int) : Int := bif decide (0 ≤ room) && decide (room ≤ 60000) then room else 0
def newQ_s : List AV → List Ob → Br
  | [.int .i64 room], [] => .ret (.tup [.agg [.ref 0 0, .int .i64 (newC room)], .bool (decide (0 ≤ room) && decide (room ≤ 60000))]) [.arr (.pair .str (.int .i64)) 0 false (newS room)]
  | _, _ => .fail
theorem okStore_new (a : Int) : okStore (List.set (List.replicate 1 (([] : List UInt8), (0 : Int))) 0 ([], 0)) a = (decide (0 ≤ a) && decide (a ≤ 60000)) := by
  unfold okStore
  by_cases h : 0 ≤ a <;> simp [h, shape, total]
theorem sNewD_okQ : Sound Kx 42 newQ_s := sNewD_ok.of fun args objs r h => by
  unfold newQ_s at h
  split at h
  · rename_i room
    rw [← h]
    show (sNewD_br room).val = _
    unfold sNewD_br newS newC
    rw [okStore_new]
    cases decide (0 ≤ room) && decide (room ≤ 60000) <;> rfl
  · cases h
def lastQ_s : List AV → List Ob → Br
  | [.agg [.sh (.pair .str (.int .i64)) l, .int .i64 c]], [] => .ite (decide (l.length ≤ 1000000)) (.ret (.int .i64 ((lastS l).1.length : Int)) []) .fail
  | _, _ => .fail
theorem l4last_okQ : Sound Kx 24 lastQ_s := l4last_ok.of fun args objs r h => by
  unfold lastQ_s at h
  split at h
  · rename_i l c
    obtain ⟨h1, h2⟩ := ite_some h
    simp only [decide_eq_true_eq] at h1
    rw [← h2]
    show (l4last_br l c).val = _
    unfold l4last_br
    by_cases h3 : (l.length : Int) = 0
    · have : l = [] := List.length_eq_zero_iff.1 (by omega)
      subst this; rfl
    · have e1 : wrap64 ((l.length : Int) - 1) = ((l.length - 1 : Nat) : Int) := by rw [w64 (by omega) (by omega)]; omega
      have e2 : decide ((0 : Int) ≤ ((l.length - 1 : Nat) : Int)) = true := by rw [decide_eq_true_eq]; omega
      have e3 : decide (((l.length - 1 : Nat) : Int) < (l.length : Int)) = true := by rw [decide_eq_true_eq]; omega
      simp only [h3, e1, e2, e3, decide_false, Br.val, Int.toNat_natCast]
      rfl
  · cases h

end Go.Proofs.Ytmigffdeghfbhaa.Ev

namespace Go.Proofs.Ytmigffdeghfbhaa.Ev
open Go Go.RowKit
set_option linter.unusedVariables false
set_option linter.unusedSimpArgs false

/-! spec.l4draw -/
def l4draw_O : Opt := { cons := [], keepNil := false, mutF := [], live := [(3, [0, 2, 3, 5])], outs := [(3, [2, 3])] }
def l4draw_C : Spec := (add (add (add (add (add (add (add noS 23 belowQ_s) 35 pickQ_s) 44 l1of_s) 42 newQ_s) 31 syncQ_s) 19 rollQ_s) 43 appendQ_s)
theorem l4draw_C_ok : ∀ fn, Sound Kx fn (l4draw_C fn) := (sound_add (sound_add (sound_add (sound_add (sound_add (sound_add (sound_add (sound_no Kx) l1Below_okQ) l1Pick_okQ) l1of_ok) sNewD_okQ) sSync_okQ) sRoll_okQ) sAppend_okQ)
def l4draw_T3 (v3x0 : Int) (v3x1 : (List Int)) (v3x2 : Int) (v3x3 : Int) (v3x4 : Int) (v3x5 : (List ((List UInt8) × Int))) (v3x6 : Int) (v3x7 : (List ((List UInt8) × Int))) (kR3 : Int → (List Int) → Int → Int → Int → (List ((List UInt8) × Int)) → Int → (List ((List UInt8) × Int)) → Option Rs) (k3e0 : (List Int) → Int → Int → Int → (List ((List UInt8) × Int)) → Int → (List ((List UInt8) × Int)) → Option Rs) : Option Rs :=
  (bif (decide ((0 : Int) < v3x0)) then (bif (okC v3x1 v3x2) then (bif (decide ((belV (5 : Int) v3x1 v3x2 v3x3) = (0 : Int))) then (bif (smS v3x7) then (kR3 (wrap64 (v3x0 - (1 : Int))) v3x1 (belI (5 : Int) v3x1 v3x2) (belH (5 : Int) v3x3) v3x4 v3x5 (syncP v3x7 v3x6).2 (syncP v3x7 v3x6).1) else (none)) else (bif (decide ((belV (5 : Int) v3x1 v3x2 v3x3) = (1 : Int))) then (bif (smS v3x7) then (bif (decide ((rollP v3x7 v3x6).2.2 = (0 : Int))) then (kR3 (wrap64 (v3x0 - (1 : Int))) v3x1 (belI (5 : Int) v3x1 v3x2) (belH (5 : Int) v3x3) v3x4 v3x5 (rollP v3x7 v3x6).2.1 (rollP v3x7 v3x6).1) else (kR3 (wrap64 (v3x0 - (1 : Int))) v3x1 (belI (5 : Int) v3x1 v3x2) (belH (5 : Int) v3x3) v3x4 v3x5 v3x6 v3x7)) else (none)) else (bif (okC v3x1 (belI (5 : Int) v3x1 v3x2)) then (bif (((okC v3x1 (belI (9 : Int) v3x1 (belI (5 : Int) v3x1 v3x2))) && (decide ((belV (9 : Int) v3x1 (belI (5 : Int) v3x1 v3x2) (belH (5 : Int) v3x3)) ≤ (1000000 : Int)))) && true) then (bif (smS v3x7) then (bif (decide ((appendP v3x7 v3x6 (ofS (belV (9 : Int) v3x1 (belI (5 : Int) v3x1 v3x2) (belH (5 : Int) v3x3)) ((97 : UInt8) :: ((98 : UInt8) :: ((99 : UInt8) :: ((13 : UInt8) :: ((10 : UInt8) :: ([] : (List UInt8))))))) v3x1 (belI (9 : Int) v3x1 (belI (5 : Int) v3x1 v3x2)) (belH (9 : Int) (belH (5 : Int) v3x3)))).2.2 = (0 : Int))) then (kR3 (wrap64 (v3x0 - (1 : Int))) v3x1 (ofI (belV (9 : Int) v3x1 (belI (5 : Int) v3x1 v3x2) (belH (5 : Int) v3x3)) ((97 : UInt8) :: ((98 : UInt8) :: ((99 : UInt8) :: ((13 : UInt8) :: ((10 : UInt8) :: ([] : (List UInt8))))))) v3x1 (belI (9 : Int) v3x1 (belI (5 : Int) v3x1 v3x2)) (belH (9 : Int) (belH (5 : Int) v3x3))) (ofH (belV (9 : Int) v3x1 (belI (5 : Int) v3x1 v3x2) (belH (5 : Int) v3x3)) ((97 : UInt8) :: ((98 : UInt8) :: ((99 : UInt8) :: ((13 : UInt8) :: ((10 : UInt8) :: ([] : (List UInt8))))))) v3x1 (belI (9 : Int) v3x1 (belI (5 : Int) v3x1 v3x2)) (belH (9 : Int) (belH (5 : Int) v3x3))) v3x4 v3x5 (appendP v3x7 v3x6 (ofS (belV (9 : Int) v3x1 (belI (5 : Int) v3x1 v3x2) (belH (5 : Int) v3x3)) ((97 : UInt8) :: ((98 : UInt8) :: ((99 : UInt8) :: ((13 : UInt8) :: ((10 : UInt8) :: ([] : (List UInt8))))))) v3x1 (belI (9 : Int) v3x1 (belI (5 : Int) v3x1 v3x2)) (belH (9 : Int) (belH (5 : Int) v3x3)))).2.1 (appendP v3x7 v3x6 (ofS (belV (9 : Int) v3x1 (belI (5 : Int) v3x1 v3x2) (belH (5 : Int) v3x3)) ((97 : UInt8) :: ((98 : UInt8) :: ((99 : UInt8) :: ((13 : UInt8) :: ((10 : UInt8) :: ([] : (List UInt8))))))) v3x1 (belI (9 : Int) v3x1 (belI (5 : Int) v3x1 v3x2)) (belH (9 : Int) (belH (5 : Int) v3x3)))).1) else (kR3 (wrap64 (v3x0 - (1 : Int))) v3x1 (ofI (belV (9 : Int) v3x1 (belI (5 : Int) v3x1 v3x2) (belH (5 : Int) v3x3)) ((97 : UInt8) :: ((98 : UInt8) :: ((99 : UInt8) :: ((13 : UInt8) :: ((10 : UInt8) :: ([] : (List UInt8))))))) v3x1 (belI (9 : Int) v3x1 (belI (5 : Int) v3x1 v3x2)) (belH (9 : Int) (belH (5 : Int) v3x3))) (ofH (belV (9 : Int) v3x1 (belI (5 : Int) v3x1 v3x2) (belH (5 : Int) v3x3)) ((97 : UInt8) :: ((98 : UInt8) :: ((99 : UInt8) :: ((13 : UInt8) :: ((10 : UInt8) :: ([] : (List UInt8))))))) v3x1 (belI (9 : Int) v3x1 (belI (5 : Int) v3x1 v3x2)) (belH (9 : Int) (belH (5 : Int) v3x3))) v3x4 v3x5 v3x6 v3x7)) else (none)) else (none)) else (none)))) else (none)) else (k3e0 v3x1 v3x2 v3x3 v3x4 v3x5 v3x6 v3x7))
def l4draw_F3 : Nat → Int → (List Int) → Int → Int → Int → (List ((List UInt8) × Int)) → Int → (List ((List UInt8) × Int)) → ((List Int) → Int → Int → Int → (List ((List UInt8) × Int)) → Int → (List ((List UInt8) × Int)) → Option Rs) → Option Rs
  | 0, _, _, _, _, _, _, _, _, _ => none
  | n + 1, v3x0, v3x1, v3x2, v3x3, v3x4, v3x5, v3x6, v3x7, k3e0 => l4draw_T3 v3x0 v3x1 v3x2 v3x3 v3x4 v3x5 v3x6 v3x7 (fun v3x0 v3x1 v3x2 v3x3 v3x4 v3x5 v3x6 v3x7 => l4draw_F3 n v3x0 v3x1 v3x2 v3x3 v3x4 v3x5 v3x6 v3x7 k3e0) k3e0
def l4draw_h3 (v3x0 : Int) (v3x1 : (List Int)) (v3x2 : Int) (v3x3 : Int) (v3x4 : Int) (v3x5 : (List ((List UInt8) × Int))) (v3x6 : Int) (v3x7 : (List ((List UInt8) × Int))) : St := (St.mk (slots 0 48 [(0, (AV.ptr (0 : Nat) (0 : Nat))), (2, (AV.ptr (192 : Nat) (0 : Nat))), (3, (AV.ptr (256 : Nat) (0 : Nat))), (5, (AV.int .i64 v3x0))]) (((0 : Nat), (Ob.var ((AV.sh (Ty.int .u8) v3x1) :: ((AV.int .i64 v3x2) :: ((AV.int .i64 v3x3) :: ([] : (List (AV)))))))) :: (((192 : Nat), (Ob.var ((AV.ref (193 : Nat) (0 : Nat)) :: ((AV.int .i64 v3x4) :: ([] : (List (AV))))))) :: (((193 : Nat), (Ob.arr (Ty.pair Ty.str (Ty.int .i64)) (0 : Nat) false v3x5)) :: (((256 : Nat), (Ob.var ((AV.ref (257 : Nat) (0 : Nat)) :: ((AV.int .i64 v3x6) :: ([] : (List (AV))))))) :: (((257 : Nat), (Ob.arr (Ty.pair Ty.str (Ty.int .i64)) (0 : Nat) false v3x7)) :: ([] : (List (Nat × (Ob))))))))))
def l4draw_x3e0 (x3x0x0 : (List Int)) (x3x0x1 : Int) (x3x0x2 : Int) (x3x0x3 : Int) (x3x0x4 : (List ((List UInt8) × Int))) (x3x0x5 : Int) (x3x0x6 : (List ((List UInt8) × Int))) : St := (St.mk (slots 0 48 [(2, (AV.ptr (192 : Nat) (0 : Nat))), (3, (AV.ptr (256 : Nat) (0 : Nat)))]) (((0 : Nat), (Ob.var ((AV.sh (Ty.int .u8) x3x0x0) :: ((AV.int .i64 x3x0x1) :: ((AV.int .i64 x3x0x2) :: ([] : (List (AV)))))))) :: (((192 : Nat), (Ob.var ((AV.ref (193 : Nat) (0 : Nat)) :: ((AV.int .i64 x3x0x3) :: ([] : (List (AV))))))) :: (((193 : Nat), (Ob.arr (Ty.pair Ty.str (Ty.int .i64)) (0 : Nat) false x3x0x4)) :: (((256 : Nat), (Ob.var ((AV.ref (257 : Nat) (0 : Nat)) :: ((AV.int .i64 x3x0x5) :: ([] : (List (AV))))))) :: (((257 : Nat), (Ob.arr (Ty.pair Ty.str (Ty.int .i64)) (0 : Nat) false x3x0x6)) :: ([] : (List (Nat × (Ob))))))))))
noncomputable def l4draw_b3 : Code := codeAt (codeOf Try.f33) [1, 1, 0, 1, 0, 0]
def l4draw_L3 (N : Nat) (st : St) (k : Ex → St → Option Rs) : Option Rs := match takeF [0, 2, 3, 5] 0 48 st.env, st.objs with
  | some [.ptr 0 0, .ptr 192 0, .ptr 256 0, .int .i64 v3x0], [(0, .var [.sh (Ty.int .u8) v3x1, .int .i64 v3x2, .int .i64 v3x3]), (192, .var [.ref 193 0, .int .i64 v3x4]), (193, .arr (Ty.pair Ty.str (Ty.int .i64)) 0 false v3x5), (256, .var [.ref 257 0, .int .i64 v3x6]), (257, .arr (Ty.pair Ty.str (Ty.int .i64)) 0 false v3x7)] => l4draw_F3 N v3x0 v3x1 v3x2 v3x3 v3x4 v3x5 v3x6 v3x7 (fun x3x0x0 x3x0x1 x3x0x2 x3x0x3 x3x0x4 x3x0x5 x3x0x6 => k (Ex.exit (0 : Nat)) (l4draw_x3e0 x3x0x0 x3x0x1 x3x0x2 x3x0x3 x3x0x4 x3x0x5 x3x0x6))
  | _, _ => none
def l4draw_L (N : Nat) : Lam := fun j st k => match j with
  | 3 => l4draw_L3 N st k
  | _ => none
theorem l4draw_round3 (N : Nat) (again : St → Option Rs) (k : Ex → St → Option Rs) (wv3x0 : Int) (wv3x1 : (List Int)) (wv3x2 : Int) (wv3x3 : Int) (wv3x4 : Int) (wv3x5 : (List ((List UInt8) × Int))) (wv3x6 : Int) (wv3x7 : (List ((List UInt8) × Int))) (v3x0 : Int) (v3x1 : (List Int)) (v3x2 : Int) (v3x3 : Int) (v3x4 : Int) (v3x5 : (List ((List UInt8) × Int))) (v3x6 : Int) (v3x7 : (List ((List UInt8) × Int))) :
    roundK 1 (fun st k => evL Kx l4draw_C l4draw_O 1 (l4draw_L N) l4draw_b3 st k) (l4draw_h3 wv3x0 wv3x1 wv3x2 wv3x3 wv3x4 wv3x5 wv3x6 wv3x7).env again (l4draw_h3 v3x0 v3x1 v3x2 v3x3 v3x4 v3x5 v3x6 v3x7) (outK l4draw_O 1 l4draw_b3 k) = l4draw_T3 v3x0 v3x1 v3x2 v3x3 v3x4 v3x5 v3x6 v3x7 (fun v3x0 v3x1 v3x2 v3x3 v3x4 v3x5 v3x6 v3x7 => again (l4draw_h3 v3x0 v3x1 v3x2 v3x3 v3x4 v3x5 v3x6 v3x7)) (fun x3x0x0 x3x0x1 x3x0x2 x3x0x3 x3x0x4 x3x0x5 x3x0x6 => k (Ex.exit (0 : Nat)) (l4draw_x3e0 x3x0x0 x3x0x1 x3x0x2 x3x0x3 x3x0x4 x3x0x5 x3x0x6)) := by kernel_rfl
theorem l4draw_loop3 (N : Nat) (k : Ex → St → Option Rs) (wv3x0 : Int) (wv3x1 : (List Int)) (wv3x2 : Int) (wv3x3 : Int) (wv3x4 : Int) (wv3x5 : (List ((List UInt8) × Int))) (wv3x6 : Int) (wv3x7 : (List ((List UInt8) × Int))) : ∀ (n : Nat) (v3x0 : Int) (v3x1 : (List Int)) (v3x2 : Int) (v3x3 : Int) (v3x4 : Int) (v3x5 : (List ((List UInt8) × Int))) (v3x6 : Int) (v3x7 : (List ((List UInt8) × Int))),
    loopK 1 (fun st k => evL Kx l4draw_C l4draw_O 1 (l4draw_L N) l4draw_b3 st k) (l4draw_h3 wv3x0 wv3x1 wv3x2 wv3x3 wv3x4 wv3x5 wv3x6 wv3x7).env n (l4draw_h3 v3x0 v3x1 v3x2 v3x3 v3x4 v3x5 v3x6 v3x7) (outK l4draw_O 1 l4draw_b3 k) = l4draw_F3 n v3x0 v3x1 v3x2 v3x3 v3x4 v3x5 v3x6 v3x7 (fun x3x0x0 x3x0x1 x3x0x2 x3x0x3 x3x0x4 x3x0x5 x3x0x6 => k (Ex.exit (0 : Nat)) (l4draw_x3e0 x3x0x0 x3x0x1 x3x0x2 x3x0x3 x3x0x4 x3x0x5 x3x0x6))
  | 0, _, _, _, _, _, _, _, _ => rfl
  | n + 1, v3x0, v3x1, v3x2, v3x3, v3x4, v3x5, v3x6, v3x7 => by
    rw [loopK_succ, l4draw_round3]
    simp only [l4draw_loop3 N k wv3x0 wv3x1 wv3x2 wv3x3 wv3x4 wv3x5 wv3x6 wv3x7 n]
    rfl
theorem l4draw_at3 (N : Nat) {s : St} {k : Ex → St → Option Rs} {r : Rs} (h : l4draw_L3 N s k = some r) : ∃ (v3x0 : Int) (v3x1 : (List Int)) (v3x2 : Int) (v3x3 : Int) (v3x4 : Int) (v3x5 : (List ((List UInt8) × Int))) (v3x6 : Int) (v3x7 : (List ((List UInt8) × Int))), s = (l4draw_h3 v3x0 v3x1 v3x2 v3x3 v3x4 v3x5 v3x6 v3x7) ∧ l4draw_F3 N v3x0 v3x1 v3x2 v3x3 v3x4 v3x5 v3x6 v3x7 (fun x3x0x0 x3x0x1 x3x0x2 x3x0x3 x3x0x4 x3x0x5 x3x0x6 => k (Ex.exit (0 : Nat)) (l4draw_x3e0 x3x0x0 x3x0x1 x3x0x2 x3x0x3 x3x0x4 x3x0x5 x3x0x6)) = some r := by
  cases s with | mk env objs =>
  unfold l4draw_L3 at h
  split at h
  · rename_i e1 e2
    have e3 := takeF_slots _ _ _ _ e1
    simp only at e2 e3
    subst e2 e3
    exact ⟨_, _, _, _, _, _, _, _, rfl, h⟩
  · cases h
theorem l4draw_in3 : loops l4draw_b3 = [] := by kernel_rfl
theorem l4draw_lid3 : lid l4draw_b3 = 3 := by kernel_rfl
theorem l4draw_ok3 (N : Nat) : OkL Kx l4draw_C l4draw_O 1 N (l4draw_L N) l4draw_b3 := by
  intro s k k' r hk h
  rw [l4draw_lid3] at h
  obtain ⟨v3x0, v3x1, v3x2, v3x3, v3x4, v3x5, v3x6, v3x7, rfl, h⟩ := l4draw_at3 N h
  refine loopL (Λ := l4draw_L N) l4draw_b3 ?_ N hk ((l4draw_loop3 N k v3x0 v3x1 v3x2 v3x3 v3x4 v3x5 v3x6 v3x7 N v3x0 v3x1 v3x2 v3x3 v3x4 v3x5 v3x6 v3x7).trans h)
  rw [l4draw_in3]
  exact fun _ h => nomatch h
def l4draw_run (N : Nat) (code : List Int) (i h : Int) : Option Rs := (bif ((okC code i) && true) then (bif (okC code (belI (5 : Int) code i)) then (l4draw_F3 N (belV (14 : Int) code (belI (5 : Int) code i) (belH (5 : Int) h)) code (belI (14 : Int) code (belI (5 : Int) code i)) (belH (14 : Int) (belH (5 : Int) h)) (0 : Int) ([] : (List ((List UInt8) × Int))) (newC (List.getD (List.set (List.set (List.set (List.set (List.set (List.replicate (5 : Nat) (0 : Int)) (0 : Nat) (0 : Int)) (1 : Nat) (10 : Int)) (2 : Nat) (40 : Int)) (3 : Nat) (100 : Int)) (4 : Nat) (60000 : Int)) (Int.toNat (belV (5 : Int) code i h)) (0 : Int))) (newS (List.getD (List.set (List.set (List.set (List.set (List.set (List.replicate (5 : Nat) (0 : Int)) (0 : Nat) (0 : Int)) (1 : Nat) (10 : Int)) (2 : Nat) (40 : Int)) (3 : Nat) (100 : Int)) (4 : Nat) (60000 : Int)) (Int.toNat (belV (5 : Int) code i h)) (0 : Int))) (fun x3x0x0 => (fun x3x0x1 => (fun x3x0x2 => (fun x3x0x3 => (fun x3x0x4 => (fun x3x0x5 => (fun x3x0x6 => (some ((AV.agg ((AV.ref (1 : Nat) (0 : Nat)) :: ((AV.int .i64 x3x0x5) :: ([] : (List (AV)))))), ((Ob.var ((AV.sh (Ty.int .u8) x3x0x0) :: ((AV.int .i64 x3x0x1) :: ((AV.int .i64 x3x0x2) :: ([] : (List (AV))))))) :: ((Ob.arr (Ty.pair Ty.str (Ty.int .i64)) (0 : Nat) false x3x0x6) :: ([] : (List (Ob))))))))))))))) else (none)) else (none))
theorem l4draw_runL (N : Nat) (code : List Int) (i h : Int) : runL Kx l4draw_C l4draw_O (l4draw_L N) Try.f33 ([.ptr 0 0]) ([.var [.sh (.int .u8) code, .int .i64 i, .int .i64 h]]) = l4draw_run N code i h := by kernel_rfl
theorem l4draw_body : Try.f33.body = some (codeOf Try.f33) := by kernel_rfl
theorem l4draw_loops : loops (codeOf Try.f33) = [l4draw_b3] := by kernel_rfl
theorem l4draw_ev (N : Nat) (code : List Int) (i h : Int) {res_ : Rs} (hyp_ : l4draw_run N code i h = some res_) : ∃ n_, runF Kx l4draw_C l4draw_O n_ Try.f33 ([.ptr 0 0]) ([.var [.sh (.int .u8) code, .int .i64 i, .int .i64 h]]) = some res_ :=
  ⟨N, runL_runF l4draw_body (by rw [l4draw_loops]; exact List.forall_mem_cons.2 ⟨l4draw_ok3 N, fun _ h => nomatch h⟩) ((l4draw_runL N code i h).trans hyp_)⟩
def l4draw_sOf (φ : (List Int) → Int → Int → Br) : List AV → List Ob → Br
  | [.ptr 0 0], [.var [.sh (.int .u8) code, .int .i64 i, .int .i64 h]] => φ code i h
  | _, _ => .fail
theorem l4draw_okOf {φ : (List Int) → Int → Int → Br} (fu : (List Int) → Int → Int → Nat) (hv : ∀ code i h res_, (φ code i h).val = some res_ → l4draw_run (fu code i h) code i h = some res_) : Sound Kx 33 (l4draw_sOf φ) := by
  refine sound_run (C := l4draw_C) (O := l4draw_O) KOk l4draw_C_ok Try.func33 (by kernel_rfl) fun args objs res os h => ?_
  unfold l4draw_sOf at h
  split at h
  · exact l4draw_ev _ _ _ _ (hv _ _ _ _ h)
  · cases h

end Go.Proofs.Ytmigffdeghfbhaa.Ev

namespace Go.Proofs.Ytmigffdeghfbhaa.Ev
open Go Go.RowKit
set_option linter.unusedVariables false
set_option linter.unusedSimpArgs false

def good (l : Segs) : Prop := l.length ≤ 41 ∧ ∀ a ∈ l, a.1.length ≤ 100000
theorem good_nil : good [] := ⟨by simp, fun a h => by cases h⟩
theorem good_one : good [([], 0)] := ⟨by simp, fun a h => by rw [List.mem_singleton.1 h]; simp⟩
theorem good_smS {l : Segs} (h : good l) : smS l = true := by
  unfold smS
  simp only [Bool.and_eq_true, decide_eq_true_eq, List.all_eq_true]
  exact ⟨by have := h.1; omega, fun a ha => by have := h.2 a ha; omega⟩
theorem good_snoc {pre : Segs} {a b : List UInt8 × Int} (h : good (pre ++ [a])) (hb : b.1.length ≤ 100000) : good (pre ++ [b]) := by
  refine ⟨by have := h.1; simp at this ⊢; omega, fun x hx => ?_⟩
  rcases List.mem_append.1 hx with hx | hx
  · exact h.2 x (List.mem_append_left _ hx)
  · rw [List.mem_singleton.1 hx]; exact hb
theorem good_sync {l : Segs} {c : Int} (h : good l) : good (syncP l c).1 := by
  unfold syncP
  cases hk : okStore l c with
  | false => exact good_nil
  | true =>
    obtain ⟨pre, a, rfl, hp, h1, h2, h3, h4, h5, h6⟩ := okStore_last hk
    simp only [cond_true, updS_snoc]
    exact good_snoc h (by simp only; omega)
theorem good_roll {l : Segs} {c : Int} (h : good l) : good (rollP l c).1 := by
  unfold rollP
  cases hk : okStore l c with
  | false => exact good_nil
  | true =>
    obtain ⟨pre, a, rfl, hp, h1, h2, h3, h4, h5, h6⟩ := okStore_last hk
    simp only [cond_true, updS_snoc, lastS_snoc]
    cases decide (a.1 = [])
    · cases decide (((pre ++ [a]).length : Int) = 40)
      · simp only [cond_false]
        refine ⟨by simp; omega, fun x hx => ?_⟩
        rcases List.mem_append.1 hx with hx | hx
        · exact (good_snoc (b := (a.1, (a.1.length : Int))) h (by simp only; omega)).2 x hx
        · rw [List.mem_singleton.1 hx]; simp
      · exact good_nil
    · exact good_nil
theorem total_last (pre : Segs) (a : List UInt8 × Int) : a.1.length ≤ total (pre ++ [a]) := by rw [total_snoc]; omega
theorem good_append {l : Segs} {c : Int} {b : List UInt8} (h : good l) : good (appendP l c b).1 := by
  unfold appendP
  cases hk : okStore l c with
  | false => exact good_nil
  | true =>
    obtain ⟨pre, a, rfl, hp, h1, h2, h3, h4, h5, h6⟩ := okStore_last hk
    simp only [cond_true, updS_snoc]
    by_cases h7 : c - (total (pre ++ [a]) : Int) < (b.length : Int)
    · simp only [h7, decide_true, cond_true]; exact good_nil
    · simp only [h7, decide_false, cond_false]
      refine good_snoc h ?_
      have := total_last pre a
      simp only [List.length_append]
      omega
theorem good_new (room : Int) : good (newS room) := by
  unfold newS
  cases decide (0 ≤ room) && decide (room ≤ 60000)
  · exact good_nil
  · exact good_one

theorem bif_ex {P : Option Rs → Prop} {b : Bool} {x y : Option Rs} (hx : b = true → P x) (hy : b = false → P y) : P (bif b then x else y) := by
  cases b
  · exact hy rfl
  · exact hx rfl
/-! What keeps a store a store. -/
def full : Segs → Bool
  | [] => true
  | a :: r => !decide ((a.1.length : Int) = 0) && decide (a.2 = (a.1.length : Int)) && full r
theorem shape_app : ∀ (pre : Segs) (a : List UInt8 × Int), shape (pre ++ [a]) = (full pre && (decide (0 ≤ a.2) && decide (a.2 ≤ (a.1.length : Int))))
  | [], a => by simp [shape, full]
  | b :: r, a => by
    have e : (r ++ [a]).isEmpty = false := by cases r <;> rfl
    simp only [List.cons_append, shape, full, e, shape_app r a, Bool.false_or]
    by_cases h : b.2 = (b.1.length : Int)
    · have h1 : 0 ≤ b.2 := by omega
      have h2 : b.2 ≤ (b.1.length : Int) := by omega
      simp only [h, decide_true, Bool.and_true, Bool.true_and]
      have h3 : (0 : Int) ≤ (b.1.length : Int) := by omega
      simp only [h3, Int.le_refl, decide_true, Bool.true_and, Bool.and_assoc]
    · simp only [h, decide_false, Bool.and_false, Bool.false_and]
theorem okStore_snoc {pre : Segs} {a : List UInt8 × Int} {c : Int} (h1 : full pre = true) (h2 : 0 ≤ a.2) (h3 : a.2 ≤ (a.1.length : Int)) (h4 : pre.length ≤ 39) (h5 : (total (pre ++ [a]) : Int) ≤ c) (h6 : c ≤ 60000) : okStore (pre ++ [a]) c = true := by
  unfold okStore
  rw [shape_app]
  have e1 : 0 ≤ c := by omega
  have e2 : 1 ≤ (pre ++ [a]).length := by simp
  have e3 : (pre ++ [a]).length ≤ 40 := by simp; omega
  simp only [h1, h2, h3, h5, h6, e1, e2, e3, decide_true, Bool.and_self]
theorem okStore_full {pre : Segs} {a : List UInt8 × Int} {c : Int} (h : okStore (pre ++ [a]) c = true) : full pre = true := by
  unfold okStore at h
  rw [shape_app] at h
  simp only [Bool.and_eq_true] at h
  exact h.2.1.1
theorem okS_sync {l : Segs} {c : Int} (h : okStore l c = true) : okStore (syncP l c).1 (syncP l c).2 = true := by
  unfold syncP
  rw [h]
  obtain ⟨pre, a, rfl, hp, h1, h2, h3, h4, h5, h6⟩ := okStore_last h
  simp only [cond_true, updS_snoc]
  have hf := okStore_full h
  rw [total_snoc] at h6
  exact okStore_snoc hf (by simp only; omega) (by simp only; omega) hp (by rw [total_snoc]; exact h6) h5
theorem full_snoc : ∀ (pre : Segs) (a : List UInt8 × Int), full (pre ++ [a]) = (full pre && (!decide ((a.1.length : Int) = 0) && decide (a.2 = (a.1.length : Int))))
  | [], a => by simp [full]
  | b :: r, a => by simp only [List.cons_append, full, full_snoc r a, Bool.and_assoc]
theorem okS_roll {l : Segs} {c : Int} (h : okStore l c = true) (h0 : (rollP l c).2.2 = 0) : okStore (rollP l c).1 (rollP l c).2.1 = true := by
  unfold rollP at h0 ⊢
  rw [h] at h0 ⊢
  obtain ⟨pre, a, rfl, hp, h1, h2, h3, h4, h5, h6⟩ := okStore_last h
  have hf := okStore_full h
  simp only [cond_true, updS_snoc, lastS_snoc] at h0 ⊢
  by_cases h7 : a.1 = []
  · simp only [h7, decide_true, cond_true] at h0; omega
  · by_cases h8 : ((pre ++ [a]).length : Int) = 40
    · simp only [h7, h8, decide_true, decide_false, cond_true, cond_false] at h0; omega
    · simp only [h7, h8, decide_false, cond_false]
      have h9 : ¬ (a.1.length : Int) = 0 := fun e => h7 (List.length_eq_zero_iff.1 (by omega))
      refine okStore_snoc ?_ (by simp) (by simp) (by simp at h8 ⊢; omega) ?_ h5
      · rw [full_snoc]; simp only [hf, h9, decide_false, decide_true, Bool.not_false, Bool.and_self]
      · rw [total_snoc, total_snoc]; rw [total_snoc] at h6; simpa using h6
theorem okS_append {l : Segs} {c : Int} {b : List UInt8} (h : okStore l c = true) (h0 : (appendP l c b).2.2 = 0) : okStore (appendP l c b).1 (appendP l c b).2.1 = true := by
  unfold appendP at h0 ⊢
  rw [h] at h0 ⊢
  obtain ⟨pre, a, rfl, hp, h1, h2, h3, h4, h5, h6⟩ := okStore_last h
  have hf := okStore_full h
  simp only [cond_true, updS_snoc] at h0 ⊢
  by_cases h7 : c - (total (pre ++ [a]) : Int) < (b.length : Int)
  · simp only [h7, decide_true, cond_true] at h0; omega
  · simp only [h7, decide_false, cond_false]
    refine okStore_snoc hf h1 (by simp; omega) hp ?_ h5
    rw [total_snoc] at h7 ⊢
    simp only [List.length_append]; omega
theorem total_mem : ∀ {l : Segs} {a : List UInt8 × Int}, a ∈ l → a.1.length ≤ total l
  | b :: r, a, h => by
    rcases List.mem_cons.1 h with rfl | h
    · simp only [total]; omega
    · have := total_mem h; simp only [total]; omega
theorem ok_good {l : Segs} {c : Int} (h : okStore l c = true) : good l := by
  unfold okStore at h
  simp only [Bool.and_eq_true, decide_eq_true_eq] at h
  exact ⟨by omega, fun a ha => by have := total_mem ha; omega⟩
theorem okS_new {room : Int} (h1 : 0 ≤ room) (h2 : room ≤ 60000) : okStore (newS room) (newC room) = true := by
  unfold newS newC
  simp only [h1, h2, decide_true, Bool.and_self, cond_true]
  exact okStore_snoc (pre := []) rfl (by simp) (by simp) (by simp) (by simpa [total] using h1) h2

theorem l4draw_loop (code : List Int) (x4 : Int) (l5 : Segs) (K : List Int → Int → Int → Int → Segs → Int → Segs → Option Rs) : ∀ (N : Nat) (k i h c : Int) (l : Segs), k.toNat < N → k ≤ 1000 → okC code i = true → okStore l c = true →
    ∃ i' h' c' l', okC code i' = true ∧ okStore l' c' = true ∧ l4draw_F3 N k code i h x4 l5 c l K = K code i' h' x4 l5 c' l'
  | 0, k, i, h, c, l, hN, hk, hc, hg => by omega
  | N + 1, k, i, h, c, l, hN, hk, hc, hg => by
    have hs := good_smS (ok_good hg)
    by_cases h1 : 0 < k
    · have e1 : wrap64 (k - 1) = k - 1 := w64 (by omega) (by omega)
      have c1 := okC_bel (n := 5) hc
      have c2 := okC_bel (n := 9) c1
      have b9 := belV_in 9 code (belI 5 code i) (belH 5 h)
      have e2 : decide (belV 9 code (belI 5 code i) (belH 5 h) ≤ 1000000) = true := by rw [decide_eq_true_eq]; have := b9.2 (by omega); omega
      have ih := fun i h c l => l4draw_loop code x4 l5 K N (k - 1) i h c l (by omega) (by omega)
      unfold l4draw_F3 l4draw_T3
      simp only [h1, hc, c1, c2, hs, e1, e2, decide_true, cond_true, Bool.and_self]
      cases decide (belV 5 code i h = 0)
      · cases decide (belV 5 code i h = 1)
        · simp only [cond_false]
          refine bif_ex (P := fun z => ∃ i' h' c' l', okC code i' = true ∧ okStore l' c' = true ∧ z = K code i' h' x4 l5 c' l') (fun hd => ?_) (fun _ => ?_)
          · exact ih _ _ _ _ (okC_of c2) (okS_append hg (of_decide_eq_true hd))
          · exact ih _ _ _ _ (okC_of c2) hg
        · simp only [cond_true, cond_false]
          refine bif_ex (P := fun z => ∃ i' h' c' l', okC code i' = true ∧ okStore l' c' = true ∧ z = K code i' h' x4 l5 c' l') (fun hd => ?_) (fun _ => ?_)
          · exact ih _ _ _ _ c1 (okS_roll hg (of_decide_eq_true hd))
          · exact ih _ _ _ _ c1 hg
      · exact ih _ _ _ _ c1 (okS_sync hg)
    · refine ⟨i, h, c, l, hc, hg, ?_⟩
      unfold l4draw_F3 l4draw_T3
      simp only [h1, decide_false, cond_false]

theorem rooms : ∀ k : Nat, k < 5 → 0 ≤ (List.set (List.set (List.set (List.set (List.set (List.replicate 5 (0 : Int)) 0 0) 1 10) 2 40) 3 100) 4 60000).getD k 0 ∧ (List.set (List.set (List.set (List.set (List.set (List.replicate 5 (0 : Int)) 0 0) 1 10) 2 40) 3 100) 4 60000).getD k 0 ≤ 60000 := by decide
theorem ok_room (code : List Int) (i h : Int) : okStore (newS ((List.set (List.set (List.set (List.set (List.set (List.replicate 5 (0 : Int)) 0 0) 1 10) 2 40) 3 100) 4 60000).getD (belV 5 code i h).toNat 0)) (newC ((List.set (List.set (List.set (List.set (List.set (List.replicate 5 (0 : Int)) 0 0) 1 10) 2 40) 3 100) 4 60000).getD (belV 5 code i h).toNat 0)) = true := by
  have hb := belV_in 5 code i h
  have := rooms (belV 5 code i h).toNat (by have := hb.2 (by omega); omega)
  exact okS_new this.1 this.2

/-- What l4draw hands back. -/
def drawR (code : List Int) (i h c : Int) (l : Segs) : Rs := (.agg [.ref 1 0, .int .i64 c], [.var [.sh (.int .u8) code, .int .i64 i, .int .i64 h], .arr (.pair .str (.int .i64)) 0 false l])
theorem l4draw_ex (code : List Int) (i h : Int) (hc : okC code i = true) : ∃ i' h' c' l', okC code i' = true ∧ okStore l' c' = true ∧ l4draw_run 1000 code i h = some (drawR code i' h' c' l') := by
  have c1 := okC_bel (n := 5) hc
  have c2 := okC_bel (n := 14) c1
  have b14 := belV_in 14 code (belI 5 code i) (belH 5 h)
  have := b14.2 (by omega)
  unfold l4draw_run
  simp only [hc, c1, cond_true, Bool.and_self]
  exact l4draw_loop code _ _ _ 1000 _ _ _ _ _ (by omega) (by omega) c2 (ok_room code i h)
open Classical in
noncomputable def dI (code : List Int) (i h : Int) : Int := if hc : okC code i = true then (l4draw_ex code i h hc).choose else 0
open Classical in
noncomputable def dH (code : List Int) (i h : Int) : Int := if hc : okC code i = true then (l4draw_ex code i h hc).choose_spec.choose else 0
open Classical in
noncomputable def dC (code : List Int) (i h : Int) : Int := if hc : okC code i = true then (l4draw_ex code i h hc).choose_spec.choose_spec.choose else 0
open Classical in
noncomputable def dL (code : List Int) (i h : Int) : Segs := if hc : okC code i = true then (l4draw_ex code i h hc).choose_spec.choose_spec.choose_spec.choose else []
theorem draw_spec {code : List Int} {i h : Int} (hc : okC code i = true) : okC code (dI code i h) = true ∧ okStore (dL code i h) (dC code i h) = true ∧ l4draw_run 1000 code i h = some (drawR code (dI code i h) (dH code i h) (dC code i h) (dL code i h)) := by
  unfold dI dH dC dL
  simp only [hc, dif_pos]
  exact (l4draw_ex code i h hc).choose_spec.choose_spec.choose_spec.choose_spec
noncomputable def l4draw_br (code : List Int) (i h : Int) : Br := .ite (okC code i) (.ret (.agg [.ref 1 0, .int .i64 (dC code i h)]) [.var [.sh (.int .u8) code, .int .i64 (dI code i h), .int .i64 (dH code i h)], .arr (.pair .str (.int .i64)) 0 false (dL code i h)]) .fail
noncomputable def l4draw_s := l4draw_sOf l4draw_br
theorem l4draw_ok : Sound Kx 33 l4draw_s := by
  refine l4draw_okOf (fun _ _ _ => 1000) fun code i h r hv => ?_
  unfold l4draw_br at hv
  obtain ⟨h1, h2⟩ := ite_some hv
  rw [← h2]
  exact (draw_spec h1).2.2

end Go.Proofs.Ytmigffdeghfbhaa.Ev

namespace Go.Proofs.Ytmigffdeghfbhaa.Ev
open Go Go.RowKit
set_option linter.unusedVariables false
set_option linter.unusedSimpArgs false
noncomputable section

/-! spec.l4bent -/
def l4bent_O : Opt := { cons := [], keepNil := false, mutF := [], live := [(6, [0, 2, 3])], outs := [(6, [2, 3])] }
def l4bent_C : Spec := (add (add (add (add (add noS 23 belowQ_s) 35 pickQ_s) 34 l1Once_s) 33 l4draw_s) 36 sUsed_s)
theorem l4bent_C_ok : ∀ fn, Sound Kx fn (l4bent_C fn) := (sound_add (sound_add (sound_add (sound_add (sound_add (sound_no Kx) l1Below_okQ) l1Pick_okQ) l1Once_ok) l4draw_ok) sUsed_ok)
def l4bent_T6 (v6x0 : (List Int)) (v6x1 : Int) (v6x2 : Int) (v6x3 : Int) (v6x4 : (List ((List UInt8) × Int))) (v6x5 : Int) (v6x6 : (List ((List UInt8) × Int))) (kR6 : (List Int) → Int → Int → Int → (List ((List UInt8) × Int)) → Int → (List ((List UInt8) × Int)) → Option Rs) (k6e0 : (List Int) → Int → Int → Int → (List ((List UInt8) × Int)) → Int → (List ((List UInt8) × Int)) → Option Rs) : Option Rs :=
  (bif (okC v6x0 v6x1) then (bif (decide (((List.length v6x6) : Int) < (wrap64 ((40 : Int) + (belV (2 : Int) v6x0 v6x1 v6x2))))) then (bif (decide ((((1 : Nat) + (List.length v6x6)) * (24 : Nat)) ≤ (140737488355328 : Nat))) then (kR6 v6x0 (belI (2 : Int) v6x0 v6x1) (belH (2 : Int) v6x2) v6x3 v6x4 v6x5 ((List.set (List.replicate (1 : Nat) (([] : (List UInt8)), (0 : Int))) (0 : Nat) (((120 : UInt8) :: ([] : (List UInt8))), (1 : Int))) ++ v6x6)) else (none)) else (k6e0 v6x0 (belI (2 : Int) v6x0 v6x1) (belH (2 : Int) v6x2) v6x3 v6x4 v6x5 v6x6)) else (none))
def l4bent_F6 : Nat → (List Int) → Int → Int → Int → (List ((List UInt8) × Int)) → Int → (List ((List UInt8) × Int)) → ((List Int) → Int → Int → Int → (List ((List UInt8) × Int)) → Int → (List ((List UInt8) × Int)) → Option Rs) → Option Rs
  | 0, _, _, _, _, _, _, _, _ => none
  | n + 1, v6x0, v6x1, v6x2, v6x3, v6x4, v6x5, v6x6, k6e0 => l4bent_T6 v6x0 v6x1 v6x2 v6x3 v6x4 v6x5 v6x6 (fun v6x0 v6x1 v6x2 v6x3 v6x4 v6x5 v6x6 => l4bent_F6 n v6x0 v6x1 v6x2 v6x3 v6x4 v6x5 v6x6 k6e0) k6e0
def l4bent_h6 (v6x0 : (List Int)) (v6x1 : Int) (v6x2 : Int) (v6x3 : Int) (v6x4 : (List ((List UInt8) × Int))) (v6x5 : Int) (v6x6 : (List ((List UInt8) × Int))) : St := (St.mk (slots 0 72 [(0, (AV.ptr (0 : Nat) (0 : Nat))), (2, (AV.ptr (192 : Nat) (0 : Nat))), (3, (AV.ptr (256 : Nat) (0 : Nat)))]) (((0 : Nat), (Ob.var ((AV.sh (Ty.int .u8) v6x0) :: ((AV.int .i64 v6x1) :: ((AV.int .i64 v6x2) :: ([] : (List (AV)))))))) :: (((192 : Nat), (Ob.var ((AV.ref (193 : Nat) (0 : Nat)) :: ((AV.int .i64 v6x3) :: ([] : (List (AV))))))) :: (((193 : Nat), (Ob.arr (Ty.pair Ty.str (Ty.int .i64)) (0 : Nat) false v6x4)) :: (((256 : Nat), (Ob.var ((AV.ref (257 : Nat) (0 : Nat)) :: ((AV.int .i64 v6x5) :: ([] : (List (AV))))))) :: (((257 : Nat), (Ob.arr (Ty.pair Ty.str (Ty.int .i64)) (0 : Nat) false v6x6)) :: ([] : (List (Nat × (Ob))))))))))
def l4bent_x6e0 (x6x0x0 : (List Int)) (x6x0x1 : Int) (x6x0x2 : Int) (x6x0x3 : Int) (x6x0x4 : (List ((List UInt8) × Int))) (x6x0x5 : Int) (x6x0x6 : (List ((List UInt8) × Int))) : St := (St.mk (slots 0 72 [(2, (AV.ptr (192 : Nat) (0 : Nat))), (3, (AV.ptr (256 : Nat) (0 : Nat)))]) (((0 : Nat), (Ob.var ((AV.sh (Ty.int .u8) x6x0x0) :: ((AV.int .i64 x6x0x1) :: ((AV.int .i64 x6x0x2) :: ([] : (List (AV)))))))) :: (((192 : Nat), (Ob.var ((AV.ref (193 : Nat) (0 : Nat)) :: ((AV.int .i64 x6x0x3) :: ([] : (List (AV))))))) :: (((193 : Nat), (Ob.arr (Ty.pair Ty.str (Ty.int .i64)) (0 : Nat) false x6x0x4)) :: (((256 : Nat), (Ob.var ((AV.ref (257 : Nat) (0 : Nat)) :: ((AV.int .i64 x6x0x5) :: ([] : (List (AV))))))) :: (((257 : Nat), (Ob.arr (Ty.pair Ty.str (Ty.int .i64)) (0 : Nat) false x6x0x6)) :: ([] : (List (Nat × (Ob))))))))))
noncomputable def l4bent_b6 : Code := codeAt (codeOf Try.f22) [1, 1, 1, 1, 0, 1, 0, 1, 1, 1, 1, 1, 1, 1, 1, 0, 0, 0]
def l4bent_L6 (N : Nat) (st : St) (k : Ex → St → Option Rs) : Option Rs := match takeF [0, 2, 3] 0 72 st.env, st.objs with
  | some [.ptr 0 0, .ptr 192 0, .ptr 256 0], [(0, .var [.sh (Ty.int .u8) v6x0, .int .i64 v6x1, .int .i64 v6x2]), (192, .var [.ref 193 0, .int .i64 v6x3]), (193, .arr (Ty.pair Ty.str (Ty.int .i64)) 0 false v6x4), (256, .var [.ref 257 0, .int .i64 v6x5]), (257, .arr (Ty.pair Ty.str (Ty.int .i64)) 0 false v6x6)] => l4bent_F6 N v6x0 v6x1 v6x2 v6x3 v6x4 v6x5 v6x6 (fun x6x0x0 x6x0x1 x6x0x2 x6x0x3 x6x0x4 x6x0x5 x6x0x6 => k (Ex.exit (1 : Nat)) (l4bent_x6e0 x6x0x0 x6x0x1 x6x0x2 x6x0x3 x6x0x4 x6x0x5 x6x0x6))
  | _, _ => none
def l4bent_L (N : Nat) : Lam := fun j st k => match j with
  | 6 => l4bent_L6 N st k
  | _ => none
theorem l4bent_round6 (N : Nat) (again : St → Option Rs) (k : Ex → St → Option Rs) (wv6x0 : (List Int)) (wv6x1 : Int) (wv6x2 : Int) (wv6x3 : Int) (wv6x4 : (List ((List UInt8) × Int))) (wv6x5 : Int) (wv6x6 : (List ((List UInt8) × Int))) (v6x0 : (List Int)) (v6x1 : Int) (v6x2 : Int) (v6x3 : Int) (v6x4 : (List ((List UInt8) × Int))) (v6x5 : Int) (v6x6 : (List ((List UInt8) × Int))) :
    roundK 1 (fun st k => evL Kx l4bent_C l4bent_O 1 (l4bent_L N) l4bent_b6 st k) (l4bent_h6 wv6x0 wv6x1 wv6x2 wv6x3 wv6x4 wv6x5 wv6x6).env again (l4bent_h6 v6x0 v6x1 v6x2 v6x3 v6x4 v6x5 v6x6) (outK l4bent_O 1 l4bent_b6 k) = l4bent_T6 v6x0 v6x1 v6x2 v6x3 v6x4 v6x5 v6x6 (fun v6x0 v6x1 v6x2 v6x3 v6x4 v6x5 v6x6 => again (l4bent_h6 v6x0 v6x1 v6x2 v6x3 v6x4 v6x5 v6x6)) (fun x6x0x0 x6x0x1 x6x0x2 x6x0x3 x6x0x4 x6x0x5 x6x0x6 => k (Ex.exit (1 : Nat)) (l4bent_x6e0 x6x0x0 x6x0x1 x6x0x2 x6x0x3 x6x0x4 x6x0x5 x6x0x6)) := by kernel_rfl
theorem l4bent_loop6 (N : Nat) (k : Ex → St → Option Rs) (wv6x0 : (List Int)) (wv6x1 : Int) (wv6x2 : Int) (wv6x3 : Int) (wv6x4 : (List ((List UInt8) × Int))) (wv6x5 : Int) (wv6x6 : (List ((List UInt8) × Int))) : ∀ (n : Nat) (v6x0 : (List Int)) (v6x1 : Int) (v6x2 : Int) (v6x3 : Int) (v6x4 : (List ((List UInt8) × Int))) (v6x5 : Int) (v6x6 : (List ((List UInt8) × Int))),
    loopK 1 (fun st k => evL Kx l4bent_C l4bent_O 1 (l4bent_L N) l4bent_b6 st k) (l4bent_h6 wv6x0 wv6x1 wv6x2 wv6x3 wv6x4 wv6x5 wv6x6).env n (l4bent_h6 v6x0 v6x1 v6x2 v6x3 v6x4 v6x5 v6x6) (outK l4bent_O 1 l4bent_b6 k) = l4bent_F6 n v6x0 v6x1 v6x2 v6x3 v6x4 v6x5 v6x6 (fun x6x0x0 x6x0x1 x6x0x2 x6x0x3 x6x0x4 x6x0x5 x6x0x6 => k (Ex.exit (1 : Nat)) (l4bent_x6e0 x6x0x0 x6x0x1 x6x0x2 x6x0x3 x6x0x4 x6x0x5 x6x0x6))
  | 0, _, _, _, _, _, _, _ => rfl
  | n + 1, v6x0, v6x1, v6x2, v6x3, v6x4, v6x5, v6x6 => by
    rw [loopK_succ, l4bent_round6]
    simp only [l4bent_loop6 N k wv6x0 wv6x1 wv6x2 wv6x3 wv6x4 wv6x5 wv6x6 n]
    rfl
theorem l4bent_at6 (N : Nat) {s : St} {k : Ex → St → Option Rs} {r : Rs} (h : l4bent_L6 N s k = some r) : ∃ (v6x0 : (List Int)) (v6x1 : Int) (v6x2 : Int) (v6x3 : Int) (v6x4 : (List ((List UInt8) × Int))) (v6x5 : Int) (v6x6 : (List ((List UInt8) × Int))), s = (l4bent_h6 v6x0 v6x1 v6x2 v6x3 v6x4 v6x5 v6x6) ∧ l4bent_F6 N v6x0 v6x1 v6x2 v6x3 v6x4 v6x5 v6x6 (fun x6x0x0 x6x0x1 x6x0x2 x6x0x3 x6x0x4 x6x0x5 x6x0x6 => k (Ex.exit (1 : Nat)) (l4bent_x6e0 x6x0x0 x6x0x1 x6x0x2 x6x0x3 x6x0x4 x6x0x5 x6x0x6)) = some r := by
  cases s with | mk env objs =>
  unfold l4bent_L6 at h
  split at h
  · rename_i e1 e2
    have e3 := takeF_slots _ _ _ _ e1
    simp only at e2 e3
    subst e2 e3
    exact ⟨_, _, _, _, _, _, _, rfl, h⟩
  · cases h
theorem l4bent_in6 : loops l4bent_b6 = [] := by kernel_rfl
theorem l4bent_lid6 : lid l4bent_b6 = 6 := by kernel_rfl
theorem l4bent_ok6 (N : Nat) : OkL Kx l4bent_C l4bent_O 1 N (l4bent_L N) l4bent_b6 := by
  intro s k k' r hk h
  rw [l4bent_lid6] at h
  obtain ⟨v6x0, v6x1, v6x2, v6x3, v6x4, v6x5, v6x6, rfl, h⟩ := l4bent_at6 N h
  refine loopL (Λ := l4bent_L N) l4bent_b6 ?_ N hk ((l4bent_loop6 N k v6x0 v6x1 v6x2 v6x3 v6x4 v6x5 v6x6 N v6x0 v6x1 v6x2 v6x3 v6x4 v6x5 v6x6).trans h)
  rw [l4bent_in6]
  exact fun _ h => nomatch h
def l4bent_run (N : Nat) (code : List Int) (i h : Int) : Option Rs := (bif (okC code i) then (bif (okC code (dI code i h)) then (bif (!(decide ((belV (6 : Int) code (dI code i h) (dH code i h)) = (0 : Int)))) then (some ((AV.agg ((AV.ref (1 : Nat) (0 : Nat)) :: ((AV.int .i64 (dC code i h)) :: ([] : (List (AV)))))), ((Ob.var ((AV.sh (Ty.int .u8) code) :: ((AV.int .i64 (belI (6 : Int) code (dI code i h))) :: ((AV.int .i64 (belH (6 : Int) (dH code i h))) :: ([] : (List (AV))))))) :: ((Ob.arr (Ty.pair Ty.str (Ty.int .i64)) (0 : Nat) false (dL code i h)) :: ([] : (List (Ob))))))) else (bif (okC code (belI (6 : Int) code (dI code i h))) then (bif (okC code (belI ((List.length (dL code i h)) : Int) code (belI (6 : Int) code (dI code i h)))) then (bif (decide ((belV (5 : Int) code (belI ((List.length (dL code i h)) : Int) code (belI (6 : Int) code (dI code i h))) (belH ((List.length (dL code i h)) : Int) (belH (6 : Int) (dH code i h)))) = (0 : Int))) then (bif (!(okStore (dL code i h) (dC code i h))) then (bif (!(okStore (dL code i h) (dC code i h))) then (bif ((okC code (belI (5 : Int) code (belI ((List.length (dL code i h)) : Int) code (belI (6 : Int) code (dI code i h))))) && true) then (some ((AV.agg ((AV.ref (1 : Nat) (0 : Nat)) :: ((AV.int .i64 (List.getD (List.set (List.set (List.set (List.set (List.replicate (4 : Nat) (0 : Int)) (0 : Nat) (-(1 : Int))) (1 : Nat) (60001 : Int)) (2 : Nat) (-(1 : Int))) (3 : Nat) (-(2 : Int))) (Int.toNat (belV (4 : Int) code (belI (5 : Int) code (belI ((List.length (dL code i h)) : Int) code (belI (6 : Int) code (dI code i h)))) (belH (5 : Int) (belH ((List.length (dL code i h)) : Int) (belH (6 : Int) (dH code i h)))))) (0 : Int))) :: ([] : (List (AV)))))), ((Ob.var ((AV.sh (Ty.int .u8) code) :: ((AV.int .i64 (belI (4 : Int) code (belI (5 : Int) code (belI ((List.length (dL code i h)) : Int) code (belI (6 : Int) code (dI code i h)))))) :: ((AV.int .i64 (belH (4 : Int) (belH (5 : Int) (belH ((List.length (dL code i h)) : Int) (belH (6 : Int) (dH code i h)))))) :: ([] : (List (AV))))))) :: ((Ob.arr (Ty.pair Ty.str (Ty.int .i64)) (0 : Nat) false (dL code i h)) :: ([] : (List (Ob))))))) else (none)) else (bif ((okC code (belI (5 : Int) code (belI ((List.length (dL code i h)) : Int) code (belI (6 : Int) code (dI code i h))))) && (decide ((0 : Nat) < (List.length (List.set (List.set (List.set (List.set (List.replicate (4 : Nat) (0 : Int)) (0 : Nat) (-(1 : Int))) (1 : Nat) (60001 : Int)) (2 : Nat) (-(1 : Int))) (3 : Nat) (wrap64 (((List.length (bif (okStore (dL code i h) (dC code i h)) then (allB (dL code i h)) else ([] : (List UInt8)))) : Int) - (1 : Int)))))))) then (some ((AV.agg ((AV.ref (1 : Nat) (0 : Nat)) :: ((AV.int .i64 (List.getD (List.set (List.set (List.set (List.set (List.replicate (4 : Nat) (0 : Int)) (0 : Nat) (-(1 : Int))) (1 : Nat) (60001 : Int)) (2 : Nat) (-(1 : Int))) (3 : Nat) (wrap64 (((List.length (bif (okStore (dL code i h) (dC code i h)) then (allB (dL code i h)) else ([] : (List UInt8)))) : Int) - (1 : Int)))) (Int.toNat (belV ((List.length (List.set (List.set (List.set (List.set (List.replicate (4 : Nat) (0 : Int)) (0 : Nat) (-(1 : Int))) (1 : Nat) (60001 : Int)) (2 : Nat) (-(1 : Int))) (3 : Nat) (wrap64 (((List.length (bif (okStore (dL code i h) (dC code i h)) then (allB (dL code i h)) else ([] : (List UInt8)))) : Int) - (1 : Int))))) : Int) code (belI (5 : Int) code (belI ((List.length (dL code i h)) : Int) code (belI (6 : Int) code (dI code i h)))) (belH (5 : Int) (belH ((List.length (dL code i h)) : Int) (belH (6 : Int) (dH code i h)))))) (0 : Int))) :: ([] : (List (AV)))))), ((Ob.var ((AV.sh (Ty.int .u8) code) :: ((AV.int .i64 (belI ((List.length (List.set (List.set (List.set (List.set (List.replicate (4 : Nat) (0 : Int)) (0 : Nat) (-(1 : Int))) (1 : Nat) (60001 : Int)) (2 : Nat) (-(1 : Int))) (3 : Nat) (wrap64 (((List.length (bif (okStore (dL code i h) (dC code i h)) then (allB (dL code i h)) else ([] : (List UInt8)))) : Int) - (1 : Int))))) : Int) code (belI (5 : Int) code (belI ((List.length (dL code i h)) : Int) code (belI (6 : Int) code (dI code i h)))))) :: ((AV.int .i64 (belH ((List.length (List.set (List.set (List.set (List.set (List.replicate (4 : Nat) (0 : Int)) (0 : Nat) (-(1 : Int))) (1 : Nat) (60001 : Int)) (2 : Nat) (-(1 : Int))) (3 : Nat) (wrap64 (((List.length (bif (okStore (dL code i h) (dC code i h)) then (allB (dL code i h)) else ([] : (List UInt8)))) : Int) - (1 : Int))))) : Int) (belH (5 : Int) (belH ((List.length (dL code i h)) : Int) (belH (6 : Int) (dH code i h)))))) :: ([] : (List (AV))))))) :: ((Ob.arr (Ty.pair Ty.str (Ty.int .i64)) (0 : Nat) false (dL code i h)) :: ([] : (List (Ob))))))) else (none))) else (bif (!(okStore (dL code i h) (dC code i h))) then (bif ((okC code (belI (5 : Int) code (belI ((List.length (dL code i h)) : Int) code (belI (6 : Int) code (dI code i h))))) && (decide ((0 : Nat) < (List.length (List.set (List.set (List.set (List.set (List.replicate (4 : Nat) (0 : Int)) (0 : Nat) (-(1 : Int))) (1 : Nat) (60001 : Int)) (2 : Nat) ((List.length (bif (okStore (dL code i h) (dC code i h)) then (allB (dL code i h)) else ([] : (List UInt8)))) : Int)) (3 : Nat) (-(2 : Int))))))) then (some ((AV.agg ((AV.ref (1 : Nat) (0 : Nat)) :: ((AV.int .i64 (List.getD (List.set (List.set (List.set (List.set (List.replicate (4 : Nat) (0 : Int)) (0 : Nat) (-(1 : Int))) (1 : Nat) (60001 : Int)) (2 : Nat) ((List.length (bif (okStore (dL code i h) (dC code i h)) then (allB (dL code i h)) else ([] : (List UInt8)))) : Int)) (3 : Nat) (-(2 : Int))) (Int.toNat (belV ((List.length (List.set (List.set (List.set (List.set (List.replicate (4 : Nat) (0 : Int)) (0 : Nat) (-(1 : Int))) (1 : Nat) (60001 : Int)) (2 : Nat) ((List.length (bif (okStore (dL code i h) (dC code i h)) then (allB (dL code i h)) else ([] : (List UInt8)))) : Int)) (3 : Nat) (-(2 : Int)))) : Int) code (belI (5 : Int) code (belI ((List.length (dL code i h)) : Int) code (belI (6 : Int) code (dI code i h)))) (belH (5 : Int) (belH ((List.length (dL code i h)) : Int) (belH (6 : Int) (dH code i h)))))) (0 : Int))) :: ([] : (List (AV)))))), ((Ob.var ((AV.sh (Ty.int .u8) code) :: ((AV.int .i64 (belI ((List.length (List.set (List.set (List.set (List.set (List.replicate (4 : Nat) (0 : Int)) (0 : Nat) (-(1 : Int))) (1 : Nat) (60001 : Int)) (2 : Nat) ((List.length (bif (okStore (dL code i h) (dC code i h)) then (allB (dL code i h)) else ([] : (List UInt8)))) : Int)) (3 : Nat) (-(2 : Int)))) : Int) code (belI (5 : Int) code (belI ((List.length (dL code i h)) : Int) code (belI (6 : Int) code (dI code i h)))))) :: ((AV.int .i64 (belH ((List.length (List.set (List.set (List.set (List.set (List.replicate (4 : Nat) (0 : Int)) (0 : Nat) (-(1 : Int))) (1 : Nat) (60001 : Int)) (2 : Nat) ((List.length (bif (okStore (dL code i h) (dC code i h)) then (allB (dL code i h)) else ([] : (List UInt8)))) : Int)) (3 : Nat) (-(2 : Int)))) : Int) (belH (5 : Int) (belH ((List.length (dL code i h)) : Int) (belH (6 : Int) (dH code i h)))))) :: ([] : (List (AV))))))) :: ((Ob.arr (Ty.pair Ty.str (Ty.int .i64)) (0 : Nat) false (dL code i h)) :: ([] : (List (Ob))))))) else (none)) else (bif ((okC code (belI (5 : Int) code (belI ((List.length (dL code i h)) : Int) code (belI (6 : Int) code (dI code i h))))) && (decide ((0 : Nat) < (List.length (List.set (List.set (List.set (List.set (List.replicate (4 : Nat) (0 : Int)) (0 : Nat) (-(1 : Int))) (1 : Nat) (60001 : Int)) (2 : Nat) ((List.length (bif (okStore (dL code i h) (dC code i h)) then (allB (dL code i h)) else ([] : (List UInt8)))) : Int)) (3 : Nat) (wrap64 (((List.length (bif (okStore (dL code i h) (dC code i h)) then (allB (dL code i h)) else ([] : (List UInt8)))) : Int) - (1 : Int)))))))) then (some ((AV.agg ((AV.ref (1 : Nat) (0 : Nat)) :: ((AV.int .i64 (List.getD (List.set (List.set (List.set (List.set (List.replicate (4 : Nat) (0 : Int)) (0 : Nat) (-(1 : Int))) (1 : Nat) (60001 : Int)) (2 : Nat) ((List.length (bif (okStore (dL code i h) (dC code i h)) then (allB (dL code i h)) else ([] : (List UInt8)))) : Int)) (3 : Nat) (wrap64 (((List.length (bif (okStore (dL code i h) (dC code i h)) then (allB (dL code i h)) else ([] : (List UInt8)))) : Int) - (1 : Int)))) (Int.toNat (belV ((List.length (List.set (List.set (List.set (List.set (List.replicate (4 : Nat) (0 : Int)) (0 : Nat) (-(1 : Int))) (1 : Nat) (60001 : Int)) (2 : Nat) ((List.length (bif (okStore (dL code i h) (dC code i h)) then (allB (dL code i h)) else ([] : (List UInt8)))) : Int)) (3 : Nat) (wrap64 (((List.length (bif (okStore (dL code i h) (dC code i h)) then (allB (dL code i h)) else ([] : (List UInt8)))) : Int) - (1 : Int))))) : Int) code (belI (5 : Int) code (belI ((List.length (dL code i h)) : Int) code (belI (6 : Int) code (dI code i h)))) (belH (5 : Int) (belH ((List.length (dL code i h)) : Int) (belH (6 : Int) (dH code i h)))))) (0 : Int))) :: ([] : (List (AV)))))), ((Ob.var ((AV.sh (Ty.int .u8) code) :: ((AV.int .i64 (belI ((List.length (List.set (List.set (List.set (List.set (List.replicate (4 : Nat) (0 : Int)) (0 : Nat) (-(1 : Int))) (1 : Nat) (60001 : Int)) (2 : Nat) ((List.length (bif (okStore (dL code i h) (dC code i h)) then (allB (dL code i h)) else ([] : (List UInt8)))) : Int)) (3 : Nat) (wrap64 (((List.length (bif (okStore (dL code i h) (dC code i h)) then (allB (dL code i h)) else ([] : (List UInt8)))) : Int) - (1 : Int))))) : Int) code (belI (5 : Int) code (belI ((List.length (dL code i h)) : Int) code (belI (6 : Int) code (dI code i h)))))) :: ((AV.int .i64 (belH ((List.length (List.set (List.set (List.set (List.set (List.replicate (4 : Nat) (0 : Int)) (0 : Nat) (-(1 : Int))) (1 : Nat) (60001 : Int)) (2 : Nat) ((List.length (bif (okStore (dL code i h) (dC code i h)) then (allB (dL code i h)) else ([] : (List UInt8)))) : Int)) (3 : Nat) (wrap64 (((List.length (bif (okStore (dL code i h) (dC code i h)) then (allB (dL code i h)) else ([] : (List UInt8)))) : Int) - (1 : Int))))) : Int) (belH (5 : Int) (belH ((List.length (dL code i h)) : Int) (belH (6 : Int) (dH code i h)))))) :: ([] : (List (AV))))))) :: ((Ob.arr (Ty.pair Ty.str (Ty.int .i64)) (0 : Nat) false (dL code i h)) :: ([] : (List (Ob))))))) else (none)))) else (bif (decide ((belV (5 : Int) code (belI ((List.length (dL code i h)) : Int) code (belI (6 : Int) code (dI code i h))) (belH ((List.length (dL code i h)) : Int) (belH (6 : Int) (dH code i h)))) = (1 : Int))) then (bif (decide ((0 : Int) ≤ (belV ((List.length (dL code i h)) : Int) code (belI (6 : Int) code (dI code i h)) (belH (6 : Int) (dH code i h))))) then (bif (decide ((belV ((List.length (dL code i h)) : Int) code (belI (6 : Int) code (dI code i h)) (belH (6 : Int) (dH code i h))) < ((List.length (dL code i h)) : Int))) then (bif ((okC code (belI (5 : Int) code (belI ((List.length (dL code i h)) : Int) code (belI (6 : Int) code (dI code i h))))) && (decide ((0 : Nat) < (List.length (List.set (List.set (List.set (List.replicate (3 : Nat) (0 : Int)) (0 : Nat) (-(1 : Int))) (1 : Nat) (wrap64 (((List.length (List.getD (dL code i h) (Int.toNat (belV ((List.length (dL code i h)) : Int) code (belI (6 : Int) code (dI code i h)) (belH (6 : Int) (dH code i h)))) (([] : (List UInt8)), (0 : Int))).1) : Int) + (1 : Int)))) (2 : Nat) (0 : Int)))))) then (bif (decide ((0 : Int) ≤ (belV ((List.length (dL code i h)) : Int) code (belI (6 : Int) code (dI code i h)) (belH (6 : Int) (dH code i h))))) then (bif (decide ((belV ((List.length (dL code i h)) : Int) code (belI (6 : Int) code (dI code i h)) (belH (6 : Int) (dH code i h))) < ((List.length (dL code i h)) : Int))) then (some ((AV.agg ((AV.ref (1 : Nat) (0 : Nat)) :: ((AV.int .i64 (dC code i h)) :: ([] : (List (AV)))))), ((Ob.var ((AV.sh (Ty.int .u8) code) :: ((AV.int .i64 (belI ((List.length (List.set (List.set (List.set (List.replicate (3 : Nat) (0 : Int)) (0 : Nat) (-(1 : Int))) (1 : Nat) (wrap64 (((List.length (List.getD (dL code i h) (Int.toNat (belV ((List.length (dL code i h)) : Int) code (belI (6 : Int) code (dI code i h)) (belH (6 : Int) (dH code i h)))) (([] : (List UInt8)), (0 : Int))).1) : Int) + (1 : Int)))) (2 : Nat) (0 : Int))) : Int) code (belI (5 : Int) code (belI ((List.length (dL code i h)) : Int) code (belI (6 : Int) code (dI code i h)))))) :: ((AV.int .i64 (belH ((List.length (List.set (List.set (List.set (List.replicate (3 : Nat) (0 : Int)) (0 : Nat) (-(1 : Int))) (1 : Nat) (wrap64 (((List.length (List.getD (dL code i h) (Int.toNat (belV ((List.length (dL code i h)) : Int) code (belI (6 : Int) code (dI code i h)) (belH (6 : Int) (dH code i h)))) (([] : (List UInt8)), (0 : Int))).1) : Int) + (1 : Int)))) (2 : Nat) (0 : Int))) : Int) (belH (5 : Int) (belH ((List.length (dL code i h)) : Int) (belH (6 : Int) (dH code i h)))))) :: ([] : (List (AV))))))) :: ((Ob.arr (Ty.pair Ty.str (Ty.int .i64)) (0 : Nat) false (List.set (dL code i h) (Int.toNat (belV ((List.length (dL code i h)) : Int) code (belI (6 : Int) code (dI code i h)) (belH (6 : Int) (dH code i h)))) ((List.getD (dL code i h) (Int.toNat (belV ((List.length (dL code i h)) : Int) code (belI (6 : Int) code (dI code i h)) (belH (6 : Int) (dH code i h)))) (([] : (List UInt8)), (0 : Int))).1, (List.getD (List.set (List.set (List.set (List.replicate (3 : Nat) (0 : Int)) (0 : Nat) (-(1 : Int))) (1 : Nat) (wrap64 (((List.length (List.getD (dL code i h) (Int.toNat (belV ((List.length (dL code i h)) : Int) code (belI (6 : Int) code (dI code i h)) (belH (6 : Int) (dH code i h)))) (([] : (List UInt8)), (0 : Int))).1) : Int) + (1 : Int)))) (2 : Nat) (0 : Int)) (Int.toNat (belV ((List.length (List.set (List.set (List.set (List.replicate (3 : Nat) (0 : Int)) (0 : Nat) (-(1 : Int))) (1 : Nat) (wrap64 (((List.length (List.getD (dL code i h) (Int.toNat (belV ((List.length (dL code i h)) : Int) code (belI (6 : Int) code (dI code i h)) (belH (6 : Int) (dH code i h)))) (([] : (List UInt8)), (0 : Int))).1) : Int) + (1 : Int)))) (2 : Nat) (0 : Int))) : Int) code (belI (5 : Int) code (belI ((List.length (dL code i h)) : Int) code (belI (6 : Int) code (dI code i h)))) (belH (5 : Int) (belH ((List.length (dL code i h)) : Int) (belH (6 : Int) (dH code i h)))))) (0 : Int))))) :: ([] : (List (Ob))))))) else (none)) else (none)) else (none)) else (none)) else (none)) else (bif (decide ((belV (5 : Int) code (belI ((List.length (dL code i h)) : Int) code (belI (6 : Int) code (dI code i h))) (belH ((List.length (dL code i h)) : Int) (belH (6 : Int) (dH code i h)))) = (2 : Int))) then (bif (decide ((0 : Int) ≤ (belV ((List.length (dL code i h)) : Int) code (belI (6 : Int) code (dI code i h)) (belH (6 : Int) (dH code i h))))) then (bif (decide ((belV ((List.length (dL code i h)) : Int) code (belI (6 : Int) code (dI code i h)) (belH (6 : Int) (dH code i h))) < ((List.length (dL code i h)) : Int))) then (some ((AV.agg ((AV.ref (1 : Nat) (0 : Nat)) :: ((AV.int .i64 (dC code i h)) :: ([] : (List (AV)))))), ((Ob.var ((AV.sh (Ty.int .u8) code) :: ((AV.int .i64 (belI (5 : Int) code (belI ((List.length (dL code i h)) : Int) code (belI (6 : Int) code (dI code i h))))) :: ((AV.int .i64 (belH (5 : Int) (belH ((List.length (dL code i h)) : Int) (belH (6 : Int) (dH code i h))))) :: ([] : (List (AV))))))) :: ((Ob.arr (Ty.pair Ty.str (Ty.int .i64)) (0 : Nat) false (List.set (dL code i h) (Int.toNat (belV ((List.length (dL code i h)) : Int) code (belI (6 : Int) code (dI code i h)) (belH (6 : Int) (dH code i h)))) (([] : (List UInt8)), (0 : Int)))) :: ([] : (List (Ob))))))) else (none)) else (none)) else (bif (decide ((belV (5 : Int) code (belI ((List.length (dL code i h)) : Int) code (belI (6 : Int) code (dI code i h))) (belH ((List.length (dL code i h)) : Int) (belH (6 : Int) (dH code i h)))) = (3 : Int))) then (some ((AV.agg ((AV.ref (List.length ((Ob.var ((AV.sh (Ty.int .u8) code) :: ((AV.int .i64 (belI (5 : Int) code (belI ((List.length (dL code i h)) : Int) code (belI (6 : Int) code (dI code i h))))) :: ((AV.int .i64 (belH (5 : Int) (belH ((List.length (dL code i h)) : Int) (belH (6 : Int) (dH code i h))))) :: ([] : (List (AV))))))) :: ([] : (List (Ob))))) (0 : Nat)) :: ((AV.int .i64 (dC code i h)) :: ([] : (List (AV)))))), ((Ob.var ((AV.sh (Ty.int .u8) code) :: ((AV.int .i64 (belI (5 : Int) code (belI ((List.length (dL code i h)) : Int) code (belI (6 : Int) code (dI code i h))))) :: ((AV.int .i64 (belH (5 : Int) (belH ((List.length (dL code i h)) : Int) (belH (6 : Int) (dH code i h))))) :: ([] : (List (AV))))))) :: ((Ob.arr (Ty.pair Ty.str (Ty.int .i64)) (0 : Nat) false ([] : (List ((List UInt8) × Int)))) :: ([] : (List (Ob))))))) else (l4bent_F6 N code (belI (5 : Int) code (belI ((List.length (dL code i h)) : Int) code (belI (6 : Int) code (dI code i h)))) (belH (5 : Int) (belH ((List.length (dL code i h)) : Int) (belH (6 : Int) (dH code i h)))) (0 : Int) ([] : (List ((List UInt8) × Int))) (dC code i h) (dL code i h) (fun x6x0x0 => (fun x6x0x1 => (fun x6x0x2 => (fun x6x0x3 => (fun x6x0x4 => (fun x6x0x5 => (fun x6x0x6 => (some ((AV.agg ((AV.ref (1 : Nat) (0 : Nat)) :: ((AV.int .i64 (60000 : Int)) :: ([] : (List (AV)))))), ((Ob.var ((AV.sh (Ty.int .u8) x6x0x0) :: ((AV.int .i64 x6x0x1) :: ((AV.int .i64 x6x0x2) :: ([] : (List (AV))))))) :: ((Ob.arr (Ty.pair Ty.str (Ty.int .i64)) (0 : Nat) false x6x0x6) :: ([] : (List (Ob))))))))))))))))))) else (none)) else (none))) else (none)) else (none))
theorem l4bent_runL (N : Nat) (code : List Int) (i h : Int) : runL Kx l4bent_C l4bent_O (l4bent_L N) Try.f22 ([.ptr 0 0]) ([.var [.sh (.int .u8) code, .int .i64 i, .int .i64 h]]) = l4bent_run N code i h := by kernel_rfl
theorem l4bent_body : Try.f22.body = some (codeOf Try.f22) := by kernel_rfl
theorem l4bent_loops : loops (codeOf Try.f22) = [l4bent_b6] := by kernel_rfl
theorem l4bent_ev (N : Nat) (code : List Int) (i h : Int) {res_ : Rs} (hyp_ : l4bent_run N code i h = some res_) : ∃ n_, runF Kx l4bent_C l4bent_O n_ Try.f22 ([.ptr 0 0]) ([.var [.sh (.int .u8) code, .int .i64 i, .int .i64 h]]) = some res_ :=
  ⟨N, runL_runF l4bent_body (by rw [l4bent_loops]; exact List.forall_mem_cons.2 ⟨l4bent_ok6 N, fun _ h => nomatch h⟩) ((l4bent_runL N code i h).trans hyp_)⟩
def l4bent_sOf (φ : (List Int) → Int → Int → Br) : List AV → List Ob → Br
  | [.ptr 0 0], [.var [.sh (.int .u8) code, .int .i64 i, .int .i64 h]] => φ code i h
  | _, _ => .fail
theorem l4bent_okOf {φ : (List Int) → Int → Int → Br} (fu : (List Int) → Int → Int → Nat) (hv : ∀ code i h res_, (φ code i h).val = some res_ → l4bent_run (fu code i h) code i h = some res_) : Sound Kx 22 (l4bent_sOf φ) := by
  refine sound_run (C := l4bent_C) (O := l4bent_O) KOk l4bent_C_ok Try.func22 (by kernel_rfl) fun args objs res os h => ?_
  unfold l4bent_sOf at h
  split at h
  · exact l4bent_ev _ _ _ _ (hv _ _ _ _ h)
  · cases h

end
end Go.Proofs.Ytmigffdeghfbhaa.Ev

namespace Go.Proofs.Ytmigffdeghfbhaa.Ev
open Go Go.RowKit
set_option linter.unusedVariables false
set_option linter.unusedSimpArgs false

theorem l4bent_loop (code : List Int) (x3 : Int) (x4 : Segs) (x5 : Int) (K : List Int → Int → Int → Int → Segs → Int → Segs → Option Rs) : ∀ (N : Nat) (i h : Int) (l : Segs), 42 - l.length < N → okC code i = true → good l →
    ∃ i' h' l', okC code i' = true ∧ good l' ∧ l4bent_F6 N code i h x3 x4 x5 l K = K code i' h' x3 x4 x5 l'
  | 0, i, h, l, hN, hc, hg => by omega
  | N + 1, i, h, l, hN, hc, hg => by
    have hb := belV_in 2 code i h
    have hb2 := hb.2 (by omega)
    have e1 : wrap64 (40 + belV 2 code i h) = 40 + belV 2 code i h := w64 (by omega) (by omega)
    have c1 := okC_bel (n := 2) hc
    unfold l4bent_F6 l4bent_T6
    simp only [hc, e1, cond_true]
    by_cases h1 : (l.length : Int) < 40 + belV 2 code i h
    · have e2 : decide ((1 + l.length) * 24 ≤ 140737488355328) = true := by rw [decide_eq_true_eq]; omega
      simp only [h1, e2, decide_true, cond_true]
      have e3 : List.set (List.replicate 1 (([] : List UInt8), (0 : Int))) 0 ([120], 1) ++ l = ([120], 1) :: l := rfl
      rw [e3]
      refine l4bent_loop code x3 x4 x5 K N _ _ _ (by simp only [List.length_cons]; omega) c1 ⟨by simp only [List.length_cons]; omega, fun x hx => ?_⟩
      rcases List.mem_cons.1 hx with rfl | hx
      · simp
      · exact hg.2 x hx
    · simp only [h1, decide_false, cond_false]
      exact ⟨_, _, l, c1, hg, rfl⟩
theorem good_set {l : Segs} (h : good l) (k : Nat) (a : List UInt8 × Int) (ha : a.1.length ≤ 100000) : good (l.set k a) := by
  refine ⟨by rw [List.length_set]; exact h.1, fun x hx => ?_⟩
  rcases List.mem_or_eq_of_mem_set hx with hx | rfl
  · exact h.2 x hx
  · exact ha
theorem good_getD {l : Segs} (h : good l) (k : Nat) : (l.getD k ([], 0)).1.length ≤ 100000 := by
  rw [List.getD_eq_getElem?_getD]
  cases hk : l[k]? with
  | none => simp
  | some a => exact h.2 a (List.mem_of_getElem? hk)
theorem l4bent_ex (code : List Int) (i h : Int) (hc : okC code i = true) : ∃ i' h' c' l', okC code i' = true ∧ good l' ∧ l4bent_run 100 code i h = some (drawR code i' h' c' l') := by
  obtain ⟨d1, d2, _⟩ := draw_spec hc (h := h)
  unfold l4bent_run
  generalize dI code i h = i1 at *
  generalize dH code i h = h1 at *
  generalize dC code i h = c1 at *
  generalize dL code i h = l1 at *
  have hg := ok_good d2
  have hl : 1 ≤ l1.length := by
    unfold okStore at d2
    simp only [Bool.and_eq_true, decide_eq_true_eq] at d2
    exact d2.1.1.2
  have B := belV_in (l1.length : Int) code (belI 6 code i1) (belH 6 h1)
  have B2 := B.2 (by omega)
  have g1 : decide (0 ≤ belV (l1.length : Int) code (belI 6 code i1) (belH 6 h1)) = true := by rw [decide_eq_true_eq]; exact B.1
  have g2 : decide (belV (l1.length : Int) code (belI 6 code i1) (belH 6 h1) < (l1.length : Int)) = true := by rw [decide_eq_true_eq]; exact B2
  have k1 := okC_bel (n := 6) d1
  have k2 := okC_bel (n := (l1.length : Int)) k1
  have k3 := okC_bel (n := 5) k2
  simp only [hc, d1, d2, g1, g2, k1, k2, k3, cond_true, cond_false, Bool.not_true, Bool.true_and, Bool.and_true, List.length_set, List.length_replicate, (by decide : decide (0 < 4) = true), (by decide : decide (0 < 3) = true)]
  refine bif_ex (P := fun z => ∃ i' h' c' l', okC code i' = true ∧ good l' ∧ z = some (drawR code i' h' c' l')) (fun _ => ⟨_, _, _, _, k1, hg, rfl⟩) (fun _ => ?_)
  refine bif_ex (P := fun z => ∃ i' h' c' l', okC code i' = true ∧ good l' ∧ z = some (drawR code i' h' c' l')) (fun _ => ?_) (fun _ => ?_)
  · exact ⟨_, _, _, _, okC_bel k3, hg, rfl⟩
  refine bif_ex (P := fun z => ∃ i' h' c' l', okC code i' = true ∧ good l' ∧ z = some (drawR code i' h' c' l')) (fun _ => ?_) (fun _ => ?_)
  · refine ⟨_, _, _, _, okC_bel k3, ?_, rfl⟩
    exact good_set hg _ _ (good_getD hg _)
  refine bif_ex (P := fun z => ∃ i' h' c' l', okC code i' = true ∧ good l' ∧ z = some (drawR code i' h' c' l')) (fun _ => ?_) (fun _ => ?_)
  · exact ⟨_, _, _, _, k3, good_set hg _ _ (by simp), rfl⟩
  refine bif_ex (P := fun z => ∃ i' h' c' l', okC code i' = true ∧ good l' ∧ z = some (drawR code i' h' c' l')) (fun _ => ?_) (fun _ => ?_)
  · exact ⟨_, _, _, _, k3, good_nil, rfl⟩
  obtain ⟨i', h', l', q1, q2, q3⟩ := l4bent_loop code 0 [] c1 (fun x0 x1 x2 x3 x4 x5 x6 => some (AV.agg [.ref 1 0, .int .i64 60000], [.var [.sh (.int .u8) x0, .int .i64 x1, .int .i64 x2], .arr (.pair .str (.int .i64)) 0 false x6])) 100 _ (belH 5 (belH (l1.length : Int) (belH 6 h1))) l1 (by omega) k3 hg
  exact ⟨i', h', 60000, l', q1, q2, q3⟩

open Classical in
noncomputable def bI (code : List Int) (i h : Int) : Int := if hc : okC code i = true then (l4bent_ex code i h hc).choose else 0
open Classical in
noncomputable def bH (code : List Int) (i h : Int) : Int := if hc : okC code i = true then (l4bent_ex code i h hc).choose_spec.choose else 0
open Classical in
noncomputable def bC (code : List Int) (i h : Int) : Int := if hc : okC code i = true then (l4bent_ex code i h hc).choose_spec.choose_spec.choose else 0
open Classical in
noncomputable def bL (code : List Int) (i h : Int) : Segs := if hc : okC code i = true then (l4bent_ex code i h hc).choose_spec.choose_spec.choose_spec.choose else []
theorem bent_spec {code : List Int} {i h : Int} (hc : okC code i = true) : okC code (bI code i h) = true ∧ good (bL code i h) ∧ l4bent_run 100 code i h = some (drawR code (bI code i h) (bH code i h) (bC code i h) (bL code i h)) := by
  unfold bI bH bC bL
  simp only [hc, dif_pos]
  exact (l4bent_ex code i h hc).choose_spec.choose_spec.choose_spec.choose_spec
noncomputable def l4bent_br (code : List Int) (i h : Int) : Br := .ite (okC code i) (.ret (.agg [.ref 1 0, .int .i64 (bC code i h)]) [.var [.sh (.int .u8) code, .int .i64 (bI code i h), .int .i64 (bH code i h)], .arr (.pair .str (.int .i64)) 0 false (bL code i h)]) .fail
noncomputable def l4bent_s := l4bent_sOf l4bent_br
theorem l4bent_ok : Sound Kx 22 l4bent_s := by
  refine l4bent_okOf (fun _ _ _ => 100) fun code i h r hv => ?_
  unfold l4bent_br at hv
  obtain ⟨h1, h2⟩ := ite_some hv
  rw [← h2]
  exact (bent_spec h1).2.2

end Go.Proofs.Ytmigffdeghfbhaa.Ev

namespace Go.Proofs.Ytmigffdeghfbhaa.Ev
open Go Go.RowKit
set_option linter.unusedVariables false
set_option linter.unusedSimpArgs false
noncomputable section

/-! spec.DrawAppend -/
def drAppend_O : Opt := { cons := [], keepNil := false, mutF := [], live := [], outs := [] }
def drAppend_C : Spec := (add (add (add (add (add (add noS 21 l1New_s) 22 l4bent_s) 23 belowQ_s) 34 l1Once_s) 36 sUsed_s) 44 l1of_s)
theorem drAppend_C_ok : ∀ fn, Sound Kx fn (drAppend_C fn) := (sound_add (sound_add (sound_add (sound_add (sound_add (sound_add (sound_no Kx) l1New_ok) l4bent_ok) l1Below_okQ) l1Once_ok) sUsed_ok) l1of_ok)
def drAppend_br (code : List Int) : Br := (Br.ite (decide ((List.length code) ≤ (281474976710656 : Nat))) (Br.ite (okC code (0 : Int)) (Br.ite (okC code (bI code (0 : Int) (newH code))) (Br.ite (okC code (belI (12 : Int) code (bI code (0 : Int) (newH code)))) (Br.ite (decide ((belV (3 : Int) code (belI (12 : Int) code (bI code (0 : Int) (newH code))) (belH (12 : Int) (bH code (0 : Int) (newH code)))) = (0 : Int))) (Br.ite (decide ((belV (3 : Int) code (belI (12 : Int) code (bI code (0 : Int) (newH code))) (belH (12 : Int) (bH code (0 : Int) (newH code)))) = (0 : Int))) (Br.ite (decide ((belV (3 : Int) code (belI (12 : Int) code (bI code (0 : Int) (newH code))) (belH (12 : Int) (bH code (0 : Int) (newH code)))) = (0 : Int))) (Br.ite (decide ((belV (3 : Int) code (belI (12 : Int) code (bI code (0 : Int) (newH code))) (belH (12 : Int) (bH code (0 : Int) (newH code)))) = (0 : Int))) (Br.ite (!(okStore (bL code (0 : Int) (newH code)) (bC code (0 : Int) (newH code)))) (Br.ite (decide ((belV (3 : Int) code (belI (12 : Int) code (bI code (0 : Int) (newH code))) (belH (12 : Int) (bH code (0 : Int) (newH code)))) = (0 : Int))) (Br.ite (decide ((belV (3 : Int) code (belI (12 : Int) code (bI code (0 : Int) (newH code))) (belH (12 : Int) (bH code (0 : Int) (newH code)))) = (0 : Int))) (Br.ite (decide ((belV (3 : Int) code (belI (12 : Int) code (bI code (0 : Int) (newH code))) (belH (12 : Int) (bH code (0 : Int) (newH code)))) = (0 : Int))) (Br.ite (decide ((wrap64 ((bC code (0 : Int) (newH code)) - (-(1 : Int)))) < (200 : Int))) (Br.ite (!(okStore (bL code (0 : Int) (newH code)) (bC code (0 : Int) (newH code)))) (Br.ite (okC code (belI (3 : Int) code (belI (12 : Int) code (bI code (0 : Int) (newH code))))) (Br.ite (((okC code (belI (2 : Int) code (belI (3 : Int) code (belI (12 : Int) code (bI code (0 : Int) (newH code)))))) && (decide ((wrap64 ((wrap64 ((bC code (0 : Int) (newH code)) - (-(1 : Int)))) + (belV (2 : Int) code (belI (3 : Int) code (belI (12 : Int) code (bI code (0 : Int) (newH code)))) (belH (3 : Int) (belH (12 : Int) (bH code (0 : Int) (newH code))))))) ≤ (1000000 : Int)))) && true) (Br.ret (AV.tup ((AV.agg ((AV.ref (0 : Nat) (0 : Nat)) :: ((AV.int .i64 (bC code (0 : Int) (newH code))) :: ([] : (List (AV)))))) :: ((AV.str (ofS (wrap64 ((wrap64 ((bC code (0 : Int) (newH code)) - (-(1 : Int)))) + (belV (2 : Int) code (belI (3 : Int) code (belI (12 : Int) code (bI code (0 : Int) (newH code)))) (belH (3 : Int) (belH (12 : Int) (bH code (0 : Int) (newH code))))))) ((120 : UInt8) :: ((121 : UInt8) :: ((122 : UInt8) :: ([] : (List UInt8))))) code (belI (2 : Int) code (belI (3 : Int) code (belI (12 : Int) code (bI code (0 : Int) (newH code))))) (belH (2 : Int) (belH (3 : Int) (belH (12 : Int) (bH code (0 : Int) (newH code))))))) :: ([] : (List (AV)))))) ((Ob.arr (Ty.pair Ty.str (Ty.int .i64)) (0 : Nat) false (bL code (0 : Int) (newH code))) :: ([] : (List (Ob))))) Br.fail) Br.fail) (Br.ite (okC code (belI (3 : Int) code (belI (12 : Int) code (bI code (0 : Int) (newH code))))) (Br.ite (((okC code (belI (2 : Int) code (belI (3 : Int) code (belI (12 : Int) code (bI code (0 : Int) (newH code)))))) && (decide ((wrap64 ((wrap64 ((bC code (0 : Int) (newH code)) - ((List.length (bif (okStore (bL code (0 : Int) (newH code)) (bC code (0 : Int) (newH code))) then (allB (bL code (0 : Int) (newH code))) else ([] : (List UInt8)))) : Int))) + (belV (2 : Int) code (belI (3 : Int) code (belI (12 : Int) code (bI code (0 : Int) (newH code)))) (belH (3 : Int) (belH (12 : Int) (bH code (0 : Int) (newH code))))))) ≤ (1000000 : Int)))) && true) (Br.ret (AV.tup ((AV.agg ((AV.ref (0 : Nat) (0 : Nat)) :: ((AV.int .i64 (bC code (0 : Int) (newH code))) :: ([] : (List (AV)))))) :: ((AV.str (ofS (wrap64 ((wrap64 ((bC code (0 : Int) (newH code)) - ((List.length (bif (okStore (bL code (0 : Int) (newH code)) (bC code (0 : Int) (newH code))) then (allB (bL code (0 : Int) (newH code))) else ([] : (List UInt8)))) : Int))) + (belV (2 : Int) code (belI (3 : Int) code (belI (12 : Int) code (bI code (0 : Int) (newH code)))) (belH (3 : Int) (belH (12 : Int) (bH code (0 : Int) (newH code))))))) ((120 : UInt8) :: ((121 : UInt8) :: ((122 : UInt8) :: ([] : (List UInt8))))) code (belI (2 : Int) code (belI (3 : Int) code (belI (12 : Int) code (bI code (0 : Int) (newH code))))) (belH (2 : Int) (belH (3 : Int) (belH (12 : Int) (bH code (0 : Int) (newH code))))))) :: ([] : (List (AV)))))) ((Ob.arr (Ty.pair Ty.str (Ty.int .i64)) (0 : Nat) false (bL code (0 : Int) (newH code))) :: ([] : (List (Ob))))) Br.fail) Br.fail)) (Br.ite (((okC code (belI (3 : Int) code (belI (12 : Int) code (bI code (0 : Int) (newH code))))) && (decide ((belV (12 : Int) code (bI code (0 : Int) (newH code)) (bH code (0 : Int) (newH code))) ≤ (1000000 : Int)))) && true) (Br.ret (AV.tup ((AV.agg ((AV.ref (0 : Nat) (0 : Nat)) :: ((AV.int .i64 (bC code (0 : Int) (newH code))) :: ([] : (List (AV)))))) :: ((AV.str (ofS (belV (12 : Int) code (bI code (0 : Int) (newH code)) (bH code (0 : Int) (newH code))) ((120 : UInt8) :: ((121 : UInt8) :: ((122 : UInt8) :: ([] : (List UInt8))))) code (belI (3 : Int) code (belI (12 : Int) code (bI code (0 : Int) (newH code)))) (belH (3 : Int) (belH (12 : Int) (bH code (0 : Int) (newH code)))))) :: ([] : (List (AV)))))) ((Ob.arr (Ty.pair Ty.str (Ty.int .i64)) (0 : Nat) false (bL code (0 : Int) (newH code))) :: ([] : (List (Ob))))) Br.fail)) (Br.ite (((okC code (belI (3 : Int) code (belI (12 : Int) code (bI code (0 : Int) (newH code))))) && (decide ((belV (12 : Int) code (bI code (0 : Int) (newH code)) (bH code (0 : Int) (newH code))) ≤ (1000000 : Int)))) && true) (Br.ret (AV.tup ((AV.agg ((AV.ref (0 : Nat) (0 : Nat)) :: ((AV.int .i64 (bC code (0 : Int) (newH code))) :: ([] : (List (AV)))))) :: ((AV.str (ofS (belV (12 : Int) code (bI code (0 : Int) (newH code)) (bH code (0 : Int) (newH code))) ((120 : UInt8) :: ((121 : UInt8) :: ((122 : UInt8) :: ([] : (List UInt8))))) code (belI (3 : Int) code (belI (12 : Int) code (bI code (0 : Int) (newH code)))) (belH (3 : Int) (belH (12 : Int) (bH code (0 : Int) (newH code)))))) :: ([] : (List (AV)))))) ((Ob.arr (Ty.pair Ty.str (Ty.int .i64)) (0 : Nat) false (bL code (0 : Int) (newH code))) :: ([] : (List (Ob))))) Br.fail)) (Br.ite (decide ((belV (3 : Int) code (belI (12 : Int) code (bI code (0 : Int) (newH code))) (belH (12 : Int) (bH code (0 : Int) (newH code)))) = (0 : Int))) Br.fail (Br.ite (((okC code (belI (3 : Int) code (belI (12 : Int) code (bI code (0 : Int) (newH code))))) && (decide ((belV (12 : Int) code (bI code (0 : Int) (newH code)) (bH code (0 : Int) (newH code))) ≤ (1000000 : Int)))) && true) (Br.ret (AV.tup ((AV.agg ((AV.ref (0 : Nat) (0 : Nat)) :: ((AV.int .i64 (bC code (0 : Int) (newH code))) :: ([] : (List (AV)))))) :: ((AV.str (ofS (belV (12 : Int) code (bI code (0 : Int) (newH code)) (bH code (0 : Int) (newH code))) ((120 : UInt8) :: ((121 : UInt8) :: ((122 : UInt8) :: ([] : (List UInt8))))) code (belI (3 : Int) code (belI (12 : Int) code (bI code (0 : Int) (newH code)))) (belH (3 : Int) (belH (12 : Int) (bH code (0 : Int) (newH code)))))) :: ([] : (List (AV)))))) ((Ob.arr (Ty.pair Ty.str (Ty.int .i64)) (0 : Nat) false (bL code (0 : Int) (newH code))) :: ([] : (List (Ob))))) Br.fail))) (Br.ite (decide ((belV (3 : Int) code (belI (12 : Int) code (bI code (0 : Int) (newH code))) (belH (12 : Int) (bH code (0 : Int) (newH code)))) = (0 : Int))) Br.fail (Br.ite (decide ((belV (3 : Int) code (belI (12 : Int) code (bI code (0 : Int) (newH code))) (belH (12 : Int) (bH code (0 : Int) (newH code)))) = (0 : Int))) Br.fail (Br.ite (((okC code (belI (3 : Int) code (belI (12 : Int) code (bI code (0 : Int) (newH code))))) && (decide ((belV (12 : Int) code (bI code (0 : Int) (newH code)) (bH code (0 : Int) (newH code))) ≤ (1000000 : Int)))) && true) (Br.ret (AV.tup ((AV.agg ((AV.ref (0 : Nat) (0 : Nat)) :: ((AV.int .i64 (bC code (0 : Int) (newH code))) :: ([] : (List (AV)))))) :: ((AV.str (ofS (belV (12 : Int) code (bI code (0 : Int) (newH code)) (bH code (0 : Int) (newH code))) ((120 : UInt8) :: ((121 : UInt8) :: ((122 : UInt8) :: ([] : (List UInt8))))) code (belI (3 : Int) code (belI (12 : Int) code (bI code (0 : Int) (newH code)))) (belH (3 : Int) (belH (12 : Int) (bH code (0 : Int) (newH code)))))) :: ([] : (List (AV)))))) ((Ob.arr (Ty.pair Ty.str (Ty.int .i64)) (0 : Nat) false (bL code (0 : Int) (newH code))) :: ([] : (List (Ob))))) Br.fail)))) (Br.ite (decide ((belV (3 : Int) code (belI (12 : Int) code (bI code (0 : Int) (newH code))) (belH (12 : Int) (bH code (0 : Int) (newH code)))) = (0 : Int))) (Br.ite (decide ((belV (3 : Int) code (belI (12 : Int) code (bI code (0 : Int) (newH code))) (belH (12 : Int) (bH code (0 : Int) (newH code)))) = (0 : Int))) (Br.ite (decide ((belV (3 : Int) code (belI (12 : Int) code (bI code (0 : Int) (newH code))) (belH (12 : Int) (bH code (0 : Int) (newH code)))) = (0 : Int))) (Br.ite (decide ((wrap64 ((bC code (0 : Int) (newH code)) - ((List.length (bif (okStore (bL code (0 : Int) (newH code)) (bC code (0 : Int) (newH code))) then (allB (bL code (0 : Int) (newH code))) else ([] : (List UInt8)))) : Int))) < (200 : Int))) (Br.ite (!(okStore (bL code (0 : Int) (newH code)) (bC code (0 : Int) (newH code)))) (Br.ite (okC code (belI (3 : Int) code (belI (12 : Int) code (bI code (0 : Int) (newH code))))) (Br.ite (((okC code (belI (2 : Int) code (belI (3 : Int) code (belI (12 : Int) code (bI code (0 : Int) (newH code)))))) && (decide ((wrap64 ((wrap64 ((bC code (0 : Int) (newH code)) - (-(1 : Int)))) + (belV (2 : Int) code (belI (3 : Int) code (belI (12 : Int) code (bI code (0 : Int) (newH code)))) (belH (3 : Int) (belH (12 : Int) (bH code (0 : Int) (newH code))))))) ≤ (1000000 : Int)))) && true) (Br.ret (AV.tup ((AV.agg ((AV.ref (0 : Nat) (0 : Nat)) :: ((AV.int .i64 (bC code (0 : Int) (newH code))) :: ([] : (List (AV)))))) :: ((AV.str (ofS (wrap64 ((wrap64 ((bC code (0 : Int) (newH code)) - (-(1 : Int)))) + (belV (2 : Int) code (belI (3 : Int) code (belI (12 : Int) code (bI code (0 : Int) (newH code)))) (belH (3 : Int) (belH (12 : Int) (bH code (0 : Int) (newH code))))))) ((120 : UInt8) :: ((121 : UInt8) :: ((122 : UInt8) :: ([] : (List UInt8))))) code (belI (2 : Int) code (belI (3 : Int) code (belI (12 : Int) code (bI code (0 : Int) (newH code))))) (belH (2 : Int) (belH (3 : Int) (belH (12 : Int) (bH code (0 : Int) (newH code))))))) :: ([] : (List (AV)))))) ((Ob.arr (Ty.pair Ty.str (Ty.int .i64)) (0 : Nat) false (bL code (0 : Int) (newH code))) :: ([] : (List (Ob))))) Br.fail) Br.fail) (Br.ite (okC code (belI (3 : Int) code (belI (12 : Int) code (bI code (0 : Int) (newH code))))) (Br.ite (((okC code (belI (2 : Int) code (belI (3 : Int) code (belI (12 : Int) code (bI code (0 : Int) (newH code)))))) && (decide ((wrap64 ((wrap64 ((bC code (0 : Int) (newH code)) - ((List.length (bif (okStore (bL code (0 : Int) (newH code)) (bC code (0 : Int) (newH code))) then (allB (bL code (0 : Int) (newH code))) else ([] : (List UInt8)))) : Int))) + (belV (2 : Int) code (belI (3 : Int) code (belI (12 : Int) code (bI code (0 : Int) (newH code)))) (belH (3 : Int) (belH (12 : Int) (bH code (0 : Int) (newH code))))))) ≤ (1000000 : Int)))) && true) (Br.ret (AV.tup ((AV.agg ((AV.ref (0 : Nat) (0 : Nat)) :: ((AV.int .i64 (bC code (0 : Int) (newH code))) :: ([] : (List (AV)))))) :: ((AV.str (ofS (wrap64 ((wrap64 ((bC code (0 : Int) (newH code)) - ((List.length (bif (okStore (bL code (0 : Int) (newH code)) (bC code (0 : Int) (newH code))) then (allB (bL code (0 : Int) (newH code))) else ([] : (List UInt8)))) : Int))) + (belV (2 : Int) code (belI (3 : Int) code (belI (12 : Int) code (bI code (0 : Int) (newH code)))) (belH (3 : Int) (belH (12 : Int) (bH code (0 : Int) (newH code))))))) ((120 : UInt8) :: ((121 : UInt8) :: ((122 : UInt8) :: ([] : (List UInt8))))) code (belI (2 : Int) code (belI (3 : Int) code (belI (12 : Int) code (bI code (0 : Int) (newH code))))) (belH (2 : Int) (belH (3 : Int) (belH (12 : Int) (bH code (0 : Int) (newH code))))))) :: ([] : (List (AV)))))) ((Ob.arr (Ty.pair Ty.str (Ty.int .i64)) (0 : Nat) false (bL code (0 : Int) (newH code))) :: ([] : (List (Ob))))) Br.fail) Br.fail)) (Br.ite (((okC code (belI (3 : Int) code (belI (12 : Int) code (bI code (0 : Int) (newH code))))) && (decide ((belV (12 : Int) code (bI code (0 : Int) (newH code)) (bH code (0 : Int) (newH code))) ≤ (1000000 : Int)))) && true) (Br.ret (AV.tup ((AV.agg ((AV.ref (0 : Nat) (0 : Nat)) :: ((AV.int .i64 (bC code (0 : Int) (newH code))) :: ([] : (List (AV)))))) :: ((AV.str (ofS (belV (12 : Int) code (bI code (0 : Int) (newH code)) (bH code (0 : Int) (newH code))) ((120 : UInt8) :: ((121 : UInt8) :: ((122 : UInt8) :: ([] : (List UInt8))))) code (belI (3 : Int) code (belI (12 : Int) code (bI code (0 : Int) (newH code)))) (belH (3 : Int) (belH (12 : Int) (bH code (0 : Int) (newH code)))))) :: ([] : (List (AV)))))) ((Ob.arr (Ty.pair Ty.str (Ty.int .i64)) (0 : Nat) false (bL code (0 : Int) (newH code))) :: ([] : (List (Ob))))) Br.fail)) (Br.ite (((okC code (belI (3 : Int) code (belI (12 : Int) code (bI code (0 : Int) (newH code))))) && (decide ((belV (12 : Int) code (bI code (0 : Int) (newH code)) (bH code (0 : Int) (newH code))) ≤ (1000000 : Int)))) && true) (Br.ret (AV.tup ((AV.agg ((AV.ref (0 : Nat) (0 : Nat)) :: ((AV.int .i64 (bC code (0 : Int) (newH code))) :: ([] : (List (AV)))))) :: ((AV.str (ofS (belV (12 : Int) code (bI code (0 : Int) (newH code)) (bH code (0 : Int) (newH code))) ((120 : UInt8) :: ((121 : UInt8) :: ((122 : UInt8) :: ([] : (List UInt8))))) code (belI (3 : Int) code (belI (12 : Int) code (bI code (0 : Int) (newH code)))) (belH (3 : Int) (belH (12 : Int) (bH code (0 : Int) (newH code)))))) :: ([] : (List (AV)))))) ((Ob.arr (Ty.pair Ty.str (Ty.int .i64)) (0 : Nat) false (bL code (0 : Int) (newH code))) :: ([] : (List (Ob))))) Br.fail)) (Br.ite (decide ((belV (3 : Int) code (belI (12 : Int) code (bI code (0 : Int) (newH code))) (belH (12 : Int) (bH code (0 : Int) (newH code)))) = (0 : Int))) Br.fail (Br.ite (((okC code (belI (3 : Int) code (belI (12 : Int) code (bI code (0 : Int) (newH code))))) && (decide ((belV (12 : Int) code (bI code (0 : Int) (newH code)) (bH code (0 : Int) (newH code))) ≤ (1000000 : Int)))) && true) (Br.ret (AV.tup ((AV.agg ((AV.ref (0 : Nat) (0 : Nat)) :: ((AV.int .i64 (bC code (0 : Int) (newH code))) :: ([] : (List (AV)))))) :: ((AV.str (ofS (belV (12 : Int) code (bI code (0 : Int) (newH code)) (bH code (0 : Int) (newH code))) ((120 : UInt8) :: ((121 : UInt8) :: ((122 : UInt8) :: ([] : (List UInt8))))) code (belI (3 : Int) code (belI (12 : Int) code (bI code (0 : Int) (newH code)))) (belH (3 : Int) (belH (12 : Int) (bH code (0 : Int) (newH code)))))) :: ([] : (List (AV)))))) ((Ob.arr (Ty.pair Ty.str (Ty.int .i64)) (0 : Nat) false (bL code (0 : Int) (newH code))) :: ([] : (List (Ob))))) Br.fail))) (Br.ite (decide ((belV (3 : Int) code (belI (12 : Int) code (bI code (0 : Int) (newH code))) (belH (12 : Int) (bH code (0 : Int) (newH code)))) = (0 : Int))) Br.fail (Br.ite (decide ((belV (3 : Int) code (belI (12 : Int) code (bI code (0 : Int) (newH code))) (belH (12 : Int) (bH code (0 : Int) (newH code)))) = (0 : Int))) Br.fail (Br.ite (((okC code (belI (3 : Int) code (belI (12 : Int) code (bI code (0 : Int) (newH code))))) && (decide ((belV (12 : Int) code (bI code (0 : Int) (newH code)) (bH code (0 : Int) (newH code))) ≤ (1000000 : Int)))) && true) (Br.ret (AV.tup ((AV.agg ((AV.ref (0 : Nat) (0 : Nat)) :: ((AV.int .i64 (bC code (0 : Int) (newH code))) :: ([] : (List (AV)))))) :: ((AV.str (ofS (belV (12 : Int) code (bI code (0 : Int) (newH code)) (bH code (0 : Int) (newH code))) ((120 : UInt8) :: ((121 : UInt8) :: ((122 : UInt8) :: ([] : (List UInt8))))) code (belI (3 : Int) code (belI (12 : Int) code (bI code (0 : Int) (newH code)))) (belH (3 : Int) (belH (12 : Int) (bH code (0 : Int) (newH code)))))) :: ([] : (List (AV)))))) ((Ob.arr (Ty.pair Ty.str (Ty.int .i64)) (0 : Nat) false (bL code (0 : Int) (newH code))) :: ([] : (List (Ob))))) Br.fail))))) (Br.ite (decide ((belV (3 : Int) code (belI (12 : Int) code (bI code (0 : Int) (newH code))) (belH (12 : Int) (bH code (0 : Int) (newH code)))) = (0 : Int))) Br.fail (Br.ite (decide ((belV (3 : Int) code (belI (12 : Int) code (bI code (0 : Int) (newH code))) (belH (12 : Int) (bH code (0 : Int) (newH code)))) = (0 : Int))) Br.fail (Br.ite (decide ((belV (3 : Int) code (belI (12 : Int) code (bI code (0 : Int) (newH code))) (belH (12 : Int) (bH code (0 : Int) (newH code)))) = (0 : Int))) Br.fail (Br.ite (((okC code (belI (3 : Int) code (belI (12 : Int) code (bI code (0 : Int) (newH code))))) && (decide ((belV (12 : Int) code (bI code (0 : Int) (newH code)) (bH code (0 : Int) (newH code))) ≤ (1000000 : Int)))) && true) (Br.ret (AV.tup ((AV.agg ((AV.ref (0 : Nat) (0 : Nat)) :: ((AV.int .i64 (bC code (0 : Int) (newH code))) :: ([] : (List (AV)))))) :: ((AV.str (ofS (belV (12 : Int) code (bI code (0 : Int) (newH code)) (bH code (0 : Int) (newH code))) ((120 : UInt8) :: ((121 : UInt8) :: ((122 : UInt8) :: ([] : (List UInt8))))) code (belI (3 : Int) code (belI (12 : Int) code (bI code (0 : Int) (newH code)))) (belH (3 : Int) (belH (12 : Int) (bH code (0 : Int) (newH code)))))) :: ([] : (List (AV)))))) ((Ob.arr (Ty.pair Ty.str (Ty.int .i64)) (0 : Nat) false (bL code (0 : Int) (newH code))) :: ([] : (List (Ob))))) Br.fail))))) (Br.ite (decide ((belV (3 : Int) code (belI (12 : Int) code (bI code (0 : Int) (newH code))) (belH (12 : Int) (bH code (0 : Int) (newH code)))) = (0 : Int))) Br.fail (Br.ite (decide ((belV (3 : Int) code (belI (12 : Int) code (bI code (0 : Int) (newH code))) (belH (12 : Int) (bH code (0 : Int) (newH code)))) = (0 : Int))) Br.fail (Br.ite (decide ((belV (3 : Int) code (belI (12 : Int) code (bI code (0 : Int) (newH code))) (belH (12 : Int) (bH code (0 : Int) (newH code)))) = (0 : Int))) Br.fail (Br.ite (decide ((belV (3 : Int) code (belI (12 : Int) code (bI code (0 : Int) (newH code))) (belH (12 : Int) (bH code (0 : Int) (newH code)))) = (0 : Int))) Br.fail (Br.ite (((okC code (belI (3 : Int) code (belI (12 : Int) code (bI code (0 : Int) (newH code))))) && (decide ((belV (12 : Int) code (bI code (0 : Int) (newH code)) (bH code (0 : Int) (newH code))) ≤ (1000000 : Int)))) && true) (Br.ret (AV.tup ((AV.agg ((AV.ref (0 : Nat) (0 : Nat)) :: ((AV.int .i64 (bC code (0 : Int) (newH code))) :: ([] : (List (AV)))))) :: ((AV.str (ofS (belV (12 : Int) code (bI code (0 : Int) (newH code)) (bH code (0 : Int) (newH code))) ((120 : UInt8) :: ((121 : UInt8) :: ((122 : UInt8) :: ([] : (List UInt8))))) code (belI (3 : Int) code (belI (12 : Int) code (bI code (0 : Int) (newH code)))) (belH (3 : Int) (belH (12 : Int) (bH code (0 : Int) (newH code)))))) :: ([] : (List (AV)))))) ((Ob.arr (Ty.pair Ty.str (Ty.int .i64)) (0 : Nat) false (bL code (0 : Int) (newH code))) :: ([] : (List (Ob))))) Br.fail)))))) (Br.ite (decide ((belV (3 : Int) code (belI (12 : Int) code (bI code (0 : Int) (newH code))) (belH (12 : Int) (bH code (0 : Int) (newH code)))) = (0 : Int))) (Br.ite (decide ((belV (3 : Int) code (belI (12 : Int) code (bI code (0 : Int) (newH code))) (belH (12 : Int) (bH code (0 : Int) (newH code)))) = (0 : Int))) (Br.ite (!(okStore (bL code (0 : Int) (newH code)) (bC code (0 : Int) (newH code)))) (Br.ite (decide ((belV (3 : Int) code (belI (12 : Int) code (bI code (0 : Int) (newH code))) (belH (12 : Int) (bH code (0 : Int) (newH code)))) = (0 : Int))) Br.fail (Br.ite (decide ((belV (3 : Int) code (belI (12 : Int) code (bI code (0 : Int) (newH code))) (belH (12 : Int) (bH code (0 : Int) (newH code)))) = (0 : Int))) Br.fail (Br.ite (decide ((belV (3 : Int) code (belI (12 : Int) code (bI code (0 : Int) (newH code))) (belH (12 : Int) (bH code (0 : Int) (newH code)))) = (0 : Int))) Br.fail (Br.ite (((okC code (belI (3 : Int) code (belI (12 : Int) code (bI code (0 : Int) (newH code))))) && (decide ((belV (12 : Int) code (bI code (0 : Int) (newH code)) (bH code (0 : Int) (newH code))) ≤ (1000000 : Int)))) && true) (Br.ret (AV.tup ((AV.agg ((AV.ref (0 : Nat) (0 : Nat)) :: ((AV.int .i64 (bC code (0 : Int) (newH code))) :: ([] : (List (AV)))))) :: ((AV.str (ofS (belV (12 : Int) code (bI code (0 : Int) (newH code)) (bH code (0 : Int) (newH code))) ((120 : UInt8) :: ((121 : UInt8) :: ((122 : UInt8) :: ([] : (List UInt8))))) code (belI (3 : Int) code (belI (12 : Int) code (bI code (0 : Int) (newH code)))) (belH (3 : Int) (belH (12 : Int) (bH code (0 : Int) (newH code)))))) :: ([] : (List (AV)))))) ((Ob.arr (Ty.pair Ty.str (Ty.int .i64)) (0 : Nat) false (bL code (0 : Int) (newH code))) :: ([] : (List (Ob))))) Br.fail)))) (Br.ite (decide ((belV (3 : Int) code (belI (12 : Int) code (bI code (0 : Int) (newH code))) (belH (12 : Int) (bH code (0 : Int) (newH code)))) = (0 : Int))) Br.fail (Br.ite (decide ((belV (3 : Int) code (belI (12 : Int) code (bI code (0 : Int) (newH code))) (belH (12 : Int) (bH code (0 : Int) (newH code)))) = (0 : Int))) Br.fail (Br.ite (decide ((belV (3 : Int) code (belI (12 : Int) code (bI code (0 : Int) (newH code))) (belH (12 : Int) (bH code (0 : Int) (newH code)))) = (0 : Int))) Br.fail (Br.ite (((okC code (belI (3 : Int) code (belI (12 : Int) code (bI code (0 : Int) (newH code))))) && (decide ((belV (12 : Int) code (bI code (0 : Int) (newH code)) (bH code (0 : Int) (newH code))) ≤ (1000000 : Int)))) && true) (Br.ret (AV.tup ((AV.agg ((AV.ref (0 : Nat) (0 : Nat)) :: ((AV.int .i64 (bC code (0 : Int) (newH code))) :: ([] : (List (AV)))))) :: ((AV.str (ofS (belV (12 : Int) code (bI code (0 : Int) (newH code)) (bH code (0 : Int) (newH code))) ((120 : UInt8) :: ((121 : UInt8) :: ((122 : UInt8) :: ([] : (List UInt8))))) code (belI (3 : Int) code (belI (12 : Int) code (bI code (0 : Int) (newH code)))) (belH (3 : Int) (belH (12 : Int) (bH code (0 : Int) (newH code)))))) :: ([] : (List (AV)))))) ((Ob.arr (Ty.pair Ty.str (Ty.int .i64)) (0 : Nat) false (bL code (0 : Int) (newH code))) :: ([] : (List (Ob))))) Br.fail))))) (Br.ite (decide ((belV (3 : Int) code (belI (12 : Int) code (bI code (0 : Int) (newH code))) (belH (12 : Int) (bH code (0 : Int) (newH code)))) = (0 : Int))) Br.fail (Br.ite (decide ((belV (3 : Int) code (belI (12 : Int) code (bI code (0 : Int) (newH code))) (belH (12 : Int) (bH code (0 : Int) (newH code)))) = (0 : Int))) Br.fail (Br.ite (decide ((belV (3 : Int) code (belI (12 : Int) code (bI code (0 : Int) (newH code))) (belH (12 : Int) (bH code (0 : Int) (newH code)))) = (0 : Int))) Br.fail (Br.ite (((okC code (belI (3 : Int) code (belI (12 : Int) code (bI code (0 : Int) (newH code))))) && (decide ((belV (12 : Int) code (bI code (0 : Int) (newH code)) (bH code (0 : Int) (newH code))) ≤ (1000000 : Int)))) && true) (Br.ret (AV.tup ((AV.agg ((AV.ref (0 : Nat) (0 : Nat)) :: ((AV.int .i64 (bC code (0 : Int) (newH code))) :: ([] : (List (AV)))))) :: ((AV.str (ofS (belV (12 : Int) code (bI code (0 : Int) (newH code)) (bH code (0 : Int) (newH code))) ((120 : UInt8) :: ((121 : UInt8) :: ((122 : UInt8) :: ([] : (List UInt8))))) code (belI (3 : Int) code (belI (12 : Int) code (bI code (0 : Int) (newH code)))) (belH (3 : Int) (belH (12 : Int) (bH code (0 : Int) (newH code)))))) :: ([] : (List (AV)))))) ((Ob.arr (Ty.pair Ty.str (Ty.int .i64)) (0 : Nat) false (bL code (0 : Int) (newH code))) :: ([] : (List (Ob))))) Br.fail))))) (Br.ite (decide ((belV (3 : Int) code (belI (12 : Int) code (bI code (0 : Int) (newH code))) (belH (12 : Int) (bH code (0 : Int) (newH code)))) = (0 : Int))) Br.fail (Br.ite (decide ((belV (3 : Int) code (belI (12 : Int) code (bI code (0 : Int) (newH code))) (belH (12 : Int) (bH code (0 : Int) (newH code)))) = (0 : Int))) Br.fail (Br.ite (decide ((belV (3 : Int) code (belI (12 : Int) code (bI code (0 : Int) (newH code))) (belH (12 : Int) (bH code (0 : Int) (newH code)))) = (0 : Int))) Br.fail (Br.ite (decide ((belV (3 : Int) code (belI (12 : Int) code (bI code (0 : Int) (newH code))) (belH (12 : Int) (bH code (0 : Int) (newH code)))) = (0 : Int))) Br.fail (Br.ite (((okC code (belI (3 : Int) code (belI (12 : Int) code (bI code (0 : Int) (newH code))))) && (decide ((belV (12 : Int) code (bI code (0 : Int) (newH code)) (bH code (0 : Int) (newH code))) ≤ (1000000 : Int)))) && true) (Br.ret (AV.tup ((AV.agg ((AV.ref (0 : Nat) (0 : Nat)) :: ((AV.int .i64 (bC code (0 : Int) (newH code))) :: ([] : (List (AV)))))) :: ((AV.str (ofS (belV (12 : Int) code (bI code (0 : Int) (newH code)) (bH code (0 : Int) (newH code))) ((120 : UInt8) :: ((121 : UInt8) :: ((122 : UInt8) :: ([] : (List UInt8))))) code (belI (3 : Int) code (belI (12 : Int) code (bI code (0 : Int) (newH code)))) (belH (3 : Int) (belH (12 : Int) (bH code (0 : Int) (newH code)))))) :: ([] : (List (AV)))))) ((Ob.arr (Ty.pair Ty.str (Ty.int .i64)) (0 : Nat) false (bL code (0 : Int) (newH code))) :: ([] : (List (Ob))))) Br.fail))))))) (Br.ite (decide ((belV (3 : Int) code (belI (12 : Int) code (bI code (0 : Int) (newH code))) (belH (12 : Int) (bH code (0 : Int) (newH code)))) = (0 : Int))) Br.fail (Br.ite (decide ((belV (3 : Int) code (belI (12 : Int) code (bI code (0 : Int) (newH code))) (belH (12 : Int) (bH code (0 : Int) (newH code)))) = (0 : Int))) (Br.ite (decide ((belV (3 : Int) code (belI (12 : Int) code (bI code (0 : Int) (newH code))) (belH (12 : Int) (bH code (0 : Int) (newH code)))) = (0 : Int))) (Br.ite (!(okStore (bL code (0 : Int) (newH code)) (bC code (0 : Int) (newH code)))) (Br.ite (decide ((belV (3 : Int) code (belI (12 : Int) code (bI code (0 : Int) (newH code))) (belH (12 : Int) (bH code (0 : Int) (newH code)))) = (0 : Int))) Br.fail (Br.ite (decide ((belV (3 : Int) code (belI (12 : Int) code (bI code (0 : Int) (newH code))) (belH (12 : Int) (bH code (0 : Int) (newH code)))) = (0 : Int))) Br.fail (Br.ite (decide ((belV (3 : Int) code (belI (12 : Int) code (bI code (0 : Int) (newH code))) (belH (12 : Int) (bH code (0 : Int) (newH code)))) = (0 : Int))) Br.fail (Br.ite (((okC code (belI (3 : Int) code (belI (12 : Int) code (bI code (0 : Int) (newH code))))) && (decide ((belV (12 : Int) code (bI code (0 : Int) (newH code)) (bH code (0 : Int) (newH code))) ≤ (1000000 : Int)))) && true) (Br.ret (AV.tup ((AV.agg ((AV.ref (0 : Nat) (0 : Nat)) :: ((AV.int .i64 (bC code (0 : Int) (newH code))) :: ([] : (List (AV)))))) :: ((AV.str (ofS (belV (12 : Int) code (bI code (0 : Int) (newH code)) (bH code (0 : Int) (newH code))) ((120 : UInt8) :: ((121 : UInt8) :: ((122 : UInt8) :: ([] : (List UInt8))))) code (belI (3 : Int) code (belI (12 : Int) code (bI code (0 : Int) (newH code)))) (belH (3 : Int) (belH (12 : Int) (bH code (0 : Int) (newH code)))))) :: ([] : (List (AV)))))) ((Ob.arr (Ty.pair Ty.str (Ty.int .i64)) (0 : Nat) false (bL code (0 : Int) (newH code))) :: ([] : (List (Ob))))) Br.fail)))) (Br.ite (decide ((belV (3 : Int) code (belI (12 : Int) code (bI code (0 : Int) (newH code))) (belH (12 : Int) (bH code (0 : Int) (newH code)))) = (0 : Int))) Br.fail (Br.ite (decide ((belV (3 : Int) code (belI (12 : Int) code (bI code (0 : Int) (newH code))) (belH (12 : Int) (bH code (0 : Int) (newH code)))) = (0 : Int))) Br.fail (Br.ite (decide ((belV (3 : Int) code (belI (12 : Int) code (bI code (0 : Int) (newH code))) (belH (12 : Int) (bH code (0 : Int) (newH code)))) = (0 : Int))) Br.fail (Br.ite (((okC code (belI (3 : Int) code (belI (12 : Int) code (bI code (0 : Int) (newH code))))) && (decide ((belV (12 : Int) code (bI code (0 : Int) (newH code)) (bH code (0 : Int) (newH code))) ≤ (1000000 : Int)))) && true) (Br.ret (AV.tup ((AV.agg ((AV.ref (0 : Nat) (0 : Nat)) :: ((AV.int .i64 (bC code (0 : Int) (newH code))) :: ([] : (List (AV)))))) :: ((AV.str (ofS (belV (12 : Int) code (bI code (0 : Int) (newH code)) (bH code (0 : Int) (newH code))) ((120 : UInt8) :: ((121 : UInt8) :: ((122 : UInt8) :: ([] : (List UInt8))))) code (belI (3 : Int) code (belI (12 : Int) code (bI code (0 : Int) (newH code)))) (belH (3 : Int) (belH (12 : Int) (bH code (0 : Int) (newH code)))))) :: ([] : (List (AV)))))) ((Ob.arr (Ty.pair Ty.str (Ty.int .i64)) (0 : Nat) false (bL code (0 : Int) (newH code))) :: ([] : (List (Ob))))) Br.fail))))) (Br.ite (decide ((belV (3 : Int) code (belI (12 : Int) code (bI code (0 : Int) (newH code))) (belH (12 : Int) (bH code (0 : Int) (newH code)))) = (0 : Int))) Br.fail (Br.ite (decide ((belV (3 : Int) code (belI (12 : Int) code (bI code (0 : Int) (newH code))) (belH (12 : Int) (bH code (0 : Int) (newH code)))) = (0 : Int))) Br.fail (Br.ite (decide ((belV (3 : Int) code (belI (12 : Int) code (bI code (0 : Int) (newH code))) (belH (12 : Int) (bH code (0 : Int) (newH code)))) = (0 : Int))) Br.fail (Br.ite (((okC code (belI (3 : Int) code (belI (12 : Int) code (bI code (0 : Int) (newH code))))) && (decide ((belV (12 : Int) code (bI code (0 : Int) (newH code)) (bH code (0 : Int) (newH code))) ≤ (1000000 : Int)))) && true) (Br.ret (AV.tup ((AV.agg ((AV.ref (0 : Nat) (0 : Nat)) :: ((AV.int .i64 (bC code (0 : Int) (newH code))) :: ([] : (List (AV)))))) :: ((AV.str (ofS (belV (12 : Int) code (bI code (0 : Int) (newH code)) (bH code (0 : Int) (newH code))) ((120 : UInt8) :: ((121 : UInt8) :: ((122 : UInt8) :: ([] : (List UInt8))))) code (belI (3 : Int) code (belI (12 : Int) code (bI code (0 : Int) (newH code)))) (belH (3 : Int) (belH (12 : Int) (bH code (0 : Int) (newH code)))))) :: ([] : (List (AV)))))) ((Ob.arr (Ty.pair Ty.str (Ty.int .i64)) (0 : Nat) false (bL code (0 : Int) (newH code))) :: ([] : (List (Ob))))) Br.fail))))) (Br.ite (decide ((belV (3 : Int) code (belI (12 : Int) code (bI code (0 : Int) (newH code))) (belH (12 : Int) (bH code (0 : Int) (newH code)))) = (0 : Int))) Br.fail (Br.ite (decide ((belV (3 : Int) code (belI (12 : Int) code (bI code (0 : Int) (newH code))) (belH (12 : Int) (bH code (0 : Int) (newH code)))) = (0 : Int))) Br.fail (Br.ite (decide ((belV (3 : Int) code (belI (12 : Int) code (bI code (0 : Int) (newH code))) (belH (12 : Int) (bH code (0 : Int) (newH code)))) = (0 : Int))) Br.fail (Br.ite (decide ((belV (3 : Int) code (belI (12 : Int) code (bI code (0 : Int) (newH code))) (belH (12 : Int) (bH code (0 : Int) (newH code)))) = (0 : Int))) Br.fail (Br.ite (((okC code (belI (3 : Int) code (belI (12 : Int) code (bI code (0 : Int) (newH code))))) && (decide ((belV (12 : Int) code (bI code (0 : Int) (newH code)) (bH code (0 : Int) (newH code))) ≤ (1000000 : Int)))) && true) (Br.ret (AV.tup ((AV.agg ((AV.ref (0 : Nat) (0 : Nat)) :: ((AV.int .i64 (bC code (0 : Int) (newH code))) :: ([] : (List (AV)))))) :: ((AV.str (ofS (belV (12 : Int) code (bI code (0 : Int) (newH code)) (bH code (0 : Int) (newH code))) ((120 : UInt8) :: ((121 : UInt8) :: ((122 : UInt8) :: ([] : (List UInt8))))) code (belI (3 : Int) code (belI (12 : Int) code (bI code (0 : Int) (newH code)))) (belH (3 : Int) (belH (12 : Int) (bH code (0 : Int) (newH code)))))) :: ([] : (List (AV)))))) ((Ob.arr (Ty.pair Ty.str (Ty.int .i64)) (0 : Nat) false (bL code (0 : Int) (newH code))) :: ([] : (List (Ob))))) Br.fail)))))))) Br.fail) Br.fail) Br.fail) Br.fail)
def drAppend_s : List AV → List Ob → Br
  | [.sh (.int .u8) code], [] => drAppend_br code
  | _, _ => .fail
/-! spec.DrawCrash -/
def drCrash_O : Opt := { cons := [], keepNil := false, mutF := [], live := [], outs := [] }
def drCrash_C : Spec := (add (add (add (add noS 21 l1New_s) 22 l4bent_s) 23 belowQ_s) 24 lastQ_s)
theorem drCrash_C_ok : ∀ fn, Sound Kx fn (drCrash_C fn) := (sound_add (sound_add (sound_add (sound_add (sound_no Kx) l1New_ok) l4bent_ok) l1Below_okQ) l4last_okQ)
def drCrash_br (code : List Int) : Br := (Br.ite (decide ((List.length code) ≤ (281474976710656 : Nat))) (Br.ite (okC code (0 : Int)) (Br.ite (decide ((List.length (bL code (0 : Int) (newH code))) ≤ (1000000 : Nat))) (Br.ite (okC code (bI code (0 : Int) (newH code))) (Br.ret (AV.tup ((AV.agg ((AV.ref (0 : Nat) (0 : Nat)) :: ((AV.int .i64 (bC code (0 : Int) (newH code))) :: ([] : (List (AV)))))) :: ((AV.int .i64 (wrap64 ((belV (wrap64 (((List.length (lastS (bL code (0 : Int) (newH code))).1) : Int) + (4 : Int))) code (bI code (0 : Int) (newH code)) (bH code (0 : Int) (newH code))) - (2 : Int)))) :: ([] : (List (AV)))))) ((Ob.arr (Ty.pair Ty.str (Ty.int .i64)) (0 : Nat) false (bL code (0 : Int) (newH code))) :: ([] : (List (Ob))))) Br.fail) Br.fail) Br.fail) Br.fail)
theorem drCrash_run (code : List Int) : runF Kx drCrash_C drCrash_O 1 Try.f5 ([.sh (.int .u8) code]) ([]) = (drCrash_br code).val := by kernel_rfl
def drCrash_s : List AV → List Ob → Br
  | [.sh (.int .u8) code], [] => drCrash_br code
  | _, _ => .fail
theorem drCrash_ok : Sound Kx 5 drCrash_s := by
  refine sound_run (C := drCrash_C) (O := drCrash_O) KOk drCrash_C_ok Try.func5 (by kernel_rfl) fun args objs res os h => ?_
  unfold drCrash_s at h
  split at h
  · exact ⟨1, (drCrash_run _).trans h⟩
  · cases h

/-! spec.DrawRoll -/
def drRoll_O : Opt := { cons := [], keepNil := false, mutF := [], live := [], outs := [] }
def drRoll_C : Spec := (add (add noS 21 l1New_s) 22 l4bent_s)
theorem drRoll_C_ok : ∀ fn, Sound Kx fn (drRoll_C fn) := (sound_add (sound_add (sound_no Kx) l1New_ok) l4bent_ok)
def drRoll_br (code : List Int) : Br := (Br.ite (decide ((List.length code) ≤ (281474976710656 : Nat))) (Br.ite (okC code (0 : Int)) (Br.ret (AV.agg ((AV.ref (0 : Nat) (0 : Nat)) :: ((AV.int .i64 (bC code (0 : Int) (newH code))) :: ([] : (List (AV)))))) ((Ob.arr (Ty.pair Ty.str (Ty.int .i64)) (0 : Nat) false (bL code (0 : Int) (newH code))) :: ([] : (List (Ob))))) Br.fail) Br.fail)
theorem drRoll_run (code : List Int) : runF Kx drRoll_C drRoll_O 1 Try.f17 ([.sh (.int .u8) code]) ([]) = (drRoll_br code).val := by kernel_rfl
def drRoll_s : List AV → List Ob → Br
  | [.sh (.int .u8) code], [] => drRoll_br code
  | _, _ => .fail
theorem drRoll_ok : Sound Kx 17 drRoll_s := by
  refine sound_run (C := drRoll_C) (O := drRoll_O) KOk drRoll_C_ok Try.func17 (by kernel_rfl) fun args objs res os h => ?_
  unfold drRoll_s at h
  split at h
  · exact ⟨1, (drRoll_run _).trans h⟩
  · cases h

/-! spec.DrawCut -/
def drCut_O : Opt := { cons := [], keepNil := false, mutF := [], live := [], outs := [] }
def drCut_C : Spec := (add (add (add (add noS 21 l1New_s) 22 l4bent_s) 23 belowQ_s) 24 lastQ_s)
theorem drCut_C_ok : ∀ fn, Sound Kx fn (drCut_C fn) := (sound_add (sound_add (sound_add (sound_add (sound_no Kx) l1New_ok) l4bent_ok) l1Below_okQ) l4last_okQ)
def drCut_br (code : List Int) : Br := (Br.ite (decide ((List.length code) ≤ (281474976710656 : Nat))) (Br.ite (okC code (0 : Int)) (Br.ite (decide ((List.length (bL code (0 : Int) (newH code))) ≤ (1000000 : Nat))) (Br.ite (okC code (bI code (0 : Int) (newH code))) (Br.ret (AV.tup ((AV.agg ((AV.ref (0 : Nat) (0 : Nat)) :: ((AV.int .i64 (bC code (0 : Int) (newH code))) :: ([] : (List (AV)))))) :: ((AV.int .i64 (wrap64 ((belV (wrap64 (((List.length (lastS (bL code (0 : Int) (newH code))).1) : Int) + (3 : Int))) code (bI code (0 : Int) (newH code)) (bH code (0 : Int) (newH code))) - (1 : Int)))) :: ([] : (List (AV)))))) ((Ob.arr (Ty.pair Ty.str (Ty.int .i64)) (0 : Nat) false (bL code (0 : Int) (newH code))) :: ([] : (List (Ob))))) Br.fail) Br.fail) Br.fail) Br.fail)
def drCut_s : List AV → List Ob → Br
  | [.sh (.int .u8) code], [] => drCut_br code
  | _, _ => .fail
end
end Go.Proofs.Ytmigffdeghfbhaa.Ev

namespace Go.Proofs.Ytmigffdeghfbhaa.Ev
open Go Go.RowKit
set_option linter.unusedVariables false
set_option linter.unusedSimpArgs false

theorem okC0 {code : List Int} (h : code.length ≤ 281474976710656) : okC code 0 = true := by
  unfold okC; simp only [Bool.and_eq_true, decide_eq_true_eq]; exact ⟨by omega, h⟩
noncomputable def rL (code : List Int) : Segs := bL code 0 (newH code)
noncomputable def rC (code : List Int) : Int := bC code 0 (newH code)
theorem rL_good {code : List Int} (h : code.length ≤ 281474976710656) : good (rL code) := (bent_spec (okC0 h)).2.1
noncomputable def kCrash (code : List Int) : Int := wrap64 (belV (wrap64 (((lastS (rL code)).1.length : Int) + 4)) code (bI code 0 (newH code)) (bH code 0 (newH code)) - 2)
noncomputable def kCut (code : List Int) : Int := wrap64 (belV (wrap64 (((lastS (rL code)).1.length : Int) + 3)) code (bI code 0 (newH code)) (bH code 0 (newH code)) - 1)

theorem drAppend_ex {code : List Int} (h : code.length ≤ 281474976710656) : ∃ b : List UInt8, b.length ≤ 1000000 ∧ (drAppend_br code).val = some (.tup [.agg [.ref 0 0, .int .i64 (rC code)], .str b], [.arr (.pair .str (.int .i64)) 0 false (rL code)]) := by
  obtain ⟨q1, q2, _⟩ := bent_spec (h := newH code) (okC0 h)
  unfold rL rC
  unfold drAppend_br
  generalize bI code 0 (newH code) = i1 at *
  generalize bH code 0 (newH code) = h1 at *
  generalize bC code 0 (newH code) = c1 at *
  generalize bL code 0 (newH code) = l1 at *
  have k1 := okC_bel (n := 12) q1
  have k2 := okC_bel (n := 3) k1
  have k3 := okC_bel (n := 2) k2
  have b12 := belV_in 12 code i1 h1
  have b12' := b12.2 (by omega)
  have hb := belV_in 2 code (belI 3 code (belI 12 code i1)) (belH 3 (belH 12 h1))
  have hb' := hb.2 (by omega)
  have g1 : decide (belV 12 code i1 h1 ≤ 1000000) = true := by rw [decide_eq_true_eq]; omega
  have ofl : ∀ (n : Int) (s : List UInt8) (i h : Int), n ≤ 1000000 → (ofS n s code i h).length ≤ 1000000 := by intro n s i h hn; rw [ofS_len]; omega
  have hw : ∀ x : Int, wrap64 x < 200 → wrap64 (wrap64 x + belV 2 code (belI 3 code (belI 12 code i1)) (belH 3 (belH 12 h1))) ≤ 1000000 := by
    intro x hx
    have : -9223372036854775808 ≤ wrap64 x := by unfold wrap64; omega
    rw [w64 (by omega) (by omega)]; omega
  simp only [h, okC0 h, q1, k1, k2, k3, decide_true, Br.val]
  cases e1 : decide (belV 3 code (belI 12 code i1) (belH 12 h1) = 0)
  · simp only [g1, Br.val, Bool.true_and, Bool.and_true, Bool.and_self]
    exact ⟨_, ofl _ _ _ _ (by omega), rfl⟩
  · simp only []
    cases e2 : okStore l1 c1
    · simp only [Bool.not_false, Br.val]
      cases e3 : decide (wrap64 (c1 - -1) < 200)
      · simp only [g1, Br.val, Bool.true_and, Bool.and_true, Bool.and_self]
        exact ⟨_, ofl _ _ _ _ (by omega), rfl⟩
      · have hx := hw (c1 - -1) (of_decide_eq_true e3)
        have g2 := decide_eq_true hx
        simp only [g2, Br.val, Bool.true_and, Bool.and_true, Bool.and_self]
        exact ⟨_, ofl _ _ _ _ hx, rfl⟩
    · simp only [Bool.not_true, Br.val, cond_true]
      cases e3 : decide (wrap64 (c1 - ((allB l1).length : Int)) < 200)
      · simp only [g1, Br.val, Bool.true_and, Bool.and_true, Bool.and_self]
        exact ⟨_, ofl _ _ _ _ (by omega), rfl⟩
      · have hx := hw (c1 - ((allB l1).length : Int)) (of_decide_eq_true e3)
        have g2 := decide_eq_true hx
        simp only [g2, Br.val, Bool.true_and, Bool.and_true, Bool.and_self]
        exact ⟨_, ofl _ _ _ _ hx, rfl⟩
open Classical in
noncomputable def aB (code : List Int) : List UInt8 := if h : code.length ≤ 281474976710656 then (drAppend_ex h).choose else []
theorem aB_len (code : List Int) : (aB code).length ≤ 1000000 := by
  unfold aB
  split
  · rename_i h; exact (drAppend_ex h).choose_spec.1
  · simp
noncomputable def drAppendQ_s : List AV → List Ob → Br
  | [.sh (.int .u8) code], [] => .ite (decide (code.length ≤ 281474976710656)) (.ret (.tup [.agg [.ref 0 0, .int .i64 (rC code)], .str (aB code)]) [.arr (.pair .str (.int .i64)) 0 false (rL code)]) .fail
  | _, _ => .fail
noncomputable def drRollQ_s : List AV → List Ob → Br
  | [.sh (.int .u8) code], [] => .ite (decide (code.length ≤ 281474976710656)) (.ret (.agg [.ref 0 0, .int .i64 (rC code)]) [.arr (.pair .str (.int .i64)) 0 false (rL code)]) .fail
  | _, _ => .fail
theorem drRoll_okQ : Sound Kx 17 drRollQ_s := drRoll_ok.of fun args objs r hv => by
  unfold drRollQ_s at hv
  split at hv
  · rename_i code
    obtain ⟨h1, h2⟩ := ite_some hv
    rw [← h2]
    show (drRoll_br code).val = _
    unfold drRoll_br
    simp only [h1, okC0 (of_decide_eq_true h1), Br.val]
    rfl
  · cases hv
noncomputable def drCrashQ_s : List AV → List Ob → Br
  | [.sh (.int .u8) code], [] => .ite (decide (code.length ≤ 281474976710656)) (.ret (.tup [.agg [.ref 0 0, .int .i64 (rC code)], .int .i64 (kCrash code)]) [.arr (.pair .str (.int .i64)) 0 false (rL code)]) .fail
  | _, _ => .fail
theorem drCrash_okQ : Sound Kx 5 drCrashQ_s := drCrash_ok.of fun args objs r hv => by
  unfold drCrashQ_s at hv
  split at hv
  · rename_i code
    obtain ⟨h1, h2⟩ := ite_some hv
    rw [← h2]
    show (drCrash_br code).val = _
    have h0 := okC0 (of_decide_eq_true h1)
    obtain ⟨q1, q2, _⟩ := bent_spec (h := newH code) h0
    have q3 : decide ((bL code 0 (newH code)).length ≤ 1000000) = true := by rw [decide_eq_true_eq]; have := q2.1; omega
    unfold drCrash_br
    simp only [h1, h0, q1, q3, Br.val]
    rfl
  · cases hv
noncomputable def drCutQ_s : List AV → List Ob → Br
  | [.sh (.int .u8) code], [] => .ite (decide (code.length ≤ 281474976710656)) (.ret (.tup [.agg [.ref 0 0, .int .i64 (rC code)], .int .i64 (kCut code)]) [.arr (.pair .str (.int .i64)) 0 false (rL code)]) .fail
  | _, _ => .fail
end Go.Proofs.Ytmigffdeghfbhaa.Ev
