/- The texts Ne, Nf, Ng, Nh, Ni, Nj, Nk, Nl, one behind the other. -/
import Derived.Test.YtdknaddanjpdaaaGreatDoorK16
import Derived.Test.YtdknaddanjpdaaaGreatDoorK15
import Derived.Test.YtdknaddanjpdaaaGreatDoorK12
namespace Go.Proofs.YtdknaddanjpdaaaGreatDoor.Ev
open Go Go.RowKit
set_option linter.unusedVariables false
set_option linter.unusedSimpArgs false
noncomputable section


theorem dle' {a b : Nat} (h : a ≤ b) : decide (a ≤ b) = true := decide_eq_true h

def bytesLess (a b : Bytes) : Bool := Op.bytesLess a b
def inP (l : List Bytes) (s : Bytes) : Bool := l.any fun x => decide (x = s)
def mtP (k : Int) : Bytes := 109 :: Lib.decDigits k.toNat
theorem digit_of' (d : Int) (h0 : 0 ≤ d) (h : d < 10) : ofBytes (List.set (List.replicate 1 (0 : Int)) 0 (wk8 (wk64 (48 + d)))) = [UInt8.ofNat (48 + d.toNat)] := by
  rw [w64 (by omega) (by omega), w8 (by omega) (by omega), one_set]
  show [UInt8.ofNat (48 + d).toNat] = _
  rw [show (48 + d).toNat = 48 + d.toNat by omega]
theorem markText_loop (K : Bytes → Option Rs) : ∀ (n : Nat) (k : Int) (out : Bytes), 0 < k → k ≤ 1000000000 → k < (n : Int) → out.length + k.toNat ≤ 2000000000 →
    markText_F4 (n + 1) k out K = K (Lib.decDigits k.toNat ++ out) := by
  intro n; induction n with
  | zero => intro k out h0 h1 h2; omega
  | succ n ih =>
    intro k out h0 h1 h2 h3
    have e1 : wk64 (Int.tdiv k 10) = ((k.toNat / 10 : Nat) : Int) := by
      rw [Int.tdiv_eq_ediv_of_nonneg (by omega), w64 (by omega) (by omega)]; omega
    have e2 : Int.tmod k 10 = ((k.toNat % 10 : Nat) : Int) := by
      rw [Int.tmod_eq_emod_of_nonneg (by omega)]; omega
    have hd : ofBytes (List.set (List.replicate 1 (0 : Int)) 0 (wk8 (wk64 (48 + ((k.toNat % 10 : Nat) : Int))))) = [UInt8.ofNat (48 + k.toNat % 10)] := by
      rw [digit_of' _ (by omega) (by omega)]; simp only [Int.toNat_natCast]
    unfold markText_F4 markText_T4
    have hp : decide ((0 : Int) < k) = true := decide_eq_true h0
    simp only [hp, e1, e2, hd, cond_true, List.length_singleton, dle' (show 1 + out.length ≤ 9223372036854775807 by omega)]
    by_cases c : k.toNat < 10
    · have e3 : k.toNat / 10 = 0 := by omega
      have e4 : k.toNat % 10 = k.toNat := by omega
      rw [e3]
      unfold markText_F4 markText_T4
      simp only [Int.ofNat_eq_natCast, Int.cast_ofNat_Int, Int.lt_irrefl, decide_false, cond_false]
      rw [Lib.decDigits_one c, e4]
    · rw [ih _ _ (by omega) (by omega) (by omega) (by simp only [List.length_append, List.length_singleton]; omega), Int.toNat_natCast, Lib.decDigits.eq_1 k.toNat, dif_neg c, List.append_assoc]
def mt_s : List AV → List Ob → Br
  | [.int .i64 k], [] => .ite (decide (0 < k) && decide (k ≤ 100000000)) (.ret (.str (mtP k)) []) .fail
  | _, _ => .fail
theorem decDigits_le (n : Nat) : (Lib.decDigits n).length ≤ n + 1 := by
  induction n using Nat.strongRecOn with
  | _ n ih =>
    by_cases c : n < 10
    · rw [Lib.decDigits_one c]; simp
    · rw [Lib.decDigits.eq_1, dif_neg c]
      have := ih (n / 10) (by omega)
      simp only [List.length_append, List.length_singleton]; omega
theorem markText_okQ : Sound Kx 43 mt_s := by
  refine (markText_okOf (φ := fun k => .ite (decide (0 < k) && decide (k ≤ 100000000)) (.ret (.str (mtP k)) []) .fail) (fun k => k.toNat + 2) fun k r h => ?_).of fun args objs r h => ?_
  · obtain ⟨h1, h2⟩ := ite_some h
    cases h2
    rw [Bool.and_eq_true, decide_eq_true_eq, decide_eq_true_eq] at h1
    have hl := decDigits_le k.toNat
    unfold markText_run
    rw [decide_eq_false (by omega), cond_false, markText_loop _ (k.toNat + 1) k [] h1.1 (by omega) (by omega) (by simp; omega)]
    simp only [List.append_nil]
    rw [dle' (by omega), cond_true]; rfl
  · unfold mt_s at h; split at h
    · exact h
    · cases h

def markFieldS_O : Opt := { live := [(2, [0, 1, 5])], outs := [(2, [1, 4])] }
def markFieldS_C : SC := [⟨43, _, markText_okQ⟩]
def markFieldS_T2 (v2x0 v2x1 : Int) (v2x2 : (List Fd)) (kR2 : Int → Int → (List Fd) → Option Rs) (k2e0 : Int → (List Fd) → Option Rs) : Option Rs :=
  (bif (decide (v2x1 < (v2x2.length : Int))) then (bif ((decide (0 < v2x0)) && (decide (v2x0 ≤ 100000000))) then (bif (decide (0 ≤ v2x1)) then (bif (decide (v2x1 < (v2x2.length : Int))) then (bif ((decide (0 < (wk64 (v2x0 + 1)))) && (decide ((wk64 (v2x0 + 1)) ≤ 100000000))) then (bif (decide (0 ≤ v2x1)) then (bif (decide (v2x1 < ((List.length (List.set v2x2 (Int.toNat v2x1) ((mtP v2x0), (List.getD v2x2 (Int.toNat v2x1) (([] : Bytes), ([] : Bytes))).2))) : Int))) then (kR2 (wk64 ((wk64 (v2x0 + 1)) + 1)) (wk64 (v2x1 + 1)) (List.set (List.set v2x2 (Int.toNat v2x1) ((mtP v2x0), (List.getD v2x2 (Int.toNat v2x1) (([] : Bytes), ([] : Bytes))).2)) (Int.toNat v2x1) ((List.getD (List.set v2x2 (Int.toNat v2x1) ((mtP v2x0), (List.getD v2x2 (Int.toNat v2x1) (([] : Bytes), ([] : Bytes))).2)) (Int.toNat v2x1) (([] : Bytes), ([] : Bytes))).1, (mtP (wk64 (v2x0 + 1)))))) else (none)) else (none)) else (none)) else (none)) else (none)) else (none)) else (k2e0 v2x0 v2x2))
def markFieldS_F2 : Nat → Int → Int → (List Fd) → (Int → (List Fd) → Option Rs) → Option Rs
  | 0, _, _, _, _ => none
  | n + 1, v2x0, v2x1, v2x2, k2e0 => markFieldS_T2 v2x0 v2x1 v2x2 (fun v2x0 v2x1 v2x2 => markFieldS_F2 n v2x0 v2x1 v2x2 k2e0) k2e0
abbrev markFieldS_p2 : SP := ⟨29, [0, 1, 5], [(.v (.ref 0 0)), (.v (.i .i64)), (.v (.i .i64))], [(0, .arr (Ty.pair Ty.str Ty.str) 0 false)]⟩
noncomputable def markFieldS_b2 : Code := codeAt (codeOf Tryz.f14) [1, 0, 1, 0, 0]
def markFieldS_E2 (f : (Int → (List Fd) → Option Rs) → Option Rs) (k : KT) : Option Rs := f (fun x2x0x0 x2x0x1 => k (Ex.exit 0) ((St.mk (slots 0 29 [(1, (AV.int .i64 x2x0x0))]) ((0, (Ob.arr (Ty.pair Ty.str Ty.str) 0 false x2x0x1)) :: ([] : (List (Nat × (Ob))))))))
def markFieldS_G2 (n : Nat) (d : markFieldS_p2.D) : KT → Option Rs := markFieldS_E2 (markFieldS_F2 n d.1.2.1 d.1.2.2.1 d.2.1)
def markFieldS_L (N : Nat) : Lam := lamOf [⟨2, markFieldS_p2, markFieldS_G2 N⟩]
theorem markFieldS_ok2 (N : Nat) : OkL Kx markFieldS_C.s markFieldS_O 1 N (markFieldS_L N) markFieldS_b2 := okL markFieldS_p2 (markFieldS_G2) (fun d kR => markFieldS_E2 (markFieldS_T2 d.1.2.1 d.1.2.2.1 d.2.1 (fun v2x0 v2x1 v2x2 => kR (((), v2x0, v2x1, ()), (v2x2, ()))))) (fun _ _ => by kernel_rfl) (fun _ _ _ => by kernel_rfl) (fun _ _ => by kernel_rfl) (fun _ _ _ _ => by kernel_rfl) (okEach (l' := []) (by kernel_rfl) trivial)
def markFieldS_run (N : Nat) (l : List Fd) (k : Int) : Option Rs := (markFieldS_F2 N k 0 l (fun x2x0x0 => (fun x2x0x1 => (some ((AV.int .i64 x2x0x0), ((Ob.arr (Ty.pair Ty.str Ty.str) 0 false x2x0x1) :: []))))))
def markFieldS_sOf (φ : (List Fd) → Int → Br) : List AV → List Ob → Br
  | [.ref 0 0, .int .i64 k], [.arr (.pair .str .str) 0 false l] => φ l k
  | _, _ => .fail
theorem markFieldS_okOf {φ : (List Fd) → Int → Br} (fu : (List Fd) → Int → Nat) (hv : ∀ l k res_, (φ l k).val = some res_ → markFieldS_run (fu l k) l k = some res_) : Sound Kx 14 (markFieldS_sOf φ) := sound_lp (C := markFieldS_C) (O := markFieldS_O) Tryz.func14 (by kernel_rfl) fun args objs => by
  unfold markFieldS_sOf; split
  · rename_i k l; exact .inr fun _ h => run_lp (Λ := markFieldS_L (fu l k)) (by kernel_rfl) (okEach (l' := [markFieldS_b2]) (by kernel_rfl) ⟨markFieldS_ok2 _, trivial⟩) (by kernel_rfl) (hv l k _ h)
  · exact .inl rfl


def marksF : Nat → Int → List Fd
  | 0, _ => []
  | n + 1, k => (mtP k, mtP (k + 1)) :: marksF n (k + 1 + 1)
theorem markFieldS_loop (K : Int → List Fd → Option Rs) : ∀ (r pre : List Fd) (k i : Int) (n : Nat), i = (pre.length : Int) → r.length < n → pre.length + r.length ≤ 100000000 → 0 < k → k + 2 * r.length ≤ 100000000 →
    markFieldS_F2 n k i (pre ++ r) K = K (k + 2 * r.length) (pre ++ marksF r.length k) := by
  intro r; induction r with
  | nil =>
    intro pre k i n hi hn hp h0 h1; obtain ⟨n, rfl⟩ := fuel hn
    have e : decide (i < ((pre ++ ([] : List Fd)).length : Int)) = false := decide_eq_false (by rw [hi]; simp)
    unfold markFieldS_F2 markFieldS_T2
    rw [e, cond_false]; simp [marksF]
  | cons a r ih =>
    intro pre k i n hi hn hp h0 h1; obtain ⟨n, rfl⟩ := fuel hn
    simp only [List.length_cons] at hn hp h1
    have ha : At (pre ++ a :: r) i (a :: r) := ⟨pre, rfl, hi⟩
    have hw : wk64 (k + 1) = k + 1 := w64 (by omega) (by omega)
    have hw2 : wk64 (k + 1 + 1) = k + 1 + 1 := w64 (by omega) (by omega)
    have hg : (decide (0 < k) && decide (k ≤ 100000000)) = true := by rw [decide_eq_true h0, decide_eq_true (by omega)]; rfl
    have hg2 : (decide (0 < k + 1) && decide (k + 1 ≤ 100000000)) = true := by rw [decide_eq_true (by omega), decide_eq_true (by omega)]; rfl
    have hset : ∀ x, (pre ++ a :: r).set i.toNat x = pre ++ x :: r := fun x => by rw [hi, Int.toNat_natCast, set_mid]
    have hset2 : ∀ x y, (pre ++ x :: r).set i.toNat y = (pre ++ [y]) ++ r := fun x y => by rw [hi, Int.toNat_natCast, set_mid, cat_one]
    have hget : ∀ x d, (pre ++ x :: r).getD i.toNat d = x := fun x d => by rw [hi, Int.toNat_natCast, getD_mid]
    have hlt : ∀ x, decide (i < ((pre ++ x :: r).length : Int)) = true := fun x => decide_eq_true (by rw [hi]; simp only [List.length_append, List.length_cons]; omega)
    unfold markFieldS_F2 markFieldS_T2
    simp only [hlt, ha.dnn, hg, hg2, hw, hw2, hset, hset2, hget, ha.next (by simp only [List.length_append, List.length_cons]; omega), cond_true]
    rw [ih (pre ++ [(mtP k, mtP (k + 1))]) (k + 1 + 1) (i + 1) n (by rw [hi]; simp) (by omega) (by simp only [List.length_append, List.length_singleton]; omega) (by omega) (by omega)]
    congr 1
    · simp only [List.length_cons]; omega
    · simp [marksF]
def mkF_s : List AV → List Ob → Br
  | [.ref 0 0, .int .i64 k], [.arr (.pair .str .str) 0 false l] => .ite (decide (0 < k) && decide (k + 2 * l.length ≤ 100000000)) (.ret (.int .i64 (k + 2 * l.length)) [.arr (.pair .str .str) 0 false (marksF l.length k)]) .fail
  | _, _ => .fail
theorem markFieldS_okQ : Sound Kx 14 mkF_s := by
  refine (markFieldS_okOf (φ := fun l k => .ite (decide (0 < k) && decide (k + 2 * l.length ≤ 100000000)) (.ret (.int .i64 (k + 2 * l.length)) [.arr (.pair .str .str) 0 false (marksF l.length k)]) .fail) (fun l _ => l.length + 1) fun l k r h => ?_).of fun args objs r h => ?_
  · obtain ⟨h1, h2⟩ := ite_some h
    cases h2
    rw [Bool.and_eq_true, decide_eq_true_eq, decide_eq_true_eq] at h1
    unfold markFieldS_run
    exact markFieldS_loop _ l [] k 0 _ rfl (by omega) (by simp only [List.length_nil]; omega) h1.1 h1.2
  · unfold mkF_s at h; split at h
    · exact h
    · cases h

end
end Go.Proofs.YtdknaddanjpdaaaGreatDoor.Ev

namespace Go.Proofs.YtdknaddanjpdaaaGreatDoor.Ev
open Go Go.RowKit
set_option linter.unusedVariables false
set_option linter.unusedSimpArgs false

end Go.Proofs.YtdknaddanjpdaaaGreatDoor.Ev

namespace Go.Proofs.YtdknaddanjpdaaaGreatDoor.Ev
open Go Go.RowKit
set_option linter.unusedVariables false
set_option linter.unusedSimpArgs false
noncomputable section

end
end Go.Proofs.YtdknaddanjpdaaaGreatDoor.Ev
