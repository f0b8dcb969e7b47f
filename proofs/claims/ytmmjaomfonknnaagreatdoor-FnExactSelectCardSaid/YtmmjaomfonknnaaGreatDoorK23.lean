/- The texts Ub, Uc, AnyS, SplitS, Ud, Ue, Uf, Ug, Uh, Ui, Uj, Uk, Ul, Um, one behind the other. -/
import Derived.Test.YtmmjaomfonknnaaGreatDoorK21
import Derived.Test.YtmmjaomfonknnaaGreatDoorK22
import Derived.Lib.Split
import Derived.Test.YtmmjaomfonknnaaGreatDoorK13
import Derived.Test.YtmmjaomfonknnaaGreatDoorK15
namespace Go.Proofs.YtmmjaomfonknnaaGreatDoor.Ev
open Go Go.RowKit
set_option linter.unusedVariables false
set_option linter.unusedSimpArgs false
noncomputable section

def splR (b : Int) : Bytes → Bytes → List Bytes
  | cur, [] => [cur]
  | cur, x :: r => bif decide (by8 x = b) then cur :: splR b [] r else splR b (cur ++ [x]) r
theorem splR_cons (b : Int) (cur : Bytes) (x : UInt8) (r : Bytes) : splR b cur (x :: r) = bif decide (by8 x = b) then cur :: splR b [] r else splR b (cur ++ [x]) r := by rw [splR]
def splP (s : Bytes) (b : Int) : List Bytes := splR b [] s

theorem cut_of {s p cur r : Bytes} {lo hi : Int} (h : s = p ++ (cur ++ r)) (hlo : lo = (p.length : Int)) (hhi : hi = lo + (cur.length : Int)) : Ev.cut s lo hi = cur := by
  subst h hlo hhi
  unfold Ev.cut
  rw [show ((p.length : Int) + (cur.length : Int)).toNat = p.length + cur.length by omega, show ((p.length : Int)).toNat = p.length by omega]
  rw [List.take_append]
  simp
theorem splR_hit (b : Int) : ∀ (r cur : Bytes), (uptoP r b).length ≠ r.length → splR b cur r = (cur ++ uptoP r b) :: splP (r.drop ((uptoP r b).length + 1)) b
  | [], cur, h => absurd rfl h
  | x :: r, cur, h => by
    unfold uptoP at h ⊢
    rw [List.takeWhile_cons] at h ⊢
    unfold splR
    cases c : decide (by8 x = b)
    · rw [c] at h
      simp only [Bool.not_false, if_true, List.length_cons] at h
      have ih := splR_hit b r (cur ++ [x]) (by unfold uptoP; omega)
      unfold uptoP at ih
      rw [cond_false, ih]
      simp
    · simp [splP]
theorem splR_miss (b : Int) : ∀ (r cur : Bytes), (uptoP r b).length = r.length → splR b cur r = [cur ++ r]
  | [], cur, h => by simp [splR]
  | x :: r, cur, h => by
    unfold uptoP at h
    rw [List.takeWhile_cons] at h
    unfold splR
    cases c : decide (by8 x = b)
    · rw [c] at h
      simp only [Bool.not_false, if_true, List.length_cons] at h
      rw [cond_false, splR_miss b r (cur ++ [x]) (by unfold uptoP; omega)]
      simp
    · rw [c] at h; simp at h
theorem upto_le (s : Bytes) (b : Int) : (uptoP s b).length ≤ s.length := (List.takeWhile_sublist _).length_le
theorem upto_take (s : Bytes) (b : Int) : s.take (uptoP s b).length = uptoP s b := by
  have h : uptoP s b <+: s := List.takeWhile_prefix _
  exact (List.prefix_iff_eq_take.1 h).symm
theorem index_upto (c : UInt8) (s : Bytes) : Lib.index s [c] = bif decide ((uptoP s (by8 c)).length = s.length) then -1 else ((uptoP s (by8 c)).length : Int) := by
  have h := cut_upto c s
  unfold cutP Lib.cut at h
  have hg := Lib.index_ge s [c]
  cases d : decide ((uptoP s (by8 c)).length = s.length)
  · rw [d] at h
    by_cases h0 : 0 ≤ Lib.index s [c]
    · rw [if_pos h0] at h
      simp only [Prod.mk.injEq] at h
      have := congrArg List.length h.1
      have hlt : (Lib.index s [c]).toNat ≤ s.length := by
        have := Lib.index_le s [c]
        omega
      rw [List.length_take] at this
      rw [cond_false]; omega
    · rw [if_neg h0] at h
      simp only [Prod.mk.injEq, Bool.not_false] at h
      exact absurd h.2.2 (by decide)
  · rw [d] at h
    by_cases h0 : 0 ≤ Lib.index s [c]
    · rw [if_pos h0] at h
      simp only [Prod.mk.injEq, Bool.not_true] at h
      exact absurd h.2.2 (by decide)
    · rw [cond_true]; omega
theorem splitK_spl (c : UInt8) : ∀ (fuel : Nat) (s : Bytes), s.length < fuel → Lib.splitK [c] 0 (Lib.countFrom [c] fuel s) s = splP s (by8 c) := by
  intro fuel
  induction fuel with
  | zero => intro s h; omega
  | succ fuel ih =>
    intro s h
    unfold Lib.countFrom
    rw [index_upto]
    cases d : decide ((uptoP s (by8 c)).length = s.length)
    · have d' := of_decide_eq_false d
      rw [cond_false]
      have e : (((uptoP s (by8 c)).length : Int) == -1) = false := by rw [beq_eq_false_iff_ne]; omega
      have hle := upto_le s (by8 c)
      rw [e]
      simp only [Bool.false_eq_true, if_false]
      rw [Nat.add_comm 1]
      unfold Lib.splitK
      rw [index_upto, d, cond_false, e]
      simp only [Bool.false_eq_true, if_false, Int.toNat_natCast, Nat.add_zero, List.length_singleton]
      rw [ih (s.drop _) (by rw [List.length_drop]; omega), upto_take]
      unfold splP
      rw [splR_hit _ s [] d']
      rfl
    · rw [cond_true]
      simp only [BEq.rfl, if_true]
      unfold Lib.splitK splP
      rw [splR_miss _ s [] (of_decide_eq_true d)]
      rfl
theorem split_spl (c : UInt8) (s : Bytes) : Lib.split s [c] = splP s (by8 c) := splitK_spl c _ s (Nat.lt_succ_self _)
theorem splR_ne (b : Int) : ∀ (r cur : Bytes), splR b cur r ≠ []
  | [], cur => by simp [splR]
  | x :: r, cur => by
    unfold splR
    cases decide (by8 x = b)
    · exact splR_ne b r _
    · simp
theorem splR_len (b : Int) : ∀ (r cur : Bytes), (splR b cur r).length ≤ r.length + 1
  | [], cur => by simp [splR]
  | x :: r, cur => by
    unfold splR
    cases decide (by8 x = b)
    · have := splR_len b r (cur ++ [x]); simp only [cond_false, List.length_cons]; omega
    · have := splR_len b r []; simp only [cond_true, List.length_cons]; omega
theorem spl_len (s : Bytes) (b : Int) : (splP s b).length ≤ s.length + 1 := splR_len b s []
theorem splR_all (b : Int) (p : Int → Bool) : ∀ (r cur : Bytes), ((splR b cur r).all fun s => allP p s) = (allP p cur && allP (fun n => decide (n = b) || p n) r)
  | [], cur => by simp [splR, allP]
  | x :: r, cur => by
    unfold splR
    cases c : decide (by8 x = b)
    · rw [cond_false, splR_all b p r (cur ++ [x])]
      have e1 : allP p (cur ++ [x]) = (allP p cur && p (by8 x)) := by simp [allP]
      have e2 : allP (fun n => decide (n = b) || p n) (x :: r) = ((decide (by8 x = b) || p (by8 x)) && allP (fun n => decide (n = b) || p n) r) := rfl
      rw [e1, e2, c, Bool.false_or, Bool.and_assoc]
    · rw [cond_true, List.all_cons, splR_all b p r []]
      have e2 : allP (fun n => decide (n = b) || p n) (x :: r) = ((decide (by8 x = b) || p (by8 x)) && allP (fun n => decide (n = b) || p n) r) := rfl
      rw [e2, c]
      simp [allP]

def hexI (n : Int) : Int := bif isDig n then n - 48 else bif decide (97 ≤ n) && decide (n ≤ 102) then n - 97 + 10 else bif decide (65 ≤ n) && decide (n ≤ 70) then n - 65 + 10 else -1
def freeB (n : Int) : Bool := isLow n || isUp n || isDig n || decide (n = 45) || decide (n = 46) || decide (n = 95) || decide (n = 126)
def upI (n : Int) : Int := bif isLow n then n - 32 else n
def hexTab : Bytes := [48, 49, 50, 51, 52, 53, 54, 55, 56, 57, 65, 66, 67, 68, 69, 70]
theorem hexI_lt (n : Int) : hexI n < 16 := by
  unfold hexI isDig
  cases h : decide (48 ≤ n) && decide (n ≤ 57)
  · rw [cond_false]
    cases h2 : decide (97 ≤ n) && decide (n ≤ 102)
    · rw [cond_false]
      cases h3 : decide (65 ≤ n) && decide (n ≤ 70)
      · rw [cond_false]; omega
      · simp only [Bool.and_eq_true, decide_eq_true_eq] at h3; rw [cond_true]; omega
    · simp only [Bool.and_eq_true, decide_eq_true_eq] at h2; rw [cond_true]; omega
  · simp only [Bool.and_eq_true, decide_eq_true_eq] at h; rw [cond_true]; omega
def pairI (a b : UInt8) : Int := 16 * hexI (by8 a) + hexI (by8 b)
def isPct (c a b : UInt8) : Bool := decide (by8 c = 37) && !decide (hexI (by8 a) < 0) && !decide (hexI (by8 b) < 0)
def pctOne (a b : UInt8) : Bytes := bif freeB (pairI a b) then [UInt8.ofNat (pairI a b).toNat] else [37, UInt8.ofNat (upI (by8 a)).toNat, UInt8.ofNat (upI (by8 b)).toNat]
def pctP : Bytes → Bytes
  | [] => []
  | [c] => [c]
  | [c, d] => [c, d]
  | c :: a :: b :: r => bif isPct c a b then pctOne a b ++ pctP r else c :: pctP (a :: b :: r)
theorem pctP_len : ∀ s : Bytes, (pctP s).length ≤ s.length
  | [] => Nat.le_refl _
  | [c] => Nat.le_refl _
  | [c, d] => Nat.le_refl _
  | c :: a :: b :: r => by
    unfold pctP
    cases isPct c a b
    · have := pctP_len (a :: b :: r); simp only [cond_false, List.length_cons] at this ⊢; omega
    · have := pctP_len r
      have h : (pctOne a b).length ≤ 3 := by unfold pctOne; cases freeB (pairI a b) <;> simp
      simp only [cond_true, List.length_append, List.length_cons]; omega
theorem pctP_slash (r : Bytes) : pctP (47 :: r) = 47 :: pctP r := by
  cases r with
  | nil => rfl
  | cons a r => cases r with
    | nil => rfl
    | cons b r =>
      have e : isPct 47 a b = false := by unfold isPct; rw [show decide (by8 47 = 37) = false from rfl]; rfl
      unfold pctP
      rw [e, cond_false]
      cases r <;> rfl

def dotB (s : Bytes) : Bool := decide (s = [46]) || decide (s = [46, 46])
def stepS (out : List Bytes) (s : Bytes) : List Bytes := bif decide (s = [46]) then out else bif decide (s = [46, 46]) then out.dropLast else out ++ [s]
def segsP (l : List Bytes) : List Bytes := l.foldl stepS [] ++ (bif dotB (l.getLastD []) then [[]] else [])
theorem stepS_len (out : List Bytes) (s : Bytes) : (stepS out s).length ≤ out.length + 1 := by
  unfold stepS
  cases decide (s = [46])
  · cases decide (s = [46, 46])
    · simp
    · simp; omega
  · simp
def pathOk (p : Bytes) : Bool := decide (p.length ≤ 200) && allP isVis p && !hasB p 35 && !hasB p 63
def cleanP (p : Bytes) : Bytes := match p with
  | 47 :: r => bif pathOk (47 :: r) then 47 :: joinP (segsP (splP (pctP r) 47)) [47] else []
  | _ => []

def hoB (n : Int) : Bool := isLow n || isDig n || decide (n = 45) || decide (n = 46)
def hostP (h : Bytes) : Bool := decide (1 ≤ h.length) && decide (h.length ≤ 60) && allP hoB h && !inP (splP h 46) []

def httpB : Bytes := [104, 116, 116, 112, 58, 47, 47]
def portT (po : Int) : Bytes := bif decide (po = 80) then [] else 58 :: decD po
def queryT (q : Bytes) (hq : Bool) : Bytes := bif hq then 63 :: q else []
def urlT (h : Bytes) (po : Int) (pa q : Bytes) (hq : Bool) : Bytes := httpB ++ h ++ portT po ++ pa ++ queryT q hq
def urlOkP (h : Bytes) (po : Int) (pa q : Bytes) (hq : Bool) : Bool :=
  hostP h && (decide (1 ≤ po) && decide (po ≤ 65535)) && !decide (pa = []) && decide (cleanP pa = pa) && allP isVis q && !hasB q 35 && (hq || decide (q = [])) && decide ((urlT h po pa q hq).length ≤ 200)
structure Ur where
  h : Bytes
  po : Int
  pa : Bytes
  q : Bytes
  hq : Bool
def u0 : Ur := ⟨[], 0, [], [], false⟩
def frontP (r : Bytes) : Bytes := uptoP r 63
def authP (r : Bytes) : Bytes := uptoP (frontP r) 47
def portR (a : Bytes) : Int × Bool := bif decide ((uptoP a 58).length < a.length) then decR (a.drop ((uptoP a 58).length + 1)) else (80, true)
def pathR (r : Bytes) : Bytes := bif decide ((authP r).length < (frontP r).length) then cleanP ((frontP r).drop (authP r).length) else [47]
def urlR (r : Bytes) : Ur := ⟨foldP (uptoP (authP r) 58), (portR (authP r)).1, pathR r, bif decide ((frontP r).length < r.length) then r.drop ((frontP r).length + 1) else [], decide ((frontP r).length < r.length)⟩
def readOk (s : Bytes) : Bool := decide (s.length ≤ 200) && decide (7 ≤ s.length) && allP isVis s && !hasB s 35 && decide (foldP (s.take 7) = httpB)
def Ur.ok (u : Ur) : Bool := urlOkP u.h u.po u.pa u.q u.hq
def readUP (s : Bytes) : Ur × Bool := bif readOk s && (portR (authP (s.drop 7))).2 && (urlR (s.drop 7)).ok then (urlR (s.drop 7), true) else (u0, false)
def Ur.text (u : Ur) : Bytes := urlT u.h u.po u.pa u.q u.hq
def canonP (s : Bytes) : Bytes × Bool := bif (readUP s).2 then ((readUP s).1.text, true) else ([], false)
def isCanP (s : Bytes) : Bool := (canonP s).2 && decide ((canonP s).1 = s)
end
end Go.Proofs.YtmmjaomfonknnaaGreatDoor.Ev

namespace Go.Proofs.YtmmjaomfonknnaaGreatDoor.Ev
open Go Go.RowKit
set_option linter.unusedVariables false
set_option linter.unusedSimpArgs false
noncomputable section

theorem isFree_okQ : Sound Kx 259 (pr_s freeB) := of_pr isFree_ok fun b => by
  show (isFree_br b).val = _
  unfold isFree_br freeB
  simp only [Br.val]
  cases isLow b <;> cases isUp b <;> cases isDig b <;> cases decide (b = 45) <;> cases decide (b = 46) <;> cases decide (b = 95) <;> rfl
theorem hostB_okQ : Sound Kx 260 (pr_s hoB) := of_pr hostB_ok fun b => by
  show (hostB_br b).val = _
  unfold hostB_br hoB
  simp only [Br.val]
  cases isLow b <;> cases isDig b <;> cases decide (b = 45) <;> rfl
def hx_s : List AV → List Ob → Br
  | [.int .u8 b], [] => .ret (.int .i64 (hexI b)) []
  | _, _ => .fail
theorem hexOf_okQ : Sound Kx 258 hx_s := hexOf_ok.of fun args objs r h => by
  unfold hx_s at h
  split at h
  case h_2 => cases h
  rename_i b
  cases h
  show (hexOf_br b).val = _
  unfold hexOf_br hexI
  cases h1 : isDig b
  · by_cases g1 : 97 ≤ b <;> by_cases g2 : b ≤ 102 <;> by_cases g3 : 65 ≤ b <;> by_cases g4 : b ≤ 70 <;> simp only [Br.val, g1, g2, g3, g4, decide_true, decide_false, Bool.and_true, Bool.and_false, Bool.false_and, Bool.true_and, cond_true, cond_false] <;>
      simp (disch := omega) only [w8, w64]
  · simp only [isDig, Bool.and_eq_true, decide_eq_true_eq] at h1
    simp only [Br.val]
    rw [w8 (by omega) (by omega), w64 (by omega) (by omega)]; rfl
def fr_s : List AV → List Ob → Br
  | [.int .u8 b], [] => .ite (decide (0 ≤ b) && decide (b < 256)) (.ret (.bool (freeB b)) []) .fail
  | _, _ => .fail
def up8_s : List AV → List Ob → Br
  | [.int .u8 b], [] => .ret (.int .u8 (upI b)) []
  | _, _ => .fail
theorem supper_okQ : Sound Kx 251 up8_s := supper_ok.of fun args objs r h => by
  unfold up8_s at h
  split at h
  case h_2 => cases h
  rename_i b
  cases h
  show (supper_br b).val = _
  unfold supper_br upI isLow
  by_cases g1 : 97 ≤ b <;> by_cases g2 : b ≤ 122 <;> simp only [Br.val, g1, g2, decide_true, decide_false, Bool.and_true, Bool.and_false, Bool.false_and, Bool.true_and, cond_true, cond_false]
  rw [w8 (by omega) (by omega)]
theorem sfree_okQ : Sound Kx 250 fr_s := sfree_ok.of fun args objs r h => by
  unfold fr_s at h
  split at h
  case h_2 => cases h
  rename_i b
  obtain ⟨h1, h2⟩ := ite_some h
  cases h2
  show (sfree_br b).val = _
  unfold sfree_br
  refine (val_t h1).trans ?_
  simp only [Bool.and_eq_true, decide_eq_true_eq] at h1
  have e : hasB [45, 46, 95, 126] b = (decide (b = 45) || decide (b = 46) || decide (b = 95) || decide (b = 126)) := by
    have q : ∀ c : UInt8, decide (by8 c = b) = decide (b = by8 c) := fun c => by rw [Bool.eq_iff_iff, decide_eq_true_eq, decide_eq_true_eq]; exact ⟨Eq.symm, Eq.symm⟩
    show (decide (by8 45 = b) || (decide (by8 46 = b) || (decide (by8 95 = b) || (decide (by8 126 = b) || false)))) = _
    rw [q, q, q, q]
    simp only [Bool.or_false, Bool.or_assoc]; rfl
  have e2 : (decide (97 ≤ lowI b) && decide (lowI b ≤ 122)) = (isLow b || isUp b) := by
    unfold lowI isLow isUp
    by_cases g1 : 65 ≤ b <;> by_cases g2 : b ≤ 90 <;> by_cases g3 : 97 ≤ b <;> by_cases g4 : b ≤ 122 <;> by_cases g5 : 97 ≤ b + 32 <;> by_cases g6 : b + 32 ≤ 122 <;> simp only [g1, g2, g3, g4, g5, g6, decide_true, decide_false, Bool.and_true, Bool.and_false, Bool.or_true, Bool.or_false, cond_true, cond_false] <;> omega
  unfold freeB
  rw [← e2]
  rw [e]
  simp only [Br.val]
  cases decide (97 ≤ lowI b) <;> cases decide (lowI b ≤ 122) <;> cases isDig b <;> cases decide (b = 45) <;> cases decide (b = 46) <;> cases decide (b = 95) <;> rfl

def isHexB (n : Int) : Bool := !decide (hexI n < 0)
def hexN (r : Bytes) (v : Int) : Int := r.foldl (fun v c => v * 16 + hexI (by8 c)) v
def rdHexP (s : Bytes) : Int × Bool := bif decide (1 ≤ s.length) && decide (s.length ≤ 7) && allP isHexB s then (hexN s 0, true) else (0, false)
theorem hex_low_fin : ∀ k : Fin 256, hexI (k.val : Int) = bif isDig (lowI k.val) then lowI k.val - 48 else bif decide (97 ≤ lowI k.val) && decide (lowI k.val ≤ 102) then lowI k.val - 97 + 10 else -1 := by decide +kernel
theorem hex_low (c : UInt8) : hexI (by8 c) = bif isDig (lowI (by8 c)) then lowI (by8 c) - 48 else bif decide (97 ≤ lowI (by8 c)) && decide (lowI (by8 c) ≤ 102) then lowI (by8 c) - 97 + 10 else -1 := hex_low_fin ⟨c.toNat, c.toNat_lt⟩
theorem sReadHex_loop (s : Bytes) (hl : s.length ≤ 7) (k0 : Int → Option Rs) (k1 : Int → Option Rs) (K0 : Option Rs) (h0 : ∀ x, k0 x = K0) : ∀ (r : Bytes) (v i : Int) (n : Nat), At s i r → r.length < n → 0 ≤ v → (v + 1) * 16 ^ r.length ≤ 268435456 →
    sReadHex_F5 n s v i k0 k1 = bif allP isHexB r then k1 (hexN r v) else K0 := by
  intro r; induction r with
  | nil => intro v i n h hn hv hb; obtain ⟨n, rfl⟩ := fuel hn; unfold sReadHex_F5 sReadHex_T5; simp only [h.dge, cond_false]; rfl
  | cons a r ih =>
    intro v i n h hn hv hb; obtain ⟨n, rfl⟩ := fuel hn
    simp only [List.length_cons] at hn hb
    have hp : (1 : Int) ≤ 16 ^ r.length := by have h0 : (0 : Int) < 16 ^ r.length := Int.pow_pos (by decide); omega
    have hb' : ((v + 1) * 16) * 16 ^ r.length ≤ 268435456 := by rw [Int.pow_succ, Int.mul_comm (16 ^ r.length) 16, ← Int.mul_assoc] at hb; exact hb
    have hv16 : (v + 1) * 16 ≤ 268435456 := Int.le_trans (by have := Int.mul_le_mul_of_nonneg_left hp (show 0 ≤ (v + 1) * 16 by omega); rwa [Int.mul_one] at this) hb'
    have hall : allP isHexB (a :: r) = (isHexB (by8 a) && allP isHexB r) := rfl
    have hN : hexN (a :: r) v = hexN r (v * 16 + hexI (by8 a)) := rfl
    have hx := hexI_lt (by8 a)
    have hstep : ∀ d, d = hexI (by8 a) → 0 ≤ d → sReadHex_F5 n s (v * 16 + d) (i + 1) k0 k1 = bif allP isHexB r then k1 (hexN r (v * 16 + hexI (by8 a))) else K0 := by
      intro d hd h0'
      subst hd
      refine ih _ (i + 1) n h.step (by omega) (by omega) (Int.le_trans (Int.mul_le_mul_of_nonneg_right (show v * 16 + hexI (by8 a) + 1 ≤ (v + 1) * 16 by omega) (by omega)) hb')
    have e0 : decide (0 ≤ by8 a) = true := decide_eq_true (by8_nn a)
    have e1 : decide (by8 a < 256) = true := decide_eq_true (by8_lt a)
    have e2 : wk64 (v * 16) = v * 16 := w64 (by omega) (by omega)
    unfold sReadHex_F5 sReadHex_T5
    simp only [h.dlt, h.dnn, h.str, cond_true, h.next (show s.length ≤ 4611686018427387904 by omega), e0, e1, e2, Bool.and_self, h0, hall, hN]
    have hl := hex_low a
    cases c1 : isDig (lowI (by8 a))
    · rw [c1, cond_false] at hl
      cases c2 : decide (97 ≤ lowI (by8 a))
      · rw [c2, Bool.false_and, cond_false] at hl
        have : isHexB (by8 a) = false := by unfold isHexB; rw [hl]; rfl
        rw [this]; rfl
      · cases c3 : decide (lowI (by8 a) ≤ 102)
        · rw [c3, Bool.and_false, cond_false] at hl
          have : isHexB (by8 a) = false := by unfold isHexB; rw [hl]; rfl
          rw [this]; rfl
        · rw [c2, c3, Bool.and_self, cond_true] at hl
          have g2 := of_decide_eq_true c2
          have g3 := of_decide_eq_true c3
          have : isHexB (by8 a) = true := by unfold isHexB; rw [decide_eq_false (by omega)]; rfl
          simp only [cond_false, cond_true, this, Bool.true_and]
          have e : wk64 (wk64 (v * 16 + wk64 (wk8 (lowI (by8 a) - 97))) + 10) = v * 16 + (lowI (by8 a) - 97 + 10) := by
            simp (disch := omega) only [w8, w64]; omega
          rw [e]
          exact hstep _ hl.symm (by omega)
    · rw [c1, cond_true] at hl
      have c1' := c1
      simp only [isDig, Bool.and_eq_true, decide_eq_true_eq] at c1'
      have : isHexB (by8 a) = true := by unfold isHexB; rw [decide_eq_false (by omega)]; rfl
      simp only [cond_false, cond_true, this, Bool.true_and]
      have e : wk64 (v * 16 + wk64 (wk8 (lowI (by8 a) - 48))) = v * 16 + (lowI (by8 a) - 48) := by
        simp (disch := omega) only [w8, w64]
      rw [e]
      exact hstep _ hl.symm (by omega)
def rh_s : List AV → List Ob → Br
  | [.str s], [] => .ret (.tup [.int .i64 (rdHexP s).1, .bool (rdHexP s).2]) []
  | _, _ => .fail
theorem sReadHex_okQ : Sound Kx 249 rh_s := by
  refine (sReadHex_okOf (φ := fun s => .ret (.tup [.int .i64 (rdHexP s).1, .bool (rdHexP s).2]) []) (fun s => s.length + 1) fun s r h => ?_).of fun args objs r h => ?_
  · cases h
    unfold sReadHex_run rdHexP
    cases c1 : decide ((s.length : Int) = 0)
    · have c1' := of_decide_eq_false c1
      cases c2 : decide ((7 : Int) < (s.length : Int))
      · have c2' := of_decide_eq_false c2
        simp only [cond_false]
        rw [sReadHex_loop s (by omega) _ _ (some (AV.tup [AV.int .i64 0, AV.bool false], [])) (fun _ => rfl) s 0 0 _ (At.start s) (by omega) (by omega) ?_, decide_eq_true (show 1 ≤ s.length by omega), decide_eq_true (show s.length ≤ 7 by omega)]
        · cases allP isHexB s <;> rfl
        · have h3 : (16 : Nat) ^ s.length ≤ 16 ^ 7 := Nat.pow_le_pow_right (by decide) (by omega)
          have e : (16 : Int) ^ s.length = ((16 ^ s.length : Nat) : Int) := by rw [Int.natCast_pow]; rfl
          rw [e]
          have e2 : (16 : Nat) ^ 7 = 268435456 := by decide
          omega
      · have c2' := of_decide_eq_true c2
        rw [decide_eq_false (show ¬ s.length ≤ 7 by omega), Bool.and_false, Bool.false_and]; rfl
    · have c1' := of_decide_eq_true c1
      rw [decide_eq_false (show ¬ 1 ≤ s.length by omega), Bool.false_and, Bool.false_and]; rfl
  · unfold rh_s at h; split at h
    · exact h
    · cases h

theorem ssplit_loop (s : Bytes) (hl : s.length ≤ 1000000) (b : Int) (k : List Bytes → Option Rs) : ∀ (n : Nat) (p cur r : Bytes) (out : List Bytes) (i fr : Int), s = p ++ cur ++ r → i = ((p.length + cur.length : Nat) : Int) → fr = (p.length : Int) → r.length + 1 < n → out.length ≤ p.length →
    ssplit_F4 n s b fr i out k = k (out ++ splR b cur r) := by
  intro n; induction n with
  | zero => intro p cur r out i fr hs hi hf hn; omega
  | succ n ih =>
    intro p cur r out i fr hs hi hf hn ho
    have hat : At s i r := ⟨p ++ cur, hs, by rw [hi]; simp⟩
    have hlen : s.length = p.length + cur.length + r.length := by rw [hs]; simp; omega
    have hcut : cut s fr i = cur := by rw [hs, hi, hf, Int.natCast_add]; exact cut_mid p cur r
    have hnf : decide (0 ≤ fr) = true := decide_eq_true (by omega)
    have hfi : decide (fr ≤ i) = true := decide_eq_true (by omega)
    have hil : decide (i ≤ (s.length : Int)) = true := decide_eq_true (by omega)
    have hw : wk64 (i + 1) = i + 1 := w64 (by omega) (by omega)
    have hap : decide ((out.length + [cur].length) * 16 ≤ 140737488355328) = true := decide_eq_true (by simp only [List.length_singleton]; omega)
    unfold ssplit_F4 ssplit_T4
    simp only [hcut, hnf, hfi, hil, hw, one_set, hap, cond_true, hat.dnn]
    cases r with
    | nil =>
      have he : decide (i = (s.length : Int)) = true := decide_eq_true (by simp only [List.length_nil] at hlen; omega)
      simp only [List.length_nil] at hn
      obtain ⟨m, rfl⟩ : ∃ m, n = m + 1 := ⟨n - 1, by omega⟩
      have hx : decide (i + 1 ≤ (s.length : Int)) = false := decide_eq_false (by simp only [List.length_nil] at hlen; omega)
      have hend : ∀ o, ssplit_F4 (m + 1) s b (i + 1) (i + 1) o k = k o := fun o => by unfold ssplit_F4 ssplit_T4; rw [hx, cond_false]
      simp only [he, cond_true, hend]
      rfl
    | cons c r =>
      have he : decide (i = (s.length : Int)) = false := decide_eq_false (by simp only [List.length_cons] at hlen; omega)
      simp only [List.length_cons] at hn hlen
      have hstep := ih p (cur ++ [c]) r out (i + 1) fr (by rw [hs]; simp) (by rw [hi]; simp; omega) hf (by omega) ho
      have hcom := ih (p ++ cur ++ [c]) [] r (out ++ [cur]) (i + 1) (i + 1) (by rw [hs]; simp) (by rw [hi]; simp; omega) (by rw [hi]; simp; omega) (by omega) (by simp; omega)
      simp only [he, hat.dlt, hat.str, cond_true, cond_false, hstep, hcom]
      rw [splR_cons]
      cases decide (by8 c = b) <;> simp
def sp_s : List AV → List Ob → Br
  | [.str s, .int .u8 b], [] => .ite (decide (s.length ≤ 1000000)) (.ret (.ref 0 0) [.arr .str 0 false (splP s b)]) .fail
  | _, _ => .fail
theorem ssplit_okQ : Sound Kx 227 sp_s := by
  refine (ssplit_okOf (φ := fun s b => .ite (decide (s.length ≤ 1000000)) (.ret (.ref 0 0) [.arr .str 0 false (splP s b)]) .fail) (fun s _ => s.length + 2) fun s b r h => ?_).of fun args objs r h => ?_
  · obtain ⟨h1, h2⟩ := ite_some h
    cases h2
    rw [decide_eq_true_eq] at h1
    unfold ssplit_run
    rw [ssplit_loop s h1 b _ _ [] [] s [] 0 0 rfl rfl rfl (by omega) (by simp)]
    rfl
  · unfold sp_s at h; split at h
    · exact h
    · cases h
end
end Go.Proofs.YtmmjaomfonknnaaGreatDoor.Ev

namespace Go.Proofs.YtmmjaomfonknnaaGreatDoor.Ev
open Go Go.RowKit
set_option linter.unusedVariables false
set_option linter.unusedSimpArgs false
noncomputable section
def ascP (s : Bytes) : Bool := allP (fun n => decide (n < 128)) s
theorem asc_get {s : Bytes} (h : ascP s = true) : ∀ (j : Nat) b, s[j]? = some b → b.toNat < 128 := by
  intro j b hb
  unfold ascP allP at h
  rw [List.all_eq_true] at h
  have := h b (List.mem_of_getElem? hb)
  rw [decide_eq_true_eq] at this
  unfold by8 at this; omega
def anyIx (s cs : Bytes) : Int := Lib.indexAny s cs
def ixAny_s : List AV → List Ob → Br
  | [.str s, .str cs], [] => .ite (decide (s.length ≤ 1000000) && decide (cs.length ≤ 1000000) && ascP s && ascP cs) (.ret (.int .i64 (anyIx s cs)) []) .fail
  | _, _ => .fail
theorem ixAny_okQ : Sound Kx 205 ixAny_s := by
  refine sound_calls Tryz.func205 (by kernel_rfl) rfl fun args objs res objs' hv w L vs hR hr => ?_
  unfold ixAny_s at hv
  split at hv
  case h_2 => cases hv
  rename_i s cs
  obtain ⟨h1, h2⟩ := ite_some hv
  cases h2
  simp only [Bool.and_eq_true, decide_eq_true_eq] at h1
  refine ⟨rfl, ?_⟩
  simp only [rels, rel] at hr
  obtain ⟨v, vs', rfl, rfl, v2, vs2, rfl, rfl, rfl⟩ := hr
  refine (Tryz.strings_IndexAny_laid ⟨s.toArray⟩ ⟨cs.toArray⟩ w (by show s.toArray.size < _; simp; omega) (by show cs.toArray.size < _; simp; omega) (asc_get h1.1.2) (asc_get h1.2)).mono ?_
  rintro e w' ⟨rfl, hb⟩
  exact ⟨_, rfl, hb, by simp only [rel]; rfl⟩
def coAny_s : List AV → List Ob → Br
  | [.str s, .str cs], [] => .ite (decide (s.length ≤ 1000000) && decide (cs.length ≤ 1000000) && ascP s && ascP cs) (.ret (.bool (decide (0 ≤ anyIx s cs))) []) .fail
  | _, _ => .fail
theorem coAny_okQ : Sound Kx 240 coAny_s := by
  refine sound_calls Tryz.func240 (by kernel_rfl) rfl fun args objs res objs' hv w L vs hR hr => ?_
  unfold coAny_s at hv
  split at hv
  case h_2 => cases hv
  rename_i s cs
  obtain ⟨h1, h2⟩ := ite_some hv
  cases h2
  simp only [Bool.and_eq_true, decide_eq_true_eq] at h1
  refine ⟨rfl, ?_⟩
  simp only [rels, rel] at hr
  obtain ⟨v, vs', rfl, rfl, v2, vs2, rfl, rfl, rfl⟩ := hr
  refine (Tryz.strings_ContainsAny_laid ⟨s.toArray⟩ ⟨cs.toArray⟩ w (by show s.toArray.size < _; simp; omega) (by show cs.toArray.size < _; simp; omega) (asc_get h1.1.2) (asc_get h1.2)).mono ?_
  rintro e w' ⟨rfl, hb⟩
  exact ⟨_, rfl, hb, by simp only [rel]; rfl⟩
def con1_s : List AV → List Ob → Br
  | [.str s, .str [c]], [] => .ret (.bool (hasB s (by8 c))) []
  | _, _ => .fail
theorem indexByte_has (s : Bytes) (c : UInt8) : decide (0 ≤ Lib.indexByte s c) = hasB s (by8 c) := by
  have := ixOf_nn s (by8 c) (by8_nn c) (by8_lt c)
  unfold ixOf at this
  have e : (by8 c).toNat.toUInt8 = c := by simp [by8]
  rw [e] at this; exact this
theorem con1_okQ : Sound Kx 173 con1_s := by
  refine sound_calls Tryz.func173 (by kernel_rfl) rfl fun args objs res objs' hv w L vs hR hr => ?_
  unfold con1_s at hv
  split at hv
  case h_2 => cases hv
  rename_i s c
  cases hv
  refine ⟨rfl, ?_⟩
  simp only [rels, rel] at hr
  obtain ⟨v, vs', rfl, rfl, v2, vs2, rfl, rfl, rfl⟩ := hr
  refine (Tryz.strings_Contains_one ⟨s.toArray⟩ c w).mono ?_
  rintro e w' ⟨rfl, rfl⟩
  refine ⟨_, rfl, Below.refl _ _, ?_⟩
  simp only [rel]
  rw [← indexByte_has s c]
theorem anyIx_cases (a b : UInt8) : ∀ s : Bytes, anyIx s [a, b] = bif hasB s (by8 a) || hasB s (by8 b) then ((uptoP (uptoP s (by8 b)) (by8 a)).length : Int) else -1
  | [] => rfl
  | x :: r => by
    have ih := anyIx_cases a b r
    unfold anyIx at ih ⊢
    unfold Lib.indexAny
    have e1 : hasB (x :: r) (by8 a) = (decide (by8 x = by8 a) || hasB r (by8 a)) := rfl
    have e2 : hasB (x :: r) (by8 b) = (decide (by8 x = by8 b) || hasB r (by8 b)) := rfl
    have hx : ∀ c : UInt8, decide (by8 x = by8 c) = decide (x = c) := fun c => by
      rw [Bool.eq_iff_iff, decide_eq_true_eq, decide_eq_true_eq]; exact ⟨by8_inj, fun h => by rw [h]⟩
    have hc : [a, b].contains x = (decide (x = a) || decide (x = b)) := by
      simp only [List.contains_cons, List.contains_nil, Bool.or_false]
      cases h1 : decide (x = a) <;> cases h2 : decide (x = b) <;> simp_all
    rw [hc, e1, e2, hx a, hx b, ih]
    unfold uptoP
    rw [List.takeWhile_cons, hx b]
    cases h2 : decide (x = b)
    · simp only [Bool.not_false, if_true, List.takeWhile_cons, hx a, Bool.or_false, Bool.false_or]
      cases h1 : decide (x = a)
      · simp only [Bool.not_false, if_true, Bool.false_or, Bool.false_eq_true, if_false, List.length_cons]
        cases hasB r (by8 a) || hasB r (by8 b)
        · rfl
        · have : ((((r.takeWhile fun x => !decide (by8 x = by8 b)).takeWhile fun x => !decide (by8 x = by8 a)).length : Int) == -1) = false := by rw [beq_eq_false_iff_ne]; omega
          rw [cond_true, this]; simp
      · simp
    · simp
end
end Go.Proofs.YtmmjaomfonknnaaGreatDoor.Ev

namespace Go.Proofs.YtmmjaomfonknnaaGreatDoor.Ev
open Go Go.RowKit
set_option linter.unusedVariables false
set_option linter.unusedSimpArgs false
noncomputable section
theorem mut_lt {w : World} {L : Lk} (hR : RelO Kx w ⟨MutO L, L.F⟩ L w) {b o : Nat} (h : Mut L b o) : b < w.heap.size := by
  rcases h with h | ⟨i, p, hp, hr⟩
  · exact hR.fs b o h
  · exact inR_lt (hR.ok i p hp) hr
def split_s : List AV → List Ob → Br
  | [.str s, .str [c]], [] => .ite (decide (s.length ≤ 1000000)) (.ret (.sh .str (splP s (by8 c))) []) .fail
  | _, _ => .fail
theorem split_okQ : Sound Kx 241 split_s := by
  refine sound_calls Tryz.func241 (by kernel_rfl) rfl fun args objs res objs' hv w L vs hR hr => ?_
  unfold split_s at hv
  split at hv
  case h_2 => cases hv
  rename_i s c
  obtain ⟨h1, h2⟩ := ite_some hv
  cases h2
  rw [decide_eq_true_eq] at h1
  refine ⟨rfl, ?_⟩
  simp only [rels, rel] at hr
  obtain ⟨v, vs', rfl, rfl, v2, vs2, rfl, rfl, rfl⟩ := hr
  obtain ⟨m, hm⟩ := hR.g.2.1 0 (by kernel_rfl)
  have key := Tryz.strings_Split ⟨s.toArray⟩ ⟨#[c]⟩ m w (by show s.toArray.size < _; simp; omega) hm (Nat.le_refl 1)
  have hl : ((Lib.splitB ⟨#[c]⟩ 0 (Lib.countB ⟨s.toArray⟩ ⟨#[c]⟩) ⟨s.toArray⟩).map (·.data.toList)) = splP s (by8 c) := by
    rw [Lib.splitB_data]
    exact split_spl c s
  have hlen := congrArg List.length hl
  rw [List.length_map] at hlen
  have hcnt : Lib.countB ⟨s.toArray⟩ ⟨#[c]⟩ + 1 = (splP s (by8 c)).length := by
    rw [← hlen]; exact (Lib.splitB_all ⟨#[c]⟩ (Nat.le_refl 1) 0 _ ⟨s.toArray⟩ rfl).symm
  generalize hL : Lib.splitB ⟨#[c]⟩ 0 (Lib.countB ⟨s.toArray⟩ ⟨#[c]⟩) ⟨s.toArray⟩ = l at key hl hlen
  rw [hcnt] at key
  refine key.mono ?_
  rintro e w' ⟨rfl, rfl⟩
  refine ⟨_, rfl, (Below.refl _ _).alloc (Nat.le_refl _) _, ?_⟩
  simp only [rel, rd]
  refine ⟨_, _, _, rfl, rfl, Nat.le_refl _, .inr ⟨w.heap.size, 0, rfl, fun i hi => ⟨[.string ⟨(splP s (by8 c))[i].toArray⟩], rfl, rfl, fun j hj => ?_⟩⟩⟩
  obtain rfl : j = 0 := by simp only [Ty.size, Ty.cts, List.length_singleton] at hj; omega
  refine ⟨?_, fun hm => absurd (mut_lt hR hm) (Nat.lt_irrefl _)⟩
  have hi' : i < l.length := by omega
  have hget : (splP s (by8 c))[i] = l[i].data.toList := by
    have : (l.map (·.data.toList))[i]? = (splP s (by8 c))[i]? := by rw [hl]
    rw [List.getElem?_map, List.getElem?_eq_getElem hi', List.getElem?_eq_getElem hi] at this
    simpa using this.symm
  rw [hget]
  simp only [Ty.size, Ty.cts, List.length_singleton, Nat.mul_one, Nat.add_zero, Nat.zero_add]
  rw [World.cell?_alloc_new]
  simp [List.getElem?_eq_getElem hi']
end
end Go.Proofs.YtmmjaomfonknnaaGreatDoor.Ev

namespace Go.Proofs.YtmmjaomfonknnaaGreatDoor.Ev
open Go Go.RowKit
set_option linter.unusedVariables false
set_option linter.unusedSimpArgs false
noncomputable section

def iunes_O : Opt := { cons := [], keepNil := false, mutF := [], live := [(3, [0, 3, 4])], outs := [(3, [2, 3])] }
def iunes_C : Spec := (add (add noS 259 (pr_s freeB)) 258 hx_s)
theorem iunes_C_ok : ∀ fn, Sound Kx fn (iunes_C fn) := (sound_add (sound_add (sound_no Kx) isFree_okQ) hexOf_okQ)
def iunes_T3 (v3x0 : Bytes) (v3x1 : Int) (v3x2 : (List Int)) (kR3 : Bytes → Int → (List Int) → Option Rs) (k3e0 : (List Int) → Option Rs) : Option Rs :=
  (bif (decide (v3x1 < ((List.length v3x0) : Int))) then (bif (decide ((0 : Int) ≤ v3x1)) then (bif (decide (v3x1 < ((List.length v3x0) : Int))) then (bif (!(decide ((strAt v3x0 v3x1) = (37 : Int)))) then (bif (decide ((0 : Int) ≤ v3x1)) then (bif (decide (v3x1 < ((List.length v3x0) : Int))) then (bif (decide ((((List.length v3x2) + (List.length (List.set (List.replicate (1 : Nat) (0 : Int)) (0 : Nat) (strAt v3x0 v3x1)))) * (1 : Nat)) ≤ (140737488355328 : Nat))) then (kR3 v3x0 (wk64 (v3x1 + (1 : Int))) (v3x2 ++ (List.set (List.replicate (1 : Nat) (0 : Int)) (0 : Nat) (strAt v3x0 v3x1)))) else (none)) else (none)) else (none)) else (bif (decide (((List.length v3x0) : Int) ≤ (wk64 (v3x1 + (2 : Int))))) then (bif (decide ((0 : Int) ≤ v3x1)) then (bif (decide (v3x1 < ((List.length v3x0) : Int))) then (bif (decide ((((List.length v3x2) + (List.length (List.set (List.replicate (1 : Nat) (0 : Int)) (0 : Nat) (strAt v3x0 v3x1)))) * (1 : Nat)) ≤ (140737488355328 : Nat))) then (kR3 v3x0 (wk64 (v3x1 + (1 : Int))) (v3x2 ++ (List.set (List.replicate (1 : Nat) (0 : Int)) (0 : Nat) (strAt v3x0 v3x1)))) else (none)) else (none)) else (none)) else (bif (decide ((0 : Int) ≤ (wk64 (v3x1 + (1 : Int))))) then (bif (decide ((wk64 (v3x1 + (1 : Int))) < ((List.length v3x0) : Int))) then (bif (decide ((hexI (strAt v3x0 (wk64 (v3x1 + (1 : Int))))) < (0 : Int))) then (bif (decide ((0 : Int) ≤ v3x1)) then (bif (decide (v3x1 < ((List.length v3x0) : Int))) then (bif (decide ((((List.length v3x2) + (List.length (List.set (List.replicate (1 : Nat) (0 : Int)) (0 : Nat) (strAt v3x0 v3x1)))) * (1 : Nat)) ≤ (140737488355328 : Nat))) then (kR3 v3x0 (wk64 (v3x1 + (1 : Int))) (v3x2 ++ (List.set (List.replicate (1 : Nat) (0 : Int)) (0 : Nat) (strAt v3x0 v3x1)))) else (none)) else (none)) else (none)) else (bif (decide ((0 : Int) ≤ (wk64 (v3x1 + (2 : Int))))) then (bif (decide ((wk64 (v3x1 + (2 : Int))) < ((List.length v3x0) : Int))) then (bif (decide ((hexI (strAt v3x0 (wk64 (v3x1 + (2 : Int))))) < (0 : Int))) then (bif (decide ((0 : Int) ≤ v3x1)) then (bif (decide (v3x1 < ((List.length v3x0) : Int))) then (bif (decide ((((List.length v3x2) + (List.length (List.set (List.replicate (1 : Nat) (0 : Int)) (0 : Nat) (strAt v3x0 v3x1)))) * (1 : Nat)) ≤ (140737488355328 : Nat))) then (kR3 v3x0 (wk64 (v3x1 + (1 : Int))) (v3x2 ++ (List.set (List.replicate (1 : Nat) (0 : Int)) (0 : Nat) (strAt v3x0 v3x1)))) else (none)) else (none)) else (none)) else (bif (decide ((0 : Int) ≤ (wk64 (v3x1 + (1 : Int))))) then (bif (decide ((wk64 (v3x1 + (1 : Int))) < ((List.length v3x0) : Int))) then (bif (decide ((0 : Int) ≤ (wk64 (v3x1 + (2 : Int))))) then (bif (decide ((wk64 (v3x1 + (2 : Int))) < ((List.length v3x0) : Int))) then (bif (freeB (wk8 (wk64 ((wk64 ((16 : Int) * (hexI (strAt v3x0 (wk64 (v3x1 + (1 : Int))))))) + (hexI (strAt v3x0 (wk64 (v3x1 + (2 : Int))))))))) then (bif (decide ((((List.length v3x2) + (List.length (List.set (List.replicate (1 : Nat) (0 : Int)) (0 : Nat) (wk8 (wk64 ((wk64 ((16 : Int) * (hexI (strAt v3x0 (wk64 (v3x1 + (1 : Int))))))) + (hexI (strAt v3x0 (wk64 (v3x1 + (2 : Int))))))))))) * (1 : Nat)) ≤ (140737488355328 : Nat))) then (kR3 v3x0 (wk64 ((wk64 (v3x1 + (2 : Int))) + (1 : Int))) (v3x2 ++ (List.set (List.replicate (1 : Nat) (0 : Int)) (0 : Nat) (wk8 (wk64 ((wk64 ((16 : Int) * (hexI (strAt v3x0 (wk64 (v3x1 + (1 : Int))))))) + (hexI (strAt v3x0 (wk64 (v3x1 + (2 : Int))))))))))) else (none)) else (bif (decide ((0 : Int) ≤ (Int.fdiv (wk8 (wk64 ((wk64 ((16 : Int) * (hexI (strAt v3x0 (wk64 (v3x1 + (1 : Int))))))) + (hexI (strAt v3x0 (wk64 (v3x1 + (2 : Int)))))))) (16 : Int)))) then (bif (decide ((Int.fdiv (wk8 (wk64 ((wk64 ((16 : Int) * (hexI (strAt v3x0 (wk64 (v3x1 + (1 : Int))))))) + (hexI (strAt v3x0 (wk64 (v3x1 + (2 : Int)))))))) (16 : Int)) < (16 : Int))) then (bif (decide ((0 : Int) ≤ (wkk .u8 (((BitVec.toNat ((BitVec.ofInt (8 : Nat) (wk8 (wk64 ((wk64 ((16 : Int) * (hexI (strAt v3x0 (wk64 (v3x1 + (1 : Int))))))) + (hexI (strAt v3x0 (wk64 (v3x1 + (2 : Int))))))))) &&& (BitVec.ofInt (8 : Nat) (15 : Int)))) : Nat) : Int)))) then (bif (decide ((wkk .u8 (((BitVec.toNat ((BitVec.ofInt (8 : Nat) (wk8 (wk64 ((wk64 ((16 : Int) * (hexI (strAt v3x0 (wk64 (v3x1 + (1 : Int))))))) + (hexI (strAt v3x0 (wk64 (v3x1 + (2 : Int))))))))) &&& (BitVec.ofInt (8 : Nat) (15 : Int)))) : Nat) : Int)) < (16 : Int))) then (bif (decide ((((List.length v3x2) + (List.length (List.set (List.set (List.set (List.replicate (3 : Nat) (0 : Int)) (0 : Nat) (37 : Int)) (1 : Nat) (strAt ((48 : UInt8) :: ((49 : UInt8) :: ((50 : UInt8) :: ((51 : UInt8) :: ((52 : UInt8) :: ((53 : UInt8) :: ((54 : UInt8) :: ((55 : UInt8) :: ((56 : UInt8) :: ((57 : UInt8) :: ((65 : UInt8) :: ((66 : UInt8) :: ((67 : UInt8) :: ((68 : UInt8) :: ((69 : UInt8) :: ((70 : UInt8) :: ([] : Bytes))))))))))))))))) (Int.fdiv (wk8 (wk64 ((wk64 ((16 : Int) * (hexI (strAt v3x0 (wk64 (v3x1 + (1 : Int))))))) + (hexI (strAt v3x0 (wk64 (v3x1 + (2 : Int)))))))) (16 : Int)))) (2 : Nat) (strAt ((48 : UInt8) :: ((49 : UInt8) :: ((50 : UInt8) :: ((51 : UInt8) :: ((52 : UInt8) :: ((53 : UInt8) :: ((54 : UInt8) :: ((55 : UInt8) :: ((56 : UInt8) :: ((57 : UInt8) :: ((65 : UInt8) :: ((66 : UInt8) :: ((67 : UInt8) :: ((68 : UInt8) :: ((69 : UInt8) :: ((70 : UInt8) :: ([] : Bytes))))))))))))))))) (wkk .u8 (((BitVec.toNat ((BitVec.ofInt (8 : Nat) (wk8 (wk64 ((wk64 ((16 : Int) * (hexI (strAt v3x0 (wk64 (v3x1 + (1 : Int))))))) + (hexI (strAt v3x0 (wk64 (v3x1 + (2 : Int))))))))) &&& (BitVec.ofInt (8 : Nat) (15 : Int)))) : Nat) : Int)))))) * (1 : Nat)) ≤ (140737488355328 : Nat))) then (kR3 v3x0 (wk64 ((wk64 (v3x1 + (2 : Int))) + (1 : Int))) (v3x2 ++ (List.set (List.set (List.set (List.replicate (3 : Nat) (0 : Int)) (0 : Nat) (37 : Int)) (1 : Nat) (strAt ((48 : UInt8) :: ((49 : UInt8) :: ((50 : UInt8) :: ((51 : UInt8) :: ((52 : UInt8) :: ((53 : UInt8) :: ((54 : UInt8) :: ((55 : UInt8) :: ((56 : UInt8) :: ((57 : UInt8) :: ((65 : UInt8) :: ((66 : UInt8) :: ((67 : UInt8) :: ((68 : UInt8) :: ((69 : UInt8) :: ((70 : UInt8) :: ([] : Bytes))))))))))))))))) (Int.fdiv (wk8 (wk64 ((wk64 ((16 : Int) * (hexI (strAt v3x0 (wk64 (v3x1 + (1 : Int))))))) + (hexI (strAt v3x0 (wk64 (v3x1 + (2 : Int)))))))) (16 : Int)))) (2 : Nat) (strAt ((48 : UInt8) :: ((49 : UInt8) :: ((50 : UInt8) :: ((51 : UInt8) :: ((52 : UInt8) :: ((53 : UInt8) :: ((54 : UInt8) :: ((55 : UInt8) :: ((56 : UInt8) :: ((57 : UInt8) :: ((65 : UInt8) :: ((66 : UInt8) :: ((67 : UInt8) :: ((68 : UInt8) :: ((69 : UInt8) :: ((70 : UInt8) :: ([] : Bytes))))))))))))))))) (wkk .u8 (((BitVec.toNat ((BitVec.ofInt (8 : Nat) (wk8 (wk64 ((wk64 ((16 : Int) * (hexI (strAt v3x0 (wk64 (v3x1 + (1 : Int))))))) + (hexI (strAt v3x0 (wk64 (v3x1 + (2 : Int))))))))) &&& (BitVec.ofInt (8 : Nat) (15 : Int)))) : Nat) : Int)))))) else (none)) else (none)) else (none)) else (none)) else (none))) else (none)) else (none)) else (none)) else (none))) else (none)) else (none))) else (none)) else (none)))) else (none)) else (none)) else (k3e0 v3x2))
def iunes_F3 : Nat → Bytes → Int → (List Int) → ((List Int) → Option Rs) → Option Rs
  | 0, _, _, _, _ => none
  | n + 1, v3x0, v3x1, v3x2, k3e0 => iunes_T3 v3x0 v3x1 v3x2 (fun v3x0 v3x1 v3x2 => iunes_F3 n v3x0 v3x1 v3x2 k3e0) k3e0
def iunes_h3 (v3x0 : Bytes) (v3x1 : Int) (v3x2 : (List Int)) : St := (St.mk (slots 0 77 [(0, (AV.str v3x0)), (3, (AV.ref (256 : Nat) (0 : Nat))), (4, (AV.int .i64 v3x1))]) (((256 : Nat), (Ob.arr (Ty.int .u8) (0 : Nat) false v3x2)) :: ([] : (List (Nat × (Ob))))))
def iunes_x3e0 (x3x0x0 : (List Int)) : St := (St.mk (slots 0 77 [(3, (AV.ref (256 : Nat) (0 : Nat)))]) (((256 : Nat), (Ob.arr (Ty.int .u8) (0 : Nat) false x3x0x0)) :: ([] : (List (Nat × (Ob))))))
noncomputable def iunes_b3 : Code := codeAt (codeOf Tryz.f242) [1, 1, 0, 1, 0, 0]
def iunes_L3 (N : Nat) (st : St) (k : Ex → St → Option Rs) : Option Rs := match takeF [0, 3, 4] 0 77 st.env, st.objs with
  | some [.str v3x0, .ref 256 0, .int .i64 v3x1], [(256, .arr (Ty.int .u8) 0 false v3x2)] => iunes_F3 N v3x0 v3x1 v3x2 (fun x3x0x0 => k (Ex.exit (0 : Nat)) (iunes_x3e0 x3x0x0))
  | _, _ => none
def iunes_L (N : Nat) : Lam := fun j st k => match j with
  | 3 => iunes_L3 N st k
  | _ => none
theorem iunes_round3 (N : Nat) (again : St → Option Rs) (k : Ex → St → Option Rs) (wv3x0 : Bytes) (wv3x1 : Int) (wv3x2 : (List Int)) (v3x0 : Bytes) (v3x1 : Int) (v3x2 : (List Int)) :
    roundK 0 (fun st k => evL Kx iunes_C iunes_O 0 (iunes_L N) iunes_b3 st k) (iunes_h3 wv3x0 wv3x1 wv3x2).env again (iunes_h3 v3x0 v3x1 v3x2) (outK iunes_O 0 iunes_b3 k) = iunes_T3 v3x0 v3x1 v3x2 (fun v3x0 v3x1 v3x2 => again (iunes_h3 v3x0 v3x1 v3x2)) (fun x3x0x0 => k (Ex.exit (0 : Nat)) (iunes_x3e0 x3x0x0)) := by kernel_rfl
theorem iunes_loop3 (N : Nat) (k : Ex → St → Option Rs) (wv3x0 : Bytes) (wv3x1 : Int) (wv3x2 : (List Int)) : ∀ (n : Nat) (v3x0 : Bytes) (v3x1 : Int) (v3x2 : (List Int)),
    loopK 0 (fun st k => evL Kx iunes_C iunes_O 0 (iunes_L N) iunes_b3 st k) (iunes_h3 wv3x0 wv3x1 wv3x2).env n (iunes_h3 v3x0 v3x1 v3x2) (outK iunes_O 0 iunes_b3 k) = iunes_F3 n v3x0 v3x1 v3x2 (fun x3x0x0 => k (Ex.exit (0 : Nat)) (iunes_x3e0 x3x0x0))
  | 0, _, _, _ => rfl
  | n + 1, v3x0, v3x1, v3x2 => by
    rw [loopK_succ, iunes_round3]
    simp only [iunes_loop3 N k wv3x0 wv3x1 wv3x2 n]
    rfl
theorem iunes_at3 (N : Nat) {s : St} {k : Ex → St → Option Rs} {r : Rs} (h : iunes_L3 N s k = some r) : ∃ (v3x0 : Bytes) (v3x1 : Int) (v3x2 : (List Int)), s = (iunes_h3 v3x0 v3x1 v3x2) ∧ iunes_F3 N v3x0 v3x1 v3x2 (fun x3x0x0 => k (Ex.exit (0 : Nat)) (iunes_x3e0 x3x0x0)) = some r := by
  cases s with | mk env objs =>
  unfold iunes_L3 at h
  split at h
  · rename_i e1 e2
    have e3 := takeF_slots _ _ _ _ e1
    simp only at e2 e3
    subst e2 e3
    exact ⟨_, _, _, rfl, h⟩
  · cases h
theorem iunes_in3 : loops iunes_b3 = [] := by kernel_rfl
theorem iunes_lid3 : lid iunes_b3 = 3 := by kernel_rfl
theorem iunes_ok3 (N : Nat) : OkL Kx iunes_C iunes_O 0 N (iunes_L N) iunes_b3 := by
  intro s k k' r hk h
  rw [iunes_lid3] at h
  obtain ⟨v3x0, v3x1, v3x2, rfl, h⟩ := iunes_at3 N h
  refine loopL (Λ := iunes_L N) iunes_b3 ?_ N hk ((iunes_loop3 N k v3x0 v3x1 v3x2 N v3x0 v3x1 v3x2).trans h)
  rw [iunes_in3]
  exact fun _ h => nomatch h
def iunes_run (N : Nat) (s : Bytes) : Option Rs := (iunes_F3 N s (0 : Int) ([] : (List Int)) (fun x3x0x0 => (some ((AV.str (ofBytes x3x0x0)), ([] : List Ob)))))
theorem iunes_runL (N : Nat) (s : Bytes) : runL Kx iunes_C iunes_O (iunes_L N) Tryz.f242 ([.str s]) ([]) = iunes_run N s := by kernel_rfl
theorem iunes_body : Tryz.f242.body = some (codeOf Tryz.f242) := by kernel_rfl
theorem iunes_loops : loops (codeOf Tryz.f242) = [iunes_b3] := by kernel_rfl
theorem iunes_ev (N : Nat) (s : Bytes) {res_ : Rs} (hyp_ : iunes_run N s = some res_) : ∃ n_, runF Kx iunes_C iunes_O n_ Tryz.f242 ([.str s]) ([]) = some res_ :=
  ⟨N, runL_runF iunes_body (by rw [iunes_loops]; exact List.forall_mem_cons.2 ⟨iunes_ok3 N, fun _ h => nomatch h⟩) ((iunes_runL N s).trans hyp_)⟩
def iunes_sOf (φ : Bytes → Br) : List AV → List Ob → Br
  | [.str s], [] => φ s
  | _, _ => .fail
theorem iunes_okOf {φ : Bytes → Br} (fu : Bytes → Nat) (hv : ∀ s res_, (φ s).val = some res_ → iunes_run (fu s) s = some res_) : Sound Kx 242 (iunes_sOf φ) := by
  refine sound_run (C := iunes_C) (O := iunes_O) KOk iunes_C_ok Tryz.func242 (by kernel_rfl) fun args objs res os h => ?_
  unfold iunes_sOf at h
  split at h
  · exact iunes_ev _ _ (hv _ _ h)
  · cases h

def sunes_O : Opt := { cons := [], keepNil := false, mutF := [], live := [(3, [0, 3, 4])], outs := [(3, [2, 3])] }
def sunes_C : Spec := (add (add (add noS 249 rh_s) 250 fr_s) 251 up8_s)
theorem sunes_C_ok : ∀ fn, Sound Kx fn (sunes_C fn) := (sound_add (sound_add (sound_add (sound_no Kx) sReadHex_okQ) sfree_okQ) supper_okQ)
def sunes_T3 (v3x0 : Bytes) (v3x1 : Int) (v3x2 : (List Int)) (kR3 : Bytes → Int → (List Int) → Option Rs) (k3e0 : (List Int) → Option Rs) : Option Rs :=
  (bif (decide (v3x1 < ((List.length v3x0) : Int))) then (bif (decide ((0 : Int) ≤ v3x1)) then (bif (decide (v3x1 < ((List.length v3x0) : Int))) then (bif (!(decide ((strAt v3x0 v3x1) = (37 : Int)))) then (bif (decide ((0 : Int) ≤ v3x1)) then (bif (decide (v3x1 < ((List.length v3x0) : Int))) then (bif (decide ((((List.length v3x2) + (List.length (List.set (List.replicate (1 : Nat) (0 : Int)) (0 : Nat) (strAt v3x0 v3x1)))) * (1 : Nat)) ≤ (140737488355328 : Nat))) then (kR3 v3x0 (wk64 (v3x1 + (1 : Int))) (v3x2 ++ (List.set (List.replicate (1 : Nat) (0 : Int)) (0 : Nat) (strAt v3x0 v3x1)))) else (none)) else (none)) else (none)) else (bif (decide (((List.length v3x0) : Int) ≤ (wk64 (v3x1 + (2 : Int))))) then (bif (decide ((0 : Int) ≤ v3x1)) then (bif (decide (v3x1 < ((List.length v3x0) : Int))) then (bif (decide ((((List.length v3x2) + (List.length (List.set (List.replicate (1 : Nat) (0 : Int)) (0 : Nat) (strAt v3x0 v3x1)))) * (1 : Nat)) ≤ (140737488355328 : Nat))) then (kR3 v3x0 (wk64 (v3x1 + (1 : Int))) (v3x2 ++ (List.set (List.replicate (1 : Nat) (0 : Int)) (0 : Nat) (strAt v3x0 v3x1)))) else (none)) else (none)) else (none)) else (bif (decide ((0 : Int) ≤ (wk64 (v3x1 + (1 : Int))))) then (bif (decide ((wk64 (v3x1 + (1 : Int))) ≤ (wk64 (v3x1 + (3 : Int))))) then (bif (decide ((wk64 (v3x1 + (3 : Int))) ≤ ((List.length v3x0) : Int))) then (bif (!(rdHexP (cut v3x0 (wk64 (v3x1 + (1 : Int))) (wk64 (v3x1 + (3 : Int))))).2) then (bif (decide ((0 : Int) ≤ v3x1)) then (bif (decide (v3x1 < ((List.length v3x0) : Int))) then (bif (decide ((((List.length v3x2) + (List.length (List.set (List.replicate (1 : Nat) (0 : Int)) (0 : Nat) (strAt v3x0 v3x1)))) * (1 : Nat)) ≤ (140737488355328 : Nat))) then (kR3 v3x0 (wk64 (v3x1 + (1 : Int))) (v3x2 ++ (List.set (List.replicate (1 : Nat) (0 : Int)) (0 : Nat) (strAt v3x0 v3x1)))) else (none)) else (none)) else (none)) else (bif ((decide ((0 : Int) ≤ (wk8 (rdHexP (cut v3x0 (wk64 (v3x1 + (1 : Int))) (wk64 (v3x1 + (3 : Int))))).1))) && (decide ((wk8 (rdHexP (cut v3x0 (wk64 (v3x1 + (1 : Int))) (wk64 (v3x1 + (3 : Int))))).1) < (256 : Int)))) then (bif (freeB (wk8 (rdHexP (cut v3x0 (wk64 (v3x1 + (1 : Int))) (wk64 (v3x1 + (3 : Int))))).1)) then (bif (decide ((((List.length v3x2) + (List.length (List.set (List.replicate (1 : Nat) (0 : Int)) (0 : Nat) (wk8 (rdHexP (cut v3x0 (wk64 (v3x1 + (1 : Int))) (wk64 (v3x1 + (3 : Int))))).1)))) * (1 : Nat)) ≤ (140737488355328 : Nat))) then (kR3 v3x0 (wk64 ((wk64 (v3x1 + (2 : Int))) + (1 : Int))) (v3x2 ++ (List.set (List.replicate (1 : Nat) (0 : Int)) (0 : Nat) (wk8 (rdHexP (cut v3x0 (wk64 (v3x1 + (1 : Int))) (wk64 (v3x1 + (3 : Int))))).1)))) else (none)) else (bif (decide ((0 : Int) ≤ (wk64 (v3x1 + (1 : Int))))) then (bif (decide ((wk64 (v3x1 + (1 : Int))) < ((List.length v3x0) : Int))) then (bif (decide ((0 : Int) ≤ (wk64 (v3x1 + (2 : Int))))) then (bif (decide ((wk64 (v3x1 + (2 : Int))) < ((List.length v3x0) : Int))) then (bif (decide ((((List.length v3x2) + (List.length (List.set (List.set (List.set (List.replicate (3 : Nat) (0 : Int)) (0 : Nat) (37 : Int)) (1 : Nat) (upI (strAt v3x0 (wk64 (v3x1 + (1 : Int)))))) (2 : Nat) (upI (strAt v3x0 (wk64 (v3x1 + (2 : Int)))))))) * (1 : Nat)) ≤ (140737488355328 : Nat))) then (kR3 v3x0 (wk64 ((wk64 (v3x1 + (2 : Int))) + (1 : Int))) (v3x2 ++ (List.set (List.set (List.set (List.replicate (3 : Nat) (0 : Int)) (0 : Nat) (37 : Int)) (1 : Nat) (upI (strAt v3x0 (wk64 (v3x1 + (1 : Int)))))) (2 : Nat) (upI (strAt v3x0 (wk64 (v3x1 + (2 : Int)))))))) else (none)) else (none)) else (none)) else (none)) else (none))) else (none))) else (none)) else (none)) else (none)))) else (none)) else (none)) else (k3e0 v3x2))
def sunes_F3 : Nat → Bytes → Int → (List Int) → ((List Int) → Option Rs) → Option Rs
  | 0, _, _, _, _ => none
  | n + 1, v3x0, v3x1, v3x2, k3e0 => sunes_T3 v3x0 v3x1 v3x2 (fun v3x0 v3x1 v3x2 => sunes_F3 n v3x0 v3x1 v3x2 k3e0) k3e0
def sunes_h3 (v3x0 : Bytes) (v3x1 : Int) (v3x2 : (List Int)) : St := (St.mk (slots 0 75 [(0, (AV.str v3x0)), (3, (AV.ref (256 : Nat) (0 : Nat))), (4, (AV.int .i64 v3x1))]) (((256 : Nat), (Ob.arr (Ty.int .u8) (0 : Nat) false v3x2)) :: ([] : (List (Nat × (Ob))))))
def sunes_x3e0 (x3x0x0 : (List Int)) : St := (St.mk (slots 0 75 [(3, (AV.ref (256 : Nat) (0 : Nat)))]) (((256 : Nat), (Ob.arr (Ty.int .u8) (0 : Nat) false x3x0x0)) :: ([] : (List (Nat × (Ob))))))
noncomputable def sunes_b3 : Code := codeAt (codeOf Tryz.f228) [1, 1, 0, 1, 0, 0]
def sunes_L3 (N : Nat) (st : St) (k : Ex → St → Option Rs) : Option Rs := match takeF [0, 3, 4] 0 75 st.env, st.objs with
  | some [.str v3x0, .ref 256 0, .int .i64 v3x1], [(256, .arr (Ty.int .u8) 0 false v3x2)] => sunes_F3 N v3x0 v3x1 v3x2 (fun x3x0x0 => k (Ex.exit (0 : Nat)) (sunes_x3e0 x3x0x0))
  | _, _ => none
def sunes_L (N : Nat) : Lam := fun j st k => match j with
  | 3 => sunes_L3 N st k
  | _ => none
theorem sunes_round3 (N : Nat) (again : St → Option Rs) (k : Ex → St → Option Rs) (wv3x0 : Bytes) (wv3x1 : Int) (wv3x2 : (List Int)) (v3x0 : Bytes) (v3x1 : Int) (v3x2 : (List Int)) :
    roundK 0 (fun st k => evL Kx sunes_C sunes_O 0 (sunes_L N) sunes_b3 st k) (sunes_h3 wv3x0 wv3x1 wv3x2).env again (sunes_h3 v3x0 v3x1 v3x2) (outK sunes_O 0 sunes_b3 k) = sunes_T3 v3x0 v3x1 v3x2 (fun v3x0 v3x1 v3x2 => again (sunes_h3 v3x0 v3x1 v3x2)) (fun x3x0x0 => k (Ex.exit (0 : Nat)) (sunes_x3e0 x3x0x0)) := by kernel_rfl
theorem sunes_loop3 (N : Nat) (k : Ex → St → Option Rs) (wv3x0 : Bytes) (wv3x1 : Int) (wv3x2 : (List Int)) : ∀ (n : Nat) (v3x0 : Bytes) (v3x1 : Int) (v3x2 : (List Int)),
    loopK 0 (fun st k => evL Kx sunes_C sunes_O 0 (sunes_L N) sunes_b3 st k) (sunes_h3 wv3x0 wv3x1 wv3x2).env n (sunes_h3 v3x0 v3x1 v3x2) (outK sunes_O 0 sunes_b3 k) = sunes_F3 n v3x0 v3x1 v3x2 (fun x3x0x0 => k (Ex.exit (0 : Nat)) (sunes_x3e0 x3x0x0))
  | 0, _, _, _ => rfl
  | n + 1, v3x0, v3x1, v3x2 => by
    rw [loopK_succ, sunes_round3]
    simp only [sunes_loop3 N k wv3x0 wv3x1 wv3x2 n]
    rfl
theorem sunes_at3 (N : Nat) {s : St} {k : Ex → St → Option Rs} {r : Rs} (h : sunes_L3 N s k = some r) : ∃ (v3x0 : Bytes) (v3x1 : Int) (v3x2 : (List Int)), s = (sunes_h3 v3x0 v3x1 v3x2) ∧ sunes_F3 N v3x0 v3x1 v3x2 (fun x3x0x0 => k (Ex.exit (0 : Nat)) (sunes_x3e0 x3x0x0)) = some r := by
  cases s with | mk env objs =>
  unfold sunes_L3 at h
  split at h
  · rename_i e1 e2
    have e3 := takeF_slots _ _ _ _ e1
    simp only at e2 e3
    subst e2 e3
    exact ⟨_, _, _, rfl, h⟩
  · cases h
theorem sunes_in3 : loops sunes_b3 = [] := by kernel_rfl
theorem sunes_lid3 : lid sunes_b3 = 3 := by kernel_rfl
theorem sunes_ok3 (N : Nat) : OkL Kx sunes_C sunes_O 0 N (sunes_L N) sunes_b3 := by
  intro s k k' r hk h
  rw [sunes_lid3] at h
  obtain ⟨v3x0, v3x1, v3x2, rfl, h⟩ := sunes_at3 N h
  refine loopL (Λ := sunes_L N) sunes_b3 ?_ N hk ((sunes_loop3 N k v3x0 v3x1 v3x2 N v3x0 v3x1 v3x2).trans h)
  rw [sunes_in3]
  exact fun _ h => nomatch h
def sunes_run (N : Nat) (s : Bytes) : Option Rs := (sunes_F3 N s (0 : Int) ([] : (List Int)) (fun x3x0x0 => (some ((AV.str (ofBytes x3x0x0)), ([] : List Ob)))))
theorem sunes_runL (N : Nat) (s : Bytes) : runL Kx sunes_C sunes_O (sunes_L N) Tryz.f228 ([.str s]) ([]) = sunes_run N s := by kernel_rfl
theorem sunes_body : Tryz.f228.body = some (codeOf Tryz.f228) := by kernel_rfl
theorem sunes_loops : loops (codeOf Tryz.f228) = [sunes_b3] := by kernel_rfl
theorem sunes_ev (N : Nat) (s : Bytes) {res_ : Rs} (hyp_ : sunes_run N s = some res_) : ∃ n_, runF Kx sunes_C sunes_O n_ Tryz.f228 ([.str s]) ([]) = some res_ :=
  ⟨N, runL_runF sunes_body (by rw [sunes_loops]; exact List.forall_mem_cons.2 ⟨sunes_ok3 N, fun _ h => nomatch h⟩) ((sunes_runL N s).trans hyp_)⟩
def sunes_sOf (φ : Bytes → Br) : List AV → List Ob → Br
  | [.str s], [] => φ s
  | _, _ => .fail
theorem sunes_okOf {φ : Bytes → Br} (fu : Bytes → Nat) (hv : ∀ s res_, (φ s).val = some res_ → sunes_run (fu s) s = some res_) : Sound Kx 228 (sunes_sOf φ) := by
  refine sound_run (C := sunes_C) (O := sunes_O) KOk sunes_C_ok Tryz.func228 (by kernel_rfl) fun args objs res os h => ?_
  unfold sunes_sOf at h
  split at h
  · exact sunes_ev _ _ (hv _ _ h)
  · cases h

def allHost_O : Opt := { cons := [], keepNil := false, mutF := [], live := [(2, [0, 1, 5])], outs := [(2, [4])] }
def allHost_C : Spec := (add noS 260 (pr_s hoB))
theorem allHost_C_ok : ∀ fn, Sound Kx fn (allHost_C fn) := (sound_add (sound_no Kx) hostB_okQ)
def allHost_T2 (v2x0 : Bytes) (v2x1 : Int) (kR2 : Bytes → Int → Option Rs) (k2e0 : Option Rs) (k2e1 : Option Rs) : Option Rs :=
  (bif (decide (v2x1 < ((List.length v2x0) : Int))) then (bif (decide ((0 : Int) ≤ v2x1)) then (bif (decide (v2x1 < ((List.length v2x0) : Int))) then (bif (!(hoB (strAt v2x0 v2x1))) then k2e0 else (kR2 v2x0 (wk64 (v2x1 + (1 : Int))))) else (none)) else (none)) else k2e1)
def allHost_F2 : Nat → Bytes → Int → (Option Rs) → (Option Rs) → Option Rs
  | 0, _, _, _, _ => none
  | n + 1, v2x0, v2x1, k2e0, k2e1 => allHost_T2 v2x0 v2x1 (fun v2x0 v2x1 => allHost_F2 n v2x0 v2x1 k2e0 k2e1) k2e0 k2e1
def allHost_h2 (v2x0 : Bytes) (v2x1 : Int) : St := (St.mk (slots 0 18 [(0, (AV.str v2x0)), (1, (AV.fn (260 : Nat) ([] : List AV))), (5, (AV.int .i64 v2x1))]) ([] : (List (Nat × (Ob)))))
def allHost_x2e0  : St := (St.mk (slots 0 18 [(4, (AV.bool false))]) ([] : (List (Nat × (Ob)))))
def allHost_x2e1  : St := (St.mk (slots 0 18 []) ([] : (List (Nat × (Ob)))))
noncomputable def allHost_b2 : Code := codeAt (codeOf Tryz.f95) [1, 0, 1, 0, 0]
def allHost_L2 (N : Nat) (st : St) (k : Ex → St → Option Rs) : Option Rs := match takeF [0, 1, 5] 0 18 st.env, st.objs with
  | some [.str v2x0, .fn 260 [], .int .i64 v2x1], [] => allHost_F2 N v2x0 v2x1 (k Ex.ret (allHost_x2e0)) (k (Ex.exit (0 : Nat)) (allHost_x2e1))
  | _, _ => none
def allHost_L (N : Nat) : Lam := fun j st k => match j with
  | 2 => allHost_L2 N st k
  | _ => none
theorem allHost_round2 (N : Nat) (again : St → Option Rs) (k : Ex → St → Option Rs) (wv2x0 : Bytes) (wv2x1 : Int) (v2x0 : Bytes) (v2x1 : Int) :
    roundK 0 (fun st k => evL Kx allHost_C allHost_O 0 (allHost_L N) allHost_b2 st k) (allHost_h2 wv2x0 wv2x1).env again (allHost_h2 v2x0 v2x1) (outK allHost_O 0 allHost_b2 k) = allHost_T2 v2x0 v2x1 (fun v2x0 v2x1 => again (allHost_h2 v2x0 v2x1)) (k Ex.ret (allHost_x2e0)) (k (Ex.exit (0 : Nat)) (allHost_x2e1)) := by kernel_rfl
theorem allHost_loop2 (N : Nat) (k : Ex → St → Option Rs) (wv2x0 : Bytes) (wv2x1 : Int) : ∀ (n : Nat) (v2x0 : Bytes) (v2x1 : Int),
    loopK 0 (fun st k => evL Kx allHost_C allHost_O 0 (allHost_L N) allHost_b2 st k) (allHost_h2 wv2x0 wv2x1).env n (allHost_h2 v2x0 v2x1) (outK allHost_O 0 allHost_b2 k) = allHost_F2 n v2x0 v2x1 (k Ex.ret (allHost_x2e0)) (k (Ex.exit (0 : Nat)) (allHost_x2e1))
  | 0, _, _ => rfl
  | n + 1, v2x0, v2x1 => by
    rw [loopK_succ, allHost_round2]
    simp only [allHost_loop2 N k wv2x0 wv2x1 n]
    rfl
theorem allHost_at2 (N : Nat) {s : St} {k : Ex → St → Option Rs} {r : Rs} (h : allHost_L2 N s k = some r) : ∃ (v2x0 : Bytes) (v2x1 : Int), s = (allHost_h2 v2x0 v2x1) ∧ allHost_F2 N v2x0 v2x1 (k Ex.ret (allHost_x2e0)) (k (Ex.exit (0 : Nat)) (allHost_x2e1)) = some r := by
  cases s with | mk env objs =>
  unfold allHost_L2 at h
  split at h
  · rename_i e1 e2
    have e3 := takeF_slots _ _ _ _ e1
    simp only at e2 e3
    subst e2 e3
    exact ⟨_, _, rfl, h⟩
  · cases h
theorem allHost_in2 : loops allHost_b2 = [] := by kernel_rfl
theorem allHost_lid2 : lid allHost_b2 = 2 := by kernel_rfl
theorem allHost_ok2 (N : Nat) : OkL Kx allHost_C allHost_O 0 N (allHost_L N) allHost_b2 := by
  intro s k k' r hk h
  rw [allHost_lid2] at h
  obtain ⟨v2x0, v2x1, rfl, h⟩ := allHost_at2 N h
  refine loopL (Λ := allHost_L N) allHost_b2 ?_ N hk ((allHost_loop2 N k v2x0 v2x1 N v2x0 v2x1).trans h)
  rw [allHost_in2]
  exact fun _ h => nomatch h
def allHost_run (N : Nat) (s : Bytes) : Option Rs := (allHost_F2 N s (0 : Int) (some ((AV.bool false), ([] : List Ob))) (some ((AV.bool true), ([] : List Ob))))
theorem allHost_runL (N : Nat) (s : Bytes) : runL Kx allHost_C allHost_O (allHost_L N) Tryz.f95 ([.str s, .fn 260 []]) ([]) = allHost_run N s := by kernel_rfl
theorem allHost_body : Tryz.f95.body = some (codeOf Tryz.f95) := by kernel_rfl
theorem allHost_loops : loops (codeOf Tryz.f95) = [allHost_b2] := by kernel_rfl
theorem allHost_ev (N : Nat) (s : Bytes) {res_ : Rs} (hyp_ : allHost_run N s = some res_) : ∃ n_, runF Kx allHost_C allHost_O n_ Tryz.f95 ([.str s, .fn 260 []]) ([]) = some res_ :=
  ⟨N, runL_runF allHost_body (by rw [allHost_loops]; exact List.forall_mem_cons.2 ⟨allHost_ok2 N, fun _ h => nomatch h⟩) ((allHost_runL N s).trans hyp_)⟩
def allHost_sOf (φ : Bytes → Br) : List AV → List Ob → Br
  | [.str s, .fn 260 []], [] => φ s
  | _, _ => .fail
theorem allHost_okOf {φ : Bytes → Br} (fu : Bytes → Nat) (hv : ∀ s res_, (φ s).val = some res_ → allHost_run (fu s) s = some res_) : Sound Kx 95 (allHost_sOf φ) := by
  refine sound_run (C := allHost_C) (O := allHost_O) KOk allHost_C_ok Tryz.func95 (by kernel_rfl) fun args objs res os h => ?_
  unfold allHost_sOf at h
  split at h
  · exact allHost_ev _ _ (hv _ _ h)
  · cases h

def sHost_O : Opt := { cons := [], keepNil := false, mutF := [], live := [(10, [3, 4, 5]), (5, [3, 4])], outs := [(10, [2, 3, 4]), (5, [2])] }
def sHost_C : Spec := (add (add noS 125 (pr_s isDig)) 227 sp_s)
theorem sHost_C_ok : ∀ fn, Sound Kx fn (sHost_C fn) := (sound_add (sound_add (sound_no Kx) sdigit_okQ) ssplit_okQ)
def sHost_T10 (v10x0 : Int) (v10x1 : Int) (v10x2 : (List Bytes)) (kR10 : Int → Int → (List Bytes) → Option Rs) (k10e0 : Int → (List Bytes) → Option Rs) (k10e1 : Int → (List Bytes) → Option Rs) : Option Rs :=
  (bif (decide ((0 : Int) ≤ v10x0)) then (bif (decide (v10x0 < ((List.length v10x2) : Int))) then (bif (decide (v10x1 < ((List.length (List.getD v10x2 (Int.toNat v10x0) ([] : Bytes))) : Int))) then (bif (decide ((0 : Int) ≤ v10x0)) then (bif (decide (v10x0 < ((List.length v10x2) : Int))) then (bif (decide ((0 : Int) ≤ v10x1)) then (bif (decide (v10x1 < ((List.length (List.getD v10x2 (Int.toNat v10x0) ([] : Bytes))) : Int))) then (bif (decide ((97 : Int) ≤ (strAt (List.getD v10x2 (Int.toNat v10x0) ([] : Bytes)) v10x1))) then (bif (!(decide ((strAt (List.getD v10x2 (Int.toNat v10x0) ([] : Bytes)) v10x1) ≤ (122 : Int)))) then (bif (!(isDig (strAt (List.getD v10x2 (Int.toNat v10x0) ([] : Bytes)) v10x1))) then (bif (!(decide ((strAt (List.getD v10x2 (Int.toNat v10x0) ([] : Bytes)) v10x1) = (45 : Int)))) then (k10e0 v10x0 v10x2) else (kR10 v10x0 (wk64 (v10x1 + (1 : Int))) v10x2)) else (kR10 v10x0 (wk64 (v10x1 + (1 : Int))) v10x2)) else (kR10 v10x0 (wk64 (v10x1 + (1 : Int))) v10x2)) else (bif (!(isDig (strAt (List.getD v10x2 (Int.toNat v10x0) ([] : Bytes)) v10x1))) then (bif (!(decide ((strAt (List.getD v10x2 (Int.toNat v10x0) ([] : Bytes)) v10x1) = (45 : Int)))) then (k10e0 v10x0 v10x2) else (kR10 v10x0 (wk64 (v10x1 + (1 : Int))) v10x2)) else (kR10 v10x0 (wk64 (v10x1 + (1 : Int))) v10x2))) else (none)) else (none)) else (none)) else (none)) else (k10e1 v10x0 v10x2)) else (none)) else (none))
def sHost_F10 : Nat → Int → Int → (List Bytes) → (Int → (List Bytes) → Option Rs) → (Int → (List Bytes) → Option Rs) → Option Rs
  | 0, _, _, _, _, _ => none
  | n + 1, v10x0, v10x1, v10x2, k10e0, k10e1 => sHost_T10 v10x0 v10x1 v10x2 (fun v10x0 v10x1 v10x2 => sHost_F10 n v10x0 v10x1 v10x2 k10e0 k10e1) k10e0 k10e1
def sHost_h10 (v10x0 : Int) (v10x1 : Int) (v10x2 : (List Bytes)) : St := (St.mk (slots 0 59 [(3, (AV.ref (256 : Nat) (0 : Nat))), (4, (AV.int .i64 v10x0)), (5, (AV.int .i64 v10x1))]) (((256 : Nat), (Ob.arr Ty.str (0 : Nat) false v10x2)) :: ([] : (List (Nat × (Ob))))))
def sHost_x10e0 (x10x0x0 : Int) (x10x0x1 : (List Bytes)) : St := (St.mk (slots 0 59 [(2, (AV.bool false)), (3, (AV.ref (256 : Nat) (0 : Nat))), (4, (AV.int .i64 x10x0x0))]) (((256 : Nat), (Ob.arr Ty.str (0 : Nat) false x10x0x1)) :: ([] : (List (Nat × (Ob))))))
def sHost_x10e1 (x10x1x0 : Int) (x10x1x1 : (List Bytes)) : St := (St.mk (slots 0 59 [(3, (AV.ref (256 : Nat) (0 : Nat))), (4, (AV.int .i64 x10x1x0))]) (((256 : Nat), (Ob.arr Ty.str (0 : Nat) false x10x1x1)) :: ([] : (List (Nat × (Ob))))))
noncomputable def sHost_b10 : Code := codeAt (codeOf Tryz.f229) [1, 1, 1, 0, 1, 0, 0, 1, 0, 0, 1, 1, 0, 0]
def sHost_L10 (N : Nat) (st : St) (k : Ex → St → Option Rs) : Option Rs := match takeF [3, 4, 5] 0 59 st.env, st.objs with
  | some [.ref 256 0, .int .i64 v10x0, .int .i64 v10x1], [(256, .arr Ty.str 0 false v10x2)] => sHost_F10 N v10x0 v10x1 v10x2 (fun x10x0x0 x10x0x1 => k Ex.ret (sHost_x10e0 x10x0x0 x10x0x1)) (fun x10x1x0 x10x1x1 => k (Ex.exit (2 : Nat)) (sHost_x10e1 x10x1x0 x10x1x1))
  | _, _ => none
def sHost_T5 (N : Nat) (v5x0 : Int) (v5x1 : (List Bytes)) (kR5 : Int → (List Bytes) → Option Rs) (k5e0 : Option Rs) (k5e1 : Option Rs) : Option Rs :=
  (bif (decide (v5x0 < ((List.length v5x1) : Int))) then (bif (decide ((0 : Int) ≤ v5x0)) then (bif (decide (v5x0 < ((List.length v5x1) : Int))) then (bif (decide ((List.getD v5x1 (Int.toNat v5x0) ([] : Bytes)) = ([] : Bytes))) then k5e0 else (sHost_F10 N v5x0 (0 : Int) v5x1 (fun x10x0x0 => (fun x10x0x1 => k5e0)) (fun x10x1x0 => (fun x10x1x1 => (kR5 (wk64 (x10x1x0 + (1 : Int))) x10x1x1))))) else (none)) else (none)) else k5e1)
def sHost_F5 (N : Nat) : Nat → Int → (List Bytes) → (Option Rs) → (Option Rs) → Option Rs
  | 0, _, _, _, _ => none
  | n + 1, v5x0, v5x1, k5e0, k5e1 => sHost_T5 N v5x0 v5x1 (fun v5x0 v5x1 => sHost_F5 N n v5x0 v5x1 k5e0 k5e1) k5e0 k5e1
def sHost_h5 (v5x0 : Int) (v5x1 : (List Bytes)) : St := (St.mk (slots 0 59 [(3, (AV.ref (256 : Nat) (0 : Nat))), (4, (AV.int .i64 v5x0))]) (((256 : Nat), (Ob.arr Ty.str (0 : Nat) false v5x1)) :: ([] : (List (Nat × (Ob))))))
def sHost_x5e0  : St := (St.mk (slots 0 59 [(2, (AV.bool false))]) ([] : (List (Nat × (Ob)))))
def sHost_x5e1  : St := (St.mk (slots 0 59 []) ([] : (List (Nat × (Ob)))))
noncomputable def sHost_b5 : Code := codeAt (codeOf Tryz.f229) [1, 1, 1, 0, 1, 0, 0]
def sHost_L5 (N : Nat) (st : St) (k : Ex → St → Option Rs) : Option Rs := match takeF [3, 4] 0 59 st.env, st.objs with
  | some [.ref 256 0, .int .i64 v5x0], [(256, .arr Ty.str 0 false v5x1)] => sHost_F5 N N v5x0 v5x1 (k Ex.ret (sHost_x5e0)) (k (Ex.exit (0 : Nat)) (sHost_x5e1))
  | _, _ => none
def sHost_L (N : Nat) : Lam := fun j st k => match j with
  | 10 => sHost_L10 N st k
  | 5 => sHost_L5 N st k
  | _ => none
theorem sHost_round10 (N : Nat) (again : St → Option Rs) (k : Ex → St → Option Rs) (wv10x0 : Int) (wv10x1 : Int) (wv10x2 : (List Bytes)) (v10x0 : Int) (v10x1 : Int) (v10x2 : (List Bytes)) :
    roundK 0 (fun st k => evL Kx sHost_C sHost_O 0 (sHost_L N) sHost_b10 st k) (sHost_h10 wv10x0 wv10x1 wv10x2).env again (sHost_h10 v10x0 v10x1 v10x2) (outK sHost_O 0 sHost_b10 k) = sHost_T10 v10x0 v10x1 v10x2 (fun v10x0 v10x1 v10x2 => again (sHost_h10 v10x0 v10x1 v10x2)) (fun x10x0x0 x10x0x1 => k Ex.ret (sHost_x10e0 x10x0x0 x10x0x1)) (fun x10x1x0 x10x1x1 => k (Ex.exit (2 : Nat)) (sHost_x10e1 x10x1x0 x10x1x1)) := by kernel_rfl
theorem sHost_loop10 (N : Nat) (k : Ex → St → Option Rs) (wv10x0 : Int) (wv10x1 : Int) (wv10x2 : (List Bytes)) : ∀ (n : Nat) (v10x0 : Int) (v10x1 : Int) (v10x2 : (List Bytes)),
    loopK 0 (fun st k => evL Kx sHost_C sHost_O 0 (sHost_L N) sHost_b10 st k) (sHost_h10 wv10x0 wv10x1 wv10x2).env n (sHost_h10 v10x0 v10x1 v10x2) (outK sHost_O 0 sHost_b10 k) = sHost_F10 n v10x0 v10x1 v10x2 (fun x10x0x0 x10x0x1 => k Ex.ret (sHost_x10e0 x10x0x0 x10x0x1)) (fun x10x1x0 x10x1x1 => k (Ex.exit (2 : Nat)) (sHost_x10e1 x10x1x0 x10x1x1))
  | 0, _, _, _ => rfl
  | n + 1, v10x0, v10x1, v10x2 => by
    rw [loopK_succ, sHost_round10]
    simp only [sHost_loop10 N k wv10x0 wv10x1 wv10x2 n]
    rfl
theorem sHost_at10 (N : Nat) {s : St} {k : Ex → St → Option Rs} {r : Rs} (h : sHost_L10 N s k = some r) : ∃ (v10x0 : Int) (v10x1 : Int) (v10x2 : (List Bytes)), s = (sHost_h10 v10x0 v10x1 v10x2) ∧ sHost_F10 N v10x0 v10x1 v10x2 (fun x10x0x0 x10x0x1 => k Ex.ret (sHost_x10e0 x10x0x0 x10x0x1)) (fun x10x1x0 x10x1x1 => k (Ex.exit (2 : Nat)) (sHost_x10e1 x10x1x0 x10x1x1)) = some r := by
  cases s with | mk env objs =>
  unfold sHost_L10 at h
  split at h
  · rename_i e1 e2
    have e3 := takeF_slots _ _ _ _ e1
    simp only at e2 e3
    subst e2 e3
    exact ⟨_, _, _, rfl, h⟩
  · cases h
theorem sHost_in10 : loops sHost_b10 = [] := by kernel_rfl
theorem sHost_lid10 : lid sHost_b10 = 10 := by kernel_rfl
theorem sHost_ok10 (N : Nat) : OkL Kx sHost_C sHost_O 0 N (sHost_L N) sHost_b10 := by
  intro s k k' r hk h
  rw [sHost_lid10] at h
  obtain ⟨v10x0, v10x1, v10x2, rfl, h⟩ := sHost_at10 N h
  refine loopL (Λ := sHost_L N) sHost_b10 ?_ N hk ((sHost_loop10 N k v10x0 v10x1 v10x2 N v10x0 v10x1 v10x2).trans h)
  rw [sHost_in10]
  exact fun _ h => nomatch h
theorem sHost_round5 (N : Nat) (again : St → Option Rs) (k : Ex → St → Option Rs) (wv5x0 : Int) (wv5x1 : (List Bytes)) (v5x0 : Int) (v5x1 : (List Bytes)) :
    roundK 0 (fun st k => evL Kx sHost_C sHost_O 0 (sHost_L N) sHost_b5 st k) (sHost_h5 wv5x0 wv5x1).env again (sHost_h5 v5x0 v5x1) (outK sHost_O 0 sHost_b5 k) = sHost_T5 N v5x0 v5x1 (fun v5x0 v5x1 => again (sHost_h5 v5x0 v5x1)) (k Ex.ret (sHost_x5e0)) (k (Ex.exit (0 : Nat)) (sHost_x5e1)) := by kernel_rfl
theorem sHost_loop5 (N : Nat) (k : Ex → St → Option Rs) (wv5x0 : Int) (wv5x1 : (List Bytes)) : ∀ (n : Nat) (v5x0 : Int) (v5x1 : (List Bytes)),
    loopK 0 (fun st k => evL Kx sHost_C sHost_O 0 (sHost_L N) sHost_b5 st k) (sHost_h5 wv5x0 wv5x1).env n (sHost_h5 v5x0 v5x1) (outK sHost_O 0 sHost_b5 k) = sHost_F5 N n v5x0 v5x1 (k Ex.ret (sHost_x5e0)) (k (Ex.exit (0 : Nat)) (sHost_x5e1))
  | 0, _, _ => rfl
  | n + 1, v5x0, v5x1 => by
    rw [loopK_succ, sHost_round5]
    simp only [sHost_loop5 N k wv5x0 wv5x1 n]
    rfl
theorem sHost_at5 (N : Nat) {s : St} {k : Ex → St → Option Rs} {r : Rs} (h : sHost_L5 N s k = some r) : ∃ (v5x0 : Int) (v5x1 : (List Bytes)), s = (sHost_h5 v5x0 v5x1) ∧ sHost_F5 N N v5x0 v5x1 (k Ex.ret (sHost_x5e0)) (k (Ex.exit (0 : Nat)) (sHost_x5e1)) = some r := by
  cases s with | mk env objs =>
  unfold sHost_L5 at h
  split at h
  · rename_i e1 e2
    have e3 := takeF_slots _ _ _ _ e1
    simp only at e2 e3
    subst e2 e3
    exact ⟨_, _, rfl, h⟩
  · cases h
theorem sHost_in5 : loops sHost_b5 = [sHost_b10] := by kernel_rfl
theorem sHost_lid5 : lid sHost_b5 = 5 := by kernel_rfl
theorem sHost_ok5 (N : Nat) : OkL Kx sHost_C sHost_O 0 N (sHost_L N) sHost_b5 := by
  intro s k k' r hk h
  rw [sHost_lid5] at h
  obtain ⟨v5x0, v5x1, rfl, h⟩ := sHost_at5 N h
  refine loopL (Λ := sHost_L N) sHost_b5 ?_ N hk ((sHost_loop5 N k v5x0 v5x1 N v5x0 v5x1).trans h)
  rw [sHost_in5]
  exact List.forall_mem_cons.2 ⟨sHost_ok10 N, fun _ h => nomatch h⟩
def sHost_run (N : Nat) (s : Bytes) : Option Rs := (bif (decide (((List.length s) : Int) = (0 : Int))) then (some ((AV.bool false), ([] : List Ob))) else (bif (decide ((60 : Int) < ((List.length s) : Int))) then (some ((AV.bool false), ([] : List Ob))) else (bif (decide ((List.length s) ≤ (1000000 : Nat))) then (sHost_F5 N N (0 : Int) (splP s (46 : Int)) (some ((AV.bool false), ([] : List Ob))) (some ((AV.bool true), ([] : List Ob)))) else (none))))
theorem sHost_runL (N : Nat) (s : Bytes) : runL Kx sHost_C sHost_O (sHost_L N) Tryz.f229 ([.str s]) ([]) = sHost_run N s := by kernel_rfl
theorem sHost_body : Tryz.f229.body = some (codeOf Tryz.f229) := by kernel_rfl
theorem sHost_loops : loops (codeOf Tryz.f229) = [sHost_b5, sHost_b10] := by kernel_rfl
theorem sHost_ev (N : Nat) (s : Bytes) {res_ : Rs} (hyp_ : sHost_run N s = some res_) : ∃ n_, runF Kx sHost_C sHost_O n_ Tryz.f229 ([.str s]) ([]) = some res_ :=
  ⟨N, runL_runF sHost_body (by rw [sHost_loops]; exact List.forall_mem_cons.2 ⟨sHost_ok5 N, List.forall_mem_cons.2 ⟨sHost_ok10 N, fun _ h => nomatch h⟩⟩) ((sHost_runL N s).trans hyp_)⟩
def sHost_sOf (φ : Bytes → Br) : List AV → List Ob → Br
  | [.str s], [] => φ s
  | _, _ => .fail
theorem sHost_okOf {φ : Bytes → Br} (fu : Bytes → Nat) (hv : ∀ s res_, (φ s).val = some res_ → sHost_run (fu s) s = some res_) : Sound Kx 229 (sHost_sOf φ) := by
  refine sound_run (C := sHost_C) (O := sHost_O) KOk sHost_C_ok Tryz.func229 (by kernel_rfl) fun args objs res os h => ?_
  unfold sHost_sOf at h
  split at h
  · exact sHost_ev _ _ (hv _ _ h)
  · cases h

def iDecT_O : Opt := { cons := [], keepNil := false, mutF := [], live := [], outs := [] }
def iDecT_C : Spec := (add (add noS 84 iwithin_s) 164 itoa_s)
theorem iDecT_C_ok : ∀ fn, Sound Kx fn (iDecT_C fn) := (sound_add (sound_add (sound_no Kx) iwithin_ok) itoa_ok)
def iDecT_br (n : Int) : Br := (Br.ite (decide ((0 : Int) ≤ n)) (Br.ite (!(decide (n ≤ (999999999999999 : Int)))) (Br.ret (AV.str ([] : Bytes)) ([] : List Ob)) (Br.ite (num15 n) (Br.ret (AV.str (decD n)) ([] : List Ob)) Br.fail)) (Br.ret (AV.str ([] : Bytes)) ([] : List Ob)))
theorem iDecT_run (n : Int) : runF Kx iDecT_C iDecT_O 1 Tryz.f238 ([.int .i64 n]) ([]) = (iDecT_br n).val := by kernel_rfl
def iDecT_s : List AV → List Ob → Br
  | [.int .i64 n], [] => iDecT_br n
  | _, _ => .fail
theorem iDecT_ok : Sound Kx 238 iDecT_s := by
  refine sound_run (C := iDecT_C) (O := iDecT_O) KOk iDecT_C_ok Tryz.func238 (by kernel_rfl) fun args objs res os h => ?_
  unfold iDecT_s at h
  split at h
  · exact ⟨1, (iDecT_run _).trans h⟩
  · cases h

def sReadDec_O : Opt := { cons := [], keepNil := false, mutF := [], live := [(5, [0, 4, 5])], outs := [(5, [0, 2, 3, 4])] }
def sReadDec_C : Spec := (add (add noS 125 (pr_s isDig)) 132 dec_s)
theorem sReadDec_C_ok : ∀ fn, Sound Kx fn (sReadDec_C fn) := (sound_add (sound_add (sound_no Kx) sdigit_okQ) dec_okQ)
def sReadDec_T5 (v5x0 : Bytes) (v5x1 : Int) (v5x2 : Int) (kR5 : Bytes → Int → Int → Option Rs) (k5e0 : Bytes → Int → Option Rs) (k5e1 : Bytes → Int → Option Rs) : Option Rs :=
  (bif (decide (v5x2 < ((List.length v5x0) : Int))) then (bif (decide ((0 : Int) ≤ v5x2)) then (bif (decide (v5x2 < ((List.length v5x0) : Int))) then (bif (!(isDig (strAt v5x0 v5x2))) then (k5e0 v5x0 v5x1) else (bif (decide ((0 : Int) ≤ v5x2)) then (bif (decide (v5x2 < ((List.length v5x0) : Int))) then (kR5 v5x0 (wk64 ((wk64 (v5x1 * (10 : Int))) + (wk64 (wk8 ((strAt v5x0 v5x2) - (48 : Int)))))) (wk64 (v5x2 + (1 : Int)))) else (none)) else (none))) else (none)) else (none)) else (k5e1 v5x0 v5x1))
def sReadDec_F5 : Nat → Bytes → Int → Int → (Bytes → Int → Option Rs) → (Bytes → Int → Option Rs) → Option Rs
  | 0, _, _, _, _, _ => none
  | n + 1, v5x0, v5x1, v5x2, k5e0, k5e1 => sReadDec_T5 v5x0 v5x1 v5x2 (fun v5x0 v5x1 v5x2 => sReadDec_F5 n v5x0 v5x1 v5x2 k5e0 k5e1) k5e0 k5e1
def sReadDec_h5 (v5x0 : Bytes) (v5x1 : Int) (v5x2 : Int) : St := (St.mk (slots 0 38 [(0, (AV.str v5x0)), (4, (AV.int .i64 v5x1)), (5, (AV.int .i64 v5x2))]) ([] : (List (Nat × (Ob)))))
def sReadDec_x5e0 (x5x0x0 : Bytes) (x5x0x1 : Int) : St := (St.mk (slots 0 38 [(0, (AV.str x5x0x0)), (2, (AV.int .i64 (0 : Int))), (3, (AV.bool false)), (4, (AV.int .i64 x5x0x1))]) ([] : (List (Nat × (Ob)))))
def sReadDec_x5e1 (x5x1x0 : Bytes) (x5x1x1 : Int) : St := (St.mk (slots 0 38 [(0, (AV.str x5x1x0)), (4, (AV.int .i64 x5x1x1))]) ([] : (List (Nat × (Ob)))))
noncomputable def sReadDec_b5 : Code := codeAt (codeOf Tryz.f201) [1, 1, 1, 0, 1, 0, 0]
def sReadDec_L5 (N : Nat) (st : St) (k : Ex → St → Option Rs) : Option Rs := match takeF [0, 4, 5] 0 38 st.env, st.objs with
  | some [.str v5x0, .int .i64 v5x1, .int .i64 v5x2], [] => sReadDec_F5 N v5x0 v5x1 v5x2 (fun x5x0x0 x5x0x1 => k Ex.ret (sReadDec_x5e0 x5x0x0 x5x0x1)) (fun x5x1x0 x5x1x1 => k (Ex.exit (0 : Nat)) (sReadDec_x5e1 x5x1x0 x5x1x1))
  | _, _ => none
def sReadDec_L (N : Nat) : Lam := fun j st k => match j with
  | 5 => sReadDec_L5 N st k
  | _ => none
theorem sReadDec_round5 (N : Nat) (again : St → Option Rs) (k : Ex → St → Option Rs) (wv5x0 : Bytes) (wv5x1 : Int) (wv5x2 : Int) (v5x0 : Bytes) (v5x1 : Int) (v5x2 : Int) :
    roundK 0 (fun st k => evL Kx sReadDec_C sReadDec_O 0 (sReadDec_L N) sReadDec_b5 st k) (sReadDec_h5 wv5x0 wv5x1 wv5x2).env again (sReadDec_h5 v5x0 v5x1 v5x2) (outK sReadDec_O 0 sReadDec_b5 k) = sReadDec_T5 v5x0 v5x1 v5x2 (fun v5x0 v5x1 v5x2 => again (sReadDec_h5 v5x0 v5x1 v5x2)) (fun x5x0x0 x5x0x1 => k Ex.ret (sReadDec_x5e0 x5x0x0 x5x0x1)) (fun x5x1x0 x5x1x1 => k (Ex.exit (0 : Nat)) (sReadDec_x5e1 x5x1x0 x5x1x1)) := by kernel_rfl
theorem sReadDec_loop5 (N : Nat) (k : Ex → St → Option Rs) (wv5x0 : Bytes) (wv5x1 : Int) (wv5x2 : Int) : ∀ (n : Nat) (v5x0 : Bytes) (v5x1 : Int) (v5x2 : Int),
    loopK 0 (fun st k => evL Kx sReadDec_C sReadDec_O 0 (sReadDec_L N) sReadDec_b5 st k) (sReadDec_h5 wv5x0 wv5x1 wv5x2).env n (sReadDec_h5 v5x0 v5x1 v5x2) (outK sReadDec_O 0 sReadDec_b5 k) = sReadDec_F5 n v5x0 v5x1 v5x2 (fun x5x0x0 x5x0x1 => k Ex.ret (sReadDec_x5e0 x5x0x0 x5x0x1)) (fun x5x1x0 x5x1x1 => k (Ex.exit (0 : Nat)) (sReadDec_x5e1 x5x1x0 x5x1x1))
  | 0, _, _, _ => rfl
  | n + 1, v5x0, v5x1, v5x2 => by
    rw [loopK_succ, sReadDec_round5]
    simp only [sReadDec_loop5 N k wv5x0 wv5x1 wv5x2 n]
    rfl
theorem sReadDec_at5 (N : Nat) {s : St} {k : Ex → St → Option Rs} {r : Rs} (h : sReadDec_L5 N s k = some r) : ∃ (v5x0 : Bytes) (v5x1 : Int) (v5x2 : Int), s = (sReadDec_h5 v5x0 v5x1 v5x2) ∧ sReadDec_F5 N v5x0 v5x1 v5x2 (fun x5x0x0 x5x0x1 => k Ex.ret (sReadDec_x5e0 x5x0x0 x5x0x1)) (fun x5x1x0 x5x1x1 => k (Ex.exit (0 : Nat)) (sReadDec_x5e1 x5x1x0 x5x1x1)) = some r := by
  cases s with | mk env objs =>
  unfold sReadDec_L5 at h
  split at h
  · rename_i e1 e2
    have e3 := takeF_slots _ _ _ _ e1
    simp only at e2 e3
    subst e2 e3
    exact ⟨_, _, _, rfl, h⟩
  · cases h
theorem sReadDec_in5 : loops sReadDec_b5 = [] := by kernel_rfl
theorem sReadDec_lid5 : lid sReadDec_b5 = 5 := by kernel_rfl
theorem sReadDec_ok5 (N : Nat) : OkL Kx sReadDec_C sReadDec_O 0 N (sReadDec_L N) sReadDec_b5 := by
  intro s k k' r hk h
  rw [sReadDec_lid5] at h
  obtain ⟨v5x0, v5x1, v5x2, rfl, h⟩ := sReadDec_at5 N h
  refine loopL (Λ := sReadDec_L N) sReadDec_b5 ?_ N hk ((sReadDec_loop5 N k v5x0 v5x1 v5x2 N v5x0 v5x1 v5x2).trans h)
  rw [sReadDec_in5]
  exact fun _ h => nomatch h
def sReadDec_run (N : Nat) (s : Bytes) : Option Rs := (bif (decide (((List.length s) : Int) = (0 : Int))) then (some ((AV.tup ((AV.int .i64 (0 : Int)) :: ((AV.bool false) :: ([] : List AV)))), ([] : List Ob))) else (bif (decide ((15 : Int) < ((List.length s) : Int))) then (some ((AV.tup ((AV.int .i64 (0 : Int)) :: ((AV.bool false) :: ([] : List AV)))), ([] : List Ob))) else (sReadDec_F5 N s (0 : Int) (0 : Int) (fun x5x0x0 => (fun x5x0x1 => (some ((AV.tup ((AV.int .i64 (0 : Int)) :: ((AV.bool false) :: ([] : List AV)))), ([] : List Ob))))) (fun x5x1x0 => (fun x5x1x1 => (bif (num15 x5x1x1) then (bif (!(decide ((decD x5x1x1) = x5x1x0))) then (some ((AV.tup ((AV.int .i64 (0 : Int)) :: ((AV.bool false) :: ([] : List AV)))), ([] : List Ob))) else (some ((AV.tup ((AV.int .i64 x5x1x1) :: ((AV.bool true) :: ([] : List AV)))), ([] : List Ob)))) else (none)))))))
theorem sReadDec_runL (N : Nat) (s : Bytes) : runL Kx sReadDec_C sReadDec_O (sReadDec_L N) Tryz.f201 ([.str s]) ([]) = sReadDec_run N s := by kernel_rfl
theorem sReadDec_body : Tryz.f201.body = some (codeOf Tryz.f201) := by kernel_rfl
theorem sReadDec_loops : loops (codeOf Tryz.f201) = [sReadDec_b5] := by kernel_rfl
theorem sReadDec_ev (N : Nat) (s : Bytes) {res_ : Rs} (hyp_ : sReadDec_run N s = some res_) : ∃ n_, runF Kx sReadDec_C sReadDec_O n_ Tryz.f201 ([.str s]) ([]) = some res_ :=
  ⟨N, runL_runF sReadDec_body (by rw [sReadDec_loops]; exact List.forall_mem_cons.2 ⟨sReadDec_ok5 N, fun _ h => nomatch h⟩) ((sReadDec_runL N s).trans hyp_)⟩
def sReadDec_sOf (φ : Bytes → Br) : List AV → List Ob → Br
  | [.str s], [] => φ s
  | _, _ => .fail
theorem sReadDec_okOf {φ : Bytes → Br} (fu : Bytes → Nat) (hv : ∀ s res_, (φ s).val = some res_ → sReadDec_run (fu s) s = some res_) : Sound Kx 201 (sReadDec_sOf φ) := by
  refine sound_run (C := sReadDec_C) (O := sReadDec_O) KOk sReadDec_C_ok Tryz.func201 (by kernel_rfl) fun args objs res os h => ?_
  unfold sReadDec_sOf at h
  split at h
  · exact sReadDec_ev _ _ (hv _ _ h)
  · cases h

end
end Go.Proofs.YtmmjaomfonknnaaGreatDoor.Ev

namespace Go.Proofs.YtmmjaomfonknnaaGreatDoor.Ev
open Go Go.RowKit
set_option linter.unusedVariables false
set_option linter.unusedSimpArgs false
noncomputable section

theorem tab_fin : ∀ k : Fin 256, 0 ≤ hexI (k.val : Int) → strAt hexTab (hexI (k.val : Int)) = upI (k.val : Int) := by decide +kernel
theorem tab_up (a : UInt8) (h : 0 ≤ hexI (by8 a)) : strAt hexTab (hexI (by8 a)) = upI (by8 a) := tab_fin ⟨a.toNat, a.toNat_lt⟩ h
theorem up_fin : ∀ k : Fin 256, 0 ≤ upI (k.val : Int) ∧ upI (k.val : Int) < 256 := by decide +kernel
theorem up_bd (a : UInt8) : 0 ≤ upI (by8 a) ∧ upI (by8 a) < 256 := up_fin ⟨a.toNat, a.toNat_lt⟩
theorem and_fin : ∀ x y : Fin 16, IntKind.u8.wrap ((BitVec.ofInt 8 (16 * (x.val : Int) + (y.val : Int)) &&& BitVec.ofInt 8 15).toNat : Int) = (y.val : Int) := by decide +kernel
theorem and_low (x y : Int) (hx : 0 ≤ x) (hx' : x < 16) (hy : 0 ≤ y) (hy' : y < 16) : wkk .u8 ((BitVec.ofInt 8 (16 * x + y) &&& BitVec.ofInt 8 15).toNat : Int) = y := by
  have h := and_fin ⟨x.toNat, by omega⟩ ⟨y.toNat, by omega⟩
  simp only at h
  rw [show ((x.toNat : Nat) : Int) = x by omega, show ((y.toNat : Nat) : Int) = y by omega] at h
  rw [wkk_eq]; exact h
theorem by8_ofNat (n : Int) (h0 : 0 ≤ n) (h1 : n < 256) : by8 (UInt8.ofNat n.toNat) = n := by
  unfold by8; rw [UInt8.toNat_ofNat']; omega
theorem bytesOf_cons (c : UInt8) (r : Bytes) : bytesOf (c :: r) = by8 c :: bytesOf r := rfl
theorem bytesOf_app (a b : Bytes) : bytesOf (a ++ b) = bytesOf a ++ bytesOf b := by simp [bytesOf]
theorem pct_cons (c a b : UInt8) (r : Bytes) : pctP (c :: a :: b :: r) = bif isPct c a b then pctOne a b ++ pctP r else c :: pctP (a :: b :: r) := by rw [pctP]
theorem pctOne_bytes (a b : UInt8) (h0 : 0 ≤ pairI a b) (h1 : pairI a b < 256) : bytesOf (pctOne a b) = bif freeB (pairI a b) then [pairI a b] else [37, upI (by8 a), upI (by8 b)] := by
  have ha := up_bd a
  have hb := up_bd b
  unfold pctOne
  cases freeB (pairI a b)
  · simp only [cond_false, bytesOf_cons, by8_ofNat _ ha.1 ha.2, by8_ofNat _ hb.1 hb.2]; rfl
  · simp only [cond_true, bytesOf_cons, by8_ofNat _ h0 h1]; rfl
theorem cond_of {α : Type} {b : Bool} {x y : α} (h : b = true) : (bif b then x else y) = x := by rw [h]; rfl
theorem set3 (a b c : Int) : List.set (List.set (List.set (List.replicate 3 (0 : Int)) 0 a) 1 b) 2 c = [a, b, c] := rfl
theorem hexTab_eq : ((48 : UInt8) :: ((49 : UInt8) :: ((50 : UInt8) :: ((51 : UInt8) :: ((52 : UInt8) :: ((53 : UInt8) :: ((54 : UInt8) :: ((55 : UInt8) :: ((56 : UInt8) :: ((57 : UInt8) :: ((65 : UInt8) :: ((66 : UInt8) :: ((67 : UInt8) :: ((68 : UInt8) :: ((69 : UInt8) :: ((70 : UInt8) :: ([] : (List UInt8)))))))))))))))))) = hexTab := rfl
theorem iunes_loop (s : Bytes) (hl : s.length ≤ 1000000) (k : List Int → Option Rs) : ∀ (n : Nat) (r : Bytes) (i : Int) (out : List Int), At s i r → r.length < n → out.length + r.length ≤ s.length →
    iunes_F3 n s i out k = k (out ++ bytesOf (pctP r)) := by
  intro n; induction n with
  | zero => intro r i out h hn; omega
  | succ n ih =>
    intro r i out h hn ho
    cases r with
    | nil => unfold iunes_F3 iunes_T3; simp only [h.dge, cond_false, pctP]; simp [bytesOf]
    | cons c r =>
      simp only [List.length_cons] at hn ho
      have hap : decide ((out.length + [by8 c].length) * 1 ≤ 140737488355328) = true := decide_eq_true (by simp only [List.length_singleton]; omega)
      have hi := h.nn
      have hle := h.le
      simp only [List.length_cons] at hle
      have w1 : wk64 (i + 1) = i + 1 := w64 (by omega) (by omega)
      have w2 : wk64 (i + 2) = i + 2 := w64 (by omega) (by omega)
      have hstep := ih r (i + 1) (out ++ [by8 c]) h.step (by omega) (by simp; omega)
      have hst' : k (out ++ [by8 c] ++ bytesOf (pctP r)) = k (out ++ by8 c :: bytesOf (pctP r)) := by simp
      rw [hst'] at hstep
      unfold iunes_F3 iunes_T3
      simp only [h.dlt, h.dnn, h.str, cond_true, one_set, hap, w1, w2, hstep]
      cases c1 : decide (by8 c = 37)
      · simp only [Bool.not_false, cond_true]
        have e : ∀ a b, isPct c a b = false := fun a b => by unfold isPct; rw [c1]; rfl
        cases r with
        | nil => rfl
        | cons a r => cases r with
          | nil => rfl
          | cons b r => rw [pct_cons, e a b, cond_false]; rfl
      · simp only [Bool.not_true, cond_false]
        cases r with
        | nil =>
          rw [decide_eq_true (show (s.length : Int) ≤ i + 2 by simp at hle; omega), cond_true]; rfl
        | cons a r => cases r with
          | nil =>
            rw [decide_eq_true (show (s.length : Int) ≤ i + 2 by simp at hle; omega), cond_true]; rfl
          | cons b r =>
            simp only [List.length_cons] at hle hn ho
            have h2 := h.step
            have h3 := h2.step
            have e2 : i + 1 + 1 = i + 2 := by omega
            rw [e2] at h3
            rw [decide_eq_false (show ¬ (s.length : Int) ≤ i + 2 by omega), cond_false, pct_cons]
            simp only [h2.dlt, h2.dnn, h2.str, h3.dlt, h3.dnn, h3.str, cond_true]
            unfold isPct
            rw [c1, Bool.true_and]
            have hxa := hexI_lt (by8 a)
            have hxb := hexI_lt (by8 b)
            cases c2 : decide (hexI (by8 a) < 0)
            · cases c3 : decide (hexI (by8 b) < 0)
              · have g2 := of_decide_eq_false c2
                have g3 := of_decide_eq_false c3
                have hp : wk8 (wk64 (wk64 (16 * hexI (by8 a)) + hexI (by8 b))) = pairI a b := by unfold pairI; simp (disch := omega) only [w8, w64]
                have p0 : 0 ≤ pairI a b := by unfold pairI; omega
                have p1 : pairI a b < 256 := by unfold pairI; omega
                have hd : (pairI a b).fdiv 16 = hexI (by8 a) := by unfold pairI; rw [Int.fdiv_eq_ediv_of_nonneg _ (by decide)]; omega
                have hm : wkk .u8 ((BitVec.ofInt 8 (pairI a b) &&& BitVec.ofInt 8 15).toNat : Int) = hexI (by8 b) := and_low _ _ (by omega) hxa (by omega) hxb
                have w3 : wk64 (i + 2 + 1) = i + 3 := by rw [w64 (by omega) (by omega)]; omega
                have ha3 : decide ((out.length + [37, upI (by8 a), upI (by8 b)].length) * 1 ≤ 140737488355328) = true := decide_eq_true (by simp only [List.length_cons, List.length_nil]; omega)
                have ha1 : decide ((out.length + [pairI a b].length) * 1 ≤ 140737488355328) = true := decide_eq_true (by simp only [List.length_cons, List.length_nil]; omega)
                have q1 : decide (0 ≤ hexI (by8 a)) = true := decide_eq_true (by omega)
                have q2 : decide (hexI (by8 a) < 16) = true := decide_eq_true hxa
                have q3 : decide (0 ≤ hexI (by8 b)) = true := decide_eq_true (by omega)
                have q4 : decide (hexI (by8 b) < 16) = true := decide_eq_true hxb
                simp only [hp, hd, hm, Bool.not_false, Bool.and_self, cond_true, cond_false, bytesOf_app, pctOne_bytes a b p0 p1, set3, hexTab_eq, tab_up a (by omega), tab_up b (by omega), w3, one_set, ha3, ha1, q1, q2, q3, q4]
                have h4 := h3.step
                rw [show i + 2 + 1 = i + 3 by omega] at h4
                cases freeB (pairI a b)
                · have := ih r (i + 3) (out ++ [37, upI (by8 a), upI (by8 b)]) h4 (by omega) (by simp; omega)
                  rw [cond_false, this, List.append_assoc]; rfl
                · have := ih r (i + 3) (out ++ [pairI a b]) h4 (by omega) (by simp; omega)
                  rw [cond_true, this, List.append_assoc]; rfl
              · simp only [Bool.not_false, Bool.not_true, Bool.and_false, cond_true, cond_false]; rfl
            · simp only [Bool.not_true, Bool.false_and, cond_true, cond_false]; rfl
def un8_s : List AV → List Ob → Br
  | [.str s], [] => .ite (decide (s.length ≤ 1000000)) (.ret (.str (pctP s)) []) .fail
  | _, _ => .fail
theorem iunes_okQ : Sound Kx 242 un8_s := by
  refine (iunes_okOf (φ := fun s => .ite (decide (s.length ≤ 1000000)) (.ret (.str (pctP s)) []) .fail) (fun s => s.length + 1) fun s r h => ?_).of fun args objs r h => ?_
  · obtain ⟨h1, h2⟩ := ite_some h
    cases h2
    rw [decide_eq_true_eq] at h1
    unfold iunes_run
    rw [iunes_loop s h1 _ _ s 0 [] (At.start s) (by omega) (by simp), List.nil_append, ofBytes_map]
  · unfold un8_s at h; split at h
    · exact h
    · cases h
theorem rdHex_two (a b : UInt8) : rdHexP [a, b] = bif !decide (hexI (by8 a) < 0) && !decide (hexI (by8 b) < 0) then (pairI a b, true) else (0, false) := by
  have e1 : allP isHexB [a, b] = (!decide (hexI (by8 a) < 0) && !decide (hexI (by8 b) < 0)) := by
    show (isHexB (by8 a) && (isHexB (by8 b) && true)) = _
    rw [Bool.and_true]; rfl
  have e2 : hexN [a, b] 0 = pairI a b := by
    show (0 * 16 + hexI (by8 a)) * 16 + hexI (by8 b) = _
    unfold pairI; omega
  unfold rdHexP
  rw [e1, e2]; rfl
theorem sunes_loop (s : Bytes) (hl : s.length ≤ 1000000) (k : List Int → Option Rs) : ∀ (n : Nat) (r : Bytes) (i : Int) (out : List Int), At s i r → r.length < n → out.length + r.length ≤ s.length →
    sunes_F3 n s i out k = k (out ++ bytesOf (pctP r)) := by
  intro n; induction n with
  | zero => intro r i out h hn; omega
  | succ n ih =>
    intro r i out h hn ho
    cases r with
    | nil => unfold sunes_F3 sunes_T3; simp only [h.dge, cond_false, pctP]; simp [bytesOf]
    | cons c r =>
      simp only [List.length_cons] at hn ho
      have hap : decide ((out.length + [by8 c].length) * 1 ≤ 140737488355328) = true := decide_eq_true (by simp only [List.length_singleton]; omega)
      have hi := h.nn
      have hle := h.le
      simp only [List.length_cons] at hle
      have w1 : wk64 (i + 1) = i + 1 := w64 (by omega) (by omega)
      have w2 : wk64 (i + 2) = i + 2 := w64 (by omega) (by omega)
      have w3' : wk64 (i + 3) = i + 3 := w64 (by omega) (by omega)
      have hstep := ih r (i + 1) (out ++ [by8 c]) h.step (by omega) (by simp; omega)
      have hst' : k (out ++ [by8 c] ++ bytesOf (pctP r)) = k (out ++ by8 c :: bytesOf (pctP r)) := by simp
      rw [hst'] at hstep
      unfold sunes_F3 sunes_T3
      simp only [h.dlt, h.dnn, h.str, cond_true, one_set, hap, w1, w2, w3', hstep]
      cases c1 : decide (by8 c = 37)
      · simp only [Bool.not_false, cond_true]
        have e : ∀ a b, isPct c a b = false := fun a b => by unfold isPct; rw [c1]; rfl
        cases r with
        | nil => rfl
        | cons a r => cases r with
          | nil => rfl
          | cons b r => rw [pct_cons, e a b, cond_false]; rfl
      · simp only [Bool.not_true, cond_false]
        cases r with
        | nil =>
          rw [decide_eq_true (show (s.length : Int) ≤ i + 2 by simp at hle; omega), cond_true]; rfl
        | cons a r => cases r with
          | nil =>
            rw [decide_eq_true (show (s.length : Int) ≤ i + 2 by simp at hle; omega), cond_true]; rfl
          | cons b r =>
            simp only [List.length_cons] at hle hn ho
            have h2 := h.step
            have h3 := h2.step
            have e2 : i + 1 + 1 = i + 2 := by omega
            rw [e2] at h3
            have hcut : cut s (i + 1) (i + 3) = [a, b] := by
              obtain ⟨p, hs, hp⟩ := h
              exact cut_of (p := p ++ [c]) (r := r) (by rw [hs]; simp) (by rw [hp]; simp) (by simp; omega)
            rw [decide_eq_false (show ¬ (s.length : Int) ≤ i + 2 by omega), cond_false, pct_cons]
            rw [decide_eq_true (show i + 1 ≤ i + 3 by omega), decide_eq_true (show i + 3 ≤ (s.length : Int) by omega)]
            simp only [h2.dlt, h2.dnn, h2.str, h3.dlt, h3.dnn, h3.str, cond_true, hcut, rdHex_two]
            unfold isPct
            rw [c1, Bool.true_and]
            have hxa := hexI_lt (by8 a)
            have hxb := hexI_lt (by8 b)
            cases c2 : decide (hexI (by8 a) < 0)
            · cases c3 : decide (hexI (by8 b) < 0)
              · have g2 := of_decide_eq_false c2
                have g3 := of_decide_eq_false c3
                have p0 : 0 ≤ pairI a b := by unfold pairI; omega
                have p1 : pairI a b < 256 := by unfold pairI; omega
                have hp : wk8 (pairI a b) = pairI a b := w8 p0 p1
                have w3 : wk64 (i + 2 + 1) = i + 3 := by rw [w64 (by omega) (by omega)]; omega
                have ha3 : decide ((out.length + [37, upI (by8 a), upI (by8 b)].length) * 1 ≤ 140737488355328) = true := decide_eq_true (by simp only [List.length_cons, List.length_nil]; omega)
                have ha1 : decide ((out.length + [pairI a b].length) * 1 ≤ 140737488355328) = true := decide_eq_true (by simp only [List.length_cons, List.length_nil]; omega)
                simp only [Bool.not_false, Bool.and_self, cond_true, cond_false, Bool.not_true, hp, decide_eq_true p0, decide_eq_true p1, bytesOf_app, pctOne_bytes a b p0 p1, set3, w3, one_set, ha3, ha1]
                have h4 := h3.step
                rw [show i + 2 + 1 = i + 3 by omega] at h4
                cases freeB (pairI a b)
                · have := ih r (i + 3) (out ++ [37, upI (by8 a), upI (by8 b)]) h4 (by omega) (by simp; omega)
                  rw [cond_false]
                  refine Eq.trans (cond_of ha3) ?_
                  rw [this, List.append_assoc]; rfl
                · have := ih r (i + 3) (out ++ [pairI a b]) h4 (by omega) (by simp; omega)
                  rw [cond_true, this, List.append_assoc]; rfl
              · simp only [Bool.not_false, Bool.not_true, Bool.and_false, cond_true, cond_false]; rfl
            · simp only [Bool.not_true, Bool.not_false, Bool.false_and, cond_true, cond_false]; rfl
theorem sunes_okQ : Sound Kx 228 un8_s := by
  refine (sunes_okOf (φ := fun s => .ite (decide (s.length ≤ 1000000)) (.ret (.str (pctP s)) []) .fail) (fun s => s.length + 1) fun s r h => ?_).of fun args objs r h => ?_
  · obtain ⟨h1, h2⟩ := ite_some h
    cases h2
    rw [decide_eq_true_eq] at h1
    unfold sunes_run
    rw [sunes_loop s h1 _ _ s 0 [] (At.start s) (by omega) (by simp), List.nil_append, ofBytes_map]
  · unfold un8_s at h; split at h
    · exact h
    · cases h

theorem allHost_loop (l : Bytes) (hl : l.length ≤ 4611686018427387904) (k0 k1 : Option Rs) : ∀ (r : Bytes) (i : Int) (n : Nat), At l i r → r.length < n → allHost_F2 n l i k0 k1 = bif allP hoB r then k1 else k0 := by
  intro r; induction r with
  | nil => intro i n h hn; obtain ⟨n, rfl⟩ := fuel hn; unfold allHost_F2 allHost_T2; simp only [h.dge, cond_false, allP, List.all_nil, cond_true]
  | cons a r ih =>
    intro i n h hn; obtain ⟨n, rfl⟩ := fuel hn
    have hs := ih (i + 1) n h.step (by simp at hn; omega)
    unfold allHost_F2 allHost_T2; simp only [h.dlt, h.dnn, h.str, cond_true, h.next hl, hs, allP, List.all_cons]
    cases hoB (by8 a) <;> rfl
def allHost_s := allHost_sOf fun s => .ite (isM s) (.ret (.bool (allP hoB s)) []) .fail
theorem allHost_okQ : Sound Kx 95 allHost_s := by
  refine allHost_okOf (fun s => s.length + 1) fun s r h => ?_
  obtain ⟨h1, h2⟩ := ite_some h
  unfold allHost_run
  rw [allHost_loop s (isM_le h1) _ _ s 0 _ (At.start s) (by omega), ← h2]
  cases allP hoB s <;> rfl
def laB (n : Int) : Bool := isLow n || isDig n || decide (n = 45)
theorem sHost_chars (l : List Bytes) (j : Int) (r0 : List Bytes) (w : Bytes) (hw : w.length ≤ 1000000) (hj : At l j (w :: r0)) (k0 k1 : Int → List Bytes → Option Rs) : ∀ (r : Bytes) (i : Int) (n : Nat), At w i r → r.length < n →
    sHost_F10 n j i l k0 k1 = bif allP laB r then k1 j l else k0 j l := by
  intro r; induction r with
  | nil => intro i n h hn; obtain ⟨n, rfl⟩ := fuel hn; unfold sHost_F10 sHost_T10; simp only [hj.dlt, hj.dnn, hj.get, cond_true, h.dge, cond_false]; rfl
  | cons a r ih =>
    intro i n h hn; obtain ⟨n, rfl⟩ := fuel hn
    have hs := ih (i + 1) n h.step (by simp at hn; omega)
    have hall : allP laB (a :: r) = (laB (by8 a) && allP laB r) := rfl
    unfold sHost_F10 sHost_T10
    simp only [hj.dlt, hj.dnn, hj.get, cond_true, h.dlt, h.dnn, h.str, h.next (show w.length ≤ 4611686018427387904 by omega), hs, hall]
    unfold laB isLow
    cases decide (97 ≤ by8 a) <;> cases decide (by8 a ≤ 122) <;> cases isDig (by8 a) <;> cases decide (by8 a = 45) <;> rfl
theorem sHost_loop (N : Nat) (l : List Bytes) (hl : l.length ≤ 1000000) (hN : ∀ w ∈ l, w.length < N ∧ w.length ≤ 1000000) (k0 k1 : Option Rs) : ∀ (r : List Bytes) (j : Int) (n : Nat), At l j r → r.length < n →
    sHost_F5 N n j l k0 k1 = bif r.all (fun w => !decide (w = []) && allP laB w) then k1 else k0 := by
  intro r; induction r with
  | nil => intro j n h hn; obtain ⟨n, rfl⟩ := fuel hn; unfold sHost_F5 sHost_T5; simp only [h.dge, cond_false]; rfl
  | cons w r ih =>
    intro j n h hn; obtain ⟨n, rfl⟩ := fuel hn
    have hs := ih (j + 1) n h.step (by simp at hn; omega)
    have hw : w ∈ l := by obtain ⟨p, rfl, _⟩ := h; simp
    unfold sHost_F5 sHost_T5
    simp only [h.dlt, h.dnn, h.get, cond_true, List.all_cons]
    cases c : decide (w = [])
    · rw [cond_false, sHost_chars l j r w (hN w hw).2 h _ _ w 0 N (At.start w) (hN w hw).1]
      simp only [h.next (show l.length ≤ 4611686018427387904 by omega), hs, Bool.not_false, Bool.true_and]
      cases allP laB w <;> rfl
    · simp only [cond_true, Bool.not_true, Bool.false_and, cond_false]
theorem spl_mem (b : Int) : ∀ (r cur : Bytes) (w : Bytes), w ∈ splR b cur r → w.length ≤ cur.length + r.length
  | [], cur, w, h => by
    have : w = cur := by simpa [splR] using h
    subst this; simp
  | x :: r, cur, w, h => by
    rw [splR_cons] at h
    cases c : decide (by8 x = b)
    · rw [c, cond_false] at h
      have := spl_mem b r _ w h
      simp at this ⊢; omega
    · rw [c, cond_true] at h
      rcases List.mem_cons.1 h with h | h
      · subst h; simp
      · have := spl_mem b r _ w h
        simp at this ⊢; omega
theorem all_both {α : Type} (p q : α → Bool) : ∀ l : List α, l.all (fun x => p x && q x) = (l.all p && l.all q)
  | [] => rfl
  | a :: l => by simp only [List.all_cons]; rw [all_both p q l]; cases p a <;> cases q a <;> cases l.all p <;> rfl
theorem in_nil (l : List Bytes) : (l.all fun w => !decide (w = [])) = !inP l [] := by
  unfold inP
  induction l with
  | nil => rfl
  | cons a l ih => rw [List.all_cons, List.any_cons, ih]; cases decide (a = []) <;> rfl
theorem allP_congr {p q : Int → Bool} (h : ∀ n, p n = q n) (s : Bytes) : allP p s = allP q s := by
  have : p = q := funext h
  rw [this]
theorem host_spl (s : Bytes) : ((splP s 46).all fun w => !decide (w = []) && allP laB w) = (allP hoB s && !inP (splP s 46) []) := by
  rw [all_both, in_nil]
  have := splR_all 46 laB s []
  rw [show (splP s 46).all (fun s => allP laB s) = (splR 46 [] s).all (fun s => allP laB s) from rfl, this]
  rw [show allP laB [] = true from rfl, Bool.true_and, allP_congr (q := hoB) (fun n => by
    unfold laB hoB
    cases isLow n <;> cases isDig n <;> cases decide (n = 45) <;> cases decide (n = 46) <;> rfl), Bool.and_comm]
def ho_s : List AV → List Ob → Br
  | [.str s], [] => .ret (.bool (hostP s)) []
  | _, _ => .fail
theorem sHost_okQ : Sound Kx 229 ho_s := by
  refine (sHost_okOf (φ := fun s => .ret (.bool (hostP s)) []) (fun s => s.length + 3) fun s r h => ?_).of fun args objs r h => ?_
  · cases h
    unfold sHost_run hostP
    cases c1 : decide ((s.length : Int) = 0)
    · have c1' := of_decide_eq_false c1
      cases c2 : decide ((60 : Int) < (s.length : Int))
      · have c2' := of_decide_eq_false c2
        rw [decide_eq_true (show 1 ≤ s.length by omega), decide_eq_true (show s.length ≤ 60 by omega), decide_eq_true (show s.length ≤ 1000000 by omega)]
        simp only [cond_false, cond_true, Bool.true_and]
        have hlen := spl_len s 46
        rw [sHost_loop _ (splP s 46) (by omega) (fun w hw => by have := spl_mem 46 s [] w hw; simp at this; omega) _ _ _ 0 _ (At.start _) (by omega), host_spl]
        cases allP hoB s && !inP (splP s 46) [] <;> rfl
      · have c2' := of_decide_eq_true c2
        rw [decide_eq_false (show ¬ s.length ≤ 60 by omega), Bool.and_false, Bool.false_and, Bool.false_and]; rfl
    · have c1' := of_decide_eq_true c1
      rw [decide_eq_false (show ¬ 1 ≤ s.length by omega), Bool.false_and, Bool.false_and, Bool.false_and]; rfl
  · unfold ho_s at h; split at h
    · exact h
    · cases h

def dt_s : List AV → List Ob → Br
  | [.int .i64 n], [] => .ret (.str (bif num15 n then decD n else [])) []
  | _, _ => .fail
theorem iDecT_okQ : Sound Kx 238 dt_s := iDecT_ok.of fun args objs r h => by
  unfold dt_s at h
  split at h
  case h_2 => cases h
  rename_i n
  cases h
  show (iDecT_br n).val = _
  unfold iDecT_br num15
  cases decide (0 ≤ n) <;> cases decide (n ≤ 999999999999999) <;> rfl
theorem sReadDec_loop (s : Bytes) (hl : s.length ≤ 15) (k0 k1 : Bytes → Int → Option Rs) (K0 : Option Rs) (h0 : ∀ x, k0 s x = K0) : ∀ (r : Bytes) (v i : Int) (n : Nat), At s i r → r.length < n → 0 ≤ v → (v + 1) * 10 ^ r.length ≤ 1000000000000000 →
    sReadDec_F5 n s v i k0 k1 = bif allP isDig r then k1 s (digN r v) else K0 := by
  intro r; induction r with
  | nil => intro v i n h hn hv hb; obtain ⟨n, rfl⟩ := fuel hn; unfold sReadDec_F5 sReadDec_T5; simp only [h.dge, cond_false]; rfl
  | cons a r ih =>
    intro v i n h hn hv hb; obtain ⟨n, rfl⟩ := fuel hn
    simp only [List.length_cons] at hn hb
    have hp : (1 : Int) ≤ 10 ^ r.length := by have h0 : (0 : Int) < 10 ^ r.length := Int.pow_pos (by decide); omega
    have hb' : ((v + 1) * 10) * 10 ^ r.length ≤ 1000000000000000 := by rw [Int.pow_succ, Int.mul_comm (10 ^ r.length) 10, ← Int.mul_assoc] at hb; exact hb
    have hv10 : (v + 1) * 10 ≤ 1000000000000000 := Int.le_trans (by have := Int.mul_le_mul_of_nonneg_left hp (show 0 ≤ (v + 1) * 10 by omega); rwa [Int.mul_one] at this) hb'
    have hall : allP isDig (a :: r) = (isDig (by8 a) && allP isDig r) := rfl
    have hN : digN (a :: r) v = digN r (v * 10 + (by8 a - 48)) := rfl
    unfold sReadDec_F5 sReadDec_T5
    simp only [h.dlt, h.dnn, h.str, cond_true, h.next (show s.length ≤ 4611686018427387904 by omega), h0, hall, hN]
    cases c1 : isDig (by8 a)
    · rfl
    · have c1' := c1
      simp only [isDig, Bool.and_eq_true, decide_eq_true_eq] at c1'
      have e : wk64 (wk64 (v * 10) + wk64 (wk8 (by8 a - 48))) = v * 10 + (by8 a - 48) := by simp (disch := omega) only [w8, w64]
      simp only [Bool.not_true, cond_false, Bool.true_and, e]
      exact ih _ (i + 1) n h.step (by omega) (by omega) (Int.le_trans (Int.mul_le_mul_of_nonneg_right (show v * 10 + (by8 a - 48) + 1 ≤ (v + 1) * 10 by omega) (by omega)) hb')
def rd_s : List AV → List Ob → Br
  | [.str s], [] => .ret (.tup [.int .i64 (decR s).1, .bool (decR s).2]) []
  | _, _ => .fail
theorem sReadDec_okQ : Sound Kx 201 rd_s := by
  refine (sReadDec_okOf (φ := fun s => .ret (.tup [.int .i64 (decR s).1, .bool (decR s).2]) []) (fun s => s.length + 1) fun s r h => ?_).of fun args objs r h => ?_
  · cases h
    unfold sReadDec_run decR
    cases c1 : decide ((s.length : Int) = 0)
    · have c1' := of_decide_eq_false c1
      cases c2 : decide ((15 : Int) < (s.length : Int))
      · have c2' := of_decide_eq_false c2
        simp only [cond_false]
        rw [sReadDec_loop s (by omega) _ _ (some (AV.tup [AV.int .i64 0, AV.bool false], [])) (fun _ => rfl) s 0 0 _ (At.start s) (by omega) (by omega) ?_, decide_eq_true (show 1 ≤ s.length by omega), decide_eq_true (show s.length ≤ 15 by omega)]
        · cases ha : allP isDig s
          · rfl
          · have := digN_max s ha (by omega)
            have h15 : num15 (digN s 0) = true := by unfold num15; rw [decide_eq_true this.1, decide_eq_true this.2]; rfl
            simp only [h15, cond_true, Bool.true_and]
            cases decide (decD (digN s 0) = s) <;> rfl
        · have h3 : (10 : Nat) ^ s.length ≤ 10 ^ 15 := Nat.pow_le_pow_right (by decide) (by omega)
          have e : (10 : Int) ^ s.length = ((10 ^ s.length : Nat) : Int) := by rw [Int.natCast_pow]; rfl
          rw [e]
          have e2 : (10 : Nat) ^ 15 = 1000000000000000 := by decide
          omega
      · have c2' := of_decide_eq_true c2
        rw [decide_eq_false (show ¬ s.length ≤ 15 by omega), Bool.and_false, Bool.false_and, Bool.false_and]; rfl
    · have c1' := of_decide_eq_true c1
      rw [decide_eq_false (show ¬ 1 ≤ s.length by omega), Bool.false_and, Bool.false_and, Bool.false_and]; rfl
  · unfold rd_s at h; split at h
    · exact h
    · cases h
end
end Go.Proofs.YtmmjaomfonknnaaGreatDoor.Ev

namespace Go.Proofs.YtmmjaomfonknnaaGreatDoor.Ev
open Go Go.RowKit
set_option linter.unusedVariables false
set_option linter.unusedSimpArgs false
noncomputable section

def iClean_O : Opt := { cons := [49], keepNil := false, mutF := [], live := [(6, [3, 4, 29, 30, 31])], outs := [(6, [2, 3, 4])] }
def iClean_C : Spec := (add (add (add (add (add (add noS 239 hpS_s) 95 allVis_s) 240 coAny_s) 242 un8_s) 241 split_s) 149 join_s)
theorem iClean_C_ok : ∀ fn, Sound Kx fn (iClean_C fn) := (sound_add (sound_add (sound_add (sound_add (sound_add (sound_add (sound_no Kx) hpS_ok) allVis_okQ) coAny_okQ) iunes_okQ) split_okQ) join_okQ)
def iClean_T6 (v6x0 : (List Bytes)) (v6x1 : (List Bytes)) (v6x2 : Int) (v6x3 : Int) (v6x4 : (List Bytes)) (kR6 : (List Bytes) → (List Bytes) → Int → Int → (List Bytes) → Option Rs) (k6e0 : (List Bytes) → (List Bytes) → Option Rs) : Option Rs :=
  (bif (decide (v6x3 < v6x2)) then (bif (decide ((0 : Int) ≤ v6x3)) then (bif (decide (v6x3 < ((List.length v6x1) : Int))) then (bif (decide ((List.getD v6x1 (Int.toNat v6x3) ([] : Bytes)) = ((46 : UInt8) :: ([] : Bytes)))) then (kR6 v6x0 v6x1 v6x2 (wk64 (v6x3 + (1 : Int))) v6x4) else (bif (decide ((List.getD v6x1 (Int.toNat v6x3) ([] : Bytes)) = ((46 : UInt8) :: ((46 : UInt8) :: ([] : Bytes))))) then (bif (decide ((0 : Int) ≤ (if ((0 : Int) < (wk64 (((List.length v6x4) : Int) - (1 : Int)))) then (wk64 (((List.length v6x4) : Int) - (1 : Int))) else (0 : Int)))) then (bif (decide ((if ((0 : Int) < (wk64 (((List.length v6x4) : Int) - (1 : Int)))) then (wk64 (((List.length v6x4) : Int) - (1 : Int))) else (0 : Int)) ≤ ((List.length v6x4) : Int))) then (kR6 v6x0 v6x1 v6x2 (wk64 (v6x3 + (1 : Int))) (cut v6x4 (0 : Int) (if ((0 : Int) < (wk64 (((List.length v6x4) : Int) - (1 : Int)))) then (wk64 (((List.length v6x4) : Int) - (1 : Int))) else (0 : Int)))) else (none)) else (none)) else (bif (decide ((((List.length v6x4) + (List.length (List.set (List.replicate (1 : Nat) ([] : Bytes)) (0 : Nat) (List.getD v6x1 (Int.toNat v6x3) ([] : Bytes))))) * (16 : Nat)) ≤ (140737488355328 : Nat))) then (kR6 v6x0 v6x1 v6x2 (wk64 (v6x3 + (1 : Int))) (v6x4 ++ (List.set (List.replicate (1 : Nat) ([] : Bytes)) (0 : Nat) (List.getD v6x1 (Int.toNat v6x3) ([] : Bytes))))) else (none)))) else (none)) else (none)) else (k6e0 v6x0 v6x4))
def iClean_F6 : Nat → (List Bytes) → (List Bytes) → Int → Int → (List Bytes) → ((List Bytes) → (List Bytes) → Option Rs) → Option Rs
  | 0, _, _, _, _, _, _ => none
  | n + 1, v6x0, v6x1, v6x2, v6x3, v6x4, k6e0 => iClean_T6 v6x0 v6x1 v6x2 v6x3 v6x4 (fun v6x0 v6x1 v6x2 v6x3 v6x4 => iClean_F6 n v6x0 v6x1 v6x2 v6x3 v6x4 k6e0) k6e0
def iClean_h6 (v6x0 : (List Bytes)) (v6x1 : (List Bytes)) (v6x2 : Int) (v6x3 : Int) (v6x4 : (List Bytes)) : St := (St.mk (slots 0 69 [(3, (AV.ref (256 : Nat) (0 : Nat))), (4, (AV.sh Ty.str v6x0)), (29, (AV.sh Ty.str v6x1)), (30, (AV.int .i64 v6x2)), (31, (AV.int .i64 v6x3))]) (((256 : Nat), (Ob.arr Ty.str (0 : Nat) false v6x4)) :: ([] : (List (Nat × (Ob))))))
def iClean_x6e0 (x6x0x0 : (List Bytes)) (x6x0x1 : (List Bytes)) : St := (St.mk (slots 0 69 [(3, (AV.ref (256 : Nat) (0 : Nat))), (4, (AV.sh Ty.str x6x0x0))]) (((256 : Nat), (Ob.arr Ty.str (0 : Nat) false x6x0x1)) :: ([] : (List (Nat × (Ob))))))
noncomputable def iClean_b6 : Code := codeAt (codeOf Tryz.f209) [1, 1, 1, 1, 0, 1, 0, 0]
def iClean_L6 (N : Nat) (st : St) (k : Ex → St → Option Rs) : Option Rs := match takeF [3, 4, 29, 30, 31] 0 69 st.env, st.objs with
  | some [.ref 256 0, .sh Ty.str v6x0, .sh Ty.str v6x1, .int .i64 v6x2, .int .i64 v6x3], [(256, .arr Ty.str 0 false v6x4)] => iClean_F6 N v6x0 v6x1 v6x2 v6x3 v6x4 (fun x6x0x0 x6x0x1 => k (Ex.exit (0 : Nat)) (iClean_x6e0 x6x0x0 x6x0x1))
  | _, _ => none
def iClean_L (N : Nat) : Lam := fun j st k => match j with
  | 6 => iClean_L6 N st k
  | _ => none
theorem iClean_round6 (N : Nat) (again : St → Option Rs) (k : Ex → St → Option Rs) (wv6x0 : (List Bytes)) (wv6x1 : (List Bytes)) (wv6x2 : Int) (wv6x3 : Int) (wv6x4 : (List Bytes)) (v6x0 : (List Bytes)) (v6x1 : (List Bytes)) (v6x2 : Int) (v6x3 : Int) (v6x4 : (List Bytes)) :
    roundK 0 (fun st k => evL Kx iClean_C iClean_O 0 (iClean_L N) iClean_b6 st k) (iClean_h6 wv6x0 wv6x1 wv6x2 wv6x3 wv6x4).env again (iClean_h6 v6x0 v6x1 v6x2 v6x3 v6x4) (outK iClean_O 0 iClean_b6 k) = iClean_T6 v6x0 v6x1 v6x2 v6x3 v6x4 (fun v6x0 v6x1 v6x2 v6x3 v6x4 => again (iClean_h6 v6x0 v6x1 v6x2 v6x3 v6x4)) (fun x6x0x0 x6x0x1 => k (Ex.exit (0 : Nat)) (iClean_x6e0 x6x0x0 x6x0x1)) := by kernel_rfl
theorem iClean_loop6 (N : Nat) (k : Ex → St → Option Rs) (wv6x0 : (List Bytes)) (wv6x1 : (List Bytes)) (wv6x2 : Int) (wv6x3 : Int) (wv6x4 : (List Bytes)) : ∀ (n : Nat) (v6x0 : (List Bytes)) (v6x1 : (List Bytes)) (v6x2 : Int) (v6x3 : Int) (v6x4 : (List Bytes)),
    loopK 0 (fun st k => evL Kx iClean_C iClean_O 0 (iClean_L N) iClean_b6 st k) (iClean_h6 wv6x0 wv6x1 wv6x2 wv6x3 wv6x4).env n (iClean_h6 v6x0 v6x1 v6x2 v6x3 v6x4) (outK iClean_O 0 iClean_b6 k) = iClean_F6 n v6x0 v6x1 v6x2 v6x3 v6x4 (fun x6x0x0 x6x0x1 => k (Ex.exit (0 : Nat)) (iClean_x6e0 x6x0x0 x6x0x1))
  | 0, _, _, _, _, _ => rfl
  | n + 1, v6x0, v6x1, v6x2, v6x3, v6x4 => by
    rw [loopK_succ, iClean_round6]
    simp only [iClean_loop6 N k wv6x0 wv6x1 wv6x2 wv6x3 wv6x4 n]
    rfl
theorem iClean_at6 (N : Nat) {s : St} {k : Ex → St → Option Rs} {r : Rs} (h : iClean_L6 N s k = some r) : ∃ (v6x0 : (List Bytes)) (v6x1 : (List Bytes)) (v6x2 : Int) (v6x3 : Int) (v6x4 : (List Bytes)), s = (iClean_h6 v6x0 v6x1 v6x2 v6x3 v6x4) ∧ iClean_F6 N v6x0 v6x1 v6x2 v6x3 v6x4 (fun x6x0x0 x6x0x1 => k (Ex.exit (0 : Nat)) (iClean_x6e0 x6x0x0 x6x0x1)) = some r := by
  cases s with | mk env objs =>
  unfold iClean_L6 at h
  split at h
  · rename_i e1 e2
    have e3 := takeF_slots _ _ _ _ e1
    simp only at e2 e3
    subst e2 e3
    exact ⟨_, _, _, _, _, rfl, h⟩
  · cases h
theorem iClean_in6 : loops iClean_b6 = [] := by kernel_rfl
theorem iClean_lid6 : lid iClean_b6 = 6 := by kernel_rfl
theorem iClean_ok6 (N : Nat) : OkL Kx iClean_C iClean_O 0 N (iClean_L N) iClean_b6 := by
  intro s k k' r hk h
  rw [iClean_lid6] at h
  obtain ⟨v6x0, v6x1, v6x2, v6x3, v6x4, rfl, h⟩ := iClean_at6 N h
  refine loopL (Λ := iClean_L N) iClean_b6 ?_ N hk ((iClean_loop6 N k v6x0 v6x1 v6x2 v6x3 v6x4 N v6x0 v6x1 v6x2 v6x3 v6x4).trans h)
  rw [iClean_in6]
  exact fun _ h => nomatch h
def iClean_run (N : Nat) (p : Bytes) : Option Rs := (bif (decide ((1 : Int) ≤ ((List.length p) : Int))) then (bif (decide ((1 : Int) ≤ ((List.length p) : Int))) then (bif (!(decide ((cut p (0 : Int) (1 : Int)) = ((47 : UInt8) :: ([] : Bytes))))) then (some ((AV.str ([] : Bytes)), ([] : List Ob))) else (bif (decide ((200 : Int) < ((List.length p) : Int))) then (some ((AV.str ([] : Bytes)), ([] : List Ob))) else (bif (isM p) then (bif (!(allP isVis p)) then (some ((AV.str ([] : Bytes)), ([] : List Ob))) else (bif ((((decide ((List.length p) ≤ (1000000 : Nat))) && true) && (ascP p)) && true) then (bif (decide ((0 : Int) ≤ (anyIx p ((35 : UInt8) :: ((63 : UInt8) :: ([] : Bytes)))))) then (some ((AV.str ([] : Bytes)), ([] : List Ob))) else (bif (decide ((List.length p) ≤ (1000000 : Nat))) then (bif (decide ((1 : Int) ≤ ((List.length (pctP p)) : Int))) then (bif (decide ((List.length (cut (pctP p) (1 : Int) ((List.length (pctP p)) : Int))) ≤ (1000000 : Nat))) then (iClean_F6 N (splP (cut (pctP p) (1 : Int) ((List.length (pctP p)) : Int)) (47 : Int)) (splP (cut (pctP p) (1 : Int) ((List.length (pctP p)) : Int)) (47 : Int)) ((List.length (splP (cut (pctP p) (1 : Int) ((List.length (pctP p)) : Int)) (47 : Int))) : Int) (0 : Int) ([] : (List Bytes)) (fun x6x0x0 => (fun x6x0x1 => (bif (decide ((0 : Int) ≤ (wk64 (((List.length x6x0x0) : Int) - (1 : Int))))) then (bif (decide ((wk64 (((List.length x6x0x0) : Int) - (1 : Int))) < ((List.length x6x0x0) : Int))) then (bif (decide ((List.getD x6x0x0 (Int.toNat (wk64 (((List.length x6x0x0) : Int) - (1 : Int)))) ([] : Bytes)) = ((46 : UInt8) :: ([] : Bytes)))) then (bif (decide ((((List.length x6x0x1) + (1 : Nat)) * (16 : Nat)) ≤ (140737488355328 : Nat))) then (bif ((decide ((List.length (x6x0x1 ++ (List.set (List.replicate (1 : Nat) ([] : Bytes)) (0 : Nat) ([] : Bytes)))) ≤ (1000000 : Nat))) && (decide ((List.length (joinP (x6x0x1 ++ (List.set (List.replicate (1 : Nat) ([] : Bytes)) (0 : Nat) ([] : Bytes))) ((47 : UInt8) :: ([] : Bytes)))) ≤ (1000000 : Nat)))) then (bif (decide (((1 : Nat) + (List.length (joinP (x6x0x1 ++ (List.set (List.replicate (1 : Nat) ([] : Bytes)) (0 : Nat) ([] : Bytes))) ((47 : UInt8) :: ([] : Bytes))))) ≤ (9223372036854775807 : Nat))) then (some ((AV.str (((47 : UInt8) :: ([] : Bytes)) ++ (joinP (x6x0x1 ++ (List.set (List.replicate (1 : Nat) ([] : Bytes)) (0 : Nat) ([] : Bytes))) ((47 : UInt8) :: ([] : Bytes))))), ([] : List Ob))) else (none)) else (none)) else (none)) else (bif (decide ((List.getD x6x0x0 (Int.toNat (wk64 (((List.length x6x0x0) : Int) - (1 : Int)))) ([] : Bytes)) = ((46 : UInt8) :: ((46 : UInt8) :: ([] : Bytes))))) then (bif (decide ((((List.length x6x0x1) + (1 : Nat)) * (16 : Nat)) ≤ (140737488355328 : Nat))) then (bif ((decide ((List.length (x6x0x1 ++ (List.set (List.replicate (1 : Nat) ([] : Bytes)) (0 : Nat) ([] : Bytes)))) ≤ (1000000 : Nat))) && (decide ((List.length (joinP (x6x0x1 ++ (List.set (List.replicate (1 : Nat) ([] : Bytes)) (0 : Nat) ([] : Bytes))) ((47 : UInt8) :: ([] : Bytes)))) ≤ (1000000 : Nat)))) then (bif (decide (((1 : Nat) + (List.length (joinP (x6x0x1 ++ (List.set (List.replicate (1 : Nat) ([] : Bytes)) (0 : Nat) ([] : Bytes))) ((47 : UInt8) :: ([] : Bytes))))) ≤ (9223372036854775807 : Nat))) then (some ((AV.str (((47 : UInt8) :: ([] : Bytes)) ++ (joinP (x6x0x1 ++ (List.set (List.replicate (1 : Nat) ([] : Bytes)) (0 : Nat) ([] : Bytes))) ((47 : UInt8) :: ([] : Bytes))))), ([] : List Ob))) else (none)) else (none)) else (none)) else (bif ((decide ((List.length x6x0x1) ≤ (1000000 : Nat))) && (decide ((List.length (joinP x6x0x1 ((47 : UInt8) :: ([] : Bytes)))) ≤ (1000000 : Nat)))) then (bif (decide (((1 : Nat) + (List.length (joinP x6x0x1 ((47 : UInt8) :: ([] : Bytes))))) ≤ (9223372036854775807 : Nat))) then (some ((AV.str (((47 : UInt8) :: ([] : Bytes)) ++ (joinP x6x0x1 ((47 : UInt8) :: ([] : Bytes))))), ([] : List Ob))) else (none)) else (none)))) else (none)) else (none))))) else (none)) else (none)) else (none))) else (none))) else (none)))) else (none)) else (some ((AV.str ([] : Bytes)), ([] : List Ob))))
theorem iClean_runL (N : Nat) (p : Bytes) : runL Kx iClean_C iClean_O (iClean_L N) Tryz.f209 ([.str p]) ([]) = iClean_run N p := by kernel_rfl
theorem iClean_body : Tryz.f209.body = some (codeOf Tryz.f209) := by kernel_rfl
theorem iClean_loops : loops (codeOf Tryz.f209) = [iClean_b6] := by kernel_rfl
theorem iClean_ev (N : Nat) (p : Bytes) {res_ : Rs} (hyp_ : iClean_run N p = some res_) : ∃ n_, runF Kx iClean_C iClean_O n_ Tryz.f209 ([.str p]) ([]) = some res_ :=
  ⟨N, runL_runF iClean_body (by rw [iClean_loops]; exact List.forall_mem_cons.2 ⟨iClean_ok6 N, fun _ h => nomatch h⟩) ((iClean_runL N p).trans hyp_)⟩
def iClean_sOf (φ : Bytes → Br) : List AV → List Ob → Br
  | [.str p], [] => φ p
  | _, _ => .fail
theorem iClean_okOf {φ : Bytes → Br} (fu : Bytes → Nat) (hv : ∀ p res_, (φ p).val = some res_ → iClean_run (fu p) p = some res_) : Sound Kx 209 (iClean_sOf φ) := by
  refine sound_run (C := iClean_C) (O := iClean_O) KOk iClean_C_ok Tryz.func209 (by kernel_rfl) fun args objs res os h => ?_
  unfold iClean_sOf at h
  split at h
  · exact iClean_ev _ _ (hv _ _ h)
  · cases h

def sClean_O : Opt := { cons := [80], keepNil := false, mutF := [], live := [(22, [5, 8, 9]), (11, [4, 5, 6]), (4, [0, 3])], outs := [(22, [2, 8]), (11, [2, 5]), (4, [0, 2])] }
def sClean_C : Spec := (add (add (add noS 157 (t1_s fun s => .bool (allP isVis s && decide ((0 : Int) < (s.length : Int))))) 228 un8_s) 227 sp_s)
theorem sClean_C_ok : ∀ fn, Sound Kx fn (sClean_C fn) := (sound_add (sound_add (sound_add (sound_no Kx) svis_okQ) sunes_okQ) ssplit_okQ)
def sClean_T4 (v4x0 : Bytes) (v4x1 : Int) (kR4 : Bytes → Int → Option Rs) (k4e0 : Bytes → Option Rs) (k4e1 : Bytes → Option Rs) : Option Rs :=
  (bif (decide (v4x1 < ((List.length v4x0) : Int))) then (bif (decide ((0 : Int) ≤ v4x1)) then (bif (decide (v4x1 < ((List.length v4x0) : Int))) then (bif (decide ((strAt v4x0 v4x1) = (35 : Int))) then (k4e0 v4x0) else (bif (decide ((0 : Int) ≤ v4x1)) then (bif (decide (v4x1 < ((List.length v4x0) : Int))) then (bif (decide ((strAt v4x0 v4x1) = (63 : Int))) then (k4e0 v4x0) else (kR4 v4x0 (wk64 (v4x1 + (1 : Int))))) else (none)) else (none))) else (none)) else (none)) else (k4e1 v4x0))
def sClean_F4 : Nat → Bytes → Int → (Bytes → Option Rs) → (Bytes → Option Rs) → Option Rs
  | 0, _, _, _, _ => none
  | n + 1, v4x0, v4x1, k4e0, k4e1 => sClean_T4 v4x0 v4x1 (fun v4x0 v4x1 => sClean_F4 n v4x0 v4x1 k4e0 k4e1) k4e0 k4e1
def sClean_h4 (v4x0 : Bytes) (v4x1 : Int) : St := (St.mk (slots 0 114 [(0, (AV.str v4x0)), (3, (AV.int .i64 v4x1))]) ([] : (List (Nat × (Ob)))))
def sClean_x4e0 (x4x0x0 : Bytes) : St := (St.mk (slots 0 114 [(0, (AV.str x4x0x0)), (2, (AV.str ([] : Bytes)))]) ([] : (List (Nat × (Ob)))))
def sClean_x4e1 (x4x1x0 : Bytes) : St := (St.mk (slots 0 114 [(0, (AV.str x4x1x0))]) ([] : (List (Nat × (Ob)))))
noncomputable def sClean_b4 : Code := codeAt (codeOf Tryz.f202) [1, 1, 0, 1, 0, 0]
def sClean_L4 (N : Nat) (st : St) (k : Ex → St → Option Rs) : Option Rs := match takeF [0, 3] 0 114 st.env, st.objs with
  | some [.str v4x0, .int .i64 v4x1], [] => sClean_F4 N v4x0 v4x1 (fun x4x0x0 => k Ex.ret (sClean_x4e0 x4x0x0)) (fun x4x1x0 => k (Ex.exit (0 : Nat)) (sClean_x4e1 x4x1x0))
  | _, _ => none
def sClean_T11 (v11x0 : Int) (v11x1 : (List Bytes)) (v11x2 : (List Bytes)) (kR11 : Int → (List Bytes) → (List Bytes) → Option Rs) (k11e0 : (List Bytes) → Option Rs) : Option Rs :=
  (bif (decide (v11x0 < ((List.length v11x1) : Int))) then (bif (decide ((0 : Int) ≤ v11x0)) then (bif (decide (v11x0 < ((List.length v11x1) : Int))) then (bif (decide ((List.getD v11x1 (Int.toNat v11x0) ([] : Bytes)) = ((46 : UInt8) :: ([] : Bytes)))) then (bif (decide ((0 : Int) ≤ v11x0)) then (bif (decide (v11x0 < ((List.length v11x1) : Int))) then (bif (decide ((List.getD v11x1 (Int.toNat v11x0) ([] : Bytes)) = ((46 : UInt8) :: ((46 : UInt8) :: ([] : Bytes))))) then (bif (decide ((0 : Int) < ((List.length v11x2) : Int))) then (bif (decide ((0 : Int) ≤ (wk64 (((List.length v11x2) : Int) - (1 : Int))))) then (bif (decide ((wk64 (((List.length v11x2) : Int) - (1 : Int))) ≤ ((List.length v11x2) : Int))) then (bif (decide ((wk64 (v11x0 + (1 : Int))) = ((List.length v11x1) : Int))) then (bif (decide ((((List.length (cut v11x2 (0 : Int) (wk64 (((List.length v11x2) : Int) - (1 : Int))))) + (1 : Nat)) * (16 : Nat)) ≤ (140737488355328 : Nat))) then (kR11 (wk64 (v11x0 + (1 : Int))) v11x1 ((cut v11x2 (0 : Int) (wk64 (((List.length v11x2) : Int) - (1 : Int)))) ++ (List.set (List.replicate (1 : Nat) ([] : Bytes)) (0 : Nat) ([] : Bytes)))) else (none)) else (kR11 (wk64 (v11x0 + (1 : Int))) v11x1 (cut v11x2 (0 : Int) (wk64 (((List.length v11x2) : Int) - (1 : Int)))))) else (none)) else (none)) else (bif (decide ((wk64 (v11x0 + (1 : Int))) = ((List.length v11x1) : Int))) then (bif (decide ((((List.length v11x2) + (1 : Nat)) * (16 : Nat)) ≤ (140737488355328 : Nat))) then (kR11 (wk64 (v11x0 + (1 : Int))) v11x1 (v11x2 ++ (List.set (List.replicate (1 : Nat) ([] : Bytes)) (0 : Nat) ([] : Bytes)))) else (none)) else (kR11 (wk64 (v11x0 + (1 : Int))) v11x1 v11x2))) else (bif (decide ((wk64 (v11x0 + (1 : Int))) = ((List.length v11x1) : Int))) then (bif (decide ((((List.length v11x2) + (1 : Nat)) * (16 : Nat)) ≤ (140737488355328 : Nat))) then (kR11 (wk64 (v11x0 + (1 : Int))) v11x1 (v11x2 ++ (List.set (List.replicate (1 : Nat) ([] : Bytes)) (0 : Nat) ([] : Bytes)))) else (none)) else (kR11 (wk64 (v11x0 + (1 : Int))) v11x1 v11x2))) else (none)) else (none)) else (bif (decide ((0 : Int) ≤ v11x0)) then (bif (decide (v11x0 < ((List.length v11x1) : Int))) then (bif (decide ((0 : Int) ≤ v11x0)) then (bif (decide (v11x0 < ((List.length v11x1) : Int))) then (bif (decide ((List.getD v11x1 (Int.toNat v11x0) ([] : Bytes)) = ((46 : UInt8) :: ((46 : UInt8) :: ([] : Bytes))))) then (bif (decide ((0 : Int) < ((List.length v11x2) : Int))) then (bif (decide ((0 : Int) ≤ (wk64 (((List.length v11x2) : Int) - (1 : Int))))) then (bif (decide ((wk64 (((List.length v11x2) : Int) - (1 : Int))) ≤ ((List.length v11x2) : Int))) then (bif (!(decide ((List.getD v11x1 (Int.toNat v11x0) ([] : Bytes)) = ((46 : UInt8) :: ((46 : UInt8) :: ([] : Bytes)))))) then (bif (decide ((0 : Int) ≤ v11x0)) then (bif (decide (v11x0 < ((List.length v11x1) : Int))) then (bif (decide ((((List.length (cut v11x2 (0 : Int) (wk64 (((List.length v11x2) : Int) - (1 : Int))))) + (List.length (List.set (List.replicate (1 : Nat) ([] : Bytes)) (0 : Nat) (List.getD v11x1 (Int.toNat v11x0) ([] : Bytes))))) * (16 : Nat)) ≤ (140737488355328 : Nat))) then (kR11 (wk64 (v11x0 + (1 : Int))) v11x1 ((cut v11x2 (0 : Int) (wk64 (((List.length v11x2) : Int) - (1 : Int)))) ++ (List.set (List.replicate (1 : Nat) ([] : Bytes)) (0 : Nat) (List.getD v11x1 (Int.toNat v11x0) ([] : Bytes))))) else (none)) else (none)) else (none)) else (bif (decide ((wk64 (v11x0 + (1 : Int))) = ((List.length v11x1) : Int))) then (bif (decide ((((List.length (cut v11x2 (0 : Int) (wk64 (((List.length v11x2) : Int) - (1 : Int))))) + (1 : Nat)) * (16 : Nat)) ≤ (140737488355328 : Nat))) then (kR11 (wk64 (v11x0 + (1 : Int))) v11x1 ((cut v11x2 (0 : Int) (wk64 (((List.length v11x2) : Int) - (1 : Int)))) ++ (List.set (List.replicate (1 : Nat) ([] : Bytes)) (0 : Nat) ([] : Bytes)))) else (none)) else (kR11 (wk64 (v11x0 + (1 : Int))) v11x1 (cut v11x2 (0 : Int) (wk64 (((List.length v11x2) : Int) - (1 : Int))))))) else (none)) else (none)) else (bif (!(decide ((List.getD v11x1 (Int.toNat v11x0) ([] : Bytes)) = ((46 : UInt8) :: ((46 : UInt8) :: ([] : Bytes)))))) then (bif (decide ((0 : Int) ≤ v11x0)) then (bif (decide (v11x0 < ((List.length v11x1) : Int))) then (bif (decide ((((List.length v11x2) + (List.length (List.set (List.replicate (1 : Nat) ([] : Bytes)) (0 : Nat) (List.getD v11x1 (Int.toNat v11x0) ([] : Bytes))))) * (16 : Nat)) ≤ (140737488355328 : Nat))) then (kR11 (wk64 (v11x0 + (1 : Int))) v11x1 (v11x2 ++ (List.set (List.replicate (1 : Nat) ([] : Bytes)) (0 : Nat) (List.getD v11x1 (Int.toNat v11x0) ([] : Bytes))))) else (none)) else (none)) else (none)) else (bif (decide ((wk64 (v11x0 + (1 : Int))) = ((List.length v11x1) : Int))) then (bif (decide ((((List.length v11x2) + (1 : Nat)) * (16 : Nat)) ≤ (140737488355328 : Nat))) then (kR11 (wk64 (v11x0 + (1 : Int))) v11x1 (v11x2 ++ (List.set (List.replicate (1 : Nat) ([] : Bytes)) (0 : Nat) ([] : Bytes)))) else (none)) else (kR11 (wk64 (v11x0 + (1 : Int))) v11x1 v11x2)))) else (bif (!(decide ((List.getD v11x1 (Int.toNat v11x0) ([] : Bytes)) = ((46 : UInt8) :: ((46 : UInt8) :: ([] : Bytes)))))) then (bif (decide ((0 : Int) ≤ v11x0)) then (bif (decide (v11x0 < ((List.length v11x1) : Int))) then (bif (decide ((((List.length v11x2) + (List.length (List.set (List.replicate (1 : Nat) ([] : Bytes)) (0 : Nat) (List.getD v11x1 (Int.toNat v11x0) ([] : Bytes))))) * (16 : Nat)) ≤ (140737488355328 : Nat))) then (kR11 (wk64 (v11x0 + (1 : Int))) v11x1 (v11x2 ++ (List.set (List.replicate (1 : Nat) ([] : Bytes)) (0 : Nat) (List.getD v11x1 (Int.toNat v11x0) ([] : Bytes))))) else (none)) else (none)) else (none)) else (bif (decide ((wk64 (v11x0 + (1 : Int))) = ((List.length v11x1) : Int))) then (bif (decide ((((List.length v11x2) + (1 : Nat)) * (16 : Nat)) ≤ (140737488355328 : Nat))) then (kR11 (wk64 (v11x0 + (1 : Int))) v11x1 (v11x2 ++ (List.set (List.replicate (1 : Nat) ([] : Bytes)) (0 : Nat) ([] : Bytes)))) else (none)) else (kR11 (wk64 (v11x0 + (1 : Int))) v11x1 v11x2)))) else (none)) else (none)) else (none)) else (none))) else (none)) else (none)) else (k11e0 v11x2))
def sClean_F11 : Nat → Int → (List Bytes) → (List Bytes) → ((List Bytes) → Option Rs) → Option Rs
  | 0, _, _, _, _ => none
  | n + 1, v11x0, v11x1, v11x2, k11e0 => sClean_T11 v11x0 v11x1 v11x2 (fun v11x0 v11x1 v11x2 => sClean_F11 n v11x0 v11x1 v11x2 k11e0) k11e0
def sClean_h11 (v11x0 : Int) (v11x1 : (List Bytes)) (v11x2 : (List Bytes)) : St := (St.mk (slots 0 114 [(4, (AV.ref (320 : Nat) (0 : Nat))), (5, (AV.ref (384 : Nat) (0 : Nat))), (6, (AV.int .i64 v11x0))]) (((320 : Nat), (Ob.arr Ty.str (0 : Nat) false v11x1)) :: (((384 : Nat), (Ob.arr Ty.str (0 : Nat) false v11x2)) :: ([] : (List (Nat × (Ob)))))))
def sClean_x11e0 (x11x0x0 : (List Bytes)) : St := (St.mk (slots 0 114 [(5, (AV.ref (384 : Nat) (0 : Nat)))]) (((384 : Nat), (Ob.arr Ty.str (0 : Nat) false x11x0x0)) :: ([] : (List (Nat × (Ob))))))
noncomputable def sClean_b11 : Code := codeAt (codeOf Tryz.f202) [1, 1, 1, 1, 1, 0, 1, 0, 0]
def sClean_L11 (N : Nat) (st : St) (k : Ex → St → Option Rs) : Option Rs := match takeF [4, 5, 6] 0 114 st.env, st.objs with
  | some [.ref 320 0, .ref 384 0, .int .i64 v11x0], [(320, .arr Ty.str 0 false v11x1), (384, .arr Ty.str 0 false v11x2)] => sClean_F11 N v11x0 v11x1 v11x2 (fun x11x0x0 => k (Ex.exit (2 : Nat)) (sClean_x11e0 x11x0x0))
  | _, _ => none
def sClean_T22 (v22x0 : Bytes) (v22x1 : Int) (v22x2 : (List Bytes)) (kR22 : Bytes → Int → (List Bytes) → Option Rs) (k22e0 : Bytes → Option Rs) : Option Rs :=
  (bif (decide (v22x1 < ((List.length v22x2) : Int))) then (bif (decide (((List.length v22x0) + (1 : Nat)) ≤ (9223372036854775807 : Nat))) then (bif (decide ((0 : Int) ≤ v22x1)) then (bif (decide (v22x1 < ((List.length v22x2) : Int))) then (bif (decide (((List.length (v22x0 ++ ((47 : UInt8) :: ([] : Bytes)))) + (List.length (List.getD v22x2 (Int.toNat v22x1) ([] : Bytes)))) ≤ (9223372036854775807 : Nat))) then (kR22 ((v22x0 ++ ((47 : UInt8) :: ([] : Bytes))) ++ (List.getD v22x2 (Int.toNat v22x1) ([] : Bytes))) (wk64 (v22x1 + (1 : Int))) v22x2) else (none)) else (none)) else (none)) else (none)) else (k22e0 v22x0))
def sClean_F22 : Nat → Bytes → Int → (List Bytes) → (Bytes → Option Rs) → Option Rs
  | 0, _, _, _, _ => none
  | n + 1, v22x0, v22x1, v22x2, k22e0 => sClean_T22 v22x0 v22x1 v22x2 (fun v22x0 v22x1 v22x2 => sClean_F22 n v22x0 v22x1 v22x2 k22e0) k22e0
def sClean_h22 (v22x0 : Bytes) (v22x1 : Int) (v22x2 : (List Bytes)) : St := (St.mk (slots 0 114 [(5, (AV.ref (384 : Nat) (0 : Nat))), (8, (AV.str v22x0)), (9, (AV.int .i64 v22x1))]) (((384 : Nat), (Ob.arr Ty.str (0 : Nat) false v22x2)) :: ([] : (List (Nat × (Ob))))))
def sClean_x22e0 (x22x0x0 : Bytes) : St := (St.mk (slots 0 114 [(8, (AV.str x22x0x0))]) ([] : (List (Nat × (Ob)))))
noncomputable def sClean_b22 : Code := codeAt (codeOf Tryz.f202) [1, 1, 1, 1, 1, 1, 1, 0, 1, 0, 0]
def sClean_L22 (N : Nat) (st : St) (k : Ex → St → Option Rs) : Option Rs := match takeF [5, 8, 9] 0 114 st.env, st.objs with
  | some [.ref 384 0, .str v22x0, .int .i64 v22x1], [(384, .arr Ty.str 0 false v22x2)] => sClean_F22 N v22x0 v22x1 v22x2 (fun x22x0x0 => k (Ex.exit (4 : Nat)) (sClean_x22e0 x22x0x0))
  | _, _ => none
def sClean_L (N : Nat) : Lam := fun j st k => match j with
  | 4 => sClean_L4 N st k
  | 11 => sClean_L11 N st k
  | 22 => sClean_L22 N st k
  | _ => none
theorem sClean_round4 (N : Nat) (again : St → Option Rs) (k : Ex → St → Option Rs) (wv4x0 : Bytes) (wv4x1 : Int) (v4x0 : Bytes) (v4x1 : Int) :
    roundK 0 (fun st k => evL Kx sClean_C sClean_O 0 (sClean_L N) sClean_b4 st k) (sClean_h4 wv4x0 wv4x1).env again (sClean_h4 v4x0 v4x1) (outK sClean_O 0 sClean_b4 k) = sClean_T4 v4x0 v4x1 (fun v4x0 v4x1 => again (sClean_h4 v4x0 v4x1)) (fun x4x0x0 => k Ex.ret (sClean_x4e0 x4x0x0)) (fun x4x1x0 => k (Ex.exit (0 : Nat)) (sClean_x4e1 x4x1x0)) := by kernel_rfl
theorem sClean_loop4 (N : Nat) (k : Ex → St → Option Rs) (wv4x0 : Bytes) (wv4x1 : Int) : ∀ (n : Nat) (v4x0 : Bytes) (v4x1 : Int),
    loopK 0 (fun st k => evL Kx sClean_C sClean_O 0 (sClean_L N) sClean_b4 st k) (sClean_h4 wv4x0 wv4x1).env n (sClean_h4 v4x0 v4x1) (outK sClean_O 0 sClean_b4 k) = sClean_F4 n v4x0 v4x1 (fun x4x0x0 => k Ex.ret (sClean_x4e0 x4x0x0)) (fun x4x1x0 => k (Ex.exit (0 : Nat)) (sClean_x4e1 x4x1x0))
  | 0, _, _ => rfl
  | n + 1, v4x0, v4x1 => by
    rw [loopK_succ, sClean_round4]
    simp only [sClean_loop4 N k wv4x0 wv4x1 n]
    rfl
theorem sClean_at4 (N : Nat) {s : St} {k : Ex → St → Option Rs} {r : Rs} (h : sClean_L4 N s k = some r) : ∃ (v4x0 : Bytes) (v4x1 : Int), s = (sClean_h4 v4x0 v4x1) ∧ sClean_F4 N v4x0 v4x1 (fun x4x0x0 => k Ex.ret (sClean_x4e0 x4x0x0)) (fun x4x1x0 => k (Ex.exit (0 : Nat)) (sClean_x4e1 x4x1x0)) = some r := by
  cases s with | mk env objs =>
  unfold sClean_L4 at h
  split at h
  · rename_i e1 e2
    have e3 := takeF_slots _ _ _ _ e1
    simp only at e2 e3
    subst e2 e3
    exact ⟨_, _, rfl, h⟩
  · cases h
theorem sClean_in4 : loops sClean_b4 = [] := by kernel_rfl
theorem sClean_lid4 : lid sClean_b4 = 4 := by kernel_rfl
theorem sClean_ok4 (N : Nat) : OkL Kx sClean_C sClean_O 0 N (sClean_L N) sClean_b4 := by
  intro s k k' r hk h
  rw [sClean_lid4] at h
  obtain ⟨v4x0, v4x1, rfl, h⟩ := sClean_at4 N h
  refine loopL (Λ := sClean_L N) sClean_b4 ?_ N hk ((sClean_loop4 N k v4x0 v4x1 N v4x0 v4x1).trans h)
  rw [sClean_in4]
  exact fun _ h => nomatch h
theorem sClean_round11 (N : Nat) (again : St → Option Rs) (k : Ex → St → Option Rs) (wv11x0 : Int) (wv11x1 : (List Bytes)) (wv11x2 : (List Bytes)) (v11x0 : Int) (v11x1 : (List Bytes)) (v11x2 : (List Bytes)) :
    roundK 0 (fun st k => evL Kx sClean_C sClean_O 0 (sClean_L N) sClean_b11 st k) (sClean_h11 wv11x0 wv11x1 wv11x2).env again (sClean_h11 v11x0 v11x1 v11x2) (outK sClean_O 0 sClean_b11 k) = sClean_T11 v11x0 v11x1 v11x2 (fun v11x0 v11x1 v11x2 => again (sClean_h11 v11x0 v11x1 v11x2)) (fun x11x0x0 => k (Ex.exit (2 : Nat)) (sClean_x11e0 x11x0x0)) := by kernel_rfl
theorem sClean_loop11 (N : Nat) (k : Ex → St → Option Rs) (wv11x0 : Int) (wv11x1 : (List Bytes)) (wv11x2 : (List Bytes)) : ∀ (n : Nat) (v11x0 : Int) (v11x1 : (List Bytes)) (v11x2 : (List Bytes)),
    loopK 0 (fun st k => evL Kx sClean_C sClean_O 0 (sClean_L N) sClean_b11 st k) (sClean_h11 wv11x0 wv11x1 wv11x2).env n (sClean_h11 v11x0 v11x1 v11x2) (outK sClean_O 0 sClean_b11 k) = sClean_F11 n v11x0 v11x1 v11x2 (fun x11x0x0 => k (Ex.exit (2 : Nat)) (sClean_x11e0 x11x0x0))
  | 0, _, _, _ => rfl
  | n + 1, v11x0, v11x1, v11x2 => by
    rw [loopK_succ, sClean_round11]
    simp only [sClean_loop11 N k wv11x0 wv11x1 wv11x2 n]
    rfl
theorem sClean_at11 (N : Nat) {s : St} {k : Ex → St → Option Rs} {r : Rs} (h : sClean_L11 N s k = some r) : ∃ (v11x0 : Int) (v11x1 : (List Bytes)) (v11x2 : (List Bytes)), s = (sClean_h11 v11x0 v11x1 v11x2) ∧ sClean_F11 N v11x0 v11x1 v11x2 (fun x11x0x0 => k (Ex.exit (2 : Nat)) (sClean_x11e0 x11x0x0)) = some r := by
  cases s with | mk env objs =>
  unfold sClean_L11 at h
  split at h
  · rename_i e1 e2
    have e3 := takeF_slots _ _ _ _ e1
    simp only at e2 e3
    subst e2 e3
    exact ⟨_, _, _, rfl, h⟩
  · cases h
theorem sClean_in11 : loops sClean_b11 = [] := by kernel_rfl
theorem sClean_lid11 : lid sClean_b11 = 11 := by kernel_rfl
theorem sClean_ok11 (N : Nat) : OkL Kx sClean_C sClean_O 0 N (sClean_L N) sClean_b11 := by
  intro s k k' r hk h
  rw [sClean_lid11] at h
  obtain ⟨v11x0, v11x1, v11x2, rfl, h⟩ := sClean_at11 N h
  refine loopL (Λ := sClean_L N) sClean_b11 ?_ N hk ((sClean_loop11 N k v11x0 v11x1 v11x2 N v11x0 v11x1 v11x2).trans h)
  rw [sClean_in11]
  exact fun _ h => nomatch h
theorem sClean_round22 (N : Nat) (again : St → Option Rs) (k : Ex → St → Option Rs) (wv22x0 : Bytes) (wv22x1 : Int) (wv22x2 : (List Bytes)) (v22x0 : Bytes) (v22x1 : Int) (v22x2 : (List Bytes)) :
    roundK 0 (fun st k => evL Kx sClean_C sClean_O 0 (sClean_L N) sClean_b22 st k) (sClean_h22 wv22x0 wv22x1 wv22x2).env again (sClean_h22 v22x0 v22x1 v22x2) (outK sClean_O 0 sClean_b22 k) = sClean_T22 v22x0 v22x1 v22x2 (fun v22x0 v22x1 v22x2 => again (sClean_h22 v22x0 v22x1 v22x2)) (fun x22x0x0 => k (Ex.exit (4 : Nat)) (sClean_x22e0 x22x0x0)) := by kernel_rfl
theorem sClean_loop22 (N : Nat) (k : Ex → St → Option Rs) (wv22x0 : Bytes) (wv22x1 : Int) (wv22x2 : (List Bytes)) : ∀ (n : Nat) (v22x0 : Bytes) (v22x1 : Int) (v22x2 : (List Bytes)),
    loopK 0 (fun st k => evL Kx sClean_C sClean_O 0 (sClean_L N) sClean_b22 st k) (sClean_h22 wv22x0 wv22x1 wv22x2).env n (sClean_h22 v22x0 v22x1 v22x2) (outK sClean_O 0 sClean_b22 k) = sClean_F22 n v22x0 v22x1 v22x2 (fun x22x0x0 => k (Ex.exit (4 : Nat)) (sClean_x22e0 x22x0x0))
  | 0, _, _, _ => rfl
  | n + 1, v22x0, v22x1, v22x2 => by
    rw [loopK_succ, sClean_round22]
    simp only [sClean_loop22 N k wv22x0 wv22x1 wv22x2 n]
    rfl
theorem sClean_at22 (N : Nat) {s : St} {k : Ex → St → Option Rs} {r : Rs} (h : sClean_L22 N s k = some r) : ∃ (v22x0 : Bytes) (v22x1 : Int) (v22x2 : (List Bytes)), s = (sClean_h22 v22x0 v22x1 v22x2) ∧ sClean_F22 N v22x0 v22x1 v22x2 (fun x22x0x0 => k (Ex.exit (4 : Nat)) (sClean_x22e0 x22x0x0)) = some r := by
  cases s with | mk env objs =>
  unfold sClean_L22 at h
  split at h
  · rename_i e1 e2
    have e3 := takeF_slots _ _ _ _ e1
    simp only at e2 e3
    subst e2 e3
    exact ⟨_, _, _, rfl, h⟩
  · cases h
theorem sClean_in22 : loops sClean_b22 = [] := by kernel_rfl
theorem sClean_lid22 : lid sClean_b22 = 22 := by kernel_rfl
theorem sClean_ok22 (N : Nat) : OkL Kx sClean_C sClean_O 0 N (sClean_L N) sClean_b22 := by
  intro s k k' r hk h
  rw [sClean_lid22] at h
  obtain ⟨v22x0, v22x1, v22x2, rfl, h⟩ := sClean_at22 N h
  refine loopL (Λ := sClean_L N) sClean_b22 ?_ N hk ((sClean_loop22 N k v22x0 v22x1 v22x2 N v22x0 v22x1 v22x2).trans h)
  rw [sClean_in22]
  exact fun _ h => nomatch h
def sClean_run (N : Nat) (p : Bytes) : Option Rs := (bif (decide (((List.length p) : Int) = (0 : Int))) then (some ((AV.str ([] : Bytes)), ([] : List Ob))) else (bif (decide ((200 : Int) < ((List.length p) : Int))) then (some ((AV.str ([] : Bytes)), ([] : List Ob))) else (bif (decide ((0 : Int) < ((List.length p) : Int))) then (bif (!(decide ((strAt p (0 : Int)) = (47 : Int)))) then (some ((AV.str ([] : Bytes)), ([] : List Ob))) else (bif (isM p) then (bif (!((allP isVis p) && (decide ((0 : Int) < ((List.length p) : Int))))) then (some ((AV.str ([] : Bytes)), ([] : List Ob))) else (sClean_F4 N p (0 : Int) (fun x4x0x0 => (some ((AV.str ([] : Bytes)), ([] : List Ob)))) (fun x4x1x0 => (bif (decide ((List.length x4x1x0) ≤ (1000000 : Nat))) then (bif (decide ((1 : Int) ≤ ((List.length (pctP x4x1x0)) : Int))) then (bif (decide ((List.length (cut (pctP x4x1x0) (1 : Int) ((List.length (pctP x4x1x0)) : Int))) ≤ (1000000 : Nat))) then (sClean_F11 N (0 : Int) (splP (cut (pctP x4x1x0) (1 : Int) ((List.length (pctP x4x1x0)) : Int)) (47 : Int)) ([] : (List Bytes)) (fun x11x0x0 => (sClean_F22 N ([] : Bytes) (0 : Int) x11x0x0 (fun x22x0x0 => (bif (decide (x22x0x0 = ([] : Bytes))) then (some ((AV.str ((47 : UInt8) :: ([] : Bytes))), ([] : List Ob))) else (some ((AV.str x22x0x0), ([] : List Ob)))))))) else (none)) else (none)) else (none))))) else (none))) else (none))))
theorem sClean_runL (N : Nat) (p : Bytes) : runL Kx sClean_C sClean_O (sClean_L N) Tryz.f202 ([.str p]) ([]) = sClean_run N p := by kernel_rfl
theorem sClean_body : Tryz.f202.body = some (codeOf Tryz.f202) := by kernel_rfl
theorem sClean_loops : loops (codeOf Tryz.f202) = [sClean_b4, sClean_b11, sClean_b22] := by kernel_rfl
theorem sClean_ev (N : Nat) (p : Bytes) {res_ : Rs} (hyp_ : sClean_run N p = some res_) : ∃ n_, runF Kx sClean_C sClean_O n_ Tryz.f202 ([.str p]) ([]) = some res_ :=
  ⟨N, runL_runF sClean_body (by rw [sClean_loops]; exact List.forall_mem_cons.2 ⟨sClean_ok4 N, List.forall_mem_cons.2 ⟨sClean_ok11 N, List.forall_mem_cons.2 ⟨sClean_ok22 N, fun _ h => nomatch h⟩⟩⟩) ((sClean_runL N p).trans hyp_)⟩
def sClean_sOf (φ : Bytes → Br) : List AV → List Ob → Br
  | [.str p], [] => φ p
  | _, _ => .fail
theorem sClean_okOf {φ : Bytes → Br} (fu : Bytes → Nat) (hv : ∀ p res_, (φ p).val = some res_ → sClean_run (fu p) p = some res_) : Sound Kx 202 (sClean_sOf φ) := by
  refine sound_run (C := sClean_C) (O := sClean_O) KOk sClean_C_ok Tryz.func202 (by kernel_rfl) fun args objs res os h => ?_
  unfold sClean_sOf at h
  split at h
  · exact sClean_ev _ _ (hv _ _ h)
  · cases h

def iHost_O : Opt := { cons := [], keepNil := false, mutF := [], live := [], outs := [] }
def iHost_C : Spec := (add (add (add (add noS 84 iwithin_s) 95 allHost_s) 241 split_s) 261 coS_s)
theorem iHost_C_ok : ∀ fn, Sound Kx fn (iHost_C fn) := (sound_add (sound_add (sound_add (sound_add (sound_no Kx) iwithin_ok) allHost_okQ) split_okQ) conS_okQ)
def iHost_br (s : Bytes) : Br := (Br.ite (decide ((1 : Int) ≤ ((List.length s) : Int))) (Br.ite (!(decide (((List.length s) : Int) ≤ (60 : Int)))) (Br.ret (AV.bool false) ([] : List Ob)) (Br.ite (isM s) (Br.ite (!(allP hoB s)) (Br.ret (AV.bool false) ([] : List Ob)) (Br.ite (decide ((List.length s) ≤ (1000000 : Nat))) (Br.ite (decide ((List.length (splP s (46 : Int))) ≤ (1000000 : Nat))) (Br.ret (AV.bool (!(inP (splP s (46 : Int)) ([] : Bytes)))) ([] : List Ob)) Br.fail) Br.fail)) Br.fail)) (Br.ret (AV.bool false) ([] : List Ob)))
theorem iHost_run (s : Bytes) : runF Kx iHost_C iHost_O 1 Tryz.f243 ([.str s]) ([]) = (iHost_br s).val := by kernel_rfl
def iHost_s : List AV → List Ob → Br
  | [.str s], [] => iHost_br s
  | _, _ => .fail
theorem iHost_ok : Sound Kx 243 iHost_s := by
  refine sound_run (C := iHost_C) (O := iHost_O) KOk iHost_C_ok Tryz.func243 (by kernel_rfl) fun args objs res os h => ?_
  unfold iHost_s at h
  split at h
  · exact ⟨1, (iHost_run _).trans h⟩
  · cases h

def iReadDec_O : Opt := { cons := [], keepNil := false, mutF := [], live := [], outs := [] }
def iReadDec_C : Spec := (add (add (add noS 237 atoi_s) 84 iwithin_s) 238 dt_s)
theorem iReadDec_C_ok : ∀ fn, Sound Kx fn (iReadDec_C fn) := (sound_add (sound_add (sound_add (sound_no Kx) atoi_okQ) iwithin_ok) iDecT_okQ)
def iReadDec_br (s : Bytes) : Br := (Br.ite (decide ((List.length s) ≤ (1000000 : Nat))) (Br.ite (atoiOk s) (Br.ite (decide ((0 : Int) ≤ (atoiV s))) (Br.ite (!(decide ((atoiV s) ≤ (999999999999999 : Int)))) (Br.ret (AV.tup ((AV.int .i64 (0 : Int)) :: ((AV.bool false) :: ([] : List AV)))) ([] : List Ob)) (Br.ite (!(decide ((bif (num15 (atoiV s)) then (decD (atoiV s)) else ([] : Bytes)) = s))) (Br.ret (AV.tup ((AV.int .i64 (0 : Int)) :: ((AV.bool false) :: ([] : List AV)))) ([] : List Ob)) (Br.ret (AV.tup ((AV.int .i64 (atoiV s)) :: ((AV.bool true) :: ([] : List AV)))) ([] : List Ob)))) (Br.ret (AV.tup ((AV.int .i64 (0 : Int)) :: ((AV.bool false) :: ([] : List AV)))) ([] : List Ob))) (Br.ret (AV.tup ((AV.int .i64 (0 : Int)) :: ((AV.bool false) :: ([] : List AV)))) ([] : List Ob))) Br.fail)
theorem iReadDec_run (s : Bytes) : runF Kx iReadDec_C iReadDec_O 1 Tryz.f208 ([.str s]) ([]) = (iReadDec_br s).val := by kernel_rfl
def iReadDec_s : List AV → List Ob → Br
  | [.str s], [] => iReadDec_br s
  | _, _ => .fail
theorem iReadDec_ok : Sound Kx 208 iReadDec_s := by
  refine sound_run (C := iReadDec_C) (O := iReadDec_O) KOk iReadDec_C_ok Tryz.func208 (by kernel_rfl) fun args objs res os h => ?_
  unfold iReadDec_s at h
  split at h
  · exact ⟨1, (iReadDec_run _).trans h⟩
  · cases h

end
end Go.Proofs.YtmmjaomfonknnaaGreatDoor.Ev

namespace Go.Proofs.YtmmjaomfonknnaaGreatDoor.Ev
open Go Go.RowKit
set_option linter.unusedVariables false
set_option linter.unusedSimpArgs false
noncomputable section

def slashP : List Bytes → Bytes
  | [] => []
  | w :: r => 47 :: (w ++ slashP r)
theorem slash_cons (w : Bytes) (r : List Bytes) : slashP (w :: r) = 47 :: (w ++ slashP r) := rfl
theorem andT {a b : Bool} (h : a = true) (k : b = true) : (a && b) = true := by rw [h, k]; rfl
theorem slash_tail (l : List Bytes) : Lib.joinTail [47] l = slashP l := by
  induction l with
  | nil => rfl
  | cons w r ih =>
    unfold slashP
    rw [← ih]
    simp [Lib.joinTail]
theorem slash_join (l : List Bytes) : 47 :: joinP l [47] = bif decide (slashP l = []) then [47] else slashP l := by
  cases l with
  | nil => rfl
  | cons w r =>
    unfold joinP
    rw [Lib.join_cons, slash_tail, slash_cons, decide_eq_false (by simp)]; rfl
theorem slash_app (a b : List Bytes) : slashP (a ++ b) = slashP a ++ slashP b := by
  induction a with
  | nil => rfl
  | cons w a ih => simp only [List.cons_append, slashP, ih]; simp
theorem slash_len (l : List Bytes) : l.length ≤ (slashP l).length := by
  induction l with
  | nil => exact Nat.le_refl _
  | cons w r ih => simp only [slashP, List.length_cons, List.length_append]; omega
theorem slash_spl (b : Int) : ∀ (r cur : Bytes), (slashP (splR b cur r)).length = cur.length + r.length + 1
  | [], cur => by simp [splR, slashP]
  | x :: r, cur => by
    rw [splR_cons]
    cases decide (by8 x = b)
    · rw [cond_false, slash_spl b r]; simp; try omega
    · rw [cond_true]; simp only [slashP, List.length_cons, List.length_append, slash_spl b r]; simp; try omega
theorem slash_drop (l : List Bytes) : (slashP l.dropLast).length ≤ (slashP l).length := by
  cases h : l.reverse with
  | nil => have : l = [] := by simpa using h
           subst this; exact Nat.le_refl _
  | cons w r =>
    have e : l = r.reverse ++ [w] := by rw [← List.reverse_reverse l, h]; simp
    rw [e, List.dropLast_concat, slash_app]; simp
theorem slash_step (out : List Bytes) (w : Bytes) : (slashP (stepS out w)).length ≤ (slashP out).length + w.length + 1 := by
  unfold stepS
  cases decide (w = [46])
  · cases decide (w = [46, 46])
    · simp only [cond_false, slash_app, List.length_append, slashP, List.length_cons]; simp; omega
    · have := slash_drop out; simp only [cond_true, cond_false]; omega
  · rw [cond_true]; omega
theorem slash_fold : ∀ (l out : List Bytes), (slashP (l.foldl stepS out)).length ≤ (slashP out).length + (slashP l).length
  | [], out => by simp
  | w :: l, out => by
    have h1 := slash_step out w
    have h2 := slash_fold l (stepS out w)
    simp only [List.foldl_cons, slashP, List.length_cons, List.length_append]; omega
theorem slash_segs (l : List Bytes) : (slashP (segsP l)).length ≤ (slashP l).length + 1 := by
  unfold segsP
  have := slash_fold l []
  rw [slash_app]
  cases dotB (l.getLastD [])
  · simp [slashP] at this ⊢; omega
  · simp [slashP] at this ⊢; omega
theorem fold_len (l : List Bytes) : ∀ out : List Bytes, (l.foldl stepS out).length ≤ out.length + l.length := by
  induction l with
  | nil => intro out; simp
  | cons w l ih => intro out; have := ih (stepS out w); have := stepS_len out w; simp only [List.foldl_cons, List.length_cons]; omega
theorem join_len (l : List Bytes) : (joinP l [47]).length ≤ (slashP l).length := by
  have := congrArg List.length (slash_join l)
  simp only [List.length_cons] at this
  cases h : decide (slashP l = [])
  · rw [h, cond_false] at this; omega
  · rw [h, cond_true] at this; simp only [List.length_cons, List.length_nil] at this; omega
theorem cut_last (l : List Bytes) (v : Int) (h : v = ((l.length - 1 : Nat) : Int)) : cut l 0 v = l.dropLast := by
  subst h
  unfold cut
  rw [Int.toNat_natCast]
  simp [List.dropLast_eq_take]
theorem getD_last : ∀ (l : List Bytes), l ≠ [] → l.getD (l.length - 1) [] = l.getLastD []
  | [], h => absurd rfl h
  | [w], _ => rfl
  | w :: x :: r, _ => by
    have ih := getD_last (x :: r) (by simp)
    simp only [List.length_cons, Nat.add_sub_cancel] at ih ⊢
    rw [List.getD_cons_succ, ih]
    rfl

theorem iClean_loop (l0 l : List Bytes) (hl : l.length ≤ 1000000) (k : List Bytes → List Bytes → Option Rs) : ∀ (r : List Bytes) (i : Int) (out : List Bytes) (n : Nat), At l i r → r.length < n → out.length + r.length ≤ 1000000 →
    iClean_F6 n l0 l (l.length : Int) i out k = k l0 (r.foldl stepS out) := by
  intro r; induction r with
  | nil => intro i out n h hn ho; obtain ⟨n, rfl⟩ := fuel hn; unfold iClean_F6 iClean_T6; simp only [h.dge, cond_false]; rfl
  | cons w r ih =>
    intro i out n h hn ho; obtain ⟨n, rfl⟩ := fuel hn
    simp only [List.length_cons] at hn ho
    have hs := stepS_len out w
    have hr := ih (i + 1) (stepS out w) n h.step (by omega) (by omega)
    have hap : decide ((out.length + [w].length) * 16 ≤ 140737488355328) = true := decide_eq_true (by simp only [List.length_singleton]; omega)
    have hv : (if (0 : Int) < wk64 ((out.length : Int) - 1) then wk64 ((out.length : Int) - 1) else 0) = ((out.length - 1 : Nat) : Int) := by
      rw [w64 (by omega) (by omega)]
      split <;> omega
    have q1 : decide ((0 : Int) ≤ ((out.length - 1 : Nat) : Int)) = true := decide_eq_true (by omega)
    have q2 : decide (((out.length - 1 : Nat) : Int) ≤ (out.length : Int)) = true := decide_eq_true (by omega)
    unfold iClean_F6 iClean_T6
    simp only [h.dlt, h.dnn, h.get, cond_true, h.next (show l.length ≤ 4611686018427387904 by omega), one_set, hap, hv, q1, q2, cut_last out _ rfl]
    simp only [List.foldl_cons]
    unfold stepS at hr ⊢
    cases c1 : decide (w = [46])
    · cases c2 : decide (w = [46, 46])
      · rw [c1, c2] at hr; exact hr
      · rw [c1, c2] at hr; exact hr
    · rw [c1] at hr; exact hr
theorem cleanP_not (c : UInt8) (r : Bytes) (h : c ≠ 47) : cleanP (c :: r) = [] := by
  unfold cleanP
  split
  · rename_i e; injection e with e1 e2; exact absurd e1 h
  · rfl
theorem cleanP_at (r : Bytes) : cleanP (47 :: r) = bif pathOk (47 :: r) then 47 :: joinP (segsP (splP (pctP r) 47)) [47] else [] := rfl
theorem vis_asc (s : Bytes) (h : allP isVis s = true) : ascP s = true := by
  unfold ascP allP at *
  rw [List.all_eq_true] at *
  intro c hc
  have := h c hc
  simp only [isVis, Bool.and_eq_true, decide_eq_true_eq] at this
  exact decide_eq_true (by omega)
theorem anyIx_nn (s : Bytes) (a b : UInt8) : decide (0 ≤ anyIx s [a, b]) = (hasB s (by8 a) || hasB s (by8 b)) := by
  rw [anyIx_cases]
  cases hasB s (by8 a) || hasB s (by8 b)
  · rfl
  · rw [cond_true]; exact decide_eq_true (by omega)
theorem segs_bd (r : Bytes) (h : r.length ≤ 200) : (splP (pctP r) 47).length ≤ 201 ∧ (slashP (splP (pctP r) 47)).length ≤ 201 := by
  have h1 := pctP_len r
  have h2 := spl_len (pctP r) 47
  have h3 := slash_spl 47 (pctP r) []
  unfold splP at h2 ⊢
  simp only [List.length_nil] at h3
  omega
theorem iClean_okQ : Sound Kx 209 (t1_s fun s => .str (cleanP s)) := by
  refine (iClean_okOf (φ := fun s => .ite (isM s) (.ret (.str (cleanP s)) []) .fail) (fun s => s.length + 3) fun p r h => ?_).of fun args objs r h => ?_
  · obtain ⟨hM, h2⟩ := ite_some h
    cases h2
    unfold iClean_run
    cases p with
    | nil => rfl
    | cons c r =>
      have e1 : decide ((1 : Int) ≤ ((c :: r).length : Int)) = true := decide_eq_true (by simp only [List.length_cons]; omega)
      have e2 : cut (c :: r) 0 1 = [c] := rfl
      simp only [e1, cond_true, e2]
      by_cases hc : c = 47
      · subst hc
        rw [cleanP_at]
        unfold pathOk
        simp only [decide_true, Bool.not_true, cond_false, hM, cond_true]
        cases d1 : decide ((200 : Int) < ((47 :: r : Bytes).length : Int))
        · have d1' := of_decide_eq_false d1
          simp only [List.length_cons] at d1'
          rw [decide_eq_true (show (47 :: r : Bytes).length ≤ 200 by simp only [List.length_cons]; omega)]
          simp only [cond_false, Bool.true_and]
          cases d2 : allP isVis (47 :: r)
          · rfl
          have a1 := vis_asc _ d2
          have m1 : decide ((47 :: r : Bytes).length ≤ 1000000) = true := decide_eq_true (by simp only [List.length_cons]; omega)
          simp only [Bool.not_true, cond_false, Bool.true_and, Bool.and_true, a1, m1, cond_true, anyIx_nn]
          rw [show by8 35 = 35 from rfl, show by8 63 = 63 from rfl]
          cases d3 : hasB (47 :: r) 35
          · cases d4 : hasB (47 :: r) 63
            · simp only [Bool.or_false, cond_false, Bool.not_false, Bool.and_self, cond_true, pctP_slash]
              have hcut : cut (47 :: pctP r) 1 ((47 :: pctP r).length : Int) = pctP r := by
                exact cut_of (p := [47]) (r := []) (by simp) rfl (by simp only [List.length_cons]; omega)
              have hb := segs_bd r (by omega)
              have hp := pctP_len r
              rw [hcut]
              have n1 : decide ((1 : Int) ≤ ((47 :: pctP r).length : Int)) = true := decide_eq_true (by simp only [List.length_cons]; omega)
              have n2 : decide ((pctP r).length ≤ 1000000) = true := decide_eq_true (by omega)
              rw [n1, n2]
              simp only [cond_true]
              generalize hL : splP (pctP r) 47 = L at hb
              have hne : L ≠ [] := by rw [← hL]; exact splR_ne 47 _ _
              rw [iClean_loop L L (by omega) _ L 0 [] _ (At.start L) (by have := spl_len (pctP r) 47; rw [hL] at this; simp only [List.length_cons]; omega) (by simp; omega)]
              have hlen : 1 ≤ L.length := List.length_pos_iff.2 hne
              have w1 : wk64 ((L.length : Int) - 1) = (L.length : Int) - 1 := w64 (by omega) (by omega)
              have t1 : ((L.length : Int) - 1).toNat = L.length - 1 := by omega
              have g1 := slash_segs L
              have g2 := join_len (segsP L)
              have g3 := slash_len (segsP L)
              have g4 := slash_fold L []
              have g5 := fold_len L []
              have q1 : decide ((0 : Int) ≤ (L.length : Int) - 1) = true := decide_eq_true (by omega)
              have q2 : decide ((L.length : Int) - 1 < (L.length : Int)) = true := decide_eq_true (by omega)
              have q3 : decide (((L.foldl stepS []).length + 1) * 16 ≤ 140737488355328) = true := decide_eq_true (by simp at g5; omega)
              simp only [w1, t1, q1, q2, q3, cond_true, getD_last L hne, one_set]
              have hsd : dotB (L.getLastD []) = (decide (L.getLastD [] = [46]) || decide (L.getLastD [] = [46, 46])) := rfl
              unfold segsP at g1 g2 g3 ⊢
              rw [hsd] at g1 g2 g3 ⊢
              cases z1 : decide (L.getLastD [] = [46])
              · cases z2 : decide (L.getLastD [] = [46, 46])
                · rw [z1, z2] at g1 g2 g3
                  simp only [Bool.or_false, cond_false, List.append_nil] at g1 g2 g3 ⊢
                  exact Eq.trans (cond_of (andT (decide_eq_true (by omega)) (decide_eq_true (by omega)))) (Eq.trans (cond_of (decide_eq_true (by omega))) rfl)
                · rw [z1, z2] at g1 g2 g3
                  simp only [Bool.or_true, cond_true, cond_false] at g1 g2 g3 ⊢
                  exact Eq.trans (cond_of (andT (decide_eq_true (by omega)) (decide_eq_true (by omega)))) (Eq.trans (cond_of (decide_eq_true (by omega))) rfl)
              · rw [z1] at g1 g2 g3
                simp only [Bool.true_or, cond_true] at g1 g2 g3 ⊢
                exact Eq.trans (cond_of (andT (decide_eq_true (by omega)) (decide_eq_true (by omega)))) (Eq.trans (cond_of (decide_eq_true (by omega))) rfl)
            · rfl
          · rfl
        · have d1' := of_decide_eq_true d1
          rw [decide_eq_false (show ¬ (47 :: r : Bytes).length ≤ 200 by omega)]
          rfl
      · rw [cleanP_not c r hc, decide_eq_false (show ¬ [c] = [47] from fun e => hc (by injection e))]
        rfl
  · unfold t1_s at h; split at h
    · exact h
    · cases h

theorem sClean_marks (p : Bytes) (hl : p.length ≤ 4611686018427387904) (k0 k1 : Bytes → Option Rs) : ∀ (r : Bytes) (i : Int) (n : Nat), At p i r → r.length < n →
    sClean_F4 n p i k0 k1 = bif hasB r 35 || hasB r 63 then k0 p else k1 p := by
  intro r; induction r with
  | nil => intro i n h hn; obtain ⟨n, rfl⟩ := fuel hn; unfold sClean_F4 sClean_T4; simp only [h.dge, cond_false]; rfl
  | cons a r ih =>
    intro i n h hn; obtain ⟨n, rfl⟩ := fuel hn
    have hs := ih (i + 1) n h.step (by simp at hn; omega)
    have e1 : hasB (a :: r) 35 = (decide (by8 a = 35) || hasB r 35) := rfl
    have e2 : hasB (a :: r) 63 = (decide (by8 a = 63) || hasB r 63) := rfl
    unfold sClean_F4 sClean_T4
    simp only [h.dlt, h.dnn, h.str, cond_true, h.next hl, hs, e1, e2]
    cases decide (by8 a = 35) <;> cases decide (by8 a = 63) <;> cases hasB r 35 <;> cases hasB r 63 <;> rfl
def segsR : List Bytes → List Bytes → List Bytes
  | out, [] => out
  | out, w :: r => segsR (stepS out w ++ (bif decide (r = []) && dotB w then [[]] else [])) r
theorem segsR_eq : ∀ (r out : List Bytes), segsR out r = r.foldl stepS out ++ (bif dotB (r.getLastD []) then [[]] else [])
  | [], out => by simp [segsR, dotB]
  | [w], out => by
    unfold segsR segsR
    rw [decide_eq_true rfl, Bool.true_and]; rfl
  | w :: x :: r, out => by
    unfold segsR
    rw [decide_eq_false (by simp), Bool.false_and, cond_false, List.append_nil, segsR_eq (x :: r)]
    rfl
theorem sClean_loop (l : List Bytes) (hl : l.length ≤ 1000000) (k : List Bytes → Option Rs) : ∀ (r : List Bytes) (i : Int) (out : List Bytes) (n : Nat), At l i r → r.length < n → out.length + r.length ≤ 1000000 →
    sClean_F11 n i l out k = k (segsR out r) := by
  intro r; induction r with
  | nil => intro i out n h hn ho; obtain ⟨n, rfl⟩ := fuel hn; unfold sClean_F11 sClean_T11; simp only [h.dge, cond_false]; rfl
  | cons w r ih =>
    intro i out n h hn ho; obtain ⟨n, rfl⟩ := fuel hn
    simp only [List.length_cons] at hn ho
    have hs := stepS_len out w
    have hle := h.le
    simp only [List.length_cons] at hle
    have hi := h.nn
    have hlast : decide (i + 1 = (l.length : Int)) = decide (r = []) := by
      rw [Bool.eq_iff_iff, decide_eq_true_eq, decide_eq_true_eq]
      constructor
      · intro e; exact List.length_eq_zero_iff.1 (by omega)
      · intro e; have : r.length = 0 := by rw [e]; rfl
        omega
    have hlen : (stepS out w ++ (bif decide (r = []) && dotB w then [[]] else [])).length + r.length ≤ 1000000 ∨ r = [] := by
      cases r with
      | nil => exact .inr rfl
      | cons x r => rw [decide_eq_false (by simp), Bool.false_and, cond_false, List.append_nil]; exact .inl (by omega)
    have hr : ∀ o, o.length + r.length ≤ 1000000 → sClean_F11 n (i + 1) l o k = k (segsR o r) := fun o ho' => ih (i + 1) o n h.step (by omega) ho'
    have hend : ∀ o : List Bytes, r = [] → sClean_F11 n (i + 1) l o k = k o := fun o hr0 => by
      subst hr0
      obtain ⟨m, rfl⟩ : ∃ m, n = m + 1 := ⟨n - 1, by simp at hn; omega⟩
      have h2 := h.step
      unfold sClean_F11 sClean_T11; simp only [h2.dge, cond_false]
    have hany : ∀ o, (o.length + r.length ≤ 1000000 ∨ r = []) → sClean_F11 n (i + 1) l o k = k (segsR o r) := fun o ho' => by
      rcases ho' with ho' | ho'
      · exact hr o ho'
      · rw [hend o ho', ho']; rfl
    have hap : decide ((out.length + [w].length) * 16 ≤ 140737488355328) = true := decide_eq_true (by simp only [List.length_singleton]; omega)
    have hap1 : decide ((out.length + 1) * 16 ≤ 140737488355328) = true := decide_eq_true (by omega)
    have hw1 : wk64 ((out.length : Int) - 1) = (out.length : Int) - 1 := w64 (by omega) (by omega)
    have main : segsR out (w :: r) = segsR (stepS out w ++ (bif decide (r = []) && dotB w then [[]] else [])) r := rfl
    rw [main]
    unfold sClean_F11 sClean_T11
    simp only [h.dlt, h.dnn, h.get, cond_true, h.next (show l.length ≤ 4611686018427387904 by omega), one_set, hap, hap1, hw1, hlast]
    by_cases g1 : w = [46]
    · have g2 : decide (w = [46, 46]) = false := decide_eq_false (by rw [g1]; decide)
      have g3 : dotB w = true := by rw [g1]; rfl
      have g4 : stepS out w = out := by unfold stepS; rw [decide_eq_true g1]; rfl
      rw [decide_eq_true g1, g2, g3, g4, Bool.and_true]
      rw [g3, g4, Bool.and_true] at hlen
      simp only [cond_true, cond_false]
      cases z : decide (r = [])
      · rw [z] at hlen; rw [cond_false] at hlen ⊢; rw [cond_false, hany _ (by simpa using hlen)]; simp
      · rw [z] at hlen; rw [cond_true] at hlen ⊢; rw [cond_true, hany _ hlen]
    · have g1' : decide (w = [46]) = false := decide_eq_false g1
      by_cases g2 : w = [46, 46]
      · have g2' : decide (w = [46, 46]) = true := decide_eq_true g2
        have g3 : dotB w = true := by unfold dotB; rw [g1', g2']; rfl
        have g4 : stepS out w = out.dropLast := by unfold stepS; rw [g1', g2']; rfl
        rw [g1', g2', g3, g4, Bool.and_true]
        rw [g3, g4, Bool.and_true] at hlen
        simp only [cond_true, cond_false, Bool.not_true]
        cases ho0 : decide ((0 : Int) < (out.length : Int))
        · have : out = [] := List.length_eq_zero_iff.1 (by have := of_decide_eq_false ho0; omega)
          subst this
          simp only [List.dropLast_nil] at hlen ⊢
          simp only [cond_false]
          cases z : decide (r = [])
          · rw [z] at hlen; rw [cond_false] at hlen ⊢; rw [cond_false, hany _ (by simpa using hlen)]; simp
          · rw [z] at hlen; rw [cond_true] at hlen ⊢; rw [cond_true, hany _ hlen]
        · have ho1 := of_decide_eq_true ho0
          have hc := cut_last out ((out.length : Int) - 1) (by omega)
          have hap2 : decide ((out.dropLast.length + 1) * 16 ≤ 140737488355328) = true := decide_eq_true (by simp; omega)
          rw [decide_eq_true (show (0 : Int) ≤ (out.length : Int) - 1 by omega), decide_eq_true (show (out.length : Int) - 1 ≤ (out.length : Int) by omega)]
          simp only [cond_true, hc, hap2]
          cases z : decide (r = [])
          · rw [z] at hlen; rw [cond_false] at hlen ⊢; rw [cond_false, hany _ (by simpa using hlen)]; simp
          · rw [z] at hlen; rw [cond_true] at hlen ⊢; rw [cond_true, hany _ hlen]
      · have g2' : decide (w = [46, 46]) = false := decide_eq_false g2
        have g3 : dotB w = false := by unfold dotB; rw [g1', g2']; rfl
        have g4 : stepS out w = out ++ [w] := by unfold stepS; rw [g1', g2']; rfl
        rw [g1', g2', g3, g4, Bool.and_false]
        rw [g3, g4, Bool.and_false] at hlen
        simp only [cond_false, Bool.not_false, cond_true]
        rw [hany _ (by simpa using hlen)]; simp
theorem sClean_text (l : List Bytes) (hl : l.length ≤ 1000000) (k : Bytes → Option Rs) : ∀ (r : List Bytes) (i : Int) (acc : Bytes) (n : Nat), At l i r → r.length < n → acc.length + (slashP r).length ≤ 1000000 →
    sClean_F22 n acc i l k = k (acc ++ slashP r) := by
  intro r; induction r with
  | nil => intro i acc n h hn ho; obtain ⟨n, rfl⟩ := fuel hn; unfold sClean_F22 sClean_T22; simp only [h.dge, cond_false, slashP, List.append_nil]
  | cons w r ih =>
    intro i acc n h hn ho; obtain ⟨n, rfl⟩ := fuel hn
    simp only [List.length_cons, slashP, List.length_append] at hn ho
    have hr := ih (i + 1) (acc ++ [47] ++ w) n h.step (by omega) (by simp; omega)
    have q1 : decide (acc.length + 1 ≤ 9223372036854775807) = true := decide_eq_true (by omega)
    have q2 : decide ((acc ++ [47]).length + w.length ≤ 9223372036854775807) = true := decide_eq_true (by simp; omega)
    unfold sClean_F22 sClean_T22
    simp only [h.dlt, h.dnn, h.get, cond_true, h.next (show l.length ≤ 4611686018427387904 by omega), q1, q2, hr, slashP]
    simp
theorem sClean_okQ : Sound Kx 202 (t1_s fun s => .str (cleanP s)) := by
  refine (sClean_okOf (φ := fun s => .ite (isM s) (.ret (.str (cleanP s)) []) .fail) (fun s => s.length + 5) fun p r h => ?_).of fun args objs r h => ?_
  · obtain ⟨hM, h2⟩ := ite_some h
    cases h2
    unfold sClean_run
    cases p with
    | nil => rfl
    | cons c r =>
      have e0 : decide (((c :: r).length : Int) = 0) = false := decide_eq_false (by simp only [List.length_cons]; omega)
      have e1 : decide ((0 : Int) < ((c :: r).length : Int)) = true := decide_eq_true (by simp only [List.length_cons]; omega)
      have e2 : strAt (c :: r) 0 = by8 c := rfl
      simp only [e0, e1, cond_true, cond_false, e2, hM, Bool.and_true]
      by_cases hc : c = 47
      · subst hc
        rw [cleanP_at]
        unfold pathOk
        rw [show decide (by8 47 = 47) = true from rfl]
        simp only [Bool.not_true, cond_false]
        cases d1 : decide ((200 : Int) < ((47 :: r : Bytes).length : Int))
        · have d1' := of_decide_eq_false d1
          simp only [List.length_cons] at d1'
          rw [decide_eq_true (show (47 :: r : Bytes).length ≤ 200 by simp only [List.length_cons]; omega)]
          simp only [cond_false, Bool.true_and]
          cases d2 : allP isVis (47 :: r)
          · rfl
          have m1 : decide ((47 :: r : Bytes).length ≤ 1000000) = true := decide_eq_true (by simp only [List.length_cons]; omega)
          simp only [Bool.not_true, cond_false, Bool.true_and]
          rw [sClean_marks _ (by simp only [List.length_cons]; omega) _ _ (47 :: r) 0 _ (At.start _) (by simp only [List.length_cons]; omega)]
          cases d3 : hasB (47 :: r) 35
          · cases d4 : hasB (47 :: r) 63
            · simp only [Bool.or_false, cond_false, Bool.not_false, Bool.and_self, cond_true, pctP_slash, m1]
              have hcut : cut (47 :: pctP r) 1 ((47 :: pctP r).length : Int) = pctP r := by
                exact cut_of (p := [47]) (r := []) (by simp) rfl (by simp only [List.length_cons]; omega)
              have hb := segs_bd r (by omega)
              have hp := pctP_len r
              rw [hcut]
              have n1 : decide ((1 : Int) ≤ ((47 :: pctP r).length : Int)) = true := decide_eq_true (by simp only [List.length_cons]; omega)
              have n2 : decide ((pctP r).length ≤ 1000000) = true := decide_eq_true (by omega)
              rw [n1, n2]
              simp only [cond_true]
              have hL0 := spl_len (pctP r) 47
              generalize hL : splP (pctP r) 47 = L at hb hL0
              rw [sClean_loop L (by omega) _ L 0 [] _ (At.start L) (by simp only [List.length_cons]; omega) (by simp; omega), segsR_eq]
              have g1 := slash_segs L
              have g3 := slash_len (segsP L)
              have g5 := fold_len L []
              rw [show L.foldl stepS [] ++ (bif dotB (L.getLastD []) then [[]] else []) = segsP L from rfl]
              have g6 : (segsP L).length ≤ L.length + 1 := by
                unfold segsP
                rw [List.length_append]
                cases dotB (L.getLastD []) <;> simp at g5 ⊢ <;> omega
              rw [sClean_text (segsP L) (by omega) _ (segsP L) 0 [] _ (At.start _) (by simp only [List.length_cons]; omega) (by simp; omega), List.nil_append, slash_join]
              cases decide (slashP (segsP L) = []) <;> rfl
            · rfl
          · rfl
        · have d1' := of_decide_eq_true d1
          rw [decide_eq_false (show ¬ (47 :: r : Bytes).length ≤ 200 by omega)]
          rfl
      · rw [cleanP_not c r hc, decide_eq_false (show ¬ by8 c = 47 from fun e => hc (by8_inj e))]
        cases decide ((200 : Int) < ((c :: r).length : Int)) <;> rfl
  · unfold t1_s at h; split at h
    · exact h
    · cases h

theorem iHost_okQ : Sound Kx 243 (t1_s fun s => .bool (hostP s)) := iHost_ok.of fun args objs r h => by
  unfold t1_s at h
  split at h
  case h_2 => cases h
  rename_i s
  obtain ⟨hM, h2⟩ := ite_some h
  cases h2
  show (iHost_br s).val = some (.bool (hostP s), [])
  unfold iHost_br hostP
  cases d1 : decide ((1 : Int) ≤ (s.length : Int))
  · have d1' := of_decide_eq_false d1
    rw [decide_eq_false (show ¬ 1 ≤ s.length by omega)]; rfl
  · have d1' := of_decide_eq_true d1
    rw [decide_eq_true (show 1 ≤ s.length by omega)]
    cases d2 : decide ((s.length : Int) ≤ 60)
    · have d2' := of_decide_eq_false d2
      rw [decide_eq_false (show ¬ s.length ≤ 60 by omega)]; rfl
    · have d2' := of_decide_eq_true d2
      have hlen := spl_len s 46
      rw [decide_eq_true (show s.length ≤ 60 by omega), hM]
      cases allP hoB s
      · rfl
      · refine (val_t rfl).trans ((val_f rfl).trans ((val_t rfl).trans ((val_f rfl).trans ((val_t (decide_eq_true (by omega))).trans ((val_t (decide_eq_true (by omega))).trans rfl)))))
def rdI_s : List AV → List Ob → Br
  | [.str s], [] => .ite (decide (s.length ≤ 1000000)) (.ret (.tup [.int .i64 (decR s).1, .bool (decR s).2]) []) .fail
  | _, _ => .fail
theorem iReadDec_okQ : Sound Kx 208 rdI_s := iReadDec_ok.of fun args objs r h => by
  unfold rdI_s at h
  split at h
  case h_2 => cases h
  rename_i s
  obtain ⟨hM, h2⟩ := ite_some h
  cases h2
  show (iReadDec_br s).val = _
  unfold iReadDec_br
  refine (val_t hM).trans ?_
  rw [decR_atoi]
  cases c1 : atoiOk s
  · rfl
  · cases c2 : decide (0 ≤ atoiV s)
    · rfl
    · cases c3 : decide (atoiV s ≤ 999999999999999)
      · rfl
      · have h15 : num15 (atoiV s) = true := by unfold num15; rw [c2, c3]; rfl
        rw [h15]
        cases c4 : decide (decD (atoiV s) = s)
        · refine (val_t rfl).trans ((val_t rfl).trans ((val_f rfl).trans ((val_t ?_).trans rfl)))
          rw [cond_true, c4]; rfl
        · refine (val_t rfl).trans ((val_t rfl).trans ((val_f rfl).trans ((val_f ?_).trans rfl)))
          rw [cond_true, c4]; rfl
end
end Go.Proofs.YtmmjaomfonknnaaGreatDoor.Ev

namespace Go.Proofs.YtmmjaomfonknnaaGreatDoor.Ev
open Go Go.RowKit
set_option linter.unusedVariables false
set_option linter.unusedSimpArgs false
noncomputable section

def iPort_O : Opt := { cons := [], keepNil := false, mutF := [], live := [], outs := [] }
def iPort_C : Spec := (add noS 164 itoa_s)
theorem iPort_C_ok : ∀ fn, Sound Kx fn (iPort_C fn) := (sound_add (sound_no Kx) itoa_ok)
def iPort_br (h : Bytes) (po : Int) (pa q : Bytes) (hq : Bool) : Br := (Br.ite (decide (po = (80 : Int))) (Br.ret (AV.str ([] : Bytes)) ([] : List Ob)) (Br.ite (num15 po) (Br.ite (decide (((1 : Nat) + (List.length (decD po))) ≤ (9223372036854775807 : Nat))) (Br.ret (AV.str (((58 : UInt8) :: ([] : Bytes)) ++ (decD po))) ([] : List Ob)) Br.fail) Br.fail))
theorem iPort_run (h : Bytes) (po : Int) (pa q : Bytes) (hq : Bool) : runF Kx iPort_C iPort_O 1 Tryz.f211 ([.agg [.str h, .int .i64 po, .str pa, .str q, .bool hq]]) ([]) = (iPort_br h po pa q hq).val := by kernel_rfl
def iPort_s : List AV → List Ob → Br
  | [.agg [.str h, .int .i64 po, .str pa, .str q, .bool hq]], [] => iPort_br h po pa q hq
  | _, _ => .fail
theorem iPort_ok : Sound Kx 211 iPort_s := by
  refine sound_run (C := iPort_C) (O := iPort_O) KOk iPort_C_ok Tryz.func211 (by kernel_rfl) fun args objs res os h => ?_
  unfold iPort_s at h
  split at h
  · exact ⟨1, (iPort_run _ _ _ _ _).trans h⟩
  · cases h

def iPathT_O : Opt := { cons := [], keepNil := false, mutF := [], live := [], outs := [] }
def iPathT_br (h : Bytes) (po : Int) (pa q : Bytes) (hq : Bool) : Br := (Br.ite hq (Br.ite (decide (((List.length pa) + (1 : Nat)) ≤ (9223372036854775807 : Nat))) (Br.ite (decide (((List.length (pa ++ ((63 : UInt8) :: ([] : Bytes)))) + (List.length q)) ≤ (9223372036854775807 : Nat))) (Br.ret (AV.str ((pa ++ ((63 : UInt8) :: ([] : Bytes))) ++ q)) ([] : List Ob)) Br.fail) Br.fail) (Br.ret (AV.str pa) ([] : List Ob)))
theorem iPathT_run (h : Bytes) (po : Int) (pa q : Bytes) (hq : Bool) : runF Kx noS iPathT_O 1 Tryz.f212 ([.agg [.str h, .int .i64 po, .str pa, .str q, .bool hq]]) ([]) = (iPathT_br h po pa q hq).val := by kernel_rfl
def iPathT_s : List AV → List Ob → Br
  | [.agg [.str h, .int .i64 po, .str pa, .str q, .bool hq]], [] => iPathT_br h po pa q hq
  | _, _ => .fail
theorem iPathT_ok : Sound Kx 212 iPathT_s := by
  refine sound_run (C := noS) (O := iPathT_O) KOk (sound_no Kx) Tryz.func212 (by kernel_rfl) fun args objs res os h => ?_
  unfold iPathT_s at h
  split at h
  · exact ⟨1, (iPathT_run _ _ _ _ _).trans h⟩
  · cases h

def iUrlT_O : Opt := { cons := [], keepNil := false, mutF := [], live := [], outs := [] }
def iUrlT_C : Spec := (add (add noS 211 iPort_s) 212 iPathT_s)
theorem iUrlT_C_ok : ∀ fn, Sound Kx fn (iUrlT_C fn) := (sound_add (sound_add (sound_no Kx) iPort_ok) iPathT_ok)
def iUrlT_br (h : Bytes) (po : Int) (pa q : Bytes) (hq : Bool) : Br := (Br.ite (decide (((7 : Nat) + (List.length h)) ≤ (9223372036854775807 : Nat))) (Br.ite (decide (po = (80 : Int))) (Br.ite (decide (((List.length (((104 : UInt8) :: ((116 : UInt8) :: ((116 : UInt8) :: ((112 : UInt8) :: ((58 : UInt8) :: ((47 : UInt8) :: ((47 : UInt8) :: ([] : Bytes)))))))) ++ h)) + (0 : Nat)) ≤ (9223372036854775807 : Nat))) (Br.ite hq (Br.ite (decide (((List.length pa) + (1 : Nat)) ≤ (9223372036854775807 : Nat))) (Br.ite (decide (((List.length (pa ++ ((63 : UInt8) :: ([] : Bytes)))) + (List.length q)) ≤ (9223372036854775807 : Nat))) (Br.ite (decide (((List.length ((((104 : UInt8) :: ((116 : UInt8) :: ((116 : UInt8) :: ((112 : UInt8) :: ((58 : UInt8) :: ((47 : UInt8) :: ((47 : UInt8) :: ([] : Bytes)))))))) ++ h) ++ ([] : Bytes))) + (List.length ((pa ++ ((63 : UInt8) :: ([] : Bytes))) ++ q))) ≤ (9223372036854775807 : Nat))) (Br.ret (AV.str (((((104 : UInt8) :: ((116 : UInt8) :: ((116 : UInt8) :: ((112 : UInt8) :: ((58 : UInt8) :: ((47 : UInt8) :: ((47 : UInt8) :: ([] : Bytes)))))))) ++ h) ++ ([] : Bytes)) ++ ((pa ++ ((63 : UInt8) :: ([] : Bytes))) ++ q))) ([] : List Ob)) Br.fail) Br.fail) Br.fail) (Br.ite (decide (((List.length ((((104 : UInt8) :: ((116 : UInt8) :: ((116 : UInt8) :: ((112 : UInt8) :: ((58 : UInt8) :: ((47 : UInt8) :: ((47 : UInt8) :: ([] : Bytes)))))))) ++ h) ++ ([] : Bytes))) + (List.length pa)) ≤ (9223372036854775807 : Nat))) (Br.ret (AV.str (((((104 : UInt8) :: ((116 : UInt8) :: ((116 : UInt8) :: ((112 : UInt8) :: ((58 : UInt8) :: ((47 : UInt8) :: ((47 : UInt8) :: ([] : Bytes)))))))) ++ h) ++ ([] : Bytes)) ++ pa)) ([] : List Ob)) Br.fail)) Br.fail) (Br.ite (num15 po) (Br.ite (decide (((1 : Nat) + (List.length (decD po))) ≤ (9223372036854775807 : Nat))) (Br.ite (decide (((List.length (((104 : UInt8) :: ((116 : UInt8) :: ((116 : UInt8) :: ((112 : UInt8) :: ((58 : UInt8) :: ((47 : UInt8) :: ((47 : UInt8) :: ([] : Bytes)))))))) ++ h)) + (List.length (((58 : UInt8) :: ([] : Bytes)) ++ (decD po)))) ≤ (9223372036854775807 : Nat))) (Br.ite hq (Br.ite (decide (((List.length pa) + (1 : Nat)) ≤ (9223372036854775807 : Nat))) (Br.ite (decide (((List.length (pa ++ ((63 : UInt8) :: ([] : Bytes)))) + (List.length q)) ≤ (9223372036854775807 : Nat))) (Br.ite (decide (((List.length ((((104 : UInt8) :: ((116 : UInt8) :: ((116 : UInt8) :: ((112 : UInt8) :: ((58 : UInt8) :: ((47 : UInt8) :: ((47 : UInt8) :: ([] : Bytes)))))))) ++ h) ++ (((58 : UInt8) :: ([] : Bytes)) ++ (decD po)))) + (List.length ((pa ++ ((63 : UInt8) :: ([] : Bytes))) ++ q))) ≤ (9223372036854775807 : Nat))) (Br.ret (AV.str (((((104 : UInt8) :: ((116 : UInt8) :: ((116 : UInt8) :: ((112 : UInt8) :: ((58 : UInt8) :: ((47 : UInt8) :: ((47 : UInt8) :: ([] : Bytes)))))))) ++ h) ++ (((58 : UInt8) :: ([] : Bytes)) ++ (decD po))) ++ ((pa ++ ((63 : UInt8) :: ([] : Bytes))) ++ q))) ([] : List Ob)) Br.fail) Br.fail) Br.fail) (Br.ite (decide (((List.length ((((104 : UInt8) :: ((116 : UInt8) :: ((116 : UInt8) :: ((112 : UInt8) :: ((58 : UInt8) :: ((47 : UInt8) :: ((47 : UInt8) :: ([] : Bytes)))))))) ++ h) ++ (((58 : UInt8) :: ([] : Bytes)) ++ (decD po)))) + (List.length pa)) ≤ (9223372036854775807 : Nat))) (Br.ret (AV.str (((((104 : UInt8) :: ((116 : UInt8) :: ((116 : UInt8) :: ((112 : UInt8) :: ((58 : UInt8) :: ((47 : UInt8) :: ((47 : UInt8) :: ([] : Bytes)))))))) ++ h) ++ (((58 : UInt8) :: ([] : Bytes)) ++ (decD po))) ++ pa)) ([] : List Ob)) Br.fail)) Br.fail) Br.fail) Br.fail)) Br.fail)
theorem iUrlT_run (h : Bytes) (po : Int) (pa q : Bytes) (hq : Bool) : runF Kx iUrlT_C iUrlT_O 1 Tryz.f161 ([.agg [.str h, .int .i64 po, .str pa, .str q, .bool hq]]) ([]) = (iUrlT_br h po pa q hq).val := by kernel_rfl
def iUrlT_s : List AV → List Ob → Br
  | [.agg [.str h, .int .i64 po, .str pa, .str q, .bool hq]], [] => iUrlT_br h po pa q hq
  | _, _ => .fail
theorem iUrlT_ok : Sound Kx 161 iUrlT_s := by
  refine sound_run (C := iUrlT_C) (O := iUrlT_O) KOk iUrlT_C_ok Tryz.func161 (by kernel_rfl) fun args objs res os h => ?_
  unfold iUrlT_s at h
  split at h
  · exact ⟨1, (iUrlT_run _ _ _ _ _).trans h⟩
  · cases h

def sPort_O : Opt := { cons := [], keepNil := false, mutF := [], live := [], outs := [] }
def sPort_C : Spec := (add noS 132 dec_s)
theorem sPort_C_ok : ∀ fn, Sound Kx fn (sPort_C fn) := (sound_add (sound_no Kx) dec_okQ)
def sPort_br (h : Bytes) (po : Int) (pa q : Bytes) (hq : Bool) : Br := (Br.ite (decide (po = (80 : Int))) (Br.ret (AV.str ([] : Bytes)) ([] : List Ob)) (Br.ite (num15 po) (Br.ite (decide (((1 : Nat) + (List.length (decD po))) ≤ (9223372036854775807 : Nat))) (Br.ret (AV.str (((58 : UInt8) :: ([] : Bytes)) ++ (decD po))) ([] : List Ob)) Br.fail) Br.fail))
theorem sPort_run (h : Bytes) (po : Int) (pa q : Bytes) (hq : Bool) : runF Kx sPort_C sPort_O 1 Tryz.f230 ([.agg [.str h, .int .i64 po, .str pa, .str q, .bool hq]]) ([]) = (sPort_br h po pa q hq).val := by kernel_rfl
def sPort_s : List AV → List Ob → Br
  | [.agg [.str h, .int .i64 po, .str pa, .str q, .bool hq]], [] => sPort_br h po pa q hq
  | _, _ => .fail
theorem sPort_ok : Sound Kx 230 sPort_s := by
  refine sound_run (C := sPort_C) (O := sPort_O) KOk sPort_C_ok Tryz.func230 (by kernel_rfl) fun args objs res os h => ?_
  unfold sPort_s at h
  split at h
  · exact ⟨1, (sPort_run _ _ _ _ _).trans h⟩
  · cases h

def sQuery_O : Opt := { cons := [], keepNil := false, mutF := [], live := [], outs := [] }
def sQuery_br (h : Bytes) (po : Int) (pa q : Bytes) (hq : Bool) : Br := (Br.ite hq (Br.ite (decide (((1 : Nat) + (List.length q)) ≤ (9223372036854775807 : Nat))) (Br.ret (AV.str (((63 : UInt8) :: ([] : Bytes)) ++ q)) ([] : List Ob)) Br.fail) (Br.ret (AV.str ([] : Bytes)) ([] : List Ob)))
theorem sQuery_run (h : Bytes) (po : Int) (pa q : Bytes) (hq : Bool) : runF Kx noS sQuery_O 1 Tryz.f231 ([.agg [.str h, .int .i64 po, .str pa, .str q, .bool hq]]) ([]) = (sQuery_br h po pa q hq).val := by kernel_rfl
def sQuery_s : List AV → List Ob → Br
  | [.agg [.str h, .int .i64 po, .str pa, .str q, .bool hq]], [] => sQuery_br h po pa q hq
  | _, _ => .fail
theorem sQuery_ok : Sound Kx 231 sQuery_s := by
  refine sound_run (C := noS) (O := sQuery_O) KOk (sound_no Kx) Tryz.func231 (by kernel_rfl) fun args objs res os h => ?_
  unfold sQuery_s at h
  split at h
  · exact ⟨1, (sQuery_run _ _ _ _ _).trans h⟩
  · cases h

def sUrlT_O : Opt := { cons := [], keepNil := false, mutF := [], live := [], outs := [] }
def sUrlT_C : Spec := (add (add noS 230 sPort_s) 231 sQuery_s)
theorem sUrlT_C_ok : ∀ fn, Sound Kx fn (sUrlT_C fn) := (sound_add (sound_add (sound_no Kx) sPort_ok) sQuery_ok)
def sUrlT_br (h : Bytes) (po : Int) (pa q : Bytes) (hq : Bool) : Br := (Br.ite (decide (((7 : Nat) + (List.length h)) ≤ (9223372036854775807 : Nat))) (Br.ite (decide (po = (80 : Int))) (Br.ite (decide (((List.length (((104 : UInt8) :: ((116 : UInt8) :: ((116 : UInt8) :: ((112 : UInt8) :: ((58 : UInt8) :: ((47 : UInt8) :: ((47 : UInt8) :: ([] : Bytes)))))))) ++ h)) + (0 : Nat)) ≤ (9223372036854775807 : Nat))) (Br.ite (decide (((List.length ((((104 : UInt8) :: ((116 : UInt8) :: ((116 : UInt8) :: ((112 : UInt8) :: ((58 : UInt8) :: ((47 : UInt8) :: ((47 : UInt8) :: ([] : Bytes)))))))) ++ h) ++ ([] : Bytes))) + (List.length pa)) ≤ (9223372036854775807 : Nat))) (Br.ite hq (Br.ite (decide (((1 : Nat) + (List.length q)) ≤ (9223372036854775807 : Nat))) (Br.ite (decide (((List.length (((((104 : UInt8) :: ((116 : UInt8) :: ((116 : UInt8) :: ((112 : UInt8) :: ((58 : UInt8) :: ((47 : UInt8) :: ((47 : UInt8) :: ([] : Bytes)))))))) ++ h) ++ ([] : Bytes)) ++ pa)) + (List.length (((63 : UInt8) :: ([] : Bytes)) ++ q))) ≤ (9223372036854775807 : Nat))) (Br.ret (AV.str ((((((104 : UInt8) :: ((116 : UInt8) :: ((116 : UInt8) :: ((112 : UInt8) :: ((58 : UInt8) :: ((47 : UInt8) :: ((47 : UInt8) :: ([] : Bytes)))))))) ++ h) ++ ([] : Bytes)) ++ pa) ++ (((63 : UInt8) :: ([] : Bytes)) ++ q))) ([] : List Ob)) Br.fail) Br.fail) (Br.ite (decide (((List.length (((((104 : UInt8) :: ((116 : UInt8) :: ((116 : UInt8) :: ((112 : UInt8) :: ((58 : UInt8) :: ((47 : UInt8) :: ((47 : UInt8) :: ([] : Bytes)))))))) ++ h) ++ ([] : Bytes)) ++ pa)) + (0 : Nat)) ≤ (9223372036854775807 : Nat))) (Br.ret (AV.str ((((((104 : UInt8) :: ((116 : UInt8) :: ((116 : UInt8) :: ((112 : UInt8) :: ((58 : UInt8) :: ((47 : UInt8) :: ((47 : UInt8) :: ([] : Bytes)))))))) ++ h) ++ ([] : Bytes)) ++ pa) ++ ([] : Bytes))) ([] : List Ob)) Br.fail)) Br.fail) Br.fail) (Br.ite (num15 po) (Br.ite (decide (((1 : Nat) + (List.length (decD po))) ≤ (9223372036854775807 : Nat))) (Br.ite (decide (((List.length (((104 : UInt8) :: ((116 : UInt8) :: ((116 : UInt8) :: ((112 : UInt8) :: ((58 : UInt8) :: ((47 : UInt8) :: ((47 : UInt8) :: ([] : Bytes)))))))) ++ h)) + (List.length (((58 : UInt8) :: ([] : Bytes)) ++ (decD po)))) ≤ (9223372036854775807 : Nat))) (Br.ite (decide (((List.length ((((104 : UInt8) :: ((116 : UInt8) :: ((116 : UInt8) :: ((112 : UInt8) :: ((58 : UInt8) :: ((47 : UInt8) :: ((47 : UInt8) :: ([] : Bytes)))))))) ++ h) ++ (((58 : UInt8) :: ([] : Bytes)) ++ (decD po)))) + (List.length pa)) ≤ (9223372036854775807 : Nat))) (Br.ite hq (Br.ite (decide (((1 : Nat) + (List.length q)) ≤ (9223372036854775807 : Nat))) (Br.ite (decide (((List.length (((((104 : UInt8) :: ((116 : UInt8) :: ((116 : UInt8) :: ((112 : UInt8) :: ((58 : UInt8) :: ((47 : UInt8) :: ((47 : UInt8) :: ([] : Bytes)))))))) ++ h) ++ (((58 : UInt8) :: ([] : Bytes)) ++ (decD po))) ++ pa)) + (List.length (((63 : UInt8) :: ([] : Bytes)) ++ q))) ≤ (9223372036854775807 : Nat))) (Br.ret (AV.str ((((((104 : UInt8) :: ((116 : UInt8) :: ((116 : UInt8) :: ((112 : UInt8) :: ((58 : UInt8) :: ((47 : UInt8) :: ((47 : UInt8) :: ([] : Bytes)))))))) ++ h) ++ (((58 : UInt8) :: ([] : Bytes)) ++ (decD po))) ++ pa) ++ (((63 : UInt8) :: ([] : Bytes)) ++ q))) ([] : List Ob)) Br.fail) Br.fail) (Br.ite (decide (((List.length (((((104 : UInt8) :: ((116 : UInt8) :: ((116 : UInt8) :: ((112 : UInt8) :: ((58 : UInt8) :: ((47 : UInt8) :: ((47 : UInt8) :: ([] : Bytes)))))))) ++ h) ++ (((58 : UInt8) :: ([] : Bytes)) ++ (decD po))) ++ pa)) + (0 : Nat)) ≤ (9223372036854775807 : Nat))) (Br.ret (AV.str ((((((104 : UInt8) :: ((116 : UInt8) :: ((116 : UInt8) :: ((112 : UInt8) :: ((58 : UInt8) :: ((47 : UInt8) :: ((47 : UInt8) :: ([] : Bytes)))))))) ++ h) ++ (((58 : UInt8) :: ([] : Bytes)) ++ (decD po))) ++ pa) ++ ([] : Bytes))) ([] : List Ob)) Br.fail)) Br.fail) Br.fail) Br.fail) Br.fail)) Br.fail)
theorem sUrlT_run (h : Bytes) (po : Int) (pa q : Bytes) (hq : Bool) : runF Kx sUrlT_C sUrlT_O 1 Tryz.f204 ([.agg [.str h, .int .i64 po, .str pa, .str q, .bool hq]]) ([]) = (sUrlT_br h po pa q hq).val := by kernel_rfl
def sUrlT_s : List AV → List Ob → Br
  | [.agg [.str h, .int .i64 po, .str pa, .str q, .bool hq]], [] => sUrlT_br h po pa q hq
  | _, _ => .fail
theorem sUrlT_ok : Sound Kx 204 sUrlT_s := by
  refine sound_run (C := sUrlT_C) (O := sUrlT_O) KOk sUrlT_C_ok Tryz.func204 (by kernel_rfl) fun args objs res os h => ?_
  unfold sUrlT_s at h
  split at h
  · exact ⟨1, (sUrlT_run _ _ _ _ _).trans h⟩
  · cases h

def iReadPath_O : Opt := { cons := [], keepNil := false, mutF := [], live := [], outs := [] }
def iReadPath_C : Spec := (add noS 206 cut_s)
theorem iReadPath_C_ok : ∀ fn, Sound Kx fn (iReadPath_C fn) := (sound_add (sound_no Kx) cut_okQ)
def iReadPath_br (s : Bytes) : Br := (Br.ite (decide ((List.length s) ≤ (1000000 : Nat))) (Br.ret (AV.agg ((AV.str ([] : Bytes)) :: ((AV.int .i64 (0 : Int)) :: ((AV.str (cutP s ((63 : UInt8) :: ([] : Bytes))).1) :: ((AV.str (cutP s ((63 : UInt8) :: ([] : Bytes))).2.1) :: ((AV.bool (cutP s ((63 : UInt8) :: ([] : Bytes))).2.2) :: ([] : List AV))))))) ([] : List Ob)) Br.fail)
theorem iReadPath_run (s : Bytes) : runF Kx iReadPath_C iReadPath_O 1 Tryz.f207 ([.str s]) ([]) = (iReadPath_br s).val := by kernel_rfl
def iReadPath_s : List AV → List Ob → Br
  | [.str s], [] => iReadPath_br s
  | _, _ => .fail
theorem iReadPath_ok : Sound Kx 207 iReadPath_s := by
  refine sound_run (C := iReadPath_C) (O := iReadPath_O) KOk iReadPath_C_ok Tryz.func207 (by kernel_rfl) fun args objs res os h => ?_
  unfold iReadPath_s at h
  split at h
  · exact ⟨1, (iReadPath_run _).trans h⟩
  · cases h

end
end Go.Proofs.YtmmjaomfonknnaaGreatDoor.Ev

namespace Go.Proofs.YtmmjaomfonknnaaGreatDoor.Ev
open Go Go.RowKit
set_option linter.unusedVariables false
set_option linter.unusedSimpArgs false
noncomputable section

def smU (h : Bytes) (po : Int) (pa q : Bytes) : Bool := decide (h.length ≤ 1000000) && num15 po && decide (pa.length ≤ 1000000) && isM q
def ur_s (p : Bytes → Int → Bytes → Bytes → Bool → Bool) (v : Bytes → Int → Bytes → Bytes → Bool → AV) : List AV → List Ob → Br
  | [.agg [.str h, .int .i64 po, .str pa, .str q, .bool hq]], [] => .ite (p h po pa q hq) (.ret (v h po pa q hq) []) .fail
  | _, _ => .fail
def ut_s : List AV → List Ob → Br := ur_s (fun h po pa q _ => smU h po pa q) (fun h po pa q hq => .str (urlT h po pa q hq))
theorem of_ur {n : Nat} {s : List AV → List Ob → Br} (hs : Sound Kx n s) {p : Bytes → Int → Bytes → Bytes → Bool → Bool} {v : Bytes → Int → Bytes → Bytes → Bool → AV} (h : ∀ ho po pa q hq, p ho po pa q hq = true → (s [.agg [.str ho, .int .i64 po, .str pa, .str q, .bool hq]] []).val = some (v ho po pa q hq, [])) : Sound Kx n (ur_s p v) := hs.of fun args objs r hv => by
  unfold ur_s at hv
  split at hv
  case h_2 => cases hv
  obtain ⟨h1, h2⟩ := ite_some hv
  cases h2
  exact h _ _ _ _ _ h1
theorem dec_len20 (n : Int) (h : num15 n = true) : (decD n).length ≤ 15 := by
  unfold num15 at h
  simp only [Bool.and_eq_true, decide_eq_true_eq] at h
  rw [decD_eq]; exact dec_len15 _ (by omega)
theorem smU_of {h : Bytes} {po : Int} {pa q : Bytes} (hs : smU h po pa q = true) : h.length ≤ 1000000 ∧ num15 po = true ∧ pa.length ≤ 1000000 ∧ q.length ≤ 4611686018427387904 := by
  unfold smU at hs
  simp only [Bool.and_eq_true, decide_eq_true_eq] at hs
  exact ⟨hs.1.1.1, hs.1.1.2, hs.1.2, isM_le hs.2⟩
theorem iUrlT_okQ : Sound Kx 161 ut_s := of_ur iUrlT_ok fun h po pa q hq hs => by
  obtain ⟨h1, h2, h3, h4⟩ := smU_of hs
  have hd := dec_len20 po h2
  show (iUrlT_br h po pa q hq).val = some (.str (urlT h po pa q hq), [])
  unfold iUrlT_br urlT portT queryT httpB
  cases decide (po = 80) <;> cases hq <;>
    simp (disch := (first | omega | (simp only [List.length_append, List.length_cons, List.length_nil]; omega))) only [Br.val, dle, h2, cond_true, cond_false, List.append_assoc, List.cons_append, List.nil_append, List.append_nil]
theorem sUrlT_okQ : Sound Kx 204 ut_s := of_ur sUrlT_ok fun h po pa q hq hs => by
  obtain ⟨h1, h2, h3, h4⟩ := smU_of hs
  have hd := dec_len20 po h2
  show (sUrlT_br h po pa q hq).val = some (.str (urlT h po pa q hq), [])
  unfold sUrlT_br urlT portT queryT httpB
  cases decide (po = 80) <;> cases hq <;>
    simp (disch := (first | omega | (simp only [List.length_append, List.length_cons, List.length_nil]; omega))) only [Br.val, dle, h2, cond_true, cond_false, List.append_assoc, List.cons_append, List.nil_append, List.append_nil]
end
end Go.Proofs.YtmmjaomfonknnaaGreatDoor.Ev

namespace Go.Proofs.YtmmjaomfonknnaaGreatDoor.Ev
open Go Go.RowKit
set_option linter.unusedVariables false
set_option linter.unusedSimpArgs false
noncomputable section

def iUrlOk_O : Opt := { cons := [], keepNil := false, mutF := [], live := [], outs := [], split := true }
def iUrlOk_C : Spec := (add (add (add (add (add (add noS 243 (t1_s fun s => .bool (hostP s))) 84 iwithin_s) 209 (t1_s fun s => .str (cleanP s))) 95 allVis_s) 173 con1_s) 161 ut_s)
theorem iUrlOk_C_ok : ∀ fn, Sound Kx fn (iUrlOk_C fn) := (sound_add (sound_add (sound_add (sound_add (sound_add (sound_add (sound_no Kx) iHost_okQ) iwithin_ok) iClean_okQ) allVis_okQ) con1_okQ) iUrlT_okQ)
def iUrlOk_br (h : Bytes) (po : Int) (pa q : Bytes) (hq : Bool) : Br := (Br.ite (isM h) (Br.ite (hostP h) (Br.ite (decide ((1 : Int) ≤ po)) (Br.ite (decide (po ≤ (65535 : Int))) (Br.ite (decide (pa = ([] : Bytes))) (Br.ret (AV.bool false) ([] : List Ob)) (Br.ite (isM pa) (Br.ite (!(decide ((cleanP pa) = pa))) (Br.ret (AV.bool false) ([] : List Ob)) (Br.ite (isM q) (Br.ite (!(allP isVis q)) (Br.ret (AV.bool false) ([] : List Ob)) (Br.ite (hasB q (35 : Int)) (Br.ret (AV.bool false) ([] : List Ob)) (Br.ite (!hq) (Br.ite (!(decide (q = ([] : Bytes)))) (Br.ret (AV.bool false) ([] : List Ob)) (Br.ite (smU h po pa q) (Br.ret (AV.bool (decide (((List.length (urlT h po pa q hq)) : Int) ≤ (200 : Int)))) ([] : List Ob)) Br.fail)) (Br.ite (smU h po pa q) (Br.ret (AV.bool (decide (((List.length (urlT h po pa q hq)) : Int) ≤ (200 : Int)))) ([] : List Ob)) Br.fail)))) Br.fail)) Br.fail)) (Br.ret (AV.bool false) ([] : List Ob))) (Br.ret (AV.bool false) ([] : List Ob))) (Br.ret (AV.bool false) ([] : List Ob))) Br.fail)
theorem iUrlOk_run (h : Bytes) (po : Int) (pa q : Bytes) (hq : Bool) : runF Kx iUrlOk_C iUrlOk_O 1 Tryz.f210 ([.agg [.str h, .int .i64 po, .str pa, .str q, .bool hq]]) ([]) = (iUrlOk_br h po pa q hq).val := by kernel_rfl
def iUrlOk_s : List AV → List Ob → Br
  | [.agg [.str h, .int .i64 po, .str pa, .str q, .bool hq]], [] => iUrlOk_br h po pa q hq
  | _, _ => .fail
theorem iUrlOk_ok : Sound Kx 210 iUrlOk_s := by
  refine sound_run (C := iUrlOk_C) (O := iUrlOk_O) KOk iUrlOk_C_ok Tryz.func210 (by kernel_rfl) fun args objs res os h => ?_
  unfold iUrlOk_s at h
  split at h
  · exact ⟨1, (iUrlOk_run _ _ _ _ _).trans h⟩
  · cases h

def sUrlOk_O : Opt := { cons := [], keepNil := false, mutF := [], live := [], outs := [], split := true }
def sUrlOk_C : Spec := (add (add (add (add (add noS 229 ho_s) 202 (t1_s fun s => .str (cleanP s))) 157 (t1_s fun s => .bool (allP isVis s && decide ((0 : Int) < (s.length : Int))))) 200 up_s) 204 ut_s)
theorem sUrlOk_C_ok : ∀ fn, Sound Kx fn (sUrlOk_C fn) := (sound_add (sound_add (sound_add (sound_add (sound_add (sound_no Kx) sHost_okQ) sClean_okQ) svis_okQ) supto_okQ) sUrlT_okQ)
def sUrlOk_br (h : Bytes) (po : Int) (pa q : Bytes) (hq : Bool) : Br := (Br.ite (hostP h) (Br.ite (decide (po < (1 : Int))) (Br.ret (AV.bool false) ([] : List Ob)) (Br.ite (decide ((65535 : Int) < po)) (Br.ret (AV.bool false) ([] : List Ob)) (Br.ite (decide (pa = ([] : Bytes))) (Br.ret (AV.bool false) ([] : List Ob)) (Br.ite (isM pa) (Br.ite (!(decide ((cleanP pa) = pa))) (Br.ret (AV.bool false) ([] : List Ob)) (Br.ite hq (Br.ite (decide ((200 : Int) < ((List.length q) : Int))) (Br.ret (AV.bool false) ([] : List Ob)) (Br.ite (!(decide (q = ([] : Bytes)))) (Br.ite (isM q) (Br.ite ((allP isVis q) && (decide ((0 : Int) < ((List.length q) : Int)))) (Br.ite (isM q) (Br.ite (!(decide ((uptoP q (35 : Int)) = q))) (Br.ret (AV.bool false) ([] : List Ob)) (Br.ite (smU h po pa q) (Br.ret (AV.bool (decide (((List.length (urlT h po pa q hq)) : Int) ≤ (200 : Int)))) ([] : List Ob)) Br.fail)) Br.fail) (Br.ret (AV.bool false) ([] : List Ob))) Br.fail) (Br.ite (isM q) (Br.ite (!(decide ((uptoP q (35 : Int)) = q))) (Br.ret (AV.bool false) ([] : List Ob)) (Br.ite (smU h po pa q) (Br.ret (AV.bool (decide (((List.length (urlT h po pa q hq)) : Int) ≤ (200 : Int)))) ([] : List Ob)) Br.fail)) Br.fail))) (Br.ite (!(decide (q = ([] : Bytes)))) (Br.ret (AV.bool false) ([] : List Ob)) (Br.ite (decide ((200 : Int) < ((List.length q) : Int))) (Br.ret (AV.bool false) ([] : List Ob)) (Br.ite (!(decide (q = ([] : Bytes)))) (Br.ite (isM q) (Br.ite ((allP isVis q) && (decide ((0 : Int) < ((List.length q) : Int)))) (Br.ite (isM q) (Br.ite (!(decide ((uptoP q (35 : Int)) = q))) (Br.ret (AV.bool false) ([] : List Ob)) (Br.ite (smU h po pa q) (Br.ret (AV.bool (decide (((List.length (urlT h po pa q hq)) : Int) ≤ (200 : Int)))) ([] : List Ob)) Br.fail)) Br.fail) (Br.ret (AV.bool false) ([] : List Ob))) Br.fail) (Br.ite (isM q) (Br.ite (!(decide ((uptoP q (35 : Int)) = q))) (Br.ret (AV.bool false) ([] : List Ob)) (Br.ite (smU h po pa q) (Br.ret (AV.bool (decide (((List.length (urlT h po pa q hq)) : Int) ≤ (200 : Int)))) ([] : List Ob)) Br.fail)) Br.fail)))))) Br.fail)))) (Br.ret (AV.bool false) ([] : List Ob)))
theorem sUrlOk_run (h : Bytes) (po : Int) (pa q : Bytes) (hq : Bool) : runF Kx sUrlOk_C sUrlOk_O 1 Tryz.f203 ([.agg [.str h, .int .i64 po, .str pa, .str q, .bool hq]]) ([]) = (sUrlOk_br h po pa q hq).val := by kernel_rfl
def sUrlOk_s : List AV → List Ob → Br
  | [.agg [.str h, .int .i64 po, .str pa, .str q, .bool hq]], [] => sUrlOk_br h po pa q hq
  | _, _ => .fail
theorem sUrlOk_ok : Sound Kx 203 sUrlOk_s := by
  refine sound_run (C := sUrlOk_C) (O := sUrlOk_O) KOk sUrlOk_C_ok Tryz.func203 (by kernel_rfl) fun args objs res os h => ?_
  unfold sUrlOk_s at h
  split at h
  · exact ⟨1, (sUrlOk_run _ _ _ _ _).trans h⟩
  · cases h

end
end Go.Proofs.YtmmjaomfonknnaaGreatDoor.Ev

namespace Go.Proofs.YtmmjaomfonknnaaGreatDoor.Ev
open Go Go.RowKit
set_option linter.unusedVariables false
set_option linter.unusedSimpArgs false
noncomputable section

theorem clean_fix {pa : Bytes} (h : cleanP pa = pa) (h0 : pa ≠ []) : pa.length ≤ 200 := by
  cases pa with
  | nil => exact absurd rfl h0
  | cons c r =>
    by_cases hc : c = 47
    · subst hc
      rw [cleanP_at] at h
      cases ho : pathOk (47 :: r)
      · rw [ho, cond_false] at h; exact absurd h.symm h0
      · unfold pathOk at ho
        simp only [Bool.and_eq_true, decide_eq_true_eq] at ho
        exact ho.1.1.1
    · rw [cleanP_not c r hc] at h; exact absurd h.symm h0
theorem host_len {h : Bytes} (hh : hostP h = true) : h.length ≤ 60 := by
  unfold hostP at hh
  simp only [Bool.and_eq_true, decide_eq_true_eq] at hh
  exact hh.1.1.2
theorem nat_int (n : Nat) : decide ((n : Int) ≤ 200) = decide (n ≤ 200) := by
  rw [Bool.eq_iff_iff, decide_eq_true_eq, decide_eq_true_eq]; omega
theorem upto_has (s : Bytes) (b : Int) : decide (uptoP s b = s) = !hasB s b := by
  induction s with
  | nil => rfl
  | cons c s ih =>
    have e : hasB (c :: s) b = (decide (by8 c = b) || hasB s b) := rfl
    unfold uptoP at ih ⊢
    rw [e, List.takeWhile_cons]
    cases decide (by8 c = b)
    · simp only [Bool.not_false, if_true, Bool.false_or]
      rw [← ih, Bool.eq_iff_iff, decide_eq_true_eq, decide_eq_true_eq]
      simp
    · simp
theorem urlT_q (h : Bytes) (po : Int) (pa q : Bytes) : q.length ≤ (urlT h po pa q true).length := by
  unfold urlT queryT
  simp only [cond_true, List.length_append, List.length_cons]; omega
def uk_s : List AV → List Ob → Br := ur_s (fun h _ pa q _ => isM h && isM pa && isM q) (fun h po pa q hq => .bool (urlOkP h po pa q hq))
theorem smU_mk {h : Bytes} {po : Int} {pa q : Bytes} (h1 : hostP h = true) (h2 : decide (1 ≤ po) = true) (h3 : decide (po ≤ 65535) = true) (h4 : decide (pa = []) = false) (h5 : decide (cleanP pa = pa) = true) (h6 : isM q = true) : smU h po pa q = true := by
  have a := host_len h1
  have b := clean_fix (of_decide_eq_true h5) (of_decide_eq_false h4)
  have c := of_decide_eq_true h2
  have d := of_decide_eq_true h3
  unfold smU num15
  rw [decide_eq_true (show h.length ≤ 1000000 by omega), decide_eq_true (show 0 ≤ po by omega), decide_eq_true (show po ≤ 999999999999999 by omega), decide_eq_true (show pa.length ≤ 1000000 by omega), h6]; rfl
theorem iUrlOk_okQ : Sound Kx 210 uk_s := of_ur iUrlOk_ok fun h po pa q hq hs => by
  simp only [Bool.and_eq_true] at hs
  obtain ⟨⟨m1, m2⟩, m3⟩ := hs
  show (iUrlOk_br h po pa q hq).val = some (.bool (urlOkP h po pa q hq), [])
  unfold iUrlOk_br urlOkP
  rw [m1, m2, m3, nat_int]
  cases d1 : hostP h
  · rfl
  cases d2 : decide (1 ≤ po)
  · rfl
  cases d3 : decide (po ≤ 65535)
  · rfl
  cases d4 : decide (pa = [])
  case true => rfl
  cases d5 : decide (cleanP pa = pa)
  · rfl
  rw [smU_mk d1 d2 d3 d4 d5 m3]
  cases allP isVis q
  · rfl
  cases hasB q 35
  case true => rfl
  cases hq <;> cases decide (q = []) <;> rfl
theorem sUrlOk_okQ : Sound Kx 203 uk_s := of_ur sUrlOk_ok fun h po pa q hq hs => by
  simp only [Bool.and_eq_true] at hs
  obtain ⟨⟨m1, m2⟩, m3⟩ := hs
  show (sUrlOk_br h po pa q hq).val = some (.bool (urlOkP h po pa q hq), [])
  unfold sUrlOk_br urlOkP
  rw [m2, m3, nat_int, upto_has]
  have e2 : decide (po < 1) = !decide (1 ≤ po) := by rw [Bool.eq_iff_iff]; simp
  have e3 : decide (65535 < po) = !decide (po ≤ 65535) := by rw [Bool.eq_iff_iff]; simp
  rw [e2, e3]
  cases d1 : hostP h
  · rfl
  cases d2 : decide (1 ≤ po)
  · rfl
  cases d3 : decide (po ≤ 65535)
  · rfl
  cases d4 : decide (pa = [])
  case true => rfl
  cases d5 : decide (cleanP pa = pa)
  · rfl
  rw [smU_mk d1 d2 d3 d4 d5 m3]
  by_cases hq0 : q = []
  · subst hq0
    cases hq <;> rfl
  · have z : decide (q = []) = false := decide_eq_false hq0
    have zl : decide ((0 : Int) < (q.length : Int)) = true := decide_eq_true (by have := List.length_pos_iff.2 hq0; omega)
    rw [z, zl]
    cases hq
    · cases allP isVis q <;> cases hasB q 35 <;> rfl
    · cases d6 : decide ((200 : Int) < (q.length : Int))
      · cases allP isVis q <;> cases hasB q 35 <;> rfl
      · have := of_decide_eq_true d6
        have hl := urlT_q h po pa q
        rw [decide_eq_false (show ¬ (urlT h po pa q true).length ≤ 200 by omega), Bool.and_false]; rfl
end
end Go.Proofs.YtmmjaomfonknnaaGreatDoor.Ev

namespace Go.Proofs.YtmmjaomfonknnaaGreatDoor.Ev
open Go Go.RowKit
set_option linter.unusedVariables false
set_option linter.unusedSimpArgs false
noncomputable section

def iReadUrl_O : Opt := { cons := [], keepNil := false, mutF := [], live := [], outs := [], split := true }
def iReadUrl_C : Spec := (add (add (add (add (add (add (add (add (add noS 95 allVis_s) 173 con1_s) 107 (t1_s fun s => .str (foldP s))) 205 ixAny_s) 206 cut_s) 207 iReadPath_s) 208 rdI_s) 209 (t1_s fun s => .str (cleanP s))) 210 uk_s)
theorem iReadUrl_C_ok : ∀ fn, Sound Kx fn (iReadUrl_C fn) := (sound_add (sound_add (sound_add (sound_add (sound_add (sound_add (sound_add (sound_add (sound_add (sound_no Kx) allVis_okQ) con1_okQ) ifold_okQ) ixAny_okQ) cut_okQ) iReadPath_ok) iReadDec_okQ) iClean_okQ) iUrlOk_okQ)
def iReadUrl_br (s : Bytes) : Br := (Br.ite (decide ((200 : Int) < ((List.length s) : Int))) (Br.ret (AV.tup ((AV.agg ((AV.str ([] : Bytes)) :: ((AV.int .i64 (0 : Int)) :: ((AV.str ([] : Bytes)) :: ((AV.str ([] : Bytes)) :: ((AV.bool false) :: ([] : List AV))))))) :: ((AV.bool false) :: ([] : List AV)))) ([] : List Ob)) (Br.ite (isM s) (Br.ite (!(allP isVis s)) (Br.ret (AV.tup ((AV.agg ((AV.str ([] : Bytes)) :: ((AV.int .i64 (0 : Int)) :: ((AV.str ([] : Bytes)) :: ((AV.str ([] : Bytes)) :: ((AV.bool false) :: ([] : List AV))))))) :: ((AV.bool false) :: ([] : List AV)))) ([] : List Ob)) (Br.ite (hasB s (35 : Int)) (Br.ret (AV.tup ((AV.agg ((AV.str ([] : Bytes)) :: ((AV.int .i64 (0 : Int)) :: ((AV.str ([] : Bytes)) :: ((AV.str ([] : Bytes)) :: ((AV.bool false) :: ([] : List AV))))))) :: ((AV.bool false) :: ([] : List AV)))) ([] : List Ob)) (Br.ite (decide (((List.length s) : Int) < (7 : Int))) (Br.ret (AV.tup ((AV.agg ((AV.str ([] : Bytes)) :: ((AV.int .i64 (0 : Int)) :: ((AV.str ([] : Bytes)) :: ((AV.str ([] : Bytes)) :: ((AV.bool false) :: ([] : List AV))))))) :: ((AV.bool false) :: ([] : List AV)))) ([] : List Ob)) (Br.ite (decide ((7 : Int) ≤ ((List.length s) : Int))) (Br.ite (isM (cut s (0 : Int) (7 : Int))) (Br.ite (!(decide ((foldP (cut s (0 : Int) (7 : Int))) = ((104 : UInt8) :: ((116 : UInt8) :: ((116 : UInt8) :: ((112 : UInt8) :: ((58 : UInt8) :: ((47 : UInt8) :: ((47 : UInt8) :: ([] : Bytes))))))))))) (Br.ret (AV.tup ((AV.agg ((AV.str ([] : Bytes)) :: ((AV.int .i64 (0 : Int)) :: ((AV.str ([] : Bytes)) :: ((AV.str ([] : Bytes)) :: ((AV.bool false) :: ([] : List AV))))))) :: ((AV.bool false) :: ([] : List AV)))) ([] : List Ob)) (Br.ite (decide ((7 : Int) ≤ ((List.length s) : Int))) (Br.ite ((((decide ((List.length (cut s (7 : Int) ((List.length s) : Int))) ≤ (1000000 : Nat))) && true) && (ascP (cut s (7 : Int) ((List.length s) : Int)))) && true) (Br.ite (decide ((anyIx (cut s (7 : Int) ((List.length s) : Int)) ((47 : UInt8) :: ((63 : UInt8) :: ([] : Bytes)))) < (0 : Int))) (Br.ite (decide ((0 : Int) ≤ ((List.length (cut s (7 : Int) ((List.length s) : Int))) : Int))) (Br.ite (decide (((List.length (cut s (7 : Int) ((List.length s) : Int))) : Int) ≤ ((List.length (cut s (7 : Int) ((List.length s) : Int))) : Int))) (Br.ite (decide ((List.length (cut (cut s (7 : Int) ((List.length s) : Int)) (0 : Int) ((List.length (cut s (7 : Int) ((List.length s) : Int))) : Int))) ≤ (1000000 : Nat))) (Br.ite (decide ((0 : Int) ≤ ((List.length (cut s (7 : Int) ((List.length s) : Int))) : Int))) (Br.ite (decide (((List.length (cut s (7 : Int) ((List.length s) : Int))) : Int) ≤ ((List.length (cut s (7 : Int) ((List.length s) : Int))) : Int))) (Br.ite (decide ((List.length (cut (cut s (7 : Int) ((List.length s) : Int)) ((List.length (cut s (7 : Int) ((List.length s) : Int))) : Int) ((List.length (cut s (7 : Int) ((List.length s) : Int))) : Int))) ≤ (1000000 : Nat))) (Br.ite (isM (cutP (cut (cut s (7 : Int) ((List.length s) : Int)) (0 : Int) ((List.length (cut s (7 : Int) ((List.length s) : Int))) : Int)) ((58 : UInt8) :: ([] : Bytes))).1) (Br.ite (cutP (cut (cut s (7 : Int) ((List.length s) : Int)) (0 : Int) ((List.length (cut s (7 : Int) ((List.length s) : Int))) : Int)) ((58 : UInt8) :: ([] : Bytes))).2.2 (Br.ite (decide ((List.length (cutP (cut (cut s (7 : Int) ((List.length s) : Int)) (0 : Int) ((List.length (cut s (7 : Int) ((List.length s) : Int))) : Int)) ((58 : UInt8) :: ([] : Bytes))).2.1) ≤ (1000000 : Nat))) (Br.ite (!(decR (cutP (cut (cut s (7 : Int) ((List.length s) : Int)) (0 : Int) ((List.length (cut s (7 : Int) ((List.length s) : Int))) : Int)) ((58 : UInt8) :: ([] : Bytes))).2.1).2) (Br.ret (AV.tup ((AV.agg ((AV.str ([] : Bytes)) :: ((AV.int .i64 (0 : Int)) :: ((AV.str ([] : Bytes)) :: ((AV.str ([] : Bytes)) :: ((AV.bool false) :: ([] : List AV))))))) :: ((AV.bool false) :: ([] : List AV)))) ([] : List Ob)) (Br.ite (decide ((cutP (cut (cut s (7 : Int) ((List.length s) : Int)) ((List.length (cut s (7 : Int) ((List.length s) : Int))) : Int) ((List.length (cut s (7 : Int) ((List.length s) : Int))) : Int)) ((63 : UInt8) :: ([] : Bytes))).1 = ([] : Bytes))) (Br.ite (((isM (foldP (cutP (cut (cut s (7 : Int) ((List.length s) : Int)) (0 : Int) ((List.length (cut s (7 : Int) ((List.length s) : Int))) : Int)) ((58 : UInt8) :: ([] : Bytes))).1)) && true) && (isM (cutP (cut (cut s (7 : Int) ((List.length s) : Int)) ((List.length (cut s (7 : Int) ((List.length s) : Int))) : Int) ((List.length (cut s (7 : Int) ((List.length s) : Int))) : Int)) ((63 : UInt8) :: ([] : Bytes))).2.1)) (Br.ite (!(urlOkP (foldP (cutP (cut (cut s (7 : Int) ((List.length s) : Int)) (0 : Int) ((List.length (cut s (7 : Int) ((List.length s) : Int))) : Int)) ((58 : UInt8) :: ([] : Bytes))).1) (decR (cutP (cut (cut s (7 : Int) ((List.length s) : Int)) (0 : Int) ((List.length (cut s (7 : Int) ((List.length s) : Int))) : Int)) ((58 : UInt8) :: ([] : Bytes))).2.1).1 ((47 : UInt8) :: ([] : Bytes)) (cutP (cut (cut s (7 : Int) ((List.length s) : Int)) ((List.length (cut s (7 : Int) ((List.length s) : Int))) : Int) ((List.length (cut s (7 : Int) ((List.length s) : Int))) : Int)) ((63 : UInt8) :: ([] : Bytes))).2.1 (cutP (cut (cut s (7 : Int) ((List.length s) : Int)) ((List.length (cut s (7 : Int) ((List.length s) : Int))) : Int) ((List.length (cut s (7 : Int) ((List.length s) : Int))) : Int)) ((63 : UInt8) :: ([] : Bytes))).2.2)) (Br.ret (AV.tup ((AV.agg ((AV.str ([] : Bytes)) :: ((AV.int .i64 (0 : Int)) :: ((AV.str ([] : Bytes)) :: ((AV.str ([] : Bytes)) :: ((AV.bool false) :: ([] : List AV))))))) :: ((AV.bool false) :: ([] : List AV)))) ([] : List Ob)) (Br.ret (AV.tup ((AV.agg ((AV.str (foldP (cutP (cut (cut s (7 : Int) ((List.length s) : Int)) (0 : Int) ((List.length (cut s (7 : Int) ((List.length s) : Int))) : Int)) ((58 : UInt8) :: ([] : Bytes))).1)) :: ((AV.int .i64 (decR (cutP (cut (cut s (7 : Int) ((List.length s) : Int)) (0 : Int) ((List.length (cut s (7 : Int) ((List.length s) : Int))) : Int)) ((58 : UInt8) :: ([] : Bytes))).2.1).1) :: ((AV.str ((47 : UInt8) :: ([] : Bytes))) :: ((AV.str (cutP (cut (cut s (7 : Int) ((List.length s) : Int)) ((List.length (cut s (7 : Int) ((List.length s) : Int))) : Int) ((List.length (cut s (7 : Int) ((List.length s) : Int))) : Int)) ((63 : UInt8) :: ([] : Bytes))).2.1) :: ((AV.bool (cutP (cut (cut s (7 : Int) ((List.length s) : Int)) ((List.length (cut s (7 : Int) ((List.length s) : Int))) : Int) ((List.length (cut s (7 : Int) ((List.length s) : Int))) : Int)) ((63 : UInt8) :: ([] : Bytes))).2.2) :: ([] : List AV))))))) :: ((AV.bool true) :: ([] : List AV)))) ([] : List Ob))) Br.fail) (Br.ite (isM (cutP (cut (cut s (7 : Int) ((List.length s) : Int)) ((List.length (cut s (7 : Int) ((List.length s) : Int))) : Int) ((List.length (cut s (7 : Int) ((List.length s) : Int))) : Int)) ((63 : UInt8) :: ([] : Bytes))).1) (Br.ite (((isM (foldP (cutP (cut (cut s (7 : Int) ((List.length s) : Int)) (0 : Int) ((List.length (cut s (7 : Int) ((List.length s) : Int))) : Int)) ((58 : UInt8) :: ([] : Bytes))).1)) && (isM (cleanP (cutP (cut (cut s (7 : Int) ((List.length s) : Int)) ((List.length (cut s (7 : Int) ((List.length s) : Int))) : Int) ((List.length (cut s (7 : Int) ((List.length s) : Int))) : Int)) ((63 : UInt8) :: ([] : Bytes))).1))) && (isM (cutP (cut (cut s (7 : Int) ((List.length s) : Int)) ((List.length (cut s (7 : Int) ((List.length s) : Int))) : Int) ((List.length (cut s (7 : Int) ((List.length s) : Int))) : Int)) ((63 : UInt8) :: ([] : Bytes))).2.1)) (Br.ite (!(urlOkP (foldP (cutP (cut (cut s (7 : Int) ((List.length s) : Int)) (0 : Int) ((List.length (cut s (7 : Int) ((List.length s) : Int))) : Int)) ((58 : UInt8) :: ([] : Bytes))).1) (decR (cutP (cut (cut s (7 : Int) ((List.length s) : Int)) (0 : Int) ((List.length (cut s (7 : Int) ((List.length s) : Int))) : Int)) ((58 : UInt8) :: ([] : Bytes))).2.1).1 (cleanP (cutP (cut (cut s (7 : Int) ((List.length s) : Int)) ((List.length (cut s (7 : Int) ((List.length s) : Int))) : Int) ((List.length (cut s (7 : Int) ((List.length s) : Int))) : Int)) ((63 : UInt8) :: ([] : Bytes))).1) (cutP (cut (cut s (7 : Int) ((List.length s) : Int)) ((List.length (cut s (7 : Int) ((List.length s) : Int))) : Int) ((List.length (cut s (7 : Int) ((List.length s) : Int))) : Int)) ((63 : UInt8) :: ([] : Bytes))).2.1 (cutP (cut (cut s (7 : Int) ((List.length s) : Int)) ((List.length (cut s (7 : Int) ((List.length s) : Int))) : Int) ((List.length (cut s (7 : Int) ((List.length s) : Int))) : Int)) ((63 : UInt8) :: ([] : Bytes))).2.2)) (Br.ret (AV.tup ((AV.agg ((AV.str ([] : Bytes)) :: ((AV.int .i64 (0 : Int)) :: ((AV.str ([] : Bytes)) :: ((AV.str ([] : Bytes)) :: ((AV.bool false) :: ([] : List AV))))))) :: ((AV.bool false) :: ([] : List AV)))) ([] : List Ob)) (Br.ret (AV.tup ((AV.agg ((AV.str (foldP (cutP (cut (cut s (7 : Int) ((List.length s) : Int)) (0 : Int) ((List.length (cut s (7 : Int) ((List.length s) : Int))) : Int)) ((58 : UInt8) :: ([] : Bytes))).1)) :: ((AV.int .i64 (decR (cutP (cut (cut s (7 : Int) ((List.length s) : Int)) (0 : Int) ((List.length (cut s (7 : Int) ((List.length s) : Int))) : Int)) ((58 : UInt8) :: ([] : Bytes))).2.1).1) :: ((AV.str (cleanP (cutP (cut (cut s (7 : Int) ((List.length s) : Int)) ((List.length (cut s (7 : Int) ((List.length s) : Int))) : Int) ((List.length (cut s (7 : Int) ((List.length s) : Int))) : Int)) ((63 : UInt8) :: ([] : Bytes))).1)) :: ((AV.str (cutP (cut (cut s (7 : Int) ((List.length s) : Int)) ((List.length (cut s (7 : Int) ((List.length s) : Int))) : Int) ((List.length (cut s (7 : Int) ((List.length s) : Int))) : Int)) ((63 : UInt8) :: ([] : Bytes))).2.1) :: ((AV.bool (cutP (cut (cut s (7 : Int) ((List.length s) : Int)) ((List.length (cut s (7 : Int) ((List.length s) : Int))) : Int) ((List.length (cut s (7 : Int) ((List.length s) : Int))) : Int)) ((63 : UInt8) :: ([] : Bytes))).2.2) :: ([] : List AV))))))) :: ((AV.bool true) :: ([] : List AV)))) ([] : List Ob))) Br.fail) Br.fail))) Br.fail) (Br.ite (decide ((cutP (cut (cut s (7 : Int) ((List.length s) : Int)) ((List.length (cut s (7 : Int) ((List.length s) : Int))) : Int) ((List.length (cut s (7 : Int) ((List.length s) : Int))) : Int)) ((63 : UInt8) :: ([] : Bytes))).1 = ([] : Bytes))) (Br.ite (((isM (foldP (cutP (cut (cut s (7 : Int) ((List.length s) : Int)) (0 : Int) ((List.length (cut s (7 : Int) ((List.length s) : Int))) : Int)) ((58 : UInt8) :: ([] : Bytes))).1)) && true) && (isM (cutP (cut (cut s (7 : Int) ((List.length s) : Int)) ((List.length (cut s (7 : Int) ((List.length s) : Int))) : Int) ((List.length (cut s (7 : Int) ((List.length s) : Int))) : Int)) ((63 : UInt8) :: ([] : Bytes))).2.1)) (Br.ite (!(urlOkP (foldP (cutP (cut (cut s (7 : Int) ((List.length s) : Int)) (0 : Int) ((List.length (cut s (7 : Int) ((List.length s) : Int))) : Int)) ((58 : UInt8) :: ([] : Bytes))).1) (80 : Int) ((47 : UInt8) :: ([] : Bytes)) (cutP (cut (cut s (7 : Int) ((List.length s) : Int)) ((List.length (cut s (7 : Int) ((List.length s) : Int))) : Int) ((List.length (cut s (7 : Int) ((List.length s) : Int))) : Int)) ((63 : UInt8) :: ([] : Bytes))).2.1 (cutP (cut (cut s (7 : Int) ((List.length s) : Int)) ((List.length (cut s (7 : Int) ((List.length s) : Int))) : Int) ((List.length (cut s (7 : Int) ((List.length s) : Int))) : Int)) ((63 : UInt8) :: ([] : Bytes))).2.2)) (Br.ret (AV.tup ((AV.agg ((AV.str ([] : Bytes)) :: ((AV.int .i64 (0 : Int)) :: ((AV.str ([] : Bytes)) :: ((AV.str ([] : Bytes)) :: ((AV.bool false) :: ([] : List AV))))))) :: ((AV.bool false) :: ([] : List AV)))) ([] : List Ob)) (Br.ret (AV.tup ((AV.agg ((AV.str (foldP (cutP (cut (cut s (7 : Int) ((List.length s) : Int)) (0 : Int) ((List.length (cut s (7 : Int) ((List.length s) : Int))) : Int)) ((58 : UInt8) :: ([] : Bytes))).1)) :: ((AV.int .i64 (80 : Int)) :: ((AV.str ((47 : UInt8) :: ([] : Bytes))) :: ((AV.str (cutP (cut (cut s (7 : Int) ((List.length s) : Int)) ((List.length (cut s (7 : Int) ((List.length s) : Int))) : Int) ((List.length (cut s (7 : Int) ((List.length s) : Int))) : Int)) ((63 : UInt8) :: ([] : Bytes))).2.1) :: ((AV.bool (cutP (cut (cut s (7 : Int) ((List.length s) : Int)) ((List.length (cut s (7 : Int) ((List.length s) : Int))) : Int) ((List.length (cut s (7 : Int) ((List.length s) : Int))) : Int)) ((63 : UInt8) :: ([] : Bytes))).2.2) :: ([] : List AV))))))) :: ((AV.bool true) :: ([] : List AV)))) ([] : List Ob))) Br.fail) (Br.ite (isM (cutP (cut (cut s (7 : Int) ((List.length s) : Int)) ((List.length (cut s (7 : Int) ((List.length s) : Int))) : Int) ((List.length (cut s (7 : Int) ((List.length s) : Int))) : Int)) ((63 : UInt8) :: ([] : Bytes))).1) (Br.ite (((isM (foldP (cutP (cut (cut s (7 : Int) ((List.length s) : Int)) (0 : Int) ((List.length (cut s (7 : Int) ((List.length s) : Int))) : Int)) ((58 : UInt8) :: ([] : Bytes))).1)) && (isM (cleanP (cutP (cut (cut s (7 : Int) ((List.length s) : Int)) ((List.length (cut s (7 : Int) ((List.length s) : Int))) : Int) ((List.length (cut s (7 : Int) ((List.length s) : Int))) : Int)) ((63 : UInt8) :: ([] : Bytes))).1))) && (isM (cutP (cut (cut s (7 : Int) ((List.length s) : Int)) ((List.length (cut s (7 : Int) ((List.length s) : Int))) : Int) ((List.length (cut s (7 : Int) ((List.length s) : Int))) : Int)) ((63 : UInt8) :: ([] : Bytes))).2.1)) (Br.ite (!(urlOkP (foldP (cutP (cut (cut s (7 : Int) ((List.length s) : Int)) (0 : Int) ((List.length (cut s (7 : Int) ((List.length s) : Int))) : Int)) ((58 : UInt8) :: ([] : Bytes))).1) (80 : Int) (cleanP (cutP (cut (cut s (7 : Int) ((List.length s) : Int)) ((List.length (cut s (7 : Int) ((List.length s) : Int))) : Int) ((List.length (cut s (7 : Int) ((List.length s) : Int))) : Int)) ((63 : UInt8) :: ([] : Bytes))).1) (cutP (cut (cut s (7 : Int) ((List.length s) : Int)) ((List.length (cut s (7 : Int) ((List.length s) : Int))) : Int) ((List.length (cut s (7 : Int) ((List.length s) : Int))) : Int)) ((63 : UInt8) :: ([] : Bytes))).2.1 (cutP (cut (cut s (7 : Int) ((List.length s) : Int)) ((List.length (cut s (7 : Int) ((List.length s) : Int))) : Int) ((List.length (cut s (7 : Int) ((List.length s) : Int))) : Int)) ((63 : UInt8) :: ([] : Bytes))).2.2)) (Br.ret (AV.tup ((AV.agg ((AV.str ([] : Bytes)) :: ((AV.int .i64 (0 : Int)) :: ((AV.str ([] : Bytes)) :: ((AV.str ([] : Bytes)) :: ((AV.bool false) :: ([] : List AV))))))) :: ((AV.bool false) :: ([] : List AV)))) ([] : List Ob)) (Br.ret (AV.tup ((AV.agg ((AV.str (foldP (cutP (cut (cut s (7 : Int) ((List.length s) : Int)) (0 : Int) ((List.length (cut s (7 : Int) ((List.length s) : Int))) : Int)) ((58 : UInt8) :: ([] : Bytes))).1)) :: ((AV.int .i64 (80 : Int)) :: ((AV.str (cleanP (cutP (cut (cut s (7 : Int) ((List.length s) : Int)) ((List.length (cut s (7 : Int) ((List.length s) : Int))) : Int) ((List.length (cut s (7 : Int) ((List.length s) : Int))) : Int)) ((63 : UInt8) :: ([] : Bytes))).1)) :: ((AV.str (cutP (cut (cut s (7 : Int) ((List.length s) : Int)) ((List.length (cut s (7 : Int) ((List.length s) : Int))) : Int) ((List.length (cut s (7 : Int) ((List.length s) : Int))) : Int)) ((63 : UInt8) :: ([] : Bytes))).2.1) :: ((AV.bool (cutP (cut (cut s (7 : Int) ((List.length s) : Int)) ((List.length (cut s (7 : Int) ((List.length s) : Int))) : Int) ((List.length (cut s (7 : Int) ((List.length s) : Int))) : Int)) ((63 : UInt8) :: ([] : Bytes))).2.2) :: ([] : List AV))))))) :: ((AV.bool true) :: ([] : List AV)))) ([] : List Ob))) Br.fail) Br.fail))) Br.fail) Br.fail) Br.fail) Br.fail) Br.fail) Br.fail) Br.fail) (Br.ite (decide ((0 : Int) ≤ (anyIx (cut s (7 : Int) ((List.length s) : Int)) ((47 : UInt8) :: ((63 : UInt8) :: ([] : Bytes)))))) (Br.ite (decide ((anyIx (cut s (7 : Int) ((List.length s) : Int)) ((47 : UInt8) :: ((63 : UInt8) :: ([] : Bytes)))) ≤ ((List.length (cut s (7 : Int) ((List.length s) : Int))) : Int))) (Br.ite (decide ((List.length (cut (cut s (7 : Int) ((List.length s) : Int)) (0 : Int) (anyIx (cut s (7 : Int) ((List.length s) : Int)) ((47 : UInt8) :: ((63 : UInt8) :: ([] : Bytes)))))) ≤ (1000000 : Nat))) (Br.ite (decide ((0 : Int) ≤ (anyIx (cut s (7 : Int) ((List.length s) : Int)) ((47 : UInt8) :: ((63 : UInt8) :: ([] : Bytes)))))) (Br.ite (decide ((anyIx (cut s (7 : Int) ((List.length s) : Int)) ((47 : UInt8) :: ((63 : UInt8) :: ([] : Bytes)))) ≤ ((List.length (cut s (7 : Int) ((List.length s) : Int))) : Int))) (Br.ite (decide ((List.length (cut (cut s (7 : Int) ((List.length s) : Int)) (anyIx (cut s (7 : Int) ((List.length s) : Int)) ((47 : UInt8) :: ((63 : UInt8) :: ([] : Bytes)))) ((List.length (cut s (7 : Int) ((List.length s) : Int))) : Int))) ≤ (1000000 : Nat))) (Br.ite (isM (cutP (cut (cut s (7 : Int) ((List.length s) : Int)) (0 : Int) (anyIx (cut s (7 : Int) ((List.length s) : Int)) ((47 : UInt8) :: ((63 : UInt8) :: ([] : Bytes))))) ((58 : UInt8) :: ([] : Bytes))).1) (Br.ite (cutP (cut (cut s (7 : Int) ((List.length s) : Int)) (0 : Int) (anyIx (cut s (7 : Int) ((List.length s) : Int)) ((47 : UInt8) :: ((63 : UInt8) :: ([] : Bytes))))) ((58 : UInt8) :: ([] : Bytes))).2.2 (Br.ite (decide ((List.length (cutP (cut (cut s (7 : Int) ((List.length s) : Int)) (0 : Int) (anyIx (cut s (7 : Int) ((List.length s) : Int)) ((47 : UInt8) :: ((63 : UInt8) :: ([] : Bytes))))) ((58 : UInt8) :: ([] : Bytes))).2.1) ≤ (1000000 : Nat))) (Br.ite (!(decR (cutP (cut (cut s (7 : Int) ((List.length s) : Int)) (0 : Int) (anyIx (cut s (7 : Int) ((List.length s) : Int)) ((47 : UInt8) :: ((63 : UInt8) :: ([] : Bytes))))) ((58 : UInt8) :: ([] : Bytes))).2.1).2) (Br.ret (AV.tup ((AV.agg ((AV.str ([] : Bytes)) :: ((AV.int .i64 (0 : Int)) :: ((AV.str ([] : Bytes)) :: ((AV.str ([] : Bytes)) :: ((AV.bool false) :: ([] : List AV))))))) :: ((AV.bool false) :: ([] : List AV)))) ([] : List Ob)) (Br.ite (decide ((cutP (cut (cut s (7 : Int) ((List.length s) : Int)) (anyIx (cut s (7 : Int) ((List.length s) : Int)) ((47 : UInt8) :: ((63 : UInt8) :: ([] : Bytes)))) ((List.length (cut s (7 : Int) ((List.length s) : Int))) : Int)) ((63 : UInt8) :: ([] : Bytes))).1 = ([] : Bytes))) (Br.ite (((isM (foldP (cutP (cut (cut s (7 : Int) ((List.length s) : Int)) (0 : Int) (anyIx (cut s (7 : Int) ((List.length s) : Int)) ((47 : UInt8) :: ((63 : UInt8) :: ([] : Bytes))))) ((58 : UInt8) :: ([] : Bytes))).1)) && true) && (isM (cutP (cut (cut s (7 : Int) ((List.length s) : Int)) (anyIx (cut s (7 : Int) ((List.length s) : Int)) ((47 : UInt8) :: ((63 : UInt8) :: ([] : Bytes)))) ((List.length (cut s (7 : Int) ((List.length s) : Int))) : Int)) ((63 : UInt8) :: ([] : Bytes))).2.1)) (Br.ite (!(urlOkP (foldP (cutP (cut (cut s (7 : Int) ((List.length s) : Int)) (0 : Int) (anyIx (cut s (7 : Int) ((List.length s) : Int)) ((47 : UInt8) :: ((63 : UInt8) :: ([] : Bytes))))) ((58 : UInt8) :: ([] : Bytes))).1) (decR (cutP (cut (cut s (7 : Int) ((List.length s) : Int)) (0 : Int) (anyIx (cut s (7 : Int) ((List.length s) : Int)) ((47 : UInt8) :: ((63 : UInt8) :: ([] : Bytes))))) ((58 : UInt8) :: ([] : Bytes))).2.1).1 ((47 : UInt8) :: ([] : Bytes)) (cutP (cut (cut s (7 : Int) ((List.length s) : Int)) (anyIx (cut s (7 : Int) ((List.length s) : Int)) ((47 : UInt8) :: ((63 : UInt8) :: ([] : Bytes)))) ((List.length (cut s (7 : Int) ((List.length s) : Int))) : Int)) ((63 : UInt8) :: ([] : Bytes))).2.1 (cutP (cut (cut s (7 : Int) ((List.length s) : Int)) (anyIx (cut s (7 : Int) ((List.length s) : Int)) ((47 : UInt8) :: ((63 : UInt8) :: ([] : Bytes)))) ((List.length (cut s (7 : Int) ((List.length s) : Int))) : Int)) ((63 : UInt8) :: ([] : Bytes))).2.2)) (Br.ret (AV.tup ((AV.agg ((AV.str ([] : Bytes)) :: ((AV.int .i64 (0 : Int)) :: ((AV.str ([] : Bytes)) :: ((AV.str ([] : Bytes)) :: ((AV.bool false) :: ([] : List AV))))))) :: ((AV.bool false) :: ([] : List AV)))) ([] : List Ob)) (Br.ret (AV.tup ((AV.agg ((AV.str (foldP (cutP (cut (cut s (7 : Int) ((List.length s) : Int)) (0 : Int) (anyIx (cut s (7 : Int) ((List.length s) : Int)) ((47 : UInt8) :: ((63 : UInt8) :: ([] : Bytes))))) ((58 : UInt8) :: ([] : Bytes))).1)) :: ((AV.int .i64 (decR (cutP (cut (cut s (7 : Int) ((List.length s) : Int)) (0 : Int) (anyIx (cut s (7 : Int) ((List.length s) : Int)) ((47 : UInt8) :: ((63 : UInt8) :: ([] : Bytes))))) ((58 : UInt8) :: ([] : Bytes))).2.1).1) :: ((AV.str ((47 : UInt8) :: ([] : Bytes))) :: ((AV.str (cutP (cut (cut s (7 : Int) ((List.length s) : Int)) (anyIx (cut s (7 : Int) ((List.length s) : Int)) ((47 : UInt8) :: ((63 : UInt8) :: ([] : Bytes)))) ((List.length (cut s (7 : Int) ((List.length s) : Int))) : Int)) ((63 : UInt8) :: ([] : Bytes))).2.1) :: ((AV.bool (cutP (cut (cut s (7 : Int) ((List.length s) : Int)) (anyIx (cut s (7 : Int) ((List.length s) : Int)) ((47 : UInt8) :: ((63 : UInt8) :: ([] : Bytes)))) ((List.length (cut s (7 : Int) ((List.length s) : Int))) : Int)) ((63 : UInt8) :: ([] : Bytes))).2.2) :: ([] : List AV))))))) :: ((AV.bool true) :: ([] : List AV)))) ([] : List Ob))) Br.fail) (Br.ite (isM (cutP (cut (cut s (7 : Int) ((List.length s) : Int)) (anyIx (cut s (7 : Int) ((List.length s) : Int)) ((47 : UInt8) :: ((63 : UInt8) :: ([] : Bytes)))) ((List.length (cut s (7 : Int) ((List.length s) : Int))) : Int)) ((63 : UInt8) :: ([] : Bytes))).1) (Br.ite (((isM (foldP (cutP (cut (cut s (7 : Int) ((List.length s) : Int)) (0 : Int) (anyIx (cut s (7 : Int) ((List.length s) : Int)) ((47 : UInt8) :: ((63 : UInt8) :: ([] : Bytes))))) ((58 : UInt8) :: ([] : Bytes))).1)) && (isM (cleanP (cutP (cut (cut s (7 : Int) ((List.length s) : Int)) (anyIx (cut s (7 : Int) ((List.length s) : Int)) ((47 : UInt8) :: ((63 : UInt8) :: ([] : Bytes)))) ((List.length (cut s (7 : Int) ((List.length s) : Int))) : Int)) ((63 : UInt8) :: ([] : Bytes))).1))) && (isM (cutP (cut (cut s (7 : Int) ((List.length s) : Int)) (anyIx (cut s (7 : Int) ((List.length s) : Int)) ((47 : UInt8) :: ((63 : UInt8) :: ([] : Bytes)))) ((List.length (cut s (7 : Int) ((List.length s) : Int))) : Int)) ((63 : UInt8) :: ([] : Bytes))).2.1)) (Br.ite (!(urlOkP (foldP (cutP (cut (cut s (7 : Int) ((List.length s) : Int)) (0 : Int) (anyIx (cut s (7 : Int) ((List.length s) : Int)) ((47 : UInt8) :: ((63 : UInt8) :: ([] : Bytes))))) ((58 : UInt8) :: ([] : Bytes))).1) (decR (cutP (cut (cut s (7 : Int) ((List.length s) : Int)) (0 : Int) (anyIx (cut s (7 : Int) ((List.length s) : Int)) ((47 : UInt8) :: ((63 : UInt8) :: ([] : Bytes))))) ((58 : UInt8) :: ([] : Bytes))).2.1).1 (cleanP (cutP (cut (cut s (7 : Int) ((List.length s) : Int)) (anyIx (cut s (7 : Int) ((List.length s) : Int)) ((47 : UInt8) :: ((63 : UInt8) :: ([] : Bytes)))) ((List.length (cut s (7 : Int) ((List.length s) : Int))) : Int)) ((63 : UInt8) :: ([] : Bytes))).1) (cutP (cut (cut s (7 : Int) ((List.length s) : Int)) (anyIx (cut s (7 : Int) ((List.length s) : Int)) ((47 : UInt8) :: ((63 : UInt8) :: ([] : Bytes)))) ((List.length (cut s (7 : Int) ((List.length s) : Int))) : Int)) ((63 : UInt8) :: ([] : Bytes))).2.1 (cutP (cut (cut s (7 : Int) ((List.length s) : Int)) (anyIx (cut s (7 : Int) ((List.length s) : Int)) ((47 : UInt8) :: ((63 : UInt8) :: ([] : Bytes)))) ((List.length (cut s (7 : Int) ((List.length s) : Int))) : Int)) ((63 : UInt8) :: ([] : Bytes))).2.2)) (Br.ret (AV.tup ((AV.agg ((AV.str ([] : Bytes)) :: ((AV.int .i64 (0 : Int)) :: ((AV.str ([] : Bytes)) :: ((AV.str ([] : Bytes)) :: ((AV.bool false) :: ([] : List AV))))))) :: ((AV.bool false) :: ([] : List AV)))) ([] : List Ob)) (Br.ret (AV.tup ((AV.agg ((AV.str (foldP (cutP (cut (cut s (7 : Int) ((List.length s) : Int)) (0 : Int) (anyIx (cut s (7 : Int) ((List.length s) : Int)) ((47 : UInt8) :: ((63 : UInt8) :: ([] : Bytes))))) ((58 : UInt8) :: ([] : Bytes))).1)) :: ((AV.int .i64 (decR (cutP (cut (cut s (7 : Int) ((List.length s) : Int)) (0 : Int) (anyIx (cut s (7 : Int) ((List.length s) : Int)) ((47 : UInt8) :: ((63 : UInt8) :: ([] : Bytes))))) ((58 : UInt8) :: ([] : Bytes))).2.1).1) :: ((AV.str (cleanP (cutP (cut (cut s (7 : Int) ((List.length s) : Int)) (anyIx (cut s (7 : Int) ((List.length s) : Int)) ((47 : UInt8) :: ((63 : UInt8) :: ([] : Bytes)))) ((List.length (cut s (7 : Int) ((List.length s) : Int))) : Int)) ((63 : UInt8) :: ([] : Bytes))).1)) :: ((AV.str (cutP (cut (cut s (7 : Int) ((List.length s) : Int)) (anyIx (cut s (7 : Int) ((List.length s) : Int)) ((47 : UInt8) :: ((63 : UInt8) :: ([] : Bytes)))) ((List.length (cut s (7 : Int) ((List.length s) : Int))) : Int)) ((63 : UInt8) :: ([] : Bytes))).2.1) :: ((AV.bool (cutP (cut (cut s (7 : Int) ((List.length s) : Int)) (anyIx (cut s (7 : Int) ((List.length s) : Int)) ((47 : UInt8) :: ((63 : UInt8) :: ([] : Bytes)))) ((List.length (cut s (7 : Int) ((List.length s) : Int))) : Int)) ((63 : UInt8) :: ([] : Bytes))).2.2) :: ([] : List AV))))))) :: ((AV.bool true) :: ([] : List AV)))) ([] : List Ob))) Br.fail) Br.fail))) Br.fail) (Br.ite (decide ((cutP (cut (cut s (7 : Int) ((List.length s) : Int)) (anyIx (cut s (7 : Int) ((List.length s) : Int)) ((47 : UInt8) :: ((63 : UInt8) :: ([] : Bytes)))) ((List.length (cut s (7 : Int) ((List.length s) : Int))) : Int)) ((63 : UInt8) :: ([] : Bytes))).1 = ([] : Bytes))) (Br.ite (((isM (foldP (cutP (cut (cut s (7 : Int) ((List.length s) : Int)) (0 : Int) (anyIx (cut s (7 : Int) ((List.length s) : Int)) ((47 : UInt8) :: ((63 : UInt8) :: ([] : Bytes))))) ((58 : UInt8) :: ([] : Bytes))).1)) && true) && (isM (cutP (cut (cut s (7 : Int) ((List.length s) : Int)) (anyIx (cut s (7 : Int) ((List.length s) : Int)) ((47 : UInt8) :: ((63 : UInt8) :: ([] : Bytes)))) ((List.length (cut s (7 : Int) ((List.length s) : Int))) : Int)) ((63 : UInt8) :: ([] : Bytes))).2.1)) (Br.ite (!(urlOkP (foldP (cutP (cut (cut s (7 : Int) ((List.length s) : Int)) (0 : Int) (anyIx (cut s (7 : Int) ((List.length s) : Int)) ((47 : UInt8) :: ((63 : UInt8) :: ([] : Bytes))))) ((58 : UInt8) :: ([] : Bytes))).1) (80 : Int) ((47 : UInt8) :: ([] : Bytes)) (cutP (cut (cut s (7 : Int) ((List.length s) : Int)) (anyIx (cut s (7 : Int) ((List.length s) : Int)) ((47 : UInt8) :: ((63 : UInt8) :: ([] : Bytes)))) ((List.length (cut s (7 : Int) ((List.length s) : Int))) : Int)) ((63 : UInt8) :: ([] : Bytes))).2.1 (cutP (cut (cut s (7 : Int) ((List.length s) : Int)) (anyIx (cut s (7 : Int) ((List.length s) : Int)) ((47 : UInt8) :: ((63 : UInt8) :: ([] : Bytes)))) ((List.length (cut s (7 : Int) ((List.length s) : Int))) : Int)) ((63 : UInt8) :: ([] : Bytes))).2.2)) (Br.ret (AV.tup ((AV.agg ((AV.str ([] : Bytes)) :: ((AV.int .i64 (0 : Int)) :: ((AV.str ([] : Bytes)) :: ((AV.str ([] : Bytes)) :: ((AV.bool false) :: ([] : List AV))))))) :: ((AV.bool false) :: ([] : List AV)))) ([] : List Ob)) (Br.ret (AV.tup ((AV.agg ((AV.str (foldP (cutP (cut (cut s (7 : Int) ((List.length s) : Int)) (0 : Int) (anyIx (cut s (7 : Int) ((List.length s) : Int)) ((47 : UInt8) :: ((63 : UInt8) :: ([] : Bytes))))) ((58 : UInt8) :: ([] : Bytes))).1)) :: ((AV.int .i64 (80 : Int)) :: ((AV.str ((47 : UInt8) :: ([] : Bytes))) :: ((AV.str (cutP (cut (cut s (7 : Int) ((List.length s) : Int)) (anyIx (cut s (7 : Int) ((List.length s) : Int)) ((47 : UInt8) :: ((63 : UInt8) :: ([] : Bytes)))) ((List.length (cut s (7 : Int) ((List.length s) : Int))) : Int)) ((63 : UInt8) :: ([] : Bytes))).2.1) :: ((AV.bool (cutP (cut (cut s (7 : Int) ((List.length s) : Int)) (anyIx (cut s (7 : Int) ((List.length s) : Int)) ((47 : UInt8) :: ((63 : UInt8) :: ([] : Bytes)))) ((List.length (cut s (7 : Int) ((List.length s) : Int))) : Int)) ((63 : UInt8) :: ([] : Bytes))).2.2) :: ([] : List AV))))))) :: ((AV.bool true) :: ([] : List AV)))) ([] : List Ob))) Br.fail) (Br.ite (isM (cutP (cut (cut s (7 : Int) ((List.length s) : Int)) (anyIx (cut s (7 : Int) ((List.length s) : Int)) ((47 : UInt8) :: ((63 : UInt8) :: ([] : Bytes)))) ((List.length (cut s (7 : Int) ((List.length s) : Int))) : Int)) ((63 : UInt8) :: ([] : Bytes))).1) (Br.ite (((isM (foldP (cutP (cut (cut s (7 : Int) ((List.length s) : Int)) (0 : Int) (anyIx (cut s (7 : Int) ((List.length s) : Int)) ((47 : UInt8) :: ((63 : UInt8) :: ([] : Bytes))))) ((58 : UInt8) :: ([] : Bytes))).1)) && (isM (cleanP (cutP (cut (cut s (7 : Int) ((List.length s) : Int)) (anyIx (cut s (7 : Int) ((List.length s) : Int)) ((47 : UInt8) :: ((63 : UInt8) :: ([] : Bytes)))) ((List.length (cut s (7 : Int) ((List.length s) : Int))) : Int)) ((63 : UInt8) :: ([] : Bytes))).1))) && (isM (cutP (cut (cut s (7 : Int) ((List.length s) : Int)) (anyIx (cut s (7 : Int) ((List.length s) : Int)) ((47 : UInt8) :: ((63 : UInt8) :: ([] : Bytes)))) ((List.length (cut s (7 : Int) ((List.length s) : Int))) : Int)) ((63 : UInt8) :: ([] : Bytes))).2.1)) (Br.ite (!(urlOkP (foldP (cutP (cut (cut s (7 : Int) ((List.length s) : Int)) (0 : Int) (anyIx (cut s (7 : Int) ((List.length s) : Int)) ((47 : UInt8) :: ((63 : UInt8) :: ([] : Bytes))))) ((58 : UInt8) :: ([] : Bytes))).1) (80 : Int) (cleanP (cutP (cut (cut s (7 : Int) ((List.length s) : Int)) (anyIx (cut s (7 : Int) ((List.length s) : Int)) ((47 : UInt8) :: ((63 : UInt8) :: ([] : Bytes)))) ((List.length (cut s (7 : Int) ((List.length s) : Int))) : Int)) ((63 : UInt8) :: ([] : Bytes))).1) (cutP (cut (cut s (7 : Int) ((List.length s) : Int)) (anyIx (cut s (7 : Int) ((List.length s) : Int)) ((47 : UInt8) :: ((63 : UInt8) :: ([] : Bytes)))) ((List.length (cut s (7 : Int) ((List.length s) : Int))) : Int)) ((63 : UInt8) :: ([] : Bytes))).2.1 (cutP (cut (cut s (7 : Int) ((List.length s) : Int)) (anyIx (cut s (7 : Int) ((List.length s) : Int)) ((47 : UInt8) :: ((63 : UInt8) :: ([] : Bytes)))) ((List.length (cut s (7 : Int) ((List.length s) : Int))) : Int)) ((63 : UInt8) :: ([] : Bytes))).2.2)) (Br.ret (AV.tup ((AV.agg ((AV.str ([] : Bytes)) :: ((AV.int .i64 (0 : Int)) :: ((AV.str ([] : Bytes)) :: ((AV.str ([] : Bytes)) :: ((AV.bool false) :: ([] : List AV))))))) :: ((AV.bool false) :: ([] : List AV)))) ([] : List Ob)) (Br.ret (AV.tup ((AV.agg ((AV.str (foldP (cutP (cut (cut s (7 : Int) ((List.length s) : Int)) (0 : Int) (anyIx (cut s (7 : Int) ((List.length s) : Int)) ((47 : UInt8) :: ((63 : UInt8) :: ([] : Bytes))))) ((58 : UInt8) :: ([] : Bytes))).1)) :: ((AV.int .i64 (80 : Int)) :: ((AV.str (cleanP (cutP (cut (cut s (7 : Int) ((List.length s) : Int)) (anyIx (cut s (7 : Int) ((List.length s) : Int)) ((47 : UInt8) :: ((63 : UInt8) :: ([] : Bytes)))) ((List.length (cut s (7 : Int) ((List.length s) : Int))) : Int)) ((63 : UInt8) :: ([] : Bytes))).1)) :: ((AV.str (cutP (cut (cut s (7 : Int) ((List.length s) : Int)) (anyIx (cut s (7 : Int) ((List.length s) : Int)) ((47 : UInt8) :: ((63 : UInt8) :: ([] : Bytes)))) ((List.length (cut s (7 : Int) ((List.length s) : Int))) : Int)) ((63 : UInt8) :: ([] : Bytes))).2.1) :: ((AV.bool (cutP (cut (cut s (7 : Int) ((List.length s) : Int)) (anyIx (cut s (7 : Int) ((List.length s) : Int)) ((47 : UInt8) :: ((63 : UInt8) :: ([] : Bytes)))) ((List.length (cut s (7 : Int) ((List.length s) : Int))) : Int)) ((63 : UInt8) :: ([] : Bytes))).2.2) :: ([] : List AV))))))) :: ((AV.bool true) :: ([] : List AV)))) ([] : List Ob))) Br.fail) Br.fail))) Br.fail) Br.fail) Br.fail) Br.fail) Br.fail) Br.fail) Br.fail)) Br.fail) Br.fail)) Br.fail) Br.fail)))) Br.fail))
theorem iReadUrl_run (s : Bytes) : runF Kx iReadUrl_C iReadUrl_O 1 Tryz.f160 ([.str s]) ([]) = (iReadUrl_br s).val := by kernel_rfl
def iReadUrl_s : List AV → List Ob → Br
  | [.str s], [] => iReadUrl_br s
  | _, _ => .fail
theorem iReadUrl_ok : Sound Kx 160 iReadUrl_s := by
  refine sound_run (C := iReadUrl_C) (O := iReadUrl_O) KOk iReadUrl_C_ok Tryz.func160 (by kernel_rfl) fun args objs res os h => ?_
  unfold iReadUrl_s at h
  split at h
  · exact ⟨1, (iReadUrl_run _).trans h⟩
  · cases h

def sReadUrl_O : Opt := { cons := [], keepNil := false, mutF := [], live := [], outs := [], split := true }
def sReadUrl_C : Spec := (add (add (add (add (add (add noS 157 (t1_s fun s => .bool (allP isVis s && decide ((0 : Int) < (s.length : Int))))) 200 up_s) 106 (t1_s fun s => .str (foldP s))) 201 rd_s) 202 (t1_s fun s => .str (cleanP s))) 203 uk_s)
theorem sReadUrl_C_ok : ∀ fn, Sound Kx fn (sReadUrl_C fn) := (sound_add (sound_add (sound_add (sound_add (sound_add (sound_add (sound_no Kx) svis_okQ) supto_okQ) sfold_okQ) sReadDec_okQ) sClean_okQ) sUrlOk_okQ)
def sReadUrl_br (s : Bytes) : Br := (Br.ite (decide ((200 : Int) < ((List.length s) : Int))) (Br.ret (AV.tup ((AV.agg ((AV.str ([] : Bytes)) :: ((AV.int .i64 (0 : Int)) :: ((AV.str ([] : Bytes)) :: ((AV.str ([] : Bytes)) :: ((AV.bool false) :: ([] : List AV))))))) :: ((AV.bool false) :: ([] : List AV)))) ([] : List Ob)) (Br.ite (decide (((List.length s) : Int) < (8 : Int))) (Br.ret (AV.tup ((AV.agg ((AV.str ([] : Bytes)) :: ((AV.int .i64 (0 : Int)) :: ((AV.str ([] : Bytes)) :: ((AV.str ([] : Bytes)) :: ((AV.bool false) :: ([] : List AV))))))) :: ((AV.bool false) :: ([] : List AV)))) ([] : List Ob)) (Br.ite (isM s) (Br.ite (!((allP isVis s) && (decide ((0 : Int) < ((List.length s) : Int))))) (Br.ret (AV.tup ((AV.agg ((AV.str ([] : Bytes)) :: ((AV.int .i64 (0 : Int)) :: ((AV.str ([] : Bytes)) :: ((AV.str ([] : Bytes)) :: ((AV.bool false) :: ([] : List AV))))))) :: ((AV.bool false) :: ([] : List AV)))) ([] : List Ob)) (Br.ite (isM s) (Br.ite (!(decide ((uptoP s (35 : Int)) = s))) (Br.ret (AV.tup ((AV.agg ((AV.str ([] : Bytes)) :: ((AV.int .i64 (0 : Int)) :: ((AV.str ([] : Bytes)) :: ((AV.str ([] : Bytes)) :: ((AV.bool false) :: ([] : List AV))))))) :: ((AV.bool false) :: ([] : List AV)))) ([] : List Ob)) (Br.ite (decide ((7 : Int) ≤ ((List.length s) : Int))) (Br.ite (isM (cut s (0 : Int) (7 : Int))) (Br.ite (!(decide ((foldP (cut s (0 : Int) (7 : Int))) = ((104 : UInt8) :: ((116 : UInt8) :: ((116 : UInt8) :: ((112 : UInt8) :: ((58 : UInt8) :: ((47 : UInt8) :: ((47 : UInt8) :: ([] : Bytes))))))))))) (Br.ret (AV.tup ((AV.agg ((AV.str ([] : Bytes)) :: ((AV.int .i64 (0 : Int)) :: ((AV.str ([] : Bytes)) :: ((AV.str ([] : Bytes)) :: ((AV.bool false) :: ([] : List AV))))))) :: ((AV.bool false) :: ([] : List AV)))) ([] : List Ob)) (Br.ite (decide ((7 : Int) ≤ ((List.length s) : Int))) (Br.ite (isM (cut s (7 : Int) ((List.length s) : Int))) (Br.ite (isM (uptoP (cut s (7 : Int) ((List.length s) : Int)) (63 : Int))) (Br.ite (isM (uptoP (uptoP (cut s (7 : Int) ((List.length s) : Int)) (63 : Int)) (47 : Int))) (Br.ite (isM (uptoP (uptoP (uptoP (cut s (7 : Int) ((List.length s) : Int)) (63 : Int)) (47 : Int)) (58 : Int))) (Br.ite (decide (((List.length (uptoP (uptoP (uptoP (cut s (7 : Int) ((List.length s) : Int)) (63 : Int)) (47 : Int)) (58 : Int))) : Int) < ((List.length (uptoP (uptoP (cut s (7 : Int) ((List.length s) : Int)) (63 : Int)) (47 : Int))) : Int))) (Br.ite (decide ((0 : Int) ≤ (wk64 (((List.length (uptoP (uptoP (uptoP (cut s (7 : Int) ((List.length s) : Int)) (63 : Int)) (47 : Int)) (58 : Int))) : Int) + (1 : Int))))) (Br.ite (decide ((wk64 (((List.length (uptoP (uptoP (uptoP (cut s (7 : Int) ((List.length s) : Int)) (63 : Int)) (47 : Int)) (58 : Int))) : Int) + (1 : Int))) ≤ ((List.length (uptoP (uptoP (cut s (7 : Int) ((List.length s) : Int)) (63 : Int)) (47 : Int))) : Int))) (Br.ite (!(decR (cut (uptoP (uptoP (cut s (7 : Int) ((List.length s) : Int)) (63 : Int)) (47 : Int)) (wk64 (((List.length (uptoP (uptoP (uptoP (cut s (7 : Int) ((List.length s) : Int)) (63 : Int)) (47 : Int)) (58 : Int))) : Int) + (1 : Int))) ((List.length (uptoP (uptoP (cut s (7 : Int) ((List.length s) : Int)) (63 : Int)) (47 : Int))) : Int))).2) (Br.ret (AV.tup ((AV.agg ((AV.str ([] : Bytes)) :: ((AV.int .i64 (0 : Int)) :: ((AV.str ([] : Bytes)) :: ((AV.str ([] : Bytes)) :: ((AV.bool false) :: ([] : List AV))))))) :: ((AV.bool false) :: ([] : List AV)))) ([] : List Ob)) (Br.ite (decide (((List.length (uptoP (uptoP (cut s (7 : Int) ((List.length s) : Int)) (63 : Int)) (47 : Int))) : Int) < ((List.length (uptoP (cut s (7 : Int) ((List.length s) : Int)) (63 : Int))) : Int))) (Br.ite (decide ((0 : Int) ≤ ((List.length (uptoP (uptoP (cut s (7 : Int) ((List.length s) : Int)) (63 : Int)) (47 : Int))) : Int))) (Br.ite (decide (((List.length (uptoP (uptoP (cut s (7 : Int) ((List.length s) : Int)) (63 : Int)) (47 : Int))) : Int) ≤ ((List.length (uptoP (cut s (7 : Int) ((List.length s) : Int)) (63 : Int))) : Int))) (Br.ite (isM (cut (uptoP (cut s (7 : Int) ((List.length s) : Int)) (63 : Int)) ((List.length (uptoP (uptoP (cut s (7 : Int) ((List.length s) : Int)) (63 : Int)) (47 : Int))) : Int) ((List.length (uptoP (cut s (7 : Int) ((List.length s) : Int)) (63 : Int))) : Int))) (Br.ite (decide (((List.length (uptoP (cut s (7 : Int) ((List.length s) : Int)) (63 : Int))) : Int) < ((List.length (cut s (7 : Int) ((List.length s) : Int))) : Int))) (Br.ite (decide ((0 : Int) ≤ (wk64 (((List.length (uptoP (cut s (7 : Int) ((List.length s) : Int)) (63 : Int))) : Int) + (1 : Int))))) (Br.ite (decide ((wk64 (((List.length (uptoP (cut s (7 : Int) ((List.length s) : Int)) (63 : Int))) : Int) + (1 : Int))) ≤ ((List.length (cut s (7 : Int) ((List.length s) : Int))) : Int))) (Br.ite (((isM (foldP (uptoP (uptoP (uptoP (cut s (7 : Int) ((List.length s) : Int)) (63 : Int)) (47 : Int)) (58 : Int)))) && (isM (cleanP (cut (uptoP (cut s (7 : Int) ((List.length s) : Int)) (63 : Int)) ((List.length (uptoP (uptoP (cut s (7 : Int) ((List.length s) : Int)) (63 : Int)) (47 : Int))) : Int) ((List.length (uptoP (cut s (7 : Int) ((List.length s) : Int)) (63 : Int))) : Int))))) && (isM (cut (cut s (7 : Int) ((List.length s) : Int)) (wk64 (((List.length (uptoP (cut s (7 : Int) ((List.length s) : Int)) (63 : Int))) : Int) + (1 : Int))) ((List.length (cut s (7 : Int) ((List.length s) : Int))) : Int)))) (Br.ite (!(urlOkP (foldP (uptoP (uptoP (uptoP (cut s (7 : Int) ((List.length s) : Int)) (63 : Int)) (47 : Int)) (58 : Int))) (decR (cut (uptoP (uptoP (cut s (7 : Int) ((List.length s) : Int)) (63 : Int)) (47 : Int)) (wk64 (((List.length (uptoP (uptoP (uptoP (cut s (7 : Int) ((List.length s) : Int)) (63 : Int)) (47 : Int)) (58 : Int))) : Int) + (1 : Int))) ((List.length (uptoP (uptoP (cut s (7 : Int) ((List.length s) : Int)) (63 : Int)) (47 : Int))) : Int))).1 (cleanP (cut (uptoP (cut s (7 : Int) ((List.length s) : Int)) (63 : Int)) ((List.length (uptoP (uptoP (cut s (7 : Int) ((List.length s) : Int)) (63 : Int)) (47 : Int))) : Int) ((List.length (uptoP (cut s (7 : Int) ((List.length s) : Int)) (63 : Int))) : Int))) (cut (cut s (7 : Int) ((List.length s) : Int)) (wk64 (((List.length (uptoP (cut s (7 : Int) ((List.length s) : Int)) (63 : Int))) : Int) + (1 : Int))) ((List.length (cut s (7 : Int) ((List.length s) : Int))) : Int)) true)) (Br.ret (AV.tup ((AV.agg ((AV.str ([] : Bytes)) :: ((AV.int .i64 (0 : Int)) :: ((AV.str ([] : Bytes)) :: ((AV.str ([] : Bytes)) :: ((AV.bool false) :: ([] : List AV))))))) :: ((AV.bool false) :: ([] : List AV)))) ([] : List Ob)) (Br.ret (AV.tup ((AV.agg ((AV.str (foldP (uptoP (uptoP (uptoP (cut s (7 : Int) ((List.length s) : Int)) (63 : Int)) (47 : Int)) (58 : Int)))) :: ((AV.int .i64 (decR (cut (uptoP (uptoP (cut s (7 : Int) ((List.length s) : Int)) (63 : Int)) (47 : Int)) (wk64 (((List.length (uptoP (uptoP (uptoP (cut s (7 : Int) ((List.length s) : Int)) (63 : Int)) (47 : Int)) (58 : Int))) : Int) + (1 : Int))) ((List.length (uptoP (uptoP (cut s (7 : Int) ((List.length s) : Int)) (63 : Int)) (47 : Int))) : Int))).1) :: ((AV.str (cleanP (cut (uptoP (cut s (7 : Int) ((List.length s) : Int)) (63 : Int)) ((List.length (uptoP (uptoP (cut s (7 : Int) ((List.length s) : Int)) (63 : Int)) (47 : Int))) : Int) ((List.length (uptoP (cut s (7 : Int) ((List.length s) : Int)) (63 : Int))) : Int)))) :: ((AV.str (cut (cut s (7 : Int) ((List.length s) : Int)) (wk64 (((List.length (uptoP (cut s (7 : Int) ((List.length s) : Int)) (63 : Int))) : Int) + (1 : Int))) ((List.length (cut s (7 : Int) ((List.length s) : Int))) : Int))) :: ((AV.bool true) :: ([] : List AV))))))) :: ((AV.bool true) :: ([] : List AV)))) ([] : List Ob))) Br.fail) Br.fail) Br.fail) (Br.ite (((isM (foldP (uptoP (uptoP (uptoP (cut s (7 : Int) ((List.length s) : Int)) (63 : Int)) (47 : Int)) (58 : Int)))) && (isM (cleanP (cut (uptoP (cut s (7 : Int) ((List.length s) : Int)) (63 : Int)) ((List.length (uptoP (uptoP (cut s (7 : Int) ((List.length s) : Int)) (63 : Int)) (47 : Int))) : Int) ((List.length (uptoP (cut s (7 : Int) ((List.length s) : Int)) (63 : Int))) : Int))))) && true) (Br.ite (!(urlOkP (foldP (uptoP (uptoP (uptoP (cut s (7 : Int) ((List.length s) : Int)) (63 : Int)) (47 : Int)) (58 : Int))) (decR (cut (uptoP (uptoP (cut s (7 : Int) ((List.length s) : Int)) (63 : Int)) (47 : Int)) (wk64 (((List.length (uptoP (uptoP (uptoP (cut s (7 : Int) ((List.length s) : Int)) (63 : Int)) (47 : Int)) (58 : Int))) : Int) + (1 : Int))) ((List.length (uptoP (uptoP (cut s (7 : Int) ((List.length s) : Int)) (63 : Int)) (47 : Int))) : Int))).1 (cleanP (cut (uptoP (cut s (7 : Int) ((List.length s) : Int)) (63 : Int)) ((List.length (uptoP (uptoP (cut s (7 : Int) ((List.length s) : Int)) (63 : Int)) (47 : Int))) : Int) ((List.length (uptoP (cut s (7 : Int) ((List.length s) : Int)) (63 : Int))) : Int))) ([] : Bytes) false)) (Br.ret (AV.tup ((AV.agg ((AV.str ([] : Bytes)) :: ((AV.int .i64 (0 : Int)) :: ((AV.str ([] : Bytes)) :: ((AV.str ([] : Bytes)) :: ((AV.bool false) :: ([] : List AV))))))) :: ((AV.bool false) :: ([] : List AV)))) ([] : List Ob)) (Br.ret (AV.tup ((AV.agg ((AV.str (foldP (uptoP (uptoP (uptoP (cut s (7 : Int) ((List.length s) : Int)) (63 : Int)) (47 : Int)) (58 : Int)))) :: ((AV.int .i64 (decR (cut (uptoP (uptoP (cut s (7 : Int) ((List.length s) : Int)) (63 : Int)) (47 : Int)) (wk64 (((List.length (uptoP (uptoP (uptoP (cut s (7 : Int) ((List.length s) : Int)) (63 : Int)) (47 : Int)) (58 : Int))) : Int) + (1 : Int))) ((List.length (uptoP (uptoP (cut s (7 : Int) ((List.length s) : Int)) (63 : Int)) (47 : Int))) : Int))).1) :: ((AV.str (cleanP (cut (uptoP (cut s (7 : Int) ((List.length s) : Int)) (63 : Int)) ((List.length (uptoP (uptoP (cut s (7 : Int) ((List.length s) : Int)) (63 : Int)) (47 : Int))) : Int) ((List.length (uptoP (cut s (7 : Int) ((List.length s) : Int)) (63 : Int))) : Int)))) :: ((AV.str ([] : Bytes)) :: ((AV.bool false) :: ([] : List AV))))))) :: ((AV.bool true) :: ([] : List AV)))) ([] : List Ob))) Br.fail)) Br.fail) Br.fail) Br.fail) (Br.ite (decide (((List.length (uptoP (cut s (7 : Int) ((List.length s) : Int)) (63 : Int))) : Int) < ((List.length (cut s (7 : Int) ((List.length s) : Int))) : Int))) (Br.ite (decide ((0 : Int) ≤ (wk64 (((List.length (uptoP (cut s (7 : Int) ((List.length s) : Int)) (63 : Int))) : Int) + (1 : Int))))) (Br.ite (decide ((wk64 (((List.length (uptoP (cut s (7 : Int) ((List.length s) : Int)) (63 : Int))) : Int) + (1 : Int))) ≤ ((List.length (cut s (7 : Int) ((List.length s) : Int))) : Int))) (Br.ite (((isM (foldP (uptoP (uptoP (uptoP (cut s (7 : Int) ((List.length s) : Int)) (63 : Int)) (47 : Int)) (58 : Int)))) && true) && (isM (cut (cut s (7 : Int) ((List.length s) : Int)) (wk64 (((List.length (uptoP (cut s (7 : Int) ((List.length s) : Int)) (63 : Int))) : Int) + (1 : Int))) ((List.length (cut s (7 : Int) ((List.length s) : Int))) : Int)))) (Br.ite (!(urlOkP (foldP (uptoP (uptoP (uptoP (cut s (7 : Int) ((List.length s) : Int)) (63 : Int)) (47 : Int)) (58 : Int))) (decR (cut (uptoP (uptoP (cut s (7 : Int) ((List.length s) : Int)) (63 : Int)) (47 : Int)) (wk64 (((List.length (uptoP (uptoP (uptoP (cut s (7 : Int) ((List.length s) : Int)) (63 : Int)) (47 : Int)) (58 : Int))) : Int) + (1 : Int))) ((List.length (uptoP (uptoP (cut s (7 : Int) ((List.length s) : Int)) (63 : Int)) (47 : Int))) : Int))).1 ((47 : UInt8) :: ([] : Bytes)) (cut (cut s (7 : Int) ((List.length s) : Int)) (wk64 (((List.length (uptoP (cut s (7 : Int) ((List.length s) : Int)) (63 : Int))) : Int) + (1 : Int))) ((List.length (cut s (7 : Int) ((List.length s) : Int))) : Int)) true)) (Br.ret (AV.tup ((AV.agg ((AV.str ([] : Bytes)) :: ((AV.int .i64 (0 : Int)) :: ((AV.str ([] : Bytes)) :: ((AV.str ([] : Bytes)) :: ((AV.bool false) :: ([] : List AV))))))) :: ((AV.bool false) :: ([] : List AV)))) ([] : List Ob)) (Br.ret (AV.tup ((AV.agg ((AV.str (foldP (uptoP (uptoP (uptoP (cut s (7 : Int) ((List.length s) : Int)) (63 : Int)) (47 : Int)) (58 : Int)))) :: ((AV.int .i64 (decR (cut (uptoP (uptoP (cut s (7 : Int) ((List.length s) : Int)) (63 : Int)) (47 : Int)) (wk64 (((List.length (uptoP (uptoP (uptoP (cut s (7 : Int) ((List.length s) : Int)) (63 : Int)) (47 : Int)) (58 : Int))) : Int) + (1 : Int))) ((List.length (uptoP (uptoP (cut s (7 : Int) ((List.length s) : Int)) (63 : Int)) (47 : Int))) : Int))).1) :: ((AV.str ((47 : UInt8) :: ([] : Bytes))) :: ((AV.str (cut (cut s (7 : Int) ((List.length s) : Int)) (wk64 (((List.length (uptoP (cut s (7 : Int) ((List.length s) : Int)) (63 : Int))) : Int) + (1 : Int))) ((List.length (cut s (7 : Int) ((List.length s) : Int))) : Int))) :: ((AV.bool true) :: ([] : List AV))))))) :: ((AV.bool true) :: ([] : List AV)))) ([] : List Ob))) Br.fail) Br.fail) Br.fail) (Br.ite (((isM (foldP (uptoP (uptoP (uptoP (cut s (7 : Int) ((List.length s) : Int)) (63 : Int)) (47 : Int)) (58 : Int)))) && true) && true) (Br.ite (!(urlOkP (foldP (uptoP (uptoP (uptoP (cut s (7 : Int) ((List.length s) : Int)) (63 : Int)) (47 : Int)) (58 : Int))) (decR (cut (uptoP (uptoP (cut s (7 : Int) ((List.length s) : Int)) (63 : Int)) (47 : Int)) (wk64 (((List.length (uptoP (uptoP (uptoP (cut s (7 : Int) ((List.length s) : Int)) (63 : Int)) (47 : Int)) (58 : Int))) : Int) + (1 : Int))) ((List.length (uptoP (uptoP (cut s (7 : Int) ((List.length s) : Int)) (63 : Int)) (47 : Int))) : Int))).1 ((47 : UInt8) :: ([] : Bytes)) ([] : Bytes) false)) (Br.ret (AV.tup ((AV.agg ((AV.str ([] : Bytes)) :: ((AV.int .i64 (0 : Int)) :: ((AV.str ([] : Bytes)) :: ((AV.str ([] : Bytes)) :: ((AV.bool false) :: ([] : List AV))))))) :: ((AV.bool false) :: ([] : List AV)))) ([] : List Ob)) (Br.ret (AV.tup ((AV.agg ((AV.str (foldP (uptoP (uptoP (uptoP (cut s (7 : Int) ((List.length s) : Int)) (63 : Int)) (47 : Int)) (58 : Int)))) :: ((AV.int .i64 (decR (cut (uptoP (uptoP (cut s (7 : Int) ((List.length s) : Int)) (63 : Int)) (47 : Int)) (wk64 (((List.length (uptoP (uptoP (uptoP (cut s (7 : Int) ((List.length s) : Int)) (63 : Int)) (47 : Int)) (58 : Int))) : Int) + (1 : Int))) ((List.length (uptoP (uptoP (cut s (7 : Int) ((List.length s) : Int)) (63 : Int)) (47 : Int))) : Int))).1) :: ((AV.str ((47 : UInt8) :: ([] : Bytes))) :: ((AV.str ([] : Bytes)) :: ((AV.bool false) :: ([] : List AV))))))) :: ((AV.bool true) :: ([] : List AV)))) ([] : List Ob))) Br.fail)))) Br.fail) Br.fail) (Br.ite (decide (((List.length (uptoP (uptoP (cut s (7 : Int) ((List.length s) : Int)) (63 : Int)) (47 : Int))) : Int) < ((List.length (uptoP (cut s (7 : Int) ((List.length s) : Int)) (63 : Int))) : Int))) (Br.ite (decide ((0 : Int) ≤ ((List.length (uptoP (uptoP (cut s (7 : Int) ((List.length s) : Int)) (63 : Int)) (47 : Int))) : Int))) (Br.ite (decide (((List.length (uptoP (uptoP (cut s (7 : Int) ((List.length s) : Int)) (63 : Int)) (47 : Int))) : Int) ≤ ((List.length (uptoP (cut s (7 : Int) ((List.length s) : Int)) (63 : Int))) : Int))) (Br.ite (isM (cut (uptoP (cut s (7 : Int) ((List.length s) : Int)) (63 : Int)) ((List.length (uptoP (uptoP (cut s (7 : Int) ((List.length s) : Int)) (63 : Int)) (47 : Int))) : Int) ((List.length (uptoP (cut s (7 : Int) ((List.length s) : Int)) (63 : Int))) : Int))) (Br.ite (decide (((List.length (uptoP (cut s (7 : Int) ((List.length s) : Int)) (63 : Int))) : Int) < ((List.length (cut s (7 : Int) ((List.length s) : Int))) : Int))) (Br.ite (decide ((0 : Int) ≤ (wk64 (((List.length (uptoP (cut s (7 : Int) ((List.length s) : Int)) (63 : Int))) : Int) + (1 : Int))))) (Br.ite (decide ((wk64 (((List.length (uptoP (cut s (7 : Int) ((List.length s) : Int)) (63 : Int))) : Int) + (1 : Int))) ≤ ((List.length (cut s (7 : Int) ((List.length s) : Int))) : Int))) (Br.ite (((isM (foldP (uptoP (uptoP (uptoP (cut s (7 : Int) ((List.length s) : Int)) (63 : Int)) (47 : Int)) (58 : Int)))) && (isM (cleanP (cut (uptoP (cut s (7 : Int) ((List.length s) : Int)) (63 : Int)) ((List.length (uptoP (uptoP (cut s (7 : Int) ((List.length s) : Int)) (63 : Int)) (47 : Int))) : Int) ((List.length (uptoP (cut s (7 : Int) ((List.length s) : Int)) (63 : Int))) : Int))))) && (isM (cut (cut s (7 : Int) ((List.length s) : Int)) (wk64 (((List.length (uptoP (cut s (7 : Int) ((List.length s) : Int)) (63 : Int))) : Int) + (1 : Int))) ((List.length (cut s (7 : Int) ((List.length s) : Int))) : Int)))) (Br.ite (!(urlOkP (foldP (uptoP (uptoP (uptoP (cut s (7 : Int) ((List.length s) : Int)) (63 : Int)) (47 : Int)) (58 : Int))) (80 : Int) (cleanP (cut (uptoP (cut s (7 : Int) ((List.length s) : Int)) (63 : Int)) ((List.length (uptoP (uptoP (cut s (7 : Int) ((List.length s) : Int)) (63 : Int)) (47 : Int))) : Int) ((List.length (uptoP (cut s (7 : Int) ((List.length s) : Int)) (63 : Int))) : Int))) (cut (cut s (7 : Int) ((List.length s) : Int)) (wk64 (((List.length (uptoP (cut s (7 : Int) ((List.length s) : Int)) (63 : Int))) : Int) + (1 : Int))) ((List.length (cut s (7 : Int) ((List.length s) : Int))) : Int)) true)) (Br.ret (AV.tup ((AV.agg ((AV.str ([] : Bytes)) :: ((AV.int .i64 (0 : Int)) :: ((AV.str ([] : Bytes)) :: ((AV.str ([] : Bytes)) :: ((AV.bool false) :: ([] : List AV))))))) :: ((AV.bool false) :: ([] : List AV)))) ([] : List Ob)) (Br.ret (AV.tup ((AV.agg ((AV.str (foldP (uptoP (uptoP (uptoP (cut s (7 : Int) ((List.length s) : Int)) (63 : Int)) (47 : Int)) (58 : Int)))) :: ((AV.int .i64 (80 : Int)) :: ((AV.str (cleanP (cut (uptoP (cut s (7 : Int) ((List.length s) : Int)) (63 : Int)) ((List.length (uptoP (uptoP (cut s (7 : Int) ((List.length s) : Int)) (63 : Int)) (47 : Int))) : Int) ((List.length (uptoP (cut s (7 : Int) ((List.length s) : Int)) (63 : Int))) : Int)))) :: ((AV.str (cut (cut s (7 : Int) ((List.length s) : Int)) (wk64 (((List.length (uptoP (cut s (7 : Int) ((List.length s) : Int)) (63 : Int))) : Int) + (1 : Int))) ((List.length (cut s (7 : Int) ((List.length s) : Int))) : Int))) :: ((AV.bool true) :: ([] : List AV))))))) :: ((AV.bool true) :: ([] : List AV)))) ([] : List Ob))) Br.fail) Br.fail) Br.fail) (Br.ite (((isM (foldP (uptoP (uptoP (uptoP (cut s (7 : Int) ((List.length s) : Int)) (63 : Int)) (47 : Int)) (58 : Int)))) && (isM (cleanP (cut (uptoP (cut s (7 : Int) ((List.length s) : Int)) (63 : Int)) ((List.length (uptoP (uptoP (cut s (7 : Int) ((List.length s) : Int)) (63 : Int)) (47 : Int))) : Int) ((List.length (uptoP (cut s (7 : Int) ((List.length s) : Int)) (63 : Int))) : Int))))) && true) (Br.ite (!(urlOkP (foldP (uptoP (uptoP (uptoP (cut s (7 : Int) ((List.length s) : Int)) (63 : Int)) (47 : Int)) (58 : Int))) (80 : Int) (cleanP (cut (uptoP (cut s (7 : Int) ((List.length s) : Int)) (63 : Int)) ((List.length (uptoP (uptoP (cut s (7 : Int) ((List.length s) : Int)) (63 : Int)) (47 : Int))) : Int) ((List.length (uptoP (cut s (7 : Int) ((List.length s) : Int)) (63 : Int))) : Int))) ([] : Bytes) false)) (Br.ret (AV.tup ((AV.agg ((AV.str ([] : Bytes)) :: ((AV.int .i64 (0 : Int)) :: ((AV.str ([] : Bytes)) :: ((AV.str ([] : Bytes)) :: ((AV.bool false) :: ([] : List AV))))))) :: ((AV.bool false) :: ([] : List AV)))) ([] : List Ob)) (Br.ret (AV.tup ((AV.agg ((AV.str (foldP (uptoP (uptoP (uptoP (cut s (7 : Int) ((List.length s) : Int)) (63 : Int)) (47 : Int)) (58 : Int)))) :: ((AV.int .i64 (80 : Int)) :: ((AV.str (cleanP (cut (uptoP (cut s (7 : Int) ((List.length s) : Int)) (63 : Int)) ((List.length (uptoP (uptoP (cut s (7 : Int) ((List.length s) : Int)) (63 : Int)) (47 : Int))) : Int) ((List.length (uptoP (cut s (7 : Int) ((List.length s) : Int)) (63 : Int))) : Int)))) :: ((AV.str ([] : Bytes)) :: ((AV.bool false) :: ([] : List AV))))))) :: ((AV.bool true) :: ([] : List AV)))) ([] : List Ob))) Br.fail)) Br.fail) Br.fail) Br.fail) (Br.ite (decide (((List.length (uptoP (cut s (7 : Int) ((List.length s) : Int)) (63 : Int))) : Int) < ((List.length (cut s (7 : Int) ((List.length s) : Int))) : Int))) (Br.ite (decide ((0 : Int) ≤ (wk64 (((List.length (uptoP (cut s (7 : Int) ((List.length s) : Int)) (63 : Int))) : Int) + (1 : Int))))) (Br.ite (decide ((wk64 (((List.length (uptoP (cut s (7 : Int) ((List.length s) : Int)) (63 : Int))) : Int) + (1 : Int))) ≤ ((List.length (cut s (7 : Int) ((List.length s) : Int))) : Int))) (Br.ite (((isM (foldP (uptoP (uptoP (uptoP (cut s (7 : Int) ((List.length s) : Int)) (63 : Int)) (47 : Int)) (58 : Int)))) && true) && (isM (cut (cut s (7 : Int) ((List.length s) : Int)) (wk64 (((List.length (uptoP (cut s (7 : Int) ((List.length s) : Int)) (63 : Int))) : Int) + (1 : Int))) ((List.length (cut s (7 : Int) ((List.length s) : Int))) : Int)))) (Br.ite (!(urlOkP (foldP (uptoP (uptoP (uptoP (cut s (7 : Int) ((List.length s) : Int)) (63 : Int)) (47 : Int)) (58 : Int))) (80 : Int) ((47 : UInt8) :: ([] : Bytes)) (cut (cut s (7 : Int) ((List.length s) : Int)) (wk64 (((List.length (uptoP (cut s (7 : Int) ((List.length s) : Int)) (63 : Int))) : Int) + (1 : Int))) ((List.length (cut s (7 : Int) ((List.length s) : Int))) : Int)) true)) (Br.ret (AV.tup ((AV.agg ((AV.str ([] : Bytes)) :: ((AV.int .i64 (0 : Int)) :: ((AV.str ([] : Bytes)) :: ((AV.str ([] : Bytes)) :: ((AV.bool false) :: ([] : List AV))))))) :: ((AV.bool false) :: ([] : List AV)))) ([] : List Ob)) (Br.ret (AV.tup ((AV.agg ((AV.str (foldP (uptoP (uptoP (uptoP (cut s (7 : Int) ((List.length s) : Int)) (63 : Int)) (47 : Int)) (58 : Int)))) :: ((AV.int .i64 (80 : Int)) :: ((AV.str ((47 : UInt8) :: ([] : Bytes))) :: ((AV.str (cut (cut s (7 : Int) ((List.length s) : Int)) (wk64 (((List.length (uptoP (cut s (7 : Int) ((List.length s) : Int)) (63 : Int))) : Int) + (1 : Int))) ((List.length (cut s (7 : Int) ((List.length s) : Int))) : Int))) :: ((AV.bool true) :: ([] : List AV))))))) :: ((AV.bool true) :: ([] : List AV)))) ([] : List Ob))) Br.fail) Br.fail) Br.fail) (Br.ite (((isM (foldP (uptoP (uptoP (uptoP (cut s (7 : Int) ((List.length s) : Int)) (63 : Int)) (47 : Int)) (58 : Int)))) && true) && true) (Br.ite (!(urlOkP (foldP (uptoP (uptoP (uptoP (cut s (7 : Int) ((List.length s) : Int)) (63 : Int)) (47 : Int)) (58 : Int))) (80 : Int) ((47 : UInt8) :: ([] : Bytes)) ([] : Bytes) false)) (Br.ret (AV.tup ((AV.agg ((AV.str ([] : Bytes)) :: ((AV.int .i64 (0 : Int)) :: ((AV.str ([] : Bytes)) :: ((AV.str ([] : Bytes)) :: ((AV.bool false) :: ([] : List AV))))))) :: ((AV.bool false) :: ([] : List AV)))) ([] : List Ob)) (Br.ret (AV.tup ((AV.agg ((AV.str (foldP (uptoP (uptoP (uptoP (cut s (7 : Int) ((List.length s) : Int)) (63 : Int)) (47 : Int)) (58 : Int)))) :: ((AV.int .i64 (80 : Int)) :: ((AV.str ((47 : UInt8) :: ([] : Bytes))) :: ((AV.str ([] : Bytes)) :: ((AV.bool false) :: ([] : List AV))))))) :: ((AV.bool true) :: ([] : List AV)))) ([] : List Ob))) Br.fail)))) Br.fail) Br.fail) Br.fail) Br.fail) Br.fail)) Br.fail) Br.fail)) Br.fail)) Br.fail)))
theorem sReadUrl_run (s : Bytes) : runF Kx sReadUrl_C sReadUrl_O 1 Tryz.f155 ([.str s]) ([]) = (sReadUrl_br s).val := by kernel_rfl
def sReadUrl_s : List AV → List Ob → Br
  | [.str s], [] => sReadUrl_br s
  | _, _ => .fail
theorem sReadUrl_ok : Sound Kx 155 sReadUrl_s := by
  refine sound_run (C := sReadUrl_C) (O := sReadUrl_O) KOk sReadUrl_C_ok Tryz.func155 (by kernel_rfl) fun args objs res os h => ?_
  unfold sReadUrl_s at h
  split at h
  · exact ⟨1, (sReadUrl_run _).trans h⟩
  · cases h

def sUrlText_O : Opt := { cons := [], keepNil := false, mutF := [], live := [], outs := [], split := true }
def sUrlText_C : Spec := (add (add noS 203 uk_s) 204 ut_s)
theorem sUrlText_C_ok : ∀ fn, Sound Kx fn (sUrlText_C fn) := (sound_add (sound_add (sound_no Kx) sUrlOk_okQ) sUrlT_okQ)
def sUrlText_br (h : Bytes) (po : Int) (pa q : Bytes) (hq : Bool) : Br := (Br.ite (((isM h) && (isM pa)) && (isM q)) (Br.ite (!(urlOkP h po pa q hq)) (Br.ret (AV.str ([] : Bytes)) ([] : List Ob)) (Br.ite (smU h po pa q) (Br.ret (AV.str (urlT h po pa q hq)) ([] : List Ob)) Br.fail)) Br.fail)
theorem sUrlText_run (h : Bytes) (po : Int) (pa q : Bytes) (hq : Bool) : runF Kx sUrlText_C sUrlText_O 1 Tryz.f156 ([.agg [.str h, .int .i64 po, .str pa, .str q, .bool hq]]) ([]) = (sUrlText_br h po pa q hq).val := by kernel_rfl
def sUrlText_s : List AV → List Ob → Br
  | [.agg [.str h, .int .i64 po, .str pa, .str q, .bool hq]], [] => sUrlText_br h po pa q hq
  | _, _ => .fail
theorem sUrlText_ok : Sound Kx 156 sUrlText_s := by
  refine sound_run (C := sUrlText_C) (O := sUrlText_O) KOk sUrlText_C_ok Tryz.func156 (by kernel_rfl) fun args objs res os h => ?_
  unfold sUrlText_s at h
  split at h
  · exact ⟨1, (sUrlText_run _ _ _ _ _).trans h⟩
  · cases h

end
end Go.Proofs.YtmmjaomfonknnaaGreatDoor.Ev

namespace Go.Proofs.YtmmjaomfonknnaaGreatDoor.Ev
open Go Go.RowKit
set_option linter.unusedVariables false
set_option linter.unusedSimpArgs false
noncomputable section

theorem upto_drop (b : Int) : ∀ (r : Bytes) (k : Nat), k ≤ (uptoP r b).length → uptoP (r.drop k) b = (uptoP r b).drop k
  | r, 0, _ => rfl
  | [], k + 1, h => by simp [uptoP] at h
  | x :: r, k + 1, h => by
    have ih := upto_drop b r k
    unfold uptoP at ih h ⊢
    rw [List.takeWhile_cons] at h ⊢
    cases c : decide (by8 x = b)
    · rw [c] at h
      simp only [Bool.not_false, if_true, List.length_cons] at h ⊢
      rw [List.drop_succ_cons, List.drop_succ_cons]
      exact ih (by omega)
    · rw [c] at h; simp at h
theorem cut_end {l : Bytes} {k : Nat} {i : Int} (h : i = (k : Int)) : cut l i (l.length : Int) = l.drop k := by
  subst h; unfold cut; simp
theorem cut_take {l : Bytes} {k : Nat} {i : Int} (h : i = (k : Int)) : cut l 0 i = l.take k := by
  subst h; unfold cut; simp
theorem nat_lt (a b : Nat) : decide ((a : Int) < (b : Int)) = decide (a < b) := by
  rw [Bool.eq_iff_iff, decide_eq_true_eq, decide_eq_true_eq]; omega
theorem clean_len (p : Bytes) : (cleanP p).length ≤ 1000 := by
  cases p with
  | nil => exact Nat.zero_le _
  | cons c r =>
    by_cases hc : c = 47
    · subst hc
      rw [cleanP_at]
      cases ho : pathOk (47 :: r)
      · exact Nat.zero_le _
      · unfold pathOk at ho
        simp only [Bool.and_eq_true, decide_eq_true_eq, List.length_cons] at ho
        have h1 := segs_bd r (by omega)
        have h2 := slash_segs (splP (pctP r) 47)
        have h3 := join_len (segsP (splP (pctP r) 47))
        simp only [cond_true, List.length_cons]; omega
    · rw [cleanP_not c r hc]; exact Nat.zero_le _
def urA (u : Ur) : AV := .agg [.str u.h, .int .i64 u.po, .str u.pa, .str u.q, .bool u.hq]
theorem readU_no {s : Bytes} (h : readOk s = false) : readUP s = (u0, false) := by unfold readUP; rw [h]; rfl
theorem readU_yes {s : Bytes} (h : readOk s = true) : readUP s = bif (portR (authP (s.drop 7))).2 && (urlR (s.drop 7)).ok then (urlR (s.drop 7), true) else (u0, false) := by
  unfold readUP; rw [h, Bool.true_and]
theorem readOk_parts (s : Bytes) : readOk s = (decide (s.length ≤ 200) && decide (7 ≤ s.length) && allP isVis s && !hasB s 35 && decide (foldP (s.take 7) = httpB)) := rfl
theorem urlR_nil : (urlR []).ok = false := by
  unfold urlR Ur.ok urlOkP
  have e : hostP (foldP (uptoP (authP []) 58)) = false := rfl
  simp only [e, Bool.false_and]
def ru_s : List AV → List Ob → Br := t1_s fun s => .tup [urA (readUP s).1, .bool (readUP s).2]
theorem sReadUrl_okQ : Sound Kx 155 ru_s := sReadUrl_ok.of fun args objs r h => by
  unfold ru_s t1_s at h
  split at h
  case h_2 => cases h
  rename_i s
  obtain ⟨hM, h2⟩ := ite_some h
  cases h2
  show (sReadUrl_br s).val = some (.tup [urA (readUP s).1, .bool (readUP s).2], [])
  unfold sReadUrl_br
  have hok := readOk_parts s
  cases d1 : decide ((200 : Int) < (s.length : Int))
  case true =>
    have := of_decide_eq_true d1
    rw [decide_eq_false (show ¬ s.length ≤ 200 by omega)] at hok
    rw [readU_no (by rw [hok]; rfl)]; rfl
  have d1' := of_decide_eq_false d1
  rw [decide_eq_true (show s.length ≤ 200 by omega)] at hok
  cases d2 : decide ((s.length : Int) < 8)
  case true =>
    have d2' := of_decide_eq_true d2
    refine (val_f rfl).trans ((val_t rfl).trans ?_)
    have : readUP s = (u0, false) := by
      cases hr : readOk s
      · exact readU_no hr
      · rw [readU_yes hr]
        rw [hok] at hr
        simp only [Bool.and_eq_true, decide_eq_true_eq] at hr
        have e : s.drop 7 = [] := List.drop_eq_nil_of_le (by omega)
        rw [e, urlR_nil, Bool.and_false]; rfl
    rw [this]; rfl
  have d2' := of_decide_eq_false d2
  rw [decide_eq_true (show 7 ≤ s.length by omega)] at hok
  rw [hM, upto_has, decide_eq_true (show (0 : Int) < (s.length : Int) by omega), decide_eq_true (show (7 : Int) ≤ (s.length : Int) by omega), show cut s 0 7 = s.take 7 from cut_take (k := 7) rfl, show cut s 7 (s.length : Int) = s.drop 7 from cut_end (k := 7) rfl]
  cases d3 : allP isVis s
  · rw [d3] at hok
    rw [readU_no (by rw [hok]; rfl)]; rfl
  rw [d3] at hok
  cases d4 : hasB s 35
  case true =>
    rw [d4] at hok
    rw [readU_no (by rw [hok]; rfl)]; rfl
  rw [d4] at hok
  have e7 : isM (s.take 7) = true := isM_of (n := 7) (by rw [List.length_take]; exact Nat.min_le_left _ _)
  rw [e7]
  cases d5 : decide (foldP (s.take 7) = [104, 116, 116, 112, 58, 47, 47])
  · rw [show decide (foldP (s.take 7) = httpB) = false from d5] at hok
    rw [readU_no (by rw [hok]; rfl)]; rfl
  rw [show decide (foldP (s.take 7) = httpB) = true from d5] at hok
  rw [readU_yes (by rw [hok]; rfl)]
  generalize hr : s.drop 7 = r
  have hrl : r.length ≤ 200 := by rw [← hr, List.length_drop]; omega
  refine (val_f rfl).trans ((val_f rfl).trans ((val_t rfl).trans ((val_f rfl).trans ((val_t rfl).trans ((val_f rfl).trans ((val_t rfl).trans ((val_t rfl).trans ((val_f rfl).trans ((val_t rfl).trans ?_)))))))))
  unfold urlR pathR portR authP frontP Ur.ok urA
  have lF := upto_le r 63
  generalize hF : uptoP r 63 = F at lF
  have lA := upto_le F 47
  generalize hA : uptoP F 47 = A at lA
  have lH := upto_le A 58
  generalize hH : uptoP A 58 = H at lH
  have w1 : wk64 ((H.length : Int) + 1) = ((H.length + 1 : Nat) : Int) := by rw [w64 (by omega) (by omega)]; rfl
  have w2 : wk64 ((F.length : Int) + 1) = ((F.length + 1 : Nat) : Int) := by rw [w64 (by omega) (by omega)]; rfl
  have m1 : isM r = true := isM_of (n := 200) (by omega)
  have m2 : isM F = true := isM_of (n := 200) (by omega)
  have m3 : isM A = true := isM_of (n := 200) (by omega)
  have m4 : isM H = true := isM_of (n := 200) (by omega)
  have m5 : isM (foldP H) = true := isM_of (n := 200) (by rw [foldP_len]; omega)
  have m6 : ∀ p, isM (cleanP p) = true := fun p => isM_of (n := 1000) (clean_len p)
  have m7 : isM (F.drop A.length) = true := isM_of (n := 200) (by rw [List.length_drop]; omega)
  have m8 : isM (r.drop (F.length + 1)) = true := isM_of (n := 200) (by rw [List.length_drop]; omega)
  have q0 : ∀ n : Nat, decide ((0 : Int) ≤ (n : Int)) = true := fun n => decide_eq_true (by omega)
  have qA : decide ((A.length : Int) ≤ (F.length : Int)) = true := decide_eq_true (by omega)
  rw [m1, m2, m3, m4, w1, w2, cut_end (l := A) rfl, cut_end (l := F) rfl, cut_end (l := r) rfl, m5, m7, m8, nat_lt, nat_lt, nat_lt, q0, q0, q0, qA]
  simp only [m6]
  cases t1 : decide (H.length < A.length)
  · cases t2 : decide (A.length < F.length)
    · cases t3 : decide (F.length < r.length)
      · simp only [Br.val, cond_true, cond_false, Bool.and_true, Bool.true_and]
        cases urlOkP (foldP H) 80 [47] [] false <;> rfl
      · have t3' := of_decide_eq_true t3
        rw [decide_eq_true (show ((F.length + 1 : Nat) : Int) ≤ (r.length : Int) by omega)]
        simp only [Br.val, cond_true, cond_false, Bool.and_true, Bool.true_and]
        cases urlOkP (foldP H) 80 [47] (r.drop (F.length + 1)) true <;> rfl
    · cases t3 : decide (F.length < r.length)
      · simp only [Br.val, cond_true, cond_false, Bool.and_true, Bool.true_and]
        cases urlOkP (foldP H) 80 (cleanP (F.drop A.length)) [] false <;> rfl
      · have t3' := of_decide_eq_true t3
        rw [decide_eq_true (show ((F.length + 1 : Nat) : Int) ≤ (r.length : Int) by omega)]
        simp only [Br.val, cond_true, cond_false, Bool.and_true, Bool.true_and]
        cases urlOkP (foldP H) 80 (cleanP (F.drop A.length)) (r.drop (F.length + 1)) true <;> rfl
  · have t1' := of_decide_eq_true t1
    rw [decide_eq_true (show ((H.length + 1 : Nat) : Int) ≤ (A.length : Int) by omega)]
    cases t4 : (decR (A.drop (H.length + 1))).2
    · simp only [Br.val, cond_true, cond_false, Bool.false_and, t4, Bool.not_false]; rfl
    · cases t2 : decide (A.length < F.length)
      · cases t3 : decide (F.length < r.length)
        · simp only [Br.val, cond_true, cond_false, Bool.and_true, Bool.true_and, t4, Bool.not_true]
          cases urlOkP (foldP H) (decR (A.drop (H.length + 1))).1 [47] [] false <;> rfl
        · have t3' := of_decide_eq_true t3
          rw [decide_eq_true (show ((F.length + 1 : Nat) : Int) ≤ (r.length : Int) by omega)]
          simp only [Br.val, cond_true, cond_false, Bool.and_true, Bool.true_and, t4, Bool.not_true]
          cases urlOkP (foldP H) (decR (A.drop (H.length + 1))).1 [47] (r.drop (F.length + 1)) true <;> rfl
      · cases t3 : decide (F.length < r.length)
        · simp only [Br.val, cond_true, cond_false, Bool.and_true, Bool.true_and, t4, Bool.not_true]
          cases urlOkP (foldP H) (decR (A.drop (H.length + 1))).1 (cleanP (F.drop A.length)) [] false <;> rfl
        · have t3' := of_decide_eq_true t3
          rw [decide_eq_true (show ((F.length + 1 : Nat) : Int) ≤ (r.length : Int) by omega)]
          simp only [Br.val, cond_true, cond_false, Bool.and_true, Bool.true_and, t4, Bool.not_true]
          cases urlOkP (foldP H) (decR (A.drop (H.length + 1))).1 (cleanP (F.drop A.length)) (r.drop (F.length + 1)) true <;> rfl
theorem auth_take (r : Bytes) : r.take (uptoP (uptoP r 63) 47).length = uptoP (uptoP r 63) 47 := by
  have h1 := upto_take r 63
  have h2 := upto_take (uptoP r 63) 47
  have h3 := upto_le (uptoP r 63) 47
  calc r.take (uptoP (uptoP r 63) 47).length = (r.take (uptoP r 63).length).take (uptoP (uptoP r 63) 47).length := by rw [List.take_take, Nat.min_eq_left h3]
    _ = (uptoP r 63).take (uptoP (uptoP r 63) 47).length := by rw [h1]
    _ = uptoP (uptoP r 63) 47 := h2
theorem any_end (r : Bytes) : (decide (anyIx r [47, 63] < 0) = true → (uptoP (uptoP r 63) 47).length = r.length) ∧ (decide (anyIx r [47, 63] < 0) = false → anyIx r [47, 63] = ((uptoP (uptoP r 63) 47).length : Int)) := by
  rw [anyIx_cases, show by8 47 = 47 from rfl, show by8 63 = 63 from rfl]
  cases h : hasB r 47 || hasB r 63
  · rw [cond_false]
    rw [Bool.or_eq_false_iff] at h
    have h1 : uptoP r 63 = r := by have := upto_has r 63; rw [h.2] at this; exact of_decide_eq_true this
    have h2 : uptoP r 47 = r := by have := upto_has r 47; rw [h.1] at this; exact of_decide_eq_true this
    rw [h1, h2]
    exact ⟨fun _ => rfl, fun e => by simp at e⟩
  · rw [cond_true]
    exact ⟨fun e => by have := of_decide_eq_true e; omega, fun _ => rfl⟩
theorem drop_nil {l : Bytes} {k : Nat} : decide (l.drop k = []) = !decide (k < l.length) := by
  rw [Bool.eq_iff_iff]; simp
theorem lt_ne {a b : Nat} (h : a ≤ b) : (!decide (a = b)) = decide (a < b) := by
  rw [Bool.eq_iff_iff]; simp; omega
theorem iReadUrl_okQ : Sound Kx 160 ru_s := iReadUrl_ok.of fun args objs r h => by
  unfold ru_s t1_s at h
  split at h
  case h_2 => cases h
  rename_i s
  obtain ⟨hM, h2⟩ := ite_some h
  cases h2
  show (iReadUrl_br s).val = some (.tup [urA (readUP s).1, .bool (readUP s).2], [])
  unfold iReadUrl_br
  have hok := readOk_parts s
  cases d1 : decide ((200 : Int) < (s.length : Int))
  case true =>
    have := of_decide_eq_true d1
    rw [decide_eq_false (show ¬ s.length ≤ 200 by omega)] at hok
    rw [readU_no (by rw [hok]; rfl)]; rfl
  have d1' := of_decide_eq_false d1
  rw [decide_eq_true (show s.length ≤ 200 by omega)] at hok
  rw [hM]
  cases d3 : allP isVis s
  · rw [d3] at hok
    rw [readU_no (by rw [hok]; simp)]; rfl
  rw [d3] at hok
  cases d4 : hasB s 35
  case true =>
    rw [d4] at hok
    rw [readU_no (by rw [hok]; simp)]; rfl
  rw [d4] at hok
  cases d2 : decide ((s.length : Int) < 7)
  case true =>
    have d2' := of_decide_eq_true d2
    rw [decide_eq_false (show ¬ 7 ≤ s.length by omega)] at hok
    rw [readU_no (by rw [hok]; rfl)]; rfl
  have d2' := of_decide_eq_false d2
  rw [decide_eq_true (show 7 ≤ s.length by omega)] at hok
  rw [decide_eq_true (show (7 : Int) ≤ (s.length : Int) by omega), show cut s 0 7 = s.take 7 from cut_take (k := 7) rfl, show cut s 7 (s.length : Int) = s.drop 7 from cut_end (k := 7) rfl]
  have e7 : isM (s.take 7) = true := isM_of (n := 7) (by rw [List.length_take]; exact Nat.min_le_left _ _)
  rw [e7]
  cases d5 : decide (foldP (s.take 7) = [104, 116, 116, 112, 58, 47, 47])
  · rw [show decide (foldP (s.take 7) = httpB) = false from d5] at hok
    rw [readU_no (by rw [hok]; rfl)]; rfl
  rw [show decide (foldP (s.take 7) = httpB) = true from d5] at hok
  rw [readU_yes (by rw [hok]; rfl)]
  have hvis : allP isVis (s.drop 7) = true := by
    have e := allP_app isVis (s.take 7) (s.drop 7)
    rw [List.take_append_drop, d3] at e
    cases hh : allP isVis (s.drop 7)
    · rw [hh, Bool.and_false] at e; cases e
    · rfl
  have hasc := vis_asc _ hvis
  generalize hr : s.drop 7 = r at hasc
  have hrl : r.length ≤ 200 := by rw [← hr, List.length_drop]; omega
  have hend := any_end r
  have hat := auth_take r
  have mr : decide (r.length ≤ 1000000) = true := decide_eq_true (by omega)
  refine (val_f rfl).trans ((val_t rfl).trans ((val_f rfl).trans ((val_f rfl).trans ((val_f rfl).trans ((val_t rfl).trans ((val_t rfl).trans ((val_f rfl).trans ((val_t rfl).trans ((val_t (by rw [mr, hasc]; rfl)).trans ?_)))))))))
  unfold urlR pathR portR authP frontP Ur.ok urA
  have lF := upto_le r 63
  have ud := upto_drop 63 r (uptoP (uptoP r 63) 47).length (upto_le _ _)
  generalize hF : uptoP r 63 = F at lF hend hat ud
  have lA := upto_le F 47
  generalize hA : uptoP F 47 = A at lA hend hat ud
  have lH := upto_le A 58
  have ct : cut r 0 (A.length : Int) = A := (cut_take rfl).trans hat
  have cd : cut r (A.length : Int) (r.length : Int) = r.drop A.length := cut_end rfl
  have x1 := cut_upto 58 A
  rw [show by8 58 = 58 from rfl] at x1
  have x2 := cut_upto 63 (r.drop A.length)
  rw [show by8 63 = 63 from rfl, ud] at x2
  generalize hH : uptoP A 58 = H at lH x1
  have y1 : (cutP A [58]).1 = H := by rw [x1]
  have y2 : (cutP A [58]).2.1 = A.drop (H.length + 1) := by rw [x1]
  have y3 : (cutP A [58]).2.2 = decide (H.length < A.length) := by rw [x1]; exact lt_ne lH
  have z1 : (cutP (r.drop A.length) [63]).1 = F.drop A.length := by rw [x2]
  have z2 : (cutP (r.drop A.length) [63]).2.1 = bif decide (F.length < r.length) then r.drop (F.length + 1) else [] := by
    rw [x2]
    simp only [List.length_drop, List.drop_drop]
    cases t : decide (F.length < r.length)
    · have := of_decide_eq_false t
      rw [cond_false]
      exact List.drop_eq_nil_of_le (by omega)
    · rw [cond_true]
      congr 1; omega
  have z3 : (cutP (r.drop A.length) [63]).2.2 = decide (F.length < r.length) := by
    rw [x2]
    simp only [List.length_drop]
    rw [lt_ne (by omega), Bool.eq_iff_iff, decide_eq_true_eq, decide_eq_true_eq]; omega
  have m4 : isM H = true := isM_of (n := 200) (by omega)
  have m5 : isM (foldP H) = true := isM_of (n := 200) (by rw [foldP_len]; omega)
  have m6 : ∀ p, isM (cleanP p) = true := fun p => isM_of (n := 1000) (clean_len p)
  have m7 : isM (F.drop A.length) = true := isM_of (n := 200) (by rw [List.length_drop]; omega)
  have m8 : isM (bif decide (F.length < r.length) then r.drop (F.length + 1) else []) = true := by
    refine isM_of (n := 200) ?_
    cases decide (F.length < r.length)
    · exact Nat.zero_le _
    · rw [cond_true, List.length_drop]; omega
  have q0 : ∀ n : Nat, decide ((0 : Int) ≤ (n : Int)) = true := fun n => decide_eq_true (by omega)
  have qA : decide ((A.length : Int) ≤ (r.length : Int)) = true := decide_eq_true (by omega)
  have q1 : decide (A.length ≤ 1000000) = true := decide_eq_true (by omega)
  have q2 : decide ((r.drop A.length).length ≤ 1000000) = true := decide_eq_true (by rw [List.length_drop]; omega)
  have q3 : decide ((A.drop (H.length + 1)).length ≤ 1000000) = true := decide_eq_true (by rw [List.length_drop]; omega)
  cases t0 : decide (anyIx r [47, 63] < 0)
  · rw [hend.2 t0]
    simp only [Br.val, cond_true, cond_false, q0, qA, ct, cd, q1, q2, y1, y2, y3, z1, z2, z3, m4, m5, m6, m7, m8, q3, Bool.and_self, Bool.and_true, drop_nil]
    cases t1 : decide (H.length < A.length)
    · cases t2 : decide (A.length < F.length)
      · simp only [Br.val, cond_true, cond_false, Bool.not_false, Bool.true_and]
        cases urlOkP (foldP H) 80 [47] (bif decide (F.length < r.length) then r.drop (F.length + 1) else []) (decide (F.length < r.length)) <;> rfl
      · simp only [Br.val, cond_true, cond_false, Bool.not_true, Bool.true_and]
        cases urlOkP (foldP H) 80 (cleanP (F.drop A.length)) (bif decide (F.length < r.length) then r.drop (F.length + 1) else []) (decide (F.length < r.length)) <;> rfl
    · cases t4 : (decR (A.drop (H.length + 1))).2
      · simp only [Br.val, cond_true, cond_false, Bool.not_false, Bool.false_and, t4]; rfl
      · cases t2 : decide (A.length < F.length)
        · simp only [Br.val, cond_true, cond_false, Bool.not_false, Bool.not_true, Bool.true_and, t4]
          cases urlOkP (foldP H) (decR (A.drop (H.length + 1))).1 [47] (bif decide (F.length < r.length) then r.drop (F.length + 1) else []) (decide (F.length < r.length)) <;> rfl
        · simp only [Br.val, cond_true, cond_false, Bool.not_true, Bool.true_and, t4]
          cases urlOkP (foldP H) (decR (A.drop (H.length + 1))).1 (cleanP (F.drop A.length)) (bif decide (F.length < r.length) then r.drop (F.length + 1) else []) (decide (F.length < r.length)) <;> rfl
  · have hl := hend.1 t0
    have ct2 : cut r 0 (r.length : Int) = A := by rw [hl] at ct; exact ct
    have cd2 : cut r (r.length : Int) (r.length : Int) = r.drop A.length := by
      rw [cut_end (l := r) (k := r.length) rfl, hl]
    have qB : decide ((r.length : Int) ≤ (r.length : Int)) = true := decide_eq_true (Int.le_refl _)
    simp only [Br.val, cond_true, cond_false, q0, qB, ct2, cd2, q1, q2, y1, y2, y3, z1, z2, z3, m4, m5, m6, m7, m8, q3, Bool.and_self, Bool.and_true, drop_nil]
    cases t1 : decide (H.length < A.length)
    · cases t2 : decide (A.length < F.length)
      · simp only [Br.val, cond_true, cond_false, Bool.not_false, Bool.true_and]
        cases urlOkP (foldP H) 80 [47] (bif decide (F.length < r.length) then r.drop (F.length + 1) else []) (decide (F.length < r.length)) <;> rfl
      · simp only [Br.val, cond_true, cond_false, Bool.not_true, Bool.true_and]
        cases urlOkP (foldP H) 80 (cleanP (F.drop A.length)) (bif decide (F.length < r.length) then r.drop (F.length + 1) else []) (decide (F.length < r.length)) <;> rfl
    · cases t4 : (decR (A.drop (H.length + 1))).2
      · simp only [Br.val, cond_true, cond_false, Bool.not_false, Bool.false_and, t4]; rfl
      · cases t2 : decide (A.length < F.length)
        · simp only [Br.val, cond_true, cond_false, Bool.not_false, Bool.not_true, Bool.true_and, t4]
          cases urlOkP (foldP H) (decR (A.drop (H.length + 1))).1 [47] (bif decide (F.length < r.length) then r.drop (F.length + 1) else []) (decide (F.length < r.length)) <;> rfl
        · simp only [Br.val, cond_true, cond_false, Bool.not_true, Bool.true_and, t4]
          cases urlOkP (foldP H) (decR (A.drop (H.length + 1))).1 (cleanP (F.drop A.length)) (bif decide (F.length < r.length) then r.drop (F.length + 1) else []) (decide (F.length < r.length)) <;> rfl
theorem sUrlText_okQ : Sound Kx 156 (ur_s (fun h po pa q _ => isM h && isM pa && isM q) (fun h po pa q hq => .str (bif urlOkP h po pa q hq then urlT h po pa q hq else []))) := of_ur sUrlText_ok fun h po pa q hq hs => by
  show (sUrlText_br h po pa q hq).val = some (.str (bif urlOkP h po pa q hq then urlT h po pa q hq else []), [])
  unfold sUrlText_br
  refine (val_t hs).trans ?_
  cases ho : urlOkP h po pa q hq
  · rfl
  · simp only [Bool.and_eq_true] at hs
    have ho' := ho
    unfold urlOkP at ho'
    simp only [Bool.and_eq_true, Bool.not_eq_true', decide_eq_false_iff_not] at ho'
    obtain ⟨⟨⟨⟨⟨⟨⟨h1, h2, h3⟩, h4⟩, h5⟩, _⟩, _⟩, _⟩, _⟩ := ho'
    exact (val_f rfl).trans ((val_t (smU_mk h1 h2 h3 (decide_eq_false h4) h5 hs.2)).trans rfl)
end
end Go.Proofs.YtmmjaomfonknnaaGreatDoor.Ev
