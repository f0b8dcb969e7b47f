/- The texts Ub, Uc, AnyS, SplitS, Ud, Ue, Uf, Ug, Uh, Ui, Uj, Uk, Ul, Um, Un, Uo, Va, Vb, Vc, Vd, Ve, Vf, Vg, Vh, Xa, Xb, Xc, Xd, Vi, Vj, Vk, Vl, Vm, Vn, Wa, Wb, Vo, Xe, Xf, Xg, Xh, Xi, Xj, one behind the other. -/
import Derived.Test.YtdknaddanjpdaaaGreatDoorK22
import Derived.Test.YtdknaddanjpdaaaGreatDoorK18
import Derived.Lib.Split
import Derived.Test.YtdknaddanjpdaaaGreatDoorK16
import Derived.Test.YtdknaddanjpdaaaGreatDoorK14
import Derived.Test.YtdknaddanjpdaaaGreatDoorK12
import Derived.Test.YtdknaddanjpdaaaGreatDoorK20
namespace Go.Proofs.YtdknaddanjpdaaaGreatDoor.Ev
open Go Go.RowKit
set_option linter.unusedVariables false
set_option linter.unusedSimpArgs false
noncomputable section

def splR (b : Int) : Bytes → Bytes → List Bytes
  | cur, [] => [cur]
  | cur, x :: r => bif decide (by8 x = b) then cur :: splR b [] r else splR b (cur ++ [x]) r
theorem splR_cons (b : Int) (cur : Bytes) (x : UInt8) (r : Bytes) : splR b cur (x :: r) = bif decide (by8 x = b) then cur :: splR b [] r else splR b (cur ++ [x]) r := by rw [splR]
def splP (s : Bytes) (b : Int) : List Bytes := splR b [] s

theorem cut_of {s p cur r : Bytes} {lo hi : Int} (h : s = p ++ (cur ++ r)) (hlo : lo = (p.length : Int)) (hhi : hi = lo + (cur.length : Int)) : Ev.cut s lo hi = cur := by
  subst h hlo hhi
  unfold Ev.cut
  rw [show ((p.length : Int) + (cur.length : Int)).toNat = p.length + cur.length by omega, show ((p.length : Int)).toNat = p.length by omega]
  rw [List.take_append]
  simp
theorem splR_hit (b : Int) : ∀ (r cur : Bytes), (uptoP r b).length ≠ r.length → splR b cur r = (cur ++ uptoP r b) :: splP (r.drop ((uptoP r b).length + 1)) b
  | [], cur, h => absurd rfl h
  | x :: r, cur, h => by
    unfold uptoP at h ⊢
    rw [List.takeWhile_cons] at h ⊢
    unfold splR
    cases c : decide (by8 x = b)
    · rw [c] at h
      simp only [Bool.not_false, if_true, List.length_cons] at h
      have ih := splR_hit b r (cur ++ [x]) (by unfold uptoP; omega)
      unfold uptoP at ih
      rw [cond_false, ih]
      simp
    · simp [splP]
theorem splR_miss (b : Int) : ∀ (r cur : Bytes), (uptoP r b).length = r.length → splR b cur r = [cur ++ r]
  | [], cur, h => by simp [splR]
  | x :: r, cur, h => by
    unfold uptoP at h
    rw [List.takeWhile_cons] at h
    unfold splR
    cases c : decide (by8 x = b)
    · rw [c] at h
      simp only [Bool.not_false, if_true, List.length_cons] at h
      rw [cond_false, splR_miss b r (cur ++ [x]) (by unfold uptoP; omega)]
      simp
    · rw [c] at h; simp at h
theorem upto_le (s : Bytes) (b : Int) : (uptoP s b).length ≤ s.length := (List.takeWhile_sublist _).length_le
theorem upto_take (s : Bytes) (b : Int) : s.take (uptoP s b).length = uptoP s b := by
  have h : uptoP s b <+: s := List.takeWhile_prefix _
  exact (List.prefix_iff_eq_take.1 h).symm
theorem index_upto (c : UInt8) (s : Bytes) : Lib.index s [c] = bif decide ((uptoP s (by8 c)).length = s.length) then -1 else ((uptoP s (by8 c)).length : Int) := by
  have h := cut_upto c s
  unfold cutP Lib.cut at h
  have hg := Lib.index_ge s [c]
  cases d : decide ((uptoP s (by8 c)).length = s.length)
  · rw [d] at h
    by_cases h0 : 0 ≤ Lib.index s [c]
    · rw [if_pos h0] at h
      simp only [Prod.mk.injEq] at h
      have := congrArg List.length h.1
      have hlt : (Lib.index s [c]).toNat ≤ s.length := by
        have := Lib.index_le s [c]
        omega
      rw [List.length_take] at this
      rw [cond_false]; omega
    · rw [if_neg h0] at h
      simp only [Prod.mk.injEq, Bool.not_false] at h
      exact absurd h.2.2 (by decide)
  · rw [d] at h
    by_cases h0 : 0 ≤ Lib.index s [c]
    · rw [if_pos h0] at h
      simp only [Prod.mk.injEq, Bool.not_true] at h
      exact absurd h.2.2 (by decide)
    · rw [cond_true]; omega
theorem splitK_spl (c : UInt8) : ∀ (fuel : Nat) (s : Bytes), s.length < fuel → Lib.splitK [c] 0 (Lib.countFrom [c] fuel s) s = splP s (by8 c) := by
  intro fuel
  induction fuel with
  | zero => intro s h; omega
  | succ fuel ih =>
    intro s h
    unfold Lib.countFrom
    rw [index_upto]
    cases d : decide ((uptoP s (by8 c)).length = s.length)
    · have d' := of_decide_eq_false d
      rw [cond_false]
      have e : (((uptoP s (by8 c)).length : Int) == -1) = false := by rw [beq_eq_false_iff_ne]; omega
      have hle := upto_le s (by8 c)
      rw [e]
      simp only [Bool.false_eq_true, if_false]
      rw [Nat.add_comm 1]
      unfold Lib.splitK
      rw [index_upto, d, cond_false, e]
      simp only [Bool.false_eq_true, if_false, Int.toNat_natCast, Nat.add_zero, List.length_singleton]
      rw [ih (s.drop _) (by rw [List.length_drop]; omega), upto_take]
      unfold splP
      rw [splR_hit _ s [] d']
      rfl
    · rw [cond_true]
      simp only [BEq.rfl, if_true]
      unfold Lib.splitK splP
      rw [splR_miss _ s [] (of_decide_eq_true d)]
      rfl
theorem split_spl (c : UInt8) (s : Bytes) : Lib.split s [c] = splP s (by8 c) := splitK_spl c _ s (Nat.lt_succ_self _)
theorem splR_ne (b : Int) : ∀ (r cur : Bytes), splR b cur r ≠ []
  | [], cur => by simp [splR]
  | x :: r, cur => by
    unfold splR
    cases decide (by8 x = b)
    · exact splR_ne b r _
    · simp
theorem splR_len (b : Int) : ∀ (r cur : Bytes), (splR b cur r).length ≤ r.length + 1
  | [], cur => by simp [splR]
  | x :: r, cur => by
    unfold splR
    cases decide (by8 x = b)
    · have := splR_len b r (cur ++ [x]); simp only [cond_false, List.length_cons]; omega
    · have := splR_len b r []; simp only [cond_true, List.length_cons]; omega
theorem spl_len (s : Bytes) (b : Int) : (splP s b).length ≤ s.length + 1 := splR_len b s []
theorem splR_all (b : Int) (p : Int → Bool) : ∀ (r cur : Bytes), ((splR b cur r).all fun s => allP p s) = (allP p cur && allP (fun n => decide (n = b) || p n) r)
  | [], cur => by simp [splR, allP]
  | x :: r, cur => by
    unfold splR
    cases c : decide (by8 x = b)
    · rw [cond_false, splR_all b p r (cur ++ [x])]
      have e1 : allP p (cur ++ [x]) = (allP p cur && p (by8 x)) := by simp [allP]
      have e2 : allP (fun n => decide (n = b) || p n) (x :: r) = ((decide (by8 x = b) || p (by8 x)) && allP (fun n => decide (n = b) || p n) r) := rfl
      rw [e1, e2, c, Bool.false_or, Bool.and_assoc]
    · rw [cond_true, List.all_cons, splR_all b p r []]
      have e2 : allP (fun n => decide (n = b) || p n) (x :: r) = ((decide (by8 x = b) || p (by8 x)) && allP (fun n => decide (n = b) || p n) r) := rfl
      rw [e2, c]
      simp [allP]

def hexI (n : Int) : Int := bif isDig n then n - 48 else bif decide (97 ≤ n) && decide (n ≤ 102) then n - 97 + 10 else bif decide (65 ≤ n) && decide (n ≤ 70) then n - 65 + 10 else -1
def freeB (n : Int) : Bool := isLow n || isUp n || isDig n || decide (n = 45) || decide (n = 46) || decide (n = 95) || decide (n = 126)
def upI (n : Int) : Int := bif isLow n then n - 32 else n
def hexTab : Bytes := [48, 49, 50, 51, 52, 53, 54, 55, 56, 57, 65, 66, 67, 68, 69, 70]
theorem hexI_lt (n : Int) : hexI n < 16 := by
  unfold hexI isDig
  cases h : decide (48 ≤ n) && decide (n ≤ 57)
  · rw [cond_false]
    cases h2 : decide (97 ≤ n) && decide (n ≤ 102)
    · rw [cond_false]
      cases h3 : decide (65 ≤ n) && decide (n ≤ 70)
      · rw [cond_false]; omega
      · simp only [Bool.and_eq_true, decide_eq_true_eq] at h3; rw [cond_true]; omega
    · simp only [Bool.and_eq_true, decide_eq_true_eq] at h2; rw [cond_true]; omega
  · simp only [Bool.and_eq_true, decide_eq_true_eq] at h; rw [cond_true]; omega
def pairI (a b : UInt8) : Int := 16 * hexI (by8 a) + hexI (by8 b)
def isPct (c a b : UInt8) : Bool := decide (by8 c = 37) && !decide (hexI (by8 a) < 0) && !decide (hexI (by8 b) < 0)
def pctOne (a b : UInt8) : Bytes := bif freeB (pairI a b) then [UInt8.ofNat (pairI a b).toNat] else [37, UInt8.ofNat (upI (by8 a)).toNat, UInt8.ofNat (upI (by8 b)).toNat]
def pctP : Bytes → Bytes
  | [] => []
  | [c] => [c]
  | [c, d] => [c, d]
  | c :: a :: b :: r => bif isPct c a b then pctOne a b ++ pctP r else c :: pctP (a :: b :: r)
theorem pctP_len : ∀ s : Bytes, (pctP s).length ≤ s.length
  | [] => Nat.le_refl _
  | [c] => Nat.le_refl _
  | [c, d] => Nat.le_refl _
  | c :: a :: b :: r => by
    unfold pctP
    cases isPct c a b
    · have := pctP_len (a :: b :: r); simp only [cond_false, List.length_cons] at this ⊢; omega
    · have := pctP_len r
      have h : (pctOne a b).length ≤ 3 := by unfold pctOne; cases freeB (pairI a b) <;> simp
      simp only [cond_true, List.length_append, List.length_cons]; omega
theorem pctP_slash (r : Bytes) : pctP (47 :: r) = 47 :: pctP r := by
  cases r with
  | nil => rfl
  | cons a r => cases r with
    | nil => rfl
    | cons b r =>
      have e : isPct 47 a b = false := by unfold isPct; rw [show decide (by8 47 = 37) = false from rfl]; rfl
      unfold pctP
      rw [e, cond_false]
      cases r <;> rfl

def dotB (s : Bytes) : Bool := decide (s = [46]) || decide (s = [46, 46])
def stepS (out : List Bytes) (s : Bytes) : List Bytes := bif decide (s = [46]) then out else bif decide (s = [46, 46]) then out.dropLast else out ++ [s]
def segsP (l : List Bytes) : List Bytes := l.foldl stepS [] ++ (bif dotB (l.getLastD []) then [[]] else [])
theorem stepS_len (out : List Bytes) (s : Bytes) : (stepS out s).length ≤ out.length + 1 := by
  unfold stepS
  cases decide (s = [46])
  · cases decide (s = [46, 46])
    · simp
    · simp; omega
  · simp
def pathOk (p : Bytes) : Bool := decide (p.length ≤ 200) && allP isVis p && !hasB p 35 && !hasB p 63
def cleanP (p : Bytes) : Bytes := match p with
  | 47 :: r => bif pathOk (47 :: r) then 47 :: joinP (segsP (splP (pctP r) 47)) [47] else []
  | _ => []

def hoB (n : Int) : Bool := isLow n || isDig n || decide (n = 45) || decide (n = 46)
def hostP (h : Bytes) : Bool := decide (1 ≤ h.length) && decide (h.length ≤ 60) && allP hoB h && !inP (splP h 46) []

def httpB : Bytes := [104, 116, 116, 112, 58, 47, 47]
def portT (po : Int) : Bytes := bif decide (po = 80) then [] else 58 :: decD po
def queryT (q : Bytes) (hq : Bool) : Bytes := bif hq then 63 :: q else []
def urlT (h : Bytes) (po : Int) (pa q : Bytes) (hq : Bool) : Bytes := httpB ++ h ++ portT po ++ pa ++ queryT q hq
def urlOkP (h : Bytes) (po : Int) (pa q : Bytes) (hq : Bool) : Bool :=
  hostP h && (decide (1 ≤ po) && decide (po ≤ 65535)) && !decide (pa = []) && decide (cleanP pa = pa) && allP isVis q && !hasB q 35 && (hq || decide (q = [])) && decide ((urlT h po pa q hq).length ≤ 200)
structure Ur where
  h : Bytes
  po : Int
  pa : Bytes
  q : Bytes
  hq : Bool
def u0 : Ur := ⟨[], 0, [], [], false⟩
def frontP (r : Bytes) : Bytes := uptoP r 63
def authP (r : Bytes) : Bytes := uptoP (frontP r) 47
def portR (a : Bytes) : Int × Bool := bif decide ((uptoP a 58).length < a.length) then decR (a.drop ((uptoP a 58).length + 1)) else (80, true)
def pathR (r : Bytes) : Bytes := bif decide ((authP r).length < (frontP r).length) then cleanP ((frontP r).drop (authP r).length) else [47]
def urlR (r : Bytes) : Ur := ⟨foldP (uptoP (authP r) 58), (portR (authP r)).1, pathR r, bif decide ((frontP r).length < r.length) then r.drop ((frontP r).length + 1) else [], decide ((frontP r).length < r.length)⟩
def readOk (s : Bytes) : Bool := decide (s.length ≤ 200) && decide (7 ≤ s.length) && allP isVis s && !hasB s 35 && decide (foldP (s.take 7) = httpB)
def Ur.ok (u : Ur) : Bool := urlOkP u.h u.po u.pa u.q u.hq
def readUP (s : Bytes) : Ur × Bool := bif readOk s && (portR (authP (s.drop 7))).2 && (urlR (s.drop 7)).ok then (urlR (s.drop 7), true) else (u0, false)
def Ur.text (u : Ur) : Bytes := urlT u.h u.po u.pa u.q u.hq
def canonP (s : Bytes) : Bytes × Bool := bif (readUP s).2 then ((readUP s).1.text, true) else ([], false)
def isCanP (s : Bytes) : Bool := (canonP s).2 && decide ((canonP s).1 = s)

theorem isFree_okQ : Sound Kx 265 (pr_s freeB) := of_pr isFree_ok fun b => by
  show (isFree_br b).val = _
  unfold isFree_br freeB
  simp only [Br.val]
  cases isLow b <;> cases isUp b <;> cases isDig b <;> cases decide (b = 45) <;> cases decide (b = 46) <;> cases decide (b = 95) <;> rfl
theorem hostB_okQ : Sound Kx 266 (pr_s hoB) := of_pr hostB_ok fun b => by
  show (hostB_br b).val = _
  unfold hostB_br hoB
  simp only [Br.val]
  cases isLow b <;> cases isDig b <;> cases decide (b = 45) <;> rfl
def hx_s : List AV → List Ob → Br
  | [.int .u8 b], [] => .ret (.int .i64 (hexI b)) []
  | _, _ => .fail
theorem hexOf_okQ : Sound Kx 264 hx_s := hexOf_ok.of fun args objs r h => by
  unfold hx_s at h
  split at h
  case h_2 => cases h
  rename_i b
  cases h
  show (hexOf_br b).val = _
  unfold hexOf_br hexI
  cases h1 : isDig b
  · by_cases g1 : 97 ≤ b <;> by_cases g2 : b ≤ 102 <;> by_cases g3 : 65 ≤ b <;> by_cases g4 : b ≤ 70 <;> simp only [Br.val, g1, g2, g3, g4, decide_true, decide_false, Bool.and_true, Bool.and_false, Bool.false_and, Bool.true_and, cond_true, cond_false] <;>
      simp (disch := omega) only [w8, w64]
  · simp only [isDig, Bool.and_eq_true, decide_eq_true_eq] at h1
    simp only [Br.val]
    rw [w8 (by omega) (by omega), w64 (by omega) (by omega)]; rfl
def fr_s : List AV → List Ob → Br
  | [.int .u8 b], [] => .ite (decide (0 ≤ b) && decide (b < 256)) (.ret (.bool (freeB b)) []) .fail
  | _, _ => .fail
def up8_s : List AV → List Ob → Br
  | [.int .u8 b], [] => .ret (.int .u8 (upI b)) []
  | _, _ => .fail
theorem supper_okQ : Sound Kx 219 up8_s := supper_ok.of fun args objs r h => by
  unfold up8_s at h
  split at h
  case h_2 => cases h
  rename_i b
  cases h
  show (supper_br b).val = _
  unfold supper_br upI isLow
  by_cases g1 : 97 ≤ b <;> by_cases g2 : b ≤ 122 <;> simp only [Br.val, g1, g2, decide_true, decide_false, Bool.and_true, Bool.and_false, Bool.false_and, Bool.true_and, cond_true, cond_false]
  rw [w8 (by omega) (by omega)]
theorem sfree_okQ : Sound Kx 218 fr_s := sfree_ok.of fun args objs r h => by
  unfold fr_s at h
  split at h
  case h_2 => cases h
  rename_i b
  obtain ⟨h1, h2⟩ := ite_some h
  cases h2
  show (sfree_br b).val = _
  unfold sfree_br
  refine (val_t h1).trans ?_
  simp only [Bool.and_eq_true, decide_eq_true_eq] at h1
  have e : hasB [45, 46, 95, 126] b = (decide (b = 45) || decide (b = 46) || decide (b = 95) || decide (b = 126)) := by
    have q : ∀ c : UInt8, decide (by8 c = b) = decide (b = by8 c) := fun c => by rw [Bool.eq_iff_iff, decide_eq_true_eq, decide_eq_true_eq]; exact ⟨Eq.symm, Eq.symm⟩
    show (decide (by8 45 = b) || (decide (by8 46 = b) || (decide (by8 95 = b) || (decide (by8 126 = b) || false)))) = _
    rw [q, q, q, q]
    simp only [Bool.or_false, Bool.or_assoc]; rfl
  have e2 : (decide (97 ≤ lowI b) && decide (lowI b ≤ 122)) = (isLow b || isUp b) := by
    unfold lowI isLow isUp
    by_cases g1 : 65 ≤ b <;> by_cases g2 : b ≤ 90 <;> by_cases g3 : 97 ≤ b <;> by_cases g4 : b ≤ 122 <;> by_cases g5 : 97 ≤ b + 32 <;> by_cases g6 : b + 32 ≤ 122 <;> simp only [g1, g2, g3, g4, g5, g6, decide_true, decide_false, Bool.and_true, Bool.and_false, Bool.or_true, Bool.or_false, cond_true, cond_false] <;> omega
  unfold freeB
  rw [← e2]
  rw [e]
  simp only [Br.val]
  cases decide (97 ≤ lowI b) <;> cases decide (lowI b ≤ 122) <;> cases isDig b <;> cases decide (b = 45) <;> cases decide (b = 46) <;> cases decide (b = 95) <;> rfl

def isHexB (n : Int) : Bool := !decide (hexI n < 0)
def hexN (r : Bytes) (v : Int) : Int := r.foldl (fun v c => v * 16 + hexI (by8 c)) v
def rdHexP (s : Bytes) : Int × Bool := bif decide (1 ≤ s.length) && decide (s.length ≤ 7) && allP isHexB s then (hexN s 0, true) else (0, false)
theorem hex_low_fin : ∀ k : Fin 256, hexI (k.val : Int) = bif isDig (lowI k.val) then lowI k.val - 48 else bif decide (97 ≤ lowI k.val) && decide (lowI k.val ≤ 102) then lowI k.val - 97 + 10 else -1 := by decide +kernel
theorem hex_low (c : UInt8) : hexI (by8 c) = bif isDig (lowI (by8 c)) then lowI (by8 c) - 48 else bif decide (97 ≤ lowI (by8 c)) && decide (lowI (by8 c) ≤ 102) then lowI (by8 c) - 97 + 10 else -1 := hex_low_fin ⟨c.toNat, c.toNat_lt⟩
theorem sReadHex_loop (s : Bytes) (hl : s.length ≤ 7) (k0 : Int → Option Rs) (k1 : Int → Option Rs) (K0 : Option Rs) (h0 : ∀ x, k0 x = K0) : ∀ (r : Bytes) (v i : Int) (n : Nat), At s i r → r.length < n → 0 ≤ v → (v + 1) * 16 ^ r.length ≤ 268435456 →
    sReadHex_F5 n s v i k0 k1 = bif allP isHexB r then k1 (hexN r v) else K0 := by
  intro r; induction r with
  | nil => intro v i n h hn hv hb; obtain ⟨n, rfl⟩ := fuel hn; unfold sReadHex_F5 sReadHex_T5; simp only [h.dge, cond_false]; rfl
  | cons a r ih =>
    intro v i n h hn hv hb; obtain ⟨n, rfl⟩ := fuel hn
    simp only [List.length_cons] at hn hb
    have hp : (1 : Int) ≤ 16 ^ r.length := by have h0 : (0 : Int) < 16 ^ r.length := Int.pow_pos (by decide); omega
    have hb' : ((v + 1) * 16) * 16 ^ r.length ≤ 268435456 := by rw [Int.pow_succ, Int.mul_comm (16 ^ r.length) 16, ← Int.mul_assoc] at hb; exact hb
    have hv16 : (v + 1) * 16 ≤ 268435456 := Int.le_trans (by have := Int.mul_le_mul_of_nonneg_left hp (show 0 ≤ (v + 1) * 16 by omega); rwa [Int.mul_one] at this) hb'
    have hall : allP isHexB (a :: r) = (isHexB (by8 a) && allP isHexB r) := rfl
    have hN : hexN (a :: r) v = hexN r (v * 16 + hexI (by8 a)) := rfl
    have hx := hexI_lt (by8 a)
    have hstep : ∀ d, d = hexI (by8 a) → 0 ≤ d → sReadHex_F5 n s (v * 16 + d) (i + 1) k0 k1 = bif allP isHexB r then k1 (hexN r (v * 16 + hexI (by8 a))) else K0 := by
      intro d hd h0'
      subst hd
      refine ih _ (i + 1) n h.step (by omega) (by omega) (Int.le_trans (Int.mul_le_mul_of_nonneg_right (show v * 16 + hexI (by8 a) + 1 ≤ (v + 1) * 16 by omega) (by omega)) hb')
    have e0 : decide (0 ≤ by8 a) = true := decide_eq_true (by8_nn a)
    have e1 : decide (by8 a < 256) = true := decide_eq_true (by8_lt a)
    have e2 : wk64 (v * 16) = v * 16 := w64 (by omega) (by omega)
    unfold sReadHex_F5 sReadHex_T5
    simp only [h.dlt, h.dnn, h.str, cond_true, h.next (show s.length ≤ 4611686018427387904 by omega), e0, e1, e2, Bool.and_self, h0, hall, hN]
    have hl := hex_low a
    cases c1 : isDig (lowI (by8 a))
    · rw [c1, cond_false] at hl
      cases c2 : decide (97 ≤ lowI (by8 a))
      · rw [c2, Bool.false_and, cond_false] at hl
        have : isHexB (by8 a) = false := by unfold isHexB; rw [hl]; rfl
        rw [this]; rfl
      · cases c3 : decide (lowI (by8 a) ≤ 102)
        · rw [c3, Bool.and_false, cond_false] at hl
          have : isHexB (by8 a) = false := by unfold isHexB; rw [hl]; rfl
          rw [this]; rfl
        · rw [c2, c3, Bool.and_self, cond_true] at hl
          have g2 := of_decide_eq_true c2
          have g3 := of_decide_eq_true c3
          have : isHexB (by8 a) = true := by unfold isHexB; rw [decide_eq_false (by omega)]; rfl
          simp only [cond_false, cond_true, this, Bool.true_and]
          have e : wk64 (wk64 (v * 16 + wk64 (wk8 (lowI (by8 a) - 97))) + 10) = v * 16 + (lowI (by8 a) - 97 + 10) := by
            simp (disch := omega) only [w8, w64]; omega
          rw [e]
          exact hstep _ hl.symm (by omega)
    · rw [c1, cond_true] at hl
      have c1' := c1
      simp only [isDig, Bool.and_eq_true, decide_eq_true_eq] at c1'
      have : isHexB (by8 a) = true := by unfold isHexB; rw [decide_eq_false (by omega)]; rfl
      simp only [cond_false, cond_true, this, Bool.true_and]
      have e : wk64 (v * 16 + wk64 (wk8 (lowI (by8 a) - 48))) = v * 16 + (lowI (by8 a) - 48) := by
        simp (disch := omega) only [w8, w64]
      rw [e]
      exact hstep _ hl.symm (by omega)
def rh_s : List AV → List Ob → Br
  | [.str s], [] => .ret (.tup [.int .i64 (rdHexP s).1, .bool (rdHexP s).2]) []
  | _, _ => .fail
theorem sReadHex_okQ : Sound Kx 217 rh_s := by
  refine (sReadHex_okOf (φ := fun s => .ret (.tup [.int .i64 (rdHexP s).1, .bool (rdHexP s).2]) []) (fun s => s.length + 1) fun s r h => ?_).of fun args objs r h => ?_
  · cases h
    unfold sReadHex_run rdHexP
    cases c1 : decide ((s.length : Int) = 0)
    · have c1' := of_decide_eq_false c1
      cases c2 : decide ((7 : Int) < (s.length : Int))
      · have c2' := of_decide_eq_false c2
        simp only [cond_false]
        rw [sReadHex_loop s (by omega) _ _ (some (AV.tup [AV.int .i64 0, AV.bool false], [])) (fun _ => rfl) s 0 0 _ (At.start s) (by omega) (by omega) ?_, decide_eq_true (show 1 ≤ s.length by omega), decide_eq_true (show s.length ≤ 7 by omega)]
        · cases allP isHexB s <;> rfl
        · have h3 : (16 : Nat) ^ s.length ≤ 16 ^ 7 := Nat.pow_le_pow_right (by decide) (by omega)
          have e : (16 : Int) ^ s.length = ((16 ^ s.length : Nat) : Int) := by rw [Int.natCast_pow]; rfl
          rw [e]
          have e2 : (16 : Nat) ^ 7 = 268435456 := by decide
          omega
      · have c2' := of_decide_eq_true c2
        rw [decide_eq_false (show ¬ s.length ≤ 7 by omega), Bool.and_false, Bool.false_and]; rfl
    · have c1' := of_decide_eq_true c1
      rw [decide_eq_false (show ¬ 1 ≤ s.length by omega), Bool.false_and, Bool.false_and]; rfl
  · unfold rh_s at h; split at h
    · exact h
    · cases h

theorem ssplit_loop (s : Bytes) (hl : s.length ≤ 1000000) (b : Int) (k : List Bytes → Option Rs) : ∀ (n : Nat) (p cur r : Bytes) (out : List Bytes) (i fr : Int), s = p ++ cur ++ r → i = ((p.length + cur.length : Nat) : Int) → fr = (p.length : Int) → r.length + 1 < n → out.length ≤ p.length →
    ssplit_F4 n s b fr i out k = k (out ++ splR b cur r) := by
  intro n; induction n with
  | zero => intro p cur r out i fr hs hi hf hn; omega
  | succ n ih =>
    intro p cur r out i fr hs hi hf hn ho
    have hat : At s i r := ⟨p ++ cur, hs, by rw [hi]; simp⟩
    have hlen : s.length = p.length + cur.length + r.length := by rw [hs]; simp; omega
    have hcut : cut s fr i = cur := by rw [hs, hi, hf, Int.natCast_add]; exact cut_mid p cur r
    have hnf : decide (0 ≤ fr) = true := decide_eq_true (by omega)
    have hfi : decide (fr ≤ i) = true := decide_eq_true (by omega)
    have hil : decide (i ≤ (s.length : Int)) = true := decide_eq_true (by omega)
    have hw : wk64 (i + 1) = i + 1 := w64 (by omega) (by omega)
    have hap : decide ((out.length + [cur].length) * 16 ≤ 140737488355328) = true := decide_eq_true (by simp only [List.length_singleton]; omega)
    unfold ssplit_F4 ssplit_T4
    simp only [hcut, hnf, hfi, hil, hw, one_set, hap, cond_true, hat.dnn]
    cases r with
    | nil =>
      have he : decide (i = (s.length : Int)) = true := decide_eq_true (by simp only [List.length_nil] at hlen; omega)
      simp only [List.length_nil] at hn
      obtain ⟨m, rfl⟩ : ∃ m, n = m + 1 := ⟨n - 1, by omega⟩
      have hx : decide (i + 1 ≤ (s.length : Int)) = false := decide_eq_false (by simp only [List.length_nil] at hlen; omega)
      have hend : ∀ o, ssplit_F4 (m + 1) s b (i + 1) (i + 1) o k = k o := fun o => by unfold ssplit_F4 ssplit_T4; rw [hx, cond_false]
      simp only [he, cond_true, hend]
      rfl
    | cons c r =>
      have he : decide (i = (s.length : Int)) = false := decide_eq_false (by simp only [List.length_cons] at hlen; omega)
      simp only [List.length_cons] at hn hlen
      have hstep := ih p (cur ++ [c]) r out (i + 1) fr (by rw [hs]; simp) (by rw [hi]; simp; omega) hf (by omega) ho
      have hcom := ih (p ++ cur ++ [c]) [] r (out ++ [cur]) (i + 1) (i + 1) (by rw [hs]; simp) (by rw [hi]; simp; omega) (by rw [hi]; simp; omega) (by omega) (by simp; omega)
      simp only [he, hat.dlt, hat.str, cond_true, cond_false, hstep, hcom]
      rw [splR_cons]
      cases decide (by8 c = b) <;> simp
def sp_s : List AV → List Ob → Br
  | [.str s, .int .u8 b], [] => .ite (decide (s.length ≤ 1000000)) (.ret (.ref 0 0) [.arr .str 0 false (splP s b)]) .fail
  | _, _ => .fail
theorem ssplit_okQ : Sound Kx 168 sp_s := by
  refine (ssplit_okOf (φ := fun s b => .ite (decide (s.length ≤ 1000000)) (.ret (.ref 0 0) [.arr .str 0 false (splP s b)]) .fail) (fun s _ => s.length + 2) fun s b r h => ?_).of fun args objs r h => ?_
  · obtain ⟨h1, h2⟩ := ite_some h
    cases h2
    rw [decide_eq_true_eq] at h1
    unfold ssplit_run
    rw [ssplit_loop s h1 b _ _ [] [] s [] 0 0 rfl rfl rfl (by omega) (by simp)]
    rfl
  · unfold sp_s at h; split at h
    · exact h
    · cases h
def ascP (s : Bytes) : Bool := allP (fun n => decide (n < 128)) s
theorem asc_get {s : Bytes} (h : ascP s = true) : ∀ (j : Nat) b, s[j]? = some b → b.toNat < 128 := by
  intro j b hb
  unfold ascP allP at h
  rw [List.all_eq_true] at h
  have := h b (List.mem_of_getElem? hb)
  rw [decide_eq_true_eq] at this
  unfold by8 at this; omega
def anyIx (s cs : Bytes) : Int := Lib.indexAny s cs
def ixAny_s : List AV → List Ob → Br
  | [.str s, .str cs], [] => .ite (decide (s.length ≤ 1000000) && decide (cs.length ≤ 1000000) && ascP s && ascP cs) (.ret (.int .i64 (anyIx s cs)) []) .fail
  | _, _ => .fail
theorem ixAny_okQ : Sound Kx 176 ixAny_s := by
  refine sound_calls Tryz.func176 (by kernel_rfl) rfl fun args objs res objs' hv w L vs hR hr => ?_
  unfold ixAny_s at hv
  split at hv
  case h_2 => cases hv
  rename_i s cs
  obtain ⟨h1, h2⟩ := ite_some hv
  cases h2
  simp only [Bool.and_eq_true, decide_eq_true_eq] at h1
  refine ⟨rfl, ?_⟩
  simp only [rels, rel] at hr
  obtain ⟨v, vs', rfl, rfl, v2, vs2, rfl, rfl, rfl⟩ := hr
  refine (Tryz.strings_IndexAny_laid ⟨s.toArray⟩ ⟨cs.toArray⟩ w (by show s.toArray.size < _; simp; omega) (by show cs.toArray.size < _; simp; omega) (asc_get h1.1.2) (asc_get h1.2)).mono ?_
  rintro e w' ⟨rfl, hb⟩
  exact ⟨_, rfl, hb, by simp only [rel]; rfl⟩
def coAny_s : List AV → List Ob → Br
  | [.str s, .str cs], [] => .ite (decide (s.length ≤ 1000000) && decide (cs.length ≤ 1000000) && ascP s && ascP cs) (.ret (.bool (decide (0 ≤ anyIx s cs))) []) .fail
  | _, _ => .fail
theorem coAny_okQ : Sound Kx 232 coAny_s := by
  refine sound_calls Tryz.func232 (by kernel_rfl) rfl fun args objs res objs' hv w L vs hR hr => ?_
  unfold coAny_s at hv
  split at hv
  case h_2 => cases hv
  rename_i s cs
  obtain ⟨h1, h2⟩ := ite_some hv
  cases h2
  simp only [Bool.and_eq_true, decide_eq_true_eq] at h1
  refine ⟨rfl, ?_⟩
  simp only [rels, rel] at hr
  obtain ⟨v, vs', rfl, rfl, v2, vs2, rfl, rfl, rfl⟩ := hr
  refine (Tryz.strings_ContainsAny_laid ⟨s.toArray⟩ ⟨cs.toArray⟩ w (by show s.toArray.size < _; simp; omega) (by show cs.toArray.size < _; simp; omega) (asc_get h1.1.2) (asc_get h1.2)).mono ?_
  rintro e w' ⟨rfl, hb⟩
  exact ⟨_, rfl, hb, by simp only [rel]; rfl⟩
def con1_s : List AV → List Ob → Br
  | [.str s, .str [c]], [] => .ret (.bool (hasB s (by8 c))) []
  | _, _ => .fail
theorem indexByte_has (s : Bytes) (c : UInt8) : decide (0 ≤ Lib.indexByte s c) = hasB s (by8 c) := by
  have := ixOf_nn s (by8 c) (by8_nn c) (by8_lt c)
  unfold ixOf at this
  have e : (by8 c).toNat.toUInt8 = c := by simp [by8]
  rw [e] at this; exact this
theorem con1_okQ : Sound Kx 175 con1_s := by
  refine sound_calls Tryz.func175 (by kernel_rfl) rfl fun args objs res objs' hv w L vs hR hr => ?_
  unfold con1_s at hv
  split at hv
  case h_2 => cases hv
  rename_i s c
  cases hv
  refine ⟨rfl, ?_⟩
  simp only [rels, rel] at hr
  obtain ⟨v, vs', rfl, rfl, v2, vs2, rfl, rfl, rfl⟩ := hr
  refine (Tryz.strings_Contains_one ⟨s.toArray⟩ c w).mono ?_
  rintro e w' ⟨rfl, rfl⟩
  refine ⟨_, rfl, Below.refl _ _, ?_⟩
  simp only [rel]
  rw [← indexByte_has s c]
theorem anyIx_cases (a b : UInt8) : ∀ s : Bytes, anyIx s [a, b] = bif hasB s (by8 a) || hasB s (by8 b) then ((uptoP (uptoP s (by8 b)) (by8 a)).length : Int) else -1
  | [] => rfl
  | x :: r => by
    have ih := anyIx_cases a b r
    unfold anyIx at ih ⊢
    unfold Lib.indexAny
    have e1 : hasB (x :: r) (by8 a) = (decide (by8 x = by8 a) || hasB r (by8 a)) := rfl
    have e2 : hasB (x :: r) (by8 b) = (decide (by8 x = by8 b) || hasB r (by8 b)) := rfl
    have hx : ∀ c : UInt8, decide (by8 x = by8 c) = decide (x = c) := fun c => by
      rw [Bool.eq_iff_iff, decide_eq_true_eq, decide_eq_true_eq]; exact ⟨by8_inj, fun h => by rw [h]⟩
    have hc : [a, b].contains x = (decide (x = a) || decide (x = b)) := by
      simp only [List.contains_cons, List.contains_nil, Bool.or_false]
      cases h1 : decide (x = a) <;> cases h2 : decide (x = b) <;> simp_all
    rw [hc, e1, e2, hx a, hx b, ih]
    unfold uptoP
    rw [List.takeWhile_cons, hx b]
    cases h2 : decide (x = b)
    · simp only [Bool.not_false, if_true, List.takeWhile_cons, hx a, Bool.or_false, Bool.false_or]
      cases h1 : decide (x = a)
      · simp only [Bool.not_false, if_true, Bool.false_or, Bool.false_eq_true, if_false, List.length_cons]
        cases hasB r (by8 a) || hasB r (by8 b)
        · rfl
        · have : ((((r.takeWhile fun x => !decide (by8 x = by8 b)).takeWhile fun x => !decide (by8 x = by8 a)).length : Int) == -1) = false := by rw [beq_eq_false_iff_ne]; omega
          rw [cond_true, this]; simp
      · simp
    · simp
theorem mut_lt {w : World} {L : Lk} (hR : RelO Kx w ⟨MutO L, L.F⟩ L w) {b o : Nat} (h : Mut L b o) : b < w.heap.size := by
  rcases h with h | ⟨i, p, hp, hr⟩
  · exact hR.fs b o h
  · exact inR_lt (hR.ok i p hp) hr
def split_s : List AV → List Ob → Br
  | [.str s, .str [c]], [] => .ite (decide (s.length ≤ 1000000)) (.ret (.sh .str (splP s (by8 c))) []) .fail
  | _, _ => .fail
theorem split_okQ : Sound Kx 233 split_s := by
  refine sound_calls Tryz.func233 (by kernel_rfl) rfl fun args objs res objs' hv w L vs hR hr => ?_
  unfold split_s at hv
  split at hv
  case h_2 => cases hv
  rename_i s c
  obtain ⟨h1, h2⟩ := ite_some hv
  cases h2
  rw [decide_eq_true_eq] at h1
  refine ⟨rfl, ?_⟩
  simp only [rels, rel] at hr
  obtain ⟨v, vs', rfl, rfl, v2, vs2, rfl, rfl, rfl⟩ := hr
  obtain ⟨m, hm⟩ := hR.g.2.1 0 (by kernel_rfl)
  have key := Tryz.strings_Split ⟨s.toArray⟩ ⟨#[c]⟩ m w (by show s.toArray.size < _; simp; omega) hm (Nat.le_refl 1)
  have hl : ((Lib.splitB ⟨#[c]⟩ 0 (Lib.countB ⟨s.toArray⟩ ⟨#[c]⟩) ⟨s.toArray⟩).map (·.data.toList)) = splP s (by8 c) := by
    rw [Lib.splitB_data]
    exact split_spl c s
  have hlen := congrArg List.length hl
  rw [List.length_map] at hlen
  have hcnt : Lib.countB ⟨s.toArray⟩ ⟨#[c]⟩ + 1 = (splP s (by8 c)).length := by
    rw [← hlen]; exact (Lib.splitB_all ⟨#[c]⟩ (Nat.le_refl 1) 0 _ ⟨s.toArray⟩ rfl).symm
  generalize hL : Lib.splitB ⟨#[c]⟩ 0 (Lib.countB ⟨s.toArray⟩ ⟨#[c]⟩) ⟨s.toArray⟩ = l at key hl hlen
  rw [hcnt] at key
  refine key.mono ?_
  rintro e w' ⟨rfl, rfl⟩
  refine ⟨_, rfl, (Below.refl _ _).alloc (Nat.le_refl _) _, ?_⟩
  simp only [rel, rd]
  refine ⟨_, _, _, rfl, rfl, Nat.le_refl _, .inr ⟨w.heap.size, 0, rfl, fun i hi => ⟨[.string ⟨(splP s (by8 c))[i].toArray⟩], rfl, rfl, fun j hj => ?_⟩⟩⟩
  obtain rfl : j = 0 := by simp only [Ty.size, Ty.cts, List.length_singleton] at hj; omega
  refine ⟨?_, fun hm => absurd (mut_lt hR hm) (Nat.lt_irrefl _)⟩
  have hi' : i < l.length := by omega
  have hget : (splP s (by8 c))[i] = l[i].data.toList := by
    have : (l.map (·.data.toList))[i]? = (splP s (by8 c))[i]? := by rw [hl]
    rw [List.getElem?_map, List.getElem?_eq_getElem hi', List.getElem?_eq_getElem hi] at this
    simpa using this.symm
  rw [hget]
  simp only [Ty.size, Ty.cts, List.length_singleton, Nat.mul_one, Nat.add_zero, Nat.zero_add]
  rw [World.cell?_alloc_new]
  simp [List.getElem?_eq_getElem hi']

def iunes_O : Opt := { live := [(3, [0, 3, 4])], outs := [(3, [2, 3])] }
def iunes_C : SC := [⟨265, _, isFree_okQ⟩, ⟨264, _, hexOf_okQ⟩]
def iunes_T3 (v3x0 : Bytes) (v3x1 : Int) (v3x2 : (List Int)) (kR3 : Bytes → Int → (List Int) → Option Rs) (k3e0 : (List Int) → Option Rs) : Option Rs :=
  (bif (decide (v3x1 < (v3x0.length : Int))) then (bif (decide (0 ≤ v3x1)) then (bif (decide (v3x1 < (v3x0.length : Int))) then (bif (!(decide ((strAt v3x0 v3x1) = 37))) then (bif (decide (0 ≤ v3x1)) then (bif (decide (v3x1 < (v3x0.length : Int))) then (bif (decide (((v3x2.length + (List.length (List.set (List.replicate 1 0) 0 (strAt v3x0 v3x1)))) * 1) ≤ 140737488355328)) then (kR3 v3x0 (wk64 (v3x1 + 1)) (v3x2 ++ (List.set (List.replicate 1 0) 0 (strAt v3x0 v3x1)))) else (none)) else (none)) else (none)) else (bif (decide ((v3x0.length : Int) ≤ (wk64 (v3x1 + 2)))) then (bif (decide (0 ≤ v3x1)) then (bif (decide (v3x1 < (v3x0.length : Int))) then (bif (decide (((v3x2.length + (List.length (List.set (List.replicate 1 0) 0 (strAt v3x0 v3x1)))) * 1) ≤ 140737488355328)) then (kR3 v3x0 (wk64 (v3x1 + 1)) (v3x2 ++ (List.set (List.replicate 1 0) 0 (strAt v3x0 v3x1)))) else (none)) else (none)) else (none)) else (bif (decide (0 ≤ (wk64 (v3x1 + 1)))) then (bif (decide ((wk64 (v3x1 + 1)) < (v3x0.length : Int))) then (bif (decide ((hexI (strAt v3x0 (wk64 (v3x1 + 1)))) < 0)) then (bif (decide (0 ≤ v3x1)) then (bif (decide (v3x1 < (v3x0.length : Int))) then (bif (decide (((v3x2.length + (List.length (List.set (List.replicate 1 0) 0 (strAt v3x0 v3x1)))) * 1) ≤ 140737488355328)) then (kR3 v3x0 (wk64 (v3x1 + 1)) (v3x2 ++ (List.set (List.replicate 1 0) 0 (strAt v3x0 v3x1)))) else (none)) else (none)) else (none)) else (bif (decide (0 ≤ (wk64 (v3x1 + 2)))) then (bif (decide ((wk64 (v3x1 + 2)) < (v3x0.length : Int))) then (bif (decide ((hexI (strAt v3x0 (wk64 (v3x1 + 2)))) < 0)) then (bif (decide (0 ≤ v3x1)) then (bif (decide (v3x1 < (v3x0.length : Int))) then (bif (decide (((v3x2.length + (List.length (List.set (List.replicate 1 0) 0 (strAt v3x0 v3x1)))) * 1) ≤ 140737488355328)) then (kR3 v3x0 (wk64 (v3x1 + 1)) (v3x2 ++ (List.set (List.replicate 1 0) 0 (strAt v3x0 v3x1)))) else (none)) else (none)) else (none)) else (bif (decide (0 ≤ (wk64 (v3x1 + 1)))) then (bif (decide ((wk64 (v3x1 + 1)) < (v3x0.length : Int))) then (bif (decide (0 ≤ (wk64 (v3x1 + 2)))) then (bif (decide ((wk64 (v3x1 + 2)) < (v3x0.length : Int))) then (bif (freeB (wk8 (wk64 ((wk64 (16 * (hexI (strAt v3x0 (wk64 (v3x1 + 1)))))) + (hexI (strAt v3x0 (wk64 (v3x1 + 2)))))))) then (bif (decide (((v3x2.length + (List.length (List.set (List.replicate 1 0) 0 (wk8 (wk64 ((wk64 (16 * (hexI (strAt v3x0 (wk64 (v3x1 + 1)))))) + (hexI (strAt v3x0 (wk64 (v3x1 + 2)))))))))) * 1) ≤ 140737488355328)) then (kR3 v3x0 (wk64 ((wk64 (v3x1 + 2)) + 1)) (v3x2 ++ (List.set (List.replicate 1 0) 0 (wk8 (wk64 ((wk64 (16 * (hexI (strAt v3x0 (wk64 (v3x1 + 1)))))) + (hexI (strAt v3x0 (wk64 (v3x1 + 2)))))))))) else (none)) else (bif (decide (0 ≤ (Int.fdiv (wk8 (wk64 ((wk64 (16 * (hexI (strAt v3x0 (wk64 (v3x1 + 1)))))) + (hexI (strAt v3x0 (wk64 (v3x1 + 2))))))) 16))) then (bif (decide ((Int.fdiv (wk8 (wk64 ((wk64 (16 * (hexI (strAt v3x0 (wk64 (v3x1 + 1)))))) + (hexI (strAt v3x0 (wk64 (v3x1 + 2))))))) 16) < 16)) then (bif (decide (0 ≤ (wkk .u8 (((BitVec.toNat ((BitVec.ofInt 8 (wk8 (wk64 ((wk64 (16 * (hexI (strAt v3x0 (wk64 (v3x1 + 1)))))) + (hexI (strAt v3x0 (wk64 (v3x1 + 2)))))))) &&& (BitVec.ofInt 8 15))) : Nat) : Int)))) then (bif (decide ((wkk .u8 (((BitVec.toNat ((BitVec.ofInt 8 (wk8 (wk64 ((wk64 (16 * (hexI (strAt v3x0 (wk64 (v3x1 + 1)))))) + (hexI (strAt v3x0 (wk64 (v3x1 + 2)))))))) &&& (BitVec.ofInt 8 15))) : Nat) : Int)) < 16)) then (bif (decide (((v3x2.length + (List.length (List.set (List.set (List.set (List.replicate 3 0) 0 37) 1 (strAt ([48, 49, 50, 51, 52, 53, 54, 55, 56, 57, 65, 66, 67, 68, 69, 70] : Bytes) (Int.fdiv (wk8 (wk64 ((wk64 (16 * (hexI (strAt v3x0 (wk64 (v3x1 + 1)))))) + (hexI (strAt v3x0 (wk64 (v3x1 + 2))))))) 16))) 2 (strAt ([48, 49, 50, 51, 52, 53, 54, 55, 56, 57, 65, 66, 67, 68, 69, 70] : Bytes) (wkk .u8 (((BitVec.toNat ((BitVec.ofInt 8 (wk8 (wk64 ((wk64 (16 * (hexI (strAt v3x0 (wk64 (v3x1 + 1)))))) + (hexI (strAt v3x0 (wk64 (v3x1 + 2)))))))) &&& (BitVec.ofInt 8 15))) : Nat) : Int)))))) * 1) ≤ 140737488355328)) then (kR3 v3x0 (wk64 ((wk64 (v3x1 + 2)) + 1)) (v3x2 ++ (List.set (List.set (List.set (List.replicate 3 0) 0 37) 1 (strAt ([48, 49, 50, 51, 52, 53, 54, 55, 56, 57, 65, 66, 67, 68, 69, 70] : Bytes) (Int.fdiv (wk8 (wk64 ((wk64 (16 * (hexI (strAt v3x0 (wk64 (v3x1 + 1)))))) + (hexI (strAt v3x0 (wk64 (v3x1 + 2))))))) 16))) 2 (strAt ([48, 49, 50, 51, 52, 53, 54, 55, 56, 57, 65, 66, 67, 68, 69, 70] : Bytes) (wkk .u8 (((BitVec.toNat ((BitVec.ofInt 8 (wk8 (wk64 ((wk64 (16 * (hexI (strAt v3x0 (wk64 (v3x1 + 1)))))) + (hexI (strAt v3x0 (wk64 (v3x1 + 2)))))))) &&& (BitVec.ofInt 8 15))) : Nat) : Int)))))) else (none)) else (none)) else (none)) else (none)) else (none))) else (none)) else (none)) else (none)) else (none))) else (none)) else (none))) else (none)) else (none)))) else (none)) else (none)) else (k3e0 v3x2))
def iunes_F3 : Nat → Bytes → Int → (List Int) → ((List Int) → Option Rs) → Option Rs
  | 0, _, _, _, _ => none
  | n + 1, v3x0, v3x1, v3x2, k3e0 => iunes_T3 v3x0 v3x1 v3x2 (fun v3x0 v3x1 v3x2 => iunes_F3 n v3x0 v3x1 v3x2 k3e0) k3e0
abbrev iunes_p3 : SP := ⟨77, [0, 3, 4], [(.v .s), (.v (.ref 256 0)), (.v (.i .i64))], [(256, .arr (Ty.int .u8) 0 false)]⟩
noncomputable def iunes_b3 : Code := codeAt (codeOf Tryz.f234) [1, 1, 0, 1, 0, 0]
def iunes_E3 (f : ((List Int) → Option Rs) → Option Rs) (k : KT) : Option Rs := f (fun x3x0x0 => k (Ex.exit 0) ((St.mk (slots 0 77 [(3, (AV.ref 256 0))]) ((256, (Ob.arr (Ty.int .u8) 0 false x3x0x0)) :: ([] : (List (Nat × (Ob))))))))
def iunes_G3 (n : Nat) (d : iunes_p3.D) : KT → Option Rs := iunes_E3 (iunes_F3 n d.1.1 d.1.2.2.1 d.2.1)
def iunes_L (N : Nat) : Lam := lamOf [⟨3, iunes_p3, iunes_G3 N⟩]
theorem iunes_ok3 (N : Nat) : OkL Kx iunes_C.s iunes_O 0 N (iunes_L N) iunes_b3 := okL iunes_p3 (iunes_G3) (fun d kR => iunes_E3 (iunes_T3 d.1.1 d.1.2.2.1 d.2.1 (fun v3x0 v3x1 v3x2 => kR ((v3x0, (), v3x1, ()), (v3x2, ()))))) (fun _ _ => by kernel_rfl) (fun _ _ _ => by kernel_rfl) (fun _ _ => by kernel_rfl) (fun _ _ _ _ => by kernel_rfl) (okEach (l' := []) (by kernel_rfl) trivial)
def iunes_run (N : Nat) (s : Bytes) : Option Rs := (iunes_F3 N s 0 ([] : (List Int)) (fun x3x0x0 => (some ((AV.str (ofBytes x3x0x0)), []))))
def iunes_sOf (φ : Bytes → Br) : List AV → List Ob → Br
  | [.str s], [] => φ s
  | _, _ => .fail
theorem iunes_okOf {φ : Bytes → Br} (fu : Bytes → Nat) (hv : ∀ s res_, (φ s).val = some res_ → iunes_run (fu s) s = some res_) : Sound Kx 234 (iunes_sOf φ) := sound_lp (C := iunes_C) (O := iunes_O) Tryz.func234 (by kernel_rfl) fun args objs => by
  unfold iunes_sOf; split
  · rename_i s; exact .inr fun _ hyp_ => run_lp (Λ := iunes_L (fu s)) (by kernel_rfl) (okEach (l' := [iunes_b3]) (by kernel_rfl) ⟨iunes_ok3 _, trivial⟩) (by kernel_rfl) (hv s _ hyp_)
  · exact .inl rfl

def sunes_O : Opt := { live := [(3, [0, 3, 4])], outs := [(3, [2, 3])] }
def sunes_C : SC := [⟨217, _, sReadHex_okQ⟩, ⟨218, _, sfree_okQ⟩, ⟨219, _, supper_okQ⟩]
def sunes_T3 (v3x0 : Bytes) (v3x1 : Int) (v3x2 : (List Int)) (kR3 : Bytes → Int → (List Int) → Option Rs) (k3e0 : (List Int) → Option Rs) : Option Rs :=
  (bif (decide (v3x1 < (v3x0.length : Int))) then (bif (decide (0 ≤ v3x1)) then (bif (decide (v3x1 < (v3x0.length : Int))) then (bif (!(decide ((strAt v3x0 v3x1) = 37))) then (bif (decide (0 ≤ v3x1)) then (bif (decide (v3x1 < (v3x0.length : Int))) then (bif (decide (((v3x2.length + (List.length (List.set (List.replicate 1 0) 0 (strAt v3x0 v3x1)))) * 1) ≤ 140737488355328)) then (kR3 v3x0 (wk64 (v3x1 + 1)) (v3x2 ++ (List.set (List.replicate 1 0) 0 (strAt v3x0 v3x1)))) else (none)) else (none)) else (none)) else (bif (decide ((v3x0.length : Int) ≤ (wk64 (v3x1 + 2)))) then (bif (decide (0 ≤ v3x1)) then (bif (decide (v3x1 < (v3x0.length : Int))) then (bif (decide (((v3x2.length + (List.length (List.set (List.replicate 1 0) 0 (strAt v3x0 v3x1)))) * 1) ≤ 140737488355328)) then (kR3 v3x0 (wk64 (v3x1 + 1)) (v3x2 ++ (List.set (List.replicate 1 0) 0 (strAt v3x0 v3x1)))) else (none)) else (none)) else (none)) else (bif (decide (0 ≤ (wk64 (v3x1 + 1)))) then (bif (decide ((wk64 (v3x1 + 1)) ≤ (wk64 (v3x1 + 3)))) then (bif (decide ((wk64 (v3x1 + 3)) ≤ (v3x0.length : Int))) then (bif (!(rdHexP (cut v3x0 (wk64 (v3x1 + 1)) (wk64 (v3x1 + 3)))).2) then (bif (decide (0 ≤ v3x1)) then (bif (decide (v3x1 < (v3x0.length : Int))) then (bif (decide (((v3x2.length + (List.length (List.set (List.replicate 1 0) 0 (strAt v3x0 v3x1)))) * 1) ≤ 140737488355328)) then (kR3 v3x0 (wk64 (v3x1 + 1)) (v3x2 ++ (List.set (List.replicate 1 0) 0 (strAt v3x0 v3x1)))) else (none)) else (none)) else (none)) else (bif ((decide (0 ≤ (wk8 (rdHexP (cut v3x0 (wk64 (v3x1 + 1)) (wk64 (v3x1 + 3)))).1))) && (decide ((wk8 (rdHexP (cut v3x0 (wk64 (v3x1 + 1)) (wk64 (v3x1 + 3)))).1) < 256))) then (bif (freeB (wk8 (rdHexP (cut v3x0 (wk64 (v3x1 + 1)) (wk64 (v3x1 + 3)))).1)) then (bif (decide (((v3x2.length + (List.length (List.set (List.replicate 1 0) 0 (wk8 (rdHexP (cut v3x0 (wk64 (v3x1 + 1)) (wk64 (v3x1 + 3)))).1)))) * 1) ≤ 140737488355328)) then (kR3 v3x0 (wk64 ((wk64 (v3x1 + 2)) + 1)) (v3x2 ++ (List.set (List.replicate 1 0) 0 (wk8 (rdHexP (cut v3x0 (wk64 (v3x1 + 1)) (wk64 (v3x1 + 3)))).1)))) else (none)) else (bif (decide (0 ≤ (wk64 (v3x1 + 1)))) then (bif (decide ((wk64 (v3x1 + 1)) < (v3x0.length : Int))) then (bif (decide (0 ≤ (wk64 (v3x1 + 2)))) then (bif (decide ((wk64 (v3x1 + 2)) < (v3x0.length : Int))) then (bif (decide (((v3x2.length + (List.length (List.set (List.set (List.set (List.replicate 3 0) 0 37) 1 (upI (strAt v3x0 (wk64 (v3x1 + 1))))) 2 (upI (strAt v3x0 (wk64 (v3x1 + 2))))))) * 1) ≤ 140737488355328)) then (kR3 v3x0 (wk64 ((wk64 (v3x1 + 2)) + 1)) (v3x2 ++ (List.set (List.set (List.set (List.replicate 3 0) 0 37) 1 (upI (strAt v3x0 (wk64 (v3x1 + 1))))) 2 (upI (strAt v3x0 (wk64 (v3x1 + 2))))))) else (none)) else (none)) else (none)) else (none)) else (none))) else (none))) else (none)) else (none)) else (none)))) else (none)) else (none)) else (k3e0 v3x2))
def sunes_F3 : Nat → Bytes → Int → (List Int) → ((List Int) → Option Rs) → Option Rs
  | 0, _, _, _, _ => none
  | n + 1, v3x0, v3x1, v3x2, k3e0 => sunes_T3 v3x0 v3x1 v3x2 (fun v3x0 v3x1 v3x2 => sunes_F3 n v3x0 v3x1 v3x2 k3e0) k3e0
abbrev sunes_p3 : SP := ⟨75, [0, 3, 4], [(.v .s), (.v (.ref 256 0)), (.v (.i .i64))], [(256, .arr (Ty.int .u8) 0 false)]⟩
noncomputable def sunes_b3 : Code := codeAt (codeOf Tryz.f169) [1, 1, 0, 1, 0, 0]
def sunes_E3 (f : ((List Int) → Option Rs) → Option Rs) (k : KT) : Option Rs := f (fun x3x0x0 => k (Ex.exit 0) ((St.mk (slots 0 75 [(3, (AV.ref 256 0))]) ((256, (Ob.arr (Ty.int .u8) 0 false x3x0x0)) :: ([] : (List (Nat × (Ob))))))))
def sunes_G3 (n : Nat) (d : sunes_p3.D) : KT → Option Rs := sunes_E3 (sunes_F3 n d.1.1 d.1.2.2.1 d.2.1)
def sunes_L (N : Nat) : Lam := lamOf [⟨3, sunes_p3, sunes_G3 N⟩]
theorem sunes_ok3 (N : Nat) : OkL Kx sunes_C.s sunes_O 0 N (sunes_L N) sunes_b3 := okL sunes_p3 (sunes_G3) (fun d kR => sunes_E3 (sunes_T3 d.1.1 d.1.2.2.1 d.2.1 (fun v3x0 v3x1 v3x2 => kR ((v3x0, (), v3x1, ()), (v3x2, ()))))) (fun _ _ => by kernel_rfl) (fun _ _ _ => by kernel_rfl) (fun _ _ => by kernel_rfl) (fun _ _ _ _ => by kernel_rfl) (okEach (l' := []) (by kernel_rfl) trivial)
def sunes_run (N : Nat) (s : Bytes) : Option Rs := (sunes_F3 N s 0 ([] : (List Int)) (fun x3x0x0 => (some ((AV.str (ofBytes x3x0x0)), []))))
def sunes_sOf (φ : Bytes → Br) : List AV → List Ob → Br
  | [.str s], [] => φ s
  | _, _ => .fail
theorem sunes_okOf {φ : Bytes → Br} (fu : Bytes → Nat) (hv : ∀ s res_, (φ s).val = some res_ → sunes_run (fu s) s = some res_) : Sound Kx 169 (sunes_sOf φ) := sound_lp (C := sunes_C) (O := sunes_O) Tryz.func169 (by kernel_rfl) fun args objs => by
  unfold sunes_sOf; split
  · rename_i s; exact .inr fun _ hyp_ => run_lp (Λ := sunes_L (fu s)) (by kernel_rfl) (okEach (l' := [sunes_b3]) (by kernel_rfl) ⟨sunes_ok3 _, trivial⟩) (by kernel_rfl) (hv s _ hyp_)
  · exact .inl rfl

def allHost_O : Opt := { live := [(2, [0, 1, 5])], outs := [(2, [4])] }
def allHost_C : SC := [⟨266, _, hostB_okQ⟩]
def allHost_T2 (v2x0 : Bytes) (v2x1 : Int) (kR2 : Bytes → Int → Option Rs) (k2e0 k2e1 : Option Rs) : Option Rs :=
  (bif (decide (v2x1 < (v2x0.length : Int))) then (bif (decide (0 ≤ v2x1)) then (bif (decide (v2x1 < (v2x0.length : Int))) then (bif (!(hoB (strAt v2x0 v2x1))) then k2e0 else (kR2 v2x0 (wk64 (v2x1 + 1)))) else (none)) else (none)) else k2e1)
def allHost_F2 : Nat → Bytes → Int → (Option Rs) → (Option Rs) → Option Rs
  | 0, _, _, _, _ => none
  | n + 1, v2x0, v2x1, k2e0, k2e1 => allHost_T2 v2x0 v2x1 (fun v2x0 v2x1 => allHost_F2 n v2x0 v2x1 k2e0 k2e1) k2e0 k2e1
abbrev allHost_p2 : SP := ⟨18, [0, 1, 5], [(.v .s), (.v (.fn 266 [])), (.v (.i .i64))], []⟩
noncomputable def allHost_b2 : Code := codeAt (codeOf Tryz.f92) [1, 0, 1, 0, 0]
def allHost_E2 (f : (Option Rs) → (Option Rs) → Option Rs) (k : KT) : Option Rs := f (k Ex.ret ((St.mk (slots 0 18 [(4, (AV.bool false))]) ([] : (List (Nat × (Ob))))))) (k (Ex.exit 0) ((St.mk (slots 0 18 []) ([] : (List (Nat × (Ob)))))))
def allHost_G2 (n : Nat) (d : allHost_p2.D) : KT → Option Rs := allHost_E2 (allHost_F2 n d.1.1 d.1.2.2.1)
def allHost_L (N : Nat) : Lam := lamOf [⟨2, allHost_p2, allHost_G2 N⟩]
theorem allHost_ok2 (N : Nat) : OkL Kx allHost_C.s allHost_O 0 N (allHost_L N) allHost_b2 := okL allHost_p2 (allHost_G2) (fun d kR => allHost_E2 (allHost_T2 d.1.1 d.1.2.2.1 (fun v2x0 v2x1 => kR ((v2x0, (), v2x1, ()), ())))) (fun _ _ => by kernel_rfl) (fun _ _ _ => by kernel_rfl) (fun _ _ => by kernel_rfl) (fun _ _ _ _ => by kernel_rfl) (okEach (l' := []) (by kernel_rfl) trivial)
def allHost_run (N : Nat) (s : Bytes) : Option Rs := (allHost_F2 N s 0 (some ((AV.bool false), [])) (some ((AV.bool true), [])))
def allHost_sOf (φ : Bytes → Br) : List AV → List Ob → Br
  | [.str s, .fn 266 []], [] => φ s
  | _, _ => .fail
theorem allHost_okOf {φ : Bytes → Br} (fu : Bytes → Nat) (hv : ∀ s res_, (φ s).val = some res_ → allHost_run (fu s) s = some res_) : Sound Kx 92 (allHost_sOf φ) := sound_lp (C := allHost_C) (O := allHost_O) Tryz.func92 (by kernel_rfl) fun args objs => by
  unfold allHost_sOf; split
  · rename_i s; exact .inr fun _ hyp_ => run_lp (Λ := allHost_L (fu s)) (by kernel_rfl) (okEach (l' := [allHost_b2]) (by kernel_rfl) ⟨allHost_ok2 _, trivial⟩) (by kernel_rfl) (hv s _ hyp_)
  · exact .inl rfl

def sHost_O : Opt := { live := [(10, [3, 4, 5]), (5, [3, 4])], outs := [(10, [2, 3, 4]), (5, [2])] }
def sHost_C : SC := [⟨141, _, sdigit_okQ⟩, ⟨168, _, ssplit_okQ⟩]
def sHost_T10 (v10x0 v10x1 : Int) (v10x2 : (List Bytes)) (kR10 : Int → Int → (List Bytes) → Option Rs) (k10e0 k10e1 : Int → (List Bytes) → Option Rs) : Option Rs :=
  (bif (decide (0 ≤ v10x0)) then (bif (decide (v10x0 < (v10x2.length : Int))) then (bif (decide (v10x1 < ((List.length (List.getD v10x2 (Int.toNat v10x0) ([] : Bytes))) : Int))) then (bif (decide (0 ≤ v10x0)) then (bif (decide (v10x0 < (v10x2.length : Int))) then (bif (decide (0 ≤ v10x1)) then (bif (decide (v10x1 < ((List.length (List.getD v10x2 (Int.toNat v10x0) ([] : Bytes))) : Int))) then (bif (decide (97 ≤ (strAt (List.getD v10x2 (Int.toNat v10x0) ([] : Bytes)) v10x1))) then (bif (!(decide ((strAt (List.getD v10x2 (Int.toNat v10x0) ([] : Bytes)) v10x1) ≤ 122))) then (bif (!(isDig (strAt (List.getD v10x2 (Int.toNat v10x0) ([] : Bytes)) v10x1))) then (bif (!(decide ((strAt (List.getD v10x2 (Int.toNat v10x0) ([] : Bytes)) v10x1) = 45))) then (k10e0 v10x0 v10x2) else (kR10 v10x0 (wk64 (v10x1 + 1)) v10x2)) else (kR10 v10x0 (wk64 (v10x1 + 1)) v10x2)) else (kR10 v10x0 (wk64 (v10x1 + 1)) v10x2)) else (bif (!(isDig (strAt (List.getD v10x2 (Int.toNat v10x0) ([] : Bytes)) v10x1))) then (bif (!(decide ((strAt (List.getD v10x2 (Int.toNat v10x0) ([] : Bytes)) v10x1) = 45))) then (k10e0 v10x0 v10x2) else (kR10 v10x0 (wk64 (v10x1 + 1)) v10x2)) else (kR10 v10x0 (wk64 (v10x1 + 1)) v10x2))) else (none)) else (none)) else (none)) else (none)) else (k10e1 v10x0 v10x2)) else (none)) else (none))
def sHost_F10 : Nat → Int → Int → (List Bytes) → (Int → (List Bytes) → Option Rs) → (Int → (List Bytes) → Option Rs) → Option Rs
  | 0, _, _, _, _, _ => none
  | n + 1, v10x0, v10x1, v10x2, k10e0, k10e1 => sHost_T10 v10x0 v10x1 v10x2 (fun v10x0 v10x1 v10x2 => sHost_F10 n v10x0 v10x1 v10x2 k10e0 k10e1) k10e0 k10e1
abbrev sHost_p10 : SP := ⟨59, [3, 4, 5], [(.v (.ref 256 0)), (.v (.i .i64)), (.v (.i .i64))], [(256, .arr Ty.str 0 false)]⟩
noncomputable def sHost_b10 : Code := codeAt (codeOf Tryz.f170) [1, 1, 1, 0, 1, 0, 0, 1, 0, 0, 1, 1, 0, 0]
def sHost_E10 (f : (Int → (List Bytes) → Option Rs) → (Int → (List Bytes) → Option Rs) → Option Rs) (k : KT) : Option Rs := f (fun x10x0x0 x10x0x1 => k Ex.ret ((St.mk (slots 0 59 [(2, (AV.bool false)), (3, (AV.ref 256 0)), (4, (AV.int .i64 x10x0x0))]) ((256, (Ob.arr Ty.str 0 false x10x0x1)) :: ([] : (List (Nat × (Ob)))))))) (fun x10x1x0 x10x1x1 => k (Ex.exit 2) ((St.mk (slots 0 59 [(3, (AV.ref 256 0)), (4, (AV.int .i64 x10x1x0))]) ((256, (Ob.arr Ty.str 0 false x10x1x1)) :: ([] : (List (Nat × (Ob))))))))
def sHost_G10 (n : Nat) (d : sHost_p10.D) : KT → Option Rs := sHost_E10 (sHost_F10 n d.1.2.1 d.1.2.2.1 d.2.1)
def sHost_T5 (N : Nat) (v5x0 : Int) (v5x1 : (List Bytes)) (kR5 : Int → (List Bytes) → Option Rs) (k5e0 k5e1 : Option Rs) : Option Rs :=
  (bif (decide (v5x0 < (v5x1.length : Int))) then (bif (decide (0 ≤ v5x0)) then (bif (decide (v5x0 < (v5x1.length : Int))) then (bif (decide ((List.getD v5x1 (Int.toNat v5x0) ([] : Bytes)) = ([] : Bytes))) then k5e0 else (sHost_F10 N v5x0 0 v5x1 (fun x10x0x0 => (fun x10x0x1 => k5e0)) (fun x10x1x0 => (fun x10x1x1 => (kR5 (wk64 (x10x1x0 + 1)) x10x1x1))))) else (none)) else (none)) else k5e1)
def sHost_F5 (N : Nat) : Nat → Int → (List Bytes) → (Option Rs) → (Option Rs) → Option Rs
  | 0, _, _, _, _ => none
  | n + 1, v5x0, v5x1, k5e0, k5e1 => sHost_T5 N v5x0 v5x1 (fun v5x0 v5x1 => sHost_F5 N n v5x0 v5x1 k5e0 k5e1) k5e0 k5e1
abbrev sHost_p5 : SP := ⟨59, [3, 4], [(.v (.ref 256 0)), (.v (.i .i64))], [(256, .arr Ty.str 0 false)]⟩
noncomputable def sHost_b5 : Code := codeAt (codeOf Tryz.f170) [1, 1, 1, 0, 1, 0, 0]
def sHost_E5 (f : (Option Rs) → (Option Rs) → Option Rs) (k : KT) : Option Rs := f (k Ex.ret ((St.mk (slots 0 59 [(2, (AV.bool false))]) ([] : (List (Nat × (Ob))))))) (k (Ex.exit 0) ((St.mk (slots 0 59 []) ([] : (List (Nat × (Ob)))))))
def sHost_G5 (N n : Nat) (d : sHost_p5.D) : KT → Option Rs := sHost_E5 (sHost_F5 N n d.1.2.1 d.2.1)
def sHost_L (N : Nat) : Lam := lamOf [⟨10, sHost_p10, sHost_G10 N⟩, ⟨5, sHost_p5, sHost_G5 N N⟩]
theorem sHost_ok10 (N : Nat) : OkL Kx sHost_C.s sHost_O 0 N (sHost_L N) sHost_b10 := okL sHost_p10 (sHost_G10) (fun d kR => sHost_E10 (sHost_T10 d.1.2.1 d.1.2.2.1 d.2.1 (fun v10x0 v10x1 v10x2 => kR (((), v10x0, v10x1, ()), (v10x2, ()))))) (fun _ _ => by kernel_rfl) (fun _ _ _ => by kernel_rfl) (fun _ _ => by kernel_rfl) (fun _ _ _ _ => by kernel_rfl) (okEach (l' := []) (by kernel_rfl) trivial)
theorem sHost_ok5 (N : Nat) : OkL Kx sHost_C.s sHost_O 0 N (sHost_L N) sHost_b5 := okL sHost_p5 (sHost_G5 N) (fun d kR => sHost_E5 (sHost_T5 N d.1.2.1 d.2.1 (fun v5x0 v5x1 => kR (((), v5x0, ()), (v5x1, ()))))) (fun _ _ => by kernel_rfl) (fun _ _ _ => by kernel_rfl) (fun _ _ => by kernel_rfl) (fun _ _ _ _ => by kernel_rfl) (okEach (l' := [sHost_b10]) (by kernel_rfl) ⟨sHost_ok10 _, trivial⟩)
def sHost_run (N : Nat) (s : Bytes) : Option Rs := (bif (decide ((s.length : Int) = 0)) then (some ((AV.bool false), [])) else (bif (decide (60 < (s.length : Int))) then (some ((AV.bool false), [])) else (bif (decide (s.length ≤ 1000000)) then (sHost_F5 N N 0 (splP s 46) (some ((AV.bool false), [])) (some ((AV.bool true), []))) else (none))))
def sHost_sOf (φ : Bytes → Br) : List AV → List Ob → Br
  | [.str s], [] => φ s
  | _, _ => .fail
theorem sHost_okOf {φ : Bytes → Br} (fu : Bytes → Nat) (hv : ∀ s res_, (φ s).val = some res_ → sHost_run (fu s) s = some res_) : Sound Kx 170 (sHost_sOf φ) := sound_lp (C := sHost_C) (O := sHost_O) Tryz.func170 (by kernel_rfl) fun args objs => by
  unfold sHost_sOf; split
  · rename_i s; exact .inr fun _ hyp_ => run_lp (Λ := sHost_L (fu s)) (by kernel_rfl) (okEach (l' := [sHost_b5, sHost_b10]) (by kernel_rfl) ⟨sHost_ok5 _, sHost_ok10 _, trivial⟩) (by kernel_rfl) (hv s _ hyp_)
  · exact .inl rfl

def iDecT_C : SC := [⟨149, _, iwithin_ok⟩, ⟨189, _, itoa_ok⟩]
def iDecT_br (n : Int) : Br := (Br.ite (decide (0 ≤ n)) (Br.ite (!(decide (n ≤ 999999999999999))) (Br.ret (AV.str ([] : Bytes)) []) (Br.ite (num15 n) (Br.ret (AV.str (decD n)) []) Br.fail)) (Br.ret (AV.str ([] : Bytes)) []))
def iDecT_s : List AV → List Ob → Br
  | [.int .i64 n], [] => iDecT_br n
  | _, _ => .fail
theorem iDecT_ok : Sound Kx 231 iDecT_s := sound_br (C := iDecT_C) (O := O0) Tryz.func231 (by kernel_rfl) fun args objs => by
  unfold iDecT_s; split
  · exact .inr (by kernel_rfl)
  · exact .inl rfl

def sReadDec_O : Opt := { live := [(5, [0, 4, 5])], outs := [(5, [0, 2, 3, 4])] }
def sReadDec_C : SC := [⟨141, _, sdigit_okQ⟩, ⟨148, _, dec_okQ⟩]
def sReadDec_T5 (v5x0 : Bytes) (v5x1 v5x2 : Int) (kR5 : Bytes → Int → Int → Option Rs) (k5e0 k5e1 : Bytes → Int → Option Rs) : Option Rs :=
  (bif (decide (v5x2 < (v5x0.length : Int))) then (bif (decide (0 ≤ v5x2)) then (bif (decide (v5x2 < (v5x0.length : Int))) then (bif (!(isDig (strAt v5x0 v5x2))) then (k5e0 v5x0 v5x1) else (bif (decide (0 ≤ v5x2)) then (bif (decide (v5x2 < (v5x0.length : Int))) then (kR5 v5x0 (wk64 ((wk64 (v5x1 * 10)) + (wk64 (wk8 ((strAt v5x0 v5x2) - 48))))) (wk64 (v5x2 + 1))) else (none)) else (none))) else (none)) else (none)) else (k5e1 v5x0 v5x1))
def sReadDec_F5 : Nat → Bytes → Int → Int → (Bytes → Int → Option Rs) → (Bytes → Int → Option Rs) → Option Rs
  | 0, _, _, _, _, _ => none
  | n + 1, v5x0, v5x1, v5x2, k5e0, k5e1 => sReadDec_T5 v5x0 v5x1 v5x2 (fun v5x0 v5x1 v5x2 => sReadDec_F5 n v5x0 v5x1 v5x2 k5e0 k5e1) k5e0 k5e1
abbrev sReadDec_p5 : SP := ⟨38, [0, 4, 5], [(.v .s), (.v (.i .i64)), (.v (.i .i64))], []⟩
noncomputable def sReadDec_b5 : Code := codeAt (codeOf Tryz.f109) [1, 1, 1, 0, 1, 0, 0]
def sReadDec_E5 (f : (Bytes → Int → Option Rs) → (Bytes → Int → Option Rs) → Option Rs) (k : KT) : Option Rs := f (fun x5x0x0 x5x0x1 => k Ex.ret ((St.mk (slots 0 38 [(0, (AV.str x5x0x0)), (2, (AV.int .i64 0)), (3, (AV.bool false)), (4, (AV.int .i64 x5x0x1))]) ([] : (List (Nat × (Ob))))))) (fun x5x1x0 x5x1x1 => k (Ex.exit 0) ((St.mk (slots 0 38 [(0, (AV.str x5x1x0)), (4, (AV.int .i64 x5x1x1))]) ([] : (List (Nat × (Ob)))))))
def sReadDec_G5 (n : Nat) (d : sReadDec_p5.D) : KT → Option Rs := sReadDec_E5 (sReadDec_F5 n d.1.1 d.1.2.1 d.1.2.2.1)
def sReadDec_L (N : Nat) : Lam := lamOf [⟨5, sReadDec_p5, sReadDec_G5 N⟩]
theorem sReadDec_ok5 (N : Nat) : OkL Kx sReadDec_C.s sReadDec_O 0 N (sReadDec_L N) sReadDec_b5 := okL sReadDec_p5 (sReadDec_G5) (fun d kR => sReadDec_E5 (sReadDec_T5 d.1.1 d.1.2.1 d.1.2.2.1 (fun v5x0 v5x1 v5x2 => kR ((v5x0, v5x1, v5x2, ()), ())))) (fun _ _ => by kernel_rfl) (fun _ _ _ => by kernel_rfl) (fun _ _ => by kernel_rfl) (fun _ _ _ _ => by kernel_rfl) (okEach (l' := []) (by kernel_rfl) trivial)
def sReadDec_run (N : Nat) (s : Bytes) : Option Rs := (bif (decide ((s.length : Int) = 0)) then (some ((AV.tup ((AV.int .i64 0) :: ((AV.bool false) :: []))), [])) else (bif (decide (15 < (s.length : Int))) then (some ((AV.tup ((AV.int .i64 0) :: ((AV.bool false) :: []))), [])) else (sReadDec_F5 N s 0 0 (fun x5x0x0 => (fun x5x0x1 => (some ((AV.tup ((AV.int .i64 0) :: ((AV.bool false) :: []))), [])))) (fun x5x1x0 => (fun x5x1x1 => (bif (num15 x5x1x1) then (bif (!(decide ((decD x5x1x1) = x5x1x0))) then (some ((AV.tup ((AV.int .i64 0) :: ((AV.bool false) :: []))), [])) else (some ((AV.tup ((AV.int .i64 x5x1x1) :: ((AV.bool true) :: []))), []))) else (none)))))))
def sReadDec_sOf (φ : Bytes → Br) : List AV → List Ob → Br
  | [.str s], [] => φ s
  | _, _ => .fail
theorem sReadDec_okOf {φ : Bytes → Br} (fu : Bytes → Nat) (hv : ∀ s res_, (φ s).val = some res_ → sReadDec_run (fu s) s = some res_) : Sound Kx 109 (sReadDec_sOf φ) := sound_lp (C := sReadDec_C) (O := sReadDec_O) Tryz.func109 (by kernel_rfl) fun args objs => by
  unfold sReadDec_sOf; split
  · rename_i s; exact .inr fun _ hyp_ => run_lp (Λ := sReadDec_L (fu s)) (by kernel_rfl) (okEach (l' := [sReadDec_b5]) (by kernel_rfl) ⟨sReadDec_ok5 _, trivial⟩) (by kernel_rfl) (hv s _ hyp_)
  · exact .inl rfl


theorem tab_fin : ∀ k : Fin 256, 0 ≤ hexI (k.val : Int) → strAt hexTab (hexI (k.val : Int)) = upI (k.val : Int) := by decide +kernel
theorem tab_up (a : UInt8) (h : 0 ≤ hexI (by8 a)) : strAt hexTab (hexI (by8 a)) = upI (by8 a) := tab_fin ⟨a.toNat, a.toNat_lt⟩ h
theorem up_fin : ∀ k : Fin 256, 0 ≤ upI (k.val : Int) ∧ upI (k.val : Int) < 256 := by decide +kernel
theorem up_bd (a : UInt8) : 0 ≤ upI (by8 a) ∧ upI (by8 a) < 256 := up_fin ⟨a.toNat, a.toNat_lt⟩
theorem and_fin : ∀ x y : Fin 16, IntKind.u8.wrap ((BitVec.ofInt 8 (16 * (x.val : Int) + (y.val : Int)) &&& BitVec.ofInt 8 15).toNat : Int) = (y.val : Int) := by decide +kernel
theorem and_low (x y : Int) (hx : 0 ≤ x) (hx' : x < 16) (hy : 0 ≤ y) (hy' : y < 16) : wkk .u8 ((BitVec.ofInt 8 (16 * x + y) &&& BitVec.ofInt 8 15).toNat : Int) = y := by
  have h := and_fin ⟨x.toNat, by omega⟩ ⟨y.toNat, by omega⟩
  simp only at h
  rw [show ((x.toNat : Nat) : Int) = x by omega, show ((y.toNat : Nat) : Int) = y by omega] at h
  rw [wkk_eq]; exact h
theorem by8_ofNat (n : Int) (h0 : 0 ≤ n) (h1 : n < 256) : by8 (UInt8.ofNat n.toNat) = n := by
  unfold by8; rw [UInt8.toNat_ofNat']; omega
theorem bytesOf_cons (c : UInt8) (r : Bytes) : bytesOf (c :: r) = by8 c :: bytesOf r := rfl
theorem bytesOf_app (a b : Bytes) : bytesOf (a ++ b) = bytesOf a ++ bytesOf b := by simp [bytesOf]
theorem pct_cons (c a b : UInt8) (r : Bytes) : pctP (c :: a :: b :: r) = bif isPct c a b then pctOne a b ++ pctP r else c :: pctP (a :: b :: r) := by rw [pctP]
theorem pctOne_bytes (a b : UInt8) (h0 : 0 ≤ pairI a b) (h1 : pairI a b < 256) : bytesOf (pctOne a b) = bif freeB (pairI a b) then [pairI a b] else [37, upI (by8 a), upI (by8 b)] := by
  have ha := up_bd a
  have hb := up_bd b
  unfold pctOne
  cases freeB (pairI a b)
  · simp only [cond_false, bytesOf_cons, by8_ofNat _ ha.1 ha.2, by8_ofNat _ hb.1 hb.2]; rfl
  · simp only [cond_true, bytesOf_cons, by8_ofNat _ h0 h1]; rfl
theorem cond_of {α : Type} {b : Bool} {x y : α} (h : b = true) : (bif b then x else y) = x := by rw [h]; rfl
theorem set3 (a b c : Int) : List.set (List.set (List.set (List.replicate 3 (0 : Int)) 0 a) 1 b) 2 c = [a, b, c] := rfl
theorem hexTab_eq : ((48 : UInt8) :: ((49 : UInt8) :: ((50 : UInt8) :: ((51 : UInt8) :: ((52 : UInt8) :: ((53 : UInt8) :: ((54 : UInt8) :: ((55 : UInt8) :: ((56 : UInt8) :: ((57 : UInt8) :: ((65 : UInt8) :: ((66 : UInt8) :: ((67 : UInt8) :: ((68 : UInt8) :: ((69 : UInt8) :: ((70 : UInt8) :: ([] : (List UInt8)))))))))))))))))) = hexTab := rfl
theorem iunes_loop (s : Bytes) (hl : s.length ≤ 1000000) (k : List Int → Option Rs) : ∀ (n : Nat) (r : Bytes) (i : Int) (out : List Int), At s i r → r.length < n → out.length + r.length ≤ s.length →
    iunes_F3 n s i out k = k (out ++ bytesOf (pctP r)) := by
  intro n; induction n with
  | zero => intro r i out h hn; omega
  | succ n ih =>
    intro r i out h hn ho
    cases r with
    | nil => unfold iunes_F3 iunes_T3; simp only [h.dge, cond_false, pctP]; simp [bytesOf]
    | cons c r =>
      simp only [List.length_cons] at hn ho
      have hap : decide ((out.length + [by8 c].length) * 1 ≤ 140737488355328) = true := decide_eq_true (by simp only [List.length_singleton]; omega)
      have hi := h.nn
      have hle := h.le
      simp only [List.length_cons] at hle
      have w1 : wk64 (i + 1) = i + 1 := w64 (by omega) (by omega)
      have w2 : wk64 (i + 2) = i + 2 := w64 (by omega) (by omega)
      have hstep := ih r (i + 1) (out ++ [by8 c]) h.step (by omega) (by simp; omega)
      have hst' : k (out ++ [by8 c] ++ bytesOf (pctP r)) = k (out ++ by8 c :: bytesOf (pctP r)) := by simp
      rw [hst'] at hstep
      unfold iunes_F3 iunes_T3
      simp only [h.dlt, h.dnn, h.str, cond_true, one_set, hap, w1, w2, hstep]
      cases c1 : decide (by8 c = 37)
      · simp only [Bool.not_false, cond_true]
        have e : ∀ a b, isPct c a b = false := fun a b => by unfold isPct; rw [c1]; rfl
        cases r with
        | nil => rfl
        | cons a r => cases r with
          | nil => rfl
          | cons b r => rw [pct_cons, e a b, cond_false]; rfl
      · simp only [Bool.not_true, cond_false]
        cases r with
        | nil =>
          rw [decide_eq_true (show (s.length : Int) ≤ i + 2 by simp at hle; omega), cond_true]; rfl
        | cons a r => cases r with
          | nil =>
            rw [decide_eq_true (show (s.length : Int) ≤ i + 2 by simp at hle; omega), cond_true]; rfl
          | cons b r =>
            simp only [List.length_cons] at hle hn ho
            have h2 := h.step
            have h3 := h2.step
            have e2 : i + 1 + 1 = i + 2 := by omega
            rw [e2] at h3
            rw [decide_eq_false (show ¬ (s.length : Int) ≤ i + 2 by omega), cond_false, pct_cons]
            simp only [h2.dlt, h2.dnn, h2.str, h3.dlt, h3.dnn, h3.str, cond_true]
            unfold isPct
            rw [c1, Bool.true_and]
            have hxa := hexI_lt (by8 a)
            have hxb := hexI_lt (by8 b)
            cases c2 : decide (hexI (by8 a) < 0)
            · cases c3 : decide (hexI (by8 b) < 0)
              · have g2 := of_decide_eq_false c2
                have g3 := of_decide_eq_false c3
                have hp : wk8 (wk64 (wk64 (16 * hexI (by8 a)) + hexI (by8 b))) = pairI a b := by unfold pairI; simp (disch := omega) only [w8, w64]
                have p0 : 0 ≤ pairI a b := by unfold pairI; omega
                have p1 : pairI a b < 256 := by unfold pairI; omega
                have hd : (pairI a b).fdiv 16 = hexI (by8 a) := by unfold pairI; rw [Int.fdiv_eq_ediv_of_nonneg _ (by decide)]; omega
                have hm : wkk .u8 ((BitVec.ofInt 8 (pairI a b) &&& BitVec.ofInt 8 15).toNat : Int) = hexI (by8 b) := and_low _ _ (by omega) hxa (by omega) hxb
                have w3 : wk64 (i + 2 + 1) = i + 3 := by rw [w64 (by omega) (by omega)]; omega
                have ha3 : decide ((out.length + [37, upI (by8 a), upI (by8 b)].length) * 1 ≤ 140737488355328) = true := decide_eq_true (by simp only [List.length_cons, List.length_nil]; omega)
                have ha1 : decide ((out.length + [pairI a b].length) * 1 ≤ 140737488355328) = true := decide_eq_true (by simp only [List.length_cons, List.length_nil]; omega)
                have q1 : decide (0 ≤ hexI (by8 a)) = true := decide_eq_true (by omega)
                have q2 : decide (hexI (by8 a) < 16) = true := decide_eq_true hxa
                have q3 : decide (0 ≤ hexI (by8 b)) = true := decide_eq_true (by omega)
                have q4 : decide (hexI (by8 b) < 16) = true := decide_eq_true hxb
                simp only [hp, hd, hm, Bool.not_false, Bool.and_self, cond_true, cond_false, bytesOf_app, pctOne_bytes a b p0 p1, set3, hexTab_eq, tab_up a (by omega), tab_up b (by omega), w3, one_set, ha3, ha1, q1, q2, q3, q4]
                have h4 := h3.step
                rw [show i + 2 + 1 = i + 3 by omega] at h4
                cases freeB (pairI a b)
                · have := ih r (i + 3) (out ++ [37, upI (by8 a), upI (by8 b)]) h4 (by omega) (by simp; omega)
                  rw [cond_false, this, List.append_assoc]; rfl
                · have := ih r (i + 3) (out ++ [pairI a b]) h4 (by omega) (by simp; omega)
                  rw [cond_true, this, List.append_assoc]; rfl
              · simp only [Bool.not_false, Bool.not_true, Bool.and_false, cond_true, cond_false]; rfl
            · simp only [Bool.not_true, Bool.false_and, cond_true, cond_false]; rfl
def un8_s : List AV → List Ob → Br
  | [.str s], [] => .ite (decide (s.length ≤ 1000000)) (.ret (.str (pctP s)) []) .fail
  | _, _ => .fail
theorem iunes_okQ : Sound Kx 234 un8_s := by
  refine (iunes_okOf (φ := fun s => .ite (decide (s.length ≤ 1000000)) (.ret (.str (pctP s)) []) .fail) (fun s => s.length + 1) fun s r h => ?_).of fun args objs r h => ?_
  · obtain ⟨h1, h2⟩ := ite_some h
    cases h2
    rw [decide_eq_true_eq] at h1
    unfold iunes_run
    rw [iunes_loop s h1 _ _ s 0 [] (At.start s) (by omega) (by simp), List.nil_append, ofBytes_map]
  · unfold un8_s at h; split at h
    · exact h
    · cases h
theorem rdHex_two (a b : UInt8) : rdHexP [a, b] = bif !decide (hexI (by8 a) < 0) && !decide (hexI (by8 b) < 0) then (pairI a b, true) else (0, false) := by
  have e1 : allP isHexB [a, b] = (!decide (hexI (by8 a) < 0) && !decide (hexI (by8 b) < 0)) := by
    show (isHexB (by8 a) && (isHexB (by8 b) && true)) = _
    rw [Bool.and_true]; rfl
  have e2 : hexN [a, b] 0 = pairI a b := by
    show (0 * 16 + hexI (by8 a)) * 16 + hexI (by8 b) = _
    unfold pairI; omega
  unfold rdHexP
  rw [e1, e2]; rfl
theorem sunes_loop (s : Bytes) (hl : s.length ≤ 1000000) (k : List Int → Option Rs) : ∀ (n : Nat) (r : Bytes) (i : Int) (out : List Int), At s i r → r.length < n → out.length + r.length ≤ s.length →
    sunes_F3 n s i out k = k (out ++ bytesOf (pctP r)) := by
  intro n; induction n with
  | zero => intro r i out h hn; omega
  | succ n ih =>
    intro r i out h hn ho
    cases r with
    | nil => unfold sunes_F3 sunes_T3; simp only [h.dge, cond_false, pctP]; simp [bytesOf]
    | cons c r =>
      simp only [List.length_cons] at hn ho
      have hap : decide ((out.length + [by8 c].length) * 1 ≤ 140737488355328) = true := decide_eq_true (by simp only [List.length_singleton]; omega)
      have hi := h.nn
      have hle := h.le
      simp only [List.length_cons] at hle
      have w1 : wk64 (i + 1) = i + 1 := w64 (by omega) (by omega)
      have w2 : wk64 (i + 2) = i + 2 := w64 (by omega) (by omega)
      have w3' : wk64 (i + 3) = i + 3 := w64 (by omega) (by omega)
      have hstep := ih r (i + 1) (out ++ [by8 c]) h.step (by omega) (by simp; omega)
      have hst' : k (out ++ [by8 c] ++ bytesOf (pctP r)) = k (out ++ by8 c :: bytesOf (pctP r)) := by simp
      rw [hst'] at hstep
      unfold sunes_F3 sunes_T3
      simp only [h.dlt, h.dnn, h.str, cond_true, one_set, hap, w1, w2, w3', hstep]
      cases c1 : decide (by8 c = 37)
      · simp only [Bool.not_false, cond_true]
        have e : ∀ a b, isPct c a b = false := fun a b => by unfold isPct; rw [c1]; rfl
        cases r with
        | nil => rfl
        | cons a r => cases r with
          | nil => rfl
          | cons b r => rw [pct_cons, e a b, cond_false]; rfl
      · simp only [Bool.not_true, cond_false]
        cases r with
        | nil =>
          rw [decide_eq_true (show (s.length : Int) ≤ i + 2 by simp at hle; omega), cond_true]; rfl
        | cons a r => cases r with
          | nil =>
            rw [decide_eq_true (show (s.length : Int) ≤ i + 2 by simp at hle; omega), cond_true]; rfl
          | cons b r =>
            simp only [List.length_cons] at hle hn ho
            have h2 := h.step
            have h3 := h2.step
            have e2 : i + 1 + 1 = i + 2 := by omega
            rw [e2] at h3
            have hcut : cut s (i + 1) (i + 3) = [a, b] := by
              obtain ⟨p, hs, hp⟩ := h
              exact cut_of (p := p ++ [c]) (r := r) (by rw [hs]; simp) (by rw [hp]; simp) (by simp; omega)
            rw [decide_eq_false (show ¬ (s.length : Int) ≤ i + 2 by omega), cond_false, pct_cons]
            rw [decide_eq_true (show i + 1 ≤ i + 3 by omega), decide_eq_true (show i + 3 ≤ (s.length : Int) by omega)]
            simp only [h2.dlt, h2.dnn, h2.str, h3.dlt, h3.dnn, h3.str, cond_true, hcut, rdHex_two]
            unfold isPct
            rw [c1, Bool.true_and]
            have hxa := hexI_lt (by8 a)
            have hxb := hexI_lt (by8 b)
            cases c2 : decide (hexI (by8 a) < 0)
            · cases c3 : decide (hexI (by8 b) < 0)
              · have g2 := of_decide_eq_false c2
                have g3 := of_decide_eq_false c3
                have p0 : 0 ≤ pairI a b := by unfold pairI; omega
                have p1 : pairI a b < 256 := by unfold pairI; omega
                have hp : wk8 (pairI a b) = pairI a b := w8 p0 p1
                have w3 : wk64 (i + 2 + 1) = i + 3 := by rw [w64 (by omega) (by omega)]; omega
                have ha3 : decide ((out.length + [37, upI (by8 a), upI (by8 b)].length) * 1 ≤ 140737488355328) = true := decide_eq_true (by simp only [List.length_cons, List.length_nil]; omega)
                have ha1 : decide ((out.length + [pairI a b].length) * 1 ≤ 140737488355328) = true := decide_eq_true (by simp only [List.length_cons, List.length_nil]; omega)
                simp only [Bool.not_false, Bool.and_self, cond_true, cond_false, Bool.not_true, hp, decide_eq_true p0, decide_eq_true p1, bytesOf_app, pctOne_bytes a b p0 p1, set3, w3, one_set, ha3, ha1]
                have h4 := h3.step
                rw [show i + 2 + 1 = i + 3 by omega] at h4
                cases freeB (pairI a b)
                · have := ih r (i + 3) (out ++ [37, upI (by8 a), upI (by8 b)]) h4 (by omega) (by simp; omega)
                  rw [cond_false]
                  refine Eq.trans (cond_of ha3) ?_
                  rw [this, List.append_assoc]; rfl
                · have := ih r (i + 3) (out ++ [pairI a b]) h4 (by omega) (by simp; omega)
                  rw [cond_true, this, List.append_assoc]; rfl
              · simp only [Bool.not_false, Bool.not_true, Bool.and_false, cond_true, cond_false]; rfl
            · simp only [Bool.not_true, Bool.not_false, Bool.false_and, cond_true, cond_false]; rfl
theorem sunes_okQ : Sound Kx 169 un8_s := by
  refine (sunes_okOf (φ := fun s => .ite (decide (s.length ≤ 1000000)) (.ret (.str (pctP s)) []) .fail) (fun s => s.length + 1) fun s r h => ?_).of fun args objs r h => ?_
  · obtain ⟨h1, h2⟩ := ite_some h
    cases h2
    rw [decide_eq_true_eq] at h1
    unfold sunes_run
    rw [sunes_loop s h1 _ _ s 0 [] (At.start s) (by omega) (by simp), List.nil_append, ofBytes_map]
  · unfold un8_s at h; split at h
    · exact h
    · cases h

theorem allHost_loop (l : Bytes) (hl : l.length ≤ 4611686018427387904) (k0 k1 : Option Rs) : ∀ (r : Bytes) (i : Int) (n : Nat), At l i r → r.length < n → allHost_F2 n l i k0 k1 = bif allP hoB r then k1 else k0 := by
  intro r; induction r with
  | nil => intro i n h hn; obtain ⟨n, rfl⟩ := fuel hn; unfold allHost_F2 allHost_T2; simp only [h.dge, cond_false, allP, List.all_nil, cond_true]
  | cons a r ih =>
    intro i n h hn; obtain ⟨n, rfl⟩ := fuel hn
    have hs := ih (i + 1) n h.step (by simp at hn; omega)
    unfold allHost_F2 allHost_T2; simp only [h.dlt, h.dnn, h.str, cond_true, h.next hl, hs, allP, List.all_cons]
    cases hoB (by8 a) <;> rfl
def allHost_s := allHost_sOf fun s => .ite (isM s) (.ret (.bool (allP hoB s)) []) .fail
theorem allHost_okQ : Sound Kx 92 allHost_s := by
  refine allHost_okOf (fun s => s.length + 1) fun s r h => ?_
  obtain ⟨h1, h2⟩ := ite_some h
  unfold allHost_run
  rw [allHost_loop s (isM_le h1) _ _ s 0 _ (At.start s) (by omega), ← h2]
  cases allP hoB s <;> rfl
def laB (n : Int) : Bool := isLow n || isDig n || decide (n = 45)
theorem sHost_chars (l : List Bytes) (j : Int) (r0 : List Bytes) (w : Bytes) (hw : w.length ≤ 1000000) (hj : At l j (w :: r0)) (k0 k1 : Int → List Bytes → Option Rs) : ∀ (r : Bytes) (i : Int) (n : Nat), At w i r → r.length < n →
    sHost_F10 n j i l k0 k1 = bif allP laB r then k1 j l else k0 j l := by
  intro r; induction r with
  | nil => intro i n h hn; obtain ⟨n, rfl⟩ := fuel hn; unfold sHost_F10 sHost_T10; simp only [hj.dlt, hj.dnn, hj.get, cond_true, h.dge, cond_false]; rfl
  | cons a r ih =>
    intro i n h hn; obtain ⟨n, rfl⟩ := fuel hn
    have hs := ih (i + 1) n h.step (by simp at hn; omega)
    have hall : allP laB (a :: r) = (laB (by8 a) && allP laB r) := rfl
    unfold sHost_F10 sHost_T10
    simp only [hj.dlt, hj.dnn, hj.get, cond_true, h.dlt, h.dnn, h.str, h.next (show w.length ≤ 4611686018427387904 by omega), hs, hall]
    unfold laB isLow
    cases decide (97 ≤ by8 a) <;> cases decide (by8 a ≤ 122) <;> cases isDig (by8 a) <;> cases decide (by8 a = 45) <;> rfl
theorem sHost_loop (N : Nat) (l : List Bytes) (hl : l.length ≤ 1000000) (hN : ∀ w ∈ l, w.length < N ∧ w.length ≤ 1000000) (k0 k1 : Option Rs) : ∀ (r : List Bytes) (j : Int) (n : Nat), At l j r → r.length < n →
    sHost_F5 N n j l k0 k1 = bif r.all (fun w => !decide (w = []) && allP laB w) then k1 else k0 := by
  intro r; induction r with
  | nil => intro j n h hn; obtain ⟨n, rfl⟩ := fuel hn; unfold sHost_F5 sHost_T5; simp only [h.dge, cond_false]; rfl
  | cons w r ih =>
    intro j n h hn; obtain ⟨n, rfl⟩ := fuel hn
    have hs := ih (j + 1) n h.step (by simp at hn; omega)
    have hw : w ∈ l := by obtain ⟨p, rfl, _⟩ := h; simp
    unfold sHost_F5 sHost_T5
    simp only [h.dlt, h.dnn, h.get, cond_true, List.all_cons]
    cases c : decide (w = [])
    · rw [cond_false, sHost_chars l j r w (hN w hw).2 h _ _ w 0 N (At.start w) (hN w hw).1]
      simp only [h.next (show l.length ≤ 4611686018427387904 by omega), hs, Bool.not_false, Bool.true_and]
      cases allP laB w <;> rfl
    · simp only [cond_true, Bool.not_true, Bool.false_and, cond_false]
theorem spl_mem (b : Int) : ∀ (r cur : Bytes) (w : Bytes), w ∈ splR b cur r → w.length ≤ cur.length + r.length
  | [], cur, w, h => by
    have : w = cur := by simpa [splR] using h
    subst this; simp
  | x :: r, cur, w, h => by
    rw [splR_cons] at h
    cases c : decide (by8 x = b)
    · rw [c, cond_false] at h
      have := spl_mem b r _ w h
      simp at this ⊢; omega
    · rw [c, cond_true] at h
      rcases List.mem_cons.1 h with h | h
      · subst h; simp
      · have := spl_mem b r _ w h
        simp at this ⊢; omega
theorem all_both {α : Type} (p q : α → Bool) : ∀ l : List α, l.all (fun x => p x && q x) = (l.all p && l.all q)
  | [] => rfl
  | a :: l => by simp only [List.all_cons]; rw [all_both p q l]; cases p a <;> cases q a <;> cases l.all p <;> rfl
theorem in_nil (l : List Bytes) : (l.all fun w => !decide (w = [])) = !inP l [] := by
  unfold inP
  induction l with
  | nil => rfl
  | cons a l ih => rw [List.all_cons, List.any_cons, ih]; cases decide (a = []) <;> rfl
theorem allP_congr {p q : Int → Bool} (h : ∀ n, p n = q n) (s : Bytes) : allP p s = allP q s := by
  have : p = q := funext h
  rw [this]
theorem host_spl (s : Bytes) : ((splP s 46).all fun w => !decide (w = []) && allP laB w) = (allP hoB s && !inP (splP s 46) []) := by
  rw [all_both, in_nil]
  have := splR_all 46 laB s []
  rw [show (splP s 46).all (fun s => allP laB s) = (splR 46 [] s).all (fun s => allP laB s) from rfl, this]
  rw [show allP laB [] = true from rfl, Bool.true_and, allP_congr (q := hoB) (fun n => by
    unfold laB hoB
    cases isLow n <;> cases isDig n <;> cases decide (n = 45) <;> cases decide (n = 46) <;> rfl), Bool.and_comm]
def ho_s : List AV → List Ob → Br
  | [.str s], [] => .ret (.bool (hostP s)) []
  | _, _ => .fail
theorem sHost_okQ : Sound Kx 170 ho_s := by
  refine (sHost_okOf (φ := fun s => .ret (.bool (hostP s)) []) (fun s => s.length + 3) fun s r h => ?_).of fun args objs r h => ?_
  · cases h
    unfold sHost_run hostP
    cases c1 : decide ((s.length : Int) = 0)
    · have c1' := of_decide_eq_false c1
      cases c2 : decide ((60 : Int) < (s.length : Int))
      · have c2' := of_decide_eq_false c2
        rw [decide_eq_true (show 1 ≤ s.length by omega), decide_eq_true (show s.length ≤ 60 by omega), decide_eq_true (show s.length ≤ 1000000 by omega)]
        simp only [cond_false, cond_true, Bool.true_and]
        have hlen := spl_len s 46
        rw [sHost_loop _ (splP s 46) (by omega) (fun w hw => by have := spl_mem 46 s [] w hw; simp at this; omega) _ _ _ 0 _ (At.start _) (by omega), host_spl]
        cases allP hoB s && !inP (splP s 46) [] <;> rfl
      · have c2' := of_decide_eq_true c2
        rw [decide_eq_false (show ¬ s.length ≤ 60 by omega), Bool.and_false, Bool.false_and, Bool.false_and]; rfl
    · have c1' := of_decide_eq_true c1
      rw [decide_eq_false (show ¬ 1 ≤ s.length by omega), Bool.false_and, Bool.false_and, Bool.false_and]; rfl
  · unfold ho_s at h; split at h
    · exact h
    · cases h

def dt_s : List AV → List Ob → Br
  | [.int .i64 n], [] => .ret (.str (bif num15 n then decD n else [])) []
  | _, _ => .fail
theorem iDecT_okQ : Sound Kx 231 dt_s := iDecT_ok.of fun args objs r h => by
  unfold dt_s at h
  split at h
  case h_2 => cases h
  rename_i n
  cases h
  show (iDecT_br n).val = _
  unfold iDecT_br num15
  cases decide (0 ≤ n) <;> cases decide (n ≤ 999999999999999) <;> rfl
theorem sReadDec_loop (s : Bytes) (hl : s.length ≤ 15) (k0 k1 : Bytes → Int → Option Rs) (K0 : Option Rs) (h0 : ∀ x, k0 s x = K0) : ∀ (r : Bytes) (v i : Int) (n : Nat), At s i r → r.length < n → 0 ≤ v → (v + 1) * 10 ^ r.length ≤ 1000000000000000 →
    sReadDec_F5 n s v i k0 k1 = bif allP isDig r then k1 s (digN r v) else K0 := by
  intro r; induction r with
  | nil => intro v i n h hn hv hb; obtain ⟨n, rfl⟩ := fuel hn; unfold sReadDec_F5 sReadDec_T5; simp only [h.dge, cond_false]; rfl
  | cons a r ih =>
    intro v i n h hn hv hb; obtain ⟨n, rfl⟩ := fuel hn
    simp only [List.length_cons] at hn hb
    have hp : (1 : Int) ≤ 10 ^ r.length := by have h0 : (0 : Int) < 10 ^ r.length := Int.pow_pos (by decide); omega
    have hb' : ((v + 1) * 10) * 10 ^ r.length ≤ 1000000000000000 := by rw [Int.pow_succ, Int.mul_comm (10 ^ r.length) 10, ← Int.mul_assoc] at hb; exact hb
    have hv10 : (v + 1) * 10 ≤ 1000000000000000 := Int.le_trans (by have := Int.mul_le_mul_of_nonneg_left hp (show 0 ≤ (v + 1) * 10 by omega); rwa [Int.mul_one] at this) hb'
    have hall : allP isDig (a :: r) = (isDig (by8 a) && allP isDig r) := rfl
    have hN : digN (a :: r) v = digN r (v * 10 + (by8 a - 48)) := rfl
    unfold sReadDec_F5 sReadDec_T5
    simp only [h.dlt, h.dnn, h.str, cond_true, h.next (show s.length ≤ 4611686018427387904 by omega), h0, hall, hN]
    cases c1 : isDig (by8 a)
    · rfl
    · have c1' := c1
      simp only [isDig, Bool.and_eq_true, decide_eq_true_eq] at c1'
      have e : wk64 (wk64 (v * 10) + wk64 (wk8 (by8 a - 48))) = v * 10 + (by8 a - 48) := by simp (disch := omega) only [w8, w64]
      simp only [Bool.not_true, cond_false, Bool.true_and, e]
      exact ih _ (i + 1) n h.step (by omega) (by omega) (Int.le_trans (Int.mul_le_mul_of_nonneg_right (show v * 10 + (by8 a - 48) + 1 ≤ (v + 1) * 10 by omega) (by omega)) hb')
def rd_s : List AV → List Ob → Br
  | [.str s], [] => .ret (.tup [.int .i64 (decR s).1, .bool (decR s).2]) []
  | _, _ => .fail
theorem sReadDec_okQ : Sound Kx 109 rd_s := by
  refine (sReadDec_okOf (φ := fun s => .ret (.tup [.int .i64 (decR s).1, .bool (decR s).2]) []) (fun s => s.length + 1) fun s r h => ?_).of fun args objs r h => ?_
  · cases h
    unfold sReadDec_run decR
    cases c1 : decide ((s.length : Int) = 0)
    · have c1' := of_decide_eq_false c1
      cases c2 : decide ((15 : Int) < (s.length : Int))
      · have c2' := of_decide_eq_false c2
        simp only [cond_false]
        rw [sReadDec_loop s (by omega) _ _ (some (AV.tup [AV.int .i64 0, AV.bool false], [])) (fun _ => rfl) s 0 0 _ (At.start s) (by omega) (by omega) ?_, decide_eq_true (show 1 ≤ s.length by omega), decide_eq_true (show s.length ≤ 15 by omega)]
        · cases ha : allP isDig s
          · rfl
          · have := digN_max s ha (by omega)
            have h15 : num15 (digN s 0) = true := by unfold num15; rw [decide_eq_true this.1, decide_eq_true this.2]; rfl
            simp only [h15, cond_true, Bool.true_and]
            cases decide (decD (digN s 0) = s) <;> rfl
        · have h3 : (10 : Nat) ^ s.length ≤ 10 ^ 15 := Nat.pow_le_pow_right (by decide) (by omega)
          have e : (10 : Int) ^ s.length = ((10 ^ s.length : Nat) : Int) := by rw [Int.natCast_pow]; rfl
          rw [e]
          have e2 : (10 : Nat) ^ 15 = 1000000000000000 := by decide
          omega
      · have c2' := of_decide_eq_true c2
        rw [decide_eq_false (show ¬ s.length ≤ 15 by omega), Bool.and_false, Bool.false_and, Bool.false_and]; rfl
    · have c1' := of_decide_eq_true c1
      rw [decide_eq_false (show ¬ 1 ≤ s.length by omega), Bool.false_and, Bool.false_and, Bool.false_and]; rfl
  · unfold rd_s at h; split at h
    · exact h
    · cases h

def iClean_O : Opt := { cons := [49], live := [(6, [3, 4, 29, 30, 31])], outs := [(6, [2, 3, 4])] }
def iClean_C : SC := [⟨69, _, hpS_ok⟩, ⟨92, _, allVis_okQ⟩, ⟨232, _, coAny_okQ⟩, ⟨234, _, iunes_okQ⟩, ⟨233, _, split_okQ⟩, ⟨165, _, join_okQ⟩]
def iClean_T6 (v6x0 v6x1 : (List Bytes)) (v6x2 v6x3 : Int) (v6x4 : (List Bytes)) (kR6 : (List Bytes) → (List Bytes) → Int → Int → (List Bytes) → Option Rs) (k6e0 : (List Bytes) → (List Bytes) → Option Rs) : Option Rs :=
  (bif (decide (v6x3 < v6x2)) then (bif (decide (0 ≤ v6x3)) then (bif (decide (v6x3 < (v6x1.length : Int))) then (bif (decide ((List.getD v6x1 (Int.toNat v6x3) ([] : Bytes)) = ([46] : Bytes))) then (kR6 v6x0 v6x1 v6x2 (wk64 (v6x3 + 1)) v6x4) else (bif (decide ((List.getD v6x1 (Int.toNat v6x3) ([] : Bytes)) = ([46, 46] : Bytes))) then (bif (decide (0 ≤ (if (0 < (wk64 ((v6x4.length : Int) - 1))) then (wk64 ((v6x4.length : Int) - 1)) else 0))) then (bif (decide ((if (0 < (wk64 ((v6x4.length : Int) - 1))) then (wk64 ((v6x4.length : Int) - 1)) else 0) ≤ (v6x4.length : Int))) then (kR6 v6x0 v6x1 v6x2 (wk64 (v6x3 + 1)) (cut v6x4 0 (if (0 < (wk64 ((v6x4.length : Int) - 1))) then (wk64 ((v6x4.length : Int) - 1)) else 0))) else (none)) else (none)) else (bif (decide (((v6x4.length + (List.length (List.set (List.replicate 1 ([] : Bytes)) 0 (List.getD v6x1 (Int.toNat v6x3) ([] : Bytes))))) * 16) ≤ 140737488355328)) then (kR6 v6x0 v6x1 v6x2 (wk64 (v6x3 + 1)) (v6x4 ++ (List.set (List.replicate 1 ([] : Bytes)) 0 (List.getD v6x1 (Int.toNat v6x3) ([] : Bytes))))) else (none)))) else (none)) else (none)) else (k6e0 v6x0 v6x4))
def iClean_F6 : Nat → (List Bytes) → (List Bytes) → Int → Int → (List Bytes) → ((List Bytes) → (List Bytes) → Option Rs) → Option Rs
  | 0, _, _, _, _, _, _ => none
  | n + 1, v6x0, v6x1, v6x2, v6x3, v6x4, k6e0 => iClean_T6 v6x0 v6x1 v6x2 v6x3 v6x4 (fun v6x0 v6x1 v6x2 v6x3 v6x4 => iClean_F6 n v6x0 v6x1 v6x2 v6x3 v6x4 k6e0) k6e0
abbrev iClean_p6 : SP := ⟨69, [3, 4, 29, 30, 31], [(.v (.ref 256 0)), (.v (.sh Ty.str)), (.v (.sh Ty.str)), (.v (.i .i64)), (.v (.i .i64))], [(256, .arr Ty.str 0 false)]⟩
noncomputable def iClean_b6 : Code := codeAt (codeOf Tryz.f180) [1, 1, 1, 1, 0, 1, 0, 0]
def iClean_E6 (f : ((List Bytes) → (List Bytes) → Option Rs) → Option Rs) (k : KT) : Option Rs := f (fun x6x0x0 x6x0x1 => k (Ex.exit 0) ((St.mk (slots 0 69 [(3, (AV.ref 256 0)), (4, (AV.sh Ty.str x6x0x0))]) ((256, (Ob.arr Ty.str 0 false x6x0x1)) :: ([] : (List (Nat × (Ob))))))))
def iClean_G6 (n : Nat) (d : iClean_p6.D) : KT → Option Rs := iClean_E6 (iClean_F6 n d.1.2.1 d.1.2.2.1 d.1.2.2.2.1 d.1.2.2.2.2.1 d.2.1)
def iClean_L (N : Nat) : Lam := lamOf [⟨6, iClean_p6, iClean_G6 N⟩]
theorem iClean_ok6 (N : Nat) : OkL Kx iClean_C.s iClean_O 0 N (iClean_L N) iClean_b6 := okL iClean_p6 (iClean_G6) (fun d kR => iClean_E6 (iClean_T6 d.1.2.1 d.1.2.2.1 d.1.2.2.2.1 d.1.2.2.2.2.1 d.2.1 (fun v6x0 v6x1 v6x2 v6x3 v6x4 => kR (((), v6x0, v6x1, v6x2, v6x3, ()), (v6x4, ()))))) (fun _ _ => by kernel_rfl) (fun _ _ _ => by kernel_rfl) (fun _ _ => by kernel_rfl) (fun _ _ _ _ => by kernel_rfl) (okEach (l' := []) (by kernel_rfl) trivial)
def iClean_run (N : Nat) (p : Bytes) : Option Rs := (bif (decide (1 ≤ (p.length : Int))) then (bif (decide (1 ≤ (p.length : Int))) then (bif (!(decide ((cut p 0 1) = ([47] : Bytes)))) then (some ((AV.str ([] : Bytes)), [])) else (bif (decide (200 < (p.length : Int))) then (some ((AV.str ([] : Bytes)), [])) else (bif (isM p) then (bif (!(allP isVis p)) then (some ((AV.str ([] : Bytes)), [])) else (bif ((((decide (p.length ≤ 1000000)) && true) && (ascP p)) && true) then (bif (decide (0 ≤ (anyIx p ([35, 63] : Bytes)))) then (some ((AV.str ([] : Bytes)), [])) else (bif (decide (p.length ≤ 1000000)) then (bif (decide (1 ≤ ((List.length (pctP p)) : Int))) then (bif (decide ((List.length (cut (pctP p) 1 ((List.length (pctP p)) : Int))) ≤ 1000000)) then (iClean_F6 N (splP (cut (pctP p) 1 ((List.length (pctP p)) : Int)) 47) (splP (cut (pctP p) 1 ((List.length (pctP p)) : Int)) 47) ((List.length (splP (cut (pctP p) 1 ((List.length (pctP p)) : Int)) 47)) : Int) 0 ([] : (List Bytes)) (fun x6x0x0 => (fun x6x0x1 => (bif (decide (0 ≤ (wk64 ((x6x0x0.length : Int) - 1)))) then (bif (decide ((wk64 ((x6x0x0.length : Int) - 1)) < (x6x0x0.length : Int))) then (bif (decide ((List.getD x6x0x0 (Int.toNat (wk64 ((x6x0x0.length : Int) - 1))) ([] : Bytes)) = ([46] : Bytes))) then (bif (decide (((x6x0x1.length + 1) * 16) ≤ 140737488355328)) then (bif ((decide ((List.length (x6x0x1 ++ (List.set (List.replicate 1 ([] : Bytes)) 0 ([] : Bytes)))) ≤ 1000000)) && (decide ((List.length (joinP (x6x0x1 ++ (List.set (List.replicate 1 ([] : Bytes)) 0 ([] : Bytes))) ([47] : Bytes))) ≤ 1000000))) then (bif (decide ((1 + (List.length (joinP (x6x0x1 ++ (List.set (List.replicate 1 ([] : Bytes)) 0 ([] : Bytes))) ([47] : Bytes)))) ≤ 9223372036854775807)) then (some ((AV.str (([47] : Bytes) ++ (joinP (x6x0x1 ++ (List.set (List.replicate 1 ([] : Bytes)) 0 ([] : Bytes))) ([47] : Bytes)))), [])) else (none)) else (none)) else (none)) else (bif (decide ((List.getD x6x0x0 (Int.toNat (wk64 ((x6x0x0.length : Int) - 1))) ([] : Bytes)) = ([46, 46] : Bytes))) then (bif (decide (((x6x0x1.length + 1) * 16) ≤ 140737488355328)) then (bif ((decide ((List.length (x6x0x1 ++ (List.set (List.replicate 1 ([] : Bytes)) 0 ([] : Bytes)))) ≤ 1000000)) && (decide ((List.length (joinP (x6x0x1 ++ (List.set (List.replicate 1 ([] : Bytes)) 0 ([] : Bytes))) ([47] : Bytes))) ≤ 1000000))) then (bif (decide ((1 + (List.length (joinP (x6x0x1 ++ (List.set (List.replicate 1 ([] : Bytes)) 0 ([] : Bytes))) ([47] : Bytes)))) ≤ 9223372036854775807)) then (some ((AV.str (([47] : Bytes) ++ (joinP (x6x0x1 ++ (List.set (List.replicate 1 ([] : Bytes)) 0 ([] : Bytes))) ([47] : Bytes)))), [])) else (none)) else (none)) else (none)) else (bif ((decide (x6x0x1.length ≤ 1000000)) && (decide ((List.length (joinP x6x0x1 ([47] : Bytes))) ≤ 1000000))) then (bif (decide ((1 + (List.length (joinP x6x0x1 ([47] : Bytes)))) ≤ 9223372036854775807)) then (some ((AV.str (([47] : Bytes) ++ (joinP x6x0x1 ([47] : Bytes)))), [])) else (none)) else (none)))) else (none)) else (none))))) else (none)) else (none)) else (none))) else (none))) else (none)))) else (none)) else (some ((AV.str ([] : Bytes)), [])))
def iClean_sOf (φ : Bytes → Br) : List AV → List Ob → Br
  | [.str p], [] => φ p
  | _, _ => .fail
theorem iClean_okOf {φ : Bytes → Br} (fu : Bytes → Nat) (hv : ∀ p res_, (φ p).val = some res_ → iClean_run (fu p) p = some res_) : Sound Kx 180 (iClean_sOf φ) := sound_lp (C := iClean_C) (O := iClean_O) Tryz.func180 (by kernel_rfl) fun args objs => by
  unfold iClean_sOf; split
  · rename_i p; exact .inr fun _ hyp_ => run_lp (Λ := iClean_L (fu p)) (by kernel_rfl) (okEach (l' := [iClean_b6]) (by kernel_rfl) ⟨iClean_ok6 _, trivial⟩) (by kernel_rfl) (hv p _ hyp_)
  · exact .inl rfl

def sClean_O : Opt := { cons := [80], live := [(22, [5, 8, 9]), (11, [4, 5, 6]), (4, [0, 3])], outs := [(22, [2, 8]), (11, [2, 5]), (4, [0, 2])] }
def sClean_C : SC := [⟨106, _, svis_okQ⟩, ⟨169, _, sunes_okQ⟩, ⟨168, _, ssplit_okQ⟩]
def sClean_T4 (v4x0 : Bytes) (v4x1 : Int) (kR4 : Bytes → Int → Option Rs) (k4e0 k4e1 : Bytes → Option Rs) : Option Rs :=
  (bif (decide (v4x1 < (v4x0.length : Int))) then (bif (decide (0 ≤ v4x1)) then (bif (decide (v4x1 < (v4x0.length : Int))) then (bif (decide ((strAt v4x0 v4x1) = 35)) then (k4e0 v4x0) else (bif (decide (0 ≤ v4x1)) then (bif (decide (v4x1 < (v4x0.length : Int))) then (bif (decide ((strAt v4x0 v4x1) = 63)) then (k4e0 v4x0) else (kR4 v4x0 (wk64 (v4x1 + 1)))) else (none)) else (none))) else (none)) else (none)) else (k4e1 v4x0))
def sClean_F4 : Nat → Bytes → Int → (Bytes → Option Rs) → (Bytes → Option Rs) → Option Rs
  | 0, _, _, _, _ => none
  | n + 1, v4x0, v4x1, k4e0, k4e1 => sClean_T4 v4x0 v4x1 (fun v4x0 v4x1 => sClean_F4 n v4x0 v4x1 k4e0 k4e1) k4e0 k4e1
abbrev sClean_p4 : SP := ⟨114, [0, 3], [(.v .s), (.v (.i .i64))], []⟩
noncomputable def sClean_b4 : Code := codeAt (codeOf Tryz.f110) [1, 1, 0, 1, 0, 0]
def sClean_E4 (f : (Bytes → Option Rs) → (Bytes → Option Rs) → Option Rs) (k : KT) : Option Rs := f (fun x4x0x0 => k Ex.ret ((St.mk (slots 0 114 [(0, (AV.str x4x0x0)), (2, (AV.str ([] : Bytes)))]) ([] : (List (Nat × (Ob))))))) (fun x4x1x0 => k (Ex.exit 0) ((St.mk (slots 0 114 [(0, (AV.str x4x1x0))]) ([] : (List (Nat × (Ob)))))))
def sClean_G4 (n : Nat) (d : sClean_p4.D) : KT → Option Rs := sClean_E4 (sClean_F4 n d.1.1 d.1.2.1)
def sClean_T11 (v11x0 : Int) (v11x1 v11x2 : (List Bytes)) (kR11 : Int → (List Bytes) → (List Bytes) → Option Rs) (k11e0 : (List Bytes) → Option Rs) : Option Rs :=
  (bif (decide (v11x0 < (v11x1.length : Int))) then (bif (decide (0 ≤ v11x0)) then (bif (decide (v11x0 < (v11x1.length : Int))) then (bif (decide ((List.getD v11x1 (Int.toNat v11x0) ([] : Bytes)) = ([46] : Bytes))) then (bif (decide (0 ≤ v11x0)) then (bif (decide (v11x0 < (v11x1.length : Int))) then (bif (decide ((List.getD v11x1 (Int.toNat v11x0) ([] : Bytes)) = ([46, 46] : Bytes))) then (bif (decide (0 < (v11x2.length : Int))) then (bif (decide (0 ≤ (wk64 ((v11x2.length : Int) - 1)))) then (bif (decide ((wk64 ((v11x2.length : Int) - 1)) ≤ (v11x2.length : Int))) then (bif (decide ((wk64 (v11x0 + 1)) = (v11x1.length : Int))) then (bif (decide ((((List.length (cut v11x2 0 (wk64 ((v11x2.length : Int) - 1)))) + 1) * 16) ≤ 140737488355328)) then (kR11 (wk64 (v11x0 + 1)) v11x1 ((cut v11x2 0 (wk64 ((v11x2.length : Int) - 1))) ++ (List.set (List.replicate 1 ([] : Bytes)) 0 ([] : Bytes)))) else (none)) else (kR11 (wk64 (v11x0 + 1)) v11x1 (cut v11x2 0 (wk64 ((v11x2.length : Int) - 1))))) else (none)) else (none)) else (bif (decide ((wk64 (v11x0 + 1)) = (v11x1.length : Int))) then (bif (decide (((v11x2.length + 1) * 16) ≤ 140737488355328)) then (kR11 (wk64 (v11x0 + 1)) v11x1 (v11x2 ++ (List.set (List.replicate 1 ([] : Bytes)) 0 ([] : Bytes)))) else (none)) else (kR11 (wk64 (v11x0 + 1)) v11x1 v11x2))) else (bif (decide ((wk64 (v11x0 + 1)) = (v11x1.length : Int))) then (bif (decide (((v11x2.length + 1) * 16) ≤ 140737488355328)) then (kR11 (wk64 (v11x0 + 1)) v11x1 (v11x2 ++ (List.set (List.replicate 1 ([] : Bytes)) 0 ([] : Bytes)))) else (none)) else (kR11 (wk64 (v11x0 + 1)) v11x1 v11x2))) else (none)) else (none)) else (bif (decide (0 ≤ v11x0)) then (bif (decide (v11x0 < (v11x1.length : Int))) then (bif (decide (0 ≤ v11x0)) then (bif (decide (v11x0 < (v11x1.length : Int))) then (bif (decide ((List.getD v11x1 (Int.toNat v11x0) ([] : Bytes)) = ([46, 46] : Bytes))) then (bif (decide (0 < (v11x2.length : Int))) then (bif (decide (0 ≤ (wk64 ((v11x2.length : Int) - 1)))) then (bif (decide ((wk64 ((v11x2.length : Int) - 1)) ≤ (v11x2.length : Int))) then (bif (!(decide ((List.getD v11x1 (Int.toNat v11x0) ([] : Bytes)) = ([46, 46] : Bytes)))) then (bif (decide (0 ≤ v11x0)) then (bif (decide (v11x0 < (v11x1.length : Int))) then (bif (decide ((((List.length (cut v11x2 0 (wk64 ((v11x2.length : Int) - 1)))) + (List.length (List.set (List.replicate 1 ([] : Bytes)) 0 (List.getD v11x1 (Int.toNat v11x0) ([] : Bytes))))) * 16) ≤ 140737488355328)) then (kR11 (wk64 (v11x0 + 1)) v11x1 ((cut v11x2 0 (wk64 ((v11x2.length : Int) - 1))) ++ (List.set (List.replicate 1 ([] : Bytes)) 0 (List.getD v11x1 (Int.toNat v11x0) ([] : Bytes))))) else (none)) else (none)) else (none)) else (bif (decide ((wk64 (v11x0 + 1)) = (v11x1.length : Int))) then (bif (decide ((((List.length (cut v11x2 0 (wk64 ((v11x2.length : Int) - 1)))) + 1) * 16) ≤ 140737488355328)) then (kR11 (wk64 (v11x0 + 1)) v11x1 ((cut v11x2 0 (wk64 ((v11x2.length : Int) - 1))) ++ (List.set (List.replicate 1 ([] : Bytes)) 0 ([] : Bytes)))) else (none)) else (kR11 (wk64 (v11x0 + 1)) v11x1 (cut v11x2 0 (wk64 ((v11x2.length : Int) - 1)))))) else (none)) else (none)) else (bif (!(decide ((List.getD v11x1 (Int.toNat v11x0) ([] : Bytes)) = ([46, 46] : Bytes)))) then (bif (decide (0 ≤ v11x0)) then (bif (decide (v11x0 < (v11x1.length : Int))) then (bif (decide (((v11x2.length + (List.length (List.set (List.replicate 1 ([] : Bytes)) 0 (List.getD v11x1 (Int.toNat v11x0) ([] : Bytes))))) * 16) ≤ 140737488355328)) then (kR11 (wk64 (v11x0 + 1)) v11x1 (v11x2 ++ (List.set (List.replicate 1 ([] : Bytes)) 0 (List.getD v11x1 (Int.toNat v11x0) ([] : Bytes))))) else (none)) else (none)) else (none)) else (bif (decide ((wk64 (v11x0 + 1)) = (v11x1.length : Int))) then (bif (decide (((v11x2.length + 1) * 16) ≤ 140737488355328)) then (kR11 (wk64 (v11x0 + 1)) v11x1 (v11x2 ++ (List.set (List.replicate 1 ([] : Bytes)) 0 ([] : Bytes)))) else (none)) else (kR11 (wk64 (v11x0 + 1)) v11x1 v11x2)))) else (bif (!(decide ((List.getD v11x1 (Int.toNat v11x0) ([] : Bytes)) = ([46, 46] : Bytes)))) then (bif (decide (0 ≤ v11x0)) then (bif (decide (v11x0 < (v11x1.length : Int))) then (bif (decide (((v11x2.length + (List.length (List.set (List.replicate 1 ([] : Bytes)) 0 (List.getD v11x1 (Int.toNat v11x0) ([] : Bytes))))) * 16) ≤ 140737488355328)) then (kR11 (wk64 (v11x0 + 1)) v11x1 (v11x2 ++ (List.set (List.replicate 1 ([] : Bytes)) 0 (List.getD v11x1 (Int.toNat v11x0) ([] : Bytes))))) else (none)) else (none)) else (none)) else (bif (decide ((wk64 (v11x0 + 1)) = (v11x1.length : Int))) then (bif (decide (((v11x2.length + 1) * 16) ≤ 140737488355328)) then (kR11 (wk64 (v11x0 + 1)) v11x1 (v11x2 ++ (List.set (List.replicate 1 ([] : Bytes)) 0 ([] : Bytes)))) else (none)) else (kR11 (wk64 (v11x0 + 1)) v11x1 v11x2)))) else (none)) else (none)) else (none)) else (none))) else (none)) else (none)) else (k11e0 v11x2))
def sClean_F11 : Nat → Int → (List Bytes) → (List Bytes) → ((List Bytes) → Option Rs) → Option Rs
  | 0, _, _, _, _ => none
  | n + 1, v11x0, v11x1, v11x2, k11e0 => sClean_T11 v11x0 v11x1 v11x2 (fun v11x0 v11x1 v11x2 => sClean_F11 n v11x0 v11x1 v11x2 k11e0) k11e0
abbrev sClean_p11 : SP := ⟨114, [4, 5, 6], [(.v (.ref 320 0)), (.v (.ref 384 0)), (.v (.i .i64))], [(320, .arr Ty.str 0 false), (384, .arr Ty.str 0 false)]⟩
noncomputable def sClean_b11 : Code := codeAt (codeOf Tryz.f110) [1, 1, 1, 1, 1, 0, 1, 0, 0]
def sClean_E11 (f : ((List Bytes) → Option Rs) → Option Rs) (k : KT) : Option Rs := f (fun x11x0x0 => k (Ex.exit 2) ((St.mk (slots 0 114 [(5, (AV.ref 384 0))]) ((384, (Ob.arr Ty.str 0 false x11x0x0)) :: ([] : (List (Nat × (Ob))))))))
def sClean_G11 (n : Nat) (d : sClean_p11.D) : KT → Option Rs := sClean_E11 (sClean_F11 n d.1.2.2.1 d.2.1 d.2.2.1)
def sClean_T22 (v22x0 : Bytes) (v22x1 : Int) (v22x2 : (List Bytes)) (kR22 : Bytes → Int → (List Bytes) → Option Rs) (k22e0 : Bytes → Option Rs) : Option Rs :=
  (bif (decide (v22x1 < (v22x2.length : Int))) then (bif (decide ((v22x0.length + 1) ≤ 9223372036854775807)) then (bif (decide (0 ≤ v22x1)) then (bif (decide (v22x1 < (v22x2.length : Int))) then (bif (decide (((List.length (v22x0 ++ ([47] : Bytes))) + (List.length (List.getD v22x2 (Int.toNat v22x1) ([] : Bytes)))) ≤ 9223372036854775807)) then (kR22 ((v22x0 ++ ([47] : Bytes)) ++ (List.getD v22x2 (Int.toNat v22x1) ([] : Bytes))) (wk64 (v22x1 + 1)) v22x2) else (none)) else (none)) else (none)) else (none)) else (k22e0 v22x0))
def sClean_F22 : Nat → Bytes → Int → (List Bytes) → (Bytes → Option Rs) → Option Rs
  | 0, _, _, _, _ => none
  | n + 1, v22x0, v22x1, v22x2, k22e0 => sClean_T22 v22x0 v22x1 v22x2 (fun v22x0 v22x1 v22x2 => sClean_F22 n v22x0 v22x1 v22x2 k22e0) k22e0
abbrev sClean_p22 : SP := ⟨114, [5, 8, 9], [(.v (.ref 384 0)), (.v .s), (.v (.i .i64))], [(384, .arr Ty.str 0 false)]⟩
noncomputable def sClean_b22 : Code := codeAt (codeOf Tryz.f110) [1, 1, 1, 1, 1, 1, 1, 0, 1, 0, 0]
def sClean_E22 (f : (Bytes → Option Rs) → Option Rs) (k : KT) : Option Rs := f (fun x22x0x0 => k (Ex.exit 4) ((St.mk (slots 0 114 [(8, (AV.str x22x0x0))]) ([] : (List (Nat × (Ob)))))))
def sClean_G22 (n : Nat) (d : sClean_p22.D) : KT → Option Rs := sClean_E22 (sClean_F22 n d.1.2.1 d.1.2.2.1 d.2.1)
def sClean_L (N : Nat) : Lam := lamOf [⟨4, sClean_p4, sClean_G4 N⟩, ⟨11, sClean_p11, sClean_G11 N⟩, ⟨22, sClean_p22, sClean_G22 N⟩]
theorem sClean_ok4 (N : Nat) : OkL Kx sClean_C.s sClean_O 0 N (sClean_L N) sClean_b4 := okL sClean_p4 (sClean_G4) (fun d kR => sClean_E4 (sClean_T4 d.1.1 d.1.2.1 (fun v4x0 v4x1 => kR ((v4x0, v4x1, ()), ())))) (fun _ _ => by kernel_rfl) (fun _ _ _ => by kernel_rfl) (fun _ _ => by kernel_rfl) (fun _ _ _ _ => by kernel_rfl) (okEach (l' := []) (by kernel_rfl) trivial)
theorem sClean_ok11 (N : Nat) : OkL Kx sClean_C.s sClean_O 0 N (sClean_L N) sClean_b11 := okL sClean_p11 (sClean_G11) (fun d kR => sClean_E11 (sClean_T11 d.1.2.2.1 d.2.1 d.2.2.1 (fun v11x0 v11x1 v11x2 => kR (((), (), v11x0, ()), (v11x1, v11x2, ()))))) (fun _ _ => by kernel_rfl) (fun _ _ _ => by kernel_rfl) (fun _ _ => by kernel_rfl) (fun _ _ _ _ => by kernel_rfl) (okEach (l' := []) (by kernel_rfl) trivial)
theorem sClean_ok22 (N : Nat) : OkL Kx sClean_C.s sClean_O 0 N (sClean_L N) sClean_b22 := okL sClean_p22 (sClean_G22) (fun d kR => sClean_E22 (sClean_T22 d.1.2.1 d.1.2.2.1 d.2.1 (fun v22x0 v22x1 v22x2 => kR (((), v22x0, v22x1, ()), (v22x2, ()))))) (fun _ _ => by kernel_rfl) (fun _ _ _ => by kernel_rfl) (fun _ _ => by kernel_rfl) (fun _ _ _ _ => by kernel_rfl) (okEach (l' := []) (by kernel_rfl) trivial)
def sClean_run (N : Nat) (p : Bytes) : Option Rs := (bif (decide ((p.length : Int) = 0)) then (some ((AV.str ([] : Bytes)), [])) else (bif (decide (200 < (p.length : Int))) then (some ((AV.str ([] : Bytes)), [])) else (bif (decide (0 < (p.length : Int))) then (bif (!(decide ((strAt p 0) = 47))) then (some ((AV.str ([] : Bytes)), [])) else (bif (isM p) then (bif (!((allP isVis p) && (decide (0 < (p.length : Int))))) then (some ((AV.str ([] : Bytes)), [])) else (sClean_F4 N p 0 (fun x4x0x0 => (some ((AV.str ([] : Bytes)), []))) (fun x4x1x0 => (bif (decide (x4x1x0.length ≤ 1000000)) then (bif (decide (1 ≤ ((List.length (pctP x4x1x0)) : Int))) then (bif (decide ((List.length (cut (pctP x4x1x0) 1 ((List.length (pctP x4x1x0)) : Int))) ≤ 1000000)) then (sClean_F11 N 0 (splP (cut (pctP x4x1x0) 1 ((List.length (pctP x4x1x0)) : Int)) 47) ([] : (List Bytes)) (fun x11x0x0 => (sClean_F22 N ([] : Bytes) 0 x11x0x0 (fun x22x0x0 => (bif (decide (x22x0x0 = ([] : Bytes))) then (some ((AV.str ([47] : Bytes)), [])) else (some ((AV.str x22x0x0), []))))))) else (none)) else (none)) else (none))))) else (none))) else (none))))
def sClean_sOf (φ : Bytes → Br) : List AV → List Ob → Br
  | [.str p], [] => φ p
  | _, _ => .fail
theorem sClean_okOf {φ : Bytes → Br} (fu : Bytes → Nat) (hv : ∀ p res_, (φ p).val = some res_ → sClean_run (fu p) p = some res_) : Sound Kx 110 (sClean_sOf φ) := sound_lp (C := sClean_C) (O := sClean_O) Tryz.func110 (by kernel_rfl) fun args objs => by
  unfold sClean_sOf; split
  · rename_i p; exact .inr fun _ hyp_ => run_lp (Λ := sClean_L (fu p)) (by kernel_rfl) (okEach (l' := [sClean_b4, sClean_b11, sClean_b22]) (by kernel_rfl) ⟨sClean_ok4 _, sClean_ok11 _, sClean_ok22 _, trivial⟩) (by kernel_rfl) (hv p _ hyp_)
  · exact .inl rfl

def iHost_C : SC := [⟨149, _, iwithin_ok⟩, ⟨92, _, allHost_okQ⟩, ⟨233, _, split_okQ⟩, ⟨119, _, conS_okQ⟩]
def iHost_br (s : Bytes) : Br := (Br.ite (decide (1 ≤ (s.length : Int))) (Br.ite (!(decide ((s.length : Int) ≤ 60))) (Br.ret (AV.bool false) []) (Br.ite (isM s) (Br.ite (!(allP hoB s)) (Br.ret (AV.bool false) []) (Br.ite (decide (s.length ≤ 1000000)) (Br.ite (decide ((List.length (splP s 46)) ≤ 1000000)) (Br.ret (AV.bool (!(inP (splP s 46) ([] : Bytes)))) []) Br.fail) Br.fail)) Br.fail)) (Br.ret (AV.bool false) []))
def iHost_s : List AV → List Ob → Br
  | [.str s], [] => iHost_br s
  | _, _ => .fail
theorem iHost_ok : Sound Kx 235 iHost_s := sound_br (C := iHost_C) (O := O0) Tryz.func235 (by kernel_rfl) fun args objs => by
  unfold iHost_s; split
  · exact .inr (by kernel_rfl)
  · exact .inl rfl

def iReadDec_C : SC := [⟨230, _, atoi_okQ⟩, ⟨149, _, iwithin_ok⟩, ⟨231, _, iDecT_okQ⟩]
def iReadDec_br (s : Bytes) : Br := (Br.ite (decide (s.length ≤ 1000000)) (Br.ite (atoiOk s) (Br.ite (decide (0 ≤ (atoiV s))) (Br.ite (!(decide ((atoiV s) ≤ 999999999999999))) (Br.ret (AV.tup ((AV.int .i64 0) :: ((AV.bool false) :: []))) []) (Br.ite (!(decide ((bif (num15 (atoiV s)) then (decD (atoiV s)) else ([] : Bytes)) = s))) (Br.ret (AV.tup ((AV.int .i64 0) :: ((AV.bool false) :: []))) []) (Br.ret (AV.tup ((AV.int .i64 (atoiV s)) :: ((AV.bool true) :: []))) []))) (Br.ret (AV.tup ((AV.int .i64 0) :: ((AV.bool false) :: []))) [])) (Br.ret (AV.tup ((AV.int .i64 0) :: ((AV.bool false) :: []))) [])) Br.fail)
def iReadDec_s : List AV → List Ob → Br
  | [.str s], [] => iReadDec_br s
  | _, _ => .fail
theorem iReadDec_ok : Sound Kx 179 iReadDec_s := sound_br (C := iReadDec_C) (O := O0) Tryz.func179 (by kernel_rfl) fun args objs => by
  unfold iReadDec_s; split
  · exact .inr (by kernel_rfl)
  · exact .inl rfl


def slashP : List Bytes → Bytes
  | [] => []
  | w :: r => 47 :: (w ++ slashP r)
theorem slash_cons (w : Bytes) (r : List Bytes) : slashP (w :: r) = 47 :: (w ++ slashP r) := rfl
theorem andT {a b : Bool} (h : a = true) (k : b = true) : (a && b) = true := by rw [h, k]; rfl
theorem slash_tail (l : List Bytes) : Lib.joinTail [47] l = slashP l := by
  induction l with
  | nil => rfl
  | cons w r ih =>
    unfold slashP
    rw [← ih]
    simp [Lib.joinTail]
theorem slash_join (l : List Bytes) : 47 :: joinP l [47] = bif decide (slashP l = []) then [47] else slashP l := by
  cases l with
  | nil => rfl
  | cons w r =>
    unfold joinP
    rw [Lib.join_cons, slash_tail, slash_cons, decide_eq_false (by simp)]; rfl
theorem slash_app (a b : List Bytes) : slashP (a ++ b) = slashP a ++ slashP b := by
  induction a with
  | nil => rfl
  | cons w a ih => simp only [List.cons_append, slashP, ih]; simp
theorem slash_len (l : List Bytes) : l.length ≤ (slashP l).length := by
  induction l with
  | nil => exact Nat.le_refl _
  | cons w r ih => simp only [slashP, List.length_cons, List.length_append]; omega
theorem slash_spl (b : Int) : ∀ (r cur : Bytes), (slashP (splR b cur r)).length = cur.length + r.length + 1
  | [], cur => by simp [splR, slashP]
  | x :: r, cur => by
    rw [splR_cons]
    cases decide (by8 x = b)
    · rw [cond_false, slash_spl b r]; simp; try omega
    · rw [cond_true]; simp only [slashP, List.length_cons, List.length_append, slash_spl b r]; simp; try omega
theorem slash_drop (l : List Bytes) : (slashP l.dropLast).length ≤ (slashP l).length := by
  cases h : l.reverse with
  | nil => have : l = [] := by simpa using h
           subst this; exact Nat.le_refl _
  | cons w r =>
    have e : l = r.reverse ++ [w] := by rw [← List.reverse_reverse l, h]; simp
    rw [e, List.dropLast_concat, slash_app]; simp
theorem slash_step (out : List Bytes) (w : Bytes) : (slashP (stepS out w)).length ≤ (slashP out).length + w.length + 1 := by
  unfold stepS
  cases decide (w = [46])
  · cases decide (w = [46, 46])
    · simp only [cond_false, slash_app, List.length_append, slashP, List.length_cons]; simp; omega
    · have := slash_drop out; simp only [cond_true, cond_false]; omega
  · rw [cond_true]; omega
theorem slash_fold : ∀ (l out : List Bytes), (slashP (l.foldl stepS out)).length ≤ (slashP out).length + (slashP l).length
  | [], out => by simp
  | w :: l, out => by
    have h1 := slash_step out w
    have h2 := slash_fold l (stepS out w)
    simp only [List.foldl_cons, slashP, List.length_cons, List.length_append]; omega
theorem slash_segs (l : List Bytes) : (slashP (segsP l)).length ≤ (slashP l).length + 1 := by
  unfold segsP
  have := slash_fold l []
  rw [slash_app]
  cases dotB (l.getLastD [])
  · simp [slashP] at this ⊢; omega
  · simp [slashP] at this ⊢; omega
theorem fold_len (l : List Bytes) : ∀ out : List Bytes, (l.foldl stepS out).length ≤ out.length + l.length := by
  induction l with
  | nil => intro out; simp
  | cons w l ih => intro out; have := ih (stepS out w); have := stepS_len out w; simp only [List.foldl_cons, List.length_cons]; omega
theorem join_len (l : List Bytes) : (joinP l [47]).length ≤ (slashP l).length := by
  have := congrArg List.length (slash_join l)
  simp only [List.length_cons] at this
  cases h : decide (slashP l = [])
  · rw [h, cond_false] at this; omega
  · rw [h, cond_true] at this; simp only [List.length_cons, List.length_nil] at this; omega
theorem cut_last (l : List Bytes) (v : Int) (h : v = ((l.length - 1 : Nat) : Int)) : cut l 0 v = l.dropLast := by
  subst h
  unfold cut
  rw [Int.toNat_natCast]
  simp [List.dropLast_eq_take]
theorem getD_last : ∀ (l : List Bytes), l ≠ [] → l.getD (l.length - 1) [] = l.getLastD []
  | [], h => absurd rfl h
  | [w], _ => rfl
  | w :: x :: r, _ => by
    have ih := getD_last (x :: r) (by simp)
    simp only [List.length_cons, Nat.add_sub_cancel] at ih ⊢
    rw [List.getD_cons_succ, ih]
    rfl

theorem iClean_loop (l0 l : List Bytes) (hl : l.length ≤ 1000000) (k : List Bytes → List Bytes → Option Rs) : ∀ (r : List Bytes) (i : Int) (out : List Bytes) (n : Nat), At l i r → r.length < n → out.length + r.length ≤ 1000000 →
    iClean_F6 n l0 l (l.length : Int) i out k = k l0 (r.foldl stepS out) := by
  intro r; induction r with
  | nil => intro i out n h hn ho; obtain ⟨n, rfl⟩ := fuel hn; unfold iClean_F6 iClean_T6; simp only [h.dge, cond_false]; rfl
  | cons w r ih =>
    intro i out n h hn ho; obtain ⟨n, rfl⟩ := fuel hn
    simp only [List.length_cons] at hn ho
    have hs := stepS_len out w
    have hr := ih (i + 1) (stepS out w) n h.step (by omega) (by omega)
    have hap : decide ((out.length + [w].length) * 16 ≤ 140737488355328) = true := decide_eq_true (by simp only [List.length_singleton]; omega)
    have hv : (if (0 : Int) < wk64 ((out.length : Int) - 1) then wk64 ((out.length : Int) - 1) else 0) = ((out.length - 1 : Nat) : Int) := by
      rw [w64 (by omega) (by omega)]
      split <;> omega
    have q1 : decide ((0 : Int) ≤ ((out.length - 1 : Nat) : Int)) = true := decide_eq_true (by omega)
    have q2 : decide (((out.length - 1 : Nat) : Int) ≤ (out.length : Int)) = true := decide_eq_true (by omega)
    unfold iClean_F6 iClean_T6
    simp only [h.dlt, h.dnn, h.get, cond_true, h.next (show l.length ≤ 4611686018427387904 by omega), one_set, hap, hv, q1, q2, cut_last out _ rfl]
    simp only [List.foldl_cons]
    unfold stepS at hr ⊢
    cases c1 : decide (w = [46])
    · cases c2 : decide (w = [46, 46])
      · rw [c1, c2] at hr; exact hr
      · rw [c1, c2] at hr; exact hr
    · rw [c1] at hr; exact hr
theorem cleanP_not (c : UInt8) (r : Bytes) (h : c ≠ 47) : cleanP (c :: r) = [] := by
  unfold cleanP
  split
  · rename_i e; injection e with e1 e2; exact absurd e1 h
  · rfl
theorem cleanP_at (r : Bytes) : cleanP (47 :: r) = bif pathOk (47 :: r) then 47 :: joinP (segsP (splP (pctP r) 47)) [47] else [] := rfl
theorem vis_asc (s : Bytes) (h : allP isVis s = true) : ascP s = true := by
  unfold ascP allP at *
  rw [List.all_eq_true] at *
  intro c hc
  have := h c hc
  simp only [isVis, Bool.and_eq_true, decide_eq_true_eq] at this
  exact decide_eq_true (by omega)
theorem anyIx_nn (s : Bytes) (a b : UInt8) : decide (0 ≤ anyIx s [a, b]) = (hasB s (by8 a) || hasB s (by8 b)) := by
  rw [anyIx_cases]
  cases hasB s (by8 a) || hasB s (by8 b)
  · rfl
  · rw [cond_true]; exact decide_eq_true (by omega)
theorem segs_bd (r : Bytes) (h : r.length ≤ 200) : (splP (pctP r) 47).length ≤ 201 ∧ (slashP (splP (pctP r) 47)).length ≤ 201 := by
  have h1 := pctP_len r
  have h2 := spl_len (pctP r) 47
  have h3 := slash_spl 47 (pctP r) []
  unfold splP at h2 ⊢
  simp only [List.length_nil] at h3
  omega
theorem iClean_okQ : Sound Kx 180 (t1_s fun s => .str (cleanP s)) := by
  refine (iClean_okOf (φ := fun s => .ite (isM s) (.ret (.str (cleanP s)) []) .fail) (fun s => s.length + 3) fun p r h => ?_).of fun args objs r h => ?_
  · obtain ⟨hM, h2⟩ := ite_some h
    cases h2
    unfold iClean_run
    cases p with
    | nil => rfl
    | cons c r =>
      have e1 : decide ((1 : Int) ≤ ((c :: r).length : Int)) = true := decide_eq_true (by simp only [List.length_cons]; omega)
      have e2 : cut (c :: r) 0 1 = [c] := rfl
      simp only [e1, cond_true, e2]
      by_cases hc : c = 47
      · subst hc
        rw [cleanP_at]
        unfold pathOk
        simp only [decide_true, Bool.not_true, cond_false, hM, cond_true]
        cases d1 : decide ((200 : Int) < ((47 :: r : Bytes).length : Int))
        · have d1' := of_decide_eq_false d1
          simp only [List.length_cons] at d1'
          rw [decide_eq_true (show (47 :: r : Bytes).length ≤ 200 by simp only [List.length_cons]; omega)]
          simp only [cond_false, Bool.true_and]
          cases d2 : allP isVis (47 :: r)
          · rfl
          have a1 := vis_asc _ d2
          have m1 : decide ((47 :: r : Bytes).length ≤ 1000000) = true := decide_eq_true (by simp only [List.length_cons]; omega)
          simp only [Bool.not_true, cond_false, Bool.true_and, Bool.and_true, a1, m1, cond_true, anyIx_nn]
          rw [show by8 35 = 35 from rfl, show by8 63 = 63 from rfl]
          cases d3 : hasB (47 :: r) 35
          · cases d4 : hasB (47 :: r) 63
            · simp only [Bool.or_false, cond_false, Bool.not_false, Bool.and_self, cond_true, pctP_slash]
              have hcut : cut (47 :: pctP r) 1 ((47 :: pctP r).length : Int) = pctP r := by
                exact cut_of (p := [47]) (r := []) (by simp) rfl (by simp only [List.length_cons]; omega)
              have hb := segs_bd r (by omega)
              have hp := pctP_len r
              rw [hcut]
              have n1 : decide ((1 : Int) ≤ ((47 :: pctP r).length : Int)) = true := decide_eq_true (by simp only [List.length_cons]; omega)
              have n2 : decide ((pctP r).length ≤ 1000000) = true := decide_eq_true (by omega)
              rw [n1, n2]
              simp only [cond_true]
              generalize hL : splP (pctP r) 47 = L at hb
              have hne : L ≠ [] := by rw [← hL]; exact splR_ne 47 _ _
              rw [iClean_loop L L (by omega) _ L 0 [] _ (At.start L) (by have := spl_len (pctP r) 47; rw [hL] at this; simp only [List.length_cons]; omega) (by simp; omega)]
              have hlen : 1 ≤ L.length := List.length_pos_iff.2 hne
              have w1 : wk64 ((L.length : Int) - 1) = (L.length : Int) - 1 := w64 (by omega) (by omega)
              have t1 : ((L.length : Int) - 1).toNat = L.length - 1 := by omega
              have g1 := slash_segs L
              have g2 := join_len (segsP L)
              have g3 := slash_len (segsP L)
              have g4 := slash_fold L []
              have g5 := fold_len L []
              have q1 : decide ((0 : Int) ≤ (L.length : Int) - 1) = true := decide_eq_true (by omega)
              have q2 : decide ((L.length : Int) - 1 < (L.length : Int)) = true := decide_eq_true (by omega)
              have q3 : decide (((L.foldl stepS []).length + 1) * 16 ≤ 140737488355328) = true := decide_eq_true (by simp at g5; omega)
              simp only [w1, t1, q1, q2, q3, cond_true, getD_last L hne, one_set]
              have hsd : dotB (L.getLastD []) = (decide (L.getLastD [] = [46]) || decide (L.getLastD [] = [46, 46])) := rfl
              unfold segsP at g1 g2 g3 ⊢
              rw [hsd] at g1 g2 g3 ⊢
              cases z1 : decide (L.getLastD [] = [46])
              · cases z2 : decide (L.getLastD [] = [46, 46])
                · rw [z1, z2] at g1 g2 g3
                  simp only [Bool.or_false, cond_false, List.append_nil] at g1 g2 g3 ⊢
                  exact Eq.trans (cond_of (andT (decide_eq_true (by omega)) (decide_eq_true (by omega)))) (Eq.trans (cond_of (decide_eq_true (by omega))) rfl)
                · rw [z1, z2] at g1 g2 g3
                  simp only [Bool.or_true, cond_true, cond_false] at g1 g2 g3 ⊢
                  exact Eq.trans (cond_of (andT (decide_eq_true (by omega)) (decide_eq_true (by omega)))) (Eq.trans (cond_of (decide_eq_true (by omega))) rfl)
              · rw [z1] at g1 g2 g3
                simp only [Bool.true_or, cond_true] at g1 g2 g3 ⊢
                exact Eq.trans (cond_of (andT (decide_eq_true (by omega)) (decide_eq_true (by omega)))) (Eq.trans (cond_of (decide_eq_true (by omega))) rfl)
            · rfl
          · rfl
        · have d1' := of_decide_eq_true d1
          rw [decide_eq_false (show ¬ (47 :: r : Bytes).length ≤ 200 by omega)]
          rfl
      · rw [cleanP_not c r hc, decide_eq_false (show ¬ [c] = [47] from fun e => hc (by injection e))]
        rfl
  · unfold t1_s at h; split at h
    · exact h
    · cases h

theorem sClean_marks (p : Bytes) (hl : p.length ≤ 4611686018427387904) (k0 k1 : Bytes → Option Rs) : ∀ (r : Bytes) (i : Int) (n : Nat), At p i r → r.length < n →
    sClean_F4 n p i k0 k1 = bif hasB r 35 || hasB r 63 then k0 p else k1 p := by
  intro r; induction r with
  | nil => intro i n h hn; obtain ⟨n, rfl⟩ := fuel hn; unfold sClean_F4 sClean_T4; simp only [h.dge, cond_false]; rfl
  | cons a r ih =>
    intro i n h hn; obtain ⟨n, rfl⟩ := fuel hn
    have hs := ih (i + 1) n h.step (by simp at hn; omega)
    have e1 : hasB (a :: r) 35 = (decide (by8 a = 35) || hasB r 35) := rfl
    have e2 : hasB (a :: r) 63 = (decide (by8 a = 63) || hasB r 63) := rfl
    unfold sClean_F4 sClean_T4
    simp only [h.dlt, h.dnn, h.str, cond_true, h.next hl, hs, e1, e2]
    cases decide (by8 a = 35) <;> cases decide (by8 a = 63) <;> cases hasB r 35 <;> cases hasB r 63 <;> rfl
def segsR : List Bytes → List Bytes → List Bytes
  | out, [] => out
  | out, w :: r => segsR (stepS out w ++ (bif decide (r = []) && dotB w then [[]] else [])) r
theorem segsR_eq : ∀ (r out : List Bytes), segsR out r = r.foldl stepS out ++ (bif dotB (r.getLastD []) then [[]] else [])
  | [], out => by simp [segsR, dotB]
  | [w], out => by
    unfold segsR segsR
    rw [decide_eq_true rfl, Bool.true_and]; rfl
  | w :: x :: r, out => by
    unfold segsR
    rw [decide_eq_false (by simp), Bool.false_and, cond_false, List.append_nil, segsR_eq (x :: r)]
    rfl
theorem sClean_loop (l : List Bytes) (hl : l.length ≤ 1000000) (k : List Bytes → Option Rs) : ∀ (r : List Bytes) (i : Int) (out : List Bytes) (n : Nat), At l i r → r.length < n → out.length + r.length ≤ 1000000 →
    sClean_F11 n i l out k = k (segsR out r) := by
  intro r; induction r with
  | nil => intro i out n h hn ho; obtain ⟨n, rfl⟩ := fuel hn; unfold sClean_F11 sClean_T11; simp only [h.dge, cond_false]; rfl
  | cons w r ih =>
    intro i out n h hn ho; obtain ⟨n, rfl⟩ := fuel hn
    simp only [List.length_cons] at hn ho
    have hs := stepS_len out w
    have hle := h.le
    simp only [List.length_cons] at hle
    have hi := h.nn
    have hlast : decide (i + 1 = (l.length : Int)) = decide (r = []) := by
      rw [Bool.eq_iff_iff, decide_eq_true_eq, decide_eq_true_eq]
      constructor
      · intro e; exact List.length_eq_zero_iff.1 (by omega)
      · intro e; have : r.length = 0 := by rw [e]; rfl
        omega
    have hlen : (stepS out w ++ (bif decide (r = []) && dotB w then [[]] else [])).length + r.length ≤ 1000000 ∨ r = [] := by
      cases r with
      | nil => exact .inr rfl
      | cons x r => rw [decide_eq_false (by simp), Bool.false_and, cond_false, List.append_nil]; exact .inl (by omega)
    have hr : ∀ o, o.length + r.length ≤ 1000000 → sClean_F11 n (i + 1) l o k = k (segsR o r) := fun o ho' => ih (i + 1) o n h.step (by omega) ho'
    have hend : ∀ o : List Bytes, r = [] → sClean_F11 n (i + 1) l o k = k o := fun o hr0 => by
      subst hr0
      obtain ⟨m, rfl⟩ : ∃ m, n = m + 1 := ⟨n - 1, by simp at hn; omega⟩
      have h2 := h.step
      unfold sClean_F11 sClean_T11; simp only [h2.dge, cond_false]
    have hany : ∀ o, (o.length + r.length ≤ 1000000 ∨ r = []) → sClean_F11 n (i + 1) l o k = k (segsR o r) := fun o ho' => by
      rcases ho' with ho' | ho'
      · exact hr o ho'
      · rw [hend o ho', ho']; rfl
    have hap : decide ((out.length + [w].length) * 16 ≤ 140737488355328) = true := decide_eq_true (by simp only [List.length_singleton]; omega)
    have hap1 : decide ((out.length + 1) * 16 ≤ 140737488355328) = true := decide_eq_true (by omega)
    have hw1 : wk64 ((out.length : Int) - 1) = (out.length : Int) - 1 := w64 (by omega) (by omega)
    have main : segsR out (w :: r) = segsR (stepS out w ++ (bif decide (r = []) && dotB w then [[]] else [])) r := rfl
    rw [main]
    unfold sClean_F11 sClean_T11
    simp only [h.dlt, h.dnn, h.get, cond_true, h.next (show l.length ≤ 4611686018427387904 by omega), one_set, hap, hap1, hw1, hlast]
    by_cases g1 : w = [46]
    · have g2 : decide (w = [46, 46]) = false := decide_eq_false (by rw [g1]; decide)
      have g3 : dotB w = true := by rw [g1]; rfl
      have g4 : stepS out w = out := by unfold stepS; rw [decide_eq_true g1]; rfl
      rw [decide_eq_true g1, g2, g3, g4, Bool.and_true]
      rw [g3, g4, Bool.and_true] at hlen
      simp only [cond_true, cond_false]
      cases z : decide (r = [])
      · rw [z] at hlen; rw [cond_false] at hlen ⊢; rw [cond_false, hany _ (by simpa using hlen)]; simp
      · rw [z] at hlen; rw [cond_true] at hlen ⊢; rw [cond_true, hany _ hlen]
    · have g1' : decide (w = [46]) = false := decide_eq_false g1
      by_cases g2 : w = [46, 46]
      · have g2' : decide (w = [46, 46]) = true := decide_eq_true g2
        have g3 : dotB w = true := by unfold dotB; rw [g1', g2']; rfl
        have g4 : stepS out w = out.dropLast := by unfold stepS; rw [g1', g2']; rfl
        rw [g1', g2', g3, g4, Bool.and_true]
        rw [g3, g4, Bool.and_true] at hlen
        simp only [cond_true, cond_false, Bool.not_true]
        cases ho0 : decide ((0 : Int) < (out.length : Int))
        · have : out = [] := List.length_eq_zero_iff.1 (by have := of_decide_eq_false ho0; omega)
          subst this
          simp only [List.dropLast_nil] at hlen ⊢
          simp only [cond_false]
          cases z : decide (r = [])
          · rw [z] at hlen; rw [cond_false] at hlen ⊢; rw [cond_false, hany _ (by simpa using hlen)]; simp
          · rw [z] at hlen; rw [cond_true] at hlen ⊢; rw [cond_true, hany _ hlen]
        · have ho1 := of_decide_eq_true ho0
          have hc := cut_last out ((out.length : Int) - 1) (by omega)
          have hap2 : decide ((out.dropLast.length + 1) * 16 ≤ 140737488355328) = true := decide_eq_true (by simp; omega)
          rw [decide_eq_true (show (0 : Int) ≤ (out.length : Int) - 1 by omega), decide_eq_true (show (out.length : Int) - 1 ≤ (out.length : Int) by omega)]
          simp only [cond_true, hc, hap2]
          cases z : decide (r = [])
          · rw [z] at hlen; rw [cond_false] at hlen ⊢; rw [cond_false, hany _ (by simpa using hlen)]; simp
          · rw [z] at hlen; rw [cond_true] at hlen ⊢; rw [cond_true, hany _ hlen]
      · have g2' : decide (w = [46, 46]) = false := decide_eq_false g2
        have g3 : dotB w = false := by unfold dotB; rw [g1', g2']; rfl
        have g4 : stepS out w = out ++ [w] := by unfold stepS; rw [g1', g2']; rfl
        rw [g1', g2', g3, g4, Bool.and_false]
        rw [g3, g4, Bool.and_false] at hlen
        simp only [cond_false, Bool.not_false, cond_true]
        rw [hany _ (by simpa using hlen)]; simp
theorem sClean_text (l : List Bytes) (hl : l.length ≤ 1000000) (k : Bytes → Option Rs) : ∀ (r : List Bytes) (i : Int) (acc : Bytes) (n : Nat), At l i r → r.length < n → acc.length + (slashP r).length ≤ 1000000 →
    sClean_F22 n acc i l k = k (acc ++ slashP r) := by
  intro r; induction r with
  | nil => intro i acc n h hn ho; obtain ⟨n, rfl⟩ := fuel hn; unfold sClean_F22 sClean_T22; simp only [h.dge, cond_false, slashP, List.append_nil]
  | cons w r ih =>
    intro i acc n h hn ho; obtain ⟨n, rfl⟩ := fuel hn
    simp only [List.length_cons, slashP, List.length_append] at hn ho
    have hr := ih (i + 1) (acc ++ [47] ++ w) n h.step (by omega) (by simp; omega)
    have q1 : decide (acc.length + 1 ≤ 9223372036854775807) = true := decide_eq_true (by omega)
    have q2 : decide ((acc ++ [47]).length + w.length ≤ 9223372036854775807) = true := decide_eq_true (by simp; omega)
    unfold sClean_F22 sClean_T22
    simp only [h.dlt, h.dnn, h.get, cond_true, h.next (show l.length ≤ 4611686018427387904 by omega), q1, q2, hr, slashP]
    simp
theorem sClean_okQ : Sound Kx 110 (t1_s fun s => .str (cleanP s)) := by
  refine (sClean_okOf (φ := fun s => .ite (isM s) (.ret (.str (cleanP s)) []) .fail) (fun s => s.length + 5) fun p r h => ?_).of fun args objs r h => ?_
  · obtain ⟨hM, h2⟩ := ite_some h
    cases h2
    unfold sClean_run
    cases p with
    | nil => rfl
    | cons c r =>
      have e0 : decide (((c :: r).length : Int) = 0) = false := decide_eq_false (by simp only [List.length_cons]; omega)
      have e1 : decide ((0 : Int) < ((c :: r).length : Int)) = true := decide_eq_true (by simp only [List.length_cons]; omega)
      have e2 : strAt (c :: r) 0 = by8 c := rfl
      simp only [e0, e1, cond_true, cond_false, e2, hM, Bool.and_true]
      by_cases hc : c = 47
      · subst hc
        rw [cleanP_at]
        unfold pathOk
        rw [show decide (by8 47 = 47) = true from rfl]
        simp only [Bool.not_true, cond_false]
        cases d1 : decide ((200 : Int) < ((47 :: r : Bytes).length : Int))
        · have d1' := of_decide_eq_false d1
          simp only [List.length_cons] at d1'
          rw [decide_eq_true (show (47 :: r : Bytes).length ≤ 200 by simp only [List.length_cons]; omega)]
          simp only [cond_false, Bool.true_and]
          cases d2 : allP isVis (47 :: r)
          · rfl
          have m1 : decide ((47 :: r : Bytes).length ≤ 1000000) = true := decide_eq_true (by simp only [List.length_cons]; omega)
          simp only [Bool.not_true, cond_false, Bool.true_and]
          rw [sClean_marks _ (by simp only [List.length_cons]; omega) _ _ (47 :: r) 0 _ (At.start _) (by simp only [List.length_cons]; omega)]
          cases d3 : hasB (47 :: r) 35
          · cases d4 : hasB (47 :: r) 63
            · simp only [Bool.or_false, cond_false, Bool.not_false, Bool.and_self, cond_true, pctP_slash, m1]
              have hcut : cut (47 :: pctP r) 1 ((47 :: pctP r).length : Int) = pctP r := by
                exact cut_of (p := [47]) (r := []) (by simp) rfl (by simp only [List.length_cons]; omega)
              have hb := segs_bd r (by omega)
              have hp := pctP_len r
              rw [hcut]
              have n1 : decide ((1 : Int) ≤ ((47 :: pctP r).length : Int)) = true := decide_eq_true (by simp only [List.length_cons]; omega)
              have n2 : decide ((pctP r).length ≤ 1000000) = true := decide_eq_true (by omega)
              rw [n1, n2]
              simp only [cond_true]
              have hL0 := spl_len (pctP r) 47
              generalize hL : splP (pctP r) 47 = L at hb hL0
              rw [sClean_loop L (by omega) _ L 0 [] _ (At.start L) (by simp only [List.length_cons]; omega) (by simp; omega), segsR_eq]
              have g1 := slash_segs L
              have g3 := slash_len (segsP L)
              have g5 := fold_len L []
              rw [show L.foldl stepS [] ++ (bif dotB (L.getLastD []) then [[]] else []) = segsP L from rfl]
              have g6 : (segsP L).length ≤ L.length + 1 := by
                unfold segsP
                rw [List.length_append]
                cases dotB (L.getLastD []) <;> simp at g5 ⊢ <;> omega
              rw [sClean_text (segsP L) (by omega) _ (segsP L) 0 [] _ (At.start _) (by simp only [List.length_cons]; omega) (by simp; omega), List.nil_append, slash_join]
              cases decide (slashP (segsP L) = []) <;> rfl
            · rfl
          · rfl
        · have d1' := of_decide_eq_true d1
          rw [decide_eq_false (show ¬ (47 :: r : Bytes).length ≤ 200 by omega)]
          rfl
      · rw [cleanP_not c r hc, decide_eq_false (show ¬ by8 c = 47 from fun e => hc (by8_inj e))]
        cases decide ((200 : Int) < ((c :: r).length : Int)) <;> rfl
  · unfold t1_s at h; split at h
    · exact h
    · cases h

theorem iHost_okQ : Sound Kx 235 (t1_s fun s => .bool (hostP s)) := iHost_ok.of fun args objs r h => by
  unfold t1_s at h
  split at h
  case h_2 => cases h
  rename_i s
  obtain ⟨hM, h2⟩ := ite_some h
  cases h2
  show (iHost_br s).val = some (.bool (hostP s), [])
  unfold iHost_br hostP
  cases d1 : decide ((1 : Int) ≤ (s.length : Int))
  · have d1' := of_decide_eq_false d1
    rw [decide_eq_false (show ¬ 1 ≤ s.length by omega)]; rfl
  · have d1' := of_decide_eq_true d1
    rw [decide_eq_true (show 1 ≤ s.length by omega)]
    cases d2 : decide ((s.length : Int) ≤ 60)
    · have d2' := of_decide_eq_false d2
      rw [decide_eq_false (show ¬ s.length ≤ 60 by omega)]; rfl
    · have d2' := of_decide_eq_true d2
      have hlen := spl_len s 46
      rw [decide_eq_true (show s.length ≤ 60 by omega), hM]
      cases allP hoB s
      · rfl
      · refine (val_t rfl).trans ((val_f rfl).trans ((val_t rfl).trans ((val_f rfl).trans ((val_t (decide_eq_true (by omega))).trans ((val_t (decide_eq_true (by omega))).trans rfl)))))
def rdI_s : List AV → List Ob → Br
  | [.str s], [] => .ite (decide (s.length ≤ 1000000)) (.ret (.tup [.int .i64 (decR s).1, .bool (decR s).2]) []) .fail
  | _, _ => .fail
theorem iReadDec_okQ : Sound Kx 179 rdI_s := iReadDec_ok.of fun args objs r h => by
  unfold rdI_s at h
  split at h
  case h_2 => cases h
  rename_i s
  obtain ⟨hM, h2⟩ := ite_some h
  cases h2
  show (iReadDec_br s).val = _
  unfold iReadDec_br
  refine (val_t hM).trans ?_
  rw [decR_atoi]
  cases c1 : atoiOk s
  · rfl
  · cases c2 : decide (0 ≤ atoiV s)
    · rfl
    · cases c3 : decide (atoiV s ≤ 999999999999999)
      · rfl
      · have h15 : num15 (atoiV s) = true := by unfold num15; rw [c2, c3]; rfl
        rw [h15]
        cases c4 : decide (decD (atoiV s) = s)
        · refine (val_t rfl).trans ((val_t rfl).trans ((val_f rfl).trans ((val_t ?_).trans rfl)))
          rw [cond_true, c4]; rfl
        · refine (val_t rfl).trans ((val_t rfl).trans ((val_f rfl).trans ((val_f ?_).trans rfl)))
          rw [cond_true, c4]; rfl

def iPort_C : SC := [⟨189, _, itoa_ok⟩]
def iPort_br (h : Bytes) (po : Int) (pa q : Bytes) (hq : Bool) : Br := (Br.ite (decide (po = 80)) (Br.ret (AV.str ([] : Bytes)) []) (Br.ite (num15 po) (Br.ite (decide ((1 + (List.length (decD po))) ≤ 9223372036854775807)) (Br.ret (AV.str (([58] : Bytes) ++ (decD po))) []) Br.fail) Br.fail))
def iPort_s : List AV → List Ob → Br
  | [.agg [.str h, .int .i64 po, .str pa, .str q, .bool hq]], [] => iPort_br h po pa q hq
  | _, _ => .fail
theorem iPort_ok : Sound Kx 183 iPort_s := sound_br (C := iPort_C) (O := O0) Tryz.func183 (by kernel_rfl) fun args objs => by
  unfold iPort_s; split
  · exact .inr (by kernel_rfl)
  · exact .inl rfl

def iPathT_br (h : Bytes) (po : Int) (pa q : Bytes) (hq : Bool) : Br := (Br.ite hq (Br.ite (decide ((pa.length + 1) ≤ 9223372036854775807)) (Br.ite (decide (((List.length (pa ++ ([63] : Bytes))) + q.length) ≤ 9223372036854775807)) (Br.ret (AV.str ((pa ++ ([63] : Bytes)) ++ q)) []) Br.fail) Br.fail) (Br.ret (AV.str pa) []))
def iPathT_s : List AV → List Ob → Br
  | [.agg [.str h, .int .i64 po, .str pa, .str q, .bool hq]], [] => iPathT_br h po pa q hq
  | _, _ => .fail
theorem iPathT_ok : Sound Kx 184 iPathT_s := sound_br (C := []) (O := O0) Tryz.func184 (by kernel_rfl) fun args objs => by
  unfold iPathT_s; split
  · exact .inr (by kernel_rfl)
  · exact .inl rfl

def iUrlT_C : SC := [⟨183, _, iPort_ok⟩, ⟨184, _, iPathT_ok⟩]
def iUrlT_br (h : Bytes) (po : Int) (pa q : Bytes) (hq : Bool) : Br := (Br.ite (decide ((7 + h.length) ≤ 9223372036854775807)) (Br.ite (decide (po = 80)) (Br.ite (decide (((List.length (([104, 116, 116, 112, 58, 47, 47] : Bytes) ++ h)) + 0) ≤ 9223372036854775807)) (Br.ite hq (Br.ite (decide ((pa.length + 1) ≤ 9223372036854775807)) (Br.ite (decide (((List.length (pa ++ ([63] : Bytes))) + q.length) ≤ 9223372036854775807)) (Br.ite (decide (((List.length ((([104, 116, 116, 112, 58, 47, 47] : Bytes) ++ h) ++ ([] : Bytes))) + (List.length ((pa ++ ([63] : Bytes)) ++ q))) ≤ 9223372036854775807)) (Br.ret (AV.str (((([104, 116, 116, 112, 58, 47, 47] : Bytes) ++ h) ++ ([] : Bytes)) ++ ((pa ++ ([63] : Bytes)) ++ q))) []) Br.fail) Br.fail) Br.fail) (Br.ite (decide (((List.length ((([104, 116, 116, 112, 58, 47, 47] : Bytes) ++ h) ++ ([] : Bytes))) + pa.length) ≤ 9223372036854775807)) (Br.ret (AV.str (((([104, 116, 116, 112, 58, 47, 47] : Bytes) ++ h) ++ ([] : Bytes)) ++ pa)) []) Br.fail)) Br.fail) (Br.ite (num15 po) (Br.ite (decide ((1 + (List.length (decD po))) ≤ 9223372036854775807)) (Br.ite (decide (((List.length (([104, 116, 116, 112, 58, 47, 47] : Bytes) ++ h)) + (List.length (([58] : Bytes) ++ (decD po)))) ≤ 9223372036854775807)) (Br.ite hq (Br.ite (decide ((pa.length + 1) ≤ 9223372036854775807)) (Br.ite (decide (((List.length (pa ++ ([63] : Bytes))) + q.length) ≤ 9223372036854775807)) (Br.ite (decide (((List.length ((([104, 116, 116, 112, 58, 47, 47] : Bytes) ++ h) ++ (([58] : Bytes) ++ (decD po)))) + (List.length ((pa ++ ([63] : Bytes)) ++ q))) ≤ 9223372036854775807)) (Br.ret (AV.str (((([104, 116, 116, 112, 58, 47, 47] : Bytes) ++ h) ++ (([58] : Bytes) ++ (decD po))) ++ ((pa ++ ([63] : Bytes)) ++ q))) []) Br.fail) Br.fail) Br.fail) (Br.ite (decide (((List.length ((([104, 116, 116, 112, 58, 47, 47] : Bytes) ++ h) ++ (([58] : Bytes) ++ (decD po)))) + pa.length) ≤ 9223372036854775807)) (Br.ret (AV.str (((([104, 116, 116, 112, 58, 47, 47] : Bytes) ++ h) ++ (([58] : Bytes) ++ (decD po))) ++ pa)) []) Br.fail)) Br.fail) Br.fail) Br.fail)) Br.fail)
def iUrlT_s : List AV → List Ob → Br
  | [.agg [.str h, .int .i64 po, .str pa, .str q, .bool hq]], [] => iUrlT_br h po pa q hq
  | _, _ => .fail
theorem iUrlT_ok : Sound Kx 120 iUrlT_s := sound_br (C := iUrlT_C) (O := O0) Tryz.func120 (by kernel_rfl) fun args objs => by
  unfold iUrlT_s; split
  · exact .inr (by kernel_rfl)
  · exact .inl rfl

def sPort_C : SC := [⟨148, _, dec_okQ⟩]
def sPort_br (h : Bytes) (po : Int) (pa q : Bytes) (hq : Bool) : Br := (Br.ite (decide (po = 80)) (Br.ret (AV.str ([] : Bytes)) []) (Br.ite (num15 po) (Br.ite (decide ((1 + (List.length (decD po))) ≤ 9223372036854775807)) (Br.ret (AV.str (([58] : Bytes) ++ (decD po))) []) Br.fail) Br.fail))
def sPort_s : List AV → List Ob → Br
  | [.agg [.str h, .int .i64 po, .str pa, .str q, .bool hq]], [] => sPort_br h po pa q hq
  | _, _ => .fail
theorem sPort_ok : Sound Kx 171 sPort_s := sound_br (C := sPort_C) (O := O0) Tryz.func171 (by kernel_rfl) fun args objs => by
  unfold sPort_s; split
  · exact .inr (by kernel_rfl)
  · exact .inl rfl

def sQuery_br (h : Bytes) (po : Int) (pa q : Bytes) (hq : Bool) : Br := (Br.ite hq (Br.ite (decide ((1 + q.length) ≤ 9223372036854775807)) (Br.ret (AV.str (([63] : Bytes) ++ q)) []) Br.fail) (Br.ret (AV.str ([] : Bytes)) []))
def sQuery_s : List AV → List Ob → Br
  | [.agg [.str h, .int .i64 po, .str pa, .str q, .bool hq]], [] => sQuery_br h po pa q hq
  | _, _ => .fail
theorem sQuery_ok : Sound Kx 172 sQuery_s := sound_br (C := []) (O := O0) Tryz.func172 (by kernel_rfl) fun args objs => by
  unfold sQuery_s; split
  · exact .inr (by kernel_rfl)
  · exact .inl rfl

def sUrlT_C : SC := [⟨171, _, sPort_ok⟩, ⟨172, _, sQuery_ok⟩]
def sUrlT_br (h : Bytes) (po : Int) (pa q : Bytes) (hq : Bool) : Br := (Br.ite (decide ((7 + h.length) ≤ 9223372036854775807)) (Br.ite (decide (po = 80)) (Br.ite (decide (((List.length (([104, 116, 116, 112, 58, 47, 47] : Bytes) ++ h)) + 0) ≤ 9223372036854775807)) (Br.ite (decide (((List.length ((([104, 116, 116, 112, 58, 47, 47] : Bytes) ++ h) ++ ([] : Bytes))) + pa.length) ≤ 9223372036854775807)) (Br.ite hq (Br.ite (decide ((1 + q.length) ≤ 9223372036854775807)) (Br.ite (decide (((List.length (((([104, 116, 116, 112, 58, 47, 47] : Bytes) ++ h) ++ ([] : Bytes)) ++ pa)) + (List.length (([63] : Bytes) ++ q))) ≤ 9223372036854775807)) (Br.ret (AV.str ((((([104, 116, 116, 112, 58, 47, 47] : Bytes) ++ h) ++ ([] : Bytes)) ++ pa) ++ (([63] : Bytes) ++ q))) []) Br.fail) Br.fail) (Br.ite (decide (((List.length (((([104, 116, 116, 112, 58, 47, 47] : Bytes) ++ h) ++ ([] : Bytes)) ++ pa)) + 0) ≤ 9223372036854775807)) (Br.ret (AV.str ((((([104, 116, 116, 112, 58, 47, 47] : Bytes) ++ h) ++ ([] : Bytes)) ++ pa) ++ ([] : Bytes))) []) Br.fail)) Br.fail) Br.fail) (Br.ite (num15 po) (Br.ite (decide ((1 + (List.length (decD po))) ≤ 9223372036854775807)) (Br.ite (decide (((List.length (([104, 116, 116, 112, 58, 47, 47] : Bytes) ++ h)) + (List.length (([58] : Bytes) ++ (decD po)))) ≤ 9223372036854775807)) (Br.ite (decide (((List.length ((([104, 116, 116, 112, 58, 47, 47] : Bytes) ++ h) ++ (([58] : Bytes) ++ (decD po)))) + pa.length) ≤ 9223372036854775807)) (Br.ite hq (Br.ite (decide ((1 + q.length) ≤ 9223372036854775807)) (Br.ite (decide (((List.length (((([104, 116, 116, 112, 58, 47, 47] : Bytes) ++ h) ++ (([58] : Bytes) ++ (decD po))) ++ pa)) + (List.length (([63] : Bytes) ++ q))) ≤ 9223372036854775807)) (Br.ret (AV.str ((((([104, 116, 116, 112, 58, 47, 47] : Bytes) ++ h) ++ (([58] : Bytes) ++ (decD po))) ++ pa) ++ (([63] : Bytes) ++ q))) []) Br.fail) Br.fail) (Br.ite (decide (((List.length (((([104, 116, 116, 112, 58, 47, 47] : Bytes) ++ h) ++ (([58] : Bytes) ++ (decD po))) ++ pa)) + 0) ≤ 9223372036854775807)) (Br.ret (AV.str ((((([104, 116, 116, 112, 58, 47, 47] : Bytes) ++ h) ++ (([58] : Bytes) ++ (decD po))) ++ pa) ++ ([] : Bytes))) []) Br.fail)) Br.fail) Br.fail) Br.fail) Br.fail)) Br.fail)
def sUrlT_s : List AV → List Ob → Br
  | [.agg [.str h, .int .i64 po, .str pa, .str q, .bool hq]], [] => sUrlT_br h po pa q hq
  | _, _ => .fail
theorem sUrlT_ok : Sound Kx 112 sUrlT_s := sound_br (C := sUrlT_C) (O := O0) Tryz.func112 (by kernel_rfl) fun args objs => by
  unfold sUrlT_s; split
  · exact .inr (by kernel_rfl)
  · exact .inl rfl

def iReadPath_C : SC := [⟨177, _, cut_okQ⟩]
def iReadPath_br (s : Bytes) : Br := (Br.ite (decide (s.length ≤ 1000000)) (Br.ret (AV.agg ((AV.str ([] : Bytes)) :: ((AV.int .i64 0) :: ((AV.str (cutP s ([63] : Bytes)).1) :: ((AV.str (cutP s ([63] : Bytes)).2.1) :: ((AV.bool (cutP s ([63] : Bytes)).2.2) :: [])))))) []) Br.fail)
def iReadPath_s : List AV → List Ob → Br
  | [.str s], [] => iReadPath_br s
  | _, _ => .fail
theorem iReadPath_ok : Sound Kx 178 iReadPath_s := sound_br (C := iReadPath_C) (O := O0) Tryz.func178 (by kernel_rfl) fun args objs => by
  unfold iReadPath_s; split
  · exact .inr (by kernel_rfl)
  · exact .inl rfl


def smU (h : Bytes) (po : Int) (pa q : Bytes) : Bool := decide (h.length ≤ 1000000) && num15 po && decide (pa.length ≤ 1000000) && isM q
def ur_s (p : Bytes → Int → Bytes → Bytes → Bool → Bool) (v : Bytes → Int → Bytes → Bytes → Bool → AV) : List AV → List Ob → Br
  | [.agg [.str h, .int .i64 po, .str pa, .str q, .bool hq]], [] => .ite (p h po pa q hq) (.ret (v h po pa q hq) []) .fail
  | _, _ => .fail
def ut_s : List AV → List Ob → Br := ur_s (fun h po pa q _ => smU h po pa q) (fun h po pa q hq => .str (urlT h po pa q hq))
theorem of_ur {n : Nat} {s : List AV → List Ob → Br} (hs : Sound Kx n s) {p : Bytes → Int → Bytes → Bytes → Bool → Bool} {v : Bytes → Int → Bytes → Bytes → Bool → AV} (h : ∀ ho po pa q hq, p ho po pa q hq = true → (s [.agg [.str ho, .int .i64 po, .str pa, .str q, .bool hq]] []).val = some (v ho po pa q hq, [])) : Sound Kx n (ur_s p v) := hs.of fun args objs r hv => by
  unfold ur_s at hv
  split at hv
  case h_2 => cases hv
  obtain ⟨h1, h2⟩ := ite_some hv
  cases h2
  exact h _ _ _ _ _ h1
theorem dec_len20 (n : Int) (h : num15 n = true) : (decD n).length ≤ 15 := by
  unfold num15 at h
  simp only [Bool.and_eq_true, decide_eq_true_eq] at h
  rw [decD_eq]; exact dec_len15 _ (by omega)
theorem smU_of {h : Bytes} {po : Int} {pa q : Bytes} (hs : smU h po pa q = true) : h.length ≤ 1000000 ∧ num15 po = true ∧ pa.length ≤ 1000000 ∧ q.length ≤ 4611686018427387904 := by
  unfold smU at hs
  simp only [Bool.and_eq_true, decide_eq_true_eq] at hs
  exact ⟨hs.1.1.1, hs.1.1.2, hs.1.2, isM_le hs.2⟩
theorem iUrlT_okQ : Sound Kx 120 ut_s := of_ur iUrlT_ok fun h po pa q hq hs => by
  obtain ⟨h1, h2, h3, h4⟩ := smU_of hs
  have hd := dec_len20 po h2
  show (iUrlT_br h po pa q hq).val = some (.str (urlT h po pa q hq), [])
  unfold iUrlT_br urlT portT queryT httpB
  cases decide (po = 80) <;> cases hq <;>
    simp (disch := (first | omega | (simp only [List.length_append, List.length_cons, List.length_nil]; omega))) only [Br.val, dle, h2, cond_true, cond_false, List.append_assoc, List.cons_append, List.nil_append, List.append_nil]
theorem sUrlT_okQ : Sound Kx 112 ut_s := of_ur sUrlT_ok fun h po pa q hq hs => by
  obtain ⟨h1, h2, h3, h4⟩ := smU_of hs
  have hd := dec_len20 po h2
  show (sUrlT_br h po pa q hq).val = some (.str (urlT h po pa q hq), [])
  unfold sUrlT_br urlT portT queryT httpB
  cases decide (po = 80) <;> cases hq <;>
    simp (disch := (first | omega | (simp only [List.length_append, List.length_cons, List.length_nil]; omega))) only [Br.val, dle, h2, cond_true, cond_false, List.append_assoc, List.cons_append, List.nil_append, List.append_nil]

def iUrlOk_O : Opt := { split := true }
def iUrlOk_C : SC := [⟨235, _, iHost_okQ⟩, ⟨149, _, iwithin_ok⟩, ⟨180, _, iClean_okQ⟩, ⟨92, _, allVis_okQ⟩, ⟨175, _, con1_okQ⟩, ⟨120, _, iUrlT_okQ⟩]
def iUrlOk_br (h : Bytes) (po : Int) (pa q : Bytes) (hq : Bool) : Br := (Br.ite (isM h) (Br.ite (hostP h) (Br.ite (decide (1 ≤ po)) (Br.ite (decide (po ≤ 65535)) (Br.ite (decide (pa = ([] : Bytes))) (Br.ret (AV.bool false) []) (Br.ite (isM pa) (Br.ite (!(decide ((cleanP pa) = pa))) (Br.ret (AV.bool false) []) (Br.ite (isM q) (Br.ite (!(allP isVis q)) (Br.ret (AV.bool false) []) (Br.ite (hasB q 35) (Br.ret (AV.bool false) []) (Br.ite (!hq) (Br.ite (!(decide (q = ([] : Bytes)))) (Br.ret (AV.bool false) []) (Br.ite (smU h po pa q) (Br.ret (AV.bool (decide (((List.length (urlT h po pa q hq)) : Int) ≤ 200))) []) Br.fail)) (Br.ite (smU h po pa q) (Br.ret (AV.bool (decide (((List.length (urlT h po pa q hq)) : Int) ≤ 200))) []) Br.fail)))) Br.fail)) Br.fail)) (Br.ret (AV.bool false) [])) (Br.ret (AV.bool false) [])) (Br.ret (AV.bool false) [])) Br.fail)
def iUrlOk_s : List AV → List Ob → Br
  | [.agg [.str h, .int .i64 po, .str pa, .str q, .bool hq]], [] => iUrlOk_br h po pa q hq
  | _, _ => .fail
theorem iUrlOk_ok : Sound Kx 181 iUrlOk_s := sound_br (C := iUrlOk_C) (O := iUrlOk_O) Tryz.func181 (by kernel_rfl) fun args objs => by
  unfold iUrlOk_s; split
  · exact .inr (by kernel_rfl)
  · exact .inl rfl

def sUrlOk_O : Opt := { split := true }
def sUrlOk_C : SC := [⟨170, _, sHost_okQ⟩, ⟨110, _, sClean_okQ⟩, ⟨106, _, svis_okQ⟩, ⟨107, _, supto_okQ⟩, ⟨112, _, sUrlT_okQ⟩]
def sUrlOk_br (h : Bytes) (po : Int) (pa q : Bytes) (hq : Bool) : Br := (Br.ite (hostP h) (Br.ite (decide (po < 1)) (Br.ret (AV.bool false) []) (Br.ite (decide (65535 < po)) (Br.ret (AV.bool false) []) (Br.ite (decide (pa = ([] : Bytes))) (Br.ret (AV.bool false) []) (Br.ite (isM pa) (Br.ite (!(decide ((cleanP pa) = pa))) (Br.ret (AV.bool false) []) (Br.ite hq (Br.ite (decide (200 < (q.length : Int))) (Br.ret (AV.bool false) []) (Br.ite (!(decide (q = ([] : Bytes)))) (Br.ite (isM q) (Br.ite ((allP isVis q) && (decide (0 < (q.length : Int)))) (Br.ite (isM q) (Br.ite (!(decide ((uptoP q 35) = q))) (Br.ret (AV.bool false) []) (Br.ite (smU h po pa q) (Br.ret (AV.bool (decide (((List.length (urlT h po pa q hq)) : Int) ≤ 200))) []) Br.fail)) Br.fail) (Br.ret (AV.bool false) [])) Br.fail) (Br.ite (isM q) (Br.ite (!(decide ((uptoP q 35) = q))) (Br.ret (AV.bool false) []) (Br.ite (smU h po pa q) (Br.ret (AV.bool (decide (((List.length (urlT h po pa q hq)) : Int) ≤ 200))) []) Br.fail)) Br.fail))) (Br.ite (!(decide (q = ([] : Bytes)))) (Br.ret (AV.bool false) []) (Br.ite (decide (200 < (q.length : Int))) (Br.ret (AV.bool false) []) (Br.ite (!(decide (q = ([] : Bytes)))) (Br.ite (isM q) (Br.ite ((allP isVis q) && (decide (0 < (q.length : Int)))) (Br.ite (isM q) (Br.ite (!(decide ((uptoP q 35) = q))) (Br.ret (AV.bool false) []) (Br.ite (smU h po pa q) (Br.ret (AV.bool (decide (((List.length (urlT h po pa q hq)) : Int) ≤ 200))) []) Br.fail)) Br.fail) (Br.ret (AV.bool false) [])) Br.fail) (Br.ite (isM q) (Br.ite (!(decide ((uptoP q 35) = q))) (Br.ret (AV.bool false) []) (Br.ite (smU h po pa q) (Br.ret (AV.bool (decide (((List.length (urlT h po pa q hq)) : Int) ≤ 200))) []) Br.fail)) Br.fail)))))) Br.fail)))) (Br.ret (AV.bool false) []))
def sUrlOk_s : List AV → List Ob → Br
  | [.agg [.str h, .int .i64 po, .str pa, .str q, .bool hq]], [] => sUrlOk_br h po pa q hq
  | _, _ => .fail
theorem sUrlOk_ok : Sound Kx 111 sUrlOk_s := sound_br (C := sUrlOk_C) (O := sUrlOk_O) Tryz.func111 (by kernel_rfl) fun args objs => by
  unfold sUrlOk_s; split
  · exact .inr (by kernel_rfl)
  · exact .inl rfl


theorem clean_fix {pa : Bytes} (h : cleanP pa = pa) (h0 : pa ≠ []) : pa.length ≤ 200 := by
  cases pa with
  | nil => exact absurd rfl h0
  | cons c r =>
    by_cases hc : c = 47
    · subst hc
      rw [cleanP_at] at h
      cases ho : pathOk (47 :: r)
      · rw [ho, cond_false] at h; exact absurd h.symm h0
      · unfold pathOk at ho
        simp only [Bool.and_eq_true, decide_eq_true_eq] at ho
        exact ho.1.1.1
    · rw [cleanP_not c r hc] at h; exact absurd h.symm h0
theorem host_len {h : Bytes} (hh : hostP h = true) : h.length ≤ 60 := by
  unfold hostP at hh
  simp only [Bool.and_eq_true, decide_eq_true_eq] at hh
  exact hh.1.1.2
theorem nat_int (n : Nat) : decide ((n : Int) ≤ 200) = decide (n ≤ 200) := by
  rw [Bool.eq_iff_iff, decide_eq_true_eq, decide_eq_true_eq]; omega
theorem upto_has (s : Bytes) (b : Int) : decide (uptoP s b = s) = !hasB s b := by
  induction s with
  | nil => rfl
  | cons c s ih =>
    have e : hasB (c :: s) b = (decide (by8 c = b) || hasB s b) := rfl
    unfold uptoP at ih ⊢
    rw [e, List.takeWhile_cons]
    cases decide (by8 c = b)
    · simp only [Bool.not_false, if_true, Bool.false_or]
      rw [← ih, Bool.eq_iff_iff, decide_eq_true_eq, decide_eq_true_eq]
      simp
    · simp
theorem urlT_q (h : Bytes) (po : Int) (pa q : Bytes) : q.length ≤ (urlT h po pa q true).length := by
  unfold urlT queryT
  simp only [cond_true, List.length_append, List.length_cons]; omega
def uk_s : List AV → List Ob → Br := ur_s (fun h _ pa q _ => isM h && isM pa && isM q) (fun h po pa q hq => .bool (urlOkP h po pa q hq))
theorem smU_mk {h : Bytes} {po : Int} {pa q : Bytes} (h1 : hostP h = true) (h2 : decide (1 ≤ po) = true) (h3 : decide (po ≤ 65535) = true) (h4 : decide (pa = []) = false) (h5 : decide (cleanP pa = pa) = true) (h6 : isM q = true) : smU h po pa q = true := by
  have a := host_len h1
  have b := clean_fix (of_decide_eq_true h5) (of_decide_eq_false h4)
  have c := of_decide_eq_true h2
  have d := of_decide_eq_true h3
  unfold smU num15
  rw [decide_eq_true (show h.length ≤ 1000000 by omega), decide_eq_true (show 0 ≤ po by omega), decide_eq_true (show po ≤ 999999999999999 by omega), decide_eq_true (show pa.length ≤ 1000000 by omega), h6]; rfl
theorem iUrlOk_okQ : Sound Kx 181 uk_s := of_ur iUrlOk_ok fun h po pa q hq hs => by
  simp only [Bool.and_eq_true] at hs
  obtain ⟨⟨m1, m2⟩, m3⟩ := hs
  show (iUrlOk_br h po pa q hq).val = some (.bool (urlOkP h po pa q hq), [])
  unfold iUrlOk_br urlOkP
  rw [m1, m2, m3, nat_int]
  cases d1 : hostP h
  · rfl
  cases d2 : decide (1 ≤ po)
  · rfl
  cases d3 : decide (po ≤ 65535)
  · rfl
  cases d4 : decide (pa = [])
  case true => rfl
  cases d5 : decide (cleanP pa = pa)
  · rfl
  rw [smU_mk d1 d2 d3 d4 d5 m3]
  cases allP isVis q
  · rfl
  cases hasB q 35
  case true => rfl
  cases hq <;> cases decide (q = []) <;> rfl
theorem sUrlOk_okQ : Sound Kx 111 uk_s := of_ur sUrlOk_ok fun h po pa q hq hs => by
  simp only [Bool.and_eq_true] at hs
  obtain ⟨⟨m1, m2⟩, m3⟩ := hs
  show (sUrlOk_br h po pa q hq).val = some (.bool (urlOkP h po pa q hq), [])
  unfold sUrlOk_br urlOkP
  rw [m2, m3, nat_int, upto_has]
  have e2 : decide (po < 1) = !decide (1 ≤ po) := by rw [Bool.eq_iff_iff]; simp
  have e3 : decide (65535 < po) = !decide (po ≤ 65535) := by rw [Bool.eq_iff_iff]; simp
  rw [e2, e3]
  cases d1 : hostP h
  · rfl
  cases d2 : decide (1 ≤ po)
  · rfl
  cases d3 : decide (po ≤ 65535)
  · rfl
  cases d4 : decide (pa = [])
  case true => rfl
  cases d5 : decide (cleanP pa = pa)
  · rfl
  rw [smU_mk d1 d2 d3 d4 d5 m3]
  by_cases hq0 : q = []
  · subst hq0
    cases hq <;> rfl
  · have z : decide (q = []) = false := decide_eq_false hq0
    have zl : decide ((0 : Int) < (q.length : Int)) = true := decide_eq_true (by have := List.length_pos_iff.2 hq0; omega)
    rw [z, zl]
    cases hq
    · cases allP isVis q <;> cases hasB q 35 <;> rfl
    · cases d6 : decide ((200 : Int) < (q.length : Int))
      · cases allP isVis q <;> cases hasB q 35 <;> rfl
      · have := of_decide_eq_true d6
        have hl := urlT_q h po pa q
        rw [decide_eq_false (show ¬ (urlT h po pa q true).length ≤ 200 by omega), Bool.and_false]; rfl

def iReadUrl_O : Opt := { split := true }
def iReadUrl_C : SC := [⟨92, _, allVis_okQ⟩, ⟨175, _, con1_okQ⟩, ⟨70, _, ifold_okQ⟩, ⟨176, _, ixAny_okQ⟩, ⟨177, _, cut_okQ⟩, ⟨178, _, iReadPath_ok⟩, ⟨179, _, iReadDec_okQ⟩, ⟨180, _, iClean_okQ⟩, ⟨181, _, iUrlOk_okQ⟩]
abbrev iReadUrl_c1 (s : Bytes) := (cutP (cut (cut s 7 (s.length : Int)) (anyIx (cut s 7 (s.length : Int)) ([47, 63] : Bytes)) ((List.length (cut s 7 (s.length : Int))) : Int)) ([63] : Bytes))
abbrev iReadUrl_c2 (s : Bytes) := (cutP (cut (cut s 7 (s.length : Int)) ((List.length (cut s 7 (s.length : Int))) : Int) ((List.length (cut s 7 (s.length : Int))) : Int)) ([63] : Bytes))
abbrev iReadUrl_c3 (s : Bytes) := (Br.ret (AV.tup ((AV.agg ((AV.str ([] : Bytes)) :: ((AV.int .i64 0) :: ((AV.str ([] : Bytes)) :: ((AV.str ([] : Bytes)) :: ((AV.bool false) :: [])))))) :: ((AV.bool false) :: []))) [])
abbrev iReadUrl_c4 (s : Bytes) := (cutP (cut (cut s 7 (s.length : Int)) 0 (anyIx (cut s 7 (s.length : Int)) ([47, 63] : Bytes))) ([58] : Bytes))
abbrev iReadUrl_c5 (s : Bytes) := (cutP (cut (cut s 7 (s.length : Int)) 0 ((List.length (cut s 7 (s.length : Int))) : Int)) ([58] : Bytes))
abbrev iReadUrl_c6 (s : Bytes) := ((List.length (cut s 7 (s.length : Int))) : Int)
abbrev iReadUrl_c7 (s : Bytes) := (anyIx (cut s 7 (s.length : Int)) ([47, 63] : Bytes))
abbrev iReadUrl_c8 (s : Bytes) := ((AV.str (iReadUrl_c2 s).2.1) :: ((AV.bool (iReadUrl_c2 s).2.2) :: []))
abbrev iReadUrl_c9 (s : Bytes) := ((AV.str (iReadUrl_c1 s).2.1) :: ((AV.bool (iReadUrl_c1 s).2.2) :: []))
def iReadUrl_br (s : Bytes) : Br := (Br.ite (decide (200 < (s.length : Int))) (iReadUrl_c3 s) (Br.ite (isM s) (Br.ite (!(allP isVis s)) (iReadUrl_c3 s) (Br.ite (hasB s 35) (iReadUrl_c3 s) (Br.ite (decide ((s.length : Int) < 7)) (iReadUrl_c3 s) (Br.ite (decide (7 ≤ (s.length : Int))) (Br.ite (isM (cut s 0 7)) (Br.ite (!(decide ((foldP (cut s 0 7)) = ([104, 116, 116, 112, 58, 47, 47] : Bytes)))) (iReadUrl_c3 s) (Br.ite (decide (7 ≤ (s.length : Int))) (Br.ite ((((decide ((List.length (cut s 7 (s.length : Int))) ≤ 1000000)) && true) && (ascP (cut s 7 (s.length : Int)))) && true) (Br.ite (decide ((iReadUrl_c7 s) < 0)) (Br.ite (decide (0 ≤ (iReadUrl_c6 s))) (Br.ite (decide ((iReadUrl_c6 s) ≤ (iReadUrl_c6 s))) (Br.ite (decide ((List.length (cut (cut s 7 (s.length : Int)) 0 (iReadUrl_c6 s))) ≤ 1000000)) (Br.ite (decide (0 ≤ (iReadUrl_c6 s))) (Br.ite (decide ((iReadUrl_c6 s) ≤ (iReadUrl_c6 s))) (Br.ite (decide ((List.length (cut (cut s 7 (s.length : Int)) (iReadUrl_c6 s) (iReadUrl_c6 s))) ≤ 1000000)) (Br.ite (isM (iReadUrl_c5 s).1) (Br.ite (iReadUrl_c5 s).2.2 (Br.ite (decide ((List.length (iReadUrl_c5 s).2.1) ≤ 1000000)) (Br.ite (!(decR (iReadUrl_c5 s).2.1).2) (iReadUrl_c3 s) (Br.ite (decide ((iReadUrl_c2 s).1 = ([] : Bytes))) (Br.ite (((isM (foldP (iReadUrl_c5 s).1)) && true) && (isM (iReadUrl_c2 s).2.1)) (Br.ite (!(urlOkP (foldP (iReadUrl_c5 s).1) (decR (iReadUrl_c5 s).2.1).1 ([47] : Bytes) (iReadUrl_c2 s).2.1 (iReadUrl_c2 s).2.2)) (iReadUrl_c3 s) (Br.ret (AV.tup ((AV.agg ((AV.str (foldP (iReadUrl_c5 s).1)) :: ((AV.int .i64 (decR (iReadUrl_c5 s).2.1).1) :: ((AV.str ([47] : Bytes)) :: (iReadUrl_c8 s))))) :: ((AV.bool true) :: []))) [])) Br.fail) (Br.ite (isM (iReadUrl_c2 s).1) (Br.ite (((isM (foldP (iReadUrl_c5 s).1)) && (isM (cleanP (iReadUrl_c2 s).1))) && (isM (iReadUrl_c2 s).2.1)) (Br.ite (!(urlOkP (foldP (iReadUrl_c5 s).1) (decR (iReadUrl_c5 s).2.1).1 (cleanP (iReadUrl_c2 s).1) (iReadUrl_c2 s).2.1 (iReadUrl_c2 s).2.2)) (iReadUrl_c3 s) (Br.ret (AV.tup ((AV.agg ((AV.str (foldP (iReadUrl_c5 s).1)) :: ((AV.int .i64 (decR (iReadUrl_c5 s).2.1).1) :: ((AV.str (cleanP (iReadUrl_c2 s).1)) :: (iReadUrl_c8 s))))) :: ((AV.bool true) :: []))) [])) Br.fail) Br.fail))) Br.fail) (Br.ite (decide ((iReadUrl_c2 s).1 = ([] : Bytes))) (Br.ite (((isM (foldP (iReadUrl_c5 s).1)) && true) && (isM (iReadUrl_c2 s).2.1)) (Br.ite (!(urlOkP (foldP (iReadUrl_c5 s).1) 80 ([47] : Bytes) (iReadUrl_c2 s).2.1 (iReadUrl_c2 s).2.2)) (iReadUrl_c3 s) (Br.ret (AV.tup ((AV.agg ((AV.str (foldP (iReadUrl_c5 s).1)) :: ((AV.int .i64 80) :: ((AV.str ([47] : Bytes)) :: (iReadUrl_c8 s))))) :: ((AV.bool true) :: []))) [])) Br.fail) (Br.ite (isM (iReadUrl_c2 s).1) (Br.ite (((isM (foldP (iReadUrl_c5 s).1)) && (isM (cleanP (iReadUrl_c2 s).1))) && (isM (iReadUrl_c2 s).2.1)) (Br.ite (!(urlOkP (foldP (iReadUrl_c5 s).1) 80 (cleanP (iReadUrl_c2 s).1) (iReadUrl_c2 s).2.1 (iReadUrl_c2 s).2.2)) (iReadUrl_c3 s) (Br.ret (AV.tup ((AV.agg ((AV.str (foldP (iReadUrl_c5 s).1)) :: ((AV.int .i64 80) :: ((AV.str (cleanP (iReadUrl_c2 s).1)) :: (iReadUrl_c8 s))))) :: ((AV.bool true) :: []))) [])) Br.fail) Br.fail))) Br.fail) Br.fail) Br.fail) Br.fail) Br.fail) Br.fail) Br.fail) (Br.ite (decide (0 ≤ (iReadUrl_c7 s))) (Br.ite (decide ((iReadUrl_c7 s) ≤ (iReadUrl_c6 s))) (Br.ite (decide ((List.length (cut (cut s 7 (s.length : Int)) 0 (iReadUrl_c7 s))) ≤ 1000000)) (Br.ite (decide (0 ≤ (iReadUrl_c7 s))) (Br.ite (decide ((iReadUrl_c7 s) ≤ (iReadUrl_c6 s))) (Br.ite (decide ((List.length (cut (cut s 7 (s.length : Int)) (iReadUrl_c7 s) (iReadUrl_c6 s))) ≤ 1000000)) (Br.ite (isM (iReadUrl_c4 s).1) (Br.ite (iReadUrl_c4 s).2.2 (Br.ite (decide ((List.length (iReadUrl_c4 s).2.1) ≤ 1000000)) (Br.ite (!(decR (iReadUrl_c4 s).2.1).2) (iReadUrl_c3 s) (Br.ite (decide ((iReadUrl_c1 s).1 = ([] : Bytes))) (Br.ite (((isM (foldP (iReadUrl_c4 s).1)) && true) && (isM (iReadUrl_c1 s).2.1)) (Br.ite (!(urlOkP (foldP (iReadUrl_c4 s).1) (decR (iReadUrl_c4 s).2.1).1 ([47] : Bytes) (iReadUrl_c1 s).2.1 (iReadUrl_c1 s).2.2)) (iReadUrl_c3 s) (Br.ret (AV.tup ((AV.agg ((AV.str (foldP (iReadUrl_c4 s).1)) :: ((AV.int .i64 (decR (iReadUrl_c4 s).2.1).1) :: ((AV.str ([47] : Bytes)) :: (iReadUrl_c9 s))))) :: ((AV.bool true) :: []))) [])) Br.fail) (Br.ite (isM (iReadUrl_c1 s).1) (Br.ite (((isM (foldP (iReadUrl_c4 s).1)) && (isM (cleanP (iReadUrl_c1 s).1))) && (isM (iReadUrl_c1 s).2.1)) (Br.ite (!(urlOkP (foldP (iReadUrl_c4 s).1) (decR (iReadUrl_c4 s).2.1).1 (cleanP (iReadUrl_c1 s).1) (iReadUrl_c1 s).2.1 (iReadUrl_c1 s).2.2)) (iReadUrl_c3 s) (Br.ret (AV.tup ((AV.agg ((AV.str (foldP (iReadUrl_c4 s).1)) :: ((AV.int .i64 (decR (iReadUrl_c4 s).2.1).1) :: ((AV.str (cleanP (iReadUrl_c1 s).1)) :: (iReadUrl_c9 s))))) :: ((AV.bool true) :: []))) [])) Br.fail) Br.fail))) Br.fail) (Br.ite (decide ((iReadUrl_c1 s).1 = ([] : Bytes))) (Br.ite (((isM (foldP (iReadUrl_c4 s).1)) && true) && (isM (iReadUrl_c1 s).2.1)) (Br.ite (!(urlOkP (foldP (iReadUrl_c4 s).1) 80 ([47] : Bytes) (iReadUrl_c1 s).2.1 (iReadUrl_c1 s).2.2)) (iReadUrl_c3 s) (Br.ret (AV.tup ((AV.agg ((AV.str (foldP (iReadUrl_c4 s).1)) :: ((AV.int .i64 80) :: ((AV.str ([47] : Bytes)) :: (iReadUrl_c9 s))))) :: ((AV.bool true) :: []))) [])) Br.fail) (Br.ite (isM (iReadUrl_c1 s).1) (Br.ite (((isM (foldP (iReadUrl_c4 s).1)) && (isM (cleanP (iReadUrl_c1 s).1))) && (isM (iReadUrl_c1 s).2.1)) (Br.ite (!(urlOkP (foldP (iReadUrl_c4 s).1) 80 (cleanP (iReadUrl_c1 s).1) (iReadUrl_c1 s).2.1 (iReadUrl_c1 s).2.2)) (iReadUrl_c3 s) (Br.ret (AV.tup ((AV.agg ((AV.str (foldP (iReadUrl_c4 s).1)) :: ((AV.int .i64 80) :: ((AV.str (cleanP (iReadUrl_c1 s).1)) :: (iReadUrl_c9 s))))) :: ((AV.bool true) :: []))) [])) Br.fail) Br.fail))) Br.fail) Br.fail) Br.fail) Br.fail) Br.fail) Br.fail) Br.fail)) Br.fail) Br.fail)) Br.fail) Br.fail)))) Br.fail))
def iReadUrl_s : List AV → List Ob → Br
  | [.str s], [] => iReadUrl_br s
  | _, _ => .fail
theorem iReadUrl_ok : Sound Kx 118 iReadUrl_s := sound_br (C := iReadUrl_C) (O := iReadUrl_O) Tryz.func118 (by kernel_rfl) fun args objs => by
  unfold iReadUrl_s; split
  · exact .inr (by kernel_rfl)
  · exact .inl rfl

def sReadUrl_O : Opt := { split := true }
def sReadUrl_C : SC := [⟨106, _, svis_okQ⟩, ⟨107, _, supto_okQ⟩, ⟨108, _, sfold_okQ⟩, ⟨109, _, sReadDec_okQ⟩, ⟨110, _, sClean_okQ⟩, ⟨111, _, sUrlOk_okQ⟩]
abbrev sReadUrl_c1 (s : Bytes) := (uptoP (cut s 7 (s.length : Int)) 63)
abbrev sReadUrl_c2 (s : Bytes) := (Br.ret (AV.tup ((AV.agg ((AV.str ([] : Bytes)) :: ((AV.int .i64 0) :: ((AV.str ([] : Bytes)) :: ((AV.str ([] : Bytes)) :: ((AV.bool false) :: [])))))) :: ((AV.bool false) :: []))) [])
abbrev sReadUrl_c3 (s : Bytes) := (cut (cut s 7 (s.length : Int)) (wk64 (((List.length (sReadUrl_c1 s)) : Int) + 1)) ((List.length (cut s 7 (s.length : Int))) : Int))
abbrev sReadUrl_c4 (s : Bytes) := (cut (sReadUrl_c1 s) ((List.length (uptoP (sReadUrl_c1 s) 47)) : Int) ((List.length (sReadUrl_c1 s)) : Int))
abbrev sReadUrl_c5 (s : Bytes) := (decR (cut (uptoP (sReadUrl_c1 s) 47) (wk64 (((List.length (uptoP (uptoP (sReadUrl_c1 s) 47) 58)) : Int) + 1)) ((List.length (uptoP (sReadUrl_c1 s) 47)) : Int)))
abbrev sReadUrl_c6 (s : Bytes) := (foldP (uptoP (uptoP (sReadUrl_c1 s) 47) 58))
abbrev sReadUrl_c7 (s : Bytes) := ((List.length (sReadUrl_c1 s)) : Int)
abbrev sReadUrl_c8 (s : Bytes) := ((List.length (uptoP (sReadUrl_c1 s) 47)) : Int)
abbrev sReadUrl_c9 (s : Bytes) := ((List.length (cut s 7 (s.length : Int))) : Int)
def sReadUrl_br (s : Bytes) : Br := (Br.ite (decide (200 < (s.length : Int))) (sReadUrl_c2 s) (Br.ite (decide ((s.length : Int) < 8)) (sReadUrl_c2 s) (Br.ite (isM s) (Br.ite (!((allP isVis s) && (decide (0 < (s.length : Int))))) (sReadUrl_c2 s) (Br.ite (isM s) (Br.ite (!(decide ((uptoP s 35) = s))) (sReadUrl_c2 s) (Br.ite (decide (7 ≤ (s.length : Int))) (Br.ite (isM (cut s 0 7)) (Br.ite (!(decide ((foldP (cut s 0 7)) = ([104, 116, 116, 112, 58, 47, 47] : Bytes)))) (sReadUrl_c2 s) (Br.ite (decide (7 ≤ (s.length : Int))) (Br.ite (isM (cut s 7 (s.length : Int))) (Br.ite (isM (sReadUrl_c1 s)) (Br.ite (isM (uptoP (sReadUrl_c1 s) 47)) (Br.ite (isM (uptoP (uptoP (sReadUrl_c1 s) 47) 58)) (Br.ite (decide (((List.length (uptoP (uptoP (sReadUrl_c1 s) 47) 58)) : Int) < (sReadUrl_c8 s))) (Br.ite (decide (0 ≤ (wk64 (((List.length (uptoP (uptoP (sReadUrl_c1 s) 47) 58)) : Int) + 1)))) (Br.ite (decide ((wk64 (((List.length (uptoP (uptoP (sReadUrl_c1 s) 47) 58)) : Int) + 1)) ≤ (sReadUrl_c8 s))) (Br.ite (!(sReadUrl_c5 s).2) (sReadUrl_c2 s) (Br.ite (decide ((sReadUrl_c8 s) < (sReadUrl_c7 s))) (Br.ite (decide (0 ≤ (sReadUrl_c8 s))) (Br.ite (decide ((sReadUrl_c8 s) ≤ (sReadUrl_c7 s))) (Br.ite (isM (sReadUrl_c4 s)) (Br.ite (decide ((sReadUrl_c7 s) < (sReadUrl_c9 s))) (Br.ite (decide (0 ≤ (wk64 ((sReadUrl_c7 s) + 1)))) (Br.ite (decide ((wk64 ((sReadUrl_c7 s) + 1)) ≤ (sReadUrl_c9 s))) (Br.ite (((isM (sReadUrl_c6 s)) && (isM (cleanP (sReadUrl_c4 s)))) && (isM (sReadUrl_c3 s))) (Br.ite (!(urlOkP (sReadUrl_c6 s) (sReadUrl_c5 s).1 (cleanP (sReadUrl_c4 s)) (sReadUrl_c3 s) true)) (sReadUrl_c2 s) (Br.ret (AV.tup ((AV.agg ((AV.str (sReadUrl_c6 s)) :: ((AV.int .i64 (sReadUrl_c5 s).1) :: ((AV.str (cleanP (sReadUrl_c4 s))) :: ((AV.str (sReadUrl_c3 s)) :: ((AV.bool true) :: [])))))) :: ((AV.bool true) :: []))) [])) Br.fail) Br.fail) Br.fail) (Br.ite (((isM (sReadUrl_c6 s)) && (isM (cleanP (sReadUrl_c4 s)))) && true) (Br.ite (!(urlOkP (sReadUrl_c6 s) (sReadUrl_c5 s).1 (cleanP (sReadUrl_c4 s)) ([] : Bytes) false)) (sReadUrl_c2 s) (Br.ret (AV.tup ((AV.agg ((AV.str (sReadUrl_c6 s)) :: ((AV.int .i64 (sReadUrl_c5 s).1) :: ((AV.str (cleanP (sReadUrl_c4 s))) :: ((AV.str ([] : Bytes)) :: ((AV.bool false) :: [])))))) :: ((AV.bool true) :: []))) [])) Br.fail)) Br.fail) Br.fail) Br.fail) (Br.ite (decide ((sReadUrl_c7 s) < (sReadUrl_c9 s))) (Br.ite (decide (0 ≤ (wk64 ((sReadUrl_c7 s) + 1)))) (Br.ite (decide ((wk64 ((sReadUrl_c7 s) + 1)) ≤ (sReadUrl_c9 s))) (Br.ite (((isM (sReadUrl_c6 s)) && true) && (isM (sReadUrl_c3 s))) (Br.ite (!(urlOkP (sReadUrl_c6 s) (sReadUrl_c5 s).1 ([47] : Bytes) (sReadUrl_c3 s) true)) (sReadUrl_c2 s) (Br.ret (AV.tup ((AV.agg ((AV.str (sReadUrl_c6 s)) :: ((AV.int .i64 (sReadUrl_c5 s).1) :: ((AV.str ([47] : Bytes)) :: ((AV.str (sReadUrl_c3 s)) :: ((AV.bool true) :: [])))))) :: ((AV.bool true) :: []))) [])) Br.fail) Br.fail) Br.fail) (Br.ite (((isM (sReadUrl_c6 s)) && true) && true) (Br.ite (!(urlOkP (sReadUrl_c6 s) (sReadUrl_c5 s).1 ([47] : Bytes) ([] : Bytes) false)) (sReadUrl_c2 s) (Br.ret (AV.tup ((AV.agg ((AV.str (sReadUrl_c6 s)) :: ((AV.int .i64 (sReadUrl_c5 s).1) :: ((AV.str ([47] : Bytes)) :: ((AV.str ([] : Bytes)) :: ((AV.bool false) :: [])))))) :: ((AV.bool true) :: []))) [])) Br.fail)))) Br.fail) Br.fail) (Br.ite (decide ((sReadUrl_c8 s) < (sReadUrl_c7 s))) (Br.ite (decide (0 ≤ (sReadUrl_c8 s))) (Br.ite (decide ((sReadUrl_c8 s) ≤ (sReadUrl_c7 s))) (Br.ite (isM (sReadUrl_c4 s)) (Br.ite (decide ((sReadUrl_c7 s) < (sReadUrl_c9 s))) (Br.ite (decide (0 ≤ (wk64 ((sReadUrl_c7 s) + 1)))) (Br.ite (decide ((wk64 ((sReadUrl_c7 s) + 1)) ≤ (sReadUrl_c9 s))) (Br.ite (((isM (sReadUrl_c6 s)) && (isM (cleanP (sReadUrl_c4 s)))) && (isM (sReadUrl_c3 s))) (Br.ite (!(urlOkP (sReadUrl_c6 s) 80 (cleanP (sReadUrl_c4 s)) (sReadUrl_c3 s) true)) (sReadUrl_c2 s) (Br.ret (AV.tup ((AV.agg ((AV.str (sReadUrl_c6 s)) :: ((AV.int .i64 80) :: ((AV.str (cleanP (sReadUrl_c4 s))) :: ((AV.str (sReadUrl_c3 s)) :: ((AV.bool true) :: [])))))) :: ((AV.bool true) :: []))) [])) Br.fail) Br.fail) Br.fail) (Br.ite (((isM (sReadUrl_c6 s)) && (isM (cleanP (sReadUrl_c4 s)))) && true) (Br.ite (!(urlOkP (sReadUrl_c6 s) 80 (cleanP (sReadUrl_c4 s)) ([] : Bytes) false)) (sReadUrl_c2 s) (Br.ret (AV.tup ((AV.agg ((AV.str (sReadUrl_c6 s)) :: ((AV.int .i64 80) :: ((AV.str (cleanP (sReadUrl_c4 s))) :: ((AV.str ([] : Bytes)) :: ((AV.bool false) :: [])))))) :: ((AV.bool true) :: []))) [])) Br.fail)) Br.fail) Br.fail) Br.fail) (Br.ite (decide ((sReadUrl_c7 s) < (sReadUrl_c9 s))) (Br.ite (decide (0 ≤ (wk64 ((sReadUrl_c7 s) + 1)))) (Br.ite (decide ((wk64 ((sReadUrl_c7 s) + 1)) ≤ (sReadUrl_c9 s))) (Br.ite (((isM (sReadUrl_c6 s)) && true) && (isM (sReadUrl_c3 s))) (Br.ite (!(urlOkP (sReadUrl_c6 s) 80 ([47] : Bytes) (sReadUrl_c3 s) true)) (sReadUrl_c2 s) (Br.ret (AV.tup ((AV.agg ((AV.str (sReadUrl_c6 s)) :: ((AV.int .i64 80) :: ((AV.str ([47] : Bytes)) :: ((AV.str (sReadUrl_c3 s)) :: ((AV.bool true) :: [])))))) :: ((AV.bool true) :: []))) [])) Br.fail) Br.fail) Br.fail) (Br.ite (((isM (sReadUrl_c6 s)) && true) && true) (Br.ite (!(urlOkP (sReadUrl_c6 s) 80 ([47] : Bytes) ([] : Bytes) false)) (sReadUrl_c2 s) (Br.ret (AV.tup ((AV.agg ((AV.str (sReadUrl_c6 s)) :: ((AV.int .i64 80) :: ((AV.str ([47] : Bytes)) :: ((AV.str ([] : Bytes)) :: ((AV.bool false) :: [])))))) :: ((AV.bool true) :: []))) [])) Br.fail)))) Br.fail) Br.fail) Br.fail) Br.fail) Br.fail)) Br.fail) Br.fail)) Br.fail)) Br.fail)))
def sReadUrl_s : List AV → List Ob → Br
  | [.str s], [] => sReadUrl_br s
  | _, _ => .fail
theorem sReadUrl_ok : Sound Kx 58 sReadUrl_s := sound_br (C := sReadUrl_C) (O := sReadUrl_O) Tryz.func58 (by kernel_rfl) fun args objs => by
  unfold sReadUrl_s; split
  · exact .inr (by kernel_rfl)
  · exact .inl rfl

def sUrlText_O : Opt := { split := true }
def sUrlText_C : SC := [⟨111, _, sUrlOk_okQ⟩, ⟨112, _, sUrlT_okQ⟩]
def sUrlText_br (h : Bytes) (po : Int) (pa q : Bytes) (hq : Bool) : Br := (Br.ite (((isM h) && (isM pa)) && (isM q)) (Br.ite (!(urlOkP h po pa q hq)) (Br.ret (AV.str ([] : Bytes)) []) (Br.ite (smU h po pa q) (Br.ret (AV.str (urlT h po pa q hq)) []) Br.fail)) Br.fail)
def sUrlText_s : List AV → List Ob → Br
  | [.agg [.str h, .int .i64 po, .str pa, .str q, .bool hq]], [] => sUrlText_br h po pa q hq
  | _, _ => .fail
theorem sUrlText_ok : Sound Kx 60 sUrlText_s := sound_br (C := sUrlText_C) (O := sUrlText_O) Tryz.func60 (by kernel_rfl) fun args objs => by
  unfold sUrlText_s; split
  · exact .inr (by kernel_rfl)
  · exact .inl rfl


theorem upto_drop (b : Int) : ∀ (r : Bytes) (k : Nat), k ≤ (uptoP r b).length → uptoP (r.drop k) b = (uptoP r b).drop k
  | r, 0, _ => rfl
  | [], k + 1, h => by simp [uptoP] at h
  | x :: r, k + 1, h => by
    have ih := upto_drop b r k
    unfold uptoP at ih h ⊢
    rw [List.takeWhile_cons] at h ⊢
    cases c : decide (by8 x = b)
    · rw [c] at h
      simp only [Bool.not_false, if_true, List.length_cons] at h ⊢
      rw [List.drop_succ_cons, List.drop_succ_cons]
      exact ih (by omega)
    · rw [c] at h; simp at h
theorem cut_end {l : Bytes} {k : Nat} {i : Int} (h : i = (k : Int)) : cut l i (l.length : Int) = l.drop k := by
  subst h; unfold cut; simp
theorem cut_take {l : Bytes} {k : Nat} {i : Int} (h : i = (k : Int)) : cut l 0 i = l.take k := by
  subst h; unfold cut; simp
theorem nat_lt (a b : Nat) : decide ((a : Int) < (b : Int)) = decide (a < b) := by
  rw [Bool.eq_iff_iff, decide_eq_true_eq, decide_eq_true_eq]; omega
theorem clean_len (p : Bytes) : (cleanP p).length ≤ 1000 := by
  cases p with
  | nil => exact Nat.zero_le _
  | cons c r =>
    by_cases hc : c = 47
    · subst hc
      rw [cleanP_at]
      cases ho : pathOk (47 :: r)
      · exact Nat.zero_le _
      · unfold pathOk at ho
        simp only [Bool.and_eq_true, decide_eq_true_eq, List.length_cons] at ho
        have h1 := segs_bd r (by omega)
        have h2 := slash_segs (splP (pctP r) 47)
        have h3 := join_len (segsP (splP (pctP r) 47))
        simp only [cond_true, List.length_cons]; omega
    · rw [cleanP_not c r hc]; exact Nat.zero_le _
def urA (u : Ur) : AV := .agg [.str u.h, .int .i64 u.po, .str u.pa, .str u.q, .bool u.hq]
theorem readU_no {s : Bytes} (h : readOk s = false) : readUP s = (u0, false) := by unfold readUP; rw [h]; rfl
theorem readU_yes {s : Bytes} (h : readOk s = true) : readUP s = bif (portR (authP (s.drop 7))).2 && (urlR (s.drop 7)).ok then (urlR (s.drop 7), true) else (u0, false) := by
  unfold readUP; rw [h, Bool.true_and]
theorem readOk_parts (s : Bytes) : readOk s = (decide (s.length ≤ 200) && decide (7 ≤ s.length) && allP isVis s && !hasB s 35 && decide (foldP (s.take 7) = httpB)) := rfl
theorem urlR_nil : (urlR []).ok = false := by
  unfold urlR Ur.ok urlOkP
  have e : hostP (foldP (uptoP (authP []) 58)) = false := rfl
  simp only [e, Bool.false_and]
def ru_s : List AV → List Ob → Br := t1_s fun s => .tup [urA (readUP s).1, .bool (readUP s).2]
theorem sReadUrl_okQ : Sound Kx 58 ru_s := sReadUrl_ok.of fun args objs r h => by
  unfold ru_s t1_s at h
  split at h
  case h_2 => cases h
  rename_i s
  obtain ⟨hM, h2⟩ := ite_some h
  cases h2
  show (sReadUrl_br s).val = some (.tup [urA (readUP s).1, .bool (readUP s).2], [])
  unfold sReadUrl_br sReadUrl_c9 sReadUrl_c8 sReadUrl_c7 sReadUrl_c6 sReadUrl_c5 sReadUrl_c4 sReadUrl_c3 sReadUrl_c2 sReadUrl_c1
  have hok := readOk_parts s
  cases d1 : decide ((200 : Int) < (s.length : Int))
  case true =>
    have := of_decide_eq_true d1
    rw [decide_eq_false (show ¬ s.length ≤ 200 by omega)] at hok
    rw [readU_no (by rw [hok]; rfl)]; rfl
  have d1' := of_decide_eq_false d1
  rw [decide_eq_true (show s.length ≤ 200 by omega)] at hok
  cases d2 : decide ((s.length : Int) < 8)
  case true =>
    have d2' := of_decide_eq_true d2
    refine (val_f rfl).trans ((val_t rfl).trans ?_)
    have : readUP s = (u0, false) := by
      cases hr : readOk s
      · exact readU_no hr
      · rw [readU_yes hr]
        rw [hok] at hr
        simp only [Bool.and_eq_true, decide_eq_true_eq] at hr
        have e : s.drop 7 = [] := List.drop_eq_nil_of_le (by omega)
        rw [e, urlR_nil, Bool.and_false]; rfl
    rw [this]; rfl
  have d2' := of_decide_eq_false d2
  rw [decide_eq_true (show 7 ≤ s.length by omega)] at hok
  rw [hM, upto_has, decide_eq_true (show (0 : Int) < (s.length : Int) by omega), decide_eq_true (show (7 : Int) ≤ (s.length : Int) by omega), show cut s 0 7 = s.take 7 from cut_take (k := 7) rfl, show cut s 7 (s.length : Int) = s.drop 7 from cut_end (k := 7) rfl]
  cases d3 : allP isVis s
  · rw [d3] at hok
    rw [readU_no (by rw [hok]; rfl)]; rfl
  rw [d3] at hok
  cases d4 : hasB s 35
  case true =>
    rw [d4] at hok
    rw [readU_no (by rw [hok]; rfl)]; rfl
  rw [d4] at hok
  have e7 : isM (s.take 7) = true := isM_of (n := 7) (by rw [List.length_take]; exact Nat.min_le_left _ _)
  rw [e7]
  cases d5 : decide (foldP (s.take 7) = [104, 116, 116, 112, 58, 47, 47])
  · rw [show decide (foldP (s.take 7) = httpB) = false from d5] at hok
    rw [readU_no (by rw [hok]; rfl)]; rfl
  rw [show decide (foldP (s.take 7) = httpB) = true from d5] at hok
  rw [readU_yes (by rw [hok]; rfl)]
  generalize hr : s.drop 7 = r
  have hrl : r.length ≤ 200 := by rw [← hr, List.length_drop]; omega
  refine (val_f rfl).trans ((val_f rfl).trans ((val_t rfl).trans ((val_f rfl).trans ((val_t rfl).trans ((val_f rfl).trans ((val_t rfl).trans ((val_t rfl).trans ((val_f rfl).trans ((val_t rfl).trans ?_)))))))))
  unfold urlR pathR portR authP frontP Ur.ok urA
  have lF := upto_le r 63
  generalize hF : uptoP r 63 = F at lF
  have lA := upto_le F 47
  generalize hA : uptoP F 47 = A at lA
  have lH := upto_le A 58
  generalize hH : uptoP A 58 = H at lH
  have w1 : wk64 ((H.length : Int) + 1) = ((H.length + 1 : Nat) : Int) := by rw [w64 (by omega) (by omega)]; rfl
  have w2 : wk64 ((F.length : Int) + 1) = ((F.length + 1 : Nat) : Int) := by rw [w64 (by omega) (by omega)]; rfl
  have m1 : isM r = true := isM_of (n := 200) (by omega)
  have m2 : isM F = true := isM_of (n := 200) (by omega)
  have m3 : isM A = true := isM_of (n := 200) (by omega)
  have m4 : isM H = true := isM_of (n := 200) (by omega)
  have m5 : isM (foldP H) = true := isM_of (n := 200) (by rw [foldP_len]; omega)
  have m6 : ∀ p, isM (cleanP p) = true := fun p => isM_of (n := 1000) (clean_len p)
  have m7 : isM (F.drop A.length) = true := isM_of (n := 200) (by rw [List.length_drop]; omega)
  have m8 : isM (r.drop (F.length + 1)) = true := isM_of (n := 200) (by rw [List.length_drop]; omega)
  have q0 : ∀ n : Nat, decide ((0 : Int) ≤ (n : Int)) = true := fun n => decide_eq_true (by omega)
  have qA : decide ((A.length : Int) ≤ (F.length : Int)) = true := decide_eq_true (by omega)
  rw [m1, m2, m3, m4, w1, w2, cut_end (l := A) rfl, cut_end (l := F) rfl, cut_end (l := r) rfl, m5, m7, m8, nat_lt, nat_lt, nat_lt, q0, q0, q0, qA]
  simp only [m6]
  cases t1 : decide (H.length < A.length)
  · cases t2 : decide (A.length < F.length)
    · cases t3 : decide (F.length < r.length)
      · simp only [Br.val, cond_true, cond_false, Bool.and_true, Bool.true_and]
        cases urlOkP (foldP H) 80 [47] [] false <;> rfl
      · have t3' := of_decide_eq_true t3
        rw [decide_eq_true (show ((F.length + 1 : Nat) : Int) ≤ (r.length : Int) by omega)]
        simp only [Br.val, cond_true, cond_false, Bool.and_true, Bool.true_and]
        cases urlOkP (foldP H) 80 [47] (r.drop (F.length + 1)) true <;> rfl
    · cases t3 : decide (F.length < r.length)
      · simp only [Br.val, cond_true, cond_false, Bool.and_true, Bool.true_and]
        cases urlOkP (foldP H) 80 (cleanP (F.drop A.length)) [] false <;> rfl
      · have t3' := of_decide_eq_true t3
        rw [decide_eq_true (show ((F.length + 1 : Nat) : Int) ≤ (r.length : Int) by omega)]
        simp only [Br.val, cond_true, cond_false, Bool.and_true, Bool.true_and]
        cases urlOkP (foldP H) 80 (cleanP (F.drop A.length)) (r.drop (F.length + 1)) true <;> rfl
  · have t1' := of_decide_eq_true t1
    rw [decide_eq_true (show ((H.length + 1 : Nat) : Int) ≤ (A.length : Int) by omega)]
    cases t4 : (decR (A.drop (H.length + 1))).2
    · simp only [Br.val, cond_true, cond_false, Bool.false_and, t4, Bool.not_false]; rfl
    · cases t2 : decide (A.length < F.length)
      · cases t3 : decide (F.length < r.length)
        · simp only [Br.val, cond_true, cond_false, Bool.and_true, Bool.true_and, t4, Bool.not_true]
          cases urlOkP (foldP H) (decR (A.drop (H.length + 1))).1 [47] [] false <;> rfl
        · have t3' := of_decide_eq_true t3
          rw [decide_eq_true (show ((F.length + 1 : Nat) : Int) ≤ (r.length : Int) by omega)]
          simp only [Br.val, cond_true, cond_false, Bool.and_true, Bool.true_and, t4, Bool.not_true]
          cases urlOkP (foldP H) (decR (A.drop (H.length + 1))).1 [47] (r.drop (F.length + 1)) true <;> rfl
      · cases t3 : decide (F.length < r.length)
        · simp only [Br.val, cond_true, cond_false, Bool.and_true, Bool.true_and, t4, Bool.not_true]
          cases urlOkP (foldP H) (decR (A.drop (H.length + 1))).1 (cleanP (F.drop A.length)) [] false <;> rfl
        · have t3' := of_decide_eq_true t3
          rw [decide_eq_true (show ((F.length + 1 : Nat) : Int) ≤ (r.length : Int) by omega)]
          simp only [Br.val, cond_true, cond_false, Bool.and_true, Bool.true_and, t4, Bool.not_true]
          cases urlOkP (foldP H) (decR (A.drop (H.length + 1))).1 (cleanP (F.drop A.length)) (r.drop (F.length + 1)) true <;> rfl
theorem auth_take (r : Bytes) : r.take (uptoP (uptoP r 63) 47).length = uptoP (uptoP r 63) 47 := by
  have h1 := upto_take r 63
  have h2 := upto_take (uptoP r 63) 47
  have h3 := upto_le (uptoP r 63) 47
  calc r.take (uptoP (uptoP r 63) 47).length = (r.take (uptoP r 63).length).take (uptoP (uptoP r 63) 47).length := by rw [List.take_take, Nat.min_eq_left h3]
    _ = (uptoP r 63).take (uptoP (uptoP r 63) 47).length := by rw [h1]
    _ = uptoP (uptoP r 63) 47 := h2
theorem any_end (r : Bytes) : (decide (anyIx r [47, 63] < 0) = true → (uptoP (uptoP r 63) 47).length = r.length) ∧ (decide (anyIx r [47, 63] < 0) = false → anyIx r [47, 63] = ((uptoP (uptoP r 63) 47).length : Int)) := by
  rw [anyIx_cases, show by8 47 = 47 from rfl, show by8 63 = 63 from rfl]
  cases h : hasB r 47 || hasB r 63
  · rw [cond_false]
    rw [Bool.or_eq_false_iff] at h
    have h1 : uptoP r 63 = r := by have := upto_has r 63; rw [h.2] at this; exact of_decide_eq_true this
    have h2 : uptoP r 47 = r := by have := upto_has r 47; rw [h.1] at this; exact of_decide_eq_true this
    rw [h1, h2]
    exact ⟨fun _ => rfl, fun e => by simp at e⟩
  · rw [cond_true]
    exact ⟨fun e => by have := of_decide_eq_true e; omega, fun _ => rfl⟩
theorem drop_nil {l : Bytes} {k : Nat} : decide (l.drop k = []) = !decide (k < l.length) := by
  rw [Bool.eq_iff_iff]; simp
theorem lt_ne {a b : Nat} (h : a ≤ b) : (!decide (a = b)) = decide (a < b) := by
  rw [Bool.eq_iff_iff]; simp; omega
theorem iReadUrl_okQ : Sound Kx 118 ru_s := iReadUrl_ok.of fun args objs r h => by
  unfold ru_s t1_s at h
  split at h
  case h_2 => cases h
  rename_i s
  obtain ⟨hM, h2⟩ := ite_some h
  cases h2
  show (iReadUrl_br s).val = some (.tup [urA (readUP s).1, .bool (readUP s).2], [])
  unfold iReadUrl_br iReadUrl_c9 iReadUrl_c8 iReadUrl_c7 iReadUrl_c6 iReadUrl_c5 iReadUrl_c4 iReadUrl_c3 iReadUrl_c2 iReadUrl_c1
  have hok := readOk_parts s
  cases d1 : decide ((200 : Int) < (s.length : Int))
  case true =>
    have := of_decide_eq_true d1
    rw [decide_eq_false (show ¬ s.length ≤ 200 by omega)] at hok
    rw [readU_no (by rw [hok]; rfl)]; rfl
  have d1' := of_decide_eq_false d1
  rw [decide_eq_true (show s.length ≤ 200 by omega)] at hok
  rw [hM]
  cases d3 : allP isVis s
  · rw [d3] at hok
    rw [readU_no (by rw [hok]; simp)]; rfl
  rw [d3] at hok
  cases d4 : hasB s 35
  case true =>
    rw [d4] at hok
    rw [readU_no (by rw [hok]; simp)]; rfl
  rw [d4] at hok
  cases d2 : decide ((s.length : Int) < 7)
  case true =>
    have d2' := of_decide_eq_true d2
    rw [decide_eq_false (show ¬ 7 ≤ s.length by omega)] at hok
    rw [readU_no (by rw [hok]; rfl)]; rfl
  have d2' := of_decide_eq_false d2
  rw [decide_eq_true (show 7 ≤ s.length by omega)] at hok
  rw [decide_eq_true (show (7 : Int) ≤ (s.length : Int) by omega), show cut s 0 7 = s.take 7 from cut_take (k := 7) rfl, show cut s 7 (s.length : Int) = s.drop 7 from cut_end (k := 7) rfl]
  have e7 : isM (s.take 7) = true := isM_of (n := 7) (by rw [List.length_take]; exact Nat.min_le_left _ _)
  rw [e7]
  cases d5 : decide (foldP (s.take 7) = [104, 116, 116, 112, 58, 47, 47])
  · rw [show decide (foldP (s.take 7) = httpB) = false from d5] at hok
    rw [readU_no (by rw [hok]; rfl)]; rfl
  rw [show decide (foldP (s.take 7) = httpB) = true from d5] at hok
  rw [readU_yes (by rw [hok]; rfl)]
  have hvis : allP isVis (s.drop 7) = true := by
    have e := allP_app isVis (s.take 7) (s.drop 7)
    rw [List.take_append_drop, d3] at e
    cases hh : allP isVis (s.drop 7)
    · rw [hh, Bool.and_false] at e; cases e
    · rfl
  have hasc := vis_asc _ hvis
  generalize hr : s.drop 7 = r at hasc
  have hrl : r.length ≤ 200 := by rw [← hr, List.length_drop]; omega
  have hend := any_end r
  have hat := auth_take r
  have mr : decide (r.length ≤ 1000000) = true := decide_eq_true (by omega)
  refine (val_f rfl).trans ((val_t rfl).trans ((val_f rfl).trans ((val_f rfl).trans ((val_f rfl).trans ((val_t rfl).trans ((val_t rfl).trans ((val_f rfl).trans ((val_t rfl).trans ((val_t (by rw [mr, hasc]; rfl)).trans ?_)))))))))
  unfold urlR pathR portR authP frontP Ur.ok urA
  have lF := upto_le r 63
  have ud := upto_drop 63 r (uptoP (uptoP r 63) 47).length (upto_le _ _)
  generalize hF : uptoP r 63 = F at lF hend hat ud
  have lA := upto_le F 47
  generalize hA : uptoP F 47 = A at lA hend hat ud
  have lH := upto_le A 58
  have ct : cut r 0 (A.length : Int) = A := (cut_take rfl).trans hat
  have cd : cut r (A.length : Int) (r.length : Int) = r.drop A.length := cut_end rfl
  have x1 := cut_upto 58 A
  rw [show by8 58 = 58 from rfl] at x1
  have x2 := cut_upto 63 (r.drop A.length)
  rw [show by8 63 = 63 from rfl, ud] at x2
  generalize hH : uptoP A 58 = H at lH x1
  have y1 : (cutP A [58]).1 = H := by rw [x1]
  have y2 : (cutP A [58]).2.1 = A.drop (H.length + 1) := by rw [x1]
  have y3 : (cutP A [58]).2.2 = decide (H.length < A.length) := by rw [x1]; exact lt_ne lH
  have z1 : (cutP (r.drop A.length) [63]).1 = F.drop A.length := by rw [x2]
  have z2 : (cutP (r.drop A.length) [63]).2.1 = bif decide (F.length < r.length) then r.drop (F.length + 1) else [] := by
    rw [x2]
    simp only [List.length_drop, List.drop_drop]
    cases t : decide (F.length < r.length)
    · have := of_decide_eq_false t
      rw [cond_false]
      exact List.drop_eq_nil_of_le (by omega)
    · rw [cond_true]
      congr 1; omega
  have z3 : (cutP (r.drop A.length) [63]).2.2 = decide (F.length < r.length) := by
    rw [x2]
    simp only [List.length_drop]
    rw [lt_ne (by omega), Bool.eq_iff_iff, decide_eq_true_eq, decide_eq_true_eq]; omega
  have m4 : isM H = true := isM_of (n := 200) (by omega)
  have m5 : isM (foldP H) = true := isM_of (n := 200) (by rw [foldP_len]; omega)
  have m6 : ∀ p, isM (cleanP p) = true := fun p => isM_of (n := 1000) (clean_len p)
  have m7 : isM (F.drop A.length) = true := isM_of (n := 200) (by rw [List.length_drop]; omega)
  have m8 : isM (bif decide (F.length < r.length) then r.drop (F.length + 1) else []) = true := by
    refine isM_of (n := 200) ?_
    cases decide (F.length < r.length)
    · exact Nat.zero_le _
    · rw [cond_true, List.length_drop]; omega
  have q0 : ∀ n : Nat, decide ((0 : Int) ≤ (n : Int)) = true := fun n => decide_eq_true (by omega)
  have qA : decide ((A.length : Int) ≤ (r.length : Int)) = true := decide_eq_true (by omega)
  have q1 : decide (A.length ≤ 1000000) = true := decide_eq_true (by omega)
  have q2 : decide ((r.drop A.length).length ≤ 1000000) = true := decide_eq_true (by rw [List.length_drop]; omega)
  have q3 : decide ((A.drop (H.length + 1)).length ≤ 1000000) = true := decide_eq_true (by rw [List.length_drop]; omega)
  cases t0 : decide (anyIx r [47, 63] < 0)
  · rw [hend.2 t0]
    simp only [Br.val, cond_true, cond_false, q0, qA, ct, cd, q1, q2, y1, y2, y3, z1, z2, z3, m4, m5, m6, m7, m8, q3, Bool.and_self, Bool.and_true, drop_nil]
    cases t1 : decide (H.length < A.length)
    · cases t2 : decide (A.length < F.length)
      · simp only [Br.val, cond_true, cond_false, Bool.not_false, Bool.true_and]
        cases urlOkP (foldP H) 80 [47] (bif decide (F.length < r.length) then r.drop (F.length + 1) else []) (decide (F.length < r.length)) <;> rfl
      · simp only [Br.val, cond_true, cond_false, Bool.not_true, Bool.true_and]
        cases urlOkP (foldP H) 80 (cleanP (F.drop A.length)) (bif decide (F.length < r.length) then r.drop (F.length + 1) else []) (decide (F.length < r.length)) <;> rfl
    · cases t4 : (decR (A.drop (H.length + 1))).2
      · simp only [Br.val, cond_true, cond_false, Bool.not_false, Bool.false_and, t4]; rfl
      · cases t2 : decide (A.length < F.length)
        · simp only [Br.val, cond_true, cond_false, Bool.not_false, Bool.not_true, Bool.true_and, t4]
          cases urlOkP (foldP H) (decR (A.drop (H.length + 1))).1 [47] (bif decide (F.length < r.length) then r.drop (F.length + 1) else []) (decide (F.length < r.length)) <;> rfl
        · simp only [Br.val, cond_true, cond_false, Bool.not_true, Bool.true_and, t4]
          cases urlOkP (foldP H) (decR (A.drop (H.length + 1))).1 (cleanP (F.drop A.length)) (bif decide (F.length < r.length) then r.drop (F.length + 1) else []) (decide (F.length < r.length)) <;> rfl
  · have hl := hend.1 t0
    have ct2 : cut r 0 (r.length : Int) = A := by rw [hl] at ct; exact ct
    have cd2 : cut r (r.length : Int) (r.length : Int) = r.drop A.length := by
      rw [cut_end (l := r) (k := r.length) rfl, hl]
    have qB : decide ((r.length : Int) ≤ (r.length : Int)) = true := decide_eq_true (Int.le_refl _)
    simp only [Br.val, cond_true, cond_false, q0, qB, ct2, cd2, q1, q2, y1, y2, y3, z1, z2, z3, m4, m5, m6, m7, m8, q3, Bool.and_self, Bool.and_true, drop_nil]
    cases t1 : decide (H.length < A.length)
    · cases t2 : decide (A.length < F.length)
      · simp only [Br.val, cond_true, cond_false, Bool.not_false, Bool.true_and]
        cases urlOkP (foldP H) 80 [47] (bif decide (F.length < r.length) then r.drop (F.length + 1) else []) (decide (F.length < r.length)) <;> rfl
      · simp only [Br.val, cond_true, cond_false, Bool.not_true, Bool.true_and]
        cases urlOkP (foldP H) 80 (cleanP (F.drop A.length)) (bif decide (F.length < r.length) then r.drop (F.length + 1) else []) (decide (F.length < r.length)) <;> rfl
    · cases t4 : (decR (A.drop (H.length + 1))).2
      · simp only [Br.val, cond_true, cond_false, Bool.not_false, Bool.false_and, t4]; rfl
      · cases t2 : decide (A.length < F.length)
        · simp only [Br.val, cond_true, cond_false, Bool.not_false, Bool.not_true, Bool.true_and, t4]
          cases urlOkP (foldP H) (decR (A.drop (H.length + 1))).1 [47] (bif decide (F.length < r.length) then r.drop (F.length + 1) else []) (decide (F.length < r.length)) <;> rfl
        · simp only [Br.val, cond_true, cond_false, Bool.not_true, Bool.true_and, t4]
          cases urlOkP (foldP H) (decR (A.drop (H.length + 1))).1 (cleanP (F.drop A.length)) (bif decide (F.length < r.length) then r.drop (F.length + 1) else []) (decide (F.length < r.length)) <;> rfl
theorem sUrlText_okQ : Sound Kx 60 (ur_s (fun h po pa q _ => isM h && isM pa && isM q) (fun h po pa q hq => .str (bif urlOkP h po pa q hq then urlT h po pa q hq else []))) := of_ur sUrlText_ok fun h po pa q hq hs => by
  show (sUrlText_br h po pa q hq).val = some (.str (bif urlOkP h po pa q hq then urlT h po pa q hq else []), [])
  unfold sUrlText_br
  refine (val_t hs).trans ?_
  cases ho : urlOkP h po pa q hq
  · rfl
  · simp only [Bool.and_eq_true] at hs
    have ho' := ho
    unfold urlOkP at ho'
    simp only [Bool.and_eq_true, Bool.not_eq_true', decide_eq_false_iff_not] at ho'
    obtain ⟨⟨⟨⟨⟨⟨⟨h1, h2, h3⟩, h4⟩, h5⟩, _⟩, _⟩, _⟩, _⟩ := ho'
    exact (val_f rfl).trans ((val_t (smU_mk h1 h2 h3 (decide_eq_false h4) h5 hs.2)).trans rfl)

def iCanon_C : SC := [⟨118, _, iReadUrl_okQ⟩, ⟨120, _, iUrlT_okQ⟩]
def iCanon_br (s : Bytes) : Br := (Br.ite (isM s) (Br.ite (!(readUP s).2) (Br.ret (AV.tup ((AV.str ([] : Bytes)) :: ((AV.bool false) :: []))) []) (Br.ite (smU (readUP s).1.1 (readUP s).1.2 (readUP s).1.3 (readUP s).1.4) (Br.ret (AV.tup ((AV.str (urlT (readUP s).1.1 (readUP s).1.2 (readUP s).1.3 (readUP s).1.4 (readUP s).1.5)) :: ((AV.bool true) :: []))) []) Br.fail)) Br.fail)
def iCanon_s : List AV → List Ob → Br
  | [.str s], [] => iCanon_br s
  | _, _ => .fail
theorem iCanon_ok : Sound Kx 116 iCanon_s := sound_br (C := iCanon_C) (O := O0) Tryz.func116 (by kernel_rfl) fun args objs => by
  unfold iCanon_s; split
  · exact .inr (by kernel_rfl)
  · exact .inl rfl

def sCanon_C : SC := [⟨58, _, sReadUrl_okQ⟩, ⟨60, _, sUrlText_okQ⟩]
def sCanon_br (s : Bytes) : Br := (Br.ite (isM s) (Br.ite (!(readUP s).2) (Br.ret (AV.tup ((AV.str ([] : Bytes)) :: ((AV.bool false) :: []))) []) (Br.ite (((isM (readUP s).1.1) && (isM (readUP s).1.3)) && (isM (readUP s).1.4)) (Br.ret (AV.tup ((AV.str (bif (urlOkP (readUP s).1.1 (readUP s).1.2 (readUP s).1.3 (readUP s).1.4 (readUP s).1.5) then (urlT (readUP s).1.1 (readUP s).1.2 (readUP s).1.3 (readUP s).1.4 (readUP s).1.5) else ([] : Bytes))) :: ((AV.bool true) :: []))) []) Br.fail)) Br.fail)
def sCanon_s : List AV → List Ob → Br
  | [.str s], [] => sCanon_br s
  | _, _ => .fail
theorem sCanon_ok : Sound Kx 103 sCanon_s := sound_br (C := sCanon_C) (O := O0) Tryz.func103 (by kernel_rfl) fun args objs => by
  unfold sCanon_s; split
  · exact .inr (by kernel_rfl)
  · exact .inl rfl


theorem readU_ok {s : Bytes} (h : (readUP s).2 = true) : (readUP s).1.ok = true := by
  unfold readUP at h ⊢
  cases c : readOk s && (portR (authP (s.drop 7))).2 && (urlR (s.drop 7)).ok
  · rw [c] at h; cases h
  · rw [cond_true]
    simp only [Bool.and_eq_true] at c
    exact c.2
theorem ok_parts {h : Bytes} {po : Int} {pa q : Bytes} {hq : Bool} (ho : urlOkP h po pa q hq = true) : hostP h = true ∧ decide (1 ≤ po) = true ∧ decide (po ≤ 65535) = true ∧ decide (pa = []) = false ∧ decide (cleanP pa = pa) = true ∧ (urlT h po pa q hq).length ≤ 200 := by
  unfold urlOkP at ho
  simp only [Bool.and_eq_true, Bool.not_eq_true', decide_eq_false_iff_not] at ho
  obtain ⟨⟨⟨⟨⟨⟨⟨h1, h2, h3⟩, h4⟩, h5⟩, _⟩, _⟩, _⟩, h8⟩ := ho
  exact ⟨h1, h2, h3, decide_eq_false h4, h5, of_decide_eq_true h8⟩
theorem q_len {h : Bytes} {po : Int} {pa q : Bytes} {hq : Bool} (ho : urlOkP h po pa q hq = true) : q.length ≤ 200 := by
  have hl := (ok_parts ho).2.2.2.2.2
  unfold urlOkP at ho
  simp only [Bool.and_eq_true, Bool.or_eq_true, decide_eq_true_eq] at ho
  rcases ho.1.2 with h' | h'
  · subst h'
    have := urlT_q h po pa q; omega
  · rw [h']; exact Nat.zero_le _
theorem ur_sizes {u : Ur} (ho : u.ok = true) : smU u.h u.po u.pa u.q = true ∧ (isM u.h && isM u.pa && isM u.q) = true := by
  unfold Ur.ok at ho
  obtain ⟨h1, h2, h3, h4, h5, _⟩ := ok_parts ho
  have hq : isM u.q = true := isM_of (n := 200) (q_len ho)
  have a := host_len h1
  have b := clean_fix (of_decide_eq_true h5) (of_decide_eq_false h4)
  exact ⟨smU_mk h1 h2 h3 h4 h5 hq, by rw [hq, isM_of (n := 60) a, isM_of (n := 200) b]; rfl⟩
def ca_s : List AV → List Ob → Br := t1_s fun s => .tup [.str (canonP s).1, .bool (canonP s).2]
theorem iCanon_okQ : Sound Kx 116 ca_s := iCanon_ok.of fun args objs r h => by
  unfold ca_s t1_s at h
  split at h
  case h_2 => cases h
  rename_i s
  obtain ⟨hM, h2⟩ := ite_some h
  cases h2
  show (iCanon_br s).val = some (.tup [.str (canonP s).1, .bool (canonP s).2], [])
  unfold iCanon_br canonP
  refine (val_t hM).trans ?_
  cases c : (readUP s).2
  · rfl
  · exact (val_f rfl).trans ((val_t (ur_sizes (readU_ok c)).1).trans rfl)
theorem sCanon_okQ : Sound Kx 103 ca_s := sCanon_ok.of fun args objs r h => by
  unfold ca_s t1_s at h
  split at h
  case h_2 => cases h
  rename_i s
  obtain ⟨hM, h2⟩ := ite_some h
  cases h2
  show (sCanon_br s).val = some (.tup [.str (canonP s).1, .bool (canonP s).2], [])
  unfold sCanon_br canonP
  refine (val_t hM).trans ?_
  cases c : (readUP s).2
  · rfl
  · have ho := readU_ok c
    have ho' : urlOkP (readUP s).1.h (readUP s).1.po (readUP s).1.pa (readUP s).1.q (readUP s).1.hq = true := ho
    refine (val_f rfl).trans ((val_t (ur_sizes ho).2).trans ?_)
    rw [ho']; rfl

def iIsCan_C : SC := [⟨116, _, iCanon_okQ⟩]
def iIsCan_br (s : Bytes) : Br := (Br.ite (isM s) (Br.ite (canonP s).2 (Br.ret (AV.bool (decide ((canonP s).1 = s))) []) (Br.ret (AV.bool false) [])) Br.fail)
def iIsCan_s : List AV → List Ob → Br
  | [.str s], [] => iIsCan_br s
  | _, _ => .fail
theorem iIsCan_ok : Sound Kx 88 iIsCan_s := sound_br (C := iIsCan_C) (O := O0) Tryz.func88 (by kernel_rfl) fun args objs => by
  unfold iIsCan_s; split
  · exact .inr (by kernel_rfl)
  · exact .inl rfl

def sIsCan_C : SC := [⟨103, _, sCanon_okQ⟩]
def sIsCan_br (s : Bytes) : Br := (Br.ite (isM s) (Br.ite (canonP s).2 (Br.ret (AV.bool (decide ((canonP s).1 = s))) []) (Br.ret (AV.bool false) [])) Br.fail)
def sIsCan_s : List AV → List Ob → Br
  | [.str s], [] => sIsCan_br s
  | _, _ => .fail
theorem sIsCan_ok : Sound Kx 78 sIsCan_s := sound_br (C := sIsCan_C) (O := O0) Tryz.func78 (by kernel_rfl) fun args objs => by
  unfold sIsCan_s; split
  · exact .inr (by kernel_rfl)
  · exact .inl rfl

def iTime_C : SC := [⟨149, _, iwithin_ok⟩]
def iTime_br (n : Int) : Br := (Br.ite (decide (0 ≤ n)) (Br.ret (AV.bool (decide (n ≤ 253402300799))) []) (Br.ret (AV.bool false) []))
def iTime_s : List AV → List Ob → Br
  | [.int .i64 n], [] => iTime_br n
  | _, _ => .fail
theorem iTime_ok : Sound Kx 89 iTime_s := sound_br (C := iTime_C) (O := O0) Tryz.func89 (by kernel_rfl) fun args objs => by
  unfold iTime_s; split
  · exact .inr (by kernel_rfl)
  · exact .inl rfl

def sTime_br (n : Int) : Br := (Br.ite (decide (0 ≤ n)) (Br.ret (AV.bool (decide (n ≤ 253402300799))) []) (Br.ret (AV.bool false) []))
def sTime_s : List AV → List Ob → Br
  | [.int .i64 n], [] => sTime_br n
  | _, _ => .fail
theorem sTime_ok : Sound Kx 79 sTime_s := sound_br (C := []) (O := O0) Tryz.func79 (by kernel_rfl) fun args objs => by
  unfold sTime_s; split
  · exact .inr (by kernel_rfl)
  · exact .inl rfl

def szEntry_C : SC := [⟨16, _, szFieldS_okQ⟩, ⟨27, _, szMsg_okQ⟩]
def szEntry_br (ur : Bytes) (t1 t2 : Int) (ak : List Fd) (me ta : Bytes) (st : Int) (re : Bytes) (ba : Bool) (fs : List Fd) (bo : Bytes) (left : Int) : Br := (Br.ite (decide ((wk64 (left - (ur.length : Int))) < 0)) (Br.ret (AV.int .i64 (-1)) []) (Br.ite ((smF ak) && (okLeft (wk64 (left - (ur.length : Int))))) (Br.ite (decide ((szFl ak (wk64 (left - (ur.length : Int)))) < 0)) (Br.ret (AV.int .i64 (-1)) []) (Br.ite ((smM me ta re fs bo) && (okLeft (szFl ak (wk64 (left - (ur.length : Int)))))) (Br.ite (decide ((szM (msgW me ta re fs bo) (szFl ak (wk64 (left - (ur.length : Int))))) < 0)) (Br.ret (AV.int .i64 (-1)) []) (Br.ret (AV.int .i64 (szM (msgW me ta re fs bo) (szFl ak (wk64 (left - (ur.length : Int)))))) [])) Br.fail)) Br.fail))
def szEntry_s : List AV → List Ob → Br
  | [.agg [.str ur, .int .i64 t1, .int .i64 t2, .sh (.pair .str .str) ak, .str me, .str ta, .int .i64 st, .str re, .bool ba, .sh (.pair .str .str) fs, .str bo], .int .i64 left], [] => szEntry_br ur t1 t2 ak me ta st re ba fs bo left
  | _, _ => .fail
theorem szEntry_ok : Sound Kx 7 szEntry_s := sound_br (C := szEntry_C) (O := O0) Tryz.func7 (by kernel_rfl) fun args objs => by
  unfold szEntry_s; split
  · exact .inr (by kernel_rfl)
  · exact .inl rfl

def toEntry_C : SC := [⟨18, _, toFieldS_okQ⟩, ⟨29, _, toMsg_ok⟩]
def toEntry_br (ur : Bytes) (t1 t2 : Int) (ak : List Fd) (me ta : Bytes) (st : Int) (re : Bytes) (ba : Bool) (fs : List Fd) (bo : Bytes) : Br := (Br.ite (decide (ak.length ≤ 1048576)) (Br.ite (decide (fs.length ≤ 1048576)) (Br.ret (AV.agg ((AV.str ur) :: ((AV.int .i64 t1) :: ((AV.int .i64 t2) :: ((AV.ref 0 0) :: ((AV.str me) :: ((AV.str ta) :: ((AV.int .i64 st) :: ((AV.str re) :: ((AV.bool ba) :: ((AV.ref 1 0) :: ((AV.str bo) :: [])))))))))))) ((Ob.arr (Ty.pair Ty.str Ty.str) 0 false ak) :: ((Ob.arr (Ty.pair Ty.str Ty.str) 0 false fs) :: []))) Br.fail) Br.fail)
def toEntry_s : List AV → List Ob → Br
  | [.agg [.str ur, .int .i64 t1, .int .i64 t2, .sh (.pair .str .str) ak, .str me, .str ta, .int .i64 st, .str re, .bool ba, .sh (.pair .str .str) fs, .str bo]], [] => toEntry_br ur t1 t2 ak me ta st re ba fs bo
  | _, _ => .fail
theorem toEntry_ok : Sound Kx 9 toEntry_s := sound_br (C := toEntry_C) (O := O0) Tryz.func9 (by kernel_rfl) fun args objs => by
  unfold toEntry_s; split
  · exact .inr (by kernel_rfl)
  · exact .inl rfl

def eqEntry_C : SC := [⟨11, _, eqFieldS_okQ⟩, ⟨31, _, eqMsg_okQ⟩]
def eqEntry_br (ur : Bytes) (t1 t2 : Int) (ak : List Fd) (me ta : Bytes) (st : Int) (re : Bytes) (ba : Bool) (fs : List Fd) (bo : Bytes) (ur' : Bytes) (t1' t2' : Int) (ak' : List Fd) (me' ta' : Bytes) (st' : Int) (re' : Bytes) (ba' : Bool) (fs' : List Fd) (bo' : Bytes) : Br := (Br.ite (!(decide (ur = ur'))) (Br.ret (AV.bool false) []) (Br.ite (!(decide (t1 = t1'))) (Br.ret (AV.bool false) []) (Br.ite (!(decide (t2 = t2'))) (Br.ret (AV.bool false) []) (Br.ite (decide (ak.length ≤ 4611686018427387904)) (Br.ite (!(decide (ak = ak'))) (Br.ret (AV.bool false) []) (Br.ite ((((((((decide (me = me')) && (decide (ta = ta'))) && (decide (st = st'))) && (decide (re = re'))) && (decide (ba = ba'))) && (decide (fs = fs'))) && (decide (bo = bo'))) && (decide (fs.length ≤ 1048576))) (Br.ret (AV.bool true) []) Br.fail)) Br.fail))))
def eqEntry_s : List AV → List Ob → Br
  | [.agg [.str ur, .int .i64 t1, .int .i64 t2, .sh (.pair .str .str) ak, .str me, .str ta, .int .i64 st, .str re, .bool ba, .sh (.pair .str .str) fs, .str bo], .agg [.str ur', .int .i64 t1', .int .i64 t2', .sh (.pair .str .str) ak', .str me', .str ta', .int .i64 st', .str re', .bool ba', .sh (.pair .str .str) fs', .str bo']], [] => eqEntry_br ur t1 t2 ak me ta st re ba fs bo ur' t1' t2' ak' me' ta' st' re' ba' fs' bo'
  | _, _ => .fail
theorem eqEntry_ok : Sound Kx 12 eqEntry_s := sound_br (C := eqEntry_C) (O := O0) Tryz.func12 (by kernel_rfl) fun args objs => by
  unfold eqEntry_s; split
  · exact .inr (by kernel_rfl)
  · exact .inl rfl


theorem iIsCan_okQ : Sound Kx 88 (t1_s fun s => .bool (isCanP s)) := iIsCan_ok.of fun args objs r h => by
  unfold t1_s at h
  split at h
  case h_2 => cases h
  rename_i s
  obtain ⟨hM, h2⟩ := ite_some h
  cases h2
  show (iIsCan_br s).val = some (.bool (isCanP s), [])
  unfold iIsCan_br isCanP
  refine (val_t hM).trans ?_
  cases (canonP s).2 <;> rfl
theorem sIsCan_okQ : Sound Kx 78 (t1_s fun s => .bool (isCanP s)) := sIsCan_ok.of fun args objs r h => by
  unfold t1_s at h
  split at h
  case h_2 => cases h
  rename_i s
  obtain ⟨hM, h2⟩ := ite_some h
  cases h2
  show (sIsCan_br s).val = some (.bool (isCanP s), [])
  unfold sIsCan_br isCanP
  refine (val_t hM).trans ?_
  cases (canonP s).2 <;> rfl
theorem iTime_okQ : Sound Kx 89 (pn_s timB) := of_pn iTime_ok fun b => v_and _ _
theorem sTime_okQ : Sound Kx 79 (pn_s timB) := of_pn sTime_ok fun b => v_and _ _
theorem msgOk_more {me ta re bo : Bytes} {st : Int} {ba : Bool} {fs : List Fd} (h : msgOkP me ta st re ba fs bo = true) : hdG me ta st re fs bo = true ∧ (headP me ta st re ba fs bo).length ≤ 1500 ∧ bo.length ≤ 600 := by
  unfold msgOkP at h
  simp only [Bool.and_eq_true, Bool.not_eq_true', decide_eq_true_eq, decide_eq_false_iff_not] at h
  obtain ⟨⟨⟨⟨⟨h1, h2⟩, h3⟩, h4⟩, h5⟩, h6⟩ := h
  exact ⟨hdG_ok h1 h3 h5, by omega, by omega⟩
abbrev En := Bytes × Int × Int × List Fd × Mg
@[match_pattern] abbrev EnT : Ty := (.pair .str (.pair (.int .i64) (.pair (.int .i64) (.pair (.slice (.pair .str .str)) (.pair .str (.pair .str (.pair (.int .i64) (.pair .str (.pair .bool (.pair (.slice (.pair .str .str)) .str))))))))))
abbrev en0 : En := (([] : List UInt8), ((0 : Int), ((0 : Int), (([] : List (List UInt8 × List UInt8)), (([] : List UInt8), (([] : List UInt8), ((0 : Int), (([] : List UInt8), (false, (([] : List (List UInt8 × List UInt8)), ([] : List UInt8)))))))))))
def en_s (g : En → Bool) (p : En → AV) : List AV → List Ob → Br
  | [.agg [.str ur, .int .i64 t1, .int .i64 t2, .sh (.pair .str .str) ak, .str me, .str ta, .int .i64 st, .str re, .bool ba, .sh (.pair .str .str) fs, .str bo]], [] =>
    .ite (g (ur, t1, t2, ak, me, ta, st, re, ba, fs, bo)) (.ret (p (ur, t1, t2, ak, me, ta, st, re, ba, fs, bo)) []) .fail
  | _, _ => .fail
theorem of_en {n : Nat} {s : List AV → List Ob → Br} (hs : Sound Kx n s) {g : En → Bool} {p : En → AV}
    (h : ∀ ur t1 t2 ak me ta st re ba fs bo, g (ur, t1, t2, ak, me, ta, st, re, ba, fs, bo) = true → (s [.agg [.str ur, .int .i64 t1, .int .i64 t2, .sh (.pair .str .str) ak, .str me, .str ta, .int .i64 st, .str re, .bool ba, .sh (.pair .str .str) fs, .str bo]] []).val = some (p (ur, t1, t2, ak, me, ta, st, re, ba, fs, bo), [])) : Sound Kx n (en_s g p) := hs.of fun args objs r hv => by
  unfold en_s at hv
  split at hv
  case h_2 => cases hv
  obtain ⟨h1, h2⟩ := ite_some hv
  cases h2
  exact h _ _ _ _ _ _ _ _ _ _ _ h1
def smE (e : En) : Bool := isM e.1 && smF e.2.2.2.1 && smM e.2.2.2.2.1 e.2.2.2.2.2.1 e.2.2.2.2.2.2.2.1 e.2.2.2.2.2.2.2.2.2.1 e.2.2.2.2.2.2.2.2.2.2
def enW (e : En) : Int := (e.1.length : Int) + ((e.2.2.2.1.length : Int) + totF e.2.2.2.1) + msgW e.2.2.2.2.1 e.2.2.2.2.2.1 e.2.2.2.2.2.2.2.1 e.2.2.2.2.2.2.2.2.2.1 e.2.2.2.2.2.2.2.2.2.2
theorem msgW_nn (me ta re : Bytes) (fs : List Fd) (bo : Bytes) : 0 ≤ msgW me ta re fs bo := by
  have := totF_nn fs
  unfold msgW; omega
def szE_s : List AV → List Ob → Br
  | [.agg [.str ur, .int .i64 t1, .int .i64 t2, .sh (.pair .str .str) ak, .str me, .str ta, .int .i64 st, .str re, .bool ba, .sh (.pair .str .str) fs, .str bo], .int .i64 left], [] =>
    .ite (smE (ur, t1, t2, ak, me, ta, st, re, ba, fs, bo) && okLeft left) (.ret (.int .i64 (szM (enW (ur, t1, t2, ak, me, ta, st, re, ba, fs, bo)) left)) []) .fail
  | _, _ => .fail
theorem szEntry_okQ : Sound Kx 7 szE_s := szEntry_ok.of fun args objs r h => by
  unfold szE_s at h
  split at h
  case h_2 => cases h
  rename_i ur t1 t2 ak me ta st re ba fs bo left
  obtain ⟨h1, h2⟩ := ite_some h
  cases h2
  show (szEntry_br ur t1 t2 ak me ta st re ba fs bo left).val = some (.int .i64 (szM (enW (ur, t1, t2, ak, me, ta, st, re, ba, fs, bo)) left), [])
  simp only [smE, Bool.and_eq_true] at h1
  obtain ⟨⟨⟨m1, m2⟩, m3⟩, h0⟩ := h1
  have g1 := isM_le m1
  simp only [okLeft, Bool.and_eq_true, decide_eq_true_eq] at h0
  have ha := totF_nn ak
  have hm := msgW_nn me ta re fs bo
  unfold szEntry_br enW
  simp only
  rw [w64 (n := left - _) (by omega) (by omega)]
  by_cases c1 : left - (ur.length : Int) < 0
  · rw [val_t (decide_eq_true c1)]
    unfold szM
    rw [decide_eq_false (by omega)]; rfl
  rw [val_f (decide_eq_false c1)]
  have hk : okLeft (left - (ur.length : Int)) = true := by simp only [okLeft, Bool.and_eq_true, decide_eq_true_eq]; omega
  refine (val_t (by rw [m2, hk]; rfl)).trans ?_
  unfold szFl
  by_cases c4 : (ak.length : Int) + totF ak ≤ left - (ur.length : Int)
  · simp only [decide_eq_true c4, cond_true]
    refine (val_f (decide_eq_false (by omega))).trans ?_
    have hk2 : okLeft (left - (ur.length : Int) - ((ak.length : Int) + totF ak)) = true := by simp only [okLeft, Bool.and_eq_true, decide_eq_true_eq]; omega
    refine (val_t (by rw [m3, hk2]; rfl)).trans ?_
    unfold szM
    by_cases c5 : msgW me ta re fs bo ≤ left - (ur.length : Int) - ((ak.length : Int) + totF ak)
    · simp only [decide_eq_true c5, cond_true]
      refine (val_f (decide_eq_false (by omega))).trans ?_
      rw [decide_eq_true (by omega), cond_true, val_ret]
      rw [show left - (ur.length : Int) - ((ak.length : Int) + totF ak) - msgW me ta re fs bo = left - ((ur.length : Int) + ((ak.length : Int) + totF ak) + msgW me ta re fs bo) by omega]
    · simp only [decide_eq_false c5, cond_false]
      refine (val_t (by decide)).trans ?_
      rw [decide_eq_false (by omega)]; rfl
  · simp only [decide_eq_false c4, cond_false]
    refine (val_t (by decide)).trans ?_
    unfold szM
    rw [decide_eq_false (by omega)]; rfl
def eqEb (a b : En) : Bool := decide (a.1 = b.1) && decide (a.2.1 = b.2.1) && decide (a.2.2.1 = b.2.2.1) && decide (a.2.2.2.1 = b.2.2.2.1) && decide (a.2.2.2.2.1 = b.2.2.2.2.1) && decide (a.2.2.2.2.2.1 = b.2.2.2.2.2.1) && decide (a.2.2.2.2.2.2.1 = b.2.2.2.2.2.2.1) && decide (a.2.2.2.2.2.2.2.1 = b.2.2.2.2.2.2.2.1) && decide (a.2.2.2.2.2.2.2.2.1 = b.2.2.2.2.2.2.2.2.1) && decide (a.2.2.2.2.2.2.2.2.2.1 = b.2.2.2.2.2.2.2.2.2.1) && decide (a.2.2.2.2.2.2.2.2.2.2 = b.2.2.2.2.2.2.2.2.2.2)
theorem eqEb_self (a : En) : eqEb a a = true := by unfold eqEb; simp only [decide_true, Bool.and_self]
def eqE_s : List AV → List Ob → Br
  | [.agg [.str ur, .int .i64 t1, .int .i64 t2, .sh (.pair .str .str) ak, .str me, .str ta, .int .i64 st, .str re, .bool ba, .sh (.pair .str .str) fs, .str bo], .agg [.str ur', .int .i64 t1', .int .i64 t2', .sh (.pair .str .str) ak', .str me', .str ta', .int .i64 st', .str re', .bool ba', .sh (.pair .str .str) fs', .str bo']], [] =>
    .ite (eqEb (ur, t1, t2, ak, me, ta, st, re, ba, fs, bo) (ur', t1', t2', ak', me', ta', st', re', ba', fs', bo') && decide (ak.length ≤ 1048576) && decide (fs.length ≤ 1048576)) (.ret (.bool true) []) .fail
  | _, _ => .fail
theorem eqEntry_okQ : Sound Kx 12 eqE_s := eqEntry_ok.of fun args objs r h => by
  unfold eqE_s at h
  split at h
  case h_2 => cases h
  obtain ⟨h1, h2⟩ := ite_some h
  cases h2
  simp only [eqEb, Bool.and_eq_true, decide_eq_true_eq] at h1
  obtain ⟨⟨⟨⟨⟨⟨⟨⟨⟨⟨⟨⟨rfl, rfl⟩, rfl⟩, rfl⟩, rfl⟩, rfl⟩, rfl⟩, rfl⟩, rfl⟩, rfl⟩, rfl⟩, ha⟩, hl⟩ := h1
  rename_i ur t1 t2 ak me ta st re ba fs bo
  show (eqEntry_br ur t1 t2 ak me ta st re ba fs bo ur t1 t2 ak me ta st re ba fs bo).val = _
  unfold eqEntry_br
  simp only [decide_true, Bool.not_true, Bool.true_and]
  exact (val_f rfl).trans ((val_f rfl).trans ((val_f rfl).trans ((val_t (decide_eq_true (by omega))).trans ((val_f rfl).trans ((val_t (decide_eq_true hl)).trans rfl)))))
def entP (e : En) : Bool :=
  isCanP e.1 && timB e.2.1 && timB e.2.2.1 && decide (e.2.1 ≤ e.2.2.1) && fdsOk e.2.2.2.1 && msgOkP e.2.2.2.2.1 e.2.2.2.2.2.1 e.2.2.2.2.2.2.1 e.2.2.2.2.2.2.2.1 e.2.2.2.2.2.2.2.2.1 e.2.2.2.2.2.2.2.2.2.1 e.2.2.2.2.2.2.2.2.2.2 && decide (e.2.2.2.2.1 = []) && !e.2.2.2.2.2.2.2.2.1

def iEntryOk_O : Opt := { split := true }
def iEntryOk_C : SC := [⟨88, _, iIsCan_okQ⟩, ⟨89, _, iTime_okQ⟩, ⟨51, _, iFieldsOk_okQ⟩, ⟨67, _, iMsgOk_okQ⟩]
def iEntryOk_br (ur : Bytes) (t1 t2 : Int) (ak : List Fd) (me ta : Bytes) (st : Int) (re : Bytes) (ba : Bool) (fs : List Fd) (bo : Bytes) : Br := (Br.ite (isM ur) (Br.ite (isCanP ur) (Br.ite (timB t1) (Br.ite (timB t2) (Br.ite (decide (t1 ≤ t2)) (Br.ite (fdsOk ak) (Br.ite (msgOkP me ta st re ba fs bo) (Br.ite (decide (me = ([] : Bytes))) (Br.ret (AV.bool (!ba)) []) (Br.ret (AV.bool false) [])) (Br.ret (AV.bool false) [])) (Br.ret (AV.bool false) [])) (Br.ret (AV.bool false) [])) (Br.ret (AV.bool false) [])) (Br.ret (AV.bool false) [])) (Br.ret (AV.bool false) [])) Br.fail)
def iEntryOk_s : List AV → List Ob → Br
  | [.agg [.str ur, .int .i64 t1, .int .i64 t2, .sh (.pair .str .str) ak, .str me, .str ta, .int .i64 st, .str re, .bool ba, .sh (.pair .str .str) fs, .str bo]], [] => iEntryOk_br ur t1 t2 ak me ta st re ba fs bo
  | _, _ => .fail
theorem iEntryOk_ok : Sound Kx 38 iEntryOk_s := sound_br (C := iEntryOk_C) (O := iEntryOk_O) Tryz.func38 (by kernel_rfl) fun args objs => by
  unfold iEntryOk_s; split
  · exact .inr (by kernel_rfl)
  · exact .inl rfl

def sEntryOk_O : Opt := { split := true }
def sEntryOk_C : SC := [⟨78, _, sIsCan_okQ⟩, ⟨79, _, sTime_okQ⟩, ⟨45, _, sFieldsOk_okQ⟩, ⟨63, _, sMsgOk_okQ⟩]
def sEntryOk_br (ur : Bytes) (t1 t2 : Int) (ak : List Fd) (me ta : Bytes) (st : Int) (re : Bytes) (ba : Bool) (fs : List Fd) (bo : Bytes) : Br := (Br.ite (isM ur) (Br.ite (isCanP ur) (Br.ite (timB t1) (Br.ite (timB t2) (Br.ite (decide (t1 ≤ t2)) (Br.ite (fdsOk ak) (Br.ite (msgOkP me ta st re ba fs bo) (Br.ite (decide (me = ([] : Bytes))) (Br.ret (AV.bool (!ba)) []) (Br.ret (AV.bool false) [])) (Br.ret (AV.bool false) [])) (Br.ret (AV.bool false) [])) (Br.ret (AV.bool false) [])) (Br.ret (AV.bool false) [])) (Br.ret (AV.bool false) [])) (Br.ret (AV.bool false) [])) Br.fail)
def sEntryOk_s : List AV → List Ob → Br
  | [.agg [.str ur, .int .i64 t1, .int .i64 t2, .sh (.pair .str .str) ak, .str me, .str ta, .int .i64 st, .str re, .bool ba, .sh (.pair .str .str) fs, .str bo]], [] => sEntryOk_br ur t1 t2 ak me ta st re ba fs bo
  | _, _ => .fail
theorem sEntryOk_ok : Sound Kx 34 sEntryOk_s := sound_br (C := sEntryOk_C) (O := sEntryOk_O) Tryz.func34 (by kernel_rfl) fun args objs => by
  unfold sEntryOk_s; split
  · exact .inr (by kernel_rfl)
  · exact .inl rfl

def ek_s : List AV → List Ob → Br := en_s (fun e => isM e.1) (fun e => .bool (entP e))
theorem iEntryOk_okQ : Sound Kx 38 ek_s := of_en iEntryOk_ok fun ur t1 t2 ak me ta st re ba fs bo h => by
  show (iEntryOk_br ur t1 t2 ak me ta st re ba fs bo).val = some (.bool (entP (ur, t1, t2, ak, me, ta, st, re, ba, fs, bo)), [])
  unfold iEntryOk_br entP
  refine (val_t h).trans ?_
  simp only
  cases isCanP ur <;> cases timB t1 <;> cases timB t2 <;> cases decide (t1 ≤ t2) <;> cases fdsOk ak <;> cases msgOkP me ta st re ba fs bo <;> cases decide (me = []) <;> rfl
theorem sEntryOk_okQ : Sound Kx 34 ek_s := of_en sEntryOk_ok fun ur t1 t2 ak me ta st re ba fs bo h => by
  show (sEntryOk_br ur t1 t2 ak me ta st re ba fs bo).val = some (.bool (entP (ur, t1, t2, ak, me, ta, st, re, ba, fs, bo)), [])
  unfold sEntryOk_br entP
  refine (val_t h).trans ?_
  simp only
  cases isCanP ur <;> cases timB t1 <;> cases timB t2 <;> cases decide (t1 ≤ t2) <;> cases fdsOk ak <;> cases msgOkP me ta st re ba fs bo <;> cases decide (me = []) <;> rfl

end
end Go.Proofs.YtdknaddanjpdaaaGreatDoor.Ev

namespace Go.Proofs.YtdknaddanjpdaaaGreatDoor.Ev
open Go Go.RowKit
set_option linter.unusedVariables false
set_option linter.unusedSimpArgs false
noncomputable section

end
end Go.Proofs.YtdknaddanjpdaaaGreatDoor.Ev

namespace Go.Proofs.YtdknaddanjpdaaaGreatDoor.Ev
open Go Go.RowKit
set_option linter.unusedVariables false
set_option linter.unusedSimpArgs false
noncomputable section

end
end Go.Proofs.YtdknaddanjpdaaaGreatDoor.Ev

namespace Go.Proofs.YtdknaddanjpdaaaGreatDoor.Ev
open Go Go.RowKit
set_option linter.unusedVariables false
set_option linter.unusedSimpArgs false
noncomputable section

end
end Go.Proofs.YtdknaddanjpdaaaGreatDoor.Ev

namespace Go.Proofs.YtdknaddanjpdaaaGreatDoor.Ev
open Go Go.RowKit
set_option linter.unusedVariables false
set_option linter.unusedSimpArgs false
noncomputable section


end
end Go.Proofs.YtdknaddanjpdaaaGreatDoor.Ev

namespace Go.Proofs.YtdknaddanjpdaaaGreatDoor.Ev
open Go Go.RowKit
set_option linter.unusedVariables false
set_option linter.unusedSimpArgs false
noncomputable section

end
end Go.Proofs.YtdknaddanjpdaaaGreatDoor.Ev

namespace Go.Proofs.YtdknaddanjpdaaaGreatDoor.Ev
open Go Go.RowKit
set_option linter.unusedVariables false
set_option linter.unusedSimpArgs false
noncomputable section


end
end Go.Proofs.YtdknaddanjpdaaaGreatDoor.Ev

namespace Go.Proofs.YtdknaddanjpdaaaGreatDoor.Ev
open Go Go.RowKit
set_option linter.unusedVariables false
set_option linter.unusedSimpArgs false

abbrev tyMsgE : Ty := .pair .str (.pair .str (.pair (.int .i64) (.pair .str (.pair .bool (.pair (.slice (.pair .str .str)) .str)))))
abbrev tyEnt : Ty := .pair .str (.pair (.int .i64) (.pair (.int .i64) (.pair (.slice (.pair .str .str)) tyMsgE)))
theorem reach_E {s : Bytes} (h : s.length ≤ reachBytes) : isM s = true := isM_of h (by decide)
theorem good_smFE {fs : List Fd} (h : Good (.slice (.pair .str .str)) fs) : smF fs = true := by
  simp only [Good] at h
  unfold smF
  rw [decide_eq_true (Nat.le_trans h.1 (by decide)), Bool.true_and, List.all_eq_true]
  intro f hf
  obtain ⟨h1, h2⟩ := h.2 f hf
  unfold isMF
  rw [reach_E h1, reach_E h2]; rfl
theorem good_smME {me ta re bo : Bytes} {st : Int} {ba : Bool} {fs : List Fd} (h : Good tyMsgE (me, ta, st, re, ba, fs, bo)) : smM me ta re fs bo = true := by
  simp only [tyMsgE, Good] at h
  obtain ⟨h1, h2, _, h4, _, h6, h7⟩ := h
  unfold smM
  rw [reach_E h1, reach_E h2, reach_E h4, reach_E h7, good_smFE (by simp only [Good]; exact h6)]; rfl
theorem good_smE {e : En} (h : Good tyEnt e) : smE e = true := by
  obtain ⟨ur, t1, t2, ak, me, ta, st, re, ba, fs, bo⟩ := e
  obtain ⟨h1, _, _, h4, h5⟩ := h
  unfold smE
  rw [reach_E h1, good_smFE h4, good_smME h5]; rfl
theorem szE_small {e : En} {left : Int} (h : ¬ szM (enW e) left < 0) : (e.2.2.2.1.length : Int) ≤ left ∧ (e.2.2.2.2.2.2.2.2.2.1.length : Int) ≤ left ∧ 0 ≤ szM (enW e) left ∧ szM (enW e) left ≤ left := by
  have h1 := totF_nn e.2.2.2.1
  have h2 := totF_nn e.2.2.2.2.2.2.2.2.2.1
  unfold szM at h ⊢
  cases hc : decide (enW e ≤ left)
  · rw [hc, cond_false] at h; omega
  · have := of_decide_eq_true hc
    rw [cond_true]
    unfold enW msgW at this ⊢; omega

end Go.Proofs.YtdknaddanjpdaaaGreatDoor.Ev

namespace Go.Proofs.YtdknaddanjpdaaaGreatDoor.Ev
open Go Go.RowKit
set_option linter.unusedVariables false
set_option linter.unusedSimpArgs false
noncomputable section

end
end Go.Proofs.YtdknaddanjpdaaaGreatDoor.Ev

namespace Go.Proofs.YtdknaddanjpdaaaGreatDoor.Ev
open Go Go.RowKit
set_option linter.unusedVariables false
set_option linter.unusedSimpArgs false
noncomputable section

end
end Go.Proofs.YtdknaddanjpdaaaGreatDoor.Ev

namespace Go.Proofs.YtdknaddanjpdaaaGreatDoor.Ev
open Go Go.RowKit
set_option linter.unusedVariables false
set_option linter.unusedSimpArgs false
noncomputable section

end
end Go.Proofs.YtdknaddanjpdaaaGreatDoor.Ev

namespace Go.Proofs.YtdknaddanjpdaaaGreatDoor.Ev
open Go Go.RowKit
set_option linter.unusedVariables false
set_option linter.unusedSimpArgs false
theorem okLeft_of {x : Int} (h : 0 ≤ x) (h1 : x ≤ 1048576) : okLeft x = true := by
  unfold okLeft; rw [decide_eq_true h, decide_eq_true h1]; rfl
end Go.Proofs.YtdknaddanjpdaaaGreatDoor.Ev
