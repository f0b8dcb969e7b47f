/- The texts Ub, Uc, AnyS, one behind the other. -/
import Derived.Test.YtgknmoadpgpdeaaGreatDoorK23
import Derived.Test.YtgknmoadpgpdeaaGreatDoorK19
import Derived.Lib.Split
import Derived.Test.YtgknmoadpgpdeaaGreatDoorK17
import Derived.Test.YtgknmoadpgpdeaaGreatDoorK15
namespace Go.Proofs.YtgknmoadpgpdeaaGreatDoor.Ev
open Go Go.RowKit
set_option linter.unusedVariables false
set_option linter.unusedSimpArgs false
noncomputable section

def splR (b : Int) : Bytes → Bytes → List Bytes
  | cur, [] => [cur]
  | cur, x :: r => bif decide (by8 x = b) then cur :: splR b [] r else splR b (cur ++ [x]) r
theorem splR_cons (b : Int) (cur : Bytes) (x : UInt8) (r : Bytes) : splR b cur (x :: r) = bif decide (by8 x = b) then cur :: splR b [] r else splR b (cur ++ [x]) r := by rw [splR]
def splP (s : Bytes) (b : Int) : List Bytes := splR b [] s

theorem cut_of {s p cur r : Bytes} {lo hi : Int} (h : s = p ++ (cur ++ r)) (hlo : lo = (p.length : Int)) (hhi : hi = lo + (cur.length : Int)) : Ev.cut s lo hi = cur := by
  subst h hlo hhi
  unfold Ev.cut
  rw [show ((p.length : Int) + (cur.length : Int)).toNat = p.length + cur.length by omega, show ((p.length : Int)).toNat = p.length by omega]
  rw [List.take_append]
  simp
theorem splR_hit (b : Int) : ∀ (r cur : Bytes), (uptoP r b).length ≠ r.length → splR b cur r = (cur ++ uptoP r b) :: splP (r.drop ((uptoP r b).length + 1)) b
  | [], cur, h => absurd rfl h
  | x :: r, cur, h => by
    unfold uptoP at h ⊢
    rw [List.takeWhile_cons] at h ⊢
    unfold splR
    cases c : decide (by8 x = b)
    · rw [c] at h
      simp only [Bool.not_false, if_true, List.length_cons] at h
      have ih := splR_hit b r (cur ++ [x]) (by unfold uptoP; omega)
      unfold uptoP at ih
      rw [cond_false, ih]
      simp
    · simp [splP]
theorem splR_miss (b : Int) : ∀ (r cur : Bytes), (uptoP r b).length = r.length → splR b cur r = [cur ++ r]
  | [], cur, h => by simp [splR]
  | x :: r, cur, h => by
    unfold uptoP at h
    rw [List.takeWhile_cons] at h
    unfold splR
    cases c : decide (by8 x = b)
    · rw [c] at h
      simp only [Bool.not_false, if_true, List.length_cons] at h
      rw [cond_false, splR_miss b r (cur ++ [x]) (by unfold uptoP; omega)]
      simp
    · rw [c] at h; simp at h
theorem upto_le (s : Bytes) (b : Int) : (uptoP s b).length ≤ s.length := (List.takeWhile_sublist _).length_le
theorem upto_take (s : Bytes) (b : Int) : s.take (uptoP s b).length = uptoP s b := by
  have h : uptoP s b <+: s := List.takeWhile_prefix _
  exact (List.prefix_iff_eq_take.1 h).symm
theorem index_upto (c : UInt8) (s : Bytes) : Lib.index s [c] = bif decide ((uptoP s (by8 c)).length = s.length) then -1 else ((uptoP s (by8 c)).length : Int) := by
  have h := cut_upto c s
  unfold cutP Lib.cut at h
  have hg := Lib.index_ge s [c]
  cases d : decide ((uptoP s (by8 c)).length = s.length)
  · rw [d] at h
    by_cases h0 : 0 ≤ Lib.index s [c]
    · rw [if_pos h0] at h
      simp only [Prod.mk.injEq] at h
      have := congrArg List.length h.1
      have hlt : (Lib.index s [c]).toNat ≤ s.length := by
        have := Lib.index_le s [c]
        omega
      rw [List.length_take] at this
      rw [cond_false]; omega
    · rw [if_neg h0] at h
      simp only [Prod.mk.injEq, Bool.not_false] at h
      exact absurd h.2.2 (by decide)
  · rw [d] at h
    by_cases h0 : 0 ≤ Lib.index s [c]
    · rw [if_pos h0] at h
      simp only [Prod.mk.injEq, Bool.not_true] at h
      exact absurd h.2.2 (by decide)
    · rw [cond_true]; omega
theorem splitK_spl (c : UInt8) : ∀ (fuel : Nat) (s : Bytes), s.length < fuel → Lib.splitK [c] 0 (Lib.countFrom [c] fuel s) s = splP s (by8 c) := by
  intro fuel
  induction fuel with
  | zero => intro s h; omega
  | succ fuel ih =>
    intro s h
    unfold Lib.countFrom
    rw [index_upto]
    cases d : decide ((uptoP s (by8 c)).length = s.length)
    · have d' := of_decide_eq_false d
      rw [cond_false]
      have e : (((uptoP s (by8 c)).length : Int) == -1) = false := by rw [beq_eq_false_iff_ne]; omega
      have hle := upto_le s (by8 c)
      rw [e]
      simp only [Bool.false_eq_true, if_false]
      rw [Nat.add_comm 1]
      unfold Lib.splitK
      rw [index_upto, d, cond_false, e]
      simp only [Bool.false_eq_true, if_false, Int.toNat_natCast, Nat.add_zero, List.length_singleton]
      rw [ih (s.drop _) (by rw [List.length_drop]; omega), upto_take]
      unfold splP
      rw [splR_hit _ s [] d']
      rfl
    · rw [cond_true]
      simp only [BEq.rfl, if_true]
      unfold Lib.splitK splP
      rw [splR_miss _ s [] (of_decide_eq_true d)]
      rfl
theorem split_spl (c : UInt8) (s : Bytes) : Lib.split s [c] = splP s (by8 c) := splitK_spl c _ s (Nat.lt_succ_self _)
theorem splR_ne (b : Int) : ∀ (r cur : Bytes), splR b cur r ≠ []
  | [], cur => by simp [splR]
  | x :: r, cur => by
    unfold splR
    cases decide (by8 x = b)
    · exact splR_ne b r _
    · simp
theorem splR_len (b : Int) : ∀ (r cur : Bytes), (splR b cur r).length ≤ r.length + 1
  | [], cur => by simp [splR]
  | x :: r, cur => by
    unfold splR
    cases decide (by8 x = b)
    · have := splR_len b r (cur ++ [x]); simp only [cond_false, List.length_cons]; omega
    · have := splR_len b r []; simp only [cond_true, List.length_cons]; omega
theorem spl_len (s : Bytes) (b : Int) : (splP s b).length ≤ s.length + 1 := splR_len b s []
def hexI (n : Int) : Int := bif isDig n then n - 48 else bif decide (97 ≤ n) && decide (n ≤ 102) then n - 97 + 10 else bif decide (65 ≤ n) && decide (n ≤ 70) then n - 65 + 10 else -1
def freeB (n : Int) : Bool := isLow n || isUp n || isDig n || decide (n = 45) || decide (n = 46) || decide (n = 95) || decide (n = 126)
def upI (n : Int) : Int := bif isLow n then n - 32 else n
def hexTab : Bytes := [48, 49, 50, 51, 52, 53, 54, 55, 56, 57, 65, 66, 67, 68, 69, 70]
theorem hexI_lt (n : Int) : hexI n < 16 := by
  unfold hexI isDig
  cases h : decide (48 ≤ n) && decide (n ≤ 57)
  · rw [cond_false]
    cases h2 : decide (97 ≤ n) && decide (n ≤ 102)
    · rw [cond_false]
      cases h3 : decide (65 ≤ n) && decide (n ≤ 70)
      · rw [cond_false]; omega
      · simp only [Bool.and_eq_true, decide_eq_true_eq] at h3; rw [cond_true]; omega
    · simp only [Bool.and_eq_true, decide_eq_true_eq] at h2; rw [cond_true]; omega
  · simp only [Bool.and_eq_true, decide_eq_true_eq] at h; rw [cond_true]; omega
def pairI (a b : UInt8) : Int := 16 * hexI (by8 a) + hexI (by8 b)
def isPct (c a b : UInt8) : Bool := decide (by8 c = 37) && !decide (hexI (by8 a) < 0) && !decide (hexI (by8 b) < 0)
def pctOne (a b : UInt8) : Bytes := bif freeB (pairI a b) then [UInt8.ofNat (pairI a b).toNat] else [37, UInt8.ofNat (upI (by8 a)).toNat, UInt8.ofNat (upI (by8 b)).toNat]
def pctP : Bytes → Bytes
  | [] => []
  | [c] => [c]
  | [c, d] => [c, d]
  | c :: a :: b :: r => bif isPct c a b then pctOne a b ++ pctP r else c :: pctP (a :: b :: r)
theorem pctP_len : ∀ s : Bytes, (pctP s).length ≤ s.length
  | [] => Nat.le_refl _
  | [c] => Nat.le_refl _
  | [c, d] => Nat.le_refl _
  | c :: a :: b :: r => by
    unfold pctP
    cases isPct c a b
    · have := pctP_len (a :: b :: r); simp only [cond_false, List.length_cons] at this ⊢; omega
    · have := pctP_len r
      have h : (pctOne a b).length ≤ 3 := by unfold pctOne; cases freeB (pairI a b) <;> simp
      simp only [cond_true, List.length_append, List.length_cons]; omega
theorem pctP_slash (r : Bytes) : pctP (47 :: r) = 47 :: pctP r := by
  cases r with
  | nil => rfl
  | cons a r => cases r with
    | nil => rfl
    | cons b r =>
      have e : isPct 47 a b = false := by unfold isPct; rw [show decide (by8 47 = 37) = false from rfl]; rfl
      unfold pctP
      rw [e, cond_false]
      cases r <;> rfl

def dotB (s : Bytes) : Bool := decide (s = [46]) || decide (s = [46, 46])
def stepS (out : List Bytes) (s : Bytes) : List Bytes := bif decide (s = [46]) then out else bif decide (s = [46, 46]) then out.dropLast else out ++ [s]
def segsP (l : List Bytes) : List Bytes := l.foldl stepS [] ++ (bif dotB (l.getLastD []) then [[]] else [])
theorem stepS_len (out : List Bytes) (s : Bytes) : (stepS out s).length ≤ out.length + 1 := by
  unfold stepS
  cases decide (s = [46])
  · cases decide (s = [46, 46])
    · simp
    · simp; omega
  · simp
def pathOk (p : Bytes) : Bool := decide (p.length ≤ 200) && allP isVis p && !hasB p 35 && !hasB p 63
def cleanP (p : Bytes) : Bytes := match p with
  | 47 :: r => bif pathOk (47 :: r) then 47 :: joinP (segsP (splP (pctP r) 47)) [47] else []
  | _ => []

def hoB (n : Int) : Bool := isLow n || isDig n || decide (n = 45) || decide (n = 46)
def hostP (h : Bytes) : Bool := decide (1 ≤ h.length) && decide (h.length ≤ 60) && allP hoB h && !inP (splP h 46) []

def httpB : Bytes := [104, 116, 116, 112, 58, 47, 47]
def portT (po : Int) : Bytes := bif decide (po = 80) then [] else 58 :: decD po
def queryT (q : Bytes) (hq : Bool) : Bytes := bif hq then 63 :: q else []
def urlT (h : Bytes) (po : Int) (pa q : Bytes) (hq : Bool) : Bytes := httpB ++ h ++ portT po ++ pa ++ queryT q hq
def urlOkP (h : Bytes) (po : Int) (pa q : Bytes) (hq : Bool) : Bool :=
  hostP h && (decide (1 ≤ po) && decide (po ≤ 65535)) && !decide (pa = []) && decide (cleanP pa = pa) && allP isVis q && !hasB q 35 && (hq || decide (q = [])) && decide ((urlT h po pa q hq).length ≤ 200)
structure Ur where
  h : Bytes
  po : Int
  pa : Bytes
  q : Bytes
  hq : Bool
def u0 : Ur := ⟨[], 0, [], [], false⟩
def frontP (r : Bytes) : Bytes := uptoP r 63
def authP (r : Bytes) : Bytes := uptoP (frontP r) 47
def portR (a : Bytes) : Int × Bool := bif decide ((uptoP a 58).length < a.length) then decR (a.drop ((uptoP a 58).length + 1)) else (80, true)
def pathR (r : Bytes) : Bytes := bif decide ((authP r).length < (frontP r).length) then cleanP ((frontP r).drop (authP r).length) else [47]
def urlR (r : Bytes) : Ur := ⟨foldP (uptoP (authP r) 58), (portR (authP r)).1, pathR r, bif decide ((frontP r).length < r.length) then r.drop ((frontP r).length + 1) else [], decide ((frontP r).length < r.length)⟩
def readOk (s : Bytes) : Bool := decide (s.length ≤ 200) && decide (7 ≤ s.length) && allP isVis s && !hasB s 35 && decide (foldP (s.take 7) = httpB)
def Ur.ok (u : Ur) : Bool := urlOkP u.h u.po u.pa u.q u.hq
def readUP (s : Bytes) : Ur × Bool := bif readOk s && (portR (authP (s.drop 7))).2 && (urlR (s.drop 7)).ok then (urlR (s.drop 7), true) else (u0, false)
def Ur.text (u : Ur) : Bytes := urlT u.h u.po u.pa u.q u.hq
def canonP (s : Bytes) : Bytes × Bool := bif (readUP s).2 then ((readUP s).1.text, true) else ([], false)
def isCanP (s : Bytes) : Bool := (canonP s).2 && decide ((canonP s).1 = s)

theorem isFree_okQ : Sound Kx 336 (pr_s freeB) := of_pr isFree_ok fun b => by
  show (isFree_br b).val = _
  unfold isFree_br freeB
  simp only [Br.val]
  cases isLow b <;> cases isUp b <;> cases isDig b <;> cases decide (b = 45) <;> cases decide (b = 46) <;> cases decide (b = 95) <;> rfl
theorem hostB_okQ : Sound Kx 337 (pr_s hoB) := of_pr hostB_ok fun b => by
  show (hostB_br b).val = _
  unfold hostB_br hoB
  simp only [Br.val]
  cases isLow b <;> cases isDig b <;> cases decide (b = 45) <;> rfl
def hx_s : List AV → List Ob → Br
  | [.int .u8 b], [] => .ret (.int .i64 (hexI b)) []
  | _, _ => .fail
theorem hexOf_okQ : Sound Kx 335 hx_s := hexOf_ok.of fun args objs r h => by
  unfold hx_s at h
  split at h
  case h_2 => cases h
  rename_i b
  cases h
  show (hexOf_br b).val = _
  unfold hexOf_br hexI
  cases h1 : isDig b
  · by_cases g1 : 97 ≤ b <;> by_cases g2 : b ≤ 102 <;> by_cases g3 : 65 ≤ b <;> by_cases g4 : b ≤ 70 <;> simp only [Br.val, g1, g2, g3, g4, decide_true, decide_false, Bool.and_true, Bool.and_false, Bool.false_and, Bool.true_and, cond_true, cond_false] <;>
      simp (disch := omega) only [w8, w64]
  · simp only [isDig, Bool.and_eq_true, decide_eq_true_eq] at h1
    simp only [Br.val]
    rw [w8 (by omega) (by omega), w64 (by omega) (by omega)]; rfl
def ascP (s : Bytes) : Bool := allP (fun n => decide (n < 128)) s
theorem asc_get {s : Bytes} (h : ascP s = true) : ∀ (j : Nat) b, s[j]? = some b → b.toNat < 128 := by
  intro j b hb
  unfold ascP allP at h
  rw [List.all_eq_true] at h
  have := h b (List.mem_of_getElem? hb)
  rw [decide_eq_true_eq] at this
  unfold by8 at this; omega
def anyIx (s cs : Bytes) : Int := Lib.indexAny s cs
def ixAny_s : List AV → List Ob → Br
  | [.str s, .str cs], [] => .ite (decide (s.length ≤ 1000000) && decide (cs.length ≤ 1000000) && ascP s && ascP cs) (.ret (.int .i64 (anyIx s cs)) []) .fail
  | _, _ => .fail
theorem ixAny_okQ : Sound Kx 283 ixAny_s := by
  refine sound_calls Tryz.func283 (by kernel_rfl) rfl fun args objs res objs' hv w L vs hR hr => ?_
  unfold ixAny_s at hv
  split at hv
  case h_2 => cases hv
  rename_i s cs
  obtain ⟨h1, h2⟩ := ite_some hv
  cases h2
  simp only [Bool.and_eq_true, decide_eq_true_eq] at h1
  refine ⟨rfl, ?_⟩
  simp only [rels, rel] at hr
  obtain ⟨v, vs', rfl, rfl, v2, vs2, rfl, rfl, rfl⟩ := hr
  refine (Tryz.strings_IndexAny_laid ⟨s.toArray⟩ ⟨cs.toArray⟩ w (by show s.toArray.size < _; simp; omega) (by show cs.toArray.size < _; simp; omega) (asc_get h1.1.2) (asc_get h1.2)).mono ?_
  rintro e w' ⟨rfl, hb⟩
  exact ⟨_, rfl, hb, by simp only [rel]; rfl⟩
def coAny_s : List AV → List Ob → Br
  | [.str s, .str cs], [] => .ite (decide (s.length ≤ 1000000) && decide (cs.length ≤ 1000000) && ascP s && ascP cs) (.ret (.bool (decide (0 ≤ anyIx s cs))) []) .fail
  | _, _ => .fail
theorem coAny_okQ : Sound Kx 317 coAny_s := by
  refine sound_calls Tryz.func317 (by kernel_rfl) rfl fun args objs res objs' hv w L vs hR hr => ?_
  unfold coAny_s at hv
  split at hv
  case h_2 => cases hv
  rename_i s cs
  obtain ⟨h1, h2⟩ := ite_some hv
  cases h2
  simp only [Bool.and_eq_true, decide_eq_true_eq] at h1
  refine ⟨rfl, ?_⟩
  simp only [rels, rel] at hr
  obtain ⟨v, vs', rfl, rfl, v2, vs2, rfl, rfl, rfl⟩ := hr
  refine (Tryz.strings_ContainsAny_laid ⟨s.toArray⟩ ⟨cs.toArray⟩ w (by show s.toArray.size < _; simp; omega) (by show cs.toArray.size < _; simp; omega) (asc_get h1.1.2) (asc_get h1.2)).mono ?_
  rintro e w' ⟨rfl, hb⟩
  exact ⟨_, rfl, hb, by simp only [rel]; rfl⟩
def con1_s : List AV → List Ob → Br
  | [.str s, .str [c]], [] => .ret (.bool (hasB s (by8 c))) []
  | _, _ => .fail
theorem indexByte_has (s : Bytes) (c : UInt8) : decide (0 ≤ Lib.indexByte s c) = hasB s (by8 c) := by
  have := ixOf_nn s (by8 c) (by8_nn c) (by8_lt c)
  unfold ixOf at this
  have e : (by8 c).toNat.toUInt8 = c := by simp [by8]
  rw [e] at this; exact this
theorem con1_okQ : Sound Kx 246 con1_s := by
  refine sound_calls Tryz.func246 (by kernel_rfl) rfl fun args objs res objs' hv w L vs hR hr => ?_
  unfold con1_s at hv
  split at hv
  case h_2 => cases hv
  rename_i s c
  cases hv
  refine ⟨rfl, ?_⟩
  simp only [rels, rel] at hr
  obtain ⟨v, vs', rfl, rfl, v2, vs2, rfl, rfl, rfl⟩ := hr
  refine (Tryz.strings_Contains_one ⟨s.toArray⟩ c w).mono ?_
  rintro e w' ⟨rfl, rfl⟩
  refine ⟨_, rfl, Below.refl _ _, ?_⟩
  simp only [rel]
  rw [← indexByte_has s c]
theorem anyIx_cases (a b : UInt8) : ∀ s : Bytes, anyIx s [a, b] = bif hasB s (by8 a) || hasB s (by8 b) then ((uptoP (uptoP s (by8 b)) (by8 a)).length : Int) else -1
  | [] => rfl
  | x :: r => by
    have ih := anyIx_cases a b r
    unfold anyIx at ih ⊢
    unfold Lib.indexAny
    have e1 : hasB (x :: r) (by8 a) = (decide (by8 x = by8 a) || hasB r (by8 a)) := rfl
    have e2 : hasB (x :: r) (by8 b) = (decide (by8 x = by8 b) || hasB r (by8 b)) := rfl
    have hx : ∀ c : UInt8, decide (by8 x = by8 c) = decide (x = c) := fun c => by
      rw [Bool.eq_iff_iff, decide_eq_true_eq, decide_eq_true_eq]; exact ⟨by8_inj, fun h => by rw [h]⟩
    have hc : [a, b].contains x = (decide (x = a) || decide (x = b)) := by
      simp only [List.contains_cons, List.contains_nil, Bool.or_false]
      cases h1 : decide (x = a) <;> cases h2 : decide (x = b) <;> simp_all
    rw [hc, e1, e2, hx a, hx b, ih]
    unfold uptoP
    rw [List.takeWhile_cons, hx b]
    cases h2 : decide (x = b)
    · simp only [Bool.not_false, if_true, List.takeWhile_cons, hx a, Bool.or_false, Bool.false_or]
      cases h1 : decide (x = a)
      · simp only [Bool.not_false, if_true, Bool.false_or, Bool.false_eq_true, if_false, List.length_cons]
        cases hasB r (by8 a) || hasB r (by8 b)
        · rfl
        · have : ((((r.takeWhile fun x => !decide (by8 x = by8 b)).takeWhile fun x => !decide (by8 x = by8 a)).length : Int) == -1) = false := by rw [beq_eq_false_iff_ne]; omega
          rw [cond_true, this]; simp
      · simp
    · simp
end
end Go.Proofs.YtgknmoadpgpdeaaGreatDoor.Ev
