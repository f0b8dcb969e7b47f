/- The texts Nd, one behind the other. -/
import Derived.Test.YtmmjaomfonknnaaGreatDoorK13
namespace Go.Proofs.YtmmjaomfonknnaaGreatDoor.Ev
open Go Go.RowKit
set_option linter.unusedVariables false
set_option linter.unusedSimpArgs false
noncomputable section

def partE : Bytes → Bool → Bytes → List Bytes
  | cur, _, [] => [cur]
  | cur, q, c :: r =>
    bif decide (by8 c = 34) then partE (cur ++ [c]) (!q) r
    else bif q && decide (by8 c = 92) then (match r with | [] => [cur ++ [c]] | d :: r' => partE (cur ++ [c, d]) q r')
    else bif !q && decide (by8 c = 44) then cur :: partE [] q r
    else partE (cur ++ [c]) q r
theorem partE_cons (cur : Bytes) (q : Bool) (c : UInt8) (r : Bytes) : partE cur q (c :: r) = bif decide (by8 c = 34) then partE (cur ++ [c]) (!q) r
    else bif q && decide (by8 c = 92) then (match r with | [] => [cur ++ [c]] | d :: r' => partE (cur ++ [c, d]) q r')
    else bif !q && decide (by8 c = 44) then cur :: partE [] q r
    else partE (cur ++ [c]) q r := by cases r <;> rfl
theorem partE_nil (cur : Bytes) (q : Bool) : partE cur q [] = [cur] := rfl
def keepE : List Bytes → List Bytes
  | [] => []
  | x :: r => bif decide (trimP x = []) then keepE r else trimP x :: keepE r
def elemP (s : Bytes) : List Bytes := bif decide (4000 < (s.length : Int)) then [] else keepE (partE [] false s)
theorem lt_pos (l : Bytes) : decide ((0 : Int) < (l.length : Int)) = !decide (l = []) := by cases l <;> simp
theorem keep_cons (x : Bytes) (r : List Bytes) : keepE (x :: r) = bif decide (trimP x = []) then keepE r else trimP x :: keepE r := rfl
theorem sElements_loop (s : Bytes) (hl : s.length ≤ 4000) (k : List Bytes → Option Rs) : ∀ (n : Nat) (p cur r : Bytes) (q : Bool) (out : List Bytes) (i fr : Int), s = p ++ cur ++ r → i = ((p.length + cur.length : Nat) : Int) → fr = (p.length : Int) → r.length + 1 < n → out.length ≤ p.length →
    sElements_F7 n s fr q i out k = k (out ++ keepE (partE cur q r)) := by
  intro n; induction n with
  | zero => intro p cur r q out i fr hs hi hf hn; omega
  | succ n ih =>
    intro p cur r q out i fr hs hi hf hn ho
    have hat : At s i r := ⟨p ++ cur, hs, by rw [hi]; simp⟩
    have hlen : s.length = p.length + cur.length + r.length := by rw [hs]; simp; omega
    have hcut : cut s fr i = cur := by rw [hs, hi, hf, Int.natCast_add]; exact cut_mid p cur r
    have hnf : decide (0 ≤ fr) = true := decide_eq_true (by omega)
    have hfi : decide (fr ≤ i) = true := decide_eq_true (by omega)
    have hil : decide (i ≤ (s.length : Int)) = true := decide_eq_true (by omega)
    have hM : isM cur = true := isM_of (n := 4000) (by omega)
    have hw : wk64 (i + 1) = i + 1 := w64 (by omega) (by omega)
    have hap : decide ((out.length + [trimP cur].length) * 16 ≤ 140737488355328) = true := decide_eq_true (by simp only [List.length_singleton]; omega)
    unfold sElements_F7 sElements_T7
    simp only [hcut, hnf, hfi, hil, hM, hw, hap, one_set, lt_pos, cond_true, hat.dnn]
    cases r with
    | nil =>
      have he : decide (i = (s.length : Int)) = true := decide_eq_true (by simp only [List.length_nil] at hlen; omega)
      simp only [List.length_nil] at hn
      obtain ⟨m, rfl⟩ : ∃ m, n = m + 1 := ⟨n - 1, by omega⟩
      have hx : decide (i + 1 ≤ (s.length : Int)) = false := decide_eq_false (by simp only [List.length_nil] at hlen; omega)
      have hend : ∀ o, sElements_F7 (m + 1) s (i + 1) q (i + 1) o k = k o := fun o => by unfold sElements_F7 sElements_T7; rw [hx, cond_false]
      simp only [he, cond_true, hend, partE_nil, keep_cons, keepE]
      cases decide (trimP cur = []) <;> simp
    | cons c r =>
      have he : decide (i = (s.length : Int)) = false := decide_eq_false (by simp only [List.length_cons] at hlen; omega)
      simp only [List.length_cons] at hn hlen
      have hstep : ∀ q', sElements_F7 n s fr q' (i + 1) out k = k (out ++ keepE (partE (cur ++ [c]) q' r)) := fun q' =>
        ih p (cur ++ [c]) r q' out (i + 1) fr (by rw [hs]; simp) (by rw [hi]; simp; omega) hf (by omega) ho
      have hcom : ∀ q' o, o.length ≤ p.length + 1 → sElements_F7 n s (i + 1) q' (i + 1) o k = k (o ++ keepE (partE [] q' r)) := fun q' o ho' =>
        ih (p ++ cur ++ [c]) [] r q' o (i + 1) (i + 1) (by rw [hs]; simp) (by rw [hi]; simp; omega) (by rw [hi]; simp; omega) (by omega) (by simp; omega)
      have h0 := hcom q out (by omega)
      have h1 := hcom q (out ++ [trimP cur]) (by simp; omega)
      simp only [he, hat.dlt, hat.dnn, hat.str, cond_true, cond_false, h0, h1, hstep]
      rw [partE_cons]
      cases c1 : decide (by8 c = 34)
      · cases q
        · cases c3 : decide (by8 c = 44)
          · simp
          · simp only [Bool.not_false, Bool.false_and, Bool.true_and, cond_true, cond_false, keep_cons]
            cases decide (trimP cur = []) <;> simp
        · cases c2 : decide (by8 c = 92)
          · simp
          · simp only [Bool.not_true, Bool.true_and, cond_true, cond_false]
            cases r with
            | nil =>
              have hx : decide (i + 1 < (s.length : Int)) = false := decide_eq_false (by simp only [List.length_nil] at hlen; omega)
              simp only [hx, cond_false, partE_nil]
            | cons d r =>
              have hx : decide (i + 1 < (s.length : Int)) = true := decide_eq_true (by simp only [List.length_cons] at hlen; omega)
              have hw2 : wk64 (i + 1 + 1) = i + 1 + 1 := w64 (by omega) (by omega)
              simp only [List.length_cons] at hn hlen
              simp only [hx, cond_true, hw2]
              exact ih p (cur ++ [c, d]) r true out _ fr (by rw [hs]; simp) (by rw [hi]; simp; omega) hf (by omega) ho
      · have c3 : decide (by8 c = 44) = false := decide_eq_false (by have := of_decide_eq_true c1; omega)
        cases q <;> simp [c3]
theorem iElements_loop (s : Bytes) (hl : s.length ≤ 4000) (k : Bytes → Int → List Bytes → Option Rs) (K : List Bytes → Option Rs)
    (hk : ∀ (p cur : Bytes) (fr : Int) (out : List Bytes), s = p ++ cur → fr = (p.length : Int) → out.length ≤ p.length → k s fr out = K (out ++ keepE [cur])) : ∀ (n : Nat) (p cur r : Bytes) (q : Bool) (out : List Bytes) (i fr : Int), s = p ++ cur ++ r → i = ((p.length + cur.length : Nat) : Int) → fr = (p.length : Int) → r.length < n → out.length ≤ p.length →
    iElements_F7 n s fr q i out k = K (out ++ keepE (partE cur q r)) := by
  intro n; induction n with
  | zero => intro p cur r q out i fr hs hi hf hn; omega
  | succ n ih =>
    intro p cur r q out i fr hs hi hf hn ho
    have hat : At s i r := ⟨p ++ cur, hs, by rw [hi]; simp⟩
    have hlen : s.length = p.length + cur.length + r.length := by rw [hs]; simp; omega
    have hcut : cut s fr i = cur := by rw [hs, hi, hf, Int.natCast_add]; exact cut_mid p cur r
    have hnf : decide (0 ≤ fr) = true := decide_eq_true (by omega)
    have hfi : decide (fr ≤ i) = true := decide_eq_true (by omega)
    have hil : decide (i ≤ (s.length : Int)) = true := decide_eq_true (by omega)
    have hM : isM cur = true := isM_of (n := 4000) (by omega)
    have hw : wk64 (i + 1) = i + 1 := w64 (by omega) (by omega)
    have hap : decide (out.length ≤ 100000) = true := decide_eq_true (by omega)
    unfold iElements_F7 iElements_T7
    simp only [hcut, hnf, hfi, hil, hM, hw, hap, cond_true, hat.dnn, Bool.and_self]
    cases r with
    | nil =>
      simp only [hat.dge, cond_false, partE_nil]
      exact hk p cur fr out (by rw [hs]; simp) hf ho
    | cons c r =>
      simp only [List.length_cons] at hn hlen
      have hstep : ∀ q', iElements_F7 n s fr q' (i + 1) out k = K (out ++ keepE (partE (cur ++ [c]) q' r)) := fun q' =>
        ih p (cur ++ [c]) r q' out (i + 1) fr (by rw [hs]; simp) (by rw [hi]; simp; omega) hf (by omega) ho
      have hcom : ∀ q' o, o.length ≤ p.length + 1 → iElements_F7 n s (i + 1) q' (i + 1) o k = K (o ++ keepE (partE [] q' r)) := fun q' o ho' =>
        ih (p ++ cur ++ [c]) [] r q' o (i + 1) (i + 1) (by rw [hs]; simp) (by rw [hi]; simp; omega) (by rw [hi]; simp; omega) (by omega) (by simp; omega)
      have h0 := hcom q out (by omega)
      have h1 := hcom q (out ++ [trimP cur]) (by simp; omega)
      simp only [hat.dlt, hat.dnn, hat.str, cond_true, cond_false, h0, h1, hstep]
      rw [partE_cons]
      cases c1 : decide (by8 c = 34)
      · cases q
        · cases c3 : decide (by8 c = 44)
          · simp
          · simp only [Bool.not_false, Bool.false_and, Bool.true_and, cond_true, cond_false, keep_cons]
            cases decide (trimP cur = []) <;> simp
        · cases c2 : decide (by8 c = 92)
          · simp
          · simp only [Bool.not_true, Bool.true_and, cond_true, cond_false]
            have hw2 : wk64 (i + 1 + 1) = i + 1 + 1 := w64 (by omega) (by omega)
            cases r with
            | nil =>
              simp only [List.length_nil] at hn hlen
              obtain ⟨m, rfl⟩ : ∃ m, n = m + 1 := ⟨n - 1, by omega⟩
              have hx : decide (i + 1 + 1 < (s.length : Int)) = false := decide_eq_false (by omega)
              rw [hw2]
              unfold iElements_F7 iElements_T7
              simp only [hx, cond_false]
              exact hk p (cur ++ [c]) fr out (by rw [hs]; simp) hf ho
            | cons d r =>
              simp only [List.length_cons] at hn hlen
              rw [hw2]
              exact ih p (cur ++ [c, d]) r true out _ fr (by rw [hs]; simp) (by rw [hi]; simp; omega) hf (by omega) ho
      · have c3 : decide (by8 c = 44) = false := decide_eq_false (by have := of_decide_eq_true c1; omega)
        cases q <;> simp [c3]
def tl_s (p : Bytes → List Bytes) : List AV → List Ob → Br
  | [.str s], [] => .ret (.ref 0 0) [.arr .str 0 false (p s)]
  | _, _ => .fail
theorem sElements_okQ : Sound Kx 99 (tl_s elemP) := by
  refine (sElements_okOf (φ := fun s => .ret (.ref 0 0) [.arr .str 0 false (elemP s)]) (fun s => s.length + 2) fun s r h => ?_).of fun args objs r h => ?_
  · cases h
    unfold sElements_run elemP
    cases c : decide (4000 < (s.length : Int))
    · have := of_decide_eq_false c
      simp only [cond_false]
      rw [sElements_loop s (by omega) _ (s.length + 2) [] [] s false [] 0 0 rfl rfl rfl (by omega) (by simp)]
      rfl
    · rfl
  · unfold tl_s at h; split at h
    · exact h
    · cases h
theorem cut_to_end (p m : Bytes) : cut (p ++ m) (p.length : Int) ((p ++ m).length : Int) = m := by
  have := cut_mid p m []
  rw [List.append_nil] at this
  rw [← Int.natCast_add, ← List.length_append] at this
  exact this
theorem iElements_okQ : Sound Kx 103 (tl_s elemP) := by
  refine (iElements_okOf (φ := fun s => .ret (.ref 0 0) [.arr .str 0 false (elemP s)]) (fun s => s.length + 2) fun s r h => ?_).of fun args objs r h => ?_
  · cases h
    unfold iElements_run elemP
    cases c : decide (4000 < (s.length : Int))
    · have hl := of_decide_eq_false c
      simp only [cond_false]
      rw [iElements_loop s (by omega) _ (fun o => some (.ref 0 0, [.arr .str 0 false o])) ?_ (s.length + 2) [] [] s false [] 0 0 rfl rfl rfl (by omega) (by simp)]
      · rfl
      · intro p cur fr out hs hf ho
        have hlen : s.length = p.length + cur.length := by rw [hs]; simp
        have h1 : cut s fr (s.length : Int) = cur := by rw [hs, hf]; exact cut_to_end p cur
        have h2 : isM cur = true := isM_of (n := 4000) (by omega)
        simp only [h1, h2, decide_eq_true (show 0 ≤ fr by omega), decide_eq_true (show fr ≤ (s.length : Int) by omega), decide_eq_true (show out.length ≤ 100000 by omega), Bool.and_self, cond_true, keep_cons, keepE]
        cases decide (trimP cur = []) <;> simp
    · rfl
  · unfold tl_s at h; split at h
    · exact h
    · cases h
end
end Go.Proofs.YtmmjaomfonknnaaGreatDoor.Ev
