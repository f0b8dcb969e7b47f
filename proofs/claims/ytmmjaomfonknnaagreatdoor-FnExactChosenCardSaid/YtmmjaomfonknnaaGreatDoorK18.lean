/- The texts Nc, Nd, one behind the other. -/
import Derived.Test.YtmmjaomfonknnaaGreatDoorK13
namespace Go.Proofs.YtmmjaomfonknnaaGreatDoor.Ev
open Go Go.RowKit
set_option linter.unusedVariables false
set_option linter.unusedSimpArgs false
noncomputable section

/-! impl.Elements -/
def iElements_O : Opt := { cons := [], keepNil := false, mutF := [], live := [(7, [0, 3, 4, 5, 6, 7])], outs := [(7, [0, 2, 3, 4, 5])] }
def iElements_C : Spec := (add noS 148 add_s)
theorem iElements_C_ok : ∀ fn, Sound Kx fn (iElements_C fn) := (sound_add (sound_no Kx) add_okQ)
def iElements_T7 (v7x0 : (List UInt8)) (v7x1 : Int) (v7x2 : Bool) (v7x3 : Int) (v7x4 : (List (List UInt8))) (kR7 : (List UInt8) → Int → Bool → Int → (List (List UInt8)) → Option Rs) (k7e0 : (List UInt8) → Int → (List (List UInt8)) → Option Rs) : Option Rs :=
  (bif (decide (v7x3 < ((List.length v7x0) : Int))) then (bif (decide ((0 : Int) ≤ v7x3)) then (bif (decide (v7x3 < ((List.length v7x0) : Int))) then (bif (decide ((strAt v7x0 v7x3) = (34 : Int))) then (kR7 v7x0 v7x1 (!v7x2) (wk64 (v7x3 + (1 : Int))) v7x4) else (bif v7x2 then (bif (decide ((0 : Int) ≤ v7x3)) then (bif (decide (v7x3 < ((List.length v7x0) : Int))) then (bif (decide ((strAt v7x0 v7x3) = (92 : Int))) then (kR7 v7x0 v7x1 v7x2 (wk64 ((wk64 (v7x3 + (1 : Int))) + (1 : Int))) v7x4) else (bif (!v7x2) then (bif (decide ((0 : Int) ≤ v7x3)) then (bif (decide (v7x3 < ((List.length v7x0) : Int))) then (bif (decide ((strAt v7x0 v7x3) = (44 : Int))) then (bif (decide ((0 : Int) ≤ v7x1)) then (bif (decide (v7x1 ≤ v7x3)) then (bif (decide (v7x3 ≤ ((List.length v7x0) : Int))) then (bif ((isM (cut v7x0 v7x1 v7x3)) && (decide ((List.length v7x4) ≤ (100000 : Nat)))) then (bif (decide ((trimP (cut v7x0 v7x1 v7x3)) = ([] : (List UInt8)))) then (kR7 v7x0 (wk64 (v7x3 + (1 : Int))) v7x2 (wk64 (v7x3 + (1 : Int))) v7x4) else (kR7 v7x0 (wk64 (v7x3 + (1 : Int))) v7x2 (wk64 (v7x3 + (1 : Int))) (v7x4 ++ ((trimP (cut v7x0 v7x1 v7x3)) :: ([] : (List (List UInt8))))))) else (none)) else (none)) else (none)) else (none)) else (kR7 v7x0 v7x1 v7x2 (wk64 (v7x3 + (1 : Int))) v7x4)) else (none)) else (none)) else (kR7 v7x0 v7x1 v7x2 (wk64 (v7x3 + (1 : Int))) v7x4))) else (none)) else (none)) else (bif (!v7x2) then (bif (decide ((0 : Int) ≤ v7x3)) then (bif (decide (v7x3 < ((List.length v7x0) : Int))) then (bif (decide ((strAt v7x0 v7x3) = (44 : Int))) then (bif (decide ((0 : Int) ≤ v7x1)) then (bif (decide (v7x1 ≤ v7x3)) then (bif (decide (v7x3 ≤ ((List.length v7x0) : Int))) then (bif ((isM (cut v7x0 v7x1 v7x3)) && (decide ((List.length v7x4) ≤ (100000 : Nat)))) then (bif (decide ((trimP (cut v7x0 v7x1 v7x3)) = ([] : (List UInt8)))) then (kR7 v7x0 (wk64 (v7x3 + (1 : Int))) v7x2 (wk64 (v7x3 + (1 : Int))) v7x4) else (kR7 v7x0 (wk64 (v7x3 + (1 : Int))) v7x2 (wk64 (v7x3 + (1 : Int))) (v7x4 ++ ((trimP (cut v7x0 v7x1 v7x3)) :: ([] : (List (List UInt8))))))) else (none)) else (none)) else (none)) else (none)) else (kR7 v7x0 v7x1 v7x2 (wk64 (v7x3 + (1 : Int))) v7x4)) else (none)) else (none)) else (kR7 v7x0 v7x1 v7x2 (wk64 (v7x3 + (1 : Int))) v7x4)))) else (none)) else (none)) else (k7e0 v7x0 v7x1 v7x4))
def iElements_F7 : Nat → (List UInt8) → Int → Bool → Int → (List (List UInt8)) → ((List UInt8) → Int → (List (List UInt8)) → Option Rs) → Option Rs
  | 0, _, _, _, _, _, _ => none
  | n + 1, v7x0, v7x1, v7x2, v7x3, v7x4, k7e0 => iElements_T7 v7x0 v7x1 v7x2 v7x3 v7x4 (fun v7x0 v7x1 v7x2 v7x3 v7x4 => iElements_F7 n v7x0 v7x1 v7x2 v7x3 v7x4 k7e0) k7e0
def iElements_h7 (v7x0 : (List UInt8)) (v7x1 : Int) (v7x2 : Bool) (v7x3 : Int) (v7x4 : (List (List UInt8))) : St := (St.mk (slots 0 58 [(0, (AV.str v7x0)), (3, (AV.ptr (256 : Nat) (0 : Nat))), (4, (AV.fn (148 : Nat) ((AV.ptr (256 : Nat) (0 : Nat)) :: ([] : (List (AV)))))), (5, (AV.int .i64 v7x1)), (6, (AV.bool v7x2)), (7, (AV.int .i64 v7x3))]) (((256 : Nat), (Ob.var ((AV.ref (257 : Nat) (0 : Nat)) :: ([] : (List (AV)))))) :: (((257 : Nat), (Ob.arr Ty.str (0 : Nat) false v7x4)) :: ([] : (List (Nat × (Ob)))))))
def iElements_x7e0 (x7x0x0 : (List UInt8)) (x7x0x1 : Int) (x7x0x2 : (List (List UInt8))) : St := (St.mk (slots 0 58 [(0, (AV.str x7x0x0)), (3, (AV.ptr (256 : Nat) (0 : Nat))), (4, (AV.fn (148 : Nat) ((AV.ptr (256 : Nat) (0 : Nat)) :: ([] : (List (AV)))))), (5, (AV.int .i64 x7x0x1))]) (((256 : Nat), (Ob.var ((AV.ref (257 : Nat) (0 : Nat)) :: ([] : (List (AV)))))) :: (((257 : Nat), (Ob.arr Ty.str (0 : Nat) false x7x0x2)) :: ([] : (List (Nat × (Ob)))))))
noncomputable def iElements_b7 : Code := codeAt (codeOf Tryz.f103) [1, 1, 1, 1, 1, 0, 1, 0, 0]
def iElements_L7 (N : Nat) (st : St) (k : Ex → St → Option Rs) : Option Rs := match takeF [0, 3, 4, 5, 6, 7] 0 58 st.env, st.objs with
  | some [.str v7x0, .ptr 256 0, .fn 148 [.ptr 256 0], .int .i64 v7x1, .bool v7x2, .int .i64 v7x3], [(256, .var [.ref 257 0]), (257, .arr Ty.str 0 false v7x4)] => iElements_F7 N v7x0 v7x1 v7x2 v7x3 v7x4 (fun x7x0x0 x7x0x1 x7x0x2 => k (Ex.exit (0 : Nat)) (iElements_x7e0 x7x0x0 x7x0x1 x7x0x2))
  | _, _ => none
def iElements_L (N : Nat) : Lam := fun j st k => match j with
  | 7 => iElements_L7 N st k
  | _ => none
theorem iElements_round7 (N : Nat) (again : St → Option Rs) (k : Ex → St → Option Rs) (wv7x0 : (List UInt8)) (wv7x1 : Int) (wv7x2 : Bool) (wv7x3 : Int) (wv7x4 : (List (List UInt8))) (v7x0 : (List UInt8)) (v7x1 : Int) (v7x2 : Bool) (v7x3 : Int) (v7x4 : (List (List UInt8))) :
    roundK 0 (fun st k => evL Kx iElements_C iElements_O 0 (iElements_L N) iElements_b7 st k) (iElements_h7 wv7x0 wv7x1 wv7x2 wv7x3 wv7x4).env again (iElements_h7 v7x0 v7x1 v7x2 v7x3 v7x4) (outK iElements_O 0 iElements_b7 k) = iElements_T7 v7x0 v7x1 v7x2 v7x3 v7x4 (fun v7x0 v7x1 v7x2 v7x3 v7x4 => again (iElements_h7 v7x0 v7x1 v7x2 v7x3 v7x4)) (fun x7x0x0 x7x0x1 x7x0x2 => k (Ex.exit (0 : Nat)) (iElements_x7e0 x7x0x0 x7x0x1 x7x0x2)) := by kernel_rfl
theorem iElements_loop7 (N : Nat) (k : Ex → St → Option Rs) (wv7x0 : (List UInt8)) (wv7x1 : Int) (wv7x2 : Bool) (wv7x3 : Int) (wv7x4 : (List (List UInt8))) : ∀ (n : Nat) (v7x0 : (List UInt8)) (v7x1 : Int) (v7x2 : Bool) (v7x3 : Int) (v7x4 : (List (List UInt8))),
    loopK 0 (fun st k => evL Kx iElements_C iElements_O 0 (iElements_L N) iElements_b7 st k) (iElements_h7 wv7x0 wv7x1 wv7x2 wv7x3 wv7x4).env n (iElements_h7 v7x0 v7x1 v7x2 v7x3 v7x4) (outK iElements_O 0 iElements_b7 k) = iElements_F7 n v7x0 v7x1 v7x2 v7x3 v7x4 (fun x7x0x0 x7x0x1 x7x0x2 => k (Ex.exit (0 : Nat)) (iElements_x7e0 x7x0x0 x7x0x1 x7x0x2))
  | 0, _, _, _, _, _ => rfl
  | n + 1, v7x0, v7x1, v7x2, v7x3, v7x4 => by
    rw [loopK_succ, iElements_round7]
    simp only [iElements_loop7 N k wv7x0 wv7x1 wv7x2 wv7x3 wv7x4 n]
    rfl
theorem iElements_at7 (N : Nat) {s : St} {k : Ex → St → Option Rs} {r : Rs} (h : iElements_L7 N s k = some r) : ∃ (v7x0 : (List UInt8)) (v7x1 : Int) (v7x2 : Bool) (v7x3 : Int) (v7x4 : (List (List UInt8))), s = (iElements_h7 v7x0 v7x1 v7x2 v7x3 v7x4) ∧ iElements_F7 N v7x0 v7x1 v7x2 v7x3 v7x4 (fun x7x0x0 x7x0x1 x7x0x2 => k (Ex.exit (0 : Nat)) (iElements_x7e0 x7x0x0 x7x0x1 x7x0x2)) = some r := by
  cases s with | mk env objs =>
  unfold iElements_L7 at h
  split at h
  · rename_i e1 e2
    have e3 := takeF_slots _ _ _ _ e1
    simp only at e2 e3
    subst e2 e3
    exact ⟨_, _, _, _, _, rfl, h⟩
  · cases h
theorem iElements_in7 : loops iElements_b7 = [] := by kernel_rfl
theorem iElements_lid7 : lid iElements_b7 = 7 := by kernel_rfl
theorem iElements_ok7 (N : Nat) : OkL Kx iElements_C iElements_O 0 N (iElements_L N) iElements_b7 := by
  intro s k k' r hk h
  rw [iElements_lid7] at h
  obtain ⟨v7x0, v7x1, v7x2, v7x3, v7x4, rfl, h⟩ := iElements_at7 N h
  refine loopL (Λ := iElements_L N) iElements_b7 ?_ N hk ((iElements_loop7 N k v7x0 v7x1 v7x2 v7x3 v7x4 N v7x0 v7x1 v7x2 v7x3 v7x4).trans h)
  rw [iElements_in7]
  exact fun _ h => nomatch h
def iElements_run (N : Nat) (s : Bytes) : Option Rs := (bif (decide ((4000 : Int) < ((List.length s) : Int))) then (some ((AV.ref (0 : Nat) (0 : Nat)), ((Ob.arr Ty.str (0 : Nat) false ([] : (List (List UInt8)))) :: ([] : (List (Ob)))))) else (iElements_F7 N s (0 : Int) false (0 : Int) ([] : (List (List UInt8))) (fun x7x0x0 => (fun x7x0x1 => (fun x7x0x2 => (bif (decide ((0 : Int) ≤ x7x0x1)) then (bif (decide (x7x0x1 ≤ ((List.length x7x0x0) : Int))) then (bif ((isM (cut x7x0x0 x7x0x1 ((List.length x7x0x0) : Int))) && (decide ((List.length x7x0x2) ≤ (100000 : Nat)))) then (bif (decide ((trimP (cut x7x0x0 x7x0x1 ((List.length x7x0x0) : Int))) = ([] : (List UInt8)))) then (some ((AV.ref (0 : Nat) (0 : Nat)), ((Ob.arr Ty.str (0 : Nat) false x7x0x2) :: ([] : (List (Ob)))))) else (some ((AV.ref (0 : Nat) (0 : Nat)), ((Ob.arr Ty.str (0 : Nat) false (x7x0x2 ++ ((trimP (cut x7x0x0 x7x0x1 ((List.length x7x0x0) : Int))) :: ([] : (List (List UInt8)))))) :: ([] : (List (Ob))))))) else (none)) else (none)) else (none)))))))
theorem iElements_runL (N : Nat) (s : Bytes) : runL Kx iElements_C iElements_O (iElements_L N) Tryz.f103 ([.str s]) ([]) = iElements_run N s := by kernel_rfl
theorem iElements_body : Tryz.f103.body = some (codeOf Tryz.f103) := by kernel_rfl
theorem iElements_loops : loops (codeOf Tryz.f103) = [iElements_b7] := by kernel_rfl
theorem iElements_ev (N : Nat) (s : Bytes) {res_ : Rs} (hyp_ : iElements_run N s = some res_) : ∃ n_, runF Kx iElements_C iElements_O n_ Tryz.f103 ([.str s]) ([]) = some res_ :=
  ⟨N, runL_runF iElements_body (by rw [iElements_loops]; exact List.forall_mem_cons.2 ⟨iElements_ok7 N, fun _ h => nomatch h⟩) ((iElements_runL N s).trans hyp_)⟩
def iElements_sOf (φ : Bytes → Br) : List AV → List Ob → Br
  | [.str s], [] => φ s
  | _, _ => .fail
theorem iElements_okOf {φ : Bytes → Br} (fu : Bytes → Nat) (hv : ∀ s res_, (φ s).val = some res_ → iElements_run (fu s) s = some res_) : Sound Kx 103 (iElements_sOf φ) := by
  refine sound_run (C := iElements_C) (O := iElements_O) KOk iElements_C_ok Tryz.func103 (by kernel_rfl) fun args objs res os h => ?_
  unfold iElements_sOf at h
  split at h
  · exact iElements_ev _ _ (hv _ _ h)
  · cases h

end
end Go.Proofs.YtmmjaomfonknnaaGreatDoor.Ev

namespace Go.Proofs.YtmmjaomfonknnaaGreatDoor.Ev
open Go Go.RowKit
set_option linter.unusedVariables false
set_option linter.unusedSimpArgs false
noncomputable section

/-- A text in parts, at the commas that no quotes hold. -/
def partE : Bytes → Bool → Bytes → List Bytes
  | cur, _, [] => [cur]
  | cur, q, c :: r =>
    bif decide (by8 c = 34) then partE (cur ++ [c]) (!q) r
    else bif q && decide (by8 c = 92) then (match r with | [] => [cur ++ [c]] | d :: r' => partE (cur ++ [c, d]) q r')
    else bif !q && decide (by8 c = 44) then cur :: partE [] q r
    else partE (cur ++ [c]) q r
theorem partE_cons (cur : Bytes) (q : Bool) (c : UInt8) (r : Bytes) : partE cur q (c :: r) = bif decide (by8 c = 34) then partE (cur ++ [c]) (!q) r
    else bif q && decide (by8 c = 92) then (match r with | [] => [cur ++ [c]] | d :: r' => partE (cur ++ [c, d]) q r')
    else bif !q && decide (by8 c = 44) then cur :: partE [] q r
    else partE (cur ++ [c]) q r := by cases r <;> rfl
theorem partE_nil (cur : Bytes) (q : Bool) : partE cur q [] = [cur] := rfl
def keepE : List Bytes → List Bytes
  | [] => []
  | x :: r => bif decide (trimP x = []) then keepE r else trimP x :: keepE r
def elemP (s : Bytes) : List Bytes := bif decide (4000 < (s.length : Int)) then [] else keepE (partE [] false s)
theorem lt_pos (l : Bytes) : decide ((0 : Int) < (l.length : Int)) = !decide (l = []) := by cases l <;> simp
theorem keep_cons (x : Bytes) (r : List Bytes) : keepE (x :: r) = bif decide (trimP x = []) then keepE r else trimP x :: keepE r := rfl
theorem sElements_loop (s : Bytes) (hl : s.length ≤ 4000) (k : List Bytes → Option Rs) : ∀ (n : Nat) (p cur r : Bytes) (q : Bool) (out : List Bytes) (i fr : Int), s = p ++ cur ++ r → i = ((p.length + cur.length : Nat) : Int) → fr = (p.length : Int) → r.length + 1 < n → out.length ≤ p.length →
    sElements_F7 n s fr q i out k = k (out ++ keepE (partE cur q r)) := by
  intro n; induction n with
  | zero => intro p cur r q out i fr hs hi hf hn; omega
  | succ n ih =>
    intro p cur r q out i fr hs hi hf hn ho
    have hat : At s i r := ⟨p ++ cur, hs, by rw [hi]; simp⟩
    have hlen : s.length = p.length + cur.length + r.length := by rw [hs]; simp; omega
    have hcut : cut s fr i = cur := by rw [hs, hi, hf, Int.natCast_add]; exact cut_mid p cur r
    have hnf : decide (0 ≤ fr) = true := decide_eq_true (by omega)
    have hfi : decide (fr ≤ i) = true := decide_eq_true (by omega)
    have hil : decide (i ≤ (s.length : Int)) = true := decide_eq_true (by omega)
    have hM : isM cur = true := isM_of (n := 4000) (by omega)
    have hw : wk64 (i + 1) = i + 1 := w64 (by omega) (by omega)
    have hap : decide ((out.length + [trimP cur].length) * 16 ≤ 140737488355328) = true := decide_eq_true (by simp only [List.length_singleton]; omega)
    unfold sElements_F7 sElements_T7
    simp only [hcut, hnf, hfi, hil, hM, hw, hap, one_set, lt_pos, cond_true, hat.dnn]
    cases r with
    | nil =>
      have he : decide (i = (s.length : Int)) = true := decide_eq_true (by simp only [List.length_nil] at hlen; omega)
      simp only [List.length_nil] at hn
      obtain ⟨m, rfl⟩ : ∃ m, n = m + 1 := ⟨n - 1, by omega⟩
      have hx : decide (i + 1 ≤ (s.length : Int)) = false := decide_eq_false (by simp only [List.length_nil] at hlen; omega)
      have hend : ∀ o, sElements_F7 (m + 1) s (i + 1) q (i + 1) o k = k o := fun o => by unfold sElements_F7 sElements_T7; rw [hx, cond_false]
      simp only [he, cond_true, hend, partE_nil, keep_cons, keepE]
      cases decide (trimP cur = []) <;> simp
    | cons c r =>
      have he : decide (i = (s.length : Int)) = false := decide_eq_false (by simp only [List.length_cons] at hlen; omega)
      simp only [List.length_cons] at hn hlen
      have hstep : ∀ q', sElements_F7 n s fr q' (i + 1) out k = k (out ++ keepE (partE (cur ++ [c]) q' r)) := fun q' =>
        ih p (cur ++ [c]) r q' out (i + 1) fr (by rw [hs]; simp) (by rw [hi]; simp; omega) hf (by omega) ho
      have hcom : ∀ q' o, o.length ≤ p.length + 1 → sElements_F7 n s (i + 1) q' (i + 1) o k = k (o ++ keepE (partE [] q' r)) := fun q' o ho' =>
        ih (p ++ cur ++ [c]) [] r q' o (i + 1) (i + 1) (by rw [hs]; simp) (by rw [hi]; simp; omega) (by rw [hi]; simp; omega) (by omega) (by simp; omega)
      have h0 := hcom q out (by omega)
      have h1 := hcom q (out ++ [trimP cur]) (by simp; omega)
      simp only [he, hat.dlt, hat.dnn, hat.str, cond_true, cond_false, h0, h1, hstep]
      rw [partE_cons]
      cases c1 : decide (by8 c = 34)
      · cases q
        · cases c3 : decide (by8 c = 44)
          · simp
          · simp only [Bool.not_false, Bool.false_and, Bool.true_and, cond_true, cond_false, keep_cons]
            cases decide (trimP cur = []) <;> simp
        · cases c2 : decide (by8 c = 92)
          · simp
          · simp only [Bool.not_true, Bool.true_and, cond_true, cond_false]
            cases r with
            | nil =>
              have hx : decide (i + 1 < (s.length : Int)) = false := decide_eq_false (by simp only [List.length_nil] at hlen; omega)
              simp only [hx, cond_false, partE_nil]
            | cons d r =>
              have hx : decide (i + 1 < (s.length : Int)) = true := decide_eq_true (by simp only [List.length_cons] at hlen; omega)
              have hw2 : wk64 (i + 1 + 1) = i + 1 + 1 := w64 (by omega) (by omega)
              simp only [List.length_cons] at hn hlen
              simp only [hx, cond_true, hw2]
              exact ih p (cur ++ [c, d]) r true out _ fr (by rw [hs]; simp) (by rw [hi]; simp; omega) hf (by omega) ho
      · have c3 : decide (by8 c = 44) = false := decide_eq_false (by have := of_decide_eq_true c1; omega)
        cases q <;> simp [c3]
theorem iElements_loop (s : Bytes) (hl : s.length ≤ 4000) (k : Bytes → Int → List Bytes → Option Rs) (K : List Bytes → Option Rs)
    (hk : ∀ (p cur : Bytes) (fr : Int) (out : List Bytes), s = p ++ cur → fr = (p.length : Int) → out.length ≤ p.length → k s fr out = K (out ++ keepE [cur])) : ∀ (n : Nat) (p cur r : Bytes) (q : Bool) (out : List Bytes) (i fr : Int), s = p ++ cur ++ r → i = ((p.length + cur.length : Nat) : Int) → fr = (p.length : Int) → r.length < n → out.length ≤ p.length →
    iElements_F7 n s fr q i out k = K (out ++ keepE (partE cur q r)) := by
  intro n; induction n with
  | zero => intro p cur r q out i fr hs hi hf hn; omega
  | succ n ih =>
    intro p cur r q out i fr hs hi hf hn ho
    have hat : At s i r := ⟨p ++ cur, hs, by rw [hi]; simp⟩
    have hlen : s.length = p.length + cur.length + r.length := by rw [hs]; simp; omega
    have hcut : cut s fr i = cur := by rw [hs, hi, hf, Int.natCast_add]; exact cut_mid p cur r
    have hnf : decide (0 ≤ fr) = true := decide_eq_true (by omega)
    have hfi : decide (fr ≤ i) = true := decide_eq_true (by omega)
    have hil : decide (i ≤ (s.length : Int)) = true := decide_eq_true (by omega)
    have hM : isM cur = true := isM_of (n := 4000) (by omega)
    have hw : wk64 (i + 1) = i + 1 := w64 (by omega) (by omega)
    have hap : decide (out.length ≤ 100000) = true := decide_eq_true (by omega)
    unfold iElements_F7 iElements_T7
    simp only [hcut, hnf, hfi, hil, hM, hw, hap, cond_true, hat.dnn, Bool.and_self]
    cases r with
    | nil =>
      simp only [hat.dge, cond_false, partE_nil]
      exact hk p cur fr out (by rw [hs]; simp) hf ho
    | cons c r =>
      simp only [List.length_cons] at hn hlen
      have hstep : ∀ q', iElements_F7 n s fr q' (i + 1) out k = K (out ++ keepE (partE (cur ++ [c]) q' r)) := fun q' =>
        ih p (cur ++ [c]) r q' out (i + 1) fr (by rw [hs]; simp) (by rw [hi]; simp; omega) hf (by omega) ho
      have hcom : ∀ q' o, o.length ≤ p.length + 1 → iElements_F7 n s (i + 1) q' (i + 1) o k = K (o ++ keepE (partE [] q' r)) := fun q' o ho' =>
        ih (p ++ cur ++ [c]) [] r q' o (i + 1) (i + 1) (by rw [hs]; simp) (by rw [hi]; simp; omega) (by rw [hi]; simp; omega) (by omega) (by simp; omega)
      have h0 := hcom q out (by omega)
      have h1 := hcom q (out ++ [trimP cur]) (by simp; omega)
      simp only [hat.dlt, hat.dnn, hat.str, cond_true, cond_false, h0, h1, hstep]
      rw [partE_cons]
      cases c1 : decide (by8 c = 34)
      · cases q
        · cases c3 : decide (by8 c = 44)
          · simp
          · simp only [Bool.not_false, Bool.false_and, Bool.true_and, cond_true, cond_false, keep_cons]
            cases decide (trimP cur = []) <;> simp
        · cases c2 : decide (by8 c = 92)
          · simp
          · simp only [Bool.not_true, Bool.true_and, cond_true, cond_false]
            have hw2 : wk64 (i + 1 + 1) = i + 1 + 1 := w64 (by omega) (by omega)
            cases r with
            | nil =>
              simp only [List.length_nil] at hn hlen
              obtain ⟨m, rfl⟩ : ∃ m, n = m + 1 := ⟨n - 1, by omega⟩
              have hx : decide (i + 1 + 1 < (s.length : Int)) = false := decide_eq_false (by omega)
              rw [hw2]
              unfold iElements_F7 iElements_T7
              simp only [hx, cond_false]
              exact hk p (cur ++ [c]) fr out (by rw [hs]; simp) hf ho
            | cons d r =>
              simp only [List.length_cons] at hn hlen
              rw [hw2]
              exact ih p (cur ++ [c, d]) r true out _ fr (by rw [hs]; simp) (by rw [hi]; simp; omega) hf (by omega) ho
      · have c3 : decide (by8 c = 44) = false := decide_eq_false (by have := of_decide_eq_true c1; omega)
        cases q <;> simp [c3]
/-- Functions of one text that give a new list of texts. -/
def tl_s (p : Bytes → List Bytes) : List AV → List Ob → Br
  | [.str s], [] => .ret (.ref 0 0) [.arr .str 0 false (p s)]
  | _, _ => .fail
theorem sElements_okQ : Sound Kx 99 (tl_s elemP) := by
  refine (sElements_okOf (φ := fun s => .ret (.ref 0 0) [.arr .str 0 false (elemP s)]) (fun s => s.length + 2) fun s r h => ?_).of fun args objs r h => ?_
  · cases h
    unfold sElements_run elemP
    cases c : decide (4000 < (s.length : Int))
    · have := of_decide_eq_false c
      simp only [cond_false]
      rw [sElements_loop s (by omega) _ (s.length + 2) [] [] s false [] 0 0 rfl rfl rfl (by omega) (by simp)]
      rfl
    · rfl
  · unfold tl_s at h; split at h
    · exact h
    · cases h
theorem cut_to_end (p m : Bytes) : cut (p ++ m) (p.length : Int) ((p ++ m).length : Int) = m := by
  have := cut_mid p m []
  rw [List.append_nil] at this
  rw [← Int.natCast_add, ← List.length_append] at this
  exact this
theorem iElements_okQ : Sound Kx 103 (tl_s elemP) := by
  refine (iElements_okOf (φ := fun s => .ret (.ref 0 0) [.arr .str 0 false (elemP s)]) (fun s => s.length + 2) fun s r h => ?_).of fun args objs r h => ?_
  · cases h
    unfold iElements_run elemP
    cases c : decide (4000 < (s.length : Int))
    · have hl := of_decide_eq_false c
      simp only [cond_false]
      rw [iElements_loop s (by omega) _ (fun o => some (.ref 0 0, [.arr .str 0 false o])) ?_ (s.length + 2) [] [] s false [] 0 0 rfl rfl rfl (by omega) (by simp)]
      · rfl
      · intro p cur fr out hs hf ho
        have hlen : s.length = p.length + cur.length := by rw [hs]; simp
        have h1 : cut s fr (s.length : Int) = cur := by rw [hs, hf]; exact cut_to_end p cur
        have h2 : isM cur = true := isM_of (n := 4000) (by omega)
        simp only [h1, h2, decide_eq_true (show 0 ≤ fr by omega), decide_eq_true (show fr ≤ (s.length : Int) by omega), decide_eq_true (show out.length ≤ 100000 by omega), Bool.and_self, cond_true, keep_cons, keepE]
        cases decide (trimP cur = []) <;> simp
    · rfl
  · unfold tl_s at h; split at h
    · exact h
    · cases h
end
end Go.Proofs.YtmmjaomfonknnaaGreatDoor.Ev
