/- FnA, FnB, FnC, FnE, one behind the other (merge.py). -/
import Derived.Test.YtmigffdeghfbhaaBldAll
import Derived.Test.YtmigffdeghfbhaaDrawM
namespace Go.Proofs.Ytmigffdeghfbhaa.Ev
open Go Go.RowKit
set_option linter.unusedVariables false
set_option linter.unusedSimpArgs false
noncomputable section

/-! impl.AllBytes -/
def iAll_O : Opt := { cons := [], keepNil := false, mutF := [], live := [], outs := [] }
def iAll_C : Spec := (add (add noS 25 iOk_s) 29 allQ_s)
theorem iAll_C_ok : ∀ fn, Sound Kx fn (iAll_C fn) := (sound_add (sound_add (sound_no Kx) iOk_ok) all_okQ)
def iAll_br (l : List (List UInt8 × Int)) (c : Int) : Br := (Br.ite (smS l) (Br.ite (!(okStore l c)) (Br.ret (AV.str ([] : (List UInt8))) ([] : (List (Ob)))) (Br.ite ((decide ((List.length l) ≤ (40 : Nat))) && (decide ((total l) ≤ (60000 : Nat)))) (Br.ret (AV.str (allB l)) ([] : (List (Ob)))) Br.fail)) Br.fail)
theorem iAll_run (l : List (List UInt8 × Int)) (c : Int) : runF Kx iAll_C iAll_O 1 Try.f10 ([.agg [.sh (.pair .str (.int .i64)) l, .int .i64 c]]) ([]) = (iAll_br l c).val := by kernel_rfl
def iAll_s : List AV → List Ob → Br
  | [.agg [.sh (.pair .str (.int .i64)) l, .int .i64 c]], [] => iAll_br l c
  | _, _ => .fail
theorem iAll_ok : Sound Kx 10 iAll_s := by
  refine sound_run (C := iAll_C) (O := iAll_O) KOk iAll_C_ok Try.func10 (by kernel_rfl) fun args objs res os h => ?_
  unfold iAll_s at h
  split at h
  · exact ⟨1, (iAll_run _ _).trans h⟩
  · cases h

/-! impl.Loose -/
def iLoose_O : Opt := { cons := [], keepNil := false, mutF := [], live := [], outs := [] }
def iLoose_C : Spec := (add (add noS 25 iOk_s) 30 last_s)
theorem iLoose_C_ok : ∀ fn, Sound Kx fn (iLoose_C fn) := (sound_add (sound_add (sound_no Kx) iOk_ok) last_ok)
def iLoose_br (l : List (List UInt8 × Int)) (c : Int) : Br := (Br.ite (smS l) (Br.ite (!(okStore l c)) (Br.ret (AV.int .i64 (-(1 : Int))) ([] : (List (Ob)))) (Br.ite (decide ((0 : Int) ≤ (wrap64 (((List.length l) : Int) - (1 : Int))))) (Br.ite (decide ((wrap64 (((List.length l) : Int) - (1 : Int))) < ((List.length l) : Int))) (Br.ite (decide ((0 : Int) ≤ (wrap64 (((List.length l) : Int) - (1 : Int))))) (Br.ite (decide ((wrap64 (((List.length l) : Int) - (1 : Int))) < ((List.length l) : Int))) (Br.ret (AV.int .i64 (wrap64 (((List.length (List.getD l (Int.toNat (wrap64 (((List.length l) : Int) - (1 : Int)))) (([] : (List UInt8)), (0 : Int))).1) : Int) - (List.getD l (Int.toNat (wrap64 (((List.length l) : Int) - (1 : Int)))) (([] : (List UInt8)), (0 : Int))).2))) ([] : (List (Ob)))) Br.fail) Br.fail) Br.fail) Br.fail)) Br.fail)
theorem iLoose_run (l : List (List UInt8 × Int)) (c : Int) : runF Kx iLoose_C iLoose_O 1 Try.f13 ([.agg [.sh (.pair .str (.int .i64)) l, .int .i64 c]]) ([]) = (iLoose_br l c).val := by kernel_rfl
def iLoose_s : List AV → List Ob → Br
  | [.agg [.sh (.pair .str (.int .i64)) l, .int .i64 c]], [] => iLoose_br l c
  | _, _ => .fail
theorem iLoose_ok : Sound Kx 13 iLoose_s := by
  refine sound_run (C := iLoose_C) (O := iLoose_O) KOk iLoose_C_ok Try.func13 (by kernel_rfl) fun args objs res os h => ?_
  unfold iLoose_s at h
  split at h
  · exact ⟨1, (iLoose_run _ _).trans h⟩
  · cases h

/-! impl.Used -/
def iUsed_O : Opt := { cons := [], keepNil := false, mutF := [], live := [], outs := [] }
def iUsed_C : Spec := (add (add noS 25 iOk_s) 38 used_s)
theorem iUsed_C_ok : ∀ fn, Sound Kx fn (iUsed_C fn) := (sound_add (sound_add (sound_no Kx) iOk_ok) used_ok)
def iUsed_br (l : List (List UInt8 × Int)) (c : Int) : Br := (Br.ite (smS l) (Br.ite (!(okStore l c)) (Br.ret (AV.int .i64 (-(1 : Int))) ([] : (List (Ob)))) (Br.ite ((decide ((List.length l) ≤ (281474976710656 : Nat))) && (decide ((total l) ≤ (4611686018427387904 : Nat)))) (Br.ret (AV.int .i64 (((total l) : Nat) : Int)) ([] : (List (Ob)))) Br.fail)) Br.fail)
def iUsed_s : List AV → List Ob → Br
  | [.agg [.sh (.pair .str (.int .i64)) l, .int .i64 c]], [] => iUsed_br l c
  | _, _ => .fail
/-! impl.CurOk -/
def curOk_O : Opt := { cons := [], keepNil := false, mutF := [], live := [], outs := [] }
def curOk_C : Spec := (add noS 32 iwithin_s)
theorem curOk_C_ok : ∀ fn, Sound Kx fn (curOk_C fn) := (sound_add (sound_no Kx) iwithin_ok)
def curOk_br (s : List UInt8) (a : Int) : Br := (Br.ite (decide ((0 : Int) ≤ a)) (Br.ret (AV.bool (decide (a ≤ ((List.length s) : Int)))) ([] : (List (Ob)))) (Br.ret (AV.bool false) ([] : (List (Ob)))))
def curOk_s : List AV → List Ob → Br
  | [.agg [.str s, .int .i64 a]], [] => curOk_br s a
  | _, _ => .fail
/-! impl.TakeN -/
def takeN_O : Opt := { cons := [], keepNil := false, mutF := [], live := [], outs := [] }
def takeN_br (s : List UInt8) (a n : Int) : Br := (Br.ite (decide ((0 : Int) ≤ a)) (Br.ite (!(decide (a ≤ ((List.length s) : Int)))) (Br.ret (AV.tup ((AV.str ([] : (List UInt8))) :: ((AV.agg ((AV.str ([] : (List UInt8))) :: ((AV.int .i64 (0 : Int)) :: ([] : (List (AV)))))) :: ((AV.bool false) :: ([] : (List (AV))))))) ([] : (List (Ob)))) (Br.ite (decide ((0 : Int) ≤ n)) (Br.ite (!(decide (n ≤ (wrap64 (((List.length s) : Int) - a))))) (Br.ret (AV.tup ((AV.str ([] : (List UInt8))) :: ((AV.agg ((AV.str ([] : (List UInt8))) :: ((AV.int .i64 (0 : Int)) :: ([] : (List (AV)))))) :: ((AV.bool false) :: ([] : (List (AV))))))) ([] : (List (Ob)))) (Br.ite (decide ((0 : Int) ≤ a)) (Br.ite (decide (a ≤ (wrap64 (a + n)))) (Br.ite (decide ((wrap64 (a + n)) ≤ ((List.length s) : Int))) (Br.ret (AV.tup ((AV.str (cut s a (wrap64 (a + n)))) :: ((AV.agg ((AV.str s) :: ((AV.int .i64 (wrap64 (a + n))) :: ([] : (List (AV)))))) :: ((AV.bool true) :: ([] : (List (AV))))))) ([] : (List (Ob)))) Br.fail) Br.fail) Br.fail)) (Br.ret (AV.tup ((AV.str ([] : (List UInt8))) :: ((AV.agg ((AV.str ([] : (List UInt8))) :: ((AV.int .i64 (0 : Int)) :: ([] : (List (AV)))))) :: ((AV.bool false) :: ([] : (List (AV))))))) ([] : (List (Ob)))))) (Br.ret (AV.tup ((AV.str ([] : (List UInt8))) :: ((AV.agg ((AV.str ([] : (List UInt8))) :: ((AV.int .i64 (0 : Int)) :: ([] : (List (AV)))))) :: ((AV.bool false) :: ([] : (List (AV))))))) ([] : (List (Ob)))))
def takeN_s : List AV → List Ob → Br
  | [.agg [.str s, .int .i64 a], .int .i64 n], [] => takeN_br s a n
  | _, _ => .fail
/-! impl.ReadAt -/
def readAt_O : Opt := { cons := [], keepNil := false, mutF := [], live := [], outs := [] }
def readAt_br (l : List (List UInt8 × Int)) (c : Int) (k a n : Int) : Br := (Br.ite (smS l) (Br.ite (!(okStore l c)) (Br.ret (AV.tup ((AV.str ([] : (List UInt8))) :: ((AV.bool false) :: ([] : (List (AV)))))) ([] : (List (Ob)))) (Br.ite (decide ((0 : Int) ≤ k)) (Br.ite (!(decide (k ≤ (wrap64 (((List.length l) : Int) - (1 : Int)))))) (Br.ret (AV.tup ((AV.str ([] : (List UInt8))) :: ((AV.bool false) :: ([] : (List (AV)))))) ([] : (List (Ob)))) (Br.ite (decide ((0 : Int) ≤ k)) (Br.ite (decide (k < ((List.length l) : Int))) (Br.ite (decide ((0 : Int) ≤ a)) (Br.ite (!(decide (a ≤ ((List.length (List.getD l (Int.toNat k) (([] : (List UInt8)), (0 : Int))).1) : Int)))) (Br.ret (AV.tup ((AV.str ([] : (List UInt8))) :: ((AV.bool false) :: ([] : (List (AV)))))) ([] : (List (Ob)))) (Br.ite (decide ((0 : Int) ≤ n)) (Br.ite (!(decide (n ≤ (wrap64 (((List.length (List.getD l (Int.toNat k) (([] : (List UInt8)), (0 : Int))).1) : Int) - a))))) (Br.ret (AV.tup ((AV.str ([] : (List UInt8))) :: ((AV.bool false) :: ([] : (List (AV)))))) ([] : (List (Ob)))) (Br.ite (decide ((0 : Int) ≤ a)) (Br.ite (decide (a ≤ (wrap64 (a + n)))) (Br.ite (decide ((wrap64 (a + n)) ≤ ((List.length (List.getD l (Int.toNat k) (([] : (List UInt8)), (0 : Int))).1) : Int))) (Br.ret (AV.tup ((AV.str (cut (List.getD l (Int.toNat k) (([] : (List UInt8)), (0 : Int))).1 a (wrap64 (a + n)))) :: ((AV.bool true) :: ([] : (List (AV)))))) ([] : (List (Ob)))) Br.fail) Br.fail) Br.fail)) (Br.ret (AV.tup ((AV.str ([] : (List UInt8))) :: ((AV.bool false) :: ([] : (List (AV)))))) ([] : (List (Ob)))))) (Br.ret (AV.tup ((AV.str ([] : (List UInt8))) :: ((AV.bool false) :: ([] : (List (AV)))))) ([] : (List (Ob))))) Br.fail) Br.fail)) (Br.ret (AV.tup ((AV.str ([] : (List UInt8))) :: ((AV.bool false) :: ([] : (List (AV)))))) ([] : (List (Ob)))))) Br.fail)
def readAt_s : List AV → List Ob → Br
  | [.agg [.sh (.pair .str (.int .i64)) l, .int .i64 c], .int .i64 k, .int .i64 a, .int .i64 n], [] => readAt_br l c k a n
  | _, _ => .fail
/-! spec.Loose -/
def sLoose_O : Opt := { cons := [], keepNil := false, mutF := [], live := [], outs := [] }
def sLoose_C : Spec := (add noS 7 sOk_s)
theorem sLoose_C_ok : ∀ fn, Sound Kx fn (sLoose_C fn) := (sound_add (sound_no Kx) sOk_ok)
def sLoose_br (l : List (List UInt8 × Int)) (c : Int) : Br := (Br.ite (!(okStore l c)) (Br.ret (AV.int .i64 (-(1 : Int))) ([] : (List (Ob)))) (Br.ite (decide ((0 : Int) ≤ (wrap64 (((List.length l) : Int) - (1 : Int))))) (Br.ite (decide ((wrap64 (((List.length l) : Int) - (1 : Int))) < ((List.length l) : Int))) (Br.ret (AV.int .i64 (wrap64 (((List.length (List.getD l (Int.toNat (wrap64 (((List.length l) : Int) - (1 : Int)))) (([] : (List UInt8)), (0 : Int))).1) : Int) - (List.getD l (Int.toNat (wrap64 (((List.length l) : Int) - (1 : Int)))) (([] : (List UInt8)), (0 : Int))).2))) ([] : (List (Ob)))) Br.fail) Br.fail))
theorem sLoose_run (l : List (List UInt8 × Int)) (c : Int) : runF Kx sLoose_C sLoose_O 1 Try.f11 ([.agg [.sh (.pair .str (.int .i64)) l, .int .i64 c]]) ([]) = (sLoose_br l c).val := by kernel_rfl
def sLoose_s : List AV → List Ob → Br
  | [.agg [.sh (.pair .str (.int .i64)) l, .int .i64 c]], [] => sLoose_br l c
  | _, _ => .fail
theorem sLoose_ok : Sound Kx 11 sLoose_s := by
  refine sound_run (C := sLoose_C) (O := sLoose_O) KOk sLoose_C_ok Try.func11 (by kernel_rfl) fun args objs res os h => ?_
  unfold sLoose_s at h
  split at h
  · exact ⟨1, (sLoose_run _ _).trans h⟩
  · cases h

/-! laws.within -/
def lwithin_O : Opt := { cons := [], keepNil := false, mutF := [], live := [], outs := [] }
def lwithin_br (s t : List UInt8) : Br := (Br.ite (decide (((List.length s) : Int) ≤ ((List.length t) : Int))) (Br.ite (decide ((0 : Int) ≤ ((List.length s) : Int))) (Br.ite (decide (((List.length s) : Int) ≤ ((List.length t) : Int))) (Br.ret (AV.bool (decide ((cut t (0 : Int) ((List.length s) : Int)) = s))) ([] : (List (Ob)))) Br.fail) Br.fail) (Br.ret (AV.bool false) ([] : (List (Ob)))))
theorem lwithin_run (s t : List UInt8) : runF Kx noS lwithin_O 1 Try.f12 ([.str s, .str t]) ([]) = (lwithin_br s t).val := by kernel_rfl
def lwithin_s : List AV → List Ob → Br
  | [.str s, .str t], [] => lwithin_br s t
  | _, _ => .fail
theorem lwithin_ok : Sound Kx 12 lwithin_s := by
  refine sound_run (C := noS) (O := lwithin_O) KOk (sound_no Kx) Try.func12 (by kernel_rfl) fun args objs res os h => ?_
  unfold lwithin_s at h
  split at h
  · exact ⟨1, (lwithin_run _ _).trans h⟩
  · cases h

/-! laws.sameStore -/
def sameStore_O : Opt := { cons := [], keepNil := false, mutF := [], live := [(4, [2, 3, 5])], outs := [(4, [4])] }
def sameStore_T4 (v4x0 : Int) (v4x1 : (List ((List UInt8) × Int))) (v4x2 : Int) (v4x3 : (List ((List UInt8) × Int))) (v4x4 : Int) (kR4 : Int → (List ((List UInt8) × Int)) → Int → (List ((List UInt8) × Int)) → Int → Option Rs) (k4e0 : Option Rs) (k4e1 : Option Rs) : Option Rs :=
  (bif (decide (v4x0 < ((List.length v4x1) : Int))) then (bif (decide ((0 : Int) ≤ v4x0)) then (bif (decide (v4x0 < ((List.length v4x1) : Int))) then (bif (decide ((0 : Int) ≤ v4x0)) then (bif (decide (v4x0 < ((List.length v4x3) : Int))) then (bif (!((decide ((List.getD v4x1 (Int.toNat v4x0) (([] : (List UInt8)), (0 : Int))).1 = (List.getD v4x3 (Int.toNat v4x0) (([] : (List UInt8)), (0 : Int))).1)) && ((decide ((List.getD v4x1 (Int.toNat v4x0) (([] : (List UInt8)), (0 : Int))).2 = (List.getD v4x3 (Int.toNat v4x0) (([] : (List UInt8)), (0 : Int))).2)) && true))) then k4e0 else (kR4 (wrap64 (v4x0 + (1 : Int))) v4x1 v4x2 v4x3 v4x4)) else (none)) else (none)) else (none)) else (none)) else k4e1)
def sameStore_F4 : Nat → Int → (List ((List UInt8) × Int)) → Int → (List ((List UInt8) × Int)) → Int → (Option Rs) → (Option Rs) → Option Rs
  | 0, _, _, _, _, _, _, _ => none
  | n + 1, v4x0, v4x1, v4x2, v4x3, v4x4, k4e0, k4e1 => sameStore_T4 v4x0 v4x1 v4x2 v4x3 v4x4 (fun v4x0 v4x1 v4x2 v4x3 v4x4 => sameStore_F4 n v4x0 v4x1 v4x2 v4x3 v4x4 k4e0 k4e1) k4e0 k4e1
def sameStore_h4 (v4x0 : Int) (v4x1 : (List ((List UInt8) × Int))) (v4x2 : Int) (v4x3 : (List ((List UInt8) × Int))) (v4x4 : Int) : St := (St.mk (slots 0 38 [(2, (AV.ptr (192 : Nat) (0 : Nat))), (3, (AV.ptr (256 : Nat) (0 : Nat))), (5, (AV.int .i64 v4x0))]) (((192 : Nat), (Ob.var ((AV.sh (Ty.pair Ty.str (Ty.int .i64)) v4x1) :: ((AV.int .i64 v4x2) :: ([] : (List (AV))))))) :: (((256 : Nat), (Ob.var ((AV.sh (Ty.pair Ty.str (Ty.int .i64)) v4x3) :: ((AV.int .i64 v4x4) :: ([] : (List (AV))))))) :: ([] : (List (Nat × (Ob)))))))
def sameStore_x4e0  : St := (St.mk (slots 0 38 [(4, (AV.bool false))]) ([] : (List (Nat × (Ob)))))
def sameStore_x4e1  : St := (St.mk (slots 0 38 []) ([] : (List (Nat × (Ob)))))
noncomputable def sameStore_b4 : Code := codeAt (codeOf Try.f14) [1, 1, 0, 1, 0, 0]
def sameStore_L4 (N : Nat) (st : St) (k : Ex → St → Option Rs) : Option Rs := match takeF [2, 3, 5] 0 38 st.env, st.objs with
  | some [.ptr 192 0, .ptr 256 0, .int .i64 v4x0], [(192, .var [.sh (Ty.pair Ty.str (Ty.int .i64)) v4x1, .int .i64 v4x2]), (256, .var [.sh (Ty.pair Ty.str (Ty.int .i64)) v4x3, .int .i64 v4x4])] => sameStore_F4 N v4x0 v4x1 v4x2 v4x3 v4x4 (k Ex.ret (sameStore_x4e0)) (k (Ex.exit (0 : Nat)) (sameStore_x4e1))
  | _, _ => none
def sameStore_L (N : Nat) : Lam := fun j st k => match j with
  | 4 => sameStore_L4 N st k
  | _ => none
theorem sameStore_round4 (N : Nat) (again : St → Option Rs) (k : Ex → St → Option Rs) (wv4x0 : Int) (wv4x1 : (List ((List UInt8) × Int))) (wv4x2 : Int) (wv4x3 : (List ((List UInt8) × Int))) (wv4x4 : Int) (v4x0 : Int) (v4x1 : (List ((List UInt8) × Int))) (v4x2 : Int) (v4x3 : (List ((List UInt8) × Int))) (v4x4 : Int) :
    roundK 0 (fun st k => evL Kx noS sameStore_O 0 (sameStore_L N) sameStore_b4 st k) (sameStore_h4 wv4x0 wv4x1 wv4x2 wv4x3 wv4x4).env again (sameStore_h4 v4x0 v4x1 v4x2 v4x3 v4x4) (outK sameStore_O 0 sameStore_b4 k) = sameStore_T4 v4x0 v4x1 v4x2 v4x3 v4x4 (fun v4x0 v4x1 v4x2 v4x3 v4x4 => again (sameStore_h4 v4x0 v4x1 v4x2 v4x3 v4x4)) (k Ex.ret (sameStore_x4e0)) (k (Ex.exit (0 : Nat)) (sameStore_x4e1)) := by kernel_rfl
theorem sameStore_loop4 (N : Nat) (k : Ex → St → Option Rs) (wv4x0 : Int) (wv4x1 : (List ((List UInt8) × Int))) (wv4x2 : Int) (wv4x3 : (List ((List UInt8) × Int))) (wv4x4 : Int) : ∀ (n : Nat) (v4x0 : Int) (v4x1 : (List ((List UInt8) × Int))) (v4x2 : Int) (v4x3 : (List ((List UInt8) × Int))) (v4x4 : Int),
    loopK 0 (fun st k => evL Kx noS sameStore_O 0 (sameStore_L N) sameStore_b4 st k) (sameStore_h4 wv4x0 wv4x1 wv4x2 wv4x3 wv4x4).env n (sameStore_h4 v4x0 v4x1 v4x2 v4x3 v4x4) (outK sameStore_O 0 sameStore_b4 k) = sameStore_F4 n v4x0 v4x1 v4x2 v4x3 v4x4 (k Ex.ret (sameStore_x4e0)) (k (Ex.exit (0 : Nat)) (sameStore_x4e1))
  | 0, _, _, _, _, _ => rfl
  | n + 1, v4x0, v4x1, v4x2, v4x3, v4x4 => by
    rw [loopK_succ, sameStore_round4]
    simp only [sameStore_loop4 N k wv4x0 wv4x1 wv4x2 wv4x3 wv4x4 n]
    rfl
theorem sameStore_at4 (N : Nat) {s : St} {k : Ex → St → Option Rs} {r : Rs} (h : sameStore_L4 N s k = some r) : ∃ (v4x0 : Int) (v4x1 : (List ((List UInt8) × Int))) (v4x2 : Int) (v4x3 : (List ((List UInt8) × Int))) (v4x4 : Int), s = (sameStore_h4 v4x0 v4x1 v4x2 v4x3 v4x4) ∧ sameStore_F4 N v4x0 v4x1 v4x2 v4x3 v4x4 (k Ex.ret (sameStore_x4e0)) (k (Ex.exit (0 : Nat)) (sameStore_x4e1)) = some r := by
  cases s with | mk env objs =>
  unfold sameStore_L4 at h
  split at h
  · rename_i e1 e2
    have e3 := takeF_slots _ _ _ _ e1
    simp only at e2 e3
    subst e2 e3
    exact ⟨_, _, _, _, _, rfl, h⟩
  · cases h
theorem sameStore_in4 : loops sameStore_b4 = [] := by kernel_rfl
theorem sameStore_lid4 : lid sameStore_b4 = 4 := by kernel_rfl
theorem sameStore_ok4 (N : Nat) : OkL Kx noS sameStore_O 0 N (sameStore_L N) sameStore_b4 := by
  intro s k k' r hk h
  rw [sameStore_lid4] at h
  obtain ⟨v4x0, v4x1, v4x2, v4x3, v4x4, rfl, h⟩ := sameStore_at4 N h
  refine loopL (Λ := sameStore_L N) sameStore_b4 ?_ N hk ((sameStore_loop4 N k v4x0 v4x1 v4x2 v4x3 v4x4 N v4x0 v4x1 v4x2 v4x3 v4x4).trans h)
  rw [sameStore_in4]
  exact fun _ h => nomatch h
def sameStore_run (N : Nat) (l : List (List UInt8 × Int)) (c : Int) (l' : List (List UInt8 × Int)) (c' : Int) : Option Rs := (bif (!(decide (c = c'))) then (some ((AV.bool false), ([] : (List (Ob))))) else (bif (!(decide (((List.length l) : Int) = ((List.length l') : Int)))) then (some ((AV.bool false), ([] : (List (Ob))))) else (sameStore_F4 N (0 : Int) l c l' c' (some ((AV.bool false), ([] : (List (Ob))))) (some ((AV.bool true), ([] : (List (Ob))))))))
theorem sameStore_runL (N : Nat) (l : List (List UInt8 × Int)) (c : Int) (l' : List (List UInt8 × Int)) (c' : Int) : runL Kx noS sameStore_O (sameStore_L N) Try.f14 ([.agg [.sh (.pair .str (.int .i64)) l, .int .i64 c], .agg [.sh (.pair .str (.int .i64)) l', .int .i64 c']]) ([]) = sameStore_run N l c l' c' := by kernel_rfl
theorem sameStore_body : Try.f14.body = some (codeOf Try.f14) := by kernel_rfl
theorem sameStore_loops : loops (codeOf Try.f14) = [sameStore_b4] := by kernel_rfl
theorem sameStore_ev (N : Nat) (l : List (List UInt8 × Int)) (c : Int) (l' : List (List UInt8 × Int)) (c' : Int) {res_ : Rs} (hyp_ : sameStore_run N l c l' c' = some res_) : ∃ n_, runF Kx noS sameStore_O n_ Try.f14 ([.agg [.sh (.pair .str (.int .i64)) l, .int .i64 c], .agg [.sh (.pair .str (.int .i64)) l', .int .i64 c']]) ([]) = some res_ :=
  ⟨N, runL_runF sameStore_body (by rw [sameStore_loops]; exact List.forall_mem_cons.2 ⟨sameStore_ok4 N, fun _ h => nomatch h⟩) ((sameStore_runL N l c l' c').trans hyp_)⟩
def sameStore_sOf (φ : (List (List UInt8 × Int)) → Int → (List (List UInt8 × Int)) → Int → Br) : List AV → List Ob → Br
  | [.agg [.sh (.pair .str (.int .i64)) l, .int .i64 c], .agg [.sh (.pair .str (.int .i64)) l', .int .i64 c']], [] => φ l c l' c'
  | _, _ => .fail
theorem sameStore_okOf {φ : (List (List UInt8 × Int)) → Int → (List (List UInt8 × Int)) → Int → Br} (fu : (List (List UInt8 × Int)) → Int → (List (List UInt8 × Int)) → Int → Nat) (hv : ∀ l c l' c' res_, (φ l c l' c').val = some res_ → sameStore_run (fu l c l' c') l c l' c' = some res_) : Sound Kx 14 (sameStore_sOf φ) := by
  refine sound_run (C := noS) (O := sameStore_O) KOk (sound_no Kx) Try.func14 (by kernel_rfl) fun args objs res os h => ?_
  unfold sameStore_sOf at h
  split at h
  · exact sameStore_ev _ _ _ _ _ (hv _ _ _ _ _ h)
  · cases h

/-! laws.at -/
def lat_O : Opt := { cons := [], keepNil := false, mutF := [], live := [], outs := [] }
def lat_br (code : List Int) (i : Int) : Br := (Br.ite (decide (((List.length code) : Int) = (0 : Int))) (Br.ret (AV.int .i64 (0 : Int)) ([] : (List (Ob)))) (Br.ite (!(decide (((List.length code) : Int) = (0 : Int)))) (Br.ite (decide ((0 : Int) ≤ (Int.tmod i ((List.length code) : Int)))) (Br.ite (decide ((Int.tmod i ((List.length code) : Int)) < ((List.length code) : Int))) (Br.ret (AV.int .i64 (wrap64 (List.getD code (Int.toNat (Int.tmod i ((List.length code) : Int))) (0 : Int)))) ([] : (List (Ob)))) Br.fail) Br.fail) Br.fail))
theorem lat_run (code : List Int) (i : Int) : runF Kx noS lat_O 1 Try.f15 ([.sh (.int .u8) code, .int .i64 i]) ([]) = (lat_br code i).val := by kernel_rfl
def lat_s : List AV → List Ob → Br
  | [.sh (.int .u8) code, .int .i64 i], [] => lat_br code i
  | _, _ => .fail
theorem lat_ok : Sound Kx 15 lat_s := by
  refine sound_run (C := noS) (O := lat_O) KOk (sound_no Kx) Try.func15 (by kernel_rfl) fun args objs res os h => ?_
  unfold lat_s at h
  split at h
  · exact ⟨1, (lat_run _ _).trans h⟩
  · cases h

/-! impl.StoreNew -/
def iNewS_O : Opt := { cons := [], keepNil := false, mutF := [], live := [], outs := [] }
def iNewS_C : Spec := (add noS 32 iwithin_s)
theorem iNewS_C_ok : ∀ fn, Sound Kx fn (iNewS_C fn) := (sound_add (sound_no Kx) iwithin_ok)
def iNewS_br (n : Int) : Br := (Br.ite (decide ((0 : Int) ≤ n)) (Br.ite (!(decide (n ≤ (60000 : Int)))) (Br.ret (AV.tup ((AV.agg ((AV.ref (0 : Nat) (0 : Nat)) :: ((AV.int .i64 (0 : Int)) :: ([] : (List (AV)))))) :: ((AV.bool false) :: ([] : (List (AV)))))) ((Ob.arr (Ty.pair Ty.str (Ty.int .i64)) (0 : Nat) false ([] : (List ((List UInt8) × Int)))) :: ([] : (List (Ob))))) (Br.ret (AV.tup ((AV.agg ((AV.ref (0 : Nat) (0 : Nat)) :: ((AV.int .i64 n) :: ([] : (List (AV)))))) :: ((AV.bool true) :: ([] : (List (AV)))))) ((Ob.arr (Ty.pair Ty.str (Ty.int .i64)) (0 : Nat) false (List.set (List.replicate (1 : Nat) (([] : (List UInt8)), (0 : Int))) (0 : Nat) (([] : (List UInt8)), (0 : Int)))) :: ([] : (List (Ob)))))) (Br.ret (AV.tup ((AV.agg ((AV.ref (0 : Nat) (0 : Nat)) :: ((AV.int .i64 (0 : Int)) :: ([] : (List (AV)))))) :: ((AV.bool false) :: ([] : (List (AV)))))) ((Ob.arr (Ty.pair Ty.str (Ty.int .i64)) (0 : Nat) false ([] : (List ((List UInt8) × Int)))) :: ([] : (List (Ob))))))
theorem iNewS_run (n : Int) : runF Kx iNewS_C iNewS_O 1 Try.f27 ([.int .i64 n]) ([]) = (iNewS_br n).val := by kernel_rfl
def iNewS_s : List AV → List Ob → Br
  | [.int .i64 n], [] => iNewS_br n
  | _, _ => .fail
theorem iNewS_ok : Sound Kx 27 iNewS_s := by
  refine sound_run (C := iNewS_C) (O := iNewS_O) KOk iNewS_C_ok Try.func27 (by kernel_rfl) fun args objs res os h => ?_
  unfold iNewS_s at h
  split at h
  · exact ⟨1, (iNewS_run _).trans h⟩
  · cases h

end
end Go.Proofs.Ytmigffdeghfbhaa.Ev

namespace Go.Proofs.Ytmigffdeghfbhaa.Ev
open Go Go.RowKit
set_option linter.unusedVariables false
set_option linter.unusedSimpArgs false

theorem okStore_small {l : Segs} {c : Int} (h : okStore l c = true) : l.length ≤ 40 ∧ 1 ≤ l.length ∧ total l ≤ 60000 ∧ smS l = true := by
  refine ⟨?_, ?_, ?_, good_smS (ok_good h)⟩ <;>
  · unfold okStore at h
    simp only [Bool.and_eq_true, decide_eq_true_eq] at h
    omega
def allP (l : Segs) (c : Int) : List UInt8 := bif okStore l c then allB l else []
def allPQ_s : List AV → List Ob → Br
  | [.agg [.sh (.pair .str (.int .i64)) l, .int .i64 c]], [] => .ite (smS l) (.ret (.str (allP l c)) []) .fail
  | _, _ => .fail
theorem iAll_okQ : Sound Kx 10 allPQ_s := iAll_ok.of fun args objs r h => by
  unfold allPQ_s at h
  split at h
  · rename_i l c
    obtain ⟨h1, h2⟩ := ite_some h
    rw [← h2]
    show (iAll_br l c).val = _
    unfold iAll_br allP
    cases hk : okStore l c with
    | false => simp only [h1, Bool.not_false, Br.val, cond_false]
    | true =>
      obtain ⟨q1, q2, q3, _⟩ := okStore_small hk
      simp only [h1, q1, q3, decide_true, Bool.and_self, Bool.not_true, Br.val, cond_true]
  · cases h
theorem sAll_okQ : Sound Kx 9 allPQ_s := sAll_ok.of fun args objs r h => by
  unfold allPQ_s at h
  split at h
  · exact (ite_some h).2
  · cases h
def looseP (l : Segs) (c : Int) : Int := bif okStore l c then ((lastS l).1.length : Int) - (lastS l).2 else -1
def looseQ_s : List AV → List Ob → Br
  | [.agg [.sh (.pair .str (.int .i64)) l, .int .i64 c]], [] => .ite (smS l) (.ret (.int .i64 (looseP l c)) []) .fail
  | _, _ => .fail
theorem iLoose_okQ : Sound Kx 13 looseQ_s := iLoose_ok.of fun args objs r h => by
  unfold looseQ_s at h
  split at h
  · rename_i l c
    obtain ⟨hs, h2⟩ := ite_some h
    rw [← h2]
    show (iLoose_br l c).val = _
    unfold iLoose_br looseP
    cases hk : okStore l c with
    | false => simp only [hs, Bool.not_false, Br.val, cond_false]
    | true =>
      obtain ⟨pre, a, rfl, hp, h1, h2, h3, h4, h5, h6⟩ := okStore_last hk
      have e : wrap64 ((a.1.length : Int) - a.2) = (a.1.length : Int) - a.2 := w64 (by omega) (by omega)
      simp only [hs, Bool.not_true, Br.val, f3 pre a hp, f4, f5, Int.toNat_natCast, f6, cond_true, lastS_snoc, e]
  · cases h
theorem sLoose_okQ : Sound Kx 11 looseQ_s := sLoose_ok.of fun args objs r h => by
  unfold looseQ_s at h
  split at h
  · rename_i l c
    obtain ⟨hs, h2⟩ := ite_some h
    rw [← h2]
    show (sLoose_br l c).val = _
    unfold sLoose_br looseP
    cases hk : okStore l c with
    | false => simp only [Bool.not_false, Br.val, cond_false]
    | true =>
      obtain ⟨pre, a, rfl, hp, h1, h2, h3, h4, h5, h6⟩ := okStore_last hk
      have e : wrap64 ((a.1.length : Int) - a.2) = (a.1.length : Int) - a.2 := w64 (by omega) (by omega)
      simp only [Bool.not_true, Br.val, f3 pre a hp, f4, f5, Int.toNat_natCast, f6, cond_true, lastS_snoc, e]
  · cases h
def usedP (l : Segs) (c : Int) : Int := bif okStore l c then (total l : Int) else -1
def usedQ_s : List AV → List Ob → Br
  | [.agg [.sh (.pair .str (.int .i64)) l, .int .i64 c]], [] => .ite (smS l) (.ret (.int .i64 (usedP l c)) []) .fail
  | _, _ => .fail
theorem sUsed_okQ : Sound Kx 36 usedQ_s := sUsed_ok.of fun args objs r h => by
  unfold usedQ_s at h
  split at h
  · rename_i l c
    obtain ⟨h1, h2⟩ := ite_some h
    rw [← h2]
    show (sUsed_br l c).val = _
    unfold sUsed_br usedP
    cases hk : okStore l c with
    | false => simp only [Bool.not_false, Br.val, cond_false]
    | true => simp only [Bool.not_true, Br.val, cond_true, allB_len]
  · cases h

/-! ReadAt -/
def readC (l : Segs) (c k a n : Int) : Bool := okStore l c && decide (0 ≤ k) && decide (k ≤ (l.length : Int) - 1) && decide (0 ≤ a) && decide (a ≤ ((l.getD k.toNat ([], 0)).1.length : Int)) && decide (0 ≤ n) && decide (n ≤ ((l.getD k.toNat ([], 0)).1.length : Int) - a)
def readS (l : Segs) (c k a n : Int) : List UInt8 := bif readC l c k a n then cut (l.getD k.toNat ([], 0)).1 a (a + n) else []
def readQ_s : List AV → List Ob → Br
  | [.agg [.sh (.pair .str (.int .i64)) l, .int .i64 c], .int .i64 k, .int .i64 a, .int .i64 n], [] => .ite (smS l) (.ret (.tup [.str (readS l c k a n), .bool (readC l c k a n)]) []) .fail
  | _, _ => .fail
/-! within, sameStore, at, StoreNew -/
def prefixB (s t : List UInt8) : Bool := decide ((s.length : Int) ≤ (t.length : Int)) && decide (cut t 0 (s.length : Int) = s)
def prefixQ_s : List AV → List Ob → Br
  | [.str s, .str t], [] => .ret (.bool (prefixB s t)) []
  | _, _ => .fail
theorem lwithin_okQ : Sound Kx 12 prefixQ_s := lwithin_ok.of fun args objs r h => by
  unfold prefixQ_s at h
  split at h
  · rename_i s t
    rw [← h]
    show (lwithin_br s t).val = _
    unfold lwithin_br prefixB
    have e : decide ((0 : Int) ≤ (s.length : Int)) = true := by simp
    by_cases h1 : (s.length : Int) ≤ (t.length : Int)
    · simp only [h1, e, decide_true, Br.val, Bool.true_and]
    · simp only [h1, decide_false, Br.val, Bool.false_and]
  · cases h
theorem sameStore_loop (c c' : Int) (k0 k1 : Option Rs) : ∀ (r r' pre pre' : Segs) (n : Nat), r.length < n → (pre ++ r).length ≤ 281474976710656 → pre.length = pre'.length → r.length = r'.length →
    sameStore_F4 n (pre.length : Int) (pre ++ r) c (pre' ++ r') c' k0 k1 = bif decide (r = r') then k1 else k0
  | [], [], pre, pre', n + 1, hn, hl, hp, hr => by
    have e1 : decide ((pre.length : Int) < ((pre ++ ([] : Segs)).length : Int)) = false := by simp
    unfold sameStore_F4 sameStore_T4
    simp only [e1, cond_false]
    rfl
  | [], _ :: _, _, _, _, _, _, _, hr => by simp at hr
  | _ :: _, [], _, _, _, _, _, _, hr => by simp at hr
  | a :: r, b :: r', pre, pre', n + 1, hn, hl, hp, hr => by
    have hlen : (pre ++ a :: r).length = pre.length + r.length + 1 := by simp; omega
    have e1 : decide ((pre.length : Int) < ((pre ++ a :: r).length : Int)) = true := by rw [hlen]; simp; omega
    have e2 : decide ((0 : Int) ≤ (pre.length : Int)) = true := by simp
    have e3 : decide ((pre.length : Int) < ((pre' ++ b :: r').length : Int)) = true := by simp; omega
    have ih := sameStore_loop c c' k0 k1 r r' (pre ++ [a]) (pre' ++ [b]) n (by simp at hn; omega) (by rw [← cat_one]; exact hl) (by simp [hp]) (by simpa using hr)
    rw [← cat_one, ← cat_one] at ih
    have e4 : (pre' ++ b :: r').getD pre.length ([], 0) = b := by rw [hp]; exact getD_mid ..
    unfold sameStore_F4 sameStore_T4
    simp only [e1, e2, e3, cond_true, Int.toNat_natCast, getD_mid, e4]
    rw [next_len pre a (by omega), ih]
    obtain ⟨a1, a2⟩ := a
    obtain ⟨b1, b2⟩ := b
    by_cases h1 : a1 = b1
    · by_cases h2 : a2 = b2
      · simp [h1, h2]
      · simp [h1, h2]
    · simp [h1]
def sameQ_s : List AV → List Ob → Br
  | [.agg [.sh (.pair .str (.int .i64)) l, .int .i64 c], .agg [.sh (.pair .str (.int .i64)) l', .int .i64 c']], [] => .ite (decide (l.length ≤ 281474976710656)) (.ret (.bool (decide (c = c') && decide (l = l'))) []) .fail
  | _, _ => .fail
theorem sameStore_okQ : Sound Kx 14 sameQ_s := by
  refine (sameStore_okOf (φ := fun l c l' c' => .ite (decide (l.length ≤ 281474976710656)) (.ret (.bool (decide (c = c') && decide (l = l'))) []) .fail) (fun l _ _ _ => l.length + 1) fun l c l' c' r h => ?_).of fun args objs r h => by
    unfold sameQ_s at h
    unfold sameStore_sOf
    split at h
    · exact h
    · cases h
  obtain ⟨h1, h2⟩ := ite_some h
  rw [← h2]
  unfold sameStore_run
  by_cases h3 : c = c'
  · by_cases h4 : (l.length : Int) = (l'.length : Int)
    · simp only [h3, h4, decide_true, Bool.not_true, cond_false, Bool.true_and]
      have := sameStore_loop c' c' (some (.bool false, [])) (some (.bool true, [])) l l' [] [] (l.length + 1) (by omega) (by simpa using h1) rfl (by omega)
      simp only [List.nil_append, List.length_nil] at this
      refine this.trans ?_
      cases decide (l = l') <;> rfl
    · have h5 : ¬ l = l' := fun e => h4 (by rw [e])
      simp only [h3, h4, h5, decide_true, decide_false, Bool.not_true, Bool.not_false, cond_true, cond_false, Bool.and_false]
      rfl
  · simp only [h3, decide_false, Bool.not_false, cond_true, Bool.false_and]
    rfl
def latV (code : List Int) (i : Int) : Int := bif decide ((code.length : Int) = 0) then 0 else wrap64 (code.getD (Int.tmod i (code.length : Int)).toNat 0)
def latQ_s : List AV → List Ob → Br
  | [.sh (.int .u8) code, .int .i64 i], [] => .ite (decide (0 ≤ i)) (.ret (.int .i64 (latV code i)) []) .fail
  | _, _ => .fail
theorem lat_okQ : Sound Kx 15 latQ_s := lat_ok.of fun args objs r h => by
  unfold latQ_s at h
  split at h
  · rename_i code i
    obtain ⟨h1, h2⟩ := ite_some h
    rw [← h2]
    show (lat_br code i).val = _
    unfold lat_br latV
    by_cases h3 : (code.length : Int) = 0
    · simp only [h3, decide_true, Br.val, cond_true]
    · have hb := tmod_in (of_decide_eq_true h1) (by omega : (0 : Int) < (code.length : Int))
      simp only [h3, hb.1, hb.2, decide_true, decide_false, Bool.not_false, Br.val, cond_false]
  · cases h
theorem iNewS_okQ : Sound Kx 27 newQ_s := iNewS_ok.of fun args objs r h => by
  unfold newQ_s at h
  split at h
  · rename_i room
    rw [← h]
    show (iNewS_br room).val = _
    unfold iNewS_br newS newC
    cases decide (0 ≤ room) <;> cases decide (room ≤ 60000) <;> rfl
  · cases h
def iOkQ_s : List AV → List Ob → Br := iOk_s

end Go.Proofs.Ytmigffdeghfbhaa.Ev

namespace Go.Proofs.Ytmigffdeghfbhaa.Ev
open Go Go.RowKit
set_option linter.unusedVariables false
set_option linter.unusedSimpArgs false
noncomputable section

/-! laws.disks -/
def disks_O : Opt := { cons := [], keepNil := false, mutF := [], live := [], outs := [] }
def disks_C : Spec := (add (add (add (add (add noS 27 newQ_s) 28 appendQ_s) 6 crashQ_s) 10 allPQ_s) 13 looseQ_s)
theorem disks_C_ok : ∀ fn, Sound Kx fn (disks_C fn) := (sound_add (sound_add (sound_add (sound_add (sound_add (sound_no Kx) iNewS_okQ) iAppend_okQ) iCrash_okQ) iAll_okQ) iLoose_okQ)
def disks_br  : Br := (Br.ret (AV.bool true) ([] : (List (Ob))))
theorem disks_run  : runF Kx disks_C disks_O 1 Try.f8 ([]) ([]) = (disks_br ).val := by kernel_rfl
def disks_s : List AV → List Ob → Br
  | [], [] => disks_br 
  | _, _ => .fail
theorem disks_ok : Sound Kx 8 disks_s := by
  refine sound_run (C := disks_C) (O := disks_O) KOk disks_C_ok Try.func8 (by kernel_rfl) fun args objs res os h => ?_
  unfold disks_s at h
  split at h
  · exact ⟨1, (disks_run).trans h⟩
  · cases h

end
end Go.Proofs.Ytmigffdeghfbhaa.Ev

namespace Go.Proofs.Ytmigffdeghfbhaa.Ev
open Go Go.RowKit
set_option linter.unusedVariables false
set_option linter.unusedSimpArgs false

/-- A store by its parts. -/
structure IsSt (pre : Segs) (a : List UInt8 × Int) (c : Int) : Prop where
  f : full pre = true
  h1 : 0 ≤ a.2
  h2 : a.2 ≤ (a.1.length : Int)
  hp : pre.length ≤ 39
  ht : (total (pre ++ [a]) : Int) ≤ c
  hc : c ≤ 60000
theorem IsSt.ok {pre : Segs} {a : List UInt8 × Int} {c : Int} (h : IsSt pre a c) : okStore (pre ++ [a]) c = true := okStore_snoc h.f h.h1 h.h2 h.hp h.ht h.hc
theorem isSt_of {l : Segs} {c : Int} (h : okStore l c = true) : ∃ pre a, l = pre ++ [a] ∧ IsSt pre a c := by
  obtain ⟨pre, a, rfl, hp, h1, h2, h3, h4, h5, h6⟩ := okStore_last h
  exact ⟨pre, a, rfl, okStore_full h, h1, h2, hp, h6, h5⟩
theorem IsSt.sm {pre : Segs} {a : List UInt8 × Int} {c : Int} (h : IsSt pre a c) : smS (pre ++ [a]) = true := (okStore_small h.ok).2.2.2
theorem IsSt.all {pre : Segs} {a : List UInt8 × Int} {c : Int} (h : IsSt pre a c) : allP (pre ++ [a]) c = allB pre ++ a.1 := by
  unfold allP; rw [h.ok]; exact allB_snoc pre a
theorem IsSt.loose {pre : Segs} {a : List UInt8 × Int} {c : Int} (h : IsSt pre a c) : looseP (pre ++ [a]) c = (a.1.length : Int) - a.2 := by
  unfold looseP; rw [h.ok, lastS_snoc]; rfl
theorem IsSt.used {pre : Segs} {a : List UInt8 × Int} {c : Int} (h : IsSt pre a c) : usedP (pre ++ [a]) c = (total pre : Int) + a.1.length := by
  unfold usedP; rw [h.ok, total_snoc]; push_cast; rfl
theorem IsSt.len {pre : Segs} {a : List UInt8 × Int} {c : Int} (h : IsSt pre a c) : a.1.length ≤ 60000 := by
  have := h.ht; rw [total_snoc] at this; have := h.hc; omega
theorem IsSt.tot {pre : Segs} {a : List UInt8 × Int} {c : Int} (h : IsSt pre a c) : (total pre : Int) + a.1.length ≤ c := by
  have := h.ht; rw [total_snoc] at this; push_cast at this; exact this
/-- With another last segment. -/
theorem IsSt.put {pre : Segs} {a : List UInt8 × Int} {c : Int} (h : IsSt pre a c) (b : List UInt8 × Int) (h1 : 0 ≤ b.2) (h2 : b.2 ≤ (b.1.length : Int)) (h3 : (total pre : Int) + b.1.length ≤ c) : IsSt pre b c :=
  ⟨h.f, h1, h2, h.hp, by rw [total_snoc]; push_cast; exact h3, h.hc⟩

/-! Append -/
theorem append_code {l : Segs} {c : Int} {b : List UInt8} (h : ¬ (appendP l c b).2.2 = 0) : (appendP l c b).1 = [] := by
  unfold appendP at h ⊢
  cases hk : okStore l c
  · rfl
  · rw [hk] at h
    simp only [cond_true] at h ⊢
    by_cases h7 : c - (total l : Int) < (b.length : Int)
    · simp only [h7, decide_true, cond_true]
    · simp only [h7, decide_false, cond_false] at h; exact absurd trivial h
theorem append_ok {l : Segs} {c : Int} {b : List UInt8} (h : (appendP l c b).2.2 = 0) : ∃ pre a, l = pre ++ [a] ∧ IsSt pre a c ∧ IsSt pre (a.1 ++ b, a.2) c ∧ appendP l c b = (pre ++ [(a.1 ++ b, a.2)], c, 0) := by
  unfold appendP at h ⊢
  cases hk : okStore l c
  · rw [hk] at h; simp only [cond_false] at h; omega
  · obtain ⟨pre, a, rfl, hi⟩ := isSt_of hk
    rw [hk] at h
    simp only [cond_true, updS_snoc] at h ⊢
    by_cases h7 : c - (total (pre ++ [a]) : Int) < (b.length : Int)
    · simp only [h7, decide_true, cond_true] at h; omega
    · simp only [h7, decide_false, cond_false]
      refine ⟨pre, a, rfl, hi, hi.put _ hi.h1 ?_ ?_, rfl⟩
      · have := hi.h2; simp only [List.length_append]; omega
      · rw [total_snoc] at h7; simp only [List.length_append]; omega
theorem cut_drop (a b : List UInt8) : cut (a ++ b) (a.length : Int) ((a.length : Int) + (b.length : Int)) = b := by
  unfold cut
  have e : ((a.length : Int) + (b.length : Int)).toNat = a.length + b.length := by omega
  rw [e, Int.toNat_natCast, List.take_of_length_le (by simp), List.drop_left]
theorem cut_take (a : List UInt8) (n : Int) : cut a 0 n = a.take n.toNat := by unfold cut; rfl
theorem cut_full (a : List UInt8) : cut a 0 (a.length : Int) = a := by rw [cut_take, Int.toNat_natCast, List.take_length]
theorem cut_len (a : List UInt8) (n : Int) (h0 : 0 ≤ n) (h : n ≤ (a.length : Int)) : ((cut a 0 n).length : Int) = n := by
  rw [cut_take, List.length_take]; omega
theorem append_read {pre : Segs} {a : List UInt8 × Int} {c : Int} {b : List UInt8} (h : IsSt pre (a.1 ++ b, a.2) c) : readC (pre ++ [(a.1 ++ b, a.2)]) c (pre.length : Int) (a.1.length : Int) (b.length : Int) = true ∧ readS (pre ++ [(a.1 ++ b, a.2)]) c (pre.length : Int) (a.1.length : Int) (b.length : Int) = b := by
  have hr : readC (pre ++ [(a.1 ++ b, a.2)]) c (pre.length : Int) (a.1.length : Int) (b.length : Int) = true := by
    unfold readC
    rw [Int.toNat_natCast, f6, h.ok]
    simp only [Bool.true_and, Bool.and_eq_true, decide_eq_true_eq, List.length_append, List.length_singleton]
    refine ⟨⟨⟨⟨⟨?_, ?_⟩, ?_⟩, ?_⟩, ?_⟩, ?_⟩ <;> (try push_cast) <;> omega
  refine ⟨hr, ?_⟩
  unfold readS
  rw [hr, cond_true, Int.toNat_natCast, f6]
  exact cut_drop a.1 b

/-! Crash -/
theorem crash_bad {l : Segs} {c k : Int} (h : okStore l c = false) : crashP l c k = ([], 0) := by unfold crashP; rw [h]; rfl
theorem crash_ok {pre : Segs} {a : List UInt8 × Int} {c : Int} (k : Int) (h : IsSt pre a c) : crashP (pre ++ [a]) c k = (pre ++ [(cut a.1 0 (crashN a k), crashN a k)], c) ∧ IsSt pre (cut a.1 0 (crashN a k), crashN a k) c := by
  have hn := crashN_in a k h.h1 h.h2
  have hl := cut_len a.1 _ hn.1 hn.2
  refine ⟨?_, h.put _ hn.1 (by simp only; omega) (by have := h.tot; simp only; omega)⟩
  unfold crashP
  rw [h.ok, cond_true, updS_snoc]
theorem crash_again {pre : Segs} {d : List UInt8} {n c : Int} (k : Int) (h : IsSt pre (d, n) c) (hn : n = (d.length : Int)) : crashP (pre ++ [(d, n)]) c k = (pre ++ [(d, n)], c) := by
  have e : crashN (d, n) k = (d.length : Int) := by
    unfold crashN
    subst hn
    simp only [Int.sub_self]
    by_cases h1 : k < 0
    · have h2 : ¬ 0 < k := by omega
      simp only [h1, h2, decide_true, decide_false, cond_true, cond_false]
    · simp only [h1, decide_false, cond_false]
  rw [(crash_ok k h).1, e]
  simp only [cut_full, hn]
theorem sync_ok {pre : Segs} {a : List UInt8 × Int} {c : Int} (h : IsSt pre a c) : syncP (pre ++ [a]) c = (pre ++ [(a.1, (a.1.length : Int))], c) ∧ IsSt pre (a.1, (a.1.length : Int)) c := by
  refine ⟨?_, h.put _ (by simp) (by simp) h.tot⟩
  unfold syncP
  rw [h.ok, cond_true, updS_snoc]

/-! Roll -/
theorem roll_code {l : Segs} {c : Int} (h : ¬ (rollP l c).2.2 = 0) : (rollP l c).1 = [] := by
  unfold rollP at h ⊢
  cases hk : okStore l c
  · rfl
  · rw [hk] at h
    simp only [cond_true] at h ⊢
    cases h1 : decide ((lastS l).1 = [])
    · cases h2 : decide ((l.length : Int) = 40)
      · rw [h1, h2] at h; simp only [cond_false] at h; exact absurd trivial h
      · rfl
    · rfl
theorem roll_ok {l : Segs} {c : Int} (h : (rollP l c).2.2 = 0) : ∃ pre a, l = pre ++ [a] ∧ IsSt pre a c ∧ IsSt (pre ++ [(a.1, (a.1.length : Int))]) ([], 0) c ∧ rollP l c = ((pre ++ [(a.1, (a.1.length : Int))]) ++ [([], 0)], c, 0) := by
  have hk : okStore l c = true := by
    cases hk : okStore l c
    · unfold rollP at h; rw [hk] at h; simp only [cond_false] at h; omega
    · rfl
  have h9 := okS_roll hk h
  obtain ⟨pre, a, rfl, hi⟩ := isSt_of hk
  unfold rollP at h h9 ⊢
  rw [hk] at h h9 ⊢
  simp only [cond_true, updS_snoc, lastS_snoc] at h h9 ⊢
  cases h1 : decide (a.1 = [])
  · cases h2 : decide (((pre ++ [a]).length : Int) = 40)
    · rw [h1, h2] at h9
      simp only [cond_false] at h9 ⊢
      refine ⟨pre, a, rfl, hi, ?_, rfl⟩
      obtain ⟨p', a', e, q⟩ := isSt_of h9
      have e1 := List.append_inj' e rfl
      rw [e1.1]
      have e2 : ([], 0) = a' := by simpa using e1.2
      rw [e2]
      exact q
    · rw [h1, h2] at h; simp only [cond_true, cond_false] at h; omega
  · rw [h1] at h; simp only [cond_true] at h; omega

/-! Cut -/
theorem cut_code {l : Segs} {c k : Int} (h : ¬ (cutP l c k).2.2 = 0) : (cutP l c k).1 = [] := by
  unfold cutP at h ⊢
  cases hk : okStore l c
  · rfl
  · rw [hk] at h
    simp only [cond_true] at h ⊢
    cases h1 : decide (k < 0) || decide (((lastS l).1.length : Int) < k)
    · rw [h1] at h
      simp only [cond_false] at h ⊢
      cases h2 : decide (k = 0) && decide (1 < l.length)
      · rw [h2] at h; exact absurd rfl h
      · rw [h2] at h; exact absurd rfl h
    · rfl
theorem full_last {pre : Segs} (hne : pre ≠ []) (h : full pre = true) : ∃ p b, pre = p ++ [b] ∧ full p = true ∧ b.2 = (b.1.length : Int) := by
  have e := (List.dropLast_concat_getLast hne).symm
  refine ⟨_, _, e, ?_⟩
  rw [e, full_snoc] at h
  simp only [Bool.and_eq_true, decide_eq_true_eq] at h
  exact ⟨h.1, h.2.2⟩
theorem take_snoc (pre : Segs) (a : List UInt8 × Int) : (pre ++ [a]).take ((pre ++ [a]).length - 1) = pre := by simp
theorem cut_ok {l : Segs} {c k : Int} (h : (cutP l c k).2.2 = 0) : ∃ pre a q d, l = pre ++ [a] ∧ IsSt pre a c ∧ IsSt q d c ∧ cutP l c k = (q ++ [d], c, 0) ∧ 0 ≤ k ∧ k ≤ (a.1.length : Int) ∧ d.2 = (d.1.length : Int) ∧ allB q ++ d.1 = allB pre ++ a.1.take k.toNat := by
  unfold cutP at h ⊢
  cases hk : okStore l c
  · rw [hk] at h; simp only [cond_false] at h; omega
  · obtain ⟨pre, a, rfl, hi⟩ := isSt_of hk
    rw [hk] at h
    simp only [cond_true, updS_snoc, lastS_snoc, take_snoc] at h ⊢
    by_cases h1 : k < 0
    · simp only [h1, decide_true, Bool.true_or, cond_true] at h; omega
    · by_cases h2 : (a.1.length : Int) < k
      · simp only [h2, decide_true, Bool.or_true, cond_true] at h; omega
      · simp only [h1, h2, decide_false, Bool.or_false, cond_false] at h ⊢
        have k0 : 0 ≤ k := by omega
        have k1 : k ≤ (a.1.length : Int) := by omega
        cases h3 : decide (k = 0) && decide (1 < (pre ++ [a]).length)
        · have hl := cut_len a.1 k k0 k1
          exact ⟨pre, a, pre, (cut a.1 0 k, k), rfl, hi, hi.put _ k0 (by simp only; omega) (by have := hi.tot; simp only; omega), rfl, k0, k1, hl.symm, by rw [cut_take]⟩
        · simp only [Bool.and_eq_true, decide_eq_true_eq] at h3
          have hne : pre ≠ [] := by intro e; rw [e] at h3; simp at h3
          obtain ⟨p, b, rfl, q1, q2⟩ := full_last hne hi.f
          refine ⟨_, a, p, b, rfl, hi, ⟨q1, by omega, by omega, ?_, ?_, hi.hc⟩, rfl, k0, k1, q2, ?_⟩
          · have := hi.hp; simp at this; omega
          · have := hi.tot; omega
          · rw [h3.1, allB_snoc]; simp

end Go.Proofs.Ytmigffdeghfbhaa.Ev
