/- StoreA, StoreB, StoreC, StoreD, StoreE, StoreF, StoreG, StoreH, one behind the other (merge.py). -/
import Derived.Test.YtmigffdeghfbhaaEvC
import Derived.Test.YtmigffdeghfbhaaEv28
namespace Go.Proofs.Ytmigffdeghfbhaa.Ev
open Go Go.RowKit
set_option linter.unusedVariables false
set_option linter.unusedSimpArgs false
abbrev Rs := AV × List Ob

/-! laws.szSeg -/
def szSeg_O : Opt := { cons := [], keepNil := false, mutF := [], live := [], outs := [] }
def szSeg_br (d : List UInt8) (s left : Int) : Br := (Br.ite (decide ((wrap64 (left - ((List.length d) : Int))) < (0 : Int))) (Br.ret (AV.int .i64 (-(1 : Int))) ([] : (List (Ob)))) (Br.ret (AV.int .i64 (wrap64 (left - ((List.length d) : Int)))) ([] : (List (Ob)))))
def szSeg_s : List AV → List Ob → Br
  | [.agg [.str d, .int .i64 s], .int .i64 left], [] => szSeg_br d s left
  | _, _ => .fail
/-! laws.toSeg -/
def toSeg_O : Opt := { cons := [], keepNil := false, mutF := [], live := [], outs := [] }
def toSeg_br (d : List UInt8) (s : Int) : Br := (Br.ret (AV.agg ((AV.str d) :: ((AV.int .i64 s) :: ([] : (List (AV)))))) ([] : (List (Ob))))
def toSeg_s : List AV → List Ob → Br
  | [.agg [.str d, .int .i64 s]], [] => toSeg_br d s
  | _, _ => .fail
/-! laws.eqSeg -/
def eqSeg_O : Opt := { cons := [], keepNil := false, mutF := [], live := [], outs := [] }
def eqSeg_br (d : List UInt8) (s : Int) (d' : List UInt8) (s' : Int) : Br := (Br.ite (!(decide (d = d'))) (Br.ret (AV.bool false) ([] : (List (Ob)))) (Br.ite (!(decide (s = s'))) (Br.ret (AV.bool false) ([] : (List (Ob)))) (Br.ret (AV.bool true) ([] : (List (Ob))))))
def eqSeg_s : List AV → List Ob → Br
  | [.agg [.str d, .int .i64 s], .agg [.str d', .int .i64 s']], [] => eqSeg_br d s d' s'
  | _, _ => .fail
/-! impl.within -/
def iwithin_O : Opt := { cons := [], keepNil := false, mutF := [], live := [], outs := [] }
def iwithin_br (n lo hi : Int) : Br := (Br.ite (decide (lo ≤ n)) (Br.ret (AV.bool (decide (n ≤ hi))) ([] : (List (Ob)))) (Br.ret (AV.bool false) ([] : (List (Ob)))))
theorem iwithin_run (n lo hi : Int) : runF Kx noS iwithin_O 1 Try.f32 ([.int .i64 n, .int .i64 lo, .int .i64 hi]) ([]) = (iwithin_br n lo hi).val := by kernel_rfl
def iwithin_s : List AV → List Ob → Br
  | [.int .i64 n, .int .i64 lo, .int .i64 hi], [] => iwithin_br n lo hi
  | _, _ => .fail
theorem iwithin_ok : Sound Kx 32 iwithin_s := by
  refine sound_run (C := noS) (O := iwithin_O) KOk (sound_no Kx) Try.func32 (by kernel_rfl) fun args objs res os h => ?_
  unfold iwithin_s at h
  split at h
  · exact ⟨1, (iwithin_run _ _ _).trans h⟩
  · cases h

/-! spec.StoreOk -/
def sOk_O : Opt := { cons := [], keepNil := false, mutF := [], live := [(5, [1, 3, 4])], outs := [(5, [2])] }
def sOk_T5 (v5x0 : Int) (v5x1 : Int) (v5x2 : (List ((List UInt8) × Int))) (v5x3 : Int) (kR5 : Int → Int → (List ((List UInt8) × Int)) → Int → Option Rs) (k5e0 : Option Rs) (k5e1 : Option Rs) : Option Rs :=
  (bif (decide (v5x1 < ((List.length v5x2) : Int))) then (bif (decide ((0 : Int) ≤ v5x1)) then (bif (decide (v5x1 < ((List.length v5x2) : Int))) then (bif (decide (v5x0 < ((List.length (List.getD v5x2 (Int.toNat v5x1) (([] : (List UInt8)), (0 : Int))).1) : Int))) then k5e0 else (bif (decide ((List.getD v5x2 (Int.toNat v5x1) (([] : (List UInt8)), (0 : Int))).2 < (0 : Int))) then k5e0 else (bif (decide (((List.length (List.getD v5x2 (Int.toNat v5x1) (([] : (List UInt8)), (0 : Int))).1) : Int) < (List.getD v5x2 (Int.toNat v5x1) (([] : (List UInt8)), (0 : Int))).2)) then k5e0 else (bif (decide ((wrap64 (v5x1 + (1 : Int))) < ((List.length v5x2) : Int))) then (bif (decide (((List.length (List.getD v5x2 (Int.toNat v5x1) (([] : (List UInt8)), (0 : Int))).1) : Int) = (0 : Int))) then k5e0 else (bif (!(decide ((List.getD v5x2 (Int.toNat v5x1) (([] : (List UInt8)), (0 : Int))).2 = ((List.length (List.getD v5x2 (Int.toNat v5x1) (([] : (List UInt8)), (0 : Int))).1) : Int)))) then k5e0 else (kR5 (wrap64 (v5x0 - ((List.length (List.getD v5x2 (Int.toNat v5x1) (([] : (List UInt8)), (0 : Int))).1) : Int))) (wrap64 (v5x1 + (1 : Int))) v5x2 v5x3))) else (kR5 (wrap64 (v5x0 - ((List.length (List.getD v5x2 (Int.toNat v5x1) (([] : (List UInt8)), (0 : Int))).1) : Int))) (wrap64 (v5x1 + (1 : Int))) v5x2 v5x3))))) else (none)) else (none)) else k5e1)
def sOk_F5 : Nat → Int → Int → (List ((List UInt8) × Int)) → Int → (Option Rs) → (Option Rs) → Option Rs
  | 0, _, _, _, _, _, _ => none
  | n + 1, v5x0, v5x1, v5x2, v5x3, k5e0, k5e1 => sOk_T5 v5x0 v5x1 v5x2 v5x3 (fun v5x0 v5x1 v5x2 v5x3 => sOk_F5 n v5x0 v5x1 v5x2 v5x3 k5e0 k5e1) k5e0 k5e1
def sOk_h5 (v5x0 : Int) (v5x1 : Int) (v5x2 : (List ((List UInt8) × Int))) (v5x3 : Int) : St := (St.mk (slots 0 79 [(1, (AV.ptr (128 : Nat) (0 : Nat))), (3, (AV.int .i64 v5x0)), (4, (AV.int .i64 v5x1))]) (((128 : Nat), (Ob.var ((AV.sh (Ty.pair Ty.str (Ty.int .i64)) v5x2) :: ((AV.int .i64 v5x3) :: ([] : (List (AV))))))) :: ([] : (List (Nat × (Ob))))))
def sOk_x5e0  : St := (St.mk (slots 0 79 [(2, (AV.bool false))]) ([] : (List (Nat × (Ob)))))
def sOk_x5e1  : St := (St.mk (slots 0 79 []) ([] : (List (Nat × (Ob)))))
noncomputable def sOk_b5 : Code := codeAt (codeOf Try.f7) [1, 1, 1, 0, 1, 0, 0]
def sOk_L5 (N : Nat) (st : St) (k : Ex → St → Option Rs) : Option Rs := match takeF [1, 3, 4] 0 79 st.env, st.objs with
  | some [.ptr 128 0, .int .i64 v5x0, .int .i64 v5x1], [(128, .var [.sh (Ty.pair Ty.str (Ty.int .i64)) v5x2, .int .i64 v5x3])] => sOk_F5 N v5x0 v5x1 v5x2 v5x3 (k Ex.ret (sOk_x5e0)) (k (Ex.exit (0 : Nat)) (sOk_x5e1))
  | _, _ => none
def sOk_L (N : Nat) : Lam := fun j st k => match j with
  | 5 => sOk_L5 N st k
  | _ => none
theorem sOk_round5 (N : Nat) (again : St → Option Rs) (k : Ex → St → Option Rs) (wv5x0 : Int) (wv5x1 : Int) (wv5x2 : (List ((List UInt8) × Int))) (wv5x3 : Int) (v5x0 : Int) (v5x1 : Int) (v5x2 : (List ((List UInt8) × Int))) (v5x3 : Int) :
    roundK 0 (fun st k => evL Kx noS sOk_O 0 (sOk_L N) sOk_b5 st k) (sOk_h5 wv5x0 wv5x1 wv5x2 wv5x3).env again (sOk_h5 v5x0 v5x1 v5x2 v5x3) (outK sOk_O 0 sOk_b5 k) = sOk_T5 v5x0 v5x1 v5x2 v5x3 (fun v5x0 v5x1 v5x2 v5x3 => again (sOk_h5 v5x0 v5x1 v5x2 v5x3)) (k Ex.ret (sOk_x5e0)) (k (Ex.exit (0 : Nat)) (sOk_x5e1)) := by kernel_rfl
theorem sOk_loop5 (N : Nat) (k : Ex → St → Option Rs) (wv5x0 : Int) (wv5x1 : Int) (wv5x2 : (List ((List UInt8) × Int))) (wv5x3 : Int) : ∀ (n : Nat) (v5x0 : Int) (v5x1 : Int) (v5x2 : (List ((List UInt8) × Int))) (v5x3 : Int),
    loopK 0 (fun st k => evL Kx noS sOk_O 0 (sOk_L N) sOk_b5 st k) (sOk_h5 wv5x0 wv5x1 wv5x2 wv5x3).env n (sOk_h5 v5x0 v5x1 v5x2 v5x3) (outK sOk_O 0 sOk_b5 k) = sOk_F5 n v5x0 v5x1 v5x2 v5x3 (k Ex.ret (sOk_x5e0)) (k (Ex.exit (0 : Nat)) (sOk_x5e1))
  | 0, _, _, _, _ => rfl
  | n + 1, v5x0, v5x1, v5x2, v5x3 => by
    rw [loopK_succ, sOk_round5]
    simp only [sOk_loop5 N k wv5x0 wv5x1 wv5x2 wv5x3 n]
    rfl
theorem sOk_at5 (N : Nat) {s : St} {k : Ex → St → Option Rs} {r : Rs} (h : sOk_L5 N s k = some r) : ∃ (v5x0 : Int) (v5x1 : Int) (v5x2 : (List ((List UInt8) × Int))) (v5x3 : Int), s = (sOk_h5 v5x0 v5x1 v5x2 v5x3) ∧ sOk_F5 N v5x0 v5x1 v5x2 v5x3 (k Ex.ret (sOk_x5e0)) (k (Ex.exit (0 : Nat)) (sOk_x5e1)) = some r := by
  cases s with | mk env objs =>
  unfold sOk_L5 at h
  split at h
  · rename_i e1 e2
    have e3 := takeF_slots _ _ _ _ e1
    simp only at e2 e3
    subst e2 e3
    exact ⟨_, _, _, _, rfl, h⟩
  · cases h
theorem sOk_in5 : loops sOk_b5 = [] := by kernel_rfl
theorem sOk_lid5 : lid sOk_b5 = 5 := by kernel_rfl
theorem sOk_ok5 (N : Nat) : OkL Kx noS sOk_O 0 N (sOk_L N) sOk_b5 := by
  intro s k k' r hk h
  rw [sOk_lid5] at h
  obtain ⟨v5x0, v5x1, v5x2, v5x3, rfl, h⟩ := sOk_at5 N h
  refine loopL (Λ := sOk_L N) sOk_b5 ?_ N hk ((sOk_loop5 N k v5x0 v5x1 v5x2 v5x3 N v5x0 v5x1 v5x2 v5x3).trans h)
  rw [sOk_in5]
  exact fun _ h => nomatch h
def sOk_run (N : Nat) (l : List (List UInt8 × Int)) (c : Int) : Option Rs := (bif (decide (c < (0 : Int))) then (some ((AV.bool false), ([] : (List (Ob))))) else (bif (decide ((60000 : Int) < c)) then (some ((AV.bool false), ([] : (List (Ob))))) else (bif (decide (((List.length l) : Int) < (1 : Int))) then (some ((AV.bool false), ([] : (List (Ob))))) else (bif (decide ((40 : Int) < ((List.length l) : Int))) then (some ((AV.bool false), ([] : (List (Ob))))) else (sOk_F5 N c (0 : Int) l c (some ((AV.bool false), ([] : (List (Ob))))) (some ((AV.bool true), ([] : (List (Ob))))))))))
theorem sOk_runL (N : Nat) (l : List (List UInt8 × Int)) (c : Int) : runL Kx noS sOk_O (sOk_L N) Try.f7 ([.agg [.sh (.pair .str (.int .i64)) l, .int .i64 c]]) ([]) = sOk_run N l c := by kernel_rfl
theorem sOk_body : Try.f7.body = some (codeOf Try.f7) := by kernel_rfl
theorem sOk_loops : loops (codeOf Try.f7) = [sOk_b5] := by kernel_rfl
theorem sOk_ev (N : Nat) (l : List (List UInt8 × Int)) (c : Int) {r : Rs} (h : sOk_run N l c = some r) : ∃ n, runF Kx noS sOk_O n Try.f7 ([.agg [.sh (.pair .str (.int .i64)) l, .int .i64 c]]) ([]) = some r :=
  ⟨N, runL_runF sOk_body (by rw [sOk_loops]; exact List.forall_mem_cons.2 ⟨sOk_ok5 N, fun _ h => nomatch h⟩) ((sOk_runL N l c).trans h)⟩
def sOk_sOf (φ : (List (List UInt8 × Int)) → Int → Br) : List AV → List Ob → Br
  | [.agg [.sh (.pair .str (.int .i64)) l, .int .i64 c]], [] => φ l c
  | _, _ => .fail
theorem sOk_okOf {φ : (List (List UInt8 × Int)) → Int → Br} (fu : (List (List UInt8 × Int)) → Int → Nat) (hv : ∀ l c r, (φ l c).val = some r → sOk_run (fu l c) l c = some r) : Sound Kx 7 (sOk_sOf φ) := by
  refine sound_run (C := noS) (O := sOk_O) KOk (sound_no Kx) Try.func7 (by kernel_rfl) fun args objs res os h => ?_
  unfold sOk_sOf at h
  split at h
  · exact sOk_ev _ _ _ (hv _ _ _ h)
  · cases h

/-! (impl.Store).used -/
def used_O : Opt := { cons := [], keepNil := false, mutF := [], live := [(3, [3, 7, 8, 9])], outs := [(3, [2, 3])] }
def used_T3 (v3x0 : Int) (v3x1 : (List ((List UInt8) × Int))) (v3x2 : Int) (v3x3 : Int) (kR3 : Int → (List ((List UInt8) × Int)) → Int → Int → Option Rs) (k3e0 : Int → Option Rs) : Option Rs :=
  (bif (decide (v3x3 < v3x2)) then (bif (decide ((0 : Int) ≤ v3x3)) then (bif (decide (v3x3 < ((List.length v3x1) : Int))) then (kR3 (wrap64 (v3x0 + ((List.length (List.getD v3x1 (Int.toNat v3x3) (([] : (List UInt8)), (0 : Int))).1) : Int))) v3x1 v3x2 (wrap64 (v3x3 + (1 : Int)))) else (none)) else (none)) else (k3e0 v3x0))
def used_F3 : Nat → Int → (List ((List UInt8) × Int)) → Int → Int → (Int → Option Rs) → Option Rs
  | 0, _, _, _, _, _ => none
  | n + 1, v3x0, v3x1, v3x2, v3x3, k3e0 => used_T3 v3x0 v3x1 v3x2 v3x3 (fun v3x0 v3x1 v3x2 v3x3 => used_F3 n v3x0 v3x1 v3x2 v3x3 k3e0) k3e0
def used_h3 (v3x0 : Int) (v3x1 : (List ((List UInt8) × Int))) (v3x2 : Int) (v3x3 : Int) : St := (St.mk (slots 0 20 [(3, (AV.int .i64 v3x0)), (7, (AV.sh (Ty.pair Ty.str (Ty.int .i64)) v3x1)), (8, (AV.int .i64 v3x2)), (9, (AV.int .i64 v3x3))]) ([] : (List (Nat × (Ob)))))
def used_x3e0 (x3x0x0 : Int) : St := (St.mk (slots 0 20 [(3, (AV.int .i64 x3x0x0))]) ([] : (List (Nat × (Ob)))))
noncomputable def used_b3 : Code := codeAt (codeOf Try.f38) [1, 1, 0, 1, 0, 0]
def used_L3 (N : Nat) (st : St) (k : Ex → St → Option Rs) : Option Rs := match takeF [3, 7, 8, 9] 0 20 st.env, st.objs with
  | some [.int .i64 v3x0, .sh (Ty.pair Ty.str (Ty.int .i64)) v3x1, .int .i64 v3x2, .int .i64 v3x3], [] => used_F3 N v3x0 v3x1 v3x2 v3x3 (fun x3x0x0 => k (Ex.exit (0 : Nat)) (used_x3e0 x3x0x0))
  | _, _ => none
def used_L (N : Nat) : Lam := fun j st k => match j with
  | 3 => used_L3 N st k
  | _ => none
theorem used_round3 (N : Nat) (again : St → Option Rs) (k : Ex → St → Option Rs) (wv3x0 : Int) (wv3x1 : (List ((List UInt8) × Int))) (wv3x2 : Int) (wv3x3 : Int) (v3x0 : Int) (v3x1 : (List ((List UInt8) × Int))) (v3x2 : Int) (v3x3 : Int) :
    roundK 0 (fun st k => evL Kx noS used_O 0 (used_L N) used_b3 st k) (used_h3 wv3x0 wv3x1 wv3x2 wv3x3).env again (used_h3 v3x0 v3x1 v3x2 v3x3) (outK used_O 0 used_b3 k) = used_T3 v3x0 v3x1 v3x2 v3x3 (fun v3x0 v3x1 v3x2 v3x3 => again (used_h3 v3x0 v3x1 v3x2 v3x3)) (fun x3x0x0 => k (Ex.exit (0 : Nat)) (used_x3e0 x3x0x0)) := by kernel_rfl
theorem used_loop3 (N : Nat) (k : Ex → St → Option Rs) (wv3x0 : Int) (wv3x1 : (List ((List UInt8) × Int))) (wv3x2 : Int) (wv3x3 : Int) : ∀ (n : Nat) (v3x0 : Int) (v3x1 : (List ((List UInt8) × Int))) (v3x2 : Int) (v3x3 : Int),
    loopK 0 (fun st k => evL Kx noS used_O 0 (used_L N) used_b3 st k) (used_h3 wv3x0 wv3x1 wv3x2 wv3x3).env n (used_h3 v3x0 v3x1 v3x2 v3x3) (outK used_O 0 used_b3 k) = used_F3 n v3x0 v3x1 v3x2 v3x3 (fun x3x0x0 => k (Ex.exit (0 : Nat)) (used_x3e0 x3x0x0))
  | 0, _, _, _, _ => rfl
  | n + 1, v3x0, v3x1, v3x2, v3x3 => by
    rw [loopK_succ, used_round3]
    simp only [used_loop3 N k wv3x0 wv3x1 wv3x2 wv3x3 n]
    rfl
theorem used_at3 (N : Nat) {s : St} {k : Ex → St → Option Rs} {r : Rs} (h : used_L3 N s k = some r) : ∃ (v3x0 : Int) (v3x1 : (List ((List UInt8) × Int))) (v3x2 : Int) (v3x3 : Int), s = (used_h3 v3x0 v3x1 v3x2 v3x3) ∧ used_F3 N v3x0 v3x1 v3x2 v3x3 (fun x3x0x0 => k (Ex.exit (0 : Nat)) (used_x3e0 x3x0x0)) = some r := by
  cases s with | mk env objs =>
  unfold used_L3 at h
  split at h
  · rename_i e1 e2
    have e3 := takeF_slots _ _ _ _ e1
    simp only at e2 e3
    subst e2 e3
    exact ⟨_, _, _, _, rfl, h⟩
  · cases h
theorem used_in3 : loops used_b3 = [] := by kernel_rfl
theorem used_lid3 : lid used_b3 = 3 := by kernel_rfl
theorem used_ok3 (N : Nat) : OkL Kx noS used_O 0 N (used_L N) used_b3 := by
  intro s k k' r hk h
  rw [used_lid3] at h
  obtain ⟨v3x0, v3x1, v3x2, v3x3, rfl, h⟩ := used_at3 N h
  refine loopL (Λ := used_L N) used_b3 ?_ N hk ((used_loop3 N k v3x0 v3x1 v3x2 v3x3 N v3x0 v3x1 v3x2 v3x3).trans h)
  rw [used_in3]
  exact fun _ h => nomatch h
def used_run (N : Nat) (l : List (List UInt8 × Int)) (c : Int) : Option Rs := (used_F3 N (0 : Int) l ((List.length l) : Int) (0 : Int) (fun x3x0x0 => (some ((AV.int .i64 x3x0x0), ([] : (List (Ob)))))))
theorem used_runL (N : Nat) (l : List (List UInt8 × Int)) (c : Int) : runL Kx noS used_O (used_L N) Try.f38 ([.agg [.sh (.pair .str (.int .i64)) l, .int .i64 c]]) ([]) = used_run N l c := by kernel_rfl
theorem used_body : Try.f38.body = some (codeOf Try.f38) := by kernel_rfl
theorem used_loops : loops (codeOf Try.f38) = [used_b3] := by kernel_rfl
theorem used_ev (N : Nat) (l : List (List UInt8 × Int)) (c : Int) {r : Rs} (h : used_run N l c = some r) : ∃ n, runF Kx noS used_O n Try.f38 ([.agg [.sh (.pair .str (.int .i64)) l, .int .i64 c]]) ([]) = some r :=
  ⟨N, runL_runF used_body (by rw [used_loops]; exact List.forall_mem_cons.2 ⟨used_ok3 N, fun _ h => nomatch h⟩) ((used_runL N l c).trans h)⟩
def used_sOf (φ : (List (List UInt8 × Int)) → Int → Br) : List AV → List Ob → Br
  | [.agg [.sh (.pair .str (.int .i64)) l, .int .i64 c]], [] => φ l c
  | _, _ => .fail
theorem used_okOf {φ : (List (List UInt8 × Int)) → Int → Br} (fu : (List (List UInt8 × Int)) → Int → Nat) (hv : ∀ l c r, (φ l c).val = some r → used_run (fu l c) l c = some r) : Sound Kx 38 (used_sOf φ) := by
  refine sound_run (C := noS) (O := used_O) KOk (sound_no Kx) Try.func38 (by kernel_rfl) fun args objs res os h => ?_
  unfold used_sOf at h
  split at h
  · exact used_ev _ _ _ (hv _ _ _ h)
  · cases h

/-! spec.l4copy -/
def copy_O : Opt := { cons := [], keepNil := false, mutF := [], live := [], outs := [] }
def copy_br (l : List (List UInt8 × Int)) (c : Int) : Br := (Br.ite (decide ((((0 : Nat) + (List.length l)) * (24 : Nat)) ≤ (140737488355328 : Nat))) (Br.ret (AV.agg ((AV.ref (0 : Nat) (0 : Nat)) :: ((AV.int .i64 c) :: ([] : (List (AV)))))) ((Ob.arr (Ty.pair Ty.str (Ty.int .i64)) (0 : Nat) false ((List.replicate (0 : Nat) (([] : (List UInt8)), (0 : Int))) ++ l)) :: ([] : (List (Ob))))) Br.fail)
theorem copy_run (l : List (List UInt8 × Int)) (c : Int) : runF Kx noS copy_O 1 Try.f41 ([.agg [.sh (.pair .str (.int .i64)) l, .int .i64 c]]) ([]) = (copy_br l c).val := by kernel_rfl
def copy_s : List AV → List Ob → Br
  | [.agg [.sh (.pair .str (.int .i64)) l, .int .i64 c]], [] => copy_br l c
  | _, _ => .fail
theorem copy_ok : Sound Kx 41 copy_s := by
  refine sound_run (C := noS) (O := copy_O) KOk (sound_no Kx) Try.func41 (by kernel_rfl) fun args objs res os h => ?_
  unfold copy_s at h
  split at h
  · exact ⟨1, (copy_run _ _).trans h⟩
  · cases h

/-! (impl.Store).own -/
def own_O : Opt := { cons := [], keepNil := false, mutF := [], live := [], outs := [] }
def own_br (l : List (List UInt8 × Int)) (c : Int) : Br := (Br.ite (decide ((((0 : Nat) + (List.length l)) * (24 : Nat)) ≤ (140737488355328 : Nat))) (Br.ite (decide ((0 : Int) ≤ (wrap64 (((List.length ((List.replicate (0 : Nat) (([] : (List UInt8)), (0 : Int))) ++ l)) : Int) - (1 : Int))))) (Br.ite (decide ((wrap64 (((List.length ((List.replicate (0 : Nat) (([] : (List UInt8)), (0 : Int))) ++ l)) : Int) - (1 : Int))) < ((List.length ((List.replicate (0 : Nat) (([] : (List UInt8)), (0 : Int))) ++ l)) : Int))) (Br.ret (AV.tup ((AV.agg ((AV.ref (0 : Nat) (0 : Nat)) :: ((AV.int .i64 c) :: ([] : (List (AV)))))) :: ((AV.eptr (0 : Nat) (0 : Nat) (wrap64 (((List.length ((List.replicate (0 : Nat) (([] : (List UInt8)), (0 : Int))) ++ l)) : Int) - (1 : Int))) (0 : Nat)) :: ([] : (List (AV)))))) ((Ob.arr (Ty.pair Ty.str (Ty.int .i64)) (0 : Nat) false ((List.replicate (0 : Nat) (([] : (List UInt8)), (0 : Int))) ++ l)) :: ([] : (List (Ob))))) Br.fail) Br.fail) Br.fail)
theorem own_run (l : List (List UInt8 × Int)) (c : Int) : runF Kx noS own_O 1 Try.f26 ([.agg [.sh (.pair .str (.int .i64)) l, .int .i64 c]]) ([]) = (own_br l c).val := by kernel_rfl
def own_s : List AV → List Ob → Br
  | [.agg [.sh (.pair .str (.int .i64)) l, .int .i64 c]], [] => own_br l c
  | _, _ => .fail
theorem own_ok : Sound Kx 26 own_s := by
  refine sound_run (C := noS) (O := own_O) KOk (sound_no Kx) Try.func26 (by kernel_rfl) fun args objs res os h => ?_
  unfold own_s at h
  split at h
  · exact ⟨1, (own_run _ _).trans h⟩
  · cases h

/-! (impl.Store).last -/
def last_O : Opt := { cons := [], keepNil := false, mutF := [], live := [], outs := [] }
def last_br (l : List (List UInt8 × Int)) (c : Int) : Br := (Br.ite (decide ((0 : Int) ≤ (wrap64 (((List.length l) : Int) - (1 : Int))))) (Br.ite (decide ((wrap64 (((List.length l) : Int) - (1 : Int))) < ((List.length l) : Int))) (Br.ret (AV.agg ((AV.str (List.getD l (Int.toNat (wrap64 (((List.length l) : Int) - (1 : Int)))) (([] : (List UInt8)), (0 : Int))).1) :: ((AV.int .i64 (List.getD l (Int.toNat (wrap64 (((List.length l) : Int) - (1 : Int)))) (([] : (List UInt8)), (0 : Int))).2) :: ([] : (List (AV)))))) ([] : (List (Ob)))) Br.fail) Br.fail)
theorem last_run (l : List (List UInt8 × Int)) (c : Int) : runF Kx noS last_O 1 Try.f30 ([.agg [.sh (.pair .str (.int .i64)) l, .int .i64 c]]) ([]) = (last_br l c).val := by kernel_rfl
def last_s : List AV → List Ob → Br
  | [.agg [.sh (.pair .str (.int .i64)) l, .int .i64 c]], [] => last_br l c
  | _, _ => .fail
theorem last_ok : Sound Kx 30 last_s := by
  refine sound_run (C := noS) (O := last_O) KOk (sound_no Kx) Try.func30 (by kernel_rfl) fun args objs res os h => ?_
  unfold last_s at h
  split at h
  · exact ⟨1, (last_run _ _).trans h⟩
  · cases h

/-! laws.szSegS -/
def szSegS_O : Opt := { cons := [], keepNil := false, mutF := [], live := [(5, [0, 1, 5])], outs := [(5, [1, 4])] }
def szSegS_T5 (v5x0 : (List ((List UInt8) × Int))) (v5x1 : Int) (v5x2 : Int) (kR5 : (List ((List UInt8) × Int)) → Int → Int → Option Rs) (k5e0 : Int → Option Rs) (k5e1 : Int → Option Rs) : Option Rs :=
  (bif (decide (v5x2 < ((List.length v5x0) : Int))) then (bif (decide ((0 : Int) ≤ v5x2)) then (bif (decide (v5x2 < ((List.length v5x0) : Int))) then (bif (decide ((wrap64 (v5x1 - ((List.length (List.getD v5x0 (Int.toNat v5x2) (([] : (List UInt8)), (0 : Int))).1) : Int))) < (0 : Int))) then (k5e0 (-(1 : Int))) else (bif (decide ((wrap64 (v5x1 - ((List.length (List.getD v5x0 (Int.toNat v5x2) (([] : (List UInt8)), (0 : Int))).1) : Int))) < (0 : Int))) then (k5e0 (wrap64 (v5x1 - ((List.length (List.getD v5x0 (Int.toNat v5x2) (([] : (List UInt8)), (0 : Int))).1) : Int)))) else (kR5 v5x0 (wrap64 (v5x1 - ((List.length (List.getD v5x0 (Int.toNat v5x2) (([] : (List UInt8)), (0 : Int))).1) : Int))) (wrap64 (v5x2 + (1 : Int)))))) else (none)) else (none)) else (k5e1 v5x1))
def szSegS_F5 : Nat → (List ((List UInt8) × Int)) → Int → Int → (Int → Option Rs) → (Int → Option Rs) → Option Rs
  | 0, _, _, _, _, _ => none
  | n + 1, v5x0, v5x1, v5x2, k5e0, k5e1 => szSegS_T5 v5x0 v5x1 v5x2 (fun v5x0 v5x1 v5x2 => szSegS_F5 n v5x0 v5x1 v5x2 k5e0 k5e1) k5e0 k5e1
def szSegS_h5 (v5x0 : (List ((List UInt8) × Int))) (v5x1 : Int) (v5x2 : Int) : St := (St.mk (slots 0 27 [(0, (AV.sh (Ty.pair Ty.str (Ty.int .i64)) v5x0)), (1, (AV.int .i64 v5x1)), (5, (AV.int .i64 v5x2))]) ([] : (List (Nat × (Ob)))))
def szSegS_x5e0 (x5x0x0 : Int) : St := (St.mk (slots 0 27 [(1, (AV.int .i64 x5x0x0)), (4, (AV.int .i64 (-(1 : Int))))]) ([] : (List (Nat × (Ob)))))
def szSegS_x5e1 (x5x1x0 : Int) : St := (St.mk (slots 0 27 [(1, (AV.int .i64 x5x1x0))]) ([] : (List (Nat × (Ob)))))
def szSegS_L5 (N : Nat) (st : St) (k : Ex → St → Option Rs) : Option Rs := match takeF [0, 1, 5] 0 27 st.env, st.objs with
  | some [.sh (Ty.pair Ty.str (Ty.int .i64)) v5x0, .int .i64 v5x1, .int .i64 v5x2], [] => szSegS_F5 N v5x0 v5x1 v5x2 (fun x5x0x0 => k Ex.ret (szSegS_x5e0 x5x0x0)) (fun x5x1x0 => k (Ex.exit (0 : Nat)) (szSegS_x5e1 x5x1x0))
  | _, _ => none
def szSegS_L (N : Nat) : Lam := fun j st k => match j with
  | 5 => szSegS_L5 N st k
  | _ => none
theorem szSegS_at5 (N : Nat) {s : St} {k : Ex → St → Option Rs} {r : Rs} (h : szSegS_L5 N s k = some r) : ∃ (v5x0 : (List ((List UInt8) × Int))) (v5x1 : Int) (v5x2 : Int), s = (szSegS_h5 v5x0 v5x1 v5x2) ∧ szSegS_F5 N v5x0 v5x1 v5x2 (fun x5x0x0 => k Ex.ret (szSegS_x5e0 x5x0x0)) (fun x5x1x0 => k (Ex.exit (0 : Nat)) (szSegS_x5e1 x5x1x0)) = some r := by
  cases s with | mk env objs =>
  unfold szSegS_L5 at h
  split at h
  · rename_i e1 e2
    have e3 := takeF_slots _ _ _ _ e1
    simp only at e2 e3
    subst e2 e3
    exact ⟨_, _, _, rfl, h⟩
  · cases h
def szSegS_run (N : Nat) (l : List (List UInt8 × Int)) (left : Int) : Option Rs := (bif (decide ((wrap64 (left - ((List.length l) : Int))) < (0 : Int))) then (some ((AV.int .i64 (-(1 : Int))), ([] : (List (Ob))))) else (szSegS_F5 N l (wrap64 (left - ((List.length l) : Int))) (0 : Int) (fun x5x0x0 => (some ((AV.int .i64 (-(1 : Int))), ([] : (List (Ob)))))) (fun x5x1x0 => (some ((AV.int .i64 x5x1x0), ([] : (List (Ob))))))))
def szSegS_sOf (φ : (List (List UInt8 × Int)) → Int → Br) : List AV → List Ob → Br
  | [.sh (.pair .str (.int .i64)) l, .int .i64 left], [] => φ l left
  | _, _ => .fail
/-! laws.toSegS -/
def toSegS_O : Opt := { cons := [], keepNil := false, mutF := [], live := [(3, [0, 3, 4])], outs := [(3, [2, 3])] }
def toSegS_T3 (v3x0 : (List ((List UInt8) × Int))) (v3x1 : Int) (v3x2 : (List ((List UInt8) × Int))) (kR3 : (List ((List UInt8) × Int)) → Int → (List ((List UInt8) × Int)) → Option Rs) (k3e0 : (List ((List UInt8) × Int)) → Option Rs) : Option Rs :=
  (bif (decide (v3x1 < ((List.length v3x0) : Int))) then (bif (decide ((0 : Int) ≤ v3x1)) then (bif (decide (v3x1 < ((List.length v3x0) : Int))) then (bif (decide ((0 : Int) ≤ v3x1)) then (bif (decide (v3x1 < ((List.length v3x2) : Int))) then (kR3 v3x0 (wrap64 (v3x1 + (1 : Int))) (List.set v3x2 (Int.toNat v3x1) ((List.getD v3x0 (Int.toNat v3x1) (([] : (List UInt8)), (0 : Int))).1, (List.getD v3x0 (Int.toNat v3x1) (([] : (List UInt8)), (0 : Int))).2))) else (none)) else (none)) else (none)) else (none)) else (k3e0 v3x2))
def toSegS_F3 : Nat → (List ((List UInt8) × Int)) → Int → (List ((List UInt8) × Int)) → ((List ((List UInt8) × Int)) → Option Rs) → Option Rs
  | 0, _, _, _, _ => none
  | n + 1, v3x0, v3x1, v3x2, k3e0 => toSegS_T3 v3x0 v3x1 v3x2 (fun v3x0 v3x1 v3x2 => toSegS_F3 n v3x0 v3x1 v3x2 k3e0) k3e0
def toSegS_h3 (v3x0 : (List ((List UInt8) × Int))) (v3x1 : Int) (v3x2 : (List ((List UInt8) × Int))) : St := (St.mk (slots 0 23 [(0, (AV.sh (Ty.pair Ty.str (Ty.int .i64)) v3x0)), (3, (AV.ref (256 : Nat) (0 : Nat))), (4, (AV.int .i64 v3x1))]) (((256 : Nat), (Ob.arr (Ty.pair Ty.str (Ty.int .i64)) (0 : Nat) false v3x2)) :: ([] : (List (Nat × (Ob))))))
def toSegS_x3e0 (x3x0x0 : (List ((List UInt8) × Int))) : St := (St.mk (slots 0 23 [(3, (AV.ref (256 : Nat) (0 : Nat)))]) (((256 : Nat), (Ob.arr (Ty.pair Ty.str (Ty.int .i64)) (0 : Nat) false x3x0x0)) :: ([] : (List (Nat × (Ob))))))
def toSegS_L3 (N : Nat) (st : St) (k : Ex → St → Option Rs) : Option Rs := match takeF [0, 3, 4] 0 23 st.env, st.objs with
  | some [.sh (Ty.pair Ty.str (Ty.int .i64)) v3x0, .ref 256 0, .int .i64 v3x1], [(256, .arr (Ty.pair Ty.str (Ty.int .i64)) 0 false v3x2)] => toSegS_F3 N v3x0 v3x1 v3x2 (fun x3x0x0 => k (Ex.exit (0 : Nat)) (toSegS_x3e0 x3x0x0))
  | _, _ => none
def toSegS_L (N : Nat) : Lam := fun j st k => match j with
  | 3 => toSegS_L3 N st k
  | _ => none
theorem toSegS_at3 (N : Nat) {s : St} {k : Ex → St → Option Rs} {r : Rs} (h : toSegS_L3 N s k = some r) : ∃ (v3x0 : (List ((List UInt8) × Int))) (v3x1 : Int) (v3x2 : (List ((List UInt8) × Int))), s = (toSegS_h3 v3x0 v3x1 v3x2) ∧ toSegS_F3 N v3x0 v3x1 v3x2 (fun x3x0x0 => k (Ex.exit (0 : Nat)) (toSegS_x3e0 x3x0x0)) = some r := by
  cases s with | mk env objs =>
  unfold toSegS_L3 at h
  split at h
  · rename_i e1 e2
    have e3 := takeF_slots _ _ _ _ e1
    simp only at e2 e3
    subst e2 e3
    exact ⟨_, _, _, rfl, h⟩
  · cases h
def toSegS_run (N : Nat) (l : List (List UInt8 × Int)) : Option Rs := (bif (decide ((0 : Int) ≤ ((List.length l) : Int))) then (bif (decide (((List.length l) : Int) = ((List.length l) : Int))) then (bif (decide ((((List.length l) : Int) * (24 : Int)) ≤ (140737488355328 : Int))) then (toSegS_F3 N l (0 : Int) (List.replicate (Int.toNat ((List.length l) : Int)) (([] : (List UInt8)), (0 : Int))) (fun x3x0x0 => (some ((AV.ref (0 : Nat) (0 : Nat)), ((Ob.arr (Ty.pair Ty.str (Ty.int .i64)) (0 : Nat) false x3x0x0) :: ([] : (List (Ob)))))))) else (none)) else (none)) else (none))
def toSegS_sOf (φ : (List (List UInt8 × Int)) → Br) : List AV → List Ob → Br
  | [.sh (.pair .str (.int .i64)) l], [] => φ l
  | _, _ => .fail
/-! laws.eqSegS -/
def eqSegS_O : Opt := { cons := [], keepNil := false, mutF := [], live := [(4, [0, 1, 5])], outs := [(4, [4])] }
def eqSegS_T4 (v4x0 : (List ((List UInt8) × Int))) (v4x1 : (List ((List UInt8) × Int))) (v4x2 : Int) (kR4 : (List ((List UInt8) × Int)) → (List ((List UInt8) × Int)) → Int → Option Rs) (k4e0 : Option Rs) (k4e1 : Option Rs) : Option Rs :=
  (bif (decide (v4x2 < ((List.length v4x0) : Int))) then (bif (decide ((0 : Int) ≤ v4x2)) then (bif (decide (v4x2 < ((List.length v4x0) : Int))) then (bif (decide ((0 : Int) ≤ v4x2)) then (bif (decide (v4x2 < ((List.length v4x1) : Int))) then (bif (!(decide ((List.getD v4x0 (Int.toNat v4x2) (([] : (List UInt8)), (0 : Int))).1 = (List.getD v4x1 (Int.toNat v4x2) (([] : (List UInt8)), (0 : Int))).1))) then k4e0 else (bif (!(decide ((List.getD v4x0 (Int.toNat v4x2) (([] : (List UInt8)), (0 : Int))).2 = (List.getD v4x1 (Int.toNat v4x2) (([] : (List UInt8)), (0 : Int))).2))) then k4e0 else (kR4 v4x0 v4x1 (wrap64 (v4x2 + (1 : Int)))))) else (none)) else (none)) else (none)) else (none)) else k4e1)
def eqSegS_F4 : Nat → (List ((List UInt8) × Int)) → (List ((List UInt8) × Int)) → Int → (Option Rs) → (Option Rs) → Option Rs
  | 0, _, _, _, _, _ => none
  | n + 1, v4x0, v4x1, v4x2, k4e0, k4e1 => eqSegS_T4 v4x0 v4x1 v4x2 (fun v4x0 v4x1 v4x2 => eqSegS_F4 n v4x0 v4x1 v4x2 k4e0 k4e1) k4e0 k4e1
def eqSegS_h4 (v4x0 : (List ((List UInt8) × Int))) (v4x1 : (List ((List UInt8) × Int))) (v4x2 : Int) : St := (St.mk (slots 0 27 [(0, (AV.sh (Ty.pair Ty.str (Ty.int .i64)) v4x0)), (1, (AV.sh (Ty.pair Ty.str (Ty.int .i64)) v4x1)), (5, (AV.int .i64 v4x2))]) ([] : (List (Nat × (Ob)))))
def eqSegS_x4e0  : St := (St.mk (slots 0 27 [(4, (AV.bool false))]) ([] : (List (Nat × (Ob)))))
def eqSegS_x4e1  : St := (St.mk (slots 0 27 []) ([] : (List (Nat × (Ob)))))
def eqSegS_L4 (N : Nat) (st : St) (k : Ex → St → Option Rs) : Option Rs := match takeF [0, 1, 5] 0 27 st.env, st.objs with
  | some [.sh (Ty.pair Ty.str (Ty.int .i64)) v4x0, .sh (Ty.pair Ty.str (Ty.int .i64)) v4x1, .int .i64 v4x2], [] => eqSegS_F4 N v4x0 v4x1 v4x2 (k Ex.ret (eqSegS_x4e0)) (k (Ex.exit (0 : Nat)) (eqSegS_x4e1))
  | _, _ => none
def eqSegS_L (N : Nat) : Lam := fun j st k => match j with
  | 4 => eqSegS_L4 N st k
  | _ => none
theorem eqSegS_at4 (N : Nat) {s : St} {k : Ex → St → Option Rs} {r : Rs} (h : eqSegS_L4 N s k = some r) : ∃ (v4x0 : (List ((List UInt8) × Int))) (v4x1 : (List ((List UInt8) × Int))) (v4x2 : Int), s = (eqSegS_h4 v4x0 v4x1 v4x2) ∧ eqSegS_F4 N v4x0 v4x1 v4x2 (k Ex.ret (eqSegS_x4e0)) (k (Ex.exit (0 : Nat)) (eqSegS_x4e1)) = some r := by
  cases s with | mk env objs =>
  unfold eqSegS_L4 at h
  split at h
  · rename_i e1 e2
    have e3 := takeF_slots _ _ _ _ e1
    simp only at e2 e3
    subst e2 e3
    exact ⟨_, _, _, rfl, h⟩
  · cases h
def eqSegS_run (N : Nat) (l l' : List (List UInt8 × Int)) : Option Rs := (bif (!(decide (((List.length l) : Int) = ((List.length l') : Int)))) then (some ((AV.bool false), ([] : (List (Ob))))) else (eqSegS_F4 N l l' (0 : Int) (some ((AV.bool false), ([] : (List (Ob))))) (some ((AV.bool true), ([] : (List (Ob)))))))
def eqSegS_sOf (φ : (List (List UInt8 × Int)) → (List (List UInt8 × Int)) → Br) : List AV → List Ob → Br
  | [.sh (.pair .str (.int .i64)) l, .sh (.pair .str (.int .i64)) l'], [] => φ l l'
  | _, _ => .fail
/-! laws.markText -/
def markText_O : Opt := { cons := [], keepNil := false, mutF := [], live := [(4, [0, 3])], outs := [(4, [2, 3])] }
def markText_T4 (v4x0 : Int) (v4x1 : (List UInt8)) (kR4 : Int → (List UInt8) → Option Rs) (k4e0 : (List UInt8) → Option Rs) : Option Rs :=
  (bif (decide ((0 : Int) < v4x0)) then (bif (decide (((((List.length (ofBytes (List.set (List.replicate (1 : Nat) (0 : Int)) (0 : Nat) ((wrap64 ((48 : Int) + (Int.tmod v4x0 (10 : Int)))) % (256 : Int))))) + (List.length v4x1)) : Nat) : Int) ≤ (9223372036854775807 : Int))) then (kR4 (wrap64 (Int.tdiv v4x0 (10 : Int))) ((ofBytes (List.set (List.replicate (1 : Nat) (0 : Int)) (0 : Nat) ((wrap64 ((48 : Int) + (Int.tmod v4x0 (10 : Int)))) % (256 : Int)))) ++ v4x1)) else (none)) else (k4e0 v4x1))
def markText_F4 : Nat → Int → (List UInt8) → ((List UInt8) → Option Rs) → Option Rs
  | 0, _, _, _ => none
  | n + 1, v4x0, v4x1, k4e0 => markText_T4 v4x0 v4x1 (fun v4x0 v4x1 => markText_F4 n v4x0 v4x1 k4e0) k4e0
def markText_h4 (v4x0 : Int) (v4x1 : (List UInt8)) : St := (St.mk (slots 0 20 [(0, (AV.int .i64 v4x0)), (3, (AV.str v4x1))]) ([] : (List (Nat × (Ob)))))
def markText_x4e0 (x4x0x0 : (List UInt8)) : St := (St.mk (slots 0 20 [(3, (AV.str x4x0x0))]) ([] : (List (Nat × (Ob)))))
def markText_L4 (N : Nat) (st : St) (k : Ex → St → Option Rs) : Option Rs := match takeF [0, 3] 0 20 st.env, st.objs with
  | some [.int .i64 v4x0, .str v4x1], [] => markText_F4 N v4x0 v4x1 (fun x4x0x0 => k (Ex.exit (0 : Nat)) (markText_x4e0 x4x0x0))
  | _, _ => none
def markText_L (N : Nat) : Lam := fun j st k => match j with
  | 4 => markText_L4 N st k
  | _ => none
theorem markText_at4 (N : Nat) {s : St} {k : Ex → St → Option Rs} {r : Rs} (h : markText_L4 N s k = some r) : ∃ (v4x0 : Int) (v4x1 : (List UInt8)), s = (markText_h4 v4x0 v4x1) ∧ markText_F4 N v4x0 v4x1 (fun x4x0x0 => k (Ex.exit (0 : Nat)) (markText_x4e0 x4x0x0)) = some r := by
  cases s with | mk env objs =>
  unfold markText_L4 at h
  split at h
  · rename_i e1 e2
    have e3 := takeF_slots _ _ _ _ e1
    simp only at e2 e3
    subst e2 e3
    exact ⟨_, _, rfl, h⟩
  · cases h
def markText_run (N : Nat) (k : Int) : Option Rs := (bif (decide (k ≤ (0 : Int))) then (some ((AV.str ((109 : UInt8) :: ((48 : UInt8) :: ([] : (List UInt8))))), ([] : (List (Ob))))) else (markText_F4 N k ([] : (List UInt8)) (fun x4x0x0 => (bif (decide (((((1 : Nat) + (List.length x4x0x0)) : Nat) : Int) ≤ (9223372036854775807 : Int))) then (some ((AV.str (((109 : UInt8) :: ([] : (List UInt8))) ++ x4x0x0)), ([] : (List (Ob))))) else (none)))))
def markText_sOf (φ : Int → Br) : List AV → List Ob → Br
  | [.int .i64 k], [] => φ k
  | _, _ => .fail
end Go.Proofs.Ytmigffdeghfbhaa.Ev

namespace Go.Proofs.Ytmigffdeghfbhaa.Ev
open Go Go.RowKit
set_option linter.unusedVariables false
set_option linter.unusedSimpArgs false

abbrev Segs := List (List UInt8 × Int)

theorem w64 {n : Int} (h1 : -9223372036854775808 ≤ n) (h2 : n ≤ 9223372036854775807) : wrap64 n = n := by unfold wrap64; omega
theorem getD_mid {α : Type} (pre : List α) (a : α) (r : List α) (d : α) : (pre ++ a :: r).getD pre.length d = a := by simp [List.getD_eq_getElem?_getD]
theorem next_len {α : Type} (pre : List α) (a : α) (h : pre.length < 4611686018427387904) : wrap64 ((pre.length : Int) + 1) = ((pre ++ [a]).length : Int) := by
  rw [w64 (by omega) (by omega)]; simp
theorem cat_one {α : Type} (pre : List α) (a : α) (r : List α) : pre ++ a :: r = (pre ++ [a]) ++ r := by simp

/-- All bytes of some segments. -/
def total : Segs → Nat
  | [] => 0
  | a :: r => a.1.length + total r

/-! used -/
theorem used_loop (c : Int) (k : Int → Option Rs) : ∀ (r pre : Segs) (n : Nat) (acc : Int), r.length < n → (pre ++ r).length ≤ 281474976710656 → 0 ≤ acc → acc + total r ≤ 4611686018427387904 →
    used_F3 n acc (pre ++ r) ((pre ++ r).length : Int) (pre.length : Int) k = k (acc + total r)
  | [], pre, n + 1, acc, hn, hl, ha, ht => by
    unfold used_F3 used_T3
    simp [total]
  | a :: r, pre, n + 1, acc, hn, hl, ha, ht => by
    have hlen : (pre ++ a :: r).length = pre.length + r.length + 1 := by simp; omega
    have e1 : decide ((pre.length : Int) < ((pre ++ a :: r).length : Int)) = true := by rw [hlen]; simp; omega
    have e2 : decide ((0 : Int) ≤ (pre.length : Int)) = true := by simp
    unfold used_F3 used_T3
    simp only [e1, e2, cond_true, Int.toNat_natCast, getD_mid]
    simp only [total] at ht
    rw [next_len pre a (by omega), w64 (by omega) (by omega)]
    conv => lhs; rw [cat_one]
    rw [used_loop c k r (pre ++ [a]) n _ (by simp at hn; omega) (by rw [← cat_one]; exact hl) (by omega) (by omega)]
    simp only [total]
    congr 1
    push_cast
    omega
def used_br (l : Segs) (c : Int) : Br := .ite (decide (l.length ≤ 281474976710656) && decide (total l ≤ 4611686018427387904)) (.ret (.int .i64 (total l)) []) .fail
def used_s := used_sOf used_br
theorem used_ok : Sound Kx 38 used_s := by
  refine used_okOf (fun l _ => l.length + 1) fun l c r h => ?_
  unfold used_br at h
  simp only [Br.val] at h
  split at h
  · rename_i hb
    simp only [Bool.and_eq_true, decide_eq_true_eq] at hb
    unfold used_run
    have := used_loop c (fun x => some (AV.int .i64 x, ([] : List Ob))) l [] (l.length + 1) 0 (by omega) (by simpa using hb.1) (by omega) (by have := hb.2; omega)
    simp only [List.nil_append, List.length_nil, Int.zero_add] at this
    rw [← h]
    exact this
  · cases h

/-! spec.StoreOk -/
/-- A store's segments, the room that is left aside. -/
def shape : Segs → Bool
  | [] => true
  | a :: r => decide (0 ≤ a.2) && decide (a.2 ≤ (a.1.length : Int)) && (r.isEmpty || (!decide ((a.1.length : Int) = 0) && decide (a.2 = (a.1.length : Int)))) && shape r

/-- As spec.StoreOk goes through them. -/
def walk : Segs → Int → Bool
  | [], _ => true
  | a :: r, left => bif decide (left < (a.1.length : Int)) then false else bif decide (a.2 < 0) then false else bif decide ((a.1.length : Int) < a.2) then false else
    bif !r.isEmpty then (bif decide ((a.1.length : Int) = 0) then false else bif !decide (a.2 = (a.1.length : Int)) then false else walk r (left - a.1.length)) else walk r (left - a.1.length)
theorem walk_eq : ∀ (l : Segs) (left : Int), 0 ≤ left → walk l left = (shape l && decide ((total l : Int) ≤ left))
  | [], left, h => by simp [walk, shape, total, h]
  | a :: r, left, h => by
    have ht : (total (a :: r) : Int) = (a.1.length : Int) + total r := by simp only [total]; push_cast; rfl
    simp only [walk, shape]
    by_cases h1 : left < (a.1.length : Int)
    · have : ¬ (total (a :: r) : Int) ≤ left := by omega
      simp only [h1, this, decide_true, decide_false, cond_true, Bool.and_false]
    · have ih := walk_eq r (left - a.1.length) (by omega)
      have e : decide ((total (a :: r) : Int) ≤ left) = decide ((total r : Int) ≤ left - (a.1.length : Int)) := by congr 1; apply propext; omega
      have e1 : decide (a.2 < 0) = !decide (0 ≤ a.2) := by by_cases h : 0 ≤ a.2 <;> simp [h] <;> omega
      have e2 : decide ((a.1.length : Int) < a.2) = !decide (a.2 ≤ (a.1.length : Int)) := by by_cases h : a.2 ≤ (a.1.length : Int) <;> simp [h] <;> omega
      rw [e, ih, e1, e2]
      simp only [h1, decide_false, cond_false]
      generalize decide (0 ≤ a.2) = b1
      generalize decide (a.2 ≤ (a.1.length : Int)) = b2
      generalize decide ((a.1.length : Int) = 0) = b3
      generalize decide (a.2 = (a.1.length : Int)) = b4
      generalize decide ((total r : Int) ≤ left - (a.1.length : Int)) = b5
      generalize shape r = b6
      generalize r.isEmpty = b7
      revert b1 b2 b3 b4 b5 b6 b7
      decide
theorem sOk_loop (c : Int) (k0 k1 : Option Rs) (r : Segs) : ∀ (pre : Segs) (n : Nat) (left : Int), r.length < n → (pre ++ r).length ≤ 40 → 0 ≤ left → left ≤ 60000 →
    sOk_F5 n left (pre.length : Int) (pre ++ r) c k0 k1 = bif walk r left then k1 else k0 := by
  induction r with
  | nil =>
    intro pre n left hn hl ha ht
    obtain ⟨n, rfl⟩ : ∃ m, n = m + 1 := ⟨n - 1, by simp at hn; omega⟩
    have e1 : decide ((pre.length : Int) < ((pre ++ ([] : Segs)).length : Int)) = false := by simp
    unfold sOk_F5 sOk_T5
    simp only [e1, cond_false, walk, cond_true]
  | cons a r ihr =>
    intro pre n left hn hl ha ht
    obtain ⟨n, rfl⟩ : ∃ m, n = m + 1 := ⟨n - 1, by omega⟩
    have hlen : (pre ++ a :: r).length = pre.length + r.length + 1 := by simp; omega
    have e1 : decide ((pre.length : Int) < ((pre ++ a :: r).length : Int)) = true := by rw [hlen]; simp; omega
    have e2 : decide ((0 : Int) ≤ (pre.length : Int)) = true := by simp
    have ih := fun h1 h2 => ihr (pre ++ [a]) n (left - (a.1.length : Int)) (by simp at hn; omega) (by rw [← cat_one]; exact hl) h1 h2
    rw [← cat_one] at ih
    unfold sOk_F5 sOk_T5
    simp only [e1, e2, cond_true, Int.toNat_natCast, getD_mid]
    rw [next_len pre a (by omega)]
    have e3 : decide (((pre ++ [a]).length : Int) < ((pre ++ a :: r).length : Int)) = !r.isEmpty := by
      rw [hlen]
      cases r with
      | nil => simp
      | cons b r => simp; omega
    simp only [e3, walk]
    by_cases h1 : left < (a.1.length : Int)
    · simp only [h1, decide_true, cond_true, cond_false]
    · rw [w64 (by omega) (by omega), ih (by omega) (by omega)]
      simp only [h1, decide_false, cond_false]
      generalize decide (a.2 < 0) = b1
      generalize decide ((a.1.length : Int) < a.2) = b2
      generalize decide ((a.1.length : Int) = 0) = b3
      generalize decide (a.2 = (a.1.length : Int)) = b4
      generalize r.isEmpty = b7
      generalize walk r (left - (a.1.length : Int)) = b8
      cases b1 <;> cases b2 <;> cases b3 <;> cases b4 <;> cases b7 <;> rfl

/-- Is it a store? -/
def okStore (l : Segs) (c : Int) : Bool := decide (0 ≤ c) && decide (c ≤ 60000) && decide (1 ≤ l.length) && decide (l.length ≤ 40) && (shape l && decide ((total l : Int) ≤ c))
def sOk_br (l : Segs) (c : Int) : Br := .ret (.bool (okStore l c)) []
def sOk_s := sOk_sOf sOk_br
theorem sOk_ok : Sound Kx 7 sOk_s := by
  refine sOk_okOf (fun l _ => l.length + 1) fun l c r h => ?_
  cases h
  unfold sOk_run okStore
  by_cases h1 : c < 0
  · have : ¬ 0 ≤ c := by omega
    simp [h1, this]
  · by_cases h2 : 60000 < c
    · have : ¬ c ≤ 60000 := by omega
      simp [h1, h2, this]
    · by_cases h3 : (l.length : Int) < 1
      · have : ¬ 1 ≤ l.length := by omega
        simp [h1, h2, h3, this]
      · by_cases h4 : 40 < (l.length : Int)
        · have : ¬ l.length ≤ 40 := by omega
          simp [h1, h2, h3, h4, this]
        · have f1 : (0 : Int) ≤ c := by omega
          have f2 : c ≤ 60000 := by omega
          have f3 : 1 ≤ l.length := by omega
          have f4 : l.length ≤ 40 := by omega
          have := sOk_loop c (some (.bool false, [])) (some (.bool true, [])) l [] (l.length + 1) c (by omega) (by simpa using f4) f1 f2
          simp only [List.nil_append, List.length_nil] at this
          simp only [h1, h2, h3, h4, f1, f2, f3, f4, decide_true, decide_false, cond_true, cond_false, Bool.true_and]
          refine Eq.trans this ?_
          rw [walk_eq l c f1]
          cases shape l && decide ((total l : Int) ≤ c) <;> rfl

/-! szSegS -/
/-- What is left, or less than nothing. -/
def szs : Segs → Int → Int
  | [], left => left
  | a :: r, left => if left - a.1.length < 0 then -1 else szs r (left - a.1.length)
/-- Small enough for the machine. -/
def smS (l : Segs) : Bool := decide (l.length ≤ 281474976710656) && l.all fun a => decide (a.1.length ≤ 281474976710656)
theorem szSegS_loop (k0 k1 : Int → Option Rs) : ∀ (r pre : Segs) (n : Nat) (left : Int), r.length < n → (pre ++ r).length ≤ 281474976710656 → (∀ a ∈ r, a.1.length ≤ 281474976710656) → 0 ≤ left → left ≤ 1048576 →
    szSegS_F5 n (pre ++ r) left (pre.length : Int) k0 k1 = bif decide (szs r left < 0) then k0 (-1) else k1 (szs r left)
  | [], pre, n + 1, left, hn, hl, hm, ha, ht => by
    have : ¬ left < 0 := by omega
    unfold szSegS_F5 szSegS_T5
    simp [szs, this]
  | a :: r, pre, n + 1, left, hn, hl, hm, ha, ht => by
    have hlen : (pre ++ a :: r).length = pre.length + r.length + 1 := by simp; omega
    have e1 : decide ((pre.length : Int) < ((pre ++ a :: r).length : Int)) = true := by rw [hlen]; simp; omega
    have e2 : decide ((0 : Int) ≤ (pre.length : Int)) = true := by simp
    have ih := fun h1 h2 => szSegS_loop k0 k1 r (pre ++ [a]) n (left - (a.1.length : Int)) (by simp at hn; omega) (by rw [← cat_one]; exact hl) (fun x hx => hm x (List.mem_cons_of_mem _ hx)) h1 h2
    rw [← cat_one] at ih
    unfold szSegS_F5 szSegS_T5
    simp only [e1, e2, cond_true, Int.toNat_natCast, getD_mid]
    have hma := hm a (List.mem_cons_self ..)
    rw [next_len pre a (by omega), w64 (by omega) (by omega)]
    by_cases h1 : left - (a.1.length : Int) < 0
    · simp [h1, szs]
    · simp only [h1, decide_false, cond_false, szs, if_false]
      exact ih (by omega) (by omega)
def szOf (l : Segs) (left : Int) : Int := if left - l.length < 0 then -1 else szs l (left - l.length)
def szSegS_br (l : Segs) (left : Int) : Br := .ite (smS l && decide (0 ≤ left) && decide (left ≤ 1048576)) (.ret (.int .i64 (szOf l left)) []) .fail
def szSegS_s := szSegS_sOf szSegS_br
theorem szs_neg : ∀ (l : Segs) (left : Int), 0 ≤ left → szs l left < 0 → szs l left = -1
  | [], left, h, h1 => by simp only [szs] at h1; omega
  | a :: r, left, h, h1 => by
    simp only [szs] at h1 ⊢
    split at h1
    · rename_i h2; rw [if_pos h2]
    · rename_i h2; rw [if_neg h2]; exact szs_neg r _ (by omega) h1
/-! toSegS -/
theorem set_mid {α : Type} (pre : List α) (a b : α) (r : List α) : (pre ++ a :: r).set pre.length b = pre ++ b :: r := by simp
theorem toSegS_loop (k : Segs → Option Rs) : ∀ (r pre : Segs) (n : Nat), r.length < n → (pre ++ r).length ≤ 281474976710656 →
    toSegS_F3 n (pre ++ r) (pre.length : Int) (pre ++ List.replicate r.length ([], 0)) k = k (pre ++ r)
  | [], pre, n + 1, hn, hl => by
    unfold toSegS_F3 toSegS_T3
    simp
  | a :: r, pre, n + 1, hn, hl => by
    have hlen : (pre ++ a :: r).length = pre.length + r.length + 1 := by simp; omega
    have e1 : decide ((pre.length : Int) < ((pre ++ a :: r).length : Int)) = true := by rw [hlen]; simp; omega
    have e2 : decide ((0 : Int) ≤ (pre.length : Int)) = true := by simp
    have e3 : decide ((pre.length : Int) < ((pre ++ List.replicate (a :: r).length (([], 0) : List UInt8 × Int)).length : Int)) = true := by simp; omega
    have ih := toSegS_loop k r (pre ++ [a]) n (by simp at hn; omega) (by rw [← cat_one]; exact hl)
    rw [← cat_one, ← cat_one] at ih
    unfold toSegS_F3 toSegS_T3
    simp only [e1, e2, e3, cond_true, Int.toNat_natCast, getD_mid]
    rw [next_len pre a (by omega)]
    simp only [List.length_cons, List.replicate_succ, set_mid]
    exact ih
def segT : Ty := .pair .str (.int .i64)
def toSegS_br (l : Segs) : Br := .ite (decide (l.length ≤ 1048576)) (.ret (.ref 0 0) [.arr (.pair .str (.int .i64)) 0 false l]) .fail
def toSegS_s := toSegS_sOf toSegS_br
/-! eqSegS -/
theorem eqSegS_loop (k0 k1 : Option Rs) : ∀ (r r' pre pre' : Segs) (n : Nat), r.length < n → (pre ++ r).length ≤ 281474976710656 → pre.length = pre'.length → r.length = r'.length →
    eqSegS_F4 n (pre ++ r) (pre' ++ r') (pre.length : Int) k0 k1 = bif decide (r = r') then k1 else k0
  | [], [], pre, pre', n + 1, hn, hl, hp, hr => by
    unfold eqSegS_F4 eqSegS_T4
    simp
  | [], _ :: _, _, _, _, _, _, _, hr => by simp at hr
  | _ :: _, [], _, _, _, _, _, _, hr => by simp at hr
  | a :: r, b :: r', pre, pre', n + 1, hn, hl, hp, hr => by
    have hlen : (pre ++ a :: r).length = pre.length + r.length + 1 := by simp; omega
    have e1 : decide ((pre.length : Int) < ((pre ++ a :: r).length : Int)) = true := by rw [hlen]; simp; omega
    have e2 : decide ((0 : Int) ≤ (pre.length : Int)) = true := by simp
    have e3 : decide ((pre.length : Int) < ((pre' ++ b :: r').length : Int)) = true := by simp; omega
    have ih := eqSegS_loop k0 k1 r r' (pre ++ [a]) (pre' ++ [b]) n (by simp at hn; omega) (by rw [← cat_one]; exact hl) (by simp [hp]) (by simpa using hr)
    rw [← cat_one, ← cat_one] at ih
    have e4 : (pre' ++ b :: r').getD pre.length ([], 0) = b := by rw [hp]; exact getD_mid ..
    unfold eqSegS_F4 eqSegS_T4
    simp only [e1, e2, e3, cond_true, Int.toNat_natCast, getD_mid, e4]
    rw [next_len pre a (by omega), ih]
    obtain ⟨a1, a2⟩ := a
    obtain ⟨b1, b2⟩ := b
    by_cases h1 : a1 = b1
    · by_cases h2 : a2 = b2
      · simp [h1, h2]
      · simp [h1, h2]
    · simp [h1]
def eqSegS_br (l l' : Segs) : Br := .ite (decide (l.length ≤ 281474976710656)) (.ret (.bool (decide (l = l'))) []) .fail
def eqSegS_s := eqSegS_sOf eqSegS_br
/-! markText -/
def dig : Nat → Int → List UInt8 → List UInt8
  | 0, _, acc => acc
  | n + 1, k, acc => bif decide (0 < k) then dig n (wrap64 (Int.tdiv k 10)) ((ofBytes (List.set (List.replicate 1 (0 : Int)) 0 ((wrap64 (48 + Int.tmod k 10)) % 256))) ++ acc) else acc
theorem dig_len : ∀ (n : Nat) (k : Int) (acc : List UInt8), (dig n k acc).length ≤ acc.length + n
  | 0, _, _ => by simp [dig]
  | n + 1, k, acc => by
    simp only [dig]
    cases decide (0 < k) with
    | true => exact Nat.le_trans (dig_len n _ _) (by simp [ofBytes]; omega)
    | false => simp
theorem markText_loop (k : List UInt8 → Option Rs) : ∀ (n : Nat) (x : Int) (acc : List UInt8), x.toNat < n → x ≤ 1152921504606846976 → acc.length + n ≤ 2305843009213693952 → markText_F4 n x acc k = k (dig n x acc)
  | 0, x, acc, h, h', hl => by omega
  | n + 1, x, acc, h, h', hl => by
    unfold markText_F4 markText_T4 dig
    by_cases h1 : 0 < x
    · have e1 : ∀ y : Int, decide ((((List.length (ofBytes (List.set (List.replicate (1 : Nat) (0 : Int)) (0 : Nat) y)) + List.length acc : Nat)) : Int) ≤ 9223372036854775807) = true := by
        intro y; simp [ofBytes]; omega
      have e2 : Int.tdiv x 10 = x / 10 := Int.tdiv_eq_ediv_of_nonneg (by omega)
      simp only [h1, decide_true, cond_true, e1]
      refine markText_loop k n _ _ ?_ ?_ ?_
      · rw [e2, w64 (by omega) (by omega)]; omega
      · rw [e2, w64 (by omega) (by omega)]; omega
      · simp [ofBytes]; omega
    · simp [h1]
def mt (k : Int) : List UInt8 := bif decide (k ≤ 0) then [109, 48] else [109] ++ dig (k.toNat + 1) k []
def markText_br (k : Int) : Br := .ite (decide (k ≤ 1152921504606846976)) (.ret (.str (mt k)) []) .fail
def markText_s := markText_sOf markText_br
end Go.Proofs.Ytmigffdeghfbhaa.Ev

namespace Go.Proofs.Ytmigffdeghfbhaa.Ev
open Go Go.RowKit
set_option linter.unusedVariables false
set_option linter.unusedSimpArgs false

/-! impl.StoreOk -/
def iOk_O : Opt := { cons := [], keepNil := false, mutF := [], live := [(4, [1, 17, 18, 19])], outs := [(4, [1, 2])] }
def iOk_C : Spec := (add (add noS 32 iwithin_s) 38 used_s)
theorem iOk_C_ok : ∀ fn, Sound Kx fn (iOk_C fn) := (sound_add (sound_add (sound_no Kx) iwithin_ok) used_ok)
def iOk_T4 (v4x0 : (List ((List UInt8) × Int))) (v4x1 : Int) (v4x2 : Int) (v4x3 : (List ((List UInt8) × Int))) (v4x4 : Int) (kR4 : (List ((List UInt8) × Int)) → Int → Int → (List ((List UInt8) × Int)) → Int → Option Rs) (k4e0 : (List ((List UInt8) × Int)) → Int → Option Rs) (k4e1 : (List ((List UInt8) × Int)) → Int → Option Rs) : Option Rs :=
  (bif (decide (v4x2 < v4x1)) then (bif (decide ((0 : Int) ≤ v4x2)) then (bif (decide (v4x2 < ((List.length v4x0) : Int))) then (bif (decide ((0 : Int) ≤ (List.getD v4x0 (Int.toNat v4x2) (([] : (List UInt8)), (0 : Int))).2)) then (bif (!(decide ((List.getD v4x0 (Int.toNat v4x2) (([] : (List UInt8)), (0 : Int))).2 ≤ ((List.length (List.getD v4x0 (Int.toNat v4x2) (([] : (List UInt8)), (0 : Int))).1) : Int)))) then (k4e0 v4x3 v4x4) else (bif (decide (v4x2 < (wrap64 (((List.length v4x3) : Int) - (1 : Int))))) then (bif (decide ((List.getD v4x0 (Int.toNat v4x2) (([] : (List UInt8)), (0 : Int))).1 = ([] : (List UInt8)))) then (k4e0 v4x3 v4x4) else (bif (!(decide ((List.getD v4x0 (Int.toNat v4x2) (([] : (List UInt8)), (0 : Int))).2 = ((List.length (List.getD v4x0 (Int.toNat v4x2) (([] : (List UInt8)), (0 : Int))).1) : Int)))) then (k4e0 v4x3 v4x4) else (kR4 v4x0 v4x1 (wrap64 (v4x2 + (1 : Int))) v4x3 v4x4))) else (kR4 v4x0 v4x1 (wrap64 (v4x2 + (1 : Int))) v4x3 v4x4))) else (k4e0 v4x3 v4x4)) else (none)) else (none)) else (k4e1 v4x3 v4x4))
def iOk_F4 : Nat → (List ((List UInt8) × Int)) → Int → Int → (List ((List UInt8) × Int)) → Int → ((List ((List UInt8) × Int)) → Int → Option Rs) → ((List ((List UInt8) × Int)) → Int → Option Rs) → Option Rs
  | 0, _, _, _, _, _, _, _ => none
  | n + 1, v4x0, v4x1, v4x2, v4x3, v4x4, k4e0, k4e1 => iOk_T4 v4x0 v4x1 v4x2 v4x3 v4x4 (fun v4x0 v4x1 v4x2 v4x3 v4x4 => iOk_F4 n v4x0 v4x1 v4x2 v4x3 v4x4 k4e0 k4e1) k4e0 k4e1
def iOk_h4 (v4x0 : (List ((List UInt8) × Int))) (v4x1 : Int) (v4x2 : Int) (v4x3 : (List ((List UInt8) × Int))) (v4x4 : Int) : St := (St.mk (slots 0 58 [(1, (AV.ptr (128 : Nat) (0 : Nat))), (17, (AV.sh (Ty.pair Ty.str (Ty.int .i64)) v4x0)), (18, (AV.int .i64 v4x1)), (19, (AV.int .i64 v4x2))]) (((128 : Nat), (Ob.var ((AV.sh (Ty.pair Ty.str (Ty.int .i64)) v4x3) :: ((AV.int .i64 v4x4) :: ([] : (List (AV))))))) :: ([] : (List (Nat × (Ob))))))
def iOk_x4e0 (x4x0x0 : (List ((List UInt8) × Int))) (x4x0x1 : Int) : St := (St.mk (slots 0 58 [(1, (AV.ptr (128 : Nat) (0 : Nat))), (2, (AV.bool false))]) (((128 : Nat), (Ob.var ((AV.sh (Ty.pair Ty.str (Ty.int .i64)) x4x0x0) :: ((AV.int .i64 x4x0x1) :: ([] : (List (AV))))))) :: ([] : (List (Nat × (Ob))))))
def iOk_x4e1 (x4x1x0 : (List ((List UInt8) × Int))) (x4x1x1 : Int) : St := (St.mk (slots 0 58 [(1, (AV.ptr (128 : Nat) (0 : Nat)))]) (((128 : Nat), (Ob.var ((AV.sh (Ty.pair Ty.str (Ty.int .i64)) x4x1x0) :: ((AV.int .i64 x4x1x1) :: ([] : (List (AV))))))) :: ([] : (List (Nat × (Ob))))))
noncomputable def iOk_b4 : Code := codeAt (codeOf Try.f25) [1, 1, 0, 1, 0, 0]
def iOk_L4 (N : Nat) (st : St) (k : Ex → St → Option Rs) : Option Rs := match takeF [1, 17, 18, 19] 0 58 st.env, st.objs with
  | some [.ptr 128 0, .sh (Ty.pair Ty.str (Ty.int .i64)) v4x0, .int .i64 v4x1, .int .i64 v4x2], [(128, .var [.sh (Ty.pair Ty.str (Ty.int .i64)) v4x3, .int .i64 v4x4])] => iOk_F4 N v4x0 v4x1 v4x2 v4x3 v4x4 (fun x4x0x0 x4x0x1 => k Ex.ret (iOk_x4e0 x4x0x0 x4x0x1)) (fun x4x1x0 x4x1x1 => k (Ex.exit (0 : Nat)) (iOk_x4e1 x4x1x0 x4x1x1))
  | _, _ => none
def iOk_L (N : Nat) : Lam := fun j st k => match j with
  | 4 => iOk_L4 N st k
  | _ => none
theorem iOk_round4 (N : Nat) (again : St → Option Rs) (k : Ex → St → Option Rs) (wv4x0 : (List ((List UInt8) × Int))) (wv4x1 : Int) (wv4x2 : Int) (wv4x3 : (List ((List UInt8) × Int))) (wv4x4 : Int) (v4x0 : (List ((List UInt8) × Int))) (v4x1 : Int) (v4x2 : Int) (v4x3 : (List ((List UInt8) × Int))) (v4x4 : Int) :
    roundK 0 (fun st k => evL Kx iOk_C iOk_O 0 (iOk_L N) iOk_b4 st k) (iOk_h4 wv4x0 wv4x1 wv4x2 wv4x3 wv4x4).env again (iOk_h4 v4x0 v4x1 v4x2 v4x3 v4x4) (outK iOk_O 0 iOk_b4 k) = iOk_T4 v4x0 v4x1 v4x2 v4x3 v4x4 (fun v4x0 v4x1 v4x2 v4x3 v4x4 => again (iOk_h4 v4x0 v4x1 v4x2 v4x3 v4x4)) (fun x4x0x0 x4x0x1 => k Ex.ret (iOk_x4e0 x4x0x0 x4x0x1)) (fun x4x1x0 x4x1x1 => k (Ex.exit (0 : Nat)) (iOk_x4e1 x4x1x0 x4x1x1)) := by kernel_rfl
theorem iOk_loop4 (N : Nat) (k : Ex → St → Option Rs) (wv4x0 : (List ((List UInt8) × Int))) (wv4x1 : Int) (wv4x2 : Int) (wv4x3 : (List ((List UInt8) × Int))) (wv4x4 : Int) : ∀ (n : Nat) (v4x0 : (List ((List UInt8) × Int))) (v4x1 : Int) (v4x2 : Int) (v4x3 : (List ((List UInt8) × Int))) (v4x4 : Int),
    loopK 0 (fun st k => evL Kx iOk_C iOk_O 0 (iOk_L N) iOk_b4 st k) (iOk_h4 wv4x0 wv4x1 wv4x2 wv4x3 wv4x4).env n (iOk_h4 v4x0 v4x1 v4x2 v4x3 v4x4) (outK iOk_O 0 iOk_b4 k) = iOk_F4 n v4x0 v4x1 v4x2 v4x3 v4x4 (fun x4x0x0 x4x0x1 => k Ex.ret (iOk_x4e0 x4x0x0 x4x0x1)) (fun x4x1x0 x4x1x1 => k (Ex.exit (0 : Nat)) (iOk_x4e1 x4x1x0 x4x1x1))
  | 0, _, _, _, _, _ => rfl
  | n + 1, v4x0, v4x1, v4x2, v4x3, v4x4 => by
    rw [loopK_succ, iOk_round4]
    simp only [iOk_loop4 N k wv4x0 wv4x1 wv4x2 wv4x3 wv4x4 n]
    rfl
theorem iOk_at4 (N : Nat) {s : St} {k : Ex → St → Option Rs} {r : Rs} (h : iOk_L4 N s k = some r) : ∃ (v4x0 : (List ((List UInt8) × Int))) (v4x1 : Int) (v4x2 : Int) (v4x3 : (List ((List UInt8) × Int))) (v4x4 : Int), s = (iOk_h4 v4x0 v4x1 v4x2 v4x3 v4x4) ∧ iOk_F4 N v4x0 v4x1 v4x2 v4x3 v4x4 (fun x4x0x0 x4x0x1 => k Ex.ret (iOk_x4e0 x4x0x0 x4x0x1)) (fun x4x1x0 x4x1x1 => k (Ex.exit (0 : Nat)) (iOk_x4e1 x4x1x0 x4x1x1)) = some r := by
  cases s with | mk env objs =>
  unfold iOk_L4 at h
  split at h
  · rename_i e1 e2
    have e3 := takeF_slots _ _ _ _ e1
    simp only at e2 e3
    subst e2 e3
    exact ⟨_, _, _, _, _, rfl, h⟩
  · cases h
theorem iOk_in4 : loops iOk_b4 = [] := by kernel_rfl
theorem iOk_lid4 : lid iOk_b4 = 4 := by kernel_rfl
theorem iOk_ok4 (N : Nat) : OkL Kx iOk_C iOk_O 0 N (iOk_L N) iOk_b4 := by
  intro s k k' r hk h
  rw [iOk_lid4] at h
  obtain ⟨v4x0, v4x1, v4x2, v4x3, v4x4, rfl, h⟩ := iOk_at4 N h
  refine loopL (Λ := iOk_L N) iOk_b4 ?_ N hk ((iOk_loop4 N k v4x0 v4x1 v4x2 v4x3 v4x4 N v4x0 v4x1 v4x2 v4x3 v4x4).trans h)
  rw [iOk_in4]
  exact fun _ h => nomatch h
def iOk_run (N : Nat) (l : List (List UInt8 × Int)) (c : Int) : Option Rs := (bif (decide ((0 : Int) ≤ c)) then (bif (!(decide (c ≤ (60000 : Int)))) then (some ((AV.bool false), ([] : (List (Ob))))) else (bif (decide ((1 : Int) ≤ ((List.length l) : Int))) then (bif (!(decide (((List.length l) : Int) ≤ (40 : Int)))) then (some ((AV.bool false), ([] : (List (Ob))))) else (iOk_F4 N l ((List.length l) : Int) (0 : Int) l c (fun x4x0x0 => (fun x4x0x1 => (some ((AV.bool false), ([] : (List (Ob))))))) (fun x4x1x0 => (fun x4x1x1 => (bif ((decide ((List.length x4x1x0) ≤ (281474976710656 : Nat))) && (decide ((total x4x1x0) ≤ (4611686018427387904 : Nat)))) then (some ((AV.bool (decide ((((total x4x1x0) : Nat) : Int) ≤ x4x1x1))), ([] : (List (Ob))))) else (none)))))) else (some ((AV.bool false), ([] : (List (Ob))))))) else (some ((AV.bool false), ([] : (List (Ob))))))
theorem iOk_runL (N : Nat) (l : List (List UInt8 × Int)) (c : Int) : runL Kx iOk_C iOk_O (iOk_L N) Try.f25 ([.agg [.sh (.pair .str (.int .i64)) l, .int .i64 c]]) ([]) = iOk_run N l c := by kernel_rfl
theorem iOk_body : Try.f25.body = some (codeOf Try.f25) := by kernel_rfl
theorem iOk_loops : loops (codeOf Try.f25) = [iOk_b4] := by kernel_rfl
theorem iOk_ev (N : Nat) (l : List (List UInt8 × Int)) (c : Int) {r : Rs} (h : iOk_run N l c = some r) : ∃ n, runF Kx iOk_C iOk_O n Try.f25 ([.agg [.sh (.pair .str (.int .i64)) l, .int .i64 c]]) ([]) = some r :=
  ⟨N, runL_runF iOk_body (by rw [iOk_loops]; exact List.forall_mem_cons.2 ⟨iOk_ok4 N, fun _ h => nomatch h⟩) ((iOk_runL N l c).trans h)⟩
def iOk_sOf (φ : (List (List UInt8 × Int)) → Int → Br) : List AV → List Ob → Br
  | [.agg [.sh (.pair .str (.int .i64)) l, .int .i64 c]], [] => φ l c
  | _, _ => .fail
theorem iOk_okOf {φ : (List (List UInt8 × Int)) → Int → Br} (fu : (List (List UInt8 × Int)) → Int → Nat) (hv : ∀ l c r, (φ l c).val = some r → iOk_run (fu l c) l c = some r) : Sound Kx 25 (iOk_sOf φ) := by
  refine sound_run (C := iOk_C) (O := iOk_O) KOk iOk_C_ok Try.func25 (by kernel_rfl) fun args objs res os h => ?_
  unfold iOk_sOf at h
  split at h
  · exact iOk_ev _ _ _ (hv _ _ _ h)
  · cases h

/-! laws.szStore -/
def szStore_O : Opt := { cons := [], keepNil := false, mutF := [], live := [], outs := [] }
def szStore_br (l : List (List UInt8 × Int)) (c left : Int) : Br := (Br.ite (((smS l) && (decide ((0 : Int) ≤ left))) && (decide (left ≤ (1048576 : Int)))) (Br.ite (decide ((szOf l left) < (0 : Int))) (Br.ret (AV.int .i64 (-(1 : Int))) ([] : (List (Ob)))) (Br.ret (AV.int .i64 (szOf l left)) ([] : (List (Ob))))) Br.fail)
def szStore_s : List AV → List Ob → Br
  | [.agg [.sh (.pair .str (.int .i64)) l, .int .i64 c], .int .i64 left], [] => szStore_br l c left
  | _, _ => .fail
/-! laws.toStore -/
def toStore_O : Opt := { cons := [], keepNil := false, mutF := [], live := [], outs := [] }
def toStore_br (l : List (List UInt8 × Int)) (c : Int) : Br := (Br.ite (decide ((List.length l) ≤ (1048576 : Nat))) (Br.ret (AV.agg ((AV.ref (0 : Nat) (0 : Nat)) :: ((AV.int .i64 c) :: ([] : (List (AV)))))) ((Ob.arr (Ty.pair Ty.str (Ty.int .i64)) (0 : Nat) false l) :: ([] : (List (Ob))))) Br.fail)
def toStore_s : List AV → List Ob → Br
  | [.agg [.sh (.pair .str (.int .i64)) l, .int .i64 c]], [] => toStore_br l c
  | _, _ => .fail
/-! laws.eqStore -/
def eqStore_O : Opt := { cons := [], keepNil := false, mutF := [], live := [], outs := [] }
def eqStore_br (l : List (List UInt8 × Int)) (c : Int) (l' : List (List UInt8 × Int)) (c' : Int) : Br := (Br.ite (decide ((List.length l) ≤ (281474976710656 : Nat))) (Br.ite (!(decide (l = l'))) (Br.ret (AV.bool false) ([] : (List (Ob)))) (Br.ite (!(decide (c = c'))) (Br.ret (AV.bool false) ([] : (List (Ob)))) (Br.ret (AV.bool true) ([] : (List (Ob)))))) Br.fail)
def eqStore_s : List AV → List Ob → Br
  | [.agg [.sh (.pair .str (.int .i64)) l, .int .i64 c], .agg [.sh (.pair .str (.int .i64)) l', .int .i64 c']], [] => eqStore_br l c l' c'
  | _, _ => .fail
/-! laws.markSegS -/
def markSegS_O : Opt := { cons := [], keepNil := false, mutF := [], live := [(2, [0, 1, 5])], outs := [(2, [1, 4])] }
def markSegS_T2 (v2x0 : Int) (v2x1 : Int) (v2x2 : (List ((List UInt8) × Int))) (kR2 : Int → Int → (List ((List UInt8) × Int)) → Option Rs) (k2e0 : Int → (List ((List UInt8) × Int)) → Option Rs) : Option Rs :=
  (bif (decide (v2x1 < ((List.length v2x2) : Int))) then (bif (decide (v2x0 ≤ (1152921504606846976 : Int))) then (bif (decide ((0 : Int) ≤ v2x1)) then (bif (decide (v2x1 < ((List.length v2x2) : Int))) then (bif (decide ((0 : Int) ≤ v2x1)) then (bif (decide (v2x1 < ((List.length (List.set v2x2 (Int.toNat v2x1) ((mt v2x0), (List.getD v2x2 (Int.toNat v2x1) (([] : (List UInt8)), (0 : Int))).2))) : Int))) then (kR2 (wrap64 ((wrap64 (v2x0 + (1 : Int))) + (1 : Int))) (wrap64 (v2x1 + (1 : Int))) (List.set (List.set v2x2 (Int.toNat v2x1) ((mt v2x0), (List.getD v2x2 (Int.toNat v2x1) (([] : (List UInt8)), (0 : Int))).2)) (Int.toNat v2x1) ((List.getD (List.set v2x2 (Int.toNat v2x1) ((mt v2x0), (List.getD v2x2 (Int.toNat v2x1) (([] : (List UInt8)), (0 : Int))).2)) (Int.toNat v2x1) (([] : (List UInt8)), (0 : Int))).1, (wrap64 (v2x0 + (1 : Int)))))) else (none)) else (none)) else (none)) else (none)) else (none)) else (k2e0 v2x0 v2x2))
def markSegS_F2 : Nat → Int → Int → (List ((List UInt8) × Int)) → (Int → (List ((List UInt8) × Int)) → Option Rs) → Option Rs
  | 0, _, _, _, _ => none
  | n + 1, v2x0, v2x1, v2x2, k2e0 => markSegS_T2 v2x0 v2x1 v2x2 (fun v2x0 v2x1 v2x2 => markSegS_F2 n v2x0 v2x1 v2x2 k2e0) k2e0
def markSegS_h2 (v2x0 : Int) (v2x1 : Int) (v2x2 : (List ((List UInt8) × Int))) : St := (St.mk (slots 0 28 [(0, (AV.ref (0 : Nat) (0 : Nat))), (1, (AV.int .i64 v2x0)), (5, (AV.int .i64 v2x1))]) (((0 : Nat), (Ob.arr (Ty.pair Ty.str (Ty.int .i64)) (0 : Nat) false v2x2)) :: ([] : (List (Nat × (Ob))))))
def markSegS_x2e0 (x2x0x0 : Int) (x2x0x1 : (List ((List UInt8) × Int))) : St := (St.mk (slots 0 28 [(1, (AV.int .i64 x2x0x0))]) (((0 : Nat), (Ob.arr (Ty.pair Ty.str (Ty.int .i64)) (0 : Nat) false x2x0x1)) :: ([] : (List (Nat × (Ob))))))
def markSegS_L2 (N : Nat) (st : St) (k : Ex → St → Option Rs) : Option Rs := match takeF [0, 1, 5] 0 28 st.env, st.objs with
  | some [.ref 0 0, .int .i64 v2x0, .int .i64 v2x1], [(0, .arr (Ty.pair Ty.str (Ty.int .i64)) 0 false v2x2)] => markSegS_F2 N v2x0 v2x1 v2x2 (fun x2x0x0 x2x0x1 => k (Ex.exit (0 : Nat)) (markSegS_x2e0 x2x0x0 x2x0x1))
  | _, _ => none
def markSegS_L (N : Nat) : Lam := fun j st k => match j with
  | 2 => markSegS_L2 N st k
  | _ => none
theorem markSegS_at2 (N : Nat) {s : St} {k : Ex → St → Option Rs} {r : Rs} (h : markSegS_L2 N s k = some r) : ∃ (v2x0 : Int) (v2x1 : Int) (v2x2 : (List ((List UInt8) × Int))), s = (markSegS_h2 v2x0 v2x1 v2x2) ∧ markSegS_F2 N v2x0 v2x1 v2x2 (fun x2x0x0 x2x0x1 => k (Ex.exit (0 : Nat)) (markSegS_x2e0 x2x0x0 x2x0x1)) = some r := by
  cases s with | mk env objs =>
  unfold markSegS_L2 at h
  split at h
  · rename_i e1 e2
    have e3 := takeF_slots _ _ _ _ e1
    simp only at e2 e3
    subst e2 e3
    exact ⟨_, _, _, rfl, h⟩
  · cases h
def markSegS_run (N : Nat) (l : List (List UInt8 × Int)) (k : Int) : Option Rs := (markSegS_F2 N k (0 : Int) l (fun x2x0x0 => (fun x2x0x1 => (some ((AV.int .i64 x2x0x0), ((Ob.arr (Ty.pair Ty.str (Ty.int .i64)) (0 : Nat) false x2x0x1) :: ([] : (List (Ob)))))))))
def markSegS_sOf (φ : (List (List UInt8 × Int)) → Int → Br) : List AV → List Ob → Br
  | [.ref 0 0, .int .i64 k], [.arr (.pair .str (.int .i64)) 0 false l] => φ l k
  | _, _ => .fail
/-! laws.heldSegS -/
def heldSegS_O : Opt := { cons := [], keepNil := false, mutF := [], live := [(2, [0, 1, 5])], outs := [(2, [1, 4])] }
def heldSegS_T2 (v2x0 : (List ((List UInt8) × Int))) (v2x1 : Int) (v2x2 : Int) (kR2 : (List ((List UInt8) × Int)) → Int → Int → Option Rs) (k2e0 : Int → Option Rs) (k2e1 : Int → Option Rs) : Option Rs :=
  (bif (decide (v2x2 < ((List.length v2x0) : Int))) then (bif (decide ((0 : Int) ≤ v2x2)) then (bif (decide (v2x2 < ((List.length v2x0) : Int))) then (bif (decide (v2x1 ≤ (1152921504606846976 : Int))) then (bif (!(decide ((List.getD v2x0 (Int.toNat v2x2) (([] : (List UInt8)), (0 : Int))).1 = (mt v2x1)))) then (k2e0 v2x1) else (bif (decide ((0 : Int) ≤ v2x2)) then (bif (decide (v2x2 < ((List.length v2x0) : Int))) then (bif (!(decide ((List.getD v2x0 (Int.toNat v2x2) (([] : (List UInt8)), (0 : Int))).2 = (wrap64 (v2x1 + (1 : Int)))))) then (k2e0 (wrap64 (v2x1 + (1 : Int)))) else (kR2 v2x0 (wrap64 ((wrap64 (v2x1 + (1 : Int))) + (1 : Int))) (wrap64 (v2x2 + (1 : Int))))) else (none)) else (none))) else (none)) else (none)) else (none)) else (k2e1 v2x1))
def heldSegS_F2 : Nat → (List ((List UInt8) × Int)) → Int → Int → (Int → Option Rs) → (Int → Option Rs) → Option Rs
  | 0, _, _, _, _, _ => none
  | n + 1, v2x0, v2x1, v2x2, k2e0, k2e1 => heldSegS_T2 v2x0 v2x1 v2x2 (fun v2x0 v2x1 v2x2 => heldSegS_F2 n v2x0 v2x1 v2x2 k2e0 k2e1) k2e0 k2e1
def heldSegS_h2 (v2x0 : (List ((List UInt8) × Int))) (v2x1 : Int) (v2x2 : Int) : St := (St.mk (slots 0 32 [(0, (AV.sh (Ty.pair Ty.str (Ty.int .i64)) v2x0)), (1, (AV.int .i64 v2x1)), (5, (AV.int .i64 v2x2))]) ([] : (List (Nat × (Ob)))))
def heldSegS_x2e0 (x2x0x0 : Int) : St := (St.mk (slots 0 32 [(1, (AV.int .i64 x2x0x0)), (4, (AV.int .i64 (-(1 : Int))))]) ([] : (List (Nat × (Ob)))))
def heldSegS_x2e1 (x2x1x0 : Int) : St := (St.mk (slots 0 32 [(1, (AV.int .i64 x2x1x0))]) ([] : (List (Nat × (Ob)))))
def heldSegS_L2 (N : Nat) (st : St) (k : Ex → St → Option Rs) : Option Rs := match takeF [0, 1, 5] 0 32 st.env, st.objs with
  | some [.sh (Ty.pair Ty.str (Ty.int .i64)) v2x0, .int .i64 v2x1, .int .i64 v2x2], [] => heldSegS_F2 N v2x0 v2x1 v2x2 (fun x2x0x0 => k Ex.ret (heldSegS_x2e0 x2x0x0)) (fun x2x1x0 => k (Ex.exit (0 : Nat)) (heldSegS_x2e1 x2x1x0))
  | _, _ => none
def heldSegS_L (N : Nat) : Lam := fun j st k => match j with
  | 2 => heldSegS_L2 N st k
  | _ => none
theorem heldSegS_at2 (N : Nat) {s : St} {k : Ex → St → Option Rs} {r : Rs} (h : heldSegS_L2 N s k = some r) : ∃ (v2x0 : (List ((List UInt8) × Int))) (v2x1 : Int) (v2x2 : Int), s = (heldSegS_h2 v2x0 v2x1 v2x2) ∧ heldSegS_F2 N v2x0 v2x1 v2x2 (fun x2x0x0 => k Ex.ret (heldSegS_x2e0 x2x0x0)) (fun x2x1x0 => k (Ex.exit (0 : Nat)) (heldSegS_x2e1 x2x1x0)) = some r := by
  cases s with | mk env objs =>
  unfold heldSegS_L2 at h
  split at h
  · rename_i e1 e2
    have e3 := takeF_slots _ _ _ _ e1
    simp only at e2 e3
    subst e2 e3
    exact ⟨_, _, _, rfl, h⟩
  · cases h
def heldSegS_run (N : Nat) (l : List (List UInt8 × Int)) (k : Int) : Option Rs := (heldSegS_F2 N l k (0 : Int) (fun x2x0x0 => (some ((AV.int .i64 (-(1 : Int))), ([] : (List (Ob)))))) (fun x2x1x0 => (some ((AV.int .i64 x2x1x0), ([] : (List (Ob)))))))
def heldSegS_sOf (φ : (List (List UInt8 × Int)) → Int → Br) : List AV → List Ob → Br
  | [.sh (.pair .str (.int .i64)) l, .int .i64 k], [] => φ l k
  | _, _ => .fail
end Go.Proofs.Ytmigffdeghfbhaa.Ev

namespace Go.Proofs.Ytmigffdeghfbhaa.Ev
open Go Go.RowKit
set_option linter.unusedVariables false
set_option linter.unusedSimpArgs false

/-! impl.StoreOk -/
theorem iOk_loop (c : Int) (k0 k1 : Segs → Int → Option Rs) (l : Segs) (hl : l.length ≤ 40) (r : Segs) : ∀ (pre : Segs) (n : Nat), r.length < n → pre ++ r = l →
    iOk_F4 n l (l.length : Int) (pre.length : Int) l c k0 k1 = bif shape r then k1 l c else k0 l c := by
  induction r with
  | nil =>
    intro pre n hn hp
    obtain ⟨n, rfl⟩ : ∃ m, n = m + 1 := ⟨n - 1, by simp at hn; omega⟩
    have e1 : decide ((pre.length : Int) < (l.length : Int)) = false := by rw [← hp]; simp
    unfold iOk_F4 iOk_T4
    simp only [e1, cond_false, shape, cond_true]
  | cons a r ihr =>
    intro pre n hn hp
    obtain ⟨n, rfl⟩ : ∃ m, n = m + 1 := ⟨n - 1, by omega⟩
    have hlen : l.length = pre.length + r.length + 1 := by rw [← hp]; simp; omega
    have e1 : decide ((pre.length : Int) < (l.length : Int)) = true := by rw [hlen]; simp; omega
    have e2 : decide ((0 : Int) ≤ (pre.length : Int)) = true := by simp
    have e4 : l.getD pre.length ([], 0) = a := by rw [← hp]; exact getD_mid ..
    have ih := ihr (pre ++ [a]) n (by simp at hn; omega) (by rw [← cat_one]; exact hp)
    have e3 : decide ((pre.length : Int) < wrap64 ((l.length : Int) - 1)) = !r.isEmpty := by
      rw [w64 (by omega) (by omega), hlen]
      cases r with
      | nil => simp
      | cons b r => simp; omega
    have e5 : decide (a.1 = []) = decide ((a.1.length : Int) = 0) := by
      congr 1; apply propext
      constructor
      · intro h; rw [h]; rfl
      · intro h; exact List.length_eq_zero_iff.1 (by omega)
    unfold iOk_F4 iOk_T4
    simp only [e1, e2, e3, e4, e5, cond_true, Int.toNat_natCast]
    rw [next_len pre a (by omega), ih]
    simp only [shape]
    generalize decide (0 ≤ a.2) = b1
    generalize decide (a.2 ≤ (a.1.length : Int)) = b2
    generalize decide ((a.1.length : Int) = 0) = b3
    generalize decide (a.2 = (a.1.length : Int)) = b4
    generalize r.isEmpty = b7
    generalize shape r = b8
    cases b1 <;> cases b2 <;> cases b3 <;> cases b4 <;> cases b7 <;> cases b8 <;> rfl
theorem total_le : ∀ (l : Segs), (∀ a ∈ l, a.1.length ≤ 281474976710656) → total l ≤ l.length * 281474976710656
  | [], _ => by simp [total]
  | a :: r, h => by
    have h1 := h a (List.mem_cons_self ..)
    have h2 := total_le r fun x hx => h x (List.mem_cons_of_mem _ hx)
    simp only [total, List.length_cons]
    omega
def iOk_br (l : Segs) (c : Int) : Br := .ite (smS l) (.ret (.bool (okStore l c)) []) .fail
def iOk_s := iOk_sOf iOk_br
theorem iOk_ok : Sound Kx 25 iOk_s := by
  refine iOk_okOf (fun l _ => l.length + 1) fun l c r h => ?_
  unfold iOk_br at h
  simp only [Br.val] at h
  split at h
  · rename_i hb
    simp only [smS, Bool.and_eq_true, decide_eq_true_eq, List.all_eq_true] at hb
    rw [← h]
    unfold iOk_run okStore
    by_cases h1 : 0 ≤ c
    · by_cases h2 : c ≤ 60000
      · by_cases h3 : 1 ≤ l.length
        · by_cases h4 : l.length ≤ 40
          · have g3 : (1 : Int) ≤ (l.length : Int) := by omega
            have g4 : (l.length : Int) ≤ 40 := by omega
            have ht := total_le l hb.2
            have e1 : decide (l.length ≤ 281474976710656) = true := by simp; omega
            have e2 : decide (total l ≤ 4611686018427387904) = true := by simp; omega
            simp only [h1, h2, h3, h4, g3, g4, decide_true, Bool.not_true, cond_true, cond_false, Bool.true_and]
            refine (iOk_loop c (fun _ _ => some (.bool false, [])) (fun x4x1x0 x4x1x1 => bif (decide (x4x1x0.length ≤ 281474976710656) && decide (total x4x1x0 ≤ 4611686018427387904)) then some (.bool (decide (((total x4x1x0 : Nat) : Int) ≤ x4x1x1)), []) else none) l h4 l [] (l.length + 1) (by omega) rfl).trans ?_
            simp only [e1, e2, Bool.and_self, cond_true]
            cases shape l <;> rfl
          · have g3 : (1 : Int) ≤ (l.length : Int) := by omega
            have g4 : ¬ (l.length : Int) ≤ 40 := by omega
            simp only [h1, h2, h3, h4, g3, g4, decide_true, decide_false, Bool.not_true, Bool.not_false, cond_true, cond_false, Bool.true_and, Bool.and_false, Bool.false_and]
        · have g3 : ¬ (1 : Int) ≤ (l.length : Int) := by omega
          simp only [h1, h2, h3, g3, decide_true, decide_false, Bool.not_true, Bool.not_false, cond_true, cond_false, Bool.true_and, Bool.and_false, Bool.false_and]
      · simp only [h1, h2, decide_true, decide_false, Bool.not_true, Bool.not_false, cond_true, cond_false, Bool.true_and, Bool.and_false, Bool.false_and]
    · simp only [h1, decide_true, decide_false, Bool.not_true, Bool.not_false, cond_true, cond_false, Bool.true_and, Bool.and_false, Bool.false_and]
  · cases h

/-! markSegS -/
def marks : Segs → Int → Segs
  | [], _ => []
  | _ :: r, k => (mt k, k + 1) :: marks r (k + 2)
theorem marks_len : ∀ (l : Segs) (k : Int), (marks l k).length = l.length
  | [], _ => rfl
  | _ :: r, k => by simp [marks, marks_len r]
theorem markSegS_loop (c : Int → Segs → Option Rs) (r : Segs) : ∀ (pre : Segs) (n : Nat) (k : Int), r.length < n → (pre ++ r).length ≤ 281474976710656 → 0 ≤ k → k + 2 * r.length ≤ 1152921504606846976 →
    markSegS_F2 n k (pre.length : Int) (pre ++ r) c = c (k + 2 * r.length) (pre ++ marks r k) := by
  induction r with
  | nil =>
    intro pre n k hn hl hk hm
    obtain ⟨n, rfl⟩ : ∃ m, n = m + 1 := ⟨n - 1, by simp at hn; omega⟩
    have e1 : decide ((pre.length : Int) < ((pre ++ ([] : Segs)).length : Int)) = false := by simp
    unfold markSegS_F2 markSegS_T2
    simp only [e1, cond_false, marks, List.append_nil, List.length_nil]
    simp
  | cons a r ihr =>
    intro pre n k hn hl hk hm
    obtain ⟨n, rfl⟩ : ∃ m, n = m + 1 := ⟨n - 1, by omega⟩
    have hlen : ∀ b : List UInt8 × Int, (pre ++ b :: r).length = pre.length + r.length + 1 := by intro b; simp; omega
    have e1 : ∀ b : List UInt8 × Int, decide ((pre.length : Int) < ((pre ++ b :: r).length : Int)) = true := by intro b; rw [hlen]; simp; omega
    have e2 : decide ((0 : Int) ≤ (pre.length : Int)) = true := by simp
    have e3 : decide (k ≤ 1152921504606846976) = true := by simp; omega
    have hlen' := hlen a
    simp only [List.length_cons] at hm
    have ih := ihr (pre ++ [(mt k, k + 1)]) n (k + 2) (by simp at hn; omega) (by rw [← cat_one, hlen]; omega) (by omega) (by omega)
    unfold markSegS_F2 markSegS_T2
    simp only [e1, e2, e3, cond_true, Int.toNat_natCast, getD_mid, set_mid]
    rw [next_len pre (mt k, k + 1) (by omega), w64 (n := k + 1) (by omega) (by omega), w64 (n := k + 1 + 1) (by omega) (by omega)]
    rw [show k + 1 + 1 = k + 2 by omega, cat_one pre (mt k, k + 1) r, ih, ← cat_one pre (mt k, k + 1)]
    simp only [marks, List.length_cons]
    congr 1
    omega
def markSegS_br (l : Segs) (k : Int) : Br := .ite (decide (l.length ≤ 281474976710656) && decide (0 ≤ k) && decide (k ≤ 281474976710656)) (.ret (.int .i64 (k + 2 * l.length)) [.arr (.pair .str (.int .i64)) 0 false (marks l k)]) .fail
def markSegS_s := markSegS_sOf markSegS_br
/-! heldSegS -/
def held : Segs → Int → Int
  | [], k => k
  | a :: r, k => bif !decide (a.1 = mt k) then -1 else bif !decide (a.2 = k + 1) then -1 else held r (k + 2)
theorem held_marks : ∀ (l : Segs) (k : Int), held (marks l k) k = k + 2 * l.length
  | [], k => by simp [held, marks]
  | a :: r, k => by simp only [held, marks, decide_true, Bool.not_true, cond_false, held_marks r, List.length_cons]; omega
theorem held_neg : ∀ (l : Segs) (k : Int), 0 ≤ k → held l k < 0 → held l k = -1
  | [], k, h, h1 => by simp only [held] at h1; omega
  | a :: r, k, h, h1 => by
    simp only [held] at h1 ⊢
    generalize decide (a.1 = mt k) = b1 at *
    generalize decide (a.2 = k + 1) = b2 at *
    cases b1 <;> cases b2 <;> simp only [Bool.not_true, Bool.not_false, cond_true, cond_false] at h1 ⊢
    exact held_neg r _ (by omega) h1
def neg (x : Int) : Bool := decide (x < 0)
theorem heldSegS_loop (c0 c1 : Int → Option Rs) (hc : ∀ x, c0 x = c0 0) (l : Segs) (hl : l.length ≤ 281474976710656) (r : Segs) : ∀ (pre : Segs) (n : Nat) (k : Int), r.length < n → pre ++ r = l → 0 ≤ k → k + 2 * r.length ≤ 1152921504606846976 →
    heldSegS_F2 n l k (pre.length : Int) c0 c1 = bif neg (held r k) then c0 0 else c1 (held r k) := by
  induction r with
  | nil =>
    intro pre n k hn hp hk hm
    obtain ⟨n, rfl⟩ : ∃ m, n = m + 1 := ⟨n - 1, by simp at hn; omega⟩
    have e1 : decide ((pre.length : Int) < (l.length : Int)) = false := by rw [← hp]; simp
    have e2 : neg k = false := by unfold neg; simp; omega
    unfold heldSegS_F2 heldSegS_T2
    simp only [e1, cond_false, held, e2]
  | cons a r ihr =>
    intro pre n k hn hp hk hm
    obtain ⟨n, rfl⟩ : ∃ m, n = m + 1 := ⟨n - 1, by omega⟩
    have hlen : l.length = pre.length + r.length + 1 := by rw [← hp]; simp; omega
    have e1 : decide ((pre.length : Int) < (l.length : Int)) = true := by rw [hlen]; simp; omega
    have e2 : decide ((0 : Int) ≤ (pre.length : Int)) = true := by simp
    have e3 : decide (k ≤ 1152921504606846976) = true := by simp; omega
    have e4 : l.getD pre.length ([], 0) = a := by rw [← hp]; exact getD_mid ..
    simp only [List.length_cons] at hm
    have ih := ihr (pre ++ [a]) n (k + 2) (by simp at hn; omega) (by rw [← cat_one]; exact hp) (by omega) (by omega)
    unfold heldSegS_F2 heldSegS_T2
    simp only [e1, e2, e3, e4, cond_true, Int.toNat_natCast]
    rw [next_len pre a (by omega), w64 (n := k + 1) (by omega) (by omega), w64 (n := k + 1 + 1) (by omega) (by omega)]
    rw [show k + 1 + 1 = k + 2 by omega, ih, hc k, hc (k + 1)]
    simp only [held]
    generalize decide (a.1 = mt k) = b1
    generalize decide (a.2 = k + 1) = b2
    cases b1 <;> cases b2 <;> rfl
def heldSegS_br (l : Segs) (k : Int) : Br := .ite (decide (l.length ≤ 281474976710656) && decide (0 ≤ k) && decide (k ≤ 281474976710656)) (.ret (.int .i64 (held l k)) []) .fail
def heldSegS_s := heldSegS_sOf heldSegS_br
end Go.Proofs.Ytmigffdeghfbhaa.Ev

namespace Go.Proofs.Ytmigffdeghfbhaa.Ev
open Go Go.RowKit
set_option linter.unusedVariables false
set_option linter.unusedSimpArgs false

/-! laws.markStore -/
def markStore_br (l : List (List UInt8 × Int)) (c k : Int) : Br := (Br.ite (((decide ((List.length l) ≤ (281474976710656 : Nat))) && (decide ((0 : Int) ≤ k))) && (decide (k ≤ (281474976710656 : Int)))) (Br.ret (AV.int .i64 (k + ((2 : Int) * ((List.length l) : Int)))) ((Ob.arr (Ty.pair Ty.str (Ty.int .i64)) (0 : Nat) false (marks l k)) :: ([] : (List (Ob))))) Br.fail)
def markStore_s : List AV → List Ob → Br
  | [.agg [.ref 0 0, .int .i64 c], .int .i64 k], [.arr (.pair .str (.int .i64)) 0 false l] => markStore_br l c k
  | _, _ => .fail
/-! laws.heldStore -/
def heldStore_O : Opt := { cons := [], keepNil := false, mutF := [], live := [], outs := [] }
def heldStore_br (l : List (List UInt8 × Int)) (c k : Int) : Br := (Br.ite (((decide ((List.length l) ≤ (281474976710656 : Nat))) && (decide ((0 : Int) ≤ k))) && (decide (k ≤ (281474976710656 : Int)))) (Br.ite (decide ((held l k) < (0 : Int))) (Br.ret (AV.int .i64 (-(1 : Int))) ([] : (List (Ob)))) (Br.ret (AV.int .i64 (held l k)) ([] : (List (Ob))))) Br.fail)
def heldStore_s : List AV → List Ob → Br
  | [.agg [.sh (.pair .str (.int .i64)) l, .int .i64 c], .int .i64 k], [] => heldStore_br l c k
  | _, _ => .fail
/-! spec.Sync -/
def sSync_O : Opt := { cons := [], keepNil := false, mutF := [], live := [], outs := [] }
def sSync_C : Spec := (add (add noS 7 sOk_s) 41 copy_s)
theorem sSync_C_ok : ∀ fn, Sound Kx fn (sSync_C fn) := (sound_add (sound_add (sound_no Kx) sOk_ok) copy_ok)
def sSync_br (l : List (List UInt8 × Int)) (c : Int) : Br := (Br.ite (!(okStore l c)) (Br.ret (AV.agg ((AV.ref (List.length ([] : (List (Ob)))) (0 : Nat)) :: ((AV.int .i64 (0 : Int)) :: ([] : (List (AV)))))) ((Ob.arr (Ty.pair Ty.str (Ty.int .i64)) (0 : Nat) false ([] : (List ((List UInt8) × Int)))) :: ([] : (List (Ob))))) (Br.ite (decide ((((0 : Nat) + (List.length l)) * (24 : Nat)) ≤ (140737488355328 : Nat))) (Br.ite (decide ((0 : Int) ≤ (wrap64 (((List.length l) : Int) - (1 : Int))))) (Br.ite (decide ((wrap64 (((List.length l) : Int) - (1 : Int))) < ((List.length l) : Int))) (Br.ite (decide ((0 : Int) ≤ (wrap64 (((List.length l) : Int) - (1 : Int))))) (Br.ite (decide ((wrap64 (((List.length l) : Int) - (1 : Int))) < ((List.length l) : Int))) (Br.ite (decide ((0 : Int) ≤ (wrap64 (((List.length l) : Int) - (1 : Int))))) (Br.ite (decide ((wrap64 (((List.length l) : Int) - (1 : Int))) < ((List.length l) : Int))) (Br.ret (AV.agg ((AV.ref (0 : Nat) (0 : Nat)) :: ((AV.int .i64 c) :: ([] : (List (AV)))))) ((Ob.arr (Ty.pair Ty.str (Ty.int .i64)) (0 : Nat) false (List.set l (Int.toNat (wrap64 (((List.length l) : Int) - (1 : Int)))) ((List.getD l (Int.toNat (wrap64 (((List.length l) : Int) - (1 : Int)))) (([] : (List UInt8)), (0 : Int))).1, ((List.length (List.getD l (Int.toNat (wrap64 (((List.length l) : Int) - (1 : Int)))) (([] : (List UInt8)), (0 : Int))).1) : Int)))) :: ([] : (List (Ob))))) Br.fail) Br.fail) Br.fail) Br.fail) Br.fail) Br.fail) Br.fail))
theorem sSync_run (l : List (List UInt8 × Int)) (c : Int) : runF Kx sSync_C sSync_O 1 Try.f31 ([.agg [.sh (.pair .str (.int .i64)) l, .int .i64 c]]) ([]) = (sSync_br l c).val := by kernel_rfl
def sSync_s : List AV → List Ob → Br
  | [.agg [.sh (.pair .str (.int .i64)) l, .int .i64 c]], [] => sSync_br l c
  | _, _ => .fail
theorem sSync_ok : Sound Kx 31 sSync_s := by
  refine sound_run (C := sSync_C) (O := sSync_O) KOk sSync_C_ok Try.func31 (by kernel_rfl) fun args objs res os h => ?_
  unfold sSync_s at h
  split at h
  · exact ⟨1, (sSync_run _ _).trans h⟩
  · cases h

/-! impl.Sync -/
def iSync_O : Opt := { cons := [], keepNil := false, mutF := [], live := [], outs := [] }
def iSync_C : Spec := (add (add noS 25 iOk_s) 26 own_s)
theorem iSync_C_ok : ∀ fn, Sound Kx fn (iSync_C fn) := (sound_add (sound_add (sound_no Kx) iOk_ok) own_ok)
def iSync_br (l : List (List UInt8 × Int)) (c : Int) : Br := (Br.ite (smS l) (Br.ite (!(okStore l c)) (Br.ret (AV.agg ((AV.ref (List.length ([] : (List (Ob)))) (0 : Nat)) :: ((AV.int .i64 (0 : Int)) :: ([] : (List (AV)))))) ((Ob.arr (Ty.pair Ty.str (Ty.int .i64)) (0 : Nat) false ([] : (List ((List UInt8) × Int)))) :: ([] : (List (Ob))))) (Br.ite (decide ((((0 : Nat) + (List.length l)) * (24 : Nat)) ≤ (140737488355328 : Nat))) (Br.ite (decide ((0 : Int) ≤ (wrap64 (((List.length l) : Int) - (1 : Int))))) (Br.ite (decide ((wrap64 (((List.length l) : Int) - (1 : Int))) < ((List.length l) : Int))) (Br.ret (AV.agg ((AV.ref (0 : Nat) (0 : Nat)) :: ((AV.int .i64 c) :: ([] : (List (AV)))))) ((Ob.arr (Ty.pair Ty.str (Ty.int .i64)) (0 : Nat) false (List.set l (Int.toNat (wrap64 (((List.length l) : Int) - (1 : Int)))) ((List.getD l (Int.toNat (wrap64 (((List.length l) : Int) - (1 : Int)))) (([] : (List UInt8)), (0 : Int))).1, ((List.length (List.getD l (Int.toNat (wrap64 (((List.length l) : Int) - (1 : Int)))) (([] : (List UInt8)), (0 : Int))).1) : Int)))) :: ([] : (List (Ob))))) Br.fail) Br.fail) Br.fail)) Br.fail)
theorem iSync_run (l : List (List UInt8 × Int)) (c : Int) : runF Kx iSync_C iSync_O 1 Try.f16 ([.agg [.sh (.pair .str (.int .i64)) l, .int .i64 c]]) ([]) = (iSync_br l c).val := by kernel_rfl
def iSync_s : List AV → List Ob → Br
  | [.agg [.sh (.pair .str (.int .i64)) l, .int .i64 c]], [] => iSync_br l c
  | _, _ => .fail
theorem iSync_ok : Sound Kx 16 iSync_s := by
  refine sound_run (C := iSync_C) (O := iSync_O) KOk iSync_C_ok Try.func16 (by kernel_rfl) fun args objs res os h => ?_
  unfold iSync_s at h
  split at h
  · exact ⟨1, (iSync_run _ _).trans h⟩
  · cases h

/-! spec.Crash -/
def sCrash_O : Opt := { cons := [], keepNil := false, mutF := [], live := [], outs := [] }
def sCrash_C : Spec := (add (add noS 7 sOk_s) 41 copy_s)
theorem sCrash_C_ok : ∀ fn, Sound Kx fn (sCrash_C fn) := (sound_add (sound_add (sound_no Kx) sOk_ok) copy_ok)
def sCrash_br (l : List (List UInt8 × Int)) (c : Int) (keep : Int) : Br := (Br.ite (!(okStore l c)) (Br.ret (AV.agg ((AV.ref (List.length ([] : (List (Ob)))) (0 : Nat)) :: ((AV.int .i64 (0 : Int)) :: ([] : (List (AV)))))) ((Ob.arr (Ty.pair Ty.str (Ty.int .i64)) (0 : Nat) false ([] : (List ((List UInt8) × Int)))) :: ([] : (List (Ob))))) (Br.ite (decide ((((0 : Nat) + (List.length l)) * (24 : Nat)) ≤ (140737488355328 : Nat))) (Br.ite (decide ((0 : Int) ≤ (wrap64 (((List.length l) : Int) - (1 : Int))))) (Br.ite (decide ((wrap64 (((List.length l) : Int) - (1 : Int))) < ((List.length l) : Int))) (Br.ite (decide ((0 : Int) ≤ (wrap64 (((List.length l) : Int) - (1 : Int))))) (Br.ite (decide ((wrap64 (((List.length l) : Int) - (1 : Int))) < ((List.length l) : Int))) (Br.ite (decide (keep < (wrap64 (((List.length (List.getD l (Int.toNat (wrap64 (((List.length l) : Int) - (1 : Int)))) (([] : (List UInt8)), (0 : Int))).1) : Int) - (List.getD l (Int.toNat (wrap64 (((List.length l) : Int) - (1 : Int)))) (([] : (List UInt8)), (0 : Int))).2)))) (Br.ite (decide ((0 : Int) < keep)) (Br.ite (decide ((0 : Int) ≤ (wrap64 (((List.length l) : Int) - (1 : Int))))) (Br.ite (decide ((wrap64 (((List.length l) : Int) - (1 : Int))) < ((List.length l) : Int))) (Br.ite (decide ((0 : Int) ≤ (wrap64 ((List.getD l (Int.toNat (wrap64 (((List.length l) : Int) - (1 : Int)))) (([] : (List UInt8)), (0 : Int))).2 + keep)))) (Br.ite (decide ((wrap64 ((List.getD l (Int.toNat (wrap64 (((List.length l) : Int) - (1 : Int)))) (([] : (List UInt8)), (0 : Int))).2 + keep)) ≤ ((List.length (List.getD l (Int.toNat (wrap64 (((List.length l) : Int) - (1 : Int)))) (([] : (List UInt8)), (0 : Int))).1) : Int))) (Br.ite (decide ((0 : Int) ≤ (wrap64 (((List.length l) : Int) - (1 : Int))))) (Br.ite (decide ((wrap64 (((List.length l) : Int) - (1 : Int))) < ((List.length l) : Int))) (Br.ret (AV.agg ((AV.ref (0 : Nat) (0 : Nat)) :: ((AV.int .i64 c) :: ([] : (List (AV)))))) ((Ob.arr (Ty.pair Ty.str (Ty.int .i64)) (0 : Nat) false (List.set l (Int.toNat (wrap64 (((List.length l) : Int) - (1 : Int)))) ((cut (List.getD l (Int.toNat (wrap64 (((List.length l) : Int) - (1 : Int)))) (([] : (List UInt8)), (0 : Int))).1 (0 : Int) (wrap64 ((List.getD l (Int.toNat (wrap64 (((List.length l) : Int) - (1 : Int)))) (([] : (List UInt8)), (0 : Int))).2 + keep))), (wrap64 ((List.getD l (Int.toNat (wrap64 (((List.length l) : Int) - (1 : Int)))) (([] : (List UInt8)), (0 : Int))).2 + keep))))) :: ([] : (List (Ob))))) Br.fail) Br.fail) Br.fail) Br.fail) Br.fail) Br.fail) (Br.ite (decide ((0 : Int) ≤ (wrap64 (((List.length l) : Int) - (1 : Int))))) (Br.ite (decide ((wrap64 (((List.length l) : Int) - (1 : Int))) < ((List.length l) : Int))) (Br.ite (decide ((0 : Int) ≤ (List.getD l (Int.toNat (wrap64 (((List.length l) : Int) - (1 : Int)))) (([] : (List UInt8)), (0 : Int))).2)) (Br.ite (decide ((List.getD l (Int.toNat (wrap64 (((List.length l) : Int) - (1 : Int)))) (([] : (List UInt8)), (0 : Int))).2 ≤ ((List.length (List.getD l (Int.toNat (wrap64 (((List.length l) : Int) - (1 : Int)))) (([] : (List UInt8)), (0 : Int))).1) : Int))) (Br.ite (decide ((0 : Int) ≤ (wrap64 (((List.length l) : Int) - (1 : Int))))) (Br.ite (decide ((wrap64 (((List.length l) : Int) - (1 : Int))) < ((List.length l) : Int))) (Br.ret (AV.agg ((AV.ref (0 : Nat) (0 : Nat)) :: ((AV.int .i64 c) :: ([] : (List (AV)))))) ((Ob.arr (Ty.pair Ty.str (Ty.int .i64)) (0 : Nat) false (List.set l (Int.toNat (wrap64 (((List.length l) : Int) - (1 : Int)))) ((cut (List.getD l (Int.toNat (wrap64 (((List.length l) : Int) - (1 : Int)))) (([] : (List UInt8)), (0 : Int))).1 (0 : Int) (List.getD l (Int.toNat (wrap64 (((List.length l) : Int) - (1 : Int)))) (([] : (List UInt8)), (0 : Int))).2), (List.getD l (Int.toNat (wrap64 (((List.length l) : Int) - (1 : Int)))) (([] : (List UInt8)), (0 : Int))).2))) :: ([] : (List (Ob))))) Br.fail) Br.fail) Br.fail) Br.fail) Br.fail) Br.fail)) (Br.ite (decide ((0 : Int) < (wrap64 (((List.length (List.getD l (Int.toNat (wrap64 (((List.length l) : Int) - (1 : Int)))) (([] : (List UInt8)), (0 : Int))).1) : Int) - (List.getD l (Int.toNat (wrap64 (((List.length l) : Int) - (1 : Int)))) (([] : (List UInt8)), (0 : Int))).2)))) (Br.ite (decide ((0 : Int) ≤ (wrap64 (((List.length l) : Int) - (1 : Int))))) (Br.ite (decide ((wrap64 (((List.length l) : Int) - (1 : Int))) < ((List.length l) : Int))) (Br.ite (decide ((0 : Int) ≤ (wrap64 ((List.getD l (Int.toNat (wrap64 (((List.length l) : Int) - (1 : Int)))) (([] : (List UInt8)), (0 : Int))).2 + (wrap64 (((List.length (List.getD l (Int.toNat (wrap64 (((List.length l) : Int) - (1 : Int)))) (([] : (List UInt8)), (0 : Int))).1) : Int) - (List.getD l (Int.toNat (wrap64 (((List.length l) : Int) - (1 : Int)))) (([] : (List UInt8)), (0 : Int))).2)))))) (Br.ite (decide ((wrap64 ((List.getD l (Int.toNat (wrap64 (((List.length l) : Int) - (1 : Int)))) (([] : (List UInt8)), (0 : Int))).2 + (wrap64 (((List.length (List.getD l (Int.toNat (wrap64 (((List.length l) : Int) - (1 : Int)))) (([] : (List UInt8)), (0 : Int))).1) : Int) - (List.getD l (Int.toNat (wrap64 (((List.length l) : Int) - (1 : Int)))) (([] : (List UInt8)), (0 : Int))).2)))) ≤ ((List.length (List.getD l (Int.toNat (wrap64 (((List.length l) : Int) - (1 : Int)))) (([] : (List UInt8)), (0 : Int))).1) : Int))) (Br.ite (decide ((0 : Int) ≤ (wrap64 (((List.length l) : Int) - (1 : Int))))) (Br.ite (decide ((wrap64 (((List.length l) : Int) - (1 : Int))) < ((List.length l) : Int))) (Br.ret (AV.agg ((AV.ref (0 : Nat) (0 : Nat)) :: ((AV.int .i64 c) :: ([] : (List (AV)))))) ((Ob.arr (Ty.pair Ty.str (Ty.int .i64)) (0 : Nat) false (List.set l (Int.toNat (wrap64 (((List.length l) : Int) - (1 : Int)))) ((cut (List.getD l (Int.toNat (wrap64 (((List.length l) : Int) - (1 : Int)))) (([] : (List UInt8)), (0 : Int))).1 (0 : Int) (wrap64 ((List.getD l (Int.toNat (wrap64 (((List.length l) : Int) - (1 : Int)))) (([] : (List UInt8)), (0 : Int))).2 + (wrap64 (((List.length (List.getD l (Int.toNat (wrap64 (((List.length l) : Int) - (1 : Int)))) (([] : (List UInt8)), (0 : Int))).1) : Int) - (List.getD l (Int.toNat (wrap64 (((List.length l) : Int) - (1 : Int)))) (([] : (List UInt8)), (0 : Int))).2))))), (wrap64 ((List.getD l (Int.toNat (wrap64 (((List.length l) : Int) - (1 : Int)))) (([] : (List UInt8)), (0 : Int))).2 + (wrap64 (((List.length (List.getD l (Int.toNat (wrap64 (((List.length l) : Int) - (1 : Int)))) (([] : (List UInt8)), (0 : Int))).1) : Int) - (List.getD l (Int.toNat (wrap64 (((List.length l) : Int) - (1 : Int)))) (([] : (List UInt8)), (0 : Int))).2))))))) :: ([] : (List (Ob))))) Br.fail) Br.fail) Br.fail) Br.fail) Br.fail) Br.fail) (Br.ite (decide ((0 : Int) ≤ (wrap64 (((List.length l) : Int) - (1 : Int))))) (Br.ite (decide ((wrap64 (((List.length l) : Int) - (1 : Int))) < ((List.length l) : Int))) (Br.ite (decide ((0 : Int) ≤ (List.getD l (Int.toNat (wrap64 (((List.length l) : Int) - (1 : Int)))) (([] : (List UInt8)), (0 : Int))).2)) (Br.ite (decide ((List.getD l (Int.toNat (wrap64 (((List.length l) : Int) - (1 : Int)))) (([] : (List UInt8)), (0 : Int))).2 ≤ ((List.length (List.getD l (Int.toNat (wrap64 (((List.length l) : Int) - (1 : Int)))) (([] : (List UInt8)), (0 : Int))).1) : Int))) (Br.ite (decide ((0 : Int) ≤ (wrap64 (((List.length l) : Int) - (1 : Int))))) (Br.ite (decide ((wrap64 (((List.length l) : Int) - (1 : Int))) < ((List.length l) : Int))) (Br.ret (AV.agg ((AV.ref (0 : Nat) (0 : Nat)) :: ((AV.int .i64 c) :: ([] : (List (AV)))))) ((Ob.arr (Ty.pair Ty.str (Ty.int .i64)) (0 : Nat) false (List.set l (Int.toNat (wrap64 (((List.length l) : Int) - (1 : Int)))) ((cut (List.getD l (Int.toNat (wrap64 (((List.length l) : Int) - (1 : Int)))) (([] : (List UInt8)), (0 : Int))).1 (0 : Int) (List.getD l (Int.toNat (wrap64 (((List.length l) : Int) - (1 : Int)))) (([] : (List UInt8)), (0 : Int))).2), (List.getD l (Int.toNat (wrap64 (((List.length l) : Int) - (1 : Int)))) (([] : (List UInt8)), (0 : Int))).2))) :: ([] : (List (Ob))))) Br.fail) Br.fail) Br.fail) Br.fail) Br.fail) Br.fail))) Br.fail) Br.fail) Br.fail) Br.fail) Br.fail))
def sCrash_s : List AV → List Ob → Br
  | [.agg [.sh (.pair .str (.int .i64)) l, .int .i64 c], .int .i64 keep], [] => sCrash_br l c keep
  | _, _ => .fail
/-! impl.Crash -/
def iCrash_O : Opt := { cons := [], keepNil := false, mutF := [], live := [], outs := [] }
def iCrash_C : Spec := (add (add noS 25 iOk_s) 26 own_s)
theorem iCrash_C_ok : ∀ fn, Sound Kx fn (iCrash_C fn) := (sound_add (sound_add (sound_no Kx) iOk_ok) own_ok)
def iCrash_br (l : List (List UInt8 × Int)) (c : Int) (keep : Int) : Br := (Br.ite (smS l) (Br.ite (!(okStore l c)) (Br.ret (AV.agg ((AV.ref (List.length ([] : (List (Ob)))) (0 : Nat)) :: ((AV.int .i64 (0 : Int)) :: ([] : (List (AV)))))) ((Ob.arr (Ty.pair Ty.str (Ty.int .i64)) (0 : Nat) false ([] : (List ((List UInt8) × Int)))) :: ([] : (List (Ob))))) (Br.ite (decide ((((0 : Nat) + (List.length l)) * (24 : Nat)) ≤ (140737488355328 : Nat))) (Br.ite (decide ((0 : Int) ≤ (wrap64 (((List.length l) : Int) - (1 : Int))))) (Br.ite (decide ((wrap64 (((List.length l) : Int) - (1 : Int))) < ((List.length l) : Int))) (Br.ite (decide ((0 : Int) ≤ (wrap64 ((List.getD l (Int.toNat (wrap64 (((List.length l) : Int) - (1 : Int)))) (([] : (List UInt8)), (0 : Int))).2 + (if ((wrap64 (((List.length (List.getD l (Int.toNat (wrap64 (((List.length l) : Int) - (1 : Int)))) (([] : (List UInt8)), (0 : Int))).1) : Int) - (List.getD l (Int.toNat (wrap64 (((List.length l) : Int) - (1 : Int)))) (([] : (List UInt8)), (0 : Int))).2)) < (if ((0 : Int) < keep) then keep else (0 : Int))) then (wrap64 (((List.length (List.getD l (Int.toNat (wrap64 (((List.length l) : Int) - (1 : Int)))) (([] : (List UInt8)), (0 : Int))).1) : Int) - (List.getD l (Int.toNat (wrap64 (((List.length l) : Int) - (1 : Int)))) (([] : (List UInt8)), (0 : Int))).2)) else (if ((0 : Int) < keep) then keep else (0 : Int))))))) (Br.ite (decide ((wrap64 ((List.getD l (Int.toNat (wrap64 (((List.length l) : Int) - (1 : Int)))) (([] : (List UInt8)), (0 : Int))).2 + (if ((wrap64 (((List.length (List.getD l (Int.toNat (wrap64 (((List.length l) : Int) - (1 : Int)))) (([] : (List UInt8)), (0 : Int))).1) : Int) - (List.getD l (Int.toNat (wrap64 (((List.length l) : Int) - (1 : Int)))) (([] : (List UInt8)), (0 : Int))).2)) < (if ((0 : Int) < keep) then keep else (0 : Int))) then (wrap64 (((List.length (List.getD l (Int.toNat (wrap64 (((List.length l) : Int) - (1 : Int)))) (([] : (List UInt8)), (0 : Int))).1) : Int) - (List.getD l (Int.toNat (wrap64 (((List.length l) : Int) - (1 : Int)))) (([] : (List UInt8)), (0 : Int))).2)) else (if ((0 : Int) < keep) then keep else (0 : Int))))) ≤ ((List.length (List.getD l (Int.toNat (wrap64 (((List.length l) : Int) - (1 : Int)))) (([] : (List UInt8)), (0 : Int))).1) : Int))) (Br.ret (AV.agg ((AV.ref (0 : Nat) (0 : Nat)) :: ((AV.int .i64 c) :: ([] : (List (AV)))))) ((Ob.arr (Ty.pair Ty.str (Ty.int .i64)) (0 : Nat) false (List.set (List.set l (Int.toNat (wrap64 (((List.length l) : Int) - (1 : Int)))) ((cut (List.getD l (Int.toNat (wrap64 (((List.length l) : Int) - (1 : Int)))) (([] : (List UInt8)), (0 : Int))).1 (0 : Int) (wrap64 ((List.getD l (Int.toNat (wrap64 (((List.length l) : Int) - (1 : Int)))) (([] : (List UInt8)), (0 : Int))).2 + (if ((wrap64 (((List.length (List.getD l (Int.toNat (wrap64 (((List.length l) : Int) - (1 : Int)))) (([] : (List UInt8)), (0 : Int))).1) : Int) - (List.getD l (Int.toNat (wrap64 (((List.length l) : Int) - (1 : Int)))) (([] : (List UInt8)), (0 : Int))).2)) < (if ((0 : Int) < keep) then keep else (0 : Int))) then (wrap64 (((List.length (List.getD l (Int.toNat (wrap64 (((List.length l) : Int) - (1 : Int)))) (([] : (List UInt8)), (0 : Int))).1) : Int) - (List.getD l (Int.toNat (wrap64 (((List.length l) : Int) - (1 : Int)))) (([] : (List UInt8)), (0 : Int))).2)) else (if ((0 : Int) < keep) then keep else (0 : Int)))))), (List.getD l (Int.toNat (wrap64 (((List.length l) : Int) - (1 : Int)))) (([] : (List UInt8)), (0 : Int))).2)) (Int.toNat (wrap64 (((List.length l) : Int) - (1 : Int)))) ((List.getD (List.set l (Int.toNat (wrap64 (((List.length l) : Int) - (1 : Int)))) ((cut (List.getD l (Int.toNat (wrap64 (((List.length l) : Int) - (1 : Int)))) (([] : (List UInt8)), (0 : Int))).1 (0 : Int) (wrap64 ((List.getD l (Int.toNat (wrap64 (((List.length l) : Int) - (1 : Int)))) (([] : (List UInt8)), (0 : Int))).2 + (if ((wrap64 (((List.length (List.getD l (Int.toNat (wrap64 (((List.length l) : Int) - (1 : Int)))) (([] : (List UInt8)), (0 : Int))).1) : Int) - (List.getD l (Int.toNat (wrap64 (((List.length l) : Int) - (1 : Int)))) (([] : (List UInt8)), (0 : Int))).2)) < (if ((0 : Int) < keep) then keep else (0 : Int))) then (wrap64 (((List.length (List.getD l (Int.toNat (wrap64 (((List.length l) : Int) - (1 : Int)))) (([] : (List UInt8)), (0 : Int))).1) : Int) - (List.getD l (Int.toNat (wrap64 (((List.length l) : Int) - (1 : Int)))) (([] : (List UInt8)), (0 : Int))).2)) else (if ((0 : Int) < keep) then keep else (0 : Int)))))), (List.getD l (Int.toNat (wrap64 (((List.length l) : Int) - (1 : Int)))) (([] : (List UInt8)), (0 : Int))).2)) (Int.toNat (wrap64 (((List.length l) : Int) - (1 : Int)))) (([] : (List UInt8)), (0 : Int))).1, (wrap64 ((List.getD l (Int.toNat (wrap64 (((List.length l) : Int) - (1 : Int)))) (([] : (List UInt8)), (0 : Int))).2 + (if ((wrap64 (((List.length (List.getD l (Int.toNat (wrap64 (((List.length l) : Int) - (1 : Int)))) (([] : (List UInt8)), (0 : Int))).1) : Int) - (List.getD l (Int.toNat (wrap64 (((List.length l) : Int) - (1 : Int)))) (([] : (List UInt8)), (0 : Int))).2)) < (if ((0 : Int) < keep) then keep else (0 : Int))) then (wrap64 (((List.length (List.getD l (Int.toNat (wrap64 (((List.length l) : Int) - (1 : Int)))) (([] : (List UInt8)), (0 : Int))).1) : Int) - (List.getD l (Int.toNat (wrap64 (((List.length l) : Int) - (1 : Int)))) (([] : (List UInt8)), (0 : Int))).2)) else (if ((0 : Int) < keep) then keep else (0 : Int)))))))) :: ([] : (List (Ob))))) Br.fail) Br.fail) Br.fail) Br.fail) Br.fail)) Br.fail)
theorem iCrash_run (l : List (List UInt8 × Int)) (c : Int) (keep : Int) : runF Kx iCrash_C iCrash_O 1 Try.f6 ([.agg [.sh (.pair .str (.int .i64)) l, .int .i64 c], .int .i64 keep]) ([]) = (iCrash_br l c keep).val := by kernel_rfl
def iCrash_s : List AV → List Ob → Br
  | [.agg [.sh (.pair .str (.int .i64)) l, .int .i64 c], .int .i64 keep], [] => iCrash_br l c keep
  | _, _ => .fail
theorem iCrash_ok : Sound Kx 6 iCrash_s := by
  refine sound_run (C := iCrash_C) (O := iCrash_O) KOk iCrash_C_ok Try.func6 (by kernel_rfl) fun args objs res os h => ?_
  unfold iCrash_s at h
  split at h
  · exact ⟨1, (iCrash_run _ _ _).trans h⟩
  · cases h

/-! spec.Cut -/
def sCut_O : Opt := { cons := [41], keepNil := false, mutF := [], live := [], outs := [] }
def sCut_C : Spec := (add (add noS 7 sOk_s) 41 copy_s)
theorem sCut_C_ok : ∀ fn, Sound Kx fn (sCut_C fn) := (sound_add (sound_add (sound_no Kx) sOk_ok) copy_ok)
def sCut_br (l : List (List UInt8 × Int)) (c : Int) (n : Int) : Br := (Br.ite (!(okStore l c)) (Br.ret (AV.tup ((AV.agg ((AV.ref (List.length ([] : (List (Ob)))) (0 : Nat)) :: ((AV.int .i64 (0 : Int)) :: ([] : (List (AV)))))) :: ((AV.int .i64 (1 : Int)) :: ([] : (List (AV)))))) ((Ob.arr (Ty.pair Ty.str (Ty.int .i64)) (0 : Nat) false ([] : (List ((List UInt8) × Int)))) :: ([] : (List (Ob))))) (Br.ite (decide (n < (0 : Int))) (Br.ret (AV.tup ((AV.agg ((AV.ref (List.length ([] : (List (Ob)))) (0 : Nat)) :: ((AV.int .i64 (0 : Int)) :: ([] : (List (AV)))))) :: ((AV.int .i64 (3 : Int)) :: ([] : (List (AV)))))) ((Ob.arr (Ty.pair Ty.str (Ty.int .i64)) (0 : Nat) false ([] : (List ((List UInt8) × Int)))) :: ([] : (List (Ob))))) (Br.ite (decide ((0 : Int) ≤ (wrap64 (((List.length l) : Int) - (1 : Int))))) (Br.ite (decide ((wrap64 (((List.length l) : Int) - (1 : Int))) < ((List.length l) : Int))) (Br.ite (decide (((List.length (List.getD l (Int.toNat (wrap64 (((List.length l) : Int) - (1 : Int)))) (([] : (List UInt8)), (0 : Int))).1) : Int) < n)) (Br.ret (AV.tup ((AV.agg ((AV.ref (List.length ([] : (List (Ob)))) (0 : Nat)) :: ((AV.int .i64 (0 : Int)) :: ([] : (List (AV)))))) :: ((AV.int .i64 (3 : Int)) :: ([] : (List (AV)))))) ((Ob.arr (Ty.pair Ty.str (Ty.int .i64)) (0 : Nat) false ([] : (List ((List UInt8) × Int)))) :: ([] : (List (Ob))))) (Br.ite (decide ((((0 : Nat) + (List.length l)) * (24 : Nat)) ≤ (140737488355328 : Nat))) (Br.ite (decide (n = (0 : Int))) (Br.ite (decide ((0 : Int) < (wrap64 (((List.length l) : Int) - (1 : Int))))) (Br.ite (decide ((0 : Int) ≤ (wrap64 (((List.length l) : Int) - (1 : Int))))) (Br.ite (decide ((wrap64 (((List.length l) : Int) - (1 : Int))) ≤ ((List.length l) : Int))) (Br.ret (AV.tup ((AV.agg ((AV.ref (0 : Nat) (0 : Nat)) :: ((AV.int .i64 c) :: ([] : (List (AV)))))) :: ((AV.int .i64 (0 : Int)) :: ([] : (List (AV)))))) ((Ob.arr (Ty.pair Ty.str (Ty.int .i64)) (0 : Nat) false (cut l (0 : Int) (wrap64 (((List.length l) : Int) - (1 : Int))))) :: ([] : (List (Ob))))) Br.fail) Br.fail) (Br.ite (decide ((0 : Int) ≤ (wrap64 (((List.length l) : Int) - (1 : Int))))) (Br.ite (decide ((wrap64 (((List.length l) : Int) - (1 : Int))) < ((List.length l) : Int))) (Br.ite (decide ((0 : Int) ≤ n)) (Br.ite (decide (n ≤ ((List.length (List.getD l (Int.toNat (wrap64 (((List.length l) : Int) - (1 : Int)))) (([] : (List UInt8)), (0 : Int))).1) : Int))) (Br.ite (decide ((0 : Int) ≤ (wrap64 (((List.length l) : Int) - (1 : Int))))) (Br.ite (decide ((wrap64 (((List.length l) : Int) - (1 : Int))) < ((List.length l) : Int))) (Br.ret (AV.tup ((AV.agg ((AV.ref (0 : Nat) (0 : Nat)) :: ((AV.int .i64 c) :: ([] : (List (AV)))))) :: ((AV.int .i64 (0 : Int)) :: ([] : (List (AV)))))) ((Ob.arr (Ty.pair Ty.str (Ty.int .i64)) (0 : Nat) false (List.set l (Int.toNat (wrap64 (((List.length l) : Int) - (1 : Int)))) ((cut (List.getD l (Int.toNat (wrap64 (((List.length l) : Int) - (1 : Int)))) (([] : (List UInt8)), (0 : Int))).1 (0 : Int) n), n))) :: ([] : (List (Ob))))) Br.fail) Br.fail) Br.fail) Br.fail) Br.fail) Br.fail)) (Br.ite (decide ((0 : Int) ≤ (wrap64 (((List.length l) : Int) - (1 : Int))))) (Br.ite (decide ((wrap64 (((List.length l) : Int) - (1 : Int))) < ((List.length l) : Int))) (Br.ite (decide ((0 : Int) ≤ n)) (Br.ite (decide (n ≤ ((List.length (List.getD l (Int.toNat (wrap64 (((List.length l) : Int) - (1 : Int)))) (([] : (List UInt8)), (0 : Int))).1) : Int))) (Br.ite (decide ((0 : Int) ≤ (wrap64 (((List.length l) : Int) - (1 : Int))))) (Br.ite (decide ((wrap64 (((List.length l) : Int) - (1 : Int))) < ((List.length l) : Int))) (Br.ret (AV.tup ((AV.agg ((AV.ref (0 : Nat) (0 : Nat)) :: ((AV.int .i64 c) :: ([] : (List (AV)))))) :: ((AV.int .i64 (0 : Int)) :: ([] : (List (AV)))))) ((Ob.arr (Ty.pair Ty.str (Ty.int .i64)) (0 : Nat) false (List.set l (Int.toNat (wrap64 (((List.length l) : Int) - (1 : Int)))) ((cut (List.getD l (Int.toNat (wrap64 (((List.length l) : Int) - (1 : Int)))) (([] : (List UInt8)), (0 : Int))).1 (0 : Int) n), n))) :: ([] : (List (Ob))))) Br.fail) Br.fail) Br.fail) Br.fail) Br.fail) Br.fail)) Br.fail)) Br.fail) Br.fail)))
def sCut_s : List AV → List Ob → Br
  | [.agg [.sh (.pair .str (.int .i64)) l, .int .i64 c], .int .i64 n], [] => sCut_br l c n
  | _, _ => .fail
/-! impl.Cut -/
def iCut_O : Opt := { cons := [41], keepNil := false, mutF := [], live := [], outs := [] }
def iCut_C : Spec := (add (add (add (add noS 25 iOk_s) 26 own_s) 30 last_s) 32 iwithin_s)
theorem iCut_C_ok : ∀ fn, Sound Kx fn (iCut_C fn) := (sound_add (sound_add (sound_add (sound_add (sound_no Kx) iOk_ok) own_ok) last_ok) iwithin_ok)
def iCut_br (l : List (List UInt8 × Int)) (c : Int) (n : Int) : Br := (Br.ite (smS l) (Br.ite (!(okStore l c)) (Br.ret (AV.tup ((AV.agg ((AV.ref (List.length ([] : (List (Ob)))) (0 : Nat)) :: ((AV.int .i64 (0 : Int)) :: ([] : (List (AV)))))) :: ((AV.int .i64 (1 : Int)) :: ([] : (List (AV)))))) ((Ob.arr (Ty.pair Ty.str (Ty.int .i64)) (0 : Nat) false ([] : (List ((List UInt8) × Int)))) :: ([] : (List (Ob))))) (Br.ite (decide ((0 : Int) ≤ (wrap64 (((List.length l) : Int) - (1 : Int))))) (Br.ite (decide ((wrap64 (((List.length l) : Int) - (1 : Int))) < ((List.length l) : Int))) (Br.ite (decide ((0 : Int) ≤ n)) (Br.ite (!(decide (n ≤ ((List.length (List.getD l (Int.toNat (wrap64 (((List.length l) : Int) - (1 : Int)))) (([] : (List UInt8)), (0 : Int))).1) : Int)))) (Br.ret (AV.tup ((AV.agg ((AV.ref (List.length ([] : (List (Ob)))) (0 : Nat)) :: ((AV.int .i64 (0 : Int)) :: ([] : (List (AV)))))) :: ((AV.int .i64 (3 : Int)) :: ([] : (List (AV)))))) ((Ob.arr (Ty.pair Ty.str (Ty.int .i64)) (0 : Nat) false ([] : (List ((List UInt8) × Int)))) :: ([] : (List (Ob))))) (Br.ite (decide ((((0 : Nat) + (List.length l)) * (24 : Nat)) ≤ (140737488355328 : Nat))) (Br.ite (decide ((0 : Int) ≤ (wrap64 (((List.length l) : Int) - (1 : Int))))) (Br.ite (decide ((wrap64 (((List.length l) : Int) - (1 : Int))) < ((List.length l) : Int))) (Br.ite (decide (n = (0 : Int))) (Br.ite (decide ((1 : Int) < ((List.length l) : Int))) (Br.ite (decide ((0 : Int) ≤ (wrap64 (((List.length l) : Int) - (1 : Int))))) (Br.ite (decide ((wrap64 (((List.length l) : Int) - (1 : Int))) ≤ ((List.length l) : Int))) (Br.ret (AV.tup ((AV.agg ((AV.ref (0 : Nat) (0 : Nat)) :: ((AV.int .i64 c) :: ([] : (List (AV)))))) :: ((AV.int .i64 (0 : Int)) :: ([] : (List (AV)))))) ((Ob.arr (Ty.pair Ty.str (Ty.int .i64)) (0 : Nat) false (cut l (0 : Int) (wrap64 (((List.length l) : Int) - (1 : Int))))) :: ([] : (List (Ob))))) Br.fail) Br.fail) (Br.ite (decide ((0 : Int) ≤ n)) (Br.ite (decide (n ≤ ((List.length (List.getD l (Int.toNat (wrap64 (((List.length l) : Int) - (1 : Int)))) (([] : (List UInt8)), (0 : Int))).1) : Int))) (Br.ret (AV.tup ((AV.agg ((AV.ref (0 : Nat) (0 : Nat)) :: ((AV.int .i64 c) :: ([] : (List (AV)))))) :: ((AV.int .i64 (0 : Int)) :: ([] : (List (AV)))))) ((Ob.arr (Ty.pair Ty.str (Ty.int .i64)) (0 : Nat) false (List.set (List.set l (Int.toNat (wrap64 (((List.length l) : Int) - (1 : Int)))) ((cut (List.getD l (Int.toNat (wrap64 (((List.length l) : Int) - (1 : Int)))) (([] : (List UInt8)), (0 : Int))).1 (0 : Int) n), (List.getD l (Int.toNat (wrap64 (((List.length l) : Int) - (1 : Int)))) (([] : (List UInt8)), (0 : Int))).2)) (Int.toNat (wrap64 (((List.length l) : Int) - (1 : Int)))) ((List.getD (List.set l (Int.toNat (wrap64 (((List.length l) : Int) - (1 : Int)))) ((cut (List.getD l (Int.toNat (wrap64 (((List.length l) : Int) - (1 : Int)))) (([] : (List UInt8)), (0 : Int))).1 (0 : Int) n), (List.getD l (Int.toNat (wrap64 (((List.length l) : Int) - (1 : Int)))) (([] : (List UInt8)), (0 : Int))).2)) (Int.toNat (wrap64 (((List.length l) : Int) - (1 : Int)))) (([] : (List UInt8)), (0 : Int))).1, n))) :: ([] : (List (Ob))))) Br.fail) Br.fail)) (Br.ite (decide ((0 : Int) ≤ n)) (Br.ite (decide (n ≤ ((List.length (List.getD l (Int.toNat (wrap64 (((List.length l) : Int) - (1 : Int)))) (([] : (List UInt8)), (0 : Int))).1) : Int))) (Br.ret (AV.tup ((AV.agg ((AV.ref (0 : Nat) (0 : Nat)) :: ((AV.int .i64 c) :: ([] : (List (AV)))))) :: ((AV.int .i64 (0 : Int)) :: ([] : (List (AV)))))) ((Ob.arr (Ty.pair Ty.str (Ty.int .i64)) (0 : Nat) false (List.set (List.set l (Int.toNat (wrap64 (((List.length l) : Int) - (1 : Int)))) ((cut (List.getD l (Int.toNat (wrap64 (((List.length l) : Int) - (1 : Int)))) (([] : (List UInt8)), (0 : Int))).1 (0 : Int) n), (List.getD l (Int.toNat (wrap64 (((List.length l) : Int) - (1 : Int)))) (([] : (List UInt8)), (0 : Int))).2)) (Int.toNat (wrap64 (((List.length l) : Int) - (1 : Int)))) ((List.getD (List.set l (Int.toNat (wrap64 (((List.length l) : Int) - (1 : Int)))) ((cut (List.getD l (Int.toNat (wrap64 (((List.length l) : Int) - (1 : Int)))) (([] : (List UInt8)), (0 : Int))).1 (0 : Int) n), (List.getD l (Int.toNat (wrap64 (((List.length l) : Int) - (1 : Int)))) (([] : (List UInt8)), (0 : Int))).2)) (Int.toNat (wrap64 (((List.length l) : Int) - (1 : Int)))) (([] : (List UInt8)), (0 : Int))).1, n))) :: ([] : (List (Ob))))) Br.fail) Br.fail)) Br.fail) Br.fail) Br.fail)) (Br.ret (AV.tup ((AV.agg ((AV.ref (List.length ([] : (List (Ob)))) (0 : Nat)) :: ((AV.int .i64 (0 : Int)) :: ([] : (List (AV)))))) :: ((AV.int .i64 (3 : Int)) :: ([] : (List (AV)))))) ((Ob.arr (Ty.pair Ty.str (Ty.int .i64)) (0 : Nat) false ([] : (List ((List UInt8) × Int)))) :: ([] : (List (Ob)))))) Br.fail) Br.fail)) Br.fail)
theorem iCut_run (l : List (List UInt8 × Int)) (c : Int) (n : Int) : runF Kx iCut_C iCut_O 1 Try.f20 ([.agg [.sh (.pair .str (.int .i64)) l, .int .i64 c], .int .i64 n]) ([]) = (iCut_br l c n).val := by kernel_rfl
def iCut_s : List AV → List Ob → Br
  | [.agg [.sh (.pair .str (.int .i64)) l, .int .i64 c], .int .i64 n], [] => iCut_br l c n
  | _, _ => .fail
theorem iCut_ok : Sound Kx 20 iCut_s := by
  refine sound_run (C := iCut_C) (O := iCut_O) KOk iCut_C_ok Try.func20 (by kernel_rfl) fun args objs res os h => ?_
  unfold iCut_s at h
  split at h
  · exact ⟨1, (iCut_run _ _ _).trans h⟩
  · cases h

/-! spec.Roll -/
def sRoll_O : Opt := { cons := [], keepNil := false, mutF := [], live := [], outs := [] }
def sRoll_C : Spec := (add (add noS 7 sOk_s) 31 sSync_s)
theorem sRoll_C_ok : ∀ fn, Sound Kx fn (sRoll_C fn) := (sound_add (sound_add (sound_no Kx) sOk_ok) sSync_ok)
def sRoll_br (l : List (List UInt8 × Int)) (c : Int) : Br := (Br.ite (!(okStore l c)) (Br.ret (AV.tup ((AV.agg ((AV.ref (List.length ([] : (List (Ob)))) (0 : Nat)) :: ((AV.int .i64 (0 : Int)) :: ([] : (List (AV)))))) :: ((AV.int .i64 (1 : Int)) :: ([] : (List (AV)))))) ((Ob.arr (Ty.pair Ty.str (Ty.int .i64)) (0 : Nat) false ([] : (List ((List UInt8) × Int)))) :: ([] : (List (Ob))))) (Br.ite (decide ((0 : Int) ≤ (wrap64 (((List.length l) : Int) - (1 : Int))))) (Br.ite (decide ((wrap64 (((List.length l) : Int) - (1 : Int))) < ((List.length l) : Int))) (Br.ite (decide (((List.length (List.getD l (Int.toNat (wrap64 (((List.length l) : Int) - (1 : Int)))) (([] : (List UInt8)), (0 : Int))).1) : Int) = (0 : Int))) (Br.ret (AV.tup ((AV.agg ((AV.ref (List.length ([] : (List (Ob)))) (0 : Nat)) :: ((AV.int .i64 (0 : Int)) :: ([] : (List (AV)))))) :: ((AV.int .i64 (3 : Int)) :: ([] : (List (AV)))))) ((Ob.arr (Ty.pair Ty.str (Ty.int .i64)) (0 : Nat) false ([] : (List ((List UInt8) × Int)))) :: ([] : (List (Ob))))) (Br.ite (decide (((List.length l) : Int) = (40 : Int))) (Br.ret (AV.tup ((AV.agg ((AV.ref (List.length ([] : (List (Ob)))) (0 : Nat)) :: ((AV.int .i64 (0 : Int)) :: ([] : (List (AV)))))) :: ((AV.int .i64 (2 : Int)) :: ([] : (List (AV)))))) ((Ob.arr (Ty.pair Ty.str (Ty.int .i64)) (0 : Nat) false ([] : (List ((List UInt8) × Int)))) :: ([] : (List (Ob))))) (Br.ite (!(okStore l c)) (Br.ret (AV.tup ((AV.agg ((AV.ref (0 : Nat) (0 : Nat)) :: ((AV.int .i64 (0 : Int)) :: ([] : (List (AV)))))) :: ((AV.int .i64 (0 : Int)) :: ([] : (List (AV)))))) ((Ob.arr (Ty.pair Ty.str (Ty.int .i64)) (0 : Nat) false (List.set (List.replicate (1 : Nat) (([] : (List UInt8)), (0 : Int))) (0 : Nat) (([] : (List UInt8)), (0 : Int)))) :: ([] : (List (Ob))))) (Br.ite (decide ((((0 : Nat) + (List.length l)) * (24 : Nat)) ≤ (140737488355328 : Nat))) (Br.ite (decide ((0 : Int) ≤ (wrap64 (((List.length l) : Int) - (1 : Int))))) (Br.ite (decide ((wrap64 (((List.length l) : Int) - (1 : Int))) < ((List.length l) : Int))) (Br.ite (decide ((0 : Int) ≤ (wrap64 (((List.length l) : Int) - (1 : Int))))) (Br.ite (decide ((wrap64 (((List.length l) : Int) - (1 : Int))) < ((List.length l) : Int))) (Br.ite (decide ((0 : Int) ≤ (wrap64 (((List.length l) : Int) - (1 : Int))))) (Br.ite (decide ((wrap64 (((List.length l) : Int) - (1 : Int))) < ((List.length l) : Int))) (Br.ite (decide ((((List.length (List.set l (Int.toNat (wrap64 (((List.length l) : Int) - (1 : Int)))) ((List.getD l (Int.toNat (wrap64 (((List.length l) : Int) - (1 : Int)))) (([] : (List UInt8)), (0 : Int))).1, ((List.length (List.getD l (Int.toNat (wrap64 (((List.length l) : Int) - (1 : Int)))) (([] : (List UInt8)), (0 : Int))).1) : Int)))) + (1 : Nat)) * (24 : Nat)) ≤ (140737488355328 : Nat))) (Br.ret (AV.tup ((AV.agg ((AV.ref (0 : Nat) (0 : Nat)) :: ((AV.int .i64 c) :: ([] : (List (AV)))))) :: ((AV.int .i64 (0 : Int)) :: ([] : (List (AV)))))) ((Ob.arr (Ty.pair Ty.str (Ty.int .i64)) (0 : Nat) false ((List.set l (Int.toNat (wrap64 (((List.length l) : Int) - (1 : Int)))) ((List.getD l (Int.toNat (wrap64 (((List.length l) : Int) - (1 : Int)))) (([] : (List UInt8)), (0 : Int))).1, ((List.length (List.getD l (Int.toNat (wrap64 (((List.length l) : Int) - (1 : Int)))) (([] : (List UInt8)), (0 : Int))).1) : Int))) ++ (List.set (List.replicate (1 : Nat) (([] : (List UInt8)), (0 : Int))) (0 : Nat) (([] : (List UInt8)), (0 : Int))))) :: ([] : (List (Ob))))) Br.fail) Br.fail) Br.fail) Br.fail) Br.fail) Br.fail) Br.fail) Br.fail)))) Br.fail) Br.fail))
theorem sRoll_run (l : List (List UInt8 × Int)) (c : Int) : runF Kx sRoll_C sRoll_O 1 Try.f19 ([.agg [.sh (.pair .str (.int .i64)) l, .int .i64 c]]) ([]) = (sRoll_br l c).val := by kernel_rfl
def sRoll_s : List AV → List Ob → Br
  | [.agg [.sh (.pair .str (.int .i64)) l, .int .i64 c]], [] => sRoll_br l c
  | _, _ => .fail
theorem sRoll_ok : Sound Kx 19 sRoll_s := by
  refine sound_run (C := sRoll_C) (O := sRoll_O) KOk sRoll_C_ok Try.func19 (by kernel_rfl) fun args objs res os h => ?_
  unfold sRoll_s at h
  split at h
  · exact ⟨1, (sRoll_run _ _).trans h⟩
  · cases h

/-! impl.Roll -/
def iRoll_O : Opt := { cons := [], keepNil := false, mutF := [], live := [], outs := [] }
def iRoll_C : Spec := (add (add (add noS 25 iOk_s) 30 last_s) 16 iSync_s)
theorem iRoll_C_ok : ∀ fn, Sound Kx fn (iRoll_C fn) := (sound_add (sound_add (sound_add (sound_no Kx) iOk_ok) last_ok) iSync_ok)
def iRoll_br (l : List (List UInt8 × Int)) (c : Int) : Br := (Br.ite (smS l) (Br.ite (!(okStore l c)) (Br.ret (AV.tup ((AV.agg ((AV.ref (List.length ([] : (List (Ob)))) (0 : Nat)) :: ((AV.int .i64 (0 : Int)) :: ([] : (List (AV)))))) :: ((AV.int .i64 (1 : Int)) :: ([] : (List (AV)))))) ((Ob.arr (Ty.pair Ty.str (Ty.int .i64)) (0 : Nat) false ([] : (List ((List UInt8) × Int)))) :: ([] : (List (Ob))))) (Br.ite (decide ((0 : Int) ≤ (wrap64 (((List.length l) : Int) - (1 : Int))))) (Br.ite (decide ((wrap64 (((List.length l) : Int) - (1 : Int))) < ((List.length l) : Int))) (Br.ite (decide ((List.getD l (Int.toNat (wrap64 (((List.length l) : Int) - (1 : Int)))) (([] : (List UInt8)), (0 : Int))).1 = ([] : (List UInt8)))) (Br.ret (AV.tup ((AV.agg ((AV.ref (List.length ([] : (List (Ob)))) (0 : Nat)) :: ((AV.int .i64 (0 : Int)) :: ([] : (List (AV)))))) :: ((AV.int .i64 (3 : Int)) :: ([] : (List (AV)))))) ((Ob.arr (Ty.pair Ty.str (Ty.int .i64)) (0 : Nat) false ([] : (List ((List UInt8) × Int)))) :: ([] : (List (Ob))))) (Br.ite (decide (((List.length l) : Int) = (40 : Int))) (Br.ret (AV.tup ((AV.agg ((AV.ref (List.length ([] : (List (Ob)))) (0 : Nat)) :: ((AV.int .i64 (0 : Int)) :: ([] : (List (AV)))))) :: ((AV.int .i64 (2 : Int)) :: ([] : (List (AV)))))) ((Ob.arr (Ty.pair Ty.str (Ty.int .i64)) (0 : Nat) false ([] : (List ((List UInt8) × Int)))) :: ([] : (List (Ob))))) (Br.ite (smS l) (Br.ite (!(okStore l c)) (Br.ret (AV.tup ((AV.agg ((AV.ref (0 : Nat) (0 : Nat)) :: ((AV.int .i64 (0 : Int)) :: ([] : (List (AV)))))) :: ((AV.int .i64 (0 : Int)) :: ([] : (List (AV)))))) ((Ob.arr (Ty.pair Ty.str (Ty.int .i64)) (0 : Nat) false (List.set (List.replicate (1 : Nat) (([] : (List UInt8)), (0 : Int))) (0 : Nat) (([] : (List UInt8)), (0 : Int)))) :: ([] : (List (Ob))))) (Br.ite (decide ((((0 : Nat) + (List.length l)) * (24 : Nat)) ≤ (140737488355328 : Nat))) (Br.ite (decide ((0 : Int) ≤ (wrap64 (((List.length l) : Int) - (1 : Int))))) (Br.ite (decide ((wrap64 (((List.length l) : Int) - (1 : Int))) < ((List.length l) : Int))) (Br.ite (decide ((((List.length (List.set l (Int.toNat (wrap64 (((List.length l) : Int) - (1 : Int)))) ((List.getD l (Int.toNat (wrap64 (((List.length l) : Int) - (1 : Int)))) (([] : (List UInt8)), (0 : Int))).1, ((List.length (List.getD l (Int.toNat (wrap64 (((List.length l) : Int) - (1 : Int)))) (([] : (List UInt8)), (0 : Int))).1) : Int)))) + (1 : Nat)) * (24 : Nat)) ≤ (140737488355328 : Nat))) (Br.ret (AV.tup ((AV.agg ((AV.ref (0 : Nat) (0 : Nat)) :: ((AV.int .i64 c) :: ([] : (List (AV)))))) :: ((AV.int .i64 (0 : Int)) :: ([] : (List (AV)))))) ((Ob.arr (Ty.pair Ty.str (Ty.int .i64)) (0 : Nat) false ((List.set l (Int.toNat (wrap64 (((List.length l) : Int) - (1 : Int)))) ((List.getD l (Int.toNat (wrap64 (((List.length l) : Int) - (1 : Int)))) (([] : (List UInt8)), (0 : Int))).1, ((List.length (List.getD l (Int.toNat (wrap64 (((List.length l) : Int) - (1 : Int)))) (([] : (List UInt8)), (0 : Int))).1) : Int))) ++ (List.set (List.replicate (1 : Nat) (([] : (List UInt8)), (0 : Int))) (0 : Nat) (([] : (List UInt8)), (0 : Int))))) :: ([] : (List (Ob))))) Br.fail) Br.fail) Br.fail) Br.fail)) Br.fail))) Br.fail) Br.fail)) Br.fail)
theorem iRoll_run (l : List (List UInt8 × Int)) (c : Int) : runF Kx iRoll_C iRoll_O 1 Try.f18 ([.agg [.sh (.pair .str (.int .i64)) l, .int .i64 c]]) ([]) = (iRoll_br l c).val := by kernel_rfl
def iRoll_s : List AV → List Ob → Br
  | [.agg [.sh (.pair .str (.int .i64)) l, .int .i64 c]], [] => iRoll_br l c
  | _, _ => .fail
theorem iRoll_ok : Sound Kx 18 iRoll_s := by
  refine sound_run (C := iRoll_C) (O := iRoll_O) KOk iRoll_C_ok Try.func18 (by kernel_rfl) fun args objs res os h => ?_
  unfold iRoll_s at h
  split at h
  · exact ⟨1, (iRoll_run _ _).trans h⟩
  · cases h

/-! impl.Append -/
def iAppend_O : Opt := { cons := [], keepNil := false, mutF := [], live := [], outs := [] }
def iAppend_C : Spec := (add (add (add noS 25 iOk_s) 38 used_s) 26 own_s)
theorem iAppend_C_ok : ∀ fn, Sound Kx fn (iAppend_C fn) := (sound_add (sound_add (sound_add (sound_no Kx) iOk_ok) used_ok) own_ok)
def iAppend_br (l : List (List UInt8 × Int)) (c : Int) (b : List UInt8) : Br := (Br.ite (smS l) (Br.ite (!(okStore l c)) (Br.ret (AV.tup ((AV.agg ((AV.ref (List.length ([] : (List (Ob)))) (0 : Nat)) :: ((AV.int .i64 (0 : Int)) :: ([] : (List (AV)))))) :: ((AV.int .i64 (1 : Int)) :: ([] : (List (AV)))))) ((Ob.arr (Ty.pair Ty.str (Ty.int .i64)) (0 : Nat) false ([] : (List ((List UInt8) × Int)))) :: ([] : (List (Ob))))) (Br.ite ((decide ((List.length l) ≤ (281474976710656 : Nat))) && (decide ((total l) ≤ (4611686018427387904 : Nat)))) (Br.ite (decide ((wrap64 (c - (((total l) : Nat) : Int))) < ((List.length b) : Int))) (Br.ret (AV.tup ((AV.agg ((AV.ref (List.length ([] : (List (Ob)))) (0 : Nat)) :: ((AV.int .i64 (0 : Int)) :: ([] : (List (AV)))))) :: ((AV.int .i64 (2 : Int)) :: ([] : (List (AV)))))) ((Ob.arr (Ty.pair Ty.str (Ty.int .i64)) (0 : Nat) false ([] : (List ((List UInt8) × Int)))) :: ([] : (List (Ob))))) (Br.ite (decide ((((0 : Nat) + (List.length l)) * (24 : Nat)) ≤ (140737488355328 : Nat))) (Br.ite (decide ((0 : Int) ≤ (wrap64 (((List.length l) : Int) - (1 : Int))))) (Br.ite (decide ((wrap64 (((List.length l) : Int) - (1 : Int))) < ((List.length l) : Int))) (Br.ite (decide (((((List.length (List.getD l (Int.toNat (wrap64 (((List.length l) : Int) - (1 : Int)))) (([] : (List UInt8)), (0 : Int))).1) + (List.length b)) : Nat) : Int) ≤ (9223372036854775807 : Int))) (Br.ret (AV.tup ((AV.agg ((AV.ref (0 : Nat) (0 : Nat)) :: ((AV.int .i64 c) :: ([] : (List (AV)))))) :: ((AV.int .i64 (0 : Int)) :: ([] : (List (AV)))))) ((Ob.arr (Ty.pair Ty.str (Ty.int .i64)) (0 : Nat) false (List.set l (Int.toNat (wrap64 (((List.length l) : Int) - (1 : Int)))) (((List.getD l (Int.toNat (wrap64 (((List.length l) : Int) - (1 : Int)))) (([] : (List UInt8)), (0 : Int))).1 ++ b), (List.getD l (Int.toNat (wrap64 (((List.length l) : Int) - (1 : Int)))) (([] : (List UInt8)), (0 : Int))).2))) :: ([] : (List (Ob))))) Br.fail) Br.fail) Br.fail) Br.fail)) Br.fail)) Br.fail)
theorem iAppend_run (l : List (List UInt8 × Int)) (c : Int) (b : List UInt8) : runF Kx iAppend_C iAppend_O 1 Try.f28 ([.agg [.sh (.pair .str (.int .i64)) l, .int .i64 c], .str b]) ([]) = (iAppend_br l c b).val := by kernel_rfl
def iAppend_s : List AV → List Ob → Br
  | [.agg [.sh (.pair .str (.int .i64)) l, .int .i64 c], .str b], [] => iAppend_br l c b
  | _, _ => .fail
theorem iAppend_ok : Sound Kx 28 iAppend_s := by
  refine sound_run (C := iAppend_C) (O := iAppend_O) KOk iAppend_C_ok Try.func28 (by kernel_rfl) fun args objs res os h => ?_
  unfold iAppend_s at h
  split at h
  · exact ⟨1, (iAppend_run _ _ _).trans h⟩
  · cases h

/-! spec.AllBytes -/
def sAll_O : Opt := { cons := [], keepNil := false, mutF := [], live := [(5, [1, 3, 4])], outs := [(5, [2, 3])] }
def sAll_C : Spec := (add noS 7 sOk_s)
theorem sAll_C_ok : ∀ fn, Sound Kx fn (sAll_C fn) := (sound_add (sound_no Kx) sOk_ok)
def sAll_T5 (v5x0 : Int) (v5x1 : (List ((List UInt8) × Int))) (v5x2 : Int) (v5x3 : (List Int)) (kR5 : Int → (List ((List UInt8) × Int)) → Int → (List Int) → Option Rs) (k5e0 : (List Int) → Option Rs) : Option Rs :=
  (bif (decide (v5x0 < ((List.length v5x1) : Int))) then (bif (decide ((0 : Int) ≤ v5x0)) then (bif (decide (v5x0 < ((List.length v5x1) : Int))) then (bif (decide ((((List.length v5x3) + (List.length (bytesOf (List.getD v5x1 (Int.toNat v5x0) (([] : (List UInt8)), (0 : Int))).1))) * (1 : Nat)) ≤ (140737488355328 : Nat))) then (kR5 (wrap64 (v5x0 + (1 : Int))) v5x1 v5x2 (v5x3 ++ (bytesOf (List.getD v5x1 (Int.toNat v5x0) (([] : (List UInt8)), (0 : Int))).1))) else (none)) else (none)) else (none)) else (k5e0 v5x3))
def sAll_F5 : Nat → Int → (List ((List UInt8) × Int)) → Int → (List Int) → ((List Int) → Option Rs) → Option Rs
  | 0, _, _, _, _, _ => none
  | n + 1, v5x0, v5x1, v5x2, v5x3, k5e0 => sAll_T5 v5x0 v5x1 v5x2 v5x3 (fun v5x0 v5x1 v5x2 v5x3 => sAll_F5 n v5x0 v5x1 v5x2 v5x3 k5e0) k5e0
def sAll_h5 (v5x0 : Int) (v5x1 : (List ((List UInt8) × Int))) (v5x2 : Int) (v5x3 : (List Int)) : St := (St.mk (slots 0 25 [(1, (AV.ptr (128 : Nat) (0 : Nat))), (3, (AV.ref (256 : Nat) (0 : Nat))), (4, (AV.int .i64 v5x0))]) (((128 : Nat), (Ob.var ((AV.sh (Ty.pair Ty.str (Ty.int .i64)) v5x1) :: ((AV.int .i64 v5x2) :: ([] : (List (AV))))))) :: (((256 : Nat), (Ob.arr (Ty.int .u8) (0 : Nat) false v5x3)) :: ([] : (List (Nat × (Ob)))))))
def sAll_x5e0 (x5x0x0 : (List Int)) : St := (St.mk (slots 0 25 [(3, (AV.ref (256 : Nat) (0 : Nat)))]) (((256 : Nat), (Ob.arr (Ty.int .u8) (0 : Nat) false x5x0x0)) :: ([] : (List (Nat × (Ob))))))
noncomputable def sAll_b5 : Code := codeAt (codeOf Try.f9) [1, 1, 1, 0, 1, 0, 0]
def sAll_L5 (N : Nat) (st : St) (k : Ex → St → Option Rs) : Option Rs := match takeF [1, 3, 4] 0 25 st.env, st.objs with
  | some [.ptr 128 0, .ref 256 0, .int .i64 v5x0], [(128, .var [.sh (Ty.pair Ty.str (Ty.int .i64)) v5x1, .int .i64 v5x2]), (256, .arr (Ty.int .u8) 0 false v5x3)] => sAll_F5 N v5x0 v5x1 v5x2 v5x3 (fun x5x0x0 => k (Ex.exit (0 : Nat)) (sAll_x5e0 x5x0x0))
  | _, _ => none
def sAll_L (N : Nat) : Lam := fun j st k => match j with
  | 5 => sAll_L5 N st k
  | _ => none
theorem sAll_round5 (N : Nat) (again : St → Option Rs) (k : Ex → St → Option Rs) (wv5x0 : Int) (wv5x1 : (List ((List UInt8) × Int))) (wv5x2 : Int) (wv5x3 : (List Int)) (v5x0 : Int) (v5x1 : (List ((List UInt8) × Int))) (v5x2 : Int) (v5x3 : (List Int)) :
    roundK 0 (fun st k => evL Kx sAll_C sAll_O 0 (sAll_L N) sAll_b5 st k) (sAll_h5 wv5x0 wv5x1 wv5x2 wv5x3).env again (sAll_h5 v5x0 v5x1 v5x2 v5x3) (outK sAll_O 0 sAll_b5 k) = sAll_T5 v5x0 v5x1 v5x2 v5x3 (fun v5x0 v5x1 v5x2 v5x3 => again (sAll_h5 v5x0 v5x1 v5x2 v5x3)) (fun x5x0x0 => k (Ex.exit (0 : Nat)) (sAll_x5e0 x5x0x0)) := by kernel_rfl
theorem sAll_loop5 (N : Nat) (k : Ex → St → Option Rs) (wv5x0 : Int) (wv5x1 : (List ((List UInt8) × Int))) (wv5x2 : Int) (wv5x3 : (List Int)) : ∀ (n : Nat) (v5x0 : Int) (v5x1 : (List ((List UInt8) × Int))) (v5x2 : Int) (v5x3 : (List Int)),
    loopK 0 (fun st k => evL Kx sAll_C sAll_O 0 (sAll_L N) sAll_b5 st k) (sAll_h5 wv5x0 wv5x1 wv5x2 wv5x3).env n (sAll_h5 v5x0 v5x1 v5x2 v5x3) (outK sAll_O 0 sAll_b5 k) = sAll_F5 n v5x0 v5x1 v5x2 v5x3 (fun x5x0x0 => k (Ex.exit (0 : Nat)) (sAll_x5e0 x5x0x0))
  | 0, _, _, _, _ => rfl
  | n + 1, v5x0, v5x1, v5x2, v5x3 => by
    rw [loopK_succ, sAll_round5]
    simp only [sAll_loop5 N k wv5x0 wv5x1 wv5x2 wv5x3 n]
    rfl
theorem sAll_at5 (N : Nat) {s : St} {k : Ex → St → Option Rs} {r : Rs} (h : sAll_L5 N s k = some r) : ∃ (v5x0 : Int) (v5x1 : (List ((List UInt8) × Int))) (v5x2 : Int) (v5x3 : (List Int)), s = (sAll_h5 v5x0 v5x1 v5x2 v5x3) ∧ sAll_F5 N v5x0 v5x1 v5x2 v5x3 (fun x5x0x0 => k (Ex.exit (0 : Nat)) (sAll_x5e0 x5x0x0)) = some r := by
  cases s with | mk env objs =>
  unfold sAll_L5 at h
  split at h
  · rename_i e1 e2
    have e3 := takeF_slots _ _ _ _ e1
    simp only at e2 e3
    subst e2 e3
    exact ⟨_, _, _, _, rfl, h⟩
  · cases h
theorem sAll_in5 : loops sAll_b5 = [] := by kernel_rfl
theorem sAll_lid5 : lid sAll_b5 = 5 := by kernel_rfl
theorem sAll_ok5 (N : Nat) : OkL Kx sAll_C sAll_O 0 N (sAll_L N) sAll_b5 := by
  intro s k k' r hk h
  rw [sAll_lid5] at h
  obtain ⟨v5x0, v5x1, v5x2, v5x3, rfl, h⟩ := sAll_at5 N h
  refine loopL (Λ := sAll_L N) sAll_b5 ?_ N hk ((sAll_loop5 N k v5x0 v5x1 v5x2 v5x3 N v5x0 v5x1 v5x2 v5x3).trans h)
  rw [sAll_in5]
  exact fun _ h => nomatch h
def sAll_run (N : Nat) (l : List (List UInt8 × Int)) (c : Int) : Option Rs := (bif (!(okStore l c)) then (some ((AV.str ([] : (List UInt8))), ([] : (List (Ob))))) else (sAll_F5 N (0 : Int) l c ([] : (List Int)) (fun x5x0x0 => (some ((AV.str (ofBytes x5x0x0)), ([] : (List (Ob))))))))
theorem sAll_runL (N : Nat) (l : List (List UInt8 × Int)) (c : Int) : runL Kx sAll_C sAll_O (sAll_L N) Try.f9 ([.agg [.sh (.pair .str (.int .i64)) l, .int .i64 c]]) ([]) = sAll_run N l c := by kernel_rfl
theorem sAll_body : Try.f9.body = some (codeOf Try.f9) := by kernel_rfl
theorem sAll_loops : loops (codeOf Try.f9) = [sAll_b5] := by kernel_rfl
theorem sAll_ev (N : Nat) (l : List (List UInt8 × Int)) (c : Int) {r : Rs} (h : sAll_run N l c = some r) : ∃ n, runF Kx sAll_C sAll_O n Try.f9 ([.agg [.sh (.pair .str (.int .i64)) l, .int .i64 c]]) ([]) = some r :=
  ⟨N, runL_runF sAll_body (by rw [sAll_loops]; exact List.forall_mem_cons.2 ⟨sAll_ok5 N, fun _ h => nomatch h⟩) ((sAll_runL N l c).trans h)⟩
def sAll_sOf (φ : (List (List UInt8 × Int)) → Int → Br) : List AV → List Ob → Br
  | [.agg [.sh (.pair .str (.int .i64)) l, .int .i64 c]], [] => φ l c
  | _, _ => .fail
theorem sAll_okOf {φ : (List (List UInt8 × Int)) → Int → Br} (fu : (List (List UInt8 × Int)) → Int → Nat) (hv : ∀ l c r, (φ l c).val = some r → sAll_run (fu l c) l c = some r) : Sound Kx 9 (sAll_sOf φ) := by
  refine sound_run (C := sAll_C) (O := sAll_O) KOk sAll_C_ok Try.func9 (by kernel_rfl) fun args objs res os h => ?_
  unfold sAll_sOf at h
  split at h
  · exact sAll_ev _ _ _ (hv _ _ _ h)
  · cases h

end Go.Proofs.Ytmigffdeghfbhaa.Ev

namespace Go.Proofs.Ytmigffdeghfbhaa.Ev
open Go Go.RowKit
set_option linter.unusedVariables false
set_option linter.unusedSimpArgs false

/-! The last segment. -/
theorem total_snoc : ∀ (pre : Segs) (a : List UInt8 × Int), total (pre ++ [a]) = total pre + a.1.length
  | [], a => by simp [total]
  | b :: r, a => by simp only [List.cons_append, total, total_snoc r a]; omega
theorem shape_snoc : ∀ (pre : Segs) (a : List UInt8 × Int), shape (pre ++ [a]) = true → 0 ≤ a.2 ∧ a.2 ≤ (a.1.length : Int)
  | [], a, h => by simpa [shape] using h
  | b :: r, a, h => by
    simp only [List.cons_append, shape, Bool.and_eq_true] at h
    exact shape_snoc r a h.2
theorem okStore_last {l : Segs} {c : Int} (h : okStore l c = true) : ∃ pre a, l = pre ++ [a] ∧ pre.length ≤ 39 ∧ 0 ≤ a.2 ∧ a.2 ≤ (a.1.length : Int) ∧ a.1.length ≤ 60000 ∧ 0 ≤ c ∧ c ≤ 60000 ∧ (total l : Int) ≤ c := by
  unfold okStore at h
  simp only [Bool.and_eq_true, decide_eq_true_eq] at h
  obtain ⟨⟨⟨⟨h1, h2⟩, h3⟩, h4⟩, h5, h6⟩ := h
  have hne : l ≠ [] := by intro e; rw [e] at h3; simp at h3
  refine ⟨l.dropLast, l.getLast hne, (List.dropLast_concat_getLast hne).symm, by simp; omega, ?_⟩
  have e := List.dropLast_concat_getLast hne
  rw [← e] at h5
  have h7 := shape_snoc _ _ h5
  have h8 := total_snoc l.dropLast (l.getLast hne)
  rw [e] at h8
  exact ⟨h7.1, h7.2, by omega, h1, h2, h6⟩

def lastS (l : Segs) : List UInt8 × Int := l.getD (l.length - 1) ([], 0)
theorem lastS_snoc (pre : Segs) (a : List UInt8 × Int) : lastS (pre ++ [a]) = a := by simp [lastS]
/-- The last segment, changed. -/
def updS (l : Segs) (f : List UInt8 × Int → List UInt8 × Int) : Segs := l.take (l.length - 1) ++ [f (lastS l)]
theorem updS_snoc (pre : Segs) (a : List UInt8 × Int) (f : List UInt8 × Int → List UInt8 × Int) : updS (pre ++ [a]) f = pre ++ [f a] := by simp [updS, lastS_snoc]

section
variable (pre : Segs) (a : List UInt8 × Int) (hp : pre.length ≤ 39)
include hp
theorem f1 : decide (((0 : Nat) + (pre ++ [a]).length) * 24 ≤ 140737488355328) = true := by rw [decide_eq_true_eq, List.length_append, List.length_singleton]; omega
theorem f3 : wrap64 (((pre ++ [a]).length : Int) - 1) = (pre.length : Int) := by rw [List.length_append, List.length_singleton, w64 (by omega) (by omega)]; omega
omit hp
theorem f4 : decide ((0 : Int) ≤ (pre.length : Int)) = true := by simp
theorem f5 : decide ((pre.length : Int) < ((pre ++ [a]).length : Int)) = true := by rw [decide_eq_true_eq, List.length_append, List.length_singleton]; omega
theorem f5' : decide ((pre.length : Int) ≤ ((pre ++ [a]).length : Int)) = true := by rw [decide_eq_true_eq, List.length_append, List.length_singleton]; omega
theorem f6 : (pre ++ [a]).getD pre.length ([], 0) = a := getD_mid pre a [] _
theorem f7 (b : List UInt8 × Int) : (pre ++ [a]).set pre.length b = pre ++ [b] := set_mid pre a b []
theorem f8 (b : List UInt8 × Int) : (pre ++ [b]).length = (pre ++ [a]).length := by simp
end

def segsOb (l : Segs) : List Ob := [.arr (.pair .str (.int .i64)) 0 false l]
def stRet (p : Segs × Int) : Option Rs := some (.agg [.ref 0 0, .int .i64 p.2], segsOb p.1)
def stRet2 (p : Segs × Int × Int) : Option Rs := some (.tup [.agg [.ref 0 0, .int .i64 p.2.1], .int .i64 p.2.2], segsOb p.1)

/-! Sync -/
def syncP (l : Segs) (c : Int) : Segs × Int := bif okStore l c then (updS l fun a => (a.1, (a.1.length : Int)), c) else ([], 0)
theorem sSync_val (l : Segs) (c : Int) : (sSync_br l c).val = stRet (syncP l c) := by
  unfold sSync_br syncP
  cases hk : okStore l c with
  | false => rfl
  | true =>
    obtain ⟨pre, a, rfl, hp, h1, h2, h3, h4, h5, h6⟩ := okStore_last hk
    simp only [Bool.not_true, Br.val, f1 pre a hp, f3 pre a hp, f4, f5, Int.toNat_natCast, f6, f7, cond_true, updS_snoc]
    rfl
theorem iSync_val (l : Segs) (c : Int) (hs : smS l = true) : (iSync_br l c).val = stRet (syncP l c) := by
  unfold iSync_br syncP
  cases hk : okStore l c with
  | false => simp only [hs]; rfl
  | true =>
    obtain ⟨pre, a, rfl, hp, h1, h2, h3, h4, h5, h6⟩ := okStore_last hk
    simp only [hs, Bool.not_true, Br.val, f1 pre a hp, f3 pre a hp, f4, f5, Int.toNat_natCast, f6, f7, cond_true, updS_snoc]
    rfl

/-! Crash -/
def crashN (a : List UInt8 × Int) (keep : Int) : Int := bif decide (keep < (a.1.length : Int) - a.2) then (bif decide (0 < keep) then a.2 + keep else a.2) else (a.1.length : Int)
def crashP (l : Segs) (c keep : Int) : Segs × Int := bif okStore l c then (updS l fun a => (cut a.1 0 (crashN a keep), crashN a keep), c) else ([], 0)
theorem crashN_in (a : List UInt8 × Int) (keep : Int) (h1 : 0 ≤ a.2) (h2 : a.2 ≤ (a.1.length : Int)) : 0 ≤ crashN a keep ∧ crashN a keep ≤ (a.1.length : Int) := by
  unfold crashN
  by_cases h3 : keep < (a.1.length : Int) - a.2
  · by_cases h4 : 0 < keep
    · simp only [h3, h4, decide_true, cond_true]; omega
    · simp only [h3, h4, decide_true, decide_false, cond_true, cond_false]; omega
  · simp only [h3, decide_false, cond_false]; omega
theorem sCrash_val (l : Segs) (c keep : Int) : (sCrash_br l c keep).val = stRet (crashP l c keep) := by
  unfold sCrash_br crashP
  cases hk : okStore l c with
  | false => rfl
  | true =>
    obtain ⟨pre, a, rfl, hp, h1, h2, h3, h4, h5, h6⟩ := okStore_last hk
    have hc := crashN_in a keep h1 h2
    have e1 : wrap64 ((a.1.length : Int) - a.2) = (a.1.length : Int) - a.2 := w64 (by omega) (by omega)
    simp only [Bool.not_true, Br.val, f1 pre a hp, f3 pre a hp, f4, f5, Int.toNat_natCast, f6, f7, cond_true, updS_snoc, e1]
    unfold crashN at hc ⊢
    by_cases h7 : keep < (a.1.length : Int) - a.2
    · by_cases h8 : 0 < keep
      · have e2 : wrap64 (a.2 + keep) = a.2 + keep := w64 (by omega) (by omega)
        simp only [h7, h8, decide_true, cond_true, e2] at hc ⊢
        simp only [hc, decide_true]
        rfl
      · simp only [h7, h8, decide_true, decide_false, cond_true, cond_false] at hc ⊢
        simp only [hc, decide_true]
        rfl
    · simp only [h7, decide_false, cond_false] at hc ⊢
      by_cases h8 : 0 < (a.1.length : Int) - a.2
      · have e2 : wrap64 (a.2 + ((a.1.length : Int) - a.2)) = (a.1.length : Int) := by rw [w64 (by omega) (by omega)]; omega
        simp only [h8, e2, hc, decide_true]
        rfl
      · have e2 : a.2 = (a.1.length : Int) := by omega
        simp only [h8, decide_false, decide_true, e2, hc]
        have e3 : decide ((0 : Int) < (a.1.length : Int) - (a.1.length : Int)) = false := by simp
        simp only [e3]
        rfl
theorem iCrash_val (l : Segs) (c keep : Int) (hs : smS l = true) : (iCrash_br l c keep).val = stRet (crashP l c keep) := by
  unfold iCrash_br crashP
  cases hk : okStore l c with
  | false => simp only [hs]; rfl
  | true =>
    obtain ⟨pre, a, rfl, hp, h1, h2, h3, h4, h5, h6⟩ := okStore_last hk
    have hc := crashN_in a keep h1 h2
    have e1 : wrap64 ((a.1.length : Int) - a.2) = (a.1.length : Int) - a.2 := w64 (by omega) (by omega)
    have e2 : wrap64 (a.2 + (if (a.1.length : Int) - a.2 < (if 0 < keep then keep else 0) then (a.1.length : Int) - a.2 else (if 0 < keep then keep else 0))) = crashN a keep := by
      unfold crashN
      by_cases h7 : keep < (a.1.length : Int) - a.2
      · by_cases h8 : 0 < keep
        · have : ¬ (a.1.length : Int) - a.2 < keep := by omega
          simp only [h7, h8, this, if_true, if_false, decide_true, cond_true]
          exact w64 (by omega) (by omega)
        · have : ¬ (a.1.length : Int) - a.2 < 0 := by omega
          simp only [h7, h8, this, if_true, if_false, decide_true, decide_false, cond_true, cond_false]
          rw [w64 (by omega) (by omega)]; omega
      · by_cases h8 : 0 < keep
        · simp only [h7, h8, if_true, decide_true, decide_false, cond_true, cond_false]
          by_cases h9 : (a.1.length : Int) - a.2 < keep
          · simp only [h9, if_true]; rw [w64 (by omega) (by omega)]; omega
          · simp only [h9, if_false]; rw [w64 (by omega) (by omega)]; omega
        · have : ¬ (a.1.length : Int) - a.2 < 0 := by omega
          simp only [h7, h8, this, if_false, decide_true, decide_false, cond_true, cond_false]
          rw [w64 (by omega) (by omega)]; omega
    simp only [hs, Bool.not_true, Br.val, f1 pre a hp, f3 pre a hp, f4, f5, Int.toNat_natCast, f6, f7, cond_true, updS_snoc, e1, e2]
    simp only [hc, decide_true, f4, f5, f6, f7]
    rfl

/-! Cut -/
def cutP (l : Segs) (c n : Int) : Segs × Int × Int := bif okStore l c then (bif decide (n < 0) || decide (((lastS l).1.length : Int) < n) then ([], 0, 3) else bif decide (n = 0) && decide (1 < l.length) then (l.take (l.length - 1), c, 0) else (updS l fun a => (cut a.1 0 n, n), c, 0)) else ([], 0, 1)
theorem cut_pre (pre : Segs) (a : List UInt8 × Int) : cut (pre ++ [a]) 0 (pre.length : Int) = (pre ++ [a]).take ((pre ++ [a]).length - 1) := by simp [cut]
theorem len1 (pre : Segs) (a : List UInt8 × Int) : decide ((0 : Int) < (pre.length : Int)) = decide (1 < (pre ++ [a]).length) := by
  congr 1; apply propext; rw [List.length_append, List.length_singleton]; omega
theorem len2 (pre : Segs) (a : List UInt8 × Int) : decide ((1 : Int) < ((pre ++ [a]).length : Int)) = decide (1 < (pre ++ [a]).length) := by
  congr 1; apply propext; omega
theorem sCut_val (l : Segs) (c n : Int) : (sCut_br l c n).val = stRet2 (cutP l c n) := by
  unfold sCut_br cutP
  cases hk : okStore l c with
  | false => rfl
  | true =>
    obtain ⟨pre, a, rfl, hp, h1, h2, h3, h4, h5, h6⟩ := okStore_last hk
    simp only [Bool.not_true, Br.val, f1 pre a hp, f3 pre a hp, f4, f5, f5', Int.toNat_natCast, f6, f7, cond_true, updS_snoc, lastS_snoc, cut_pre, len1 pre a]
    by_cases h7 : n < 0
    · simp only [h7, decide_true, Bool.true_or, cond_true]; rfl
    · by_cases h8 : (a.1.length : Int) < n
      · simp only [h7, h8, decide_true, decide_false, Bool.or_true, cond_true]; rfl
      · have g1 : 0 ≤ n := by omega
        have g2 : n ≤ (a.1.length : Int) := by omega
        simp only [h7, h8, g1, g2, decide_true, decide_false, Bool.or_false, cond_false]
        cases hn : decide (n = 0) with
        | false => rfl
        | true =>
          simp only [Bool.true_and]
          cases decide (1 < (pre ++ [a]).length) <;> rfl
theorem iCut_val (l : Segs) (c n : Int) (hs : smS l = true) : (iCut_br l c n).val = stRet2 (cutP l c n) := by
  unfold iCut_br cutP
  cases hk : okStore l c with
  | false => simp only [hs]; rfl
  | true =>
    obtain ⟨pre, a, rfl, hp, h1, h2, h3, h4, h5, h6⟩ := okStore_last hk
    simp only [hs, Bool.not_true, Br.val, f1 pre a hp, f3 pre a hp, f4, f5, f5', Int.toNat_natCast, f6, f7, cond_true, updS_snoc, lastS_snoc, cut_pre, len2 pre a]
    by_cases h7 : n < 0
    · have g1 : ¬ 0 ≤ n := by omega
      simp only [h7, g1, decide_true, decide_false, Bool.true_or, cond_true]; rfl
    · have g1 : 0 ≤ n := by omega
      by_cases h8 : (a.1.length : Int) < n
      · have g2 : ¬ n ≤ (a.1.length : Int) := by omega
        simp only [h7, h8, g1, g2, decide_true, decide_false, Bool.or_true, cond_true, Bool.not_false]; rfl
      · have g2 : n ≤ (a.1.length : Int) := by omega
        simp only [h7, h8, g1, g2, decide_true, decide_false, Bool.or_false, cond_false, Bool.not_true]
        cases hn : decide (n = 0) with
        | false => rfl
        | true =>
          simp only [Bool.true_and]
          cases decide (1 < (pre ++ [a]).length) <;> rfl

/-! Roll -/
def rollP (l : Segs) (c : Int) : Segs × Int × Int := bif okStore l c then (bif decide ((lastS l).1 = []) then ([], 0, 3) else bif decide ((l.length : Int) = 40) then ([], 0, 2) else ((updS l fun a => (a.1, (a.1.length : Int))) ++ [([], 0)], c, 0)) else ([], 0, 1)
theorem nil_len (d : List UInt8) : decide ((d.length : Int) = 0) = decide (d = []) := by
  congr 1; apply propext
  exact ⟨fun h => List.length_eq_zero_iff.1 (by omega), fun h => by rw [h]; rfl⟩
theorem f9 (pre : Segs) (hp : pre.length ≤ 39) (b : List UInt8 × Int) : decide (((pre ++ [b]).length + 1) * 24 ≤ 140737488355328) = true := by rw [decide_eq_true_eq, List.length_append, List.length_singleton]; omega
theorem sRoll_val (l : Segs) (c : Int) : (sRoll_br l c).val = stRet2 (rollP l c) := by
  unfold sRoll_br rollP
  cases hk : okStore l c with
  | false => rfl
  | true =>
    obtain ⟨pre, a, rfl, hp, h1, h2, h3, h4, h5, h6⟩ := okStore_last hk
    simp only [Bool.not_true, Br.val, f1 pre a hp, f3 pre a hp, f4, f5, f5', Int.toNat_natCast, f6, f7, cond_true, updS_snoc, lastS_snoc, nil_len, f9 pre hp]
    cases decide (a.1 = []) <;> cases decide (((pre ++ [a]).length : Int) = 40) <;> rfl
theorem iRoll_val (l : Segs) (c : Int) (hs : smS l = true) : (iRoll_br l c).val = stRet2 (rollP l c) := by
  unfold iRoll_br rollP
  cases hk : okStore l c with
  | false => simp only [hs]; rfl
  | true =>
    obtain ⟨pre, a, rfl, hp, h1, h2, h3, h4, h5, h6⟩ := okStore_last hk
    simp only [hs, Bool.not_true, Br.val, f1 pre a hp, f3 pre a hp, f4, f5, f5', Int.toNat_natCast, f6, f7, cond_true, updS_snoc, lastS_snoc, nil_len, f9 pre hp]
    cases decide (a.1 = []) <;> cases decide (((pre ++ [a]).length : Int) = 40) <;> rfl

/-! Append -/
def appendP (l : Segs) (c : Int) (b : List UInt8) : Segs × Int × Int := bif okStore l c then (bif decide (c - (total l : Int) < (b.length : Int)) then ([], 0, 2) else (updS l fun a => (a.1 ++ b, a.2), c, 0)) else ([], 0, 1)
theorem iAppend_val (l : Segs) (c : Int) (b : List UInt8) (hs : smS l = true) : (iAppend_br l c b).val = stRet2 (appendP l c b) := by
  unfold iAppend_br appendP
  cases hk : okStore l c with
  | false => simp only [hs]; rfl
  | true =>
    obtain ⟨pre, a, rfl, hp, h1, h2, h3, h4, h5, h6⟩ := okStore_last hk
    have g1 : (decide ((pre ++ [a]).length ≤ 281474976710656) && decide (total (pre ++ [a]) ≤ 4611686018427387904)) = true := by
      rw [Bool.and_eq_true, decide_eq_true_eq, decide_eq_true_eq, List.length_append, List.length_singleton]; omega
    have g2 : wrap64 (c - ((total (pre ++ [a]) : Nat) : Int)) = c - (total (pre ++ [a]) : Int) := w64 (by omega) (by omega)
    simp only [hs, g1, g2, Bool.not_true, Br.val, f1 pre a hp, f3 pre a hp, f4, f5, f5', Int.toNat_natCast, f6, f7, cond_true, updS_snoc, lastS_snoc]
    by_cases h7 : c - (total (pre ++ [a]) : Int) < (b.length : Int)
    · simp only [h7, decide_true, cond_true]; rfl
    · have g3 : decide (((a.1.length + b.length : Nat) : Int) ≤ 9223372036854775807) = true := by rw [decide_eq_true_eq]; omega
      simp only [h7, g3, decide_false, cond_false]; rfl

/-! spec.AllBytes -/
def allB : Segs → List UInt8
  | [] => []
  | a :: r => a.1 ++ allB r
theorem allB_len : ∀ (l : Segs), (allB l).length = total l
  | [] => rfl
  | a :: r => by simp [allB, total, allB_len r]
theorem ofBytes_bytesOf (s : List UInt8) : ofBytes (bytesOf s) = s := by
  induction s with
  | nil => rfl
  | cons a s ih =>
    simp only [bytesOf, ofBytes, List.map_cons, Int.toNat_natCast] at ih ⊢
    rw [ih]; simp
theorem sAll_loop (c : Int) (l : Segs) (hl : l.length ≤ 40) (k : List Int → Option Rs) (r : Segs) : ∀ (pre : Segs) (n : Nat) (acc : List UInt8), r.length < n → pre ++ r = l → acc.length + total r ≤ 60000 →
    sAll_F5 n (pre.length : Int) l c (bytesOf acc) k = k (bytesOf (acc ++ allB r)) := by
  induction r with
  | nil =>
    intro pre n acc hn hp ht
    obtain ⟨n, rfl⟩ : ∃ m, n = m + 1 := ⟨n - 1, by simp at hn; omega⟩
    have e1 : decide ((pre.length : Int) < (l.length : Int)) = false := by rw [← hp]; simp
    unfold sAll_F5 sAll_T5
    simp only [e1, cond_false, allB, List.append_nil]
  | cons a r ihr =>
    intro pre n acc hn hp ht
    obtain ⟨n, rfl⟩ : ∃ m, n = m + 1 := ⟨n - 1, by omega⟩
    have hlen : l.length = pre.length + r.length + 1 := by rw [← hp]; simp; omega
    have e1 : decide ((pre.length : Int) < (l.length : Int)) = true := by rw [hlen]; simp; omega
    have e2 : decide ((0 : Int) ≤ (pre.length : Int)) = true := by simp
    have e4 : l.getD pre.length ([], 0) = a := by rw [← hp]; exact getD_mid ..
    simp only [total] at ht
    have e5 : decide (((bytesOf acc).length + (bytesOf a.1).length) * 1 ≤ 140737488355328) = true := by rw [decide_eq_true_eq]; simp only [bytesOf, List.length_map]; omega
    have ih := ihr (pre ++ [a]) n (acc ++ a.1) (by simp at hn; omega) (by rw [← cat_one]; exact hp) (by rw [List.length_append]; omega)
    unfold sAll_F5 sAll_T5
    simp only [e1, e2, e4, e5, cond_true, Int.toNat_natCast]
    rw [next_len pre a (by omega), show bytesOf acc ++ bytesOf a.1 = bytesOf (acc ++ a.1) by simp [bytesOf], ih]
    simp only [allB, List.append_assoc]
def sAll_br (l : Segs) (c : Int) : Br := .ret (.str (bif okStore l c then allB l else [])) []
def sAll_s := sAll_sOf sAll_br
theorem sAll_ok : Sound Kx 9 sAll_s := by
  refine sAll_okOf (fun l _ => l.length + 1) fun l c r h => ?_
  cases h
  unfold sAll_run
  cases hk : okStore l c with
  | false => rfl
  | true =>
    unfold okStore at hk
    simp only [Bool.and_eq_true, decide_eq_true_eq] at hk
    refine (sAll_loop c l hk.1.2 (fun x => some (.str (ofBytes x), [])) l [] (l.length + 1) [] (by omega) rfl (by simp only [List.length_nil]; omega)).trans ?_
    simp only [ofBytes_bytesOf, List.nil_append, cond_true]

/-! The short specs. -/
def retP (p : Segs × Int) : Br := .ret (.agg [.ref 0 0, .int .i64 p.2]) (segsOb p.1)
def retP2 (p : Segs × Int × Int) : Br := .ret (.tup [.agg [.ref 0 0, .int .i64 p.2.1], .int .i64 p.2.2]) (segsOb p.1)
def syncQ_s : List AV → List Ob → Br
  | [.agg [.sh (.pair .str (.int .i64)) l, .int .i64 c]], [] => .ite (smS l) (retP (syncP l c)) .fail
  | _, _ => .fail
def crashQ_s : List AV → List Ob → Br
  | [.agg [.sh (.pair .str (.int .i64)) l, .int .i64 c], .int .i64 k], [] => .ite (smS l) (retP (crashP l c k)) .fail
  | _, _ => .fail
def cutQ_s : List AV → List Ob → Br
  | [.agg [.sh (.pair .str (.int .i64)) l, .int .i64 c], .int .i64 k], [] => .ite (smS l) (retP2 (cutP l c k)) .fail
  | _, _ => .fail
def rollQ_s : List AV → List Ob → Br
  | [.agg [.sh (.pair .str (.int .i64)) l, .int .i64 c]], [] => .ite (smS l) (retP2 (rollP l c)) .fail
  | _, _ => .fail
def appendQ_s : List AV → List Ob → Br
  | [.agg [.sh (.pair .str (.int .i64)) l, .int .i64 c], .str b], [] => .ite (smS l) (retP2 (appendP l c b)) .fail
  | _, _ => .fail
theorem ite_some {b : Bool} {x : Br} {r : AV × List Ob} (h : (Br.ite b x .fail).val = some r) : b = true ∧ x.val = some r := by
  cases b with
  | true => exact ⟨rfl, h⟩
  | false => cases h
theorem sSync_okQ : Sound Kx 31 syncQ_s := sSync_ok.of fun args objs r h => by
  unfold syncQ_s at h
  split at h
  · exact (sSync_val _ _).trans (ite_some h).2
  · cases h
theorem iSync_okQ : Sound Kx 16 syncQ_s := iSync_ok.of fun args objs r h => by
  unfold syncQ_s at h
  split at h
  · exact (iSync_val _ _ (ite_some h).1).trans (ite_some h).2
  · cases h
theorem iCrash_okQ : Sound Kx 6 crashQ_s := iCrash_ok.of fun args objs r h => by
  unfold crashQ_s at h
  split at h
  · exact (iCrash_val _ _ _ (ite_some h).1).trans (ite_some h).2
  · cases h
theorem iCut_okQ : Sound Kx 20 cutQ_s := iCut_ok.of fun args objs r h => by
  unfold cutQ_s at h
  split at h
  · exact (iCut_val _ _ _ (ite_some h).1).trans (ite_some h).2
  · cases h
theorem sRoll_okQ : Sound Kx 19 rollQ_s := sRoll_ok.of fun args objs r h => by
  unfold rollQ_s at h
  split at h
  · exact (sRoll_val _ _).trans (ite_some h).2
  · cases h
theorem iRoll_okQ : Sound Kx 18 rollQ_s := iRoll_ok.of fun args objs r h => by
  unfold rollQ_s at h
  split at h
  · exact (iRoll_val _ _ (ite_some h).1).trans (ite_some h).2
  · cases h
theorem iAppend_okQ : Sound Kx 28 appendQ_s := iAppend_ok.of fun args objs r h => by
  unfold appendQ_s at h
  split at h
  · exact (iAppend_val _ _ _ (ite_some h).1).trans (ite_some h).2
  · cases h

end Go.Proofs.Ytmigffdeghfbhaa.Ev

namespace Go.Proofs.Ytmigffdeghfbhaa.Ev
open Go Go.RowKit
set_option linter.unusedVariables false
set_option linter.unusedSimpArgs false

/-! spec.Used -/
def sUsed_O : Opt := { cons := [], keepNil := false, mutF := [], live := [], outs := [] }
def sUsed_C : Spec := (add (add noS 7 sOk_s) 9 sAll_s)
theorem sUsed_C_ok : ∀ fn, Sound Kx fn (sUsed_C fn) := (sound_add (sound_add (sound_no Kx) sOk_ok) sAll_ok)
def sUsed_br (l : List (List UInt8 × Int)) (c : Int) : Br := (Br.ite (!(okStore l c)) (Br.ret (AV.int .i64 (-(1 : Int))) ([] : (List (Ob)))) (Br.ret (AV.int .i64 ((List.length (bif (okStore l c) then (allB l) else ([] : (List UInt8)))) : Int)) ([] : (List (Ob)))))
theorem sUsed_run (l : List (List UInt8 × Int)) (c : Int) : runF Kx sUsed_C sUsed_O 1 Try.f36 ([.agg [.sh (.pair .str (.int .i64)) l, .int .i64 c]]) ([]) = (sUsed_br l c).val := by kernel_rfl
def sUsed_s : List AV → List Ob → Br
  | [.agg [.sh (.pair .str (.int .i64)) l, .int .i64 c]], [] => sUsed_br l c
  | _, _ => .fail
theorem sUsed_ok : Sound Kx 36 sUsed_s := by
  refine sound_run (C := sUsed_C) (O := sUsed_O) KOk sUsed_C_ok Try.func36 (by kernel_rfl) fun args objs res os h => ?_
  unfold sUsed_s at h
  split at h
  · exact ⟨1, (sUsed_run _ _).trans h⟩
  · cases h

/-! spec.Append -/
def sAppend_O : Opt := { cons := [], keepNil := false, mutF := [], live := [], outs := [] }
def sAppend_C : Spec := (add (add (add noS 7 sOk_s) 41 copy_s) 36 sUsed_s)
theorem sAppend_C_ok : ∀ fn, Sound Kx fn (sAppend_C fn) := (sound_add (sound_add (sound_add (sound_no Kx) sOk_ok) copy_ok) sUsed_ok)
def sAppend_br (l : List (List UInt8 × Int)) (c : Int) (b : List UInt8) : Br := (Br.ite (!(okStore l c)) (Br.ret (AV.tup ((AV.agg ((AV.ref (List.length ([] : (List (Ob)))) (0 : Nat)) :: ((AV.int .i64 (0 : Int)) :: ([] : (List (AV)))))) :: ((AV.int .i64 (1 : Int)) :: ([] : (List (AV)))))) ((Ob.arr (Ty.pair Ty.str (Ty.int .i64)) (0 : Nat) false ([] : (List ((List UInt8) × Int)))) :: ([] : (List (Ob))))) (Br.ite (!(okStore l c)) (Br.ite (decide ((wrap64 (c - (-(1 : Int)))) < ((List.length b) : Int))) (Br.ret (AV.tup ((AV.agg ((AV.ref (List.length ([] : (List (Ob)))) (0 : Nat)) :: ((AV.int .i64 (0 : Int)) :: ([] : (List (AV)))))) :: ((AV.int .i64 (2 : Int)) :: ([] : (List (AV)))))) ((Ob.arr (Ty.pair Ty.str (Ty.int .i64)) (0 : Nat) false ([] : (List ((List UInt8) × Int)))) :: ([] : (List (Ob))))) (Br.ite (decide ((((0 : Nat) + (List.length l)) * (24 : Nat)) ≤ (140737488355328 : Nat))) (Br.ite (decide ((0 : Int) ≤ (wrap64 (((List.length l) : Int) - (1 : Int))))) (Br.ite (decide ((wrap64 (((List.length l) : Int) - (1 : Int))) < ((List.length l) : Int))) (Br.ite (decide (((((List.length (List.getD l (Int.toNat (wrap64 (((List.length l) : Int) - (1 : Int)))) (([] : (List UInt8)), (0 : Int))).1) + (List.length b)) : Nat) : Int) ≤ (9223372036854775807 : Int))) (Br.ite (decide ((0 : Int) ≤ (wrap64 (((List.length l) : Int) - (1 : Int))))) (Br.ite (decide ((wrap64 (((List.length l) : Int) - (1 : Int))) < ((List.length l) : Int))) (Br.ite (decide ((0 : Int) ≤ (wrap64 (((List.length l) : Int) - (1 : Int))))) (Br.ite (decide ((wrap64 (((List.length l) : Int) - (1 : Int))) < ((List.length l) : Int))) (Br.ret (AV.tup ((AV.agg ((AV.ref (0 : Nat) (0 : Nat)) :: ((AV.int .i64 c) :: ([] : (List (AV)))))) :: ((AV.int .i64 (0 : Int)) :: ([] : (List (AV)))))) ((Ob.arr (Ty.pair Ty.str (Ty.int .i64)) (0 : Nat) false (List.set l (Int.toNat (wrap64 (((List.length l) : Int) - (1 : Int)))) (((List.getD l (Int.toNat (wrap64 (((List.length l) : Int) - (1 : Int)))) (([] : (List UInt8)), (0 : Int))).1 ++ b), (List.getD l (Int.toNat (wrap64 (((List.length l) : Int) - (1 : Int)))) (([] : (List UInt8)), (0 : Int))).2))) :: ([] : (List (Ob))))) Br.fail) Br.fail) Br.fail) Br.fail) Br.fail) Br.fail) Br.fail) Br.fail)) (Br.ite (decide ((wrap64 (c - ((List.length (bif (okStore l c) then (allB l) else ([] : (List UInt8)))) : Int))) < ((List.length b) : Int))) (Br.ret (AV.tup ((AV.agg ((AV.ref (List.length ([] : (List (Ob)))) (0 : Nat)) :: ((AV.int .i64 (0 : Int)) :: ([] : (List (AV)))))) :: ((AV.int .i64 (2 : Int)) :: ([] : (List (AV)))))) ((Ob.arr (Ty.pair Ty.str (Ty.int .i64)) (0 : Nat) false ([] : (List ((List UInt8) × Int)))) :: ([] : (List (Ob))))) (Br.ite (decide ((((0 : Nat) + (List.length l)) * (24 : Nat)) ≤ (140737488355328 : Nat))) (Br.ite (decide ((0 : Int) ≤ (wrap64 (((List.length l) : Int) - (1 : Int))))) (Br.ite (decide ((wrap64 (((List.length l) : Int) - (1 : Int))) < ((List.length l) : Int))) (Br.ite (decide (((((List.length (List.getD l (Int.toNat (wrap64 (((List.length l) : Int) - (1 : Int)))) (([] : (List UInt8)), (0 : Int))).1) + (List.length b)) : Nat) : Int) ≤ (9223372036854775807 : Int))) (Br.ite (decide ((0 : Int) ≤ (wrap64 (((List.length l) : Int) - (1 : Int))))) (Br.ite (decide ((wrap64 (((List.length l) : Int) - (1 : Int))) < ((List.length l) : Int))) (Br.ite (decide ((0 : Int) ≤ (wrap64 (((List.length l) : Int) - (1 : Int))))) (Br.ite (decide ((wrap64 (((List.length l) : Int) - (1 : Int))) < ((List.length l) : Int))) (Br.ret (AV.tup ((AV.agg ((AV.ref (0 : Nat) (0 : Nat)) :: ((AV.int .i64 c) :: ([] : (List (AV)))))) :: ((AV.int .i64 (0 : Int)) :: ([] : (List (AV)))))) ((Ob.arr (Ty.pair Ty.str (Ty.int .i64)) (0 : Nat) false (List.set l (Int.toNat (wrap64 (((List.length l) : Int) - (1 : Int)))) (((List.getD l (Int.toNat (wrap64 (((List.length l) : Int) - (1 : Int)))) (([] : (List UInt8)), (0 : Int))).1 ++ b), (List.getD l (Int.toNat (wrap64 (((List.length l) : Int) - (1 : Int)))) (([] : (List UInt8)), (0 : Int))).2))) :: ([] : (List (Ob))))) Br.fail) Br.fail) Br.fail) Br.fail) Br.fail) Br.fail) Br.fail) Br.fail))))
theorem sAppend_run (l : List (List UInt8 × Int)) (c : Int) (b : List UInt8) : runF Kx sAppend_C sAppend_O 1 Try.f43 ([.agg [.sh (.pair .str (.int .i64)) l, .int .i64 c], .str b]) ([]) = (sAppend_br l c b).val := by kernel_rfl
def sAppend_s : List AV → List Ob → Br
  | [.agg [.sh (.pair .str (.int .i64)) l, .int .i64 c], .str b], [] => sAppend_br l c b
  | _, _ => .fail
theorem sAppend_ok : Sound Kx 43 sAppend_s := by
  refine sound_run (C := sAppend_C) (O := sAppend_O) KOk sAppend_C_ok Try.func43 (by kernel_rfl) fun args objs res os h => ?_
  unfold sAppend_s at h
  split at h
  · exact ⟨1, (sAppend_run _ _ _).trans h⟩
  · cases h

end Go.Proofs.Ytmigffdeghfbhaa.Ev

namespace Go.Proofs.Ytmigffdeghfbhaa.Ev
open Go Go.RowKit
set_option linter.unusedVariables false
set_option linter.unusedSimpArgs false

theorem sAppend_val (l : Segs) (c : Int) (b : List UInt8) : (sAppend_br l c b).val = stRet2 (appendP l c b) := by
  unfold sAppend_br appendP
  cases hk : okStore l c with
  | false => rfl
  | true =>
    obtain ⟨pre, a, rfl, hp, h1, h2, h3, h4, h5, h6⟩ := okStore_last hk
    have g2 : wrap64 (c - ((allB (pre ++ [a])).length : Int)) = c - (total (pre ++ [a]) : Int) := by rw [allB_len]; exact w64 (by omega) (by omega)
    simp only [Bool.not_true, Br.val, cond_true, g2, f1 pre a hp, f3 pre a hp, f4, f5, f5', Int.toNat_natCast, f6, f7, updS_snoc, lastS_snoc]
    by_cases h7 : c - (total (pre ++ [a]) : Int) < (b.length : Int)
    · simp only [h7, decide_true, cond_true]; rfl
    · have g3 : decide (((a.1.length + b.length : Nat) : Int) ≤ 9223372036854775807) = true := by rw [decide_eq_true_eq]; omega
      simp only [h7, g3, decide_false, cond_false]; rfl
theorem sAppend_okQ : Sound Kx 43 appendQ_s := sAppend_ok.of fun args objs r h => by
  unfold appendQ_s at h
  split at h
  · exact (sAppend_val _ _ _).trans (ite_some h).2
  · cases h

/-! Sizes. -/
theorem updS_len (l : Segs) (f : List UInt8 × Int → List UInt8 × Int) : (updS l f).length ≤ l.length + 1 := by
  simp only [updS, List.length_append, List.length_take, List.length_singleton]; omega
theorem syncP_len (l : Segs) (c : Int) : (syncP l c).1.length ≤ l.length + 1 := by
  unfold syncP
  cases okStore l c
  · simp
  · simp only [cond_true, cond_false]; exact updS_len ..
theorem crashP_len (l : Segs) (c k : Int) : (crashP l c k).1.length ≤ l.length + 1 := by
  unfold crashP
  cases okStore l c
  · simp
  · simp only [cond_true, cond_false]; exact updS_len ..
theorem cutP_len (l : Segs) (c k : Int) : (cutP l c k).1.length ≤ l.length + 1 := by
  unfold cutP
  cases okStore l c
  · simp
  · simp only [cond_true]
    cases (decide (k < 0) || decide (((lastS l).1.length : Int) < k))
    · cases (decide (k = 0) && decide (1 < l.length))
      · simp only [cond_true, cond_false]; exact updS_len ..
      · simp only [cond_false, cond_true, List.length_take]; omega
    · simp
theorem rollP_len (l : Segs) (c : Int) : (rollP l c).1.length ≤ l.length + 2 := by
  unfold rollP
  cases okStore l c
  · simp
  · simp only [cond_true]
    cases decide ((lastS l).1 = [])
    · cases decide ((l.length : Int) = 40)
      · simp only [cond_false, List.length_append, List.length_singleton]
        have := updS_len l fun a => (a.1, (a.1.length : Int))
        omega
      · simp
    · simp
theorem appendP_len (l : Segs) (c : Int) (b : List UInt8) : (appendP l c b).1.length ≤ l.length + 1 := by
  unfold appendP
  cases okStore l c
  · simp
  · simp only [cond_true]
    cases decide (c - (total l : Int) < (b.length : Int))
    · simp only [cond_true, cond_false]; exact updS_len ..
    · simp
theorem szOf_len {l : Segs} {n : Int} (h : ¬ szOf l n < 0) : (l.length : Int) ≤ n := by
  unfold szOf at h
  split at h
  · exact absurd (by omega) h
  · omega
theorem smS_of {l : Segs} {c : Int} (h : Good (.pair (.slice (.pair .str (.int .i64))) (.int .i64)) (l, c)) : smS l = true ∧ l.length ≤ 140737488351232 := by
  obtain ⟨⟨h1, h2⟩, _⟩ := h
  have e : reachBytes = 140737488351232 := rfl
  rw [e] at h1
  simp only at h1 h2
  refine ⟨?_, h1⟩
  unfold smS
  simp only [Bool.and_eq_true, decide_eq_true_eq, List.all_eq_true]
  refine ⟨by omega, fun x hx => ?_⟩
  have := (h2 x hx).1
  unfold Good at this
  rw [e] at this
  omega
theorem t1 (n : Nat) : decide ((1 : Int) + 2 * (n : Int) < 0) = false := by simp; omega
theorem t2 (l : Segs) : decide (held (marks l 1) 1 < 0) = false := by rw [held_marks]; exact t1 _
theorem t3 (l : Segs) : decide (held (marks l 1) 1 = 1 + 2 * (l.length : Int)) = true := by rw [held_marks]; simp
theorem small {n m : Nat} (h : n ≤ 281474976710656) : decide (n ≤ 281474976710656) = true := by simpa using h

end Go.Proofs.Ytmigffdeghfbhaa.Ev
