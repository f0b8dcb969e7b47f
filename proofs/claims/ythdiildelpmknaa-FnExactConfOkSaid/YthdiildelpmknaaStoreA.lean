/- Printed by dec.py. -/
import Derived.Test.YthdiildelpmknaaEvC
import Derived.Test.YthdiildelpmknaaEv28
namespace Go.Proofs.Ythdiildelpmknaa.Ev
open Go Go.RowKit
set_option linter.unusedVariables false
set_option linter.unusedSimpArgs false
abbrev Rs := AV × List Ob

/-! laws.szSeg -/
def szSeg_O : Opt := { cons := [], keepNil := false, mutF := [], live := [], outs := [] }
def szSeg_br (d : List UInt8) (s left : Int) : Br := (Br.ite (decide ((wrap64 (left - ((List.length d) : Int))) < (0 : Int))) (Br.ret (AV.int .i64 (-(1 : Int))) ([] : (List (Ob)))) (Br.ret (AV.int .i64 (wrap64 (left - ((List.length d) : Int)))) ([] : (List (Ob)))))
theorem szSeg_run (d : List UInt8) (s left : Int) : runF Kx noS szSeg_O 1 Try.f90 ([.agg [.str d, .int .i64 s], .int .i64 left]) ([]) = (szSeg_br d s left).val := by kernel_rfl
def szSeg_s : List AV → List Ob → Br
  | [.agg [.str d, .int .i64 s], .int .i64 left], [] => szSeg_br d s left
  | _, _ => .fail
theorem szSeg_ok : Sound Kx 90 szSeg_s := by
  refine sound_run (C := noS) (O := szSeg_O) KOk (sound_no Kx) Try.func90 (by kernel_rfl) fun args objs res os h => ?_
  unfold szSeg_s at h
  split at h
  · exact ⟨1, (szSeg_run _ _ _).trans h⟩
  · cases h

/-! laws.toSeg -/
def toSeg_O : Opt := { cons := [], keepNil := false, mutF := [], live := [], outs := [] }
def toSeg_br (d : List UInt8) (s : Int) : Br := (Br.ret (AV.agg ((AV.str d) :: ((AV.int .i64 s) :: ([] : (List (AV)))))) ([] : (List (Ob))))
theorem toSeg_run (d : List UInt8) (s : Int) : runF Kx noS toSeg_O 1 Try.f91 ([.agg [.str d, .int .i64 s]]) ([]) = (toSeg_br d s).val := by kernel_rfl
def toSeg_s : List AV → List Ob → Br
  | [.agg [.str d, .int .i64 s]], [] => toSeg_br d s
  | _, _ => .fail
theorem toSeg_ok : Sound Kx 91 toSeg_s := by
  refine sound_run (C := noS) (O := toSeg_O) KOk (sound_no Kx) Try.func91 (by kernel_rfl) fun args objs res os h => ?_
  unfold toSeg_s at h
  split at h
  · exact ⟨1, (toSeg_run _ _).trans h⟩
  · cases h

/-! laws.eqSeg -/
def eqSeg_O : Opt := { cons := [], keepNil := false, mutF := [], live := [], outs := [] }
def eqSeg_br (d : List UInt8) (s : Int) (d' : List UInt8) (s' : Int) : Br := (Br.ite (!(decide (d = d'))) (Br.ret (AV.bool false) ([] : (List (Ob)))) (Br.ite (!(decide (s = s'))) (Br.ret (AV.bool false) ([] : (List (Ob)))) (Br.ret (AV.bool true) ([] : (List (Ob))))))
theorem eqSeg_run (d : List UInt8) (s : Int) (d' : List UInt8) (s' : Int) : runF Kx noS eqSeg_O 1 Try.f92 ([.agg [.str d, .int .i64 s], .agg [.str d', .int .i64 s']]) ([]) = (eqSeg_br d s d' s').val := by kernel_rfl
def eqSeg_s : List AV → List Ob → Br
  | [.agg [.str d, .int .i64 s], .agg [.str d', .int .i64 s']], [] => eqSeg_br d s d' s'
  | _, _ => .fail
theorem eqSeg_ok : Sound Kx 92 eqSeg_s := by
  refine sound_run (C := noS) (O := eqSeg_O) KOk (sound_no Kx) Try.func92 (by kernel_rfl) fun args objs res os h => ?_
  unfold eqSeg_s at h
  split at h
  · exact ⟨1, (eqSeg_run _ _ _ _).trans h⟩
  · cases h

/-! impl.within -/
def iwithin_O : Opt := { cons := [], keepNil := false, mutF := [], live := [], outs := [] }
def iwithin_br (n lo hi : Int) : Br := (Br.ite (decide (lo ≤ n)) (Br.ret (AV.bool (decide (n ≤ hi))) ([] : (List (Ob)))) (Br.ret (AV.bool false) ([] : (List (Ob)))))
theorem iwithin_run (n lo hi : Int) : runF Kx noS iwithin_O 1 Try.f60 ([.int .i64 n, .int .i64 lo, .int .i64 hi]) ([]) = (iwithin_br n lo hi).val := by kernel_rfl
def iwithin_s : List AV → List Ob → Br
  | [.int .i64 n, .int .i64 lo, .int .i64 hi], [] => iwithin_br n lo hi
  | _, _ => .fail
theorem iwithin_ok : Sound Kx 60 iwithin_s := by
  refine sound_run (C := noS) (O := iwithin_O) KOk (sound_no Kx) Try.func60 (by kernel_rfl) fun args objs res os h => ?_
  unfold iwithin_s at h
  split at h
  · exact ⟨1, (iwithin_run _ _ _).trans h⟩
  · cases h

/-! spec.StoreOk -/
def sOk_O : Opt := { cons := [], keepNil := false, mutF := [], live := [(5, [1, 3, 4])], outs := [(5, [2])] }
def sOk_T5 (v5x0 : Int) (v5x1 : Int) (v5x2 : (List ((List UInt8) × Int))) (v5x3 : Int) (kR5 : Int → Int → (List ((List UInt8) × Int)) → Int → Option Rs) (k5e0 : Option Rs) (k5e1 : Option Rs) : Option Rs :=
  (bif (decide (v5x1 < ((List.length v5x2) : Int))) then (bif (decide ((0 : Int) ≤ v5x1)) then (bif (decide (v5x1 < ((List.length v5x2) : Int))) then (bif (decide (v5x0 < ((List.length (List.getD v5x2 (Int.toNat v5x1) (([] : (List UInt8)), (0 : Int))).1) : Int))) then k5e0 else (bif (decide ((List.getD v5x2 (Int.toNat v5x1) (([] : (List UInt8)), (0 : Int))).2 < (0 : Int))) then k5e0 else (bif (decide (((List.length (List.getD v5x2 (Int.toNat v5x1) (([] : (List UInt8)), (0 : Int))).1) : Int) < (List.getD v5x2 (Int.toNat v5x1) (([] : (List UInt8)), (0 : Int))).2)) then k5e0 else (bif (decide ((wrap64 (v5x1 + (1 : Int))) < ((List.length v5x2) : Int))) then (bif (decide (((List.length (List.getD v5x2 (Int.toNat v5x1) (([] : (List UInt8)), (0 : Int))).1) : Int) = (0 : Int))) then k5e0 else (bif (!(decide ((List.getD v5x2 (Int.toNat v5x1) (([] : (List UInt8)), (0 : Int))).2 = ((List.length (List.getD v5x2 (Int.toNat v5x1) (([] : (List UInt8)), (0 : Int))).1) : Int)))) then k5e0 else (kR5 (wrap64 (v5x0 - ((List.length (List.getD v5x2 (Int.toNat v5x1) (([] : (List UInt8)), (0 : Int))).1) : Int))) (wrap64 (v5x1 + (1 : Int))) v5x2 v5x3))) else (kR5 (wrap64 (v5x0 - ((List.length (List.getD v5x2 (Int.toNat v5x1) (([] : (List UInt8)), (0 : Int))).1) : Int))) (wrap64 (v5x1 + (1 : Int))) v5x2 v5x3))))) else (none)) else (none)) else k5e1)
def sOk_F5 : Nat → Int → Int → (List ((List UInt8) × Int)) → Int → (Option Rs) → (Option Rs) → Option Rs
  | 0, _, _, _, _, _, _ => none
  | n + 1, v5x0, v5x1, v5x2, v5x3, k5e0, k5e1 => sOk_T5 v5x0 v5x1 v5x2 v5x3 (fun v5x0 v5x1 v5x2 v5x3 => sOk_F5 n v5x0 v5x1 v5x2 v5x3 k5e0 k5e1) k5e0 k5e1
def sOk_h5 (v5x0 : Int) (v5x1 : Int) (v5x2 : (List ((List UInt8) × Int))) (v5x3 : Int) : St := (St.mk (slots 0 79 [(1, (AV.ptr (128 : Nat) (0 : Nat))), (3, (AV.int .i64 v5x0)), (4, (AV.int .i64 v5x1))]) (((128 : Nat), (Ob.var ((AV.sh (Ty.pair Ty.str (Ty.int .i64)) v5x2) :: ((AV.int .i64 v5x3) :: ([] : (List (AV))))))) :: ([] : (List (Nat × (Ob))))))
def sOk_x5e0  : St := (St.mk (slots 0 79 [(2, (AV.bool false))]) ([] : (List (Nat × (Ob)))))
def sOk_x5e1  : St := (St.mk (slots 0 79 []) ([] : (List (Nat × (Ob)))))
noncomputable def sOk_b5 : Code := codeAt (codeOf Try.f51) [1, 1, 1, 0, 1, 0, 0]
def sOk_L5 (N : Nat) (st : St) (k : Ex → St → Option Rs) : Option Rs := match takeF [1, 3, 4] 0 79 st.env, st.objs with
  | some [.ptr 128 0, .int .i64 v5x0, .int .i64 v5x1], [(128, .var [.sh (Ty.pair Ty.str (Ty.int .i64)) v5x2, .int .i64 v5x3])] => sOk_F5 N v5x0 v5x1 v5x2 v5x3 (k Ex.ret (sOk_x5e0)) (k (Ex.exit (0 : Nat)) (sOk_x5e1))
  | _, _ => none
def sOk_L (N : Nat) : Lam := fun j st k => match j with
  | 5 => sOk_L5 N st k
  | _ => none
theorem sOk_round5 (N : Nat) (again : St → Option Rs) (k : Ex → St → Option Rs) (wv5x0 : Int) (wv5x1 : Int) (wv5x2 : (List ((List UInt8) × Int))) (wv5x3 : Int) (v5x0 : Int) (v5x1 : Int) (v5x2 : (List ((List UInt8) × Int))) (v5x3 : Int) :
    roundK 0 (fun st k => evL Kx noS sOk_O 0 (sOk_L N) sOk_b5 st k) (sOk_h5 wv5x0 wv5x1 wv5x2 wv5x3).env again (sOk_h5 v5x0 v5x1 v5x2 v5x3) (outK sOk_O 0 sOk_b5 k) = sOk_T5 v5x0 v5x1 v5x2 v5x3 (fun v5x0 v5x1 v5x2 v5x3 => again (sOk_h5 v5x0 v5x1 v5x2 v5x3)) (k Ex.ret (sOk_x5e0)) (k (Ex.exit (0 : Nat)) (sOk_x5e1)) := by kernel_rfl
theorem sOk_loop5 (N : Nat) (k : Ex → St → Option Rs) (wv5x0 : Int) (wv5x1 : Int) (wv5x2 : (List ((List UInt8) × Int))) (wv5x3 : Int) : ∀ (n : Nat) (v5x0 : Int) (v5x1 : Int) (v5x2 : (List ((List UInt8) × Int))) (v5x3 : Int),
    loopK 0 (fun st k => evL Kx noS sOk_O 0 (sOk_L N) sOk_b5 st k) (sOk_h5 wv5x0 wv5x1 wv5x2 wv5x3).env n (sOk_h5 v5x0 v5x1 v5x2 v5x3) (outK sOk_O 0 sOk_b5 k) = sOk_F5 n v5x0 v5x1 v5x2 v5x3 (k Ex.ret (sOk_x5e0)) (k (Ex.exit (0 : Nat)) (sOk_x5e1))
  | 0, _, _, _, _ => rfl
  | n + 1, v5x0, v5x1, v5x2, v5x3 => by
    rw [loopK_succ, sOk_round5]
    simp only [sOk_loop5 N k wv5x0 wv5x1 wv5x2 wv5x3 n]
    rfl
theorem sOk_at5 (N : Nat) {s : St} {k : Ex → St → Option Rs} {r : Rs} (h : sOk_L5 N s k = some r) : ∃ (v5x0 : Int) (v5x1 : Int) (v5x2 : (List ((List UInt8) × Int))) (v5x3 : Int), s = (sOk_h5 v5x0 v5x1 v5x2 v5x3) ∧ sOk_F5 N v5x0 v5x1 v5x2 v5x3 (k Ex.ret (sOk_x5e0)) (k (Ex.exit (0 : Nat)) (sOk_x5e1)) = some r := by
  cases s with | mk env objs =>
  unfold sOk_L5 at h
  split at h
  · rename_i e1 e2
    have e3 := takeF_slots _ _ _ _ e1
    simp only at e2 e3
    subst e2 e3
    exact ⟨_, _, _, _, rfl, h⟩
  · cases h
theorem sOk_in5 : loops sOk_b5 = [] := by kernel_rfl
theorem sOk_lid5 : lid sOk_b5 = 5 := by kernel_rfl
theorem sOk_ok5 (N : Nat) : OkL Kx noS sOk_O 0 N (sOk_L N) sOk_b5 := by
  intro s k k' r hk h
  rw [sOk_lid5] at h
  obtain ⟨v5x0, v5x1, v5x2, v5x3, rfl, h⟩ := sOk_at5 N h
  refine loopL (Λ := sOk_L N) sOk_b5 ?_ N hk ((sOk_loop5 N k v5x0 v5x1 v5x2 v5x3 N v5x0 v5x1 v5x2 v5x3).trans h)
  rw [sOk_in5]
  exact fun _ h => nomatch h
def sOk_run (N : Nat) (l : List (List UInt8 × Int)) (c : Int) : Option Rs := (bif (decide (c < (0 : Int))) then (some ((AV.bool false), ([] : (List (Ob))))) else (bif (decide ((60000 : Int) < c)) then (some ((AV.bool false), ([] : (List (Ob))))) else (bif (decide (((List.length l) : Int) < (1 : Int))) then (some ((AV.bool false), ([] : (List (Ob))))) else (bif (decide ((40 : Int) < ((List.length l) : Int))) then (some ((AV.bool false), ([] : (List (Ob))))) else (sOk_F5 N c (0 : Int) l c (some ((AV.bool false), ([] : (List (Ob))))) (some ((AV.bool true), ([] : (List (Ob))))))))))
theorem sOk_runL (N : Nat) (l : List (List UInt8 × Int)) (c : Int) : runL Kx noS sOk_O (sOk_L N) Try.f51 ([.agg [.sh (.pair .str (.int .i64)) l, .int .i64 c]]) ([]) = sOk_run N l c := by kernel_rfl
theorem sOk_body : Try.f51.body = some (codeOf Try.f51) := by kernel_rfl
theorem sOk_loops : loops (codeOf Try.f51) = [sOk_b5] := by kernel_rfl
theorem sOk_ev (N : Nat) (l : List (List UInt8 × Int)) (c : Int) {r : Rs} (h : sOk_run N l c = some r) : ∃ n, runF Kx noS sOk_O n Try.f51 ([.agg [.sh (.pair .str (.int .i64)) l, .int .i64 c]]) ([]) = some r :=
  ⟨N, runL_runF sOk_body (by rw [sOk_loops]; exact List.forall_mem_cons.2 ⟨sOk_ok5 N, fun _ h => nomatch h⟩) ((sOk_runL N l c).trans h)⟩
def sOk_sOf (φ : (List (List UInt8 × Int)) → Int → Br) : List AV → List Ob → Br
  | [.agg [.sh (.pair .str (.int .i64)) l, .int .i64 c]], [] => φ l c
  | _, _ => .fail
theorem sOk_okOf {φ : (List (List UInt8 × Int)) → Int → Br} (fu : (List (List UInt8 × Int)) → Int → Nat) (hv : ∀ l c r, (φ l c).val = some r → sOk_run (fu l c) l c = some r) : Sound Kx 51 (sOk_sOf φ) := by
  refine sound_run (C := noS) (O := sOk_O) KOk (sound_no Kx) Try.func51 (by kernel_rfl) fun args objs res os h => ?_
  unfold sOk_sOf at h
  split at h
  · exact sOk_ev _ _ _ (hv _ _ _ h)
  · cases h

/-! (impl.Store).used -/
def used_O : Opt := { cons := [], keepNil := false, mutF := [], live := [(3, [3, 7, 8, 9])], outs := [(3, [2, 3])] }
def used_T3 (v3x0 : Int) (v3x1 : (List ((List UInt8) × Int))) (v3x2 : Int) (v3x3 : Int) (kR3 : Int → (List ((List UInt8) × Int)) → Int → Int → Option Rs) (k3e0 : Int → Option Rs) : Option Rs :=
  (bif (decide (v3x3 < v3x2)) then (bif (decide ((0 : Int) ≤ v3x3)) then (bif (decide (v3x3 < ((List.length v3x1) : Int))) then (kR3 (wrap64 (v3x0 + ((List.length (List.getD v3x1 (Int.toNat v3x3) (([] : (List UInt8)), (0 : Int))).1) : Int))) v3x1 v3x2 (wrap64 (v3x3 + (1 : Int)))) else (none)) else (none)) else (k3e0 v3x0))
def used_F3 : Nat → Int → (List ((List UInt8) × Int)) → Int → Int → (Int → Option Rs) → Option Rs
  | 0, _, _, _, _, _ => none
  | n + 1, v3x0, v3x1, v3x2, v3x3, k3e0 => used_T3 v3x0 v3x1 v3x2 v3x3 (fun v3x0 v3x1 v3x2 v3x3 => used_F3 n v3x0 v3x1 v3x2 v3x3 k3e0) k3e0
def used_h3 (v3x0 : Int) (v3x1 : (List ((List UInt8) × Int))) (v3x2 : Int) (v3x3 : Int) : St := (St.mk (slots 0 20 [(3, (AV.int .i64 v3x0)), (7, (AV.sh (Ty.pair Ty.str (Ty.int .i64)) v3x1)), (8, (AV.int .i64 v3x2)), (9, (AV.int .i64 v3x3))]) ([] : (List (Nat × (Ob)))))
def used_x3e0 (x3x0x0 : Int) : St := (St.mk (slots 0 20 [(3, (AV.int .i64 x3x0x0))]) ([] : (List (Nat × (Ob)))))
noncomputable def used_b3 : Code := codeAt (codeOf Try.f74) [1, 1, 0, 1, 0, 0]
def used_L3 (N : Nat) (st : St) (k : Ex → St → Option Rs) : Option Rs := match takeF [3, 7, 8, 9] 0 20 st.env, st.objs with
  | some [.int .i64 v3x0, .sh (Ty.pair Ty.str (Ty.int .i64)) v3x1, .int .i64 v3x2, .int .i64 v3x3], [] => used_F3 N v3x0 v3x1 v3x2 v3x3 (fun x3x0x0 => k (Ex.exit (0 : Nat)) (used_x3e0 x3x0x0))
  | _, _ => none
def used_L (N : Nat) : Lam := fun j st k => match j with
  | 3 => used_L3 N st k
  | _ => none
theorem used_round3 (N : Nat) (again : St → Option Rs) (k : Ex → St → Option Rs) (wv3x0 : Int) (wv3x1 : (List ((List UInt8) × Int))) (wv3x2 : Int) (wv3x3 : Int) (v3x0 : Int) (v3x1 : (List ((List UInt8) × Int))) (v3x2 : Int) (v3x3 : Int) :
    roundK 0 (fun st k => evL Kx noS used_O 0 (used_L N) used_b3 st k) (used_h3 wv3x0 wv3x1 wv3x2 wv3x3).env again (used_h3 v3x0 v3x1 v3x2 v3x3) (outK used_O 0 used_b3 k) = used_T3 v3x0 v3x1 v3x2 v3x3 (fun v3x0 v3x1 v3x2 v3x3 => again (used_h3 v3x0 v3x1 v3x2 v3x3)) (fun x3x0x0 => k (Ex.exit (0 : Nat)) (used_x3e0 x3x0x0)) := by kernel_rfl
theorem used_loop3 (N : Nat) (k : Ex → St → Option Rs) (wv3x0 : Int) (wv3x1 : (List ((List UInt8) × Int))) (wv3x2 : Int) (wv3x3 : Int) : ∀ (n : Nat) (v3x0 : Int) (v3x1 : (List ((List UInt8) × Int))) (v3x2 : Int) (v3x3 : Int),
    loopK 0 (fun st k => evL Kx noS used_O 0 (used_L N) used_b3 st k) (used_h3 wv3x0 wv3x1 wv3x2 wv3x3).env n (used_h3 v3x0 v3x1 v3x2 v3x3) (outK used_O 0 used_b3 k) = used_F3 n v3x0 v3x1 v3x2 v3x3 (fun x3x0x0 => k (Ex.exit (0 : Nat)) (used_x3e0 x3x0x0))
  | 0, _, _, _, _ => rfl
  | n + 1, v3x0, v3x1, v3x2, v3x3 => by
    rw [loopK_succ, used_round3]
    simp only [used_loop3 N k wv3x0 wv3x1 wv3x2 wv3x3 n]
    rfl
theorem used_at3 (N : Nat) {s : St} {k : Ex → St → Option Rs} {r : Rs} (h : used_L3 N s k = some r) : ∃ (v3x0 : Int) (v3x1 : (List ((List UInt8) × Int))) (v3x2 : Int) (v3x3 : Int), s = (used_h3 v3x0 v3x1 v3x2 v3x3) ∧ used_F3 N v3x0 v3x1 v3x2 v3x3 (fun x3x0x0 => k (Ex.exit (0 : Nat)) (used_x3e0 x3x0x0)) = some r := by
  cases s with | mk env objs =>
  unfold used_L3 at h
  split at h
  · rename_i e1 e2
    have e3 := takeF_slots _ _ _ _ e1
    simp only at e2 e3
    subst e2 e3
    exact ⟨_, _, _, _, rfl, h⟩
  · cases h
theorem used_in3 : loops used_b3 = [] := by kernel_rfl
theorem used_lid3 : lid used_b3 = 3 := by kernel_rfl
theorem used_ok3 (N : Nat) : OkL Kx noS used_O 0 N (used_L N) used_b3 := by
  intro s k k' r hk h
  rw [used_lid3] at h
  obtain ⟨v3x0, v3x1, v3x2, v3x3, rfl, h⟩ := used_at3 N h
  refine loopL (Λ := used_L N) used_b3 ?_ N hk ((used_loop3 N k v3x0 v3x1 v3x2 v3x3 N v3x0 v3x1 v3x2 v3x3).trans h)
  rw [used_in3]
  exact fun _ h => nomatch h
def used_run (N : Nat) (l : List (List UInt8 × Int)) (c : Int) : Option Rs := (used_F3 N (0 : Int) l ((List.length l) : Int) (0 : Int) (fun x3x0x0 => (some ((AV.int .i64 x3x0x0), ([] : (List (Ob)))))))
theorem used_runL (N : Nat) (l : List (List UInt8 × Int)) (c : Int) : runL Kx noS used_O (used_L N) Try.f74 ([.agg [.sh (.pair .str (.int .i64)) l, .int .i64 c]]) ([]) = used_run N l c := by kernel_rfl
theorem used_body : Try.f74.body = some (codeOf Try.f74) := by kernel_rfl
theorem used_loops : loops (codeOf Try.f74) = [used_b3] := by kernel_rfl
theorem used_ev (N : Nat) (l : List (List UInt8 × Int)) (c : Int) {r : Rs} (h : used_run N l c = some r) : ∃ n, runF Kx noS used_O n Try.f74 ([.agg [.sh (.pair .str (.int .i64)) l, .int .i64 c]]) ([]) = some r :=
  ⟨N, runL_runF used_body (by rw [used_loops]; exact List.forall_mem_cons.2 ⟨used_ok3 N, fun _ h => nomatch h⟩) ((used_runL N l c).trans h)⟩
def used_sOf (φ : (List (List UInt8 × Int)) → Int → Br) : List AV → List Ob → Br
  | [.agg [.sh (.pair .str (.int .i64)) l, .int .i64 c]], [] => φ l c
  | _, _ => .fail
theorem used_okOf {φ : (List (List UInt8 × Int)) → Int → Br} (fu : (List (List UInt8 × Int)) → Int → Nat) (hv : ∀ l c r, (φ l c).val = some r → used_run (fu l c) l c = some r) : Sound Kx 74 (used_sOf φ) := by
  refine sound_run (C := noS) (O := used_O) KOk (sound_no Kx) Try.func74 (by kernel_rfl) fun args objs res os h => ?_
  unfold used_sOf at h
  split at h
  · exact used_ev _ _ _ (hv _ _ _ h)
  · cases h

/-! spec.l4copy -/
def copy_O : Opt := { cons := [], keepNil := false, mutF := [], live := [], outs := [] }
def copy_br (l : List (List UInt8 × Int)) (c : Int) : Br := (Br.ite (decide ((((0 : Nat) + (List.length l)) * (24 : Nat)) ≤ (140737488355328 : Nat))) (Br.ret (AV.agg ((AV.ref (0 : Nat) (0 : Nat)) :: ((AV.int .i64 c) :: ([] : (List (AV)))))) ((Ob.arr (Ty.pair Ty.str (Ty.int .i64)) (0 : Nat) false ((List.replicate (0 : Nat) (([] : (List UInt8)), (0 : Int))) ++ l)) :: ([] : (List (Ob))))) Br.fail)
theorem copy_run (l : List (List UInt8 × Int)) (c : Int) : runF Kx noS copy_O 1 Try.f67 ([.agg [.sh (.pair .str (.int .i64)) l, .int .i64 c]]) ([]) = (copy_br l c).val := by kernel_rfl
def copy_s : List AV → List Ob → Br
  | [.agg [.sh (.pair .str (.int .i64)) l, .int .i64 c]], [] => copy_br l c
  | _, _ => .fail
theorem copy_ok : Sound Kx 67 copy_s := by
  refine sound_run (C := noS) (O := copy_O) KOk (sound_no Kx) Try.func67 (by kernel_rfl) fun args objs res os h => ?_
  unfold copy_s at h
  split at h
  · exact ⟨1, (copy_run _ _).trans h⟩
  · cases h

/-! (impl.Store).own -/
def own_O : Opt := { cons := [], keepNil := false, mutF := [], live := [], outs := [] }
def own_br (l : List (List UInt8 × Int)) (c : Int) : Br := (Br.ite (decide ((((0 : Nat) + (List.length l)) * (24 : Nat)) ≤ (140737488355328 : Nat))) (Br.ite (decide ((0 : Int) ≤ (wrap64 (((List.length ((List.replicate (0 : Nat) (([] : (List UInt8)), (0 : Int))) ++ l)) : Int) - (1 : Int))))) (Br.ite (decide ((wrap64 (((List.length ((List.replicate (0 : Nat) (([] : (List UInt8)), (0 : Int))) ++ l)) : Int) - (1 : Int))) < ((List.length ((List.replicate (0 : Nat) (([] : (List UInt8)), (0 : Int))) ++ l)) : Int))) (Br.ret (AV.tup ((AV.agg ((AV.ref (0 : Nat) (0 : Nat)) :: ((AV.int .i64 c) :: ([] : (List (AV)))))) :: ((AV.eptr (0 : Nat) (0 : Nat) (wrap64 (((List.length ((List.replicate (0 : Nat) (([] : (List UInt8)), (0 : Int))) ++ l)) : Int) - (1 : Int))) (0 : Nat)) :: ([] : (List (AV)))))) ((Ob.arr (Ty.pair Ty.str (Ty.int .i64)) (0 : Nat) false ((List.replicate (0 : Nat) (([] : (List UInt8)), (0 : Int))) ++ l)) :: ([] : (List (Ob))))) Br.fail) Br.fail) Br.fail)
theorem own_run (l : List (List UInt8 × Int)) (c : Int) : runF Kx noS own_O 1 Try.f69 ([.agg [.sh (.pair .str (.int .i64)) l, .int .i64 c]]) ([]) = (own_br l c).val := by kernel_rfl
def own_s : List AV → List Ob → Br
  | [.agg [.sh (.pair .str (.int .i64)) l, .int .i64 c]], [] => own_br l c
  | _, _ => .fail
theorem own_ok : Sound Kx 69 own_s := by
  refine sound_run (C := noS) (O := own_O) KOk (sound_no Kx) Try.func69 (by kernel_rfl) fun args objs res os h => ?_
  unfold own_s at h
  split at h
  · exact ⟨1, (own_run _ _).trans h⟩
  · cases h

/-! (impl.Store).last -/
def last_O : Opt := { cons := [], keepNil := false, mutF := [], live := [], outs := [] }
def last_br (l : List (List UInt8 × Int)) (c : Int) : Br := (Br.ite (decide ((0 : Int) ≤ (wrap64 (((List.length l) : Int) - (1 : Int))))) (Br.ite (decide ((wrap64 (((List.length l) : Int) - (1 : Int))) < ((List.length l) : Int))) (Br.ret (AV.agg ((AV.str (List.getD l (Int.toNat (wrap64 (((List.length l) : Int) - (1 : Int)))) (([] : (List UInt8)), (0 : Int))).1) :: ((AV.int .i64 (List.getD l (Int.toNat (wrap64 (((List.length l) : Int) - (1 : Int)))) (([] : (List UInt8)), (0 : Int))).2) :: ([] : (List (AV)))))) ([] : (List (Ob)))) Br.fail) Br.fail)
theorem last_run (l : List (List UInt8 × Int)) (c : Int) : runF Kx noS last_O 1 Try.f73 ([.agg [.sh (.pair .str (.int .i64)) l, .int .i64 c]]) ([]) = (last_br l c).val := by kernel_rfl
def last_s : List AV → List Ob → Br
  | [.agg [.sh (.pair .str (.int .i64)) l, .int .i64 c]], [] => last_br l c
  | _, _ => .fail
theorem last_ok : Sound Kx 73 last_s := by
  refine sound_run (C := noS) (O := last_O) KOk (sound_no Kx) Try.func73 (by kernel_rfl) fun args objs res os h => ?_
  unfold last_s at h
  split at h
  · exact ⟨1, (last_run _ _).trans h⟩
  · cases h

/-! laws.szSegS -/
def szSegS_O : Opt := { cons := [], keepNil := false, mutF := [], live := [(5, [0, 1, 5])], outs := [(5, [1, 4])] }
def szSegS_C : Spec := (add noS 90 szSeg_s)
theorem szSegS_C_ok : ∀ fn, Sound Kx fn (szSegS_C fn) := (sound_add (sound_no Kx) szSeg_ok)
def szSegS_T5 (v5x0 : (List ((List UInt8) × Int))) (v5x1 : Int) (v5x2 : Int) (kR5 : (List ((List UInt8) × Int)) → Int → Int → Option Rs) (k5e0 : Int → Option Rs) (k5e1 : Int → Option Rs) : Option Rs :=
  (bif (decide (v5x2 < ((List.length v5x0) : Int))) then (bif (decide ((0 : Int) ≤ v5x2)) then (bif (decide (v5x2 < ((List.length v5x0) : Int))) then (bif (decide ((wrap64 (v5x1 - ((List.length (List.getD v5x0 (Int.toNat v5x2) (([] : (List UInt8)), (0 : Int))).1) : Int))) < (0 : Int))) then (k5e0 (-(1 : Int))) else (bif (decide ((wrap64 (v5x1 - ((List.length (List.getD v5x0 (Int.toNat v5x2) (([] : (List UInt8)), (0 : Int))).1) : Int))) < (0 : Int))) then (k5e0 (wrap64 (v5x1 - ((List.length (List.getD v5x0 (Int.toNat v5x2) (([] : (List UInt8)), (0 : Int))).1) : Int)))) else (kR5 v5x0 (wrap64 (v5x1 - ((List.length (List.getD v5x0 (Int.toNat v5x2) (([] : (List UInt8)), (0 : Int))).1) : Int))) (wrap64 (v5x2 + (1 : Int)))))) else (none)) else (none)) else (k5e1 v5x1))
def szSegS_F5 : Nat → (List ((List UInt8) × Int)) → Int → Int → (Int → Option Rs) → (Int → Option Rs) → Option Rs
  | 0, _, _, _, _, _ => none
  | n + 1, v5x0, v5x1, v5x2, k5e0, k5e1 => szSegS_T5 v5x0 v5x1 v5x2 (fun v5x0 v5x1 v5x2 => szSegS_F5 n v5x0 v5x1 v5x2 k5e0 k5e1) k5e0 k5e1
def szSegS_h5 (v5x0 : (List ((List UInt8) × Int))) (v5x1 : Int) (v5x2 : Int) : St := (St.mk (slots 0 27 [(0, (AV.sh (Ty.pair Ty.str (Ty.int .i64)) v5x0)), (1, (AV.int .i64 v5x1)), (5, (AV.int .i64 v5x2))]) ([] : (List (Nat × (Ob)))))
def szSegS_x5e0 (x5x0x0 : Int) : St := (St.mk (slots 0 27 [(1, (AV.int .i64 x5x0x0)), (4, (AV.int .i64 (-(1 : Int))))]) ([] : (List (Nat × (Ob)))))
def szSegS_x5e1 (x5x1x0 : Int) : St := (St.mk (slots 0 27 [(1, (AV.int .i64 x5x1x0))]) ([] : (List (Nat × (Ob)))))
noncomputable def szSegS_b5 : Code := codeAt (codeOf Try.f66) [1, 1, 1, 0, 1, 0, 0]
def szSegS_L5 (N : Nat) (st : St) (k : Ex → St → Option Rs) : Option Rs := match takeF [0, 1, 5] 0 27 st.env, st.objs with
  | some [.sh (Ty.pair Ty.str (Ty.int .i64)) v5x0, .int .i64 v5x1, .int .i64 v5x2], [] => szSegS_F5 N v5x0 v5x1 v5x2 (fun x5x0x0 => k Ex.ret (szSegS_x5e0 x5x0x0)) (fun x5x1x0 => k (Ex.exit (0 : Nat)) (szSegS_x5e1 x5x1x0))
  | _, _ => none
def szSegS_L (N : Nat) : Lam := fun j st k => match j with
  | 5 => szSegS_L5 N st k
  | _ => none
theorem szSegS_round5 (N : Nat) (again : St → Option Rs) (k : Ex → St → Option Rs) (wv5x0 : (List ((List UInt8) × Int))) (wv5x1 : Int) (wv5x2 : Int) (v5x0 : (List ((List UInt8) × Int))) (v5x1 : Int) (v5x2 : Int) :
    roundK 0 (fun st k => evL Kx szSegS_C szSegS_O 0 (szSegS_L N) szSegS_b5 st k) (szSegS_h5 wv5x0 wv5x1 wv5x2).env again (szSegS_h5 v5x0 v5x1 v5x2) (outK szSegS_O 0 szSegS_b5 k) = szSegS_T5 v5x0 v5x1 v5x2 (fun v5x0 v5x1 v5x2 => again (szSegS_h5 v5x0 v5x1 v5x2)) (fun x5x0x0 => k Ex.ret (szSegS_x5e0 x5x0x0)) (fun x5x1x0 => k (Ex.exit (0 : Nat)) (szSegS_x5e1 x5x1x0)) := by kernel_rfl
theorem szSegS_loop5 (N : Nat) (k : Ex → St → Option Rs) (wv5x0 : (List ((List UInt8) × Int))) (wv5x1 : Int) (wv5x2 : Int) : ∀ (n : Nat) (v5x0 : (List ((List UInt8) × Int))) (v5x1 : Int) (v5x2 : Int),
    loopK 0 (fun st k => evL Kx szSegS_C szSegS_O 0 (szSegS_L N) szSegS_b5 st k) (szSegS_h5 wv5x0 wv5x1 wv5x2).env n (szSegS_h5 v5x0 v5x1 v5x2) (outK szSegS_O 0 szSegS_b5 k) = szSegS_F5 n v5x0 v5x1 v5x2 (fun x5x0x0 => k Ex.ret (szSegS_x5e0 x5x0x0)) (fun x5x1x0 => k (Ex.exit (0 : Nat)) (szSegS_x5e1 x5x1x0))
  | 0, _, _, _ => rfl
  | n + 1, v5x0, v5x1, v5x2 => by
    rw [loopK_succ, szSegS_round5]
    simp only [szSegS_loop5 N k wv5x0 wv5x1 wv5x2 n]
    rfl
theorem szSegS_at5 (N : Nat) {s : St} {k : Ex → St → Option Rs} {r : Rs} (h : szSegS_L5 N s k = some r) : ∃ (v5x0 : (List ((List UInt8) × Int))) (v5x1 : Int) (v5x2 : Int), s = (szSegS_h5 v5x0 v5x1 v5x2) ∧ szSegS_F5 N v5x0 v5x1 v5x2 (fun x5x0x0 => k Ex.ret (szSegS_x5e0 x5x0x0)) (fun x5x1x0 => k (Ex.exit (0 : Nat)) (szSegS_x5e1 x5x1x0)) = some r := by
  cases s with | mk env objs =>
  unfold szSegS_L5 at h
  split at h
  · rename_i e1 e2
    have e3 := takeF_slots _ _ _ _ e1
    simp only at e2 e3
    subst e2 e3
    exact ⟨_, _, _, rfl, h⟩
  · cases h
theorem szSegS_in5 : loops szSegS_b5 = [] := by kernel_rfl
theorem szSegS_lid5 : lid szSegS_b5 = 5 := by kernel_rfl
theorem szSegS_ok5 (N : Nat) : OkL Kx szSegS_C szSegS_O 0 N (szSegS_L N) szSegS_b5 := by
  intro s k k' r hk h
  rw [szSegS_lid5] at h
  obtain ⟨v5x0, v5x1, v5x2, rfl, h⟩ := szSegS_at5 N h
  refine loopL (Λ := szSegS_L N) szSegS_b5 ?_ N hk ((szSegS_loop5 N k v5x0 v5x1 v5x2 N v5x0 v5x1 v5x2).trans h)
  rw [szSegS_in5]
  exact fun _ h => nomatch h
def szSegS_run (N : Nat) (l : List (List UInt8 × Int)) (left : Int) : Option Rs := (bif (decide ((wrap64 (left - ((List.length l) : Int))) < (0 : Int))) then (some ((AV.int .i64 (-(1 : Int))), ([] : (List (Ob))))) else (szSegS_F5 N l (wrap64 (left - ((List.length l) : Int))) (0 : Int) (fun x5x0x0 => (some ((AV.int .i64 (-(1 : Int))), ([] : (List (Ob)))))) (fun x5x1x0 => (some ((AV.int .i64 x5x1x0), ([] : (List (Ob))))))))
theorem szSegS_runL (N : Nat) (l : List (List UInt8 × Int)) (left : Int) : runL Kx szSegS_C szSegS_O (szSegS_L N) Try.f66 ([.sh (.pair .str (.int .i64)) l, .int .i64 left]) ([]) = szSegS_run N l left := by kernel_rfl
theorem szSegS_body : Try.f66.body = some (codeOf Try.f66) := by kernel_rfl
theorem szSegS_loops : loops (codeOf Try.f66) = [szSegS_b5] := by kernel_rfl
theorem szSegS_ev (N : Nat) (l : List (List UInt8 × Int)) (left : Int) {r : Rs} (h : szSegS_run N l left = some r) : ∃ n, runF Kx szSegS_C szSegS_O n Try.f66 ([.sh (.pair .str (.int .i64)) l, .int .i64 left]) ([]) = some r :=
  ⟨N, runL_runF szSegS_body (by rw [szSegS_loops]; exact List.forall_mem_cons.2 ⟨szSegS_ok5 N, fun _ h => nomatch h⟩) ((szSegS_runL N l left).trans h)⟩
def szSegS_sOf (φ : (List (List UInt8 × Int)) → Int → Br) : List AV → List Ob → Br
  | [.sh (.pair .str (.int .i64)) l, .int .i64 left], [] => φ l left
  | _, _ => .fail
theorem szSegS_okOf {φ : (List (List UInt8 × Int)) → Int → Br} (fu : (List (List UInt8 × Int)) → Int → Nat) (hv : ∀ l left r, (φ l left).val = some r → szSegS_run (fu l left) l left = some r) : Sound Kx 66 (szSegS_sOf φ) := by
  refine sound_run (C := szSegS_C) (O := szSegS_O) KOk szSegS_C_ok Try.func66 (by kernel_rfl) fun args objs res os h => ?_
  unfold szSegS_sOf at h
  split at h
  · exact szSegS_ev _ _ _ (hv _ _ _ h)
  · cases h

/-! laws.toSegS -/
def toSegS_O : Opt := { cons := [], keepNil := false, mutF := [], live := [(3, [0, 3, 4])], outs := [(3, [2, 3])] }
def toSegS_C : Spec := (add noS 91 toSeg_s)
theorem toSegS_C_ok : ∀ fn, Sound Kx fn (toSegS_C fn) := (sound_add (sound_no Kx) toSeg_ok)
def toSegS_T3 (v3x0 : (List ((List UInt8) × Int))) (v3x1 : Int) (v3x2 : (List ((List UInt8) × Int))) (kR3 : (List ((List UInt8) × Int)) → Int → (List ((List UInt8) × Int)) → Option Rs) (k3e0 : (List ((List UInt8) × Int)) → Option Rs) : Option Rs :=
  (bif (decide (v3x1 < ((List.length v3x0) : Int))) then (bif (decide ((0 : Int) ≤ v3x1)) then (bif (decide (v3x1 < ((List.length v3x0) : Int))) then (bif (decide ((0 : Int) ≤ v3x1)) then (bif (decide (v3x1 < ((List.length v3x2) : Int))) then (kR3 v3x0 (wrap64 (v3x1 + (1 : Int))) (List.set v3x2 (Int.toNat v3x1) ((List.getD v3x0 (Int.toNat v3x1) (([] : (List UInt8)), (0 : Int))).1, (List.getD v3x0 (Int.toNat v3x1) (([] : (List UInt8)), (0 : Int))).2))) else (none)) else (none)) else (none)) else (none)) else (k3e0 v3x2))
def toSegS_F3 : Nat → (List ((List UInt8) × Int)) → Int → (List ((List UInt8) × Int)) → ((List ((List UInt8) × Int)) → Option Rs) → Option Rs
  | 0, _, _, _, _ => none
  | n + 1, v3x0, v3x1, v3x2, k3e0 => toSegS_T3 v3x0 v3x1 v3x2 (fun v3x0 v3x1 v3x2 => toSegS_F3 n v3x0 v3x1 v3x2 k3e0) k3e0
def toSegS_h3 (v3x0 : (List ((List UInt8) × Int))) (v3x1 : Int) (v3x2 : (List ((List UInt8) × Int))) : St := (St.mk (slots 0 23 [(0, (AV.sh (Ty.pair Ty.str (Ty.int .i64)) v3x0)), (3, (AV.ref (256 : Nat) (0 : Nat))), (4, (AV.int .i64 v3x1))]) (((256 : Nat), (Ob.arr (Ty.pair Ty.str (Ty.int .i64)) (0 : Nat) false v3x2)) :: ([] : (List (Nat × (Ob))))))
def toSegS_x3e0 (x3x0x0 : (List ((List UInt8) × Int))) : St := (St.mk (slots 0 23 [(3, (AV.ref (256 : Nat) (0 : Nat)))]) (((256 : Nat), (Ob.arr (Ty.pair Ty.str (Ty.int .i64)) (0 : Nat) false x3x0x0)) :: ([] : (List (Nat × (Ob))))))
noncomputable def toSegS_b3 : Code := codeAt (codeOf Try.f68) [1, 1, 0, 1, 0, 0]
def toSegS_L3 (N : Nat) (st : St) (k : Ex → St → Option Rs) : Option Rs := match takeF [0, 3, 4] 0 23 st.env, st.objs with
  | some [.sh (Ty.pair Ty.str (Ty.int .i64)) v3x0, .ref 256 0, .int .i64 v3x1], [(256, .arr (Ty.pair Ty.str (Ty.int .i64)) 0 false v3x2)] => toSegS_F3 N v3x0 v3x1 v3x2 (fun x3x0x0 => k (Ex.exit (0 : Nat)) (toSegS_x3e0 x3x0x0))
  | _, _ => none
def toSegS_L (N : Nat) : Lam := fun j st k => match j with
  | 3 => toSegS_L3 N st k
  | _ => none
theorem toSegS_round3 (N : Nat) (again : St → Option Rs) (k : Ex → St → Option Rs) (wv3x0 : (List ((List UInt8) × Int))) (wv3x1 : Int) (wv3x2 : (List ((List UInt8) × Int))) (v3x0 : (List ((List UInt8) × Int))) (v3x1 : Int) (v3x2 : (List ((List UInt8) × Int))) :
    roundK 0 (fun st k => evL Kx toSegS_C toSegS_O 0 (toSegS_L N) toSegS_b3 st k) (toSegS_h3 wv3x0 wv3x1 wv3x2).env again (toSegS_h3 v3x0 v3x1 v3x2) (outK toSegS_O 0 toSegS_b3 k) = toSegS_T3 v3x0 v3x1 v3x2 (fun v3x0 v3x1 v3x2 => again (toSegS_h3 v3x0 v3x1 v3x2)) (fun x3x0x0 => k (Ex.exit (0 : Nat)) (toSegS_x3e0 x3x0x0)) := by kernel_rfl
theorem toSegS_loop3 (N : Nat) (k : Ex → St → Option Rs) (wv3x0 : (List ((List UInt8) × Int))) (wv3x1 : Int) (wv3x2 : (List ((List UInt8) × Int))) : ∀ (n : Nat) (v3x0 : (List ((List UInt8) × Int))) (v3x1 : Int) (v3x2 : (List ((List UInt8) × Int))),
    loopK 0 (fun st k => evL Kx toSegS_C toSegS_O 0 (toSegS_L N) toSegS_b3 st k) (toSegS_h3 wv3x0 wv3x1 wv3x2).env n (toSegS_h3 v3x0 v3x1 v3x2) (outK toSegS_O 0 toSegS_b3 k) = toSegS_F3 n v3x0 v3x1 v3x2 (fun x3x0x0 => k (Ex.exit (0 : Nat)) (toSegS_x3e0 x3x0x0))
  | 0, _, _, _ => rfl
  | n + 1, v3x0, v3x1, v3x2 => by
    rw [loopK_succ, toSegS_round3]
    simp only [toSegS_loop3 N k wv3x0 wv3x1 wv3x2 n]
    rfl
theorem toSegS_at3 (N : Nat) {s : St} {k : Ex → St → Option Rs} {r : Rs} (h : toSegS_L3 N s k = some r) : ∃ (v3x0 : (List ((List UInt8) × Int))) (v3x1 : Int) (v3x2 : (List ((List UInt8) × Int))), s = (toSegS_h3 v3x0 v3x1 v3x2) ∧ toSegS_F3 N v3x0 v3x1 v3x2 (fun x3x0x0 => k (Ex.exit (0 : Nat)) (toSegS_x3e0 x3x0x0)) = some r := by
  cases s with | mk env objs =>
  unfold toSegS_L3 at h
  split at h
  · rename_i e1 e2
    have e3 := takeF_slots _ _ _ _ e1
    simp only at e2 e3
    subst e2 e3
    exact ⟨_, _, _, rfl, h⟩
  · cases h
theorem toSegS_in3 : loops toSegS_b3 = [] := by kernel_rfl
theorem toSegS_lid3 : lid toSegS_b3 = 3 := by kernel_rfl
theorem toSegS_ok3 (N : Nat) : OkL Kx toSegS_C toSegS_O 0 N (toSegS_L N) toSegS_b3 := by
  intro s k k' r hk h
  rw [toSegS_lid3] at h
  obtain ⟨v3x0, v3x1, v3x2, rfl, h⟩ := toSegS_at3 N h
  refine loopL (Λ := toSegS_L N) toSegS_b3 ?_ N hk ((toSegS_loop3 N k v3x0 v3x1 v3x2 N v3x0 v3x1 v3x2).trans h)
  rw [toSegS_in3]
  exact fun _ h => nomatch h
def toSegS_run (N : Nat) (l : List (List UInt8 × Int)) : Option Rs := (bif (decide ((0 : Int) ≤ ((List.length l) : Int))) then (bif (decide (((List.length l) : Int) = ((List.length l) : Int))) then (bif (decide ((((List.length l) : Int) * (24 : Int)) ≤ (140737488355328 : Int))) then (toSegS_F3 N l (0 : Int) (List.replicate (Int.toNat ((List.length l) : Int)) (([] : (List UInt8)), (0 : Int))) (fun x3x0x0 => (some ((AV.ref (0 : Nat) (0 : Nat)), ((Ob.arr (Ty.pair Ty.str (Ty.int .i64)) (0 : Nat) false x3x0x0) :: ([] : (List (Ob)))))))) else (none)) else (none)) else (none))
theorem toSegS_runL (N : Nat) (l : List (List UInt8 × Int)) : runL Kx toSegS_C toSegS_O (toSegS_L N) Try.f68 ([.sh (.pair .str (.int .i64)) l]) ([]) = toSegS_run N l := by kernel_rfl
theorem toSegS_body : Try.f68.body = some (codeOf Try.f68) := by kernel_rfl
theorem toSegS_loops : loops (codeOf Try.f68) = [toSegS_b3] := by kernel_rfl
theorem toSegS_ev (N : Nat) (l : List (List UInt8 × Int)) {r : Rs} (h : toSegS_run N l = some r) : ∃ n, runF Kx toSegS_C toSegS_O n Try.f68 ([.sh (.pair .str (.int .i64)) l]) ([]) = some r :=
  ⟨N, runL_runF toSegS_body (by rw [toSegS_loops]; exact List.forall_mem_cons.2 ⟨toSegS_ok3 N, fun _ h => nomatch h⟩) ((toSegS_runL N l).trans h)⟩
def toSegS_sOf (φ : (List (List UInt8 × Int)) → Br) : List AV → List Ob → Br
  | [.sh (.pair .str (.int .i64)) l], [] => φ l
  | _, _ => .fail
theorem toSegS_okOf {φ : (List (List UInt8 × Int)) → Br} (fu : (List (List UInt8 × Int)) → Nat) (hv : ∀ l r, (φ l).val = some r → toSegS_run (fu l) l = some r) : Sound Kx 68 (toSegS_sOf φ) := by
  refine sound_run (C := toSegS_C) (O := toSegS_O) KOk toSegS_C_ok Try.func68 (by kernel_rfl) fun args objs res os h => ?_
  unfold toSegS_sOf at h
  split at h
  · exact toSegS_ev _ _ (hv _ _ h)
  · cases h

/-! laws.eqSegS -/
def eqSegS_O : Opt := { cons := [], keepNil := false, mutF := [], live := [(4, [0, 1, 5])], outs := [(4, [4])] }
def eqSegS_C : Spec := (add noS 92 eqSeg_s)
theorem eqSegS_C_ok : ∀ fn, Sound Kx fn (eqSegS_C fn) := (sound_add (sound_no Kx) eqSeg_ok)
def eqSegS_T4 (v4x0 : (List ((List UInt8) × Int))) (v4x1 : (List ((List UInt8) × Int))) (v4x2 : Int) (kR4 : (List ((List UInt8) × Int)) → (List ((List UInt8) × Int)) → Int → Option Rs) (k4e0 : Option Rs) (k4e1 : Option Rs) : Option Rs :=
  (bif (decide (v4x2 < ((List.length v4x0) : Int))) then (bif (decide ((0 : Int) ≤ v4x2)) then (bif (decide (v4x2 < ((List.length v4x0) : Int))) then (bif (decide ((0 : Int) ≤ v4x2)) then (bif (decide (v4x2 < ((List.length v4x1) : Int))) then (bif (!(decide ((List.getD v4x0 (Int.toNat v4x2) (([] : (List UInt8)), (0 : Int))).1 = (List.getD v4x1 (Int.toNat v4x2) (([] : (List UInt8)), (0 : Int))).1))) then k4e0 else (bif (!(decide ((List.getD v4x0 (Int.toNat v4x2) (([] : (List UInt8)), (0 : Int))).2 = (List.getD v4x1 (Int.toNat v4x2) (([] : (List UInt8)), (0 : Int))).2))) then k4e0 else (kR4 v4x0 v4x1 (wrap64 (v4x2 + (1 : Int)))))) else (none)) else (none)) else (none)) else (none)) else k4e1)
def eqSegS_F4 : Nat → (List ((List UInt8) × Int)) → (List ((List UInt8) × Int)) → Int → (Option Rs) → (Option Rs) → Option Rs
  | 0, _, _, _, _, _ => none
  | n + 1, v4x0, v4x1, v4x2, k4e0, k4e1 => eqSegS_T4 v4x0 v4x1 v4x2 (fun v4x0 v4x1 v4x2 => eqSegS_F4 n v4x0 v4x1 v4x2 k4e0 k4e1) k4e0 k4e1
def eqSegS_h4 (v4x0 : (List ((List UInt8) × Int))) (v4x1 : (List ((List UInt8) × Int))) (v4x2 : Int) : St := (St.mk (slots 0 27 [(0, (AV.sh (Ty.pair Ty.str (Ty.int .i64)) v4x0)), (1, (AV.sh (Ty.pair Ty.str (Ty.int .i64)) v4x1)), (5, (AV.int .i64 v4x2))]) ([] : (List (Nat × (Ob)))))
def eqSegS_x4e0  : St := (St.mk (slots 0 27 [(4, (AV.bool false))]) ([] : (List (Nat × (Ob)))))
def eqSegS_x4e1  : St := (St.mk (slots 0 27 []) ([] : (List (Nat × (Ob)))))
noncomputable def eqSegS_b4 : Code := codeAt (codeOf Try.f70) [1, 1, 0, 1, 0, 0]
def eqSegS_L4 (N : Nat) (st : St) (k : Ex → St → Option Rs) : Option Rs := match takeF [0, 1, 5] 0 27 st.env, st.objs with
  | some [.sh (Ty.pair Ty.str (Ty.int .i64)) v4x0, .sh (Ty.pair Ty.str (Ty.int .i64)) v4x1, .int .i64 v4x2], [] => eqSegS_F4 N v4x0 v4x1 v4x2 (k Ex.ret (eqSegS_x4e0)) (k (Ex.exit (0 : Nat)) (eqSegS_x4e1))
  | _, _ => none
def eqSegS_L (N : Nat) : Lam := fun j st k => match j with
  | 4 => eqSegS_L4 N st k
  | _ => none
theorem eqSegS_round4 (N : Nat) (again : St → Option Rs) (k : Ex → St → Option Rs) (wv4x0 : (List ((List UInt8) × Int))) (wv4x1 : (List ((List UInt8) × Int))) (wv4x2 : Int) (v4x0 : (List ((List UInt8) × Int))) (v4x1 : (List ((List UInt8) × Int))) (v4x2 : Int) :
    roundK 0 (fun st k => evL Kx eqSegS_C eqSegS_O 0 (eqSegS_L N) eqSegS_b4 st k) (eqSegS_h4 wv4x0 wv4x1 wv4x2).env again (eqSegS_h4 v4x0 v4x1 v4x2) (outK eqSegS_O 0 eqSegS_b4 k) = eqSegS_T4 v4x0 v4x1 v4x2 (fun v4x0 v4x1 v4x2 => again (eqSegS_h4 v4x0 v4x1 v4x2)) (k Ex.ret (eqSegS_x4e0)) (k (Ex.exit (0 : Nat)) (eqSegS_x4e1)) := by kernel_rfl
theorem eqSegS_loop4 (N : Nat) (k : Ex → St → Option Rs) (wv4x0 : (List ((List UInt8) × Int))) (wv4x1 : (List ((List UInt8) × Int))) (wv4x2 : Int) : ∀ (n : Nat) (v4x0 : (List ((List UInt8) × Int))) (v4x1 : (List ((List UInt8) × Int))) (v4x2 : Int),
    loopK 0 (fun st k => evL Kx eqSegS_C eqSegS_O 0 (eqSegS_L N) eqSegS_b4 st k) (eqSegS_h4 wv4x0 wv4x1 wv4x2).env n (eqSegS_h4 v4x0 v4x1 v4x2) (outK eqSegS_O 0 eqSegS_b4 k) = eqSegS_F4 n v4x0 v4x1 v4x2 (k Ex.ret (eqSegS_x4e0)) (k (Ex.exit (0 : Nat)) (eqSegS_x4e1))
  | 0, _, _, _ => rfl
  | n + 1, v4x0, v4x1, v4x2 => by
    rw [loopK_succ, eqSegS_round4]
    simp only [eqSegS_loop4 N k wv4x0 wv4x1 wv4x2 n]
    rfl
theorem eqSegS_at4 (N : Nat) {s : St} {k : Ex → St → Option Rs} {r : Rs} (h : eqSegS_L4 N s k = some r) : ∃ (v4x0 : (List ((List UInt8) × Int))) (v4x1 : (List ((List UInt8) × Int))) (v4x2 : Int), s = (eqSegS_h4 v4x0 v4x1 v4x2) ∧ eqSegS_F4 N v4x0 v4x1 v4x2 (k Ex.ret (eqSegS_x4e0)) (k (Ex.exit (0 : Nat)) (eqSegS_x4e1)) = some r := by
  cases s with | mk env objs =>
  unfold eqSegS_L4 at h
  split at h
  · rename_i e1 e2
    have e3 := takeF_slots _ _ _ _ e1
    simp only at e2 e3
    subst e2 e3
    exact ⟨_, _, _, rfl, h⟩
  · cases h
theorem eqSegS_in4 : loops eqSegS_b4 = [] := by kernel_rfl
theorem eqSegS_lid4 : lid eqSegS_b4 = 4 := by kernel_rfl
theorem eqSegS_ok4 (N : Nat) : OkL Kx eqSegS_C eqSegS_O 0 N (eqSegS_L N) eqSegS_b4 := by
  intro s k k' r hk h
  rw [eqSegS_lid4] at h
  obtain ⟨v4x0, v4x1, v4x2, rfl, h⟩ := eqSegS_at4 N h
  refine loopL (Λ := eqSegS_L N) eqSegS_b4 ?_ N hk ((eqSegS_loop4 N k v4x0 v4x1 v4x2 N v4x0 v4x1 v4x2).trans h)
  rw [eqSegS_in4]
  exact fun _ h => nomatch h
def eqSegS_run (N : Nat) (l l' : List (List UInt8 × Int)) : Option Rs := (bif (!(decide (((List.length l) : Int) = ((List.length l') : Int)))) then (some ((AV.bool false), ([] : (List (Ob))))) else (eqSegS_F4 N l l' (0 : Int) (some ((AV.bool false), ([] : (List (Ob))))) (some ((AV.bool true), ([] : (List (Ob)))))))
theorem eqSegS_runL (N : Nat) (l l' : List (List UInt8 × Int)) : runL Kx eqSegS_C eqSegS_O (eqSegS_L N) Try.f70 ([.sh (.pair .str (.int .i64)) l, .sh (.pair .str (.int .i64)) l']) ([]) = eqSegS_run N l l' := by kernel_rfl
theorem eqSegS_body : Try.f70.body = some (codeOf Try.f70) := by kernel_rfl
theorem eqSegS_loops : loops (codeOf Try.f70) = [eqSegS_b4] := by kernel_rfl
theorem eqSegS_ev (N : Nat) (l l' : List (List UInt8 × Int)) {r : Rs} (h : eqSegS_run N l l' = some r) : ∃ n, runF Kx eqSegS_C eqSegS_O n Try.f70 ([.sh (.pair .str (.int .i64)) l, .sh (.pair .str (.int .i64)) l']) ([]) = some r :=
  ⟨N, runL_runF eqSegS_body (by rw [eqSegS_loops]; exact List.forall_mem_cons.2 ⟨eqSegS_ok4 N, fun _ h => nomatch h⟩) ((eqSegS_runL N l l').trans h)⟩
def eqSegS_sOf (φ : (List (List UInt8 × Int)) → (List (List UInt8 × Int)) → Br) : List AV → List Ob → Br
  | [.sh (.pair .str (.int .i64)) l, .sh (.pair .str (.int .i64)) l'], [] => φ l l'
  | _, _ => .fail
theorem eqSegS_okOf {φ : (List (List UInt8 × Int)) → (List (List UInt8 × Int)) → Br} (fu : (List (List UInt8 × Int)) → (List (List UInt8 × Int)) → Nat) (hv : ∀ l l' r, (φ l l').val = some r → eqSegS_run (fu l l') l l' = some r) : Sound Kx 70 (eqSegS_sOf φ) := by
  refine sound_run (C := eqSegS_C) (O := eqSegS_O) KOk eqSegS_C_ok Try.func70 (by kernel_rfl) fun args objs res os h => ?_
  unfold eqSegS_sOf at h
  split at h
  · exact eqSegS_ev _ _ _ (hv _ _ _ h)
  · cases h

/-! laws.markText -/
def markText_O : Opt := { cons := [], keepNil := false, mutF := [], live := [(4, [0, 3])], outs := [(4, [2, 3])] }
def markText_T4 (v4x0 : Int) (v4x1 : (List UInt8)) (kR4 : Int → (List UInt8) → Option Rs) (k4e0 : (List UInt8) → Option Rs) : Option Rs :=
  (bif (decide ((0 : Int) < v4x0)) then (bif (decide (((((List.length (ofBytes (List.set (List.replicate (1 : Nat) (0 : Int)) (0 : Nat) ((wrap64 ((48 : Int) + (Int.tmod v4x0 (10 : Int)))) % (256 : Int))))) + (List.length v4x1)) : Nat) : Int) ≤ (9223372036854775807 : Int))) then (kR4 (wrap64 (Int.tdiv v4x0 (10 : Int))) ((ofBytes (List.set (List.replicate (1 : Nat) (0 : Int)) (0 : Nat) ((wrap64 ((48 : Int) + (Int.tmod v4x0 (10 : Int)))) % (256 : Int)))) ++ v4x1)) else (none)) else (k4e0 v4x1))
def markText_F4 : Nat → Int → (List UInt8) → ((List UInt8) → Option Rs) → Option Rs
  | 0, _, _, _ => none
  | n + 1, v4x0, v4x1, k4e0 => markText_T4 v4x0 v4x1 (fun v4x0 v4x1 => markText_F4 n v4x0 v4x1 k4e0) k4e0
def markText_h4 (v4x0 : Int) (v4x1 : (List UInt8)) : St := (St.mk (slots 0 20 [(0, (AV.int .i64 v4x0)), (3, (AV.str v4x1))]) ([] : (List (Nat × (Ob)))))
def markText_x4e0 (x4x0x0 : (List UInt8)) : St := (St.mk (slots 0 20 [(3, (AV.str x4x0x0))]) ([] : (List (Nat × (Ob)))))
noncomputable def markText_b4 : Code := codeAt (codeOf Try.f93) [1, 1, 1, 0, 0, 0]
def markText_L4 (N : Nat) (st : St) (k : Ex → St → Option Rs) : Option Rs := match takeF [0, 3] 0 20 st.env, st.objs with
  | some [.int .i64 v4x0, .str v4x1], [] => markText_F4 N v4x0 v4x1 (fun x4x0x0 => k (Ex.exit (0 : Nat)) (markText_x4e0 x4x0x0))
  | _, _ => none
def markText_L (N : Nat) : Lam := fun j st k => match j with
  | 4 => markText_L4 N st k
  | _ => none
theorem markText_round4 (N : Nat) (again : St → Option Rs) (k : Ex → St → Option Rs) (wv4x0 : Int) (wv4x1 : (List UInt8)) (v4x0 : Int) (v4x1 : (List UInt8)) :
    roundK 0 (fun st k => evL Kx noS markText_O 0 (markText_L N) markText_b4 st k) (markText_h4 wv4x0 wv4x1).env again (markText_h4 v4x0 v4x1) (outK markText_O 0 markText_b4 k) = markText_T4 v4x0 v4x1 (fun v4x0 v4x1 => again (markText_h4 v4x0 v4x1)) (fun x4x0x0 => k (Ex.exit (0 : Nat)) (markText_x4e0 x4x0x0)) := by kernel_rfl
theorem markText_loop4 (N : Nat) (k : Ex → St → Option Rs) (wv4x0 : Int) (wv4x1 : (List UInt8)) : ∀ (n : Nat) (v4x0 : Int) (v4x1 : (List UInt8)),
    loopK 0 (fun st k => evL Kx noS markText_O 0 (markText_L N) markText_b4 st k) (markText_h4 wv4x0 wv4x1).env n (markText_h4 v4x0 v4x1) (outK markText_O 0 markText_b4 k) = markText_F4 n v4x0 v4x1 (fun x4x0x0 => k (Ex.exit (0 : Nat)) (markText_x4e0 x4x0x0))
  | 0, _, _ => rfl
  | n + 1, v4x0, v4x1 => by
    rw [loopK_succ, markText_round4]
    simp only [markText_loop4 N k wv4x0 wv4x1 n]
    rfl
theorem markText_at4 (N : Nat) {s : St} {k : Ex → St → Option Rs} {r : Rs} (h : markText_L4 N s k = some r) : ∃ (v4x0 : Int) (v4x1 : (List UInt8)), s = (markText_h4 v4x0 v4x1) ∧ markText_F4 N v4x0 v4x1 (fun x4x0x0 => k (Ex.exit (0 : Nat)) (markText_x4e0 x4x0x0)) = some r := by
  cases s with | mk env objs =>
  unfold markText_L4 at h
  split at h
  · rename_i e1 e2
    have e3 := takeF_slots _ _ _ _ e1
    simp only at e2 e3
    subst e2 e3
    exact ⟨_, _, rfl, h⟩
  · cases h
theorem markText_in4 : loops markText_b4 = [] := by kernel_rfl
theorem markText_lid4 : lid markText_b4 = 4 := by kernel_rfl
theorem markText_ok4 (N : Nat) : OkL Kx noS markText_O 0 N (markText_L N) markText_b4 := by
  intro s k k' r hk h
  rw [markText_lid4] at h
  obtain ⟨v4x0, v4x1, rfl, h⟩ := markText_at4 N h
  refine loopL (Λ := markText_L N) markText_b4 ?_ N hk ((markText_loop4 N k v4x0 v4x1 N v4x0 v4x1).trans h)
  rw [markText_in4]
  exact fun _ h => nomatch h
def markText_run (N : Nat) (k : Int) : Option Rs := (bif (decide (k ≤ (0 : Int))) then (some ((AV.str ((109 : UInt8) :: ((48 : UInt8) :: ([] : (List UInt8))))), ([] : (List (Ob))))) else (markText_F4 N k ([] : (List UInt8)) (fun x4x0x0 => (bif (decide (((((1 : Nat) + (List.length x4x0x0)) : Nat) : Int) ≤ (9223372036854775807 : Int))) then (some ((AV.str (((109 : UInt8) :: ([] : (List UInt8))) ++ x4x0x0)), ([] : (List (Ob))))) else (none)))))
theorem markText_runL (N : Nat) (k : Int) : runL Kx noS markText_O (markText_L N) Try.f93 ([.int .i64 k]) ([]) = markText_run N k := by kernel_rfl
theorem markText_body : Try.f93.body = some (codeOf Try.f93) := by kernel_rfl
theorem markText_loops : loops (codeOf Try.f93) = [markText_b4] := by kernel_rfl
theorem markText_ev (N : Nat) (k : Int) {r : Rs} (h : markText_run N k = some r) : ∃ n, runF Kx noS markText_O n Try.f93 ([.int .i64 k]) ([]) = some r :=
  ⟨N, runL_runF markText_body (by rw [markText_loops]; exact List.forall_mem_cons.2 ⟨markText_ok4 N, fun _ h => nomatch h⟩) ((markText_runL N k).trans h)⟩
def markText_sOf (φ : Int → Br) : List AV → List Ob → Br
  | [.int .i64 k], [] => φ k
  | _, _ => .fail
theorem markText_okOf {φ : Int → Br} (fu : Int → Nat) (hv : ∀ k r, (φ k).val = some r → markText_run (fu k) k = some r) : Sound Kx 93 (markText_sOf φ) := by
  refine sound_run (C := noS) (O := markText_O) KOk (sound_no Kx) Try.func93 (by kernel_rfl) fun args objs res os h => ?_
  unfold markText_sOf at h
  split at h
  · exact markText_ev _ _ (hv _ _ h)
  · cases h

end Go.Proofs.Ythdiildelpmknaa.Ev
