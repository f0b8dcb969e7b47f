/- Printed by dec.py. -/
import Derived.Test.YthdiildelpmknaaStoreB
namespace Go.Proofs.Ythdiildelpmknaa.Ev
open Go Go.RowKit
set_option linter.unusedVariables false
set_option linter.unusedSimpArgs false

/-! impl.StoreOk -/
def iOk_O : Opt := { cons := [], keepNil := false, mutF := [], live := [(4, [1, 17, 18, 19])], outs := [(4, [1, 2])] }
def iOk_C : Spec := (add (add noS 60 iwithin_s) 74 used_s)
theorem iOk_C_ok : ∀ fn, Sound Kx fn (iOk_C fn) := (sound_add (sound_add (sound_no Kx) iwithin_ok) used_ok)
def iOk_T4 (v4x0 : (List ((List UInt8) × Int))) (v4x1 : Int) (v4x2 : Int) (v4x3 : (List ((List UInt8) × Int))) (v4x4 : Int) (kR4 : (List ((List UInt8) × Int)) → Int → Int → (List ((List UInt8) × Int)) → Int → Option Rs) (k4e0 : (List ((List UInt8) × Int)) → Int → Option Rs) (k4e1 : (List ((List UInt8) × Int)) → Int → Option Rs) : Option Rs :=
  (bif (decide (v4x2 < v4x1)) then (bif (decide ((0 : Int) ≤ v4x2)) then (bif (decide (v4x2 < ((List.length v4x0) : Int))) then (bif (decide ((0 : Int) ≤ (List.getD v4x0 (Int.toNat v4x2) (([] : (List UInt8)), (0 : Int))).2)) then (bif (!(decide ((List.getD v4x0 (Int.toNat v4x2) (([] : (List UInt8)), (0 : Int))).2 ≤ ((List.length (List.getD v4x0 (Int.toNat v4x2) (([] : (List UInt8)), (0 : Int))).1) : Int)))) then (k4e0 v4x3 v4x4) else (bif (decide (v4x2 < (wrap64 (((List.length v4x3) : Int) - (1 : Int))))) then (bif (decide ((List.getD v4x0 (Int.toNat v4x2) (([] : (List UInt8)), (0 : Int))).1 = ([] : (List UInt8)))) then (k4e0 v4x3 v4x4) else (bif (!(decide ((List.getD v4x0 (Int.toNat v4x2) (([] : (List UInt8)), (0 : Int))).2 = ((List.length (List.getD v4x0 (Int.toNat v4x2) (([] : (List UInt8)), (0 : Int))).1) : Int)))) then (k4e0 v4x3 v4x4) else (kR4 v4x0 v4x1 (wrap64 (v4x2 + (1 : Int))) v4x3 v4x4))) else (kR4 v4x0 v4x1 (wrap64 (v4x2 + (1 : Int))) v4x3 v4x4))) else (k4e0 v4x3 v4x4)) else (none)) else (none)) else (k4e1 v4x3 v4x4))
def iOk_F4 : Nat → (List ((List UInt8) × Int)) → Int → Int → (List ((List UInt8) × Int)) → Int → ((List ((List UInt8) × Int)) → Int → Option Rs) → ((List ((List UInt8) × Int)) → Int → Option Rs) → Option Rs
  | 0, _, _, _, _, _, _, _ => none
  | n + 1, v4x0, v4x1, v4x2, v4x3, v4x4, k4e0, k4e1 => iOk_T4 v4x0 v4x1 v4x2 v4x3 v4x4 (fun v4x0 v4x1 v4x2 v4x3 v4x4 => iOk_F4 n v4x0 v4x1 v4x2 v4x3 v4x4 k4e0 k4e1) k4e0 k4e1
def iOk_h4 (v4x0 : (List ((List UInt8) × Int))) (v4x1 : Int) (v4x2 : Int) (v4x3 : (List ((List UInt8) × Int))) (v4x4 : Int) : St := (St.mk (slots 0 58 [(1, (AV.ptr (128 : Nat) (0 : Nat))), (17, (AV.sh (Ty.pair Ty.str (Ty.int .i64)) v4x0)), (18, (AV.int .i64 v4x1)), (19, (AV.int .i64 v4x2))]) (((128 : Nat), (Ob.var ((AV.sh (Ty.pair Ty.str (Ty.int .i64)) v4x3) :: ((AV.int .i64 v4x4) :: ([] : (List (AV))))))) :: ([] : (List (Nat × (Ob))))))
def iOk_x4e0 (x4x0x0 : (List ((List UInt8) × Int))) (x4x0x1 : Int) : St := (St.mk (slots 0 58 [(1, (AV.ptr (128 : Nat) (0 : Nat))), (2, (AV.bool false))]) (((128 : Nat), (Ob.var ((AV.sh (Ty.pair Ty.str (Ty.int .i64)) x4x0x0) :: ((AV.int .i64 x4x0x1) :: ([] : (List (AV))))))) :: ([] : (List (Nat × (Ob))))))
def iOk_x4e1 (x4x1x0 : (List ((List UInt8) × Int))) (x4x1x1 : Int) : St := (St.mk (slots 0 58 [(1, (AV.ptr (128 : Nat) (0 : Nat)))]) (((128 : Nat), (Ob.var ((AV.sh (Ty.pair Ty.str (Ty.int .i64)) x4x1x0) :: ((AV.int .i64 x4x1x1) :: ([] : (List (AV))))))) :: ([] : (List (Nat × (Ob))))))
noncomputable def iOk_b4 : Code := codeAt (codeOf Try.f49) [1, 1, 0, 1, 0, 0]
def iOk_L4 (N : Nat) (st : St) (k : Ex → St → Option Rs) : Option Rs := match takeF [1, 17, 18, 19] 0 58 st.env, st.objs with
  | some [.ptr 128 0, .sh (Ty.pair Ty.str (Ty.int .i64)) v4x0, .int .i64 v4x1, .int .i64 v4x2], [(128, .var [.sh (Ty.pair Ty.str (Ty.int .i64)) v4x3, .int .i64 v4x4])] => iOk_F4 N v4x0 v4x1 v4x2 v4x3 v4x4 (fun x4x0x0 x4x0x1 => k Ex.ret (iOk_x4e0 x4x0x0 x4x0x1)) (fun x4x1x0 x4x1x1 => k (Ex.exit (0 : Nat)) (iOk_x4e1 x4x1x0 x4x1x1))
  | _, _ => none
def iOk_L (N : Nat) : Lam := fun j st k => match j with
  | 4 => iOk_L4 N st k
  | _ => none
theorem iOk_round4 (N : Nat) (again : St → Option Rs) (k : Ex → St → Option Rs) (wv4x0 : (List ((List UInt8) × Int))) (wv4x1 : Int) (wv4x2 : Int) (wv4x3 : (List ((List UInt8) × Int))) (wv4x4 : Int) (v4x0 : (List ((List UInt8) × Int))) (v4x1 : Int) (v4x2 : Int) (v4x3 : (List ((List UInt8) × Int))) (v4x4 : Int) :
    roundK 0 (fun st k => evL Kx iOk_C iOk_O 0 (iOk_L N) iOk_b4 st k) (iOk_h4 wv4x0 wv4x1 wv4x2 wv4x3 wv4x4).env again (iOk_h4 v4x0 v4x1 v4x2 v4x3 v4x4) (outK iOk_O 0 iOk_b4 k) = iOk_T4 v4x0 v4x1 v4x2 v4x3 v4x4 (fun v4x0 v4x1 v4x2 v4x3 v4x4 => again (iOk_h4 v4x0 v4x1 v4x2 v4x3 v4x4)) (fun x4x0x0 x4x0x1 => k Ex.ret (iOk_x4e0 x4x0x0 x4x0x1)) (fun x4x1x0 x4x1x1 => k (Ex.exit (0 : Nat)) (iOk_x4e1 x4x1x0 x4x1x1)) := by kernel_rfl
theorem iOk_loop4 (N : Nat) (k : Ex → St → Option Rs) (wv4x0 : (List ((List UInt8) × Int))) (wv4x1 : Int) (wv4x2 : Int) (wv4x3 : (List ((List UInt8) × Int))) (wv4x4 : Int) : ∀ (n : Nat) (v4x0 : (List ((List UInt8) × Int))) (v4x1 : Int) (v4x2 : Int) (v4x3 : (List ((List UInt8) × Int))) (v4x4 : Int),
    loopK 0 (fun st k => evL Kx iOk_C iOk_O 0 (iOk_L N) iOk_b4 st k) (iOk_h4 wv4x0 wv4x1 wv4x2 wv4x3 wv4x4).env n (iOk_h4 v4x0 v4x1 v4x2 v4x3 v4x4) (outK iOk_O 0 iOk_b4 k) = iOk_F4 n v4x0 v4x1 v4x2 v4x3 v4x4 (fun x4x0x0 x4x0x1 => k Ex.ret (iOk_x4e0 x4x0x0 x4x0x1)) (fun x4x1x0 x4x1x1 => k (Ex.exit (0 : Nat)) (iOk_x4e1 x4x1x0 x4x1x1))
  | 0, _, _, _, _, _ => rfl
  | n + 1, v4x0, v4x1, v4x2, v4x3, v4x4 => by
    rw [loopK_succ, iOk_round4]
    simp only [iOk_loop4 N k wv4x0 wv4x1 wv4x2 wv4x3 wv4x4 n]
    rfl
theorem iOk_at4 (N : Nat) {s : St} {k : Ex → St → Option Rs} {r : Rs} (h : iOk_L4 N s k = some r) : ∃ (v4x0 : (List ((List UInt8) × Int))) (v4x1 : Int) (v4x2 : Int) (v4x3 : (List ((List UInt8) × Int))) (v4x4 : Int), s = (iOk_h4 v4x0 v4x1 v4x2 v4x3 v4x4) ∧ iOk_F4 N v4x0 v4x1 v4x2 v4x3 v4x4 (fun x4x0x0 x4x0x1 => k Ex.ret (iOk_x4e0 x4x0x0 x4x0x1)) (fun x4x1x0 x4x1x1 => k (Ex.exit (0 : Nat)) (iOk_x4e1 x4x1x0 x4x1x1)) = some r := by
  cases s with | mk env objs =>
  unfold iOk_L4 at h
  split at h
  · rename_i e1 e2
    have e3 := takeF_slots _ _ _ _ e1
    simp only at e2 e3
    subst e2 e3
    exact ⟨_, _, _, _, _, rfl, h⟩
  · cases h
theorem iOk_in4 : loops iOk_b4 = [] := by kernel_rfl
theorem iOk_lid4 : lid iOk_b4 = 4 := by kernel_rfl
theorem iOk_ok4 (N : Nat) : OkL Kx iOk_C iOk_O 0 N (iOk_L N) iOk_b4 := by
  intro s k k' r hk h
  rw [iOk_lid4] at h
  obtain ⟨v4x0, v4x1, v4x2, v4x3, v4x4, rfl, h⟩ := iOk_at4 N h
  refine loopL (Λ := iOk_L N) iOk_b4 ?_ N hk ((iOk_loop4 N k v4x0 v4x1 v4x2 v4x3 v4x4 N v4x0 v4x1 v4x2 v4x3 v4x4).trans h)
  rw [iOk_in4]
  exact fun _ h => nomatch h
def iOk_run (N : Nat) (l : List (List UInt8 × Int)) (c : Int) : Option Rs := (bif (decide ((0 : Int) ≤ c)) then (bif (!(decide (c ≤ (60000 : Int)))) then (some ((AV.bool false), ([] : (List (Ob))))) else (bif (decide ((1 : Int) ≤ ((List.length l) : Int))) then (bif (!(decide (((List.length l) : Int) ≤ (40 : Int)))) then (some ((AV.bool false), ([] : (List (Ob))))) else (iOk_F4 N l ((List.length l) : Int) (0 : Int) l c (fun x4x0x0 => (fun x4x0x1 => (some ((AV.bool false), ([] : (List (Ob))))))) (fun x4x1x0 => (fun x4x1x1 => (bif ((decide ((List.length x4x1x0) ≤ (281474976710656 : Nat))) && (decide ((total x4x1x0) ≤ (4611686018427387904 : Nat)))) then (some ((AV.bool (decide ((((total x4x1x0) : Nat) : Int) ≤ x4x1x1))), ([] : (List (Ob))))) else (none)))))) else (some ((AV.bool false), ([] : (List (Ob))))))) else (some ((AV.bool false), ([] : (List (Ob))))))
theorem iOk_runL (N : Nat) (l : List (List UInt8 × Int)) (c : Int) : runL Kx iOk_C iOk_O (iOk_L N) Try.f49 ([.agg [.sh (.pair .str (.int .i64)) l, .int .i64 c]]) ([]) = iOk_run N l c := by kernel_rfl
theorem iOk_body : Try.f49.body = some (codeOf Try.f49) := by kernel_rfl
theorem iOk_loops : loops (codeOf Try.f49) = [iOk_b4] := by kernel_rfl
theorem iOk_ev (N : Nat) (l : List (List UInt8 × Int)) (c : Int) {r : Rs} (h : iOk_run N l c = some r) : ∃ n, runF Kx iOk_C iOk_O n Try.f49 ([.agg [.sh (.pair .str (.int .i64)) l, .int .i64 c]]) ([]) = some r :=
  ⟨N, runL_runF iOk_body (by rw [iOk_loops]; exact List.forall_mem_cons.2 ⟨iOk_ok4 N, fun _ h => nomatch h⟩) ((iOk_runL N l c).trans h)⟩
def iOk_sOf (φ : (List (List UInt8 × Int)) → Int → Br) : List AV → List Ob → Br
  | [.agg [.sh (.pair .str (.int .i64)) l, .int .i64 c]], [] => φ l c
  | _, _ => .fail
theorem iOk_okOf {φ : (List (List UInt8 × Int)) → Int → Br} (fu : (List (List UInt8 × Int)) → Int → Nat) (hv : ∀ l c r, (φ l c).val = some r → iOk_run (fu l c) l c = some r) : Sound Kx 49 (iOk_sOf φ) := by
  refine sound_run (C := iOk_C) (O := iOk_O) KOk iOk_C_ok Try.func49 (by kernel_rfl) fun args objs res os h => ?_
  unfold iOk_sOf at h
  split at h
  · exact iOk_ev _ _ _ (hv _ _ _ h)
  · cases h

/-! laws.szStore -/
def szStore_O : Opt := { cons := [], keepNil := false, mutF := [], live := [], outs := [] }
def szStore_C : Spec := (add noS 66 szSegS_s)
theorem szStore_C_ok : ∀ fn, Sound Kx fn (szStore_C fn) := (sound_add (sound_no Kx) szSegS_ok)
def szStore_br (l : List (List UInt8 × Int)) (c left : Int) : Br := (Br.ite (((smS l) && (decide ((0 : Int) ≤ left))) && (decide (left ≤ (1048576 : Int)))) (Br.ite (decide ((szOf l left) < (0 : Int))) (Br.ret (AV.int .i64 (-(1 : Int))) ([] : (List (Ob)))) (Br.ret (AV.int .i64 (szOf l left)) ([] : (List (Ob))))) Br.fail)
theorem szStore_run (l : List (List UInt8 × Int)) (c left : Int) : runF Kx szStore_C szStore_O 1 Try.f23 ([.agg [.sh (.pair .str (.int .i64)) l, .int .i64 c], .int .i64 left]) ([]) = (szStore_br l c left).val := by kernel_rfl
def szStore_s : List AV → List Ob → Br
  | [.agg [.sh (.pair .str (.int .i64)) l, .int .i64 c], .int .i64 left], [] => szStore_br l c left
  | _, _ => .fail
theorem szStore_ok : Sound Kx 23 szStore_s := by
  refine sound_run (C := szStore_C) (O := szStore_O) KOk szStore_C_ok Try.func23 (by kernel_rfl) fun args objs res os h => ?_
  unfold szStore_s at h
  split at h
  · exact ⟨1, (szStore_run _ _ _).trans h⟩
  · cases h

/-! laws.toStore -/
def toStore_O : Opt := { cons := [], keepNil := false, mutF := [], live := [], outs := [] }
def toStore_C : Spec := (add noS 68 toSegS_s)
theorem toStore_C_ok : ∀ fn, Sound Kx fn (toStore_C fn) := (sound_add (sound_no Kx) toSegS_ok)
def toStore_br (l : List (List UInt8 × Int)) (c : Int) : Br := (Br.ite (decide ((List.length l) ≤ (1048576 : Nat))) (Br.ret (AV.agg ((AV.ref (0 : Nat) (0 : Nat)) :: ((AV.int .i64 c) :: ([] : (List (AV)))))) ((Ob.arr (Ty.pair Ty.str (Ty.int .i64)) (0 : Nat) false l) :: ([] : (List (Ob))))) Br.fail)
theorem toStore_run (l : List (List UInt8 × Int)) (c : Int) : runF Kx toStore_C toStore_O 1 Try.f25 ([.agg [.sh (.pair .str (.int .i64)) l, .int .i64 c]]) ([]) = (toStore_br l c).val := by kernel_rfl
def toStore_s : List AV → List Ob → Br
  | [.agg [.sh (.pair .str (.int .i64)) l, .int .i64 c]], [] => toStore_br l c
  | _, _ => .fail
theorem toStore_ok : Sound Kx 25 toStore_s := by
  refine sound_run (C := toStore_C) (O := toStore_O) KOk toStore_C_ok Try.func25 (by kernel_rfl) fun args objs res os h => ?_
  unfold toStore_s at h
  split at h
  · exact ⟨1, (toStore_run _ _).trans h⟩
  · cases h

/-! laws.eqStore -/
def eqStore_O : Opt := { cons := [], keepNil := false, mutF := [], live := [], outs := [] }
def eqStore_C : Spec := (add noS 70 eqSegS_s)
theorem eqStore_C_ok : ∀ fn, Sound Kx fn (eqStore_C fn) := (sound_add (sound_no Kx) eqSegS_ok)
def eqStore_br (l : List (List UInt8 × Int)) (c : Int) (l' : List (List UInt8 × Int)) (c' : Int) : Br := (Br.ite (decide ((List.length l) ≤ (281474976710656 : Nat))) (Br.ite (!(decide (l = l'))) (Br.ret (AV.bool false) ([] : (List (Ob)))) (Br.ite (!(decide (c = c'))) (Br.ret (AV.bool false) ([] : (List (Ob)))) (Br.ret (AV.bool true) ([] : (List (Ob)))))) Br.fail)
theorem eqStore_run (l : List (List UInt8 × Int)) (c : Int) (l' : List (List UInt8 × Int)) (c' : Int) : runF Kx eqStore_C eqStore_O 1 Try.f27 ([.agg [.sh (.pair .str (.int .i64)) l, .int .i64 c], .agg [.sh (.pair .str (.int .i64)) l', .int .i64 c']]) ([]) = (eqStore_br l c l' c').val := by kernel_rfl
def eqStore_s : List AV → List Ob → Br
  | [.agg [.sh (.pair .str (.int .i64)) l, .int .i64 c], .agg [.sh (.pair .str (.int .i64)) l', .int .i64 c']], [] => eqStore_br l c l' c'
  | _, _ => .fail
theorem eqStore_ok : Sound Kx 27 eqStore_s := by
  refine sound_run (C := eqStore_C) (O := eqStore_O) KOk eqStore_C_ok Try.func27 (by kernel_rfl) fun args objs res os h => ?_
  unfold eqStore_s at h
  split at h
  · exact ⟨1, (eqStore_run _ _ _ _).trans h⟩
  · cases h

/-! laws.markSegS -/
def markSegS_O : Opt := { cons := [], keepNil := false, mutF := [], live := [(2, [0, 1, 5])], outs := [(2, [1, 4])] }
def markSegS_C : Spec := (add noS 93 markText_s)
theorem markSegS_C_ok : ∀ fn, Sound Kx fn (markSegS_C fn) := (sound_add (sound_no Kx) markText_ok)
def markSegS_T2 (v2x0 : Int) (v2x1 : Int) (v2x2 : (List ((List UInt8) × Int))) (kR2 : Int → Int → (List ((List UInt8) × Int)) → Option Rs) (k2e0 : Int → (List ((List UInt8) × Int)) → Option Rs) : Option Rs :=
  (bif (decide (v2x1 < ((List.length v2x2) : Int))) then (bif (decide (v2x0 ≤ (1152921504606846976 : Int))) then (bif (decide ((0 : Int) ≤ v2x1)) then (bif (decide (v2x1 < ((List.length v2x2) : Int))) then (bif (decide ((0 : Int) ≤ v2x1)) then (bif (decide (v2x1 < ((List.length (List.set v2x2 (Int.toNat v2x1) ((mt v2x0), (List.getD v2x2 (Int.toNat v2x1) (([] : (List UInt8)), (0 : Int))).2))) : Int))) then (kR2 (wrap64 ((wrap64 (v2x0 + (1 : Int))) + (1 : Int))) (wrap64 (v2x1 + (1 : Int))) (List.set (List.set v2x2 (Int.toNat v2x1) ((mt v2x0), (List.getD v2x2 (Int.toNat v2x1) (([] : (List UInt8)), (0 : Int))).2)) (Int.toNat v2x1) ((List.getD (List.set v2x2 (Int.toNat v2x1) ((mt v2x0), (List.getD v2x2 (Int.toNat v2x1) (([] : (List UInt8)), (0 : Int))).2)) (Int.toNat v2x1) (([] : (List UInt8)), (0 : Int))).1, (wrap64 (v2x0 + (1 : Int)))))) else (none)) else (none)) else (none)) else (none)) else (none)) else (k2e0 v2x0 v2x2))
def markSegS_F2 : Nat → Int → Int → (List ((List UInt8) × Int)) → (Int → (List ((List UInt8) × Int)) → Option Rs) → Option Rs
  | 0, _, _, _, _ => none
  | n + 1, v2x0, v2x1, v2x2, k2e0 => markSegS_T2 v2x0 v2x1 v2x2 (fun v2x0 v2x1 v2x2 => markSegS_F2 n v2x0 v2x1 v2x2 k2e0) k2e0
def markSegS_h2 (v2x0 : Int) (v2x1 : Int) (v2x2 : (List ((List UInt8) × Int))) : St := (St.mk (slots 0 28 [(0, (AV.ref (0 : Nat) (0 : Nat))), (1, (AV.int .i64 v2x0)), (5, (AV.int .i64 v2x1))]) (((0 : Nat), (Ob.arr (Ty.pair Ty.str (Ty.int .i64)) (0 : Nat) false v2x2)) :: ([] : (List (Nat × (Ob))))))
def markSegS_x2e0 (x2x0x0 : Int) (x2x0x1 : (List ((List UInt8) × Int))) : St := (St.mk (slots 0 28 [(1, (AV.int .i64 x2x0x0))]) (((0 : Nat), (Ob.arr (Ty.pair Ty.str (Ty.int .i64)) (0 : Nat) false x2x0x1)) :: ([] : (List (Nat × (Ob))))))
noncomputable def markSegS_b2 : Code := codeAt (codeOf Try.f71) [1, 0, 1, 0, 0]
def markSegS_L2 (N : Nat) (st : St) (k : Ex → St → Option Rs) : Option Rs := match takeF [0, 1, 5] 0 28 st.env, st.objs with
  | some [.ref 0 0, .int .i64 v2x0, .int .i64 v2x1], [(0, .arr (Ty.pair Ty.str (Ty.int .i64)) 0 false v2x2)] => markSegS_F2 N v2x0 v2x1 v2x2 (fun x2x0x0 x2x0x1 => k (Ex.exit (0 : Nat)) (markSegS_x2e0 x2x0x0 x2x0x1))
  | _, _ => none
def markSegS_L (N : Nat) : Lam := fun j st k => match j with
  | 2 => markSegS_L2 N st k
  | _ => none
theorem markSegS_round2 (N : Nat) (again : St → Option Rs) (k : Ex → St → Option Rs) (wv2x0 : Int) (wv2x1 : Int) (wv2x2 : (List ((List UInt8) × Int))) (v2x0 : Int) (v2x1 : Int) (v2x2 : (List ((List UInt8) × Int))) :
    roundK 1 (fun st k => evL Kx markSegS_C markSegS_O 1 (markSegS_L N) markSegS_b2 st k) (markSegS_h2 wv2x0 wv2x1 wv2x2).env again (markSegS_h2 v2x0 v2x1 v2x2) (outK markSegS_O 1 markSegS_b2 k) = markSegS_T2 v2x0 v2x1 v2x2 (fun v2x0 v2x1 v2x2 => again (markSegS_h2 v2x0 v2x1 v2x2)) (fun x2x0x0 x2x0x1 => k (Ex.exit (0 : Nat)) (markSegS_x2e0 x2x0x0 x2x0x1)) := by kernel_rfl
theorem markSegS_loop2 (N : Nat) (k : Ex → St → Option Rs) (wv2x0 : Int) (wv2x1 : Int) (wv2x2 : (List ((List UInt8) × Int))) : ∀ (n : Nat) (v2x0 : Int) (v2x1 : Int) (v2x2 : (List ((List UInt8) × Int))),
    loopK 1 (fun st k => evL Kx markSegS_C markSegS_O 1 (markSegS_L N) markSegS_b2 st k) (markSegS_h2 wv2x0 wv2x1 wv2x2).env n (markSegS_h2 v2x0 v2x1 v2x2) (outK markSegS_O 1 markSegS_b2 k) = markSegS_F2 n v2x0 v2x1 v2x2 (fun x2x0x0 x2x0x1 => k (Ex.exit (0 : Nat)) (markSegS_x2e0 x2x0x0 x2x0x1))
  | 0, _, _, _ => rfl
  | n + 1, v2x0, v2x1, v2x2 => by
    rw [loopK_succ, markSegS_round2]
    simp only [markSegS_loop2 N k wv2x0 wv2x1 wv2x2 n]
    rfl
theorem markSegS_at2 (N : Nat) {s : St} {k : Ex → St → Option Rs} {r : Rs} (h : markSegS_L2 N s k = some r) : ∃ (v2x0 : Int) (v2x1 : Int) (v2x2 : (List ((List UInt8) × Int))), s = (markSegS_h2 v2x0 v2x1 v2x2) ∧ markSegS_F2 N v2x0 v2x1 v2x2 (fun x2x0x0 x2x0x1 => k (Ex.exit (0 : Nat)) (markSegS_x2e0 x2x0x0 x2x0x1)) = some r := by
  cases s with | mk env objs =>
  unfold markSegS_L2 at h
  split at h
  · rename_i e1 e2
    have e3 := takeF_slots _ _ _ _ e1
    simp only at e2 e3
    subst e2 e3
    exact ⟨_, _, _, rfl, h⟩
  · cases h
theorem markSegS_in2 : loops markSegS_b2 = [] := by kernel_rfl
theorem markSegS_lid2 : lid markSegS_b2 = 2 := by kernel_rfl
theorem markSegS_ok2 (N : Nat) : OkL Kx markSegS_C markSegS_O 1 N (markSegS_L N) markSegS_b2 := by
  intro s k k' r hk h
  rw [markSegS_lid2] at h
  obtain ⟨v2x0, v2x1, v2x2, rfl, h⟩ := markSegS_at2 N h
  refine loopL (Λ := markSegS_L N) markSegS_b2 ?_ N hk ((markSegS_loop2 N k v2x0 v2x1 v2x2 N v2x0 v2x1 v2x2).trans h)
  rw [markSegS_in2]
  exact fun _ h => nomatch h
def markSegS_run (N : Nat) (l : List (List UInt8 × Int)) (k : Int) : Option Rs := (markSegS_F2 N k (0 : Int) l (fun x2x0x0 => (fun x2x0x1 => (some ((AV.int .i64 x2x0x0), ((Ob.arr (Ty.pair Ty.str (Ty.int .i64)) (0 : Nat) false x2x0x1) :: ([] : (List (Ob)))))))))
theorem markSegS_runL (N : Nat) (l : List (List UInt8 × Int)) (k : Int) : runL Kx markSegS_C markSegS_O (markSegS_L N) Try.f71 ([.ref 0 0, .int .i64 k]) ([.arr (.pair .str (.int .i64)) 0 false l]) = markSegS_run N l k := by kernel_rfl
theorem markSegS_body : Try.f71.body = some (codeOf Try.f71) := by kernel_rfl
theorem markSegS_loops : loops (codeOf Try.f71) = [markSegS_b2] := by kernel_rfl
theorem markSegS_ev (N : Nat) (l : List (List UInt8 × Int)) (k : Int) {r : Rs} (h : markSegS_run N l k = some r) : ∃ n, runF Kx markSegS_C markSegS_O n Try.f71 ([.ref 0 0, .int .i64 k]) ([.arr (.pair .str (.int .i64)) 0 false l]) = some r :=
  ⟨N, runL_runF markSegS_body (by rw [markSegS_loops]; exact List.forall_mem_cons.2 ⟨markSegS_ok2 N, fun _ h => nomatch h⟩) ((markSegS_runL N l k).trans h)⟩
def markSegS_sOf (φ : (List (List UInt8 × Int)) → Int → Br) : List AV → List Ob → Br
  | [.ref 0 0, .int .i64 k], [.arr (.pair .str (.int .i64)) 0 false l] => φ l k
  | _, _ => .fail
theorem markSegS_okOf {φ : (List (List UInt8 × Int)) → Int → Br} (fu : (List (List UInt8 × Int)) → Int → Nat) (hv : ∀ l k r, (φ l k).val = some r → markSegS_run (fu l k) l k = some r) : Sound Kx 71 (markSegS_sOf φ) := by
  refine sound_run (C := markSegS_C) (O := markSegS_O) KOk markSegS_C_ok Try.func71 (by kernel_rfl) fun args objs res os h => ?_
  unfold markSegS_sOf at h
  split at h
  · exact markSegS_ev _ _ _ (hv _ _ _ h)
  · cases h

/-! laws.heldSegS -/
def heldSegS_O : Opt := { cons := [], keepNil := false, mutF := [], live := [(2, [0, 1, 5])], outs := [(2, [1, 4])] }
def heldSegS_C : Spec := (add noS 93 markText_s)
theorem heldSegS_C_ok : ∀ fn, Sound Kx fn (heldSegS_C fn) := (sound_add (sound_no Kx) markText_ok)
def heldSegS_T2 (v2x0 : (List ((List UInt8) × Int))) (v2x1 : Int) (v2x2 : Int) (kR2 : (List ((List UInt8) × Int)) → Int → Int → Option Rs) (k2e0 : Int → Option Rs) (k2e1 : Int → Option Rs) : Option Rs :=
  (bif (decide (v2x2 < ((List.length v2x0) : Int))) then (bif (decide ((0 : Int) ≤ v2x2)) then (bif (decide (v2x2 < ((List.length v2x0) : Int))) then (bif (decide (v2x1 ≤ (1152921504606846976 : Int))) then (bif (!(decide ((List.getD v2x0 (Int.toNat v2x2) (([] : (List UInt8)), (0 : Int))).1 = (mt v2x1)))) then (k2e0 v2x1) else (bif (decide ((0 : Int) ≤ v2x2)) then (bif (decide (v2x2 < ((List.length v2x0) : Int))) then (bif (!(decide ((List.getD v2x0 (Int.toNat v2x2) (([] : (List UInt8)), (0 : Int))).2 = (wrap64 (v2x1 + (1 : Int)))))) then (k2e0 (wrap64 (v2x1 + (1 : Int)))) else (kR2 v2x0 (wrap64 ((wrap64 (v2x1 + (1 : Int))) + (1 : Int))) (wrap64 (v2x2 + (1 : Int))))) else (none)) else (none))) else (none)) else (none)) else (none)) else (k2e1 v2x1))
def heldSegS_F2 : Nat → (List ((List UInt8) × Int)) → Int → Int → (Int → Option Rs) → (Int → Option Rs) → Option Rs
  | 0, _, _, _, _, _ => none
  | n + 1, v2x0, v2x1, v2x2, k2e0, k2e1 => heldSegS_T2 v2x0 v2x1 v2x2 (fun v2x0 v2x1 v2x2 => heldSegS_F2 n v2x0 v2x1 v2x2 k2e0 k2e1) k2e0 k2e1
def heldSegS_h2 (v2x0 : (List ((List UInt8) × Int))) (v2x1 : Int) (v2x2 : Int) : St := (St.mk (slots 0 32 [(0, (AV.sh (Ty.pair Ty.str (Ty.int .i64)) v2x0)), (1, (AV.int .i64 v2x1)), (5, (AV.int .i64 v2x2))]) ([] : (List (Nat × (Ob)))))
def heldSegS_x2e0 (x2x0x0 : Int) : St := (St.mk (slots 0 32 [(1, (AV.int .i64 x2x0x0)), (4, (AV.int .i64 (-(1 : Int))))]) ([] : (List (Nat × (Ob)))))
def heldSegS_x2e1 (x2x1x0 : Int) : St := (St.mk (slots 0 32 [(1, (AV.int .i64 x2x1x0))]) ([] : (List (Nat × (Ob)))))
noncomputable def heldSegS_b2 : Code := codeAt (codeOf Try.f72) [1, 0, 1, 0, 0]
def heldSegS_L2 (N : Nat) (st : St) (k : Ex → St → Option Rs) : Option Rs := match takeF [0, 1, 5] 0 32 st.env, st.objs with
  | some [.sh (Ty.pair Ty.str (Ty.int .i64)) v2x0, .int .i64 v2x1, .int .i64 v2x2], [] => heldSegS_F2 N v2x0 v2x1 v2x2 (fun x2x0x0 => k Ex.ret (heldSegS_x2e0 x2x0x0)) (fun x2x1x0 => k (Ex.exit (0 : Nat)) (heldSegS_x2e1 x2x1x0))
  | _, _ => none
def heldSegS_L (N : Nat) : Lam := fun j st k => match j with
  | 2 => heldSegS_L2 N st k
  | _ => none
theorem heldSegS_round2 (N : Nat) (again : St → Option Rs) (k : Ex → St → Option Rs) (wv2x0 : (List ((List UInt8) × Int))) (wv2x1 : Int) (wv2x2 : Int) (v2x0 : (List ((List UInt8) × Int))) (v2x1 : Int) (v2x2 : Int) :
    roundK 0 (fun st k => evL Kx heldSegS_C heldSegS_O 0 (heldSegS_L N) heldSegS_b2 st k) (heldSegS_h2 wv2x0 wv2x1 wv2x2).env again (heldSegS_h2 v2x0 v2x1 v2x2) (outK heldSegS_O 0 heldSegS_b2 k) = heldSegS_T2 v2x0 v2x1 v2x2 (fun v2x0 v2x1 v2x2 => again (heldSegS_h2 v2x0 v2x1 v2x2)) (fun x2x0x0 => k Ex.ret (heldSegS_x2e0 x2x0x0)) (fun x2x1x0 => k (Ex.exit (0 : Nat)) (heldSegS_x2e1 x2x1x0)) := by kernel_rfl
theorem heldSegS_loop2 (N : Nat) (k : Ex → St → Option Rs) (wv2x0 : (List ((List UInt8) × Int))) (wv2x1 : Int) (wv2x2 : Int) : ∀ (n : Nat) (v2x0 : (List ((List UInt8) × Int))) (v2x1 : Int) (v2x2 : Int),
    loopK 0 (fun st k => evL Kx heldSegS_C heldSegS_O 0 (heldSegS_L N) heldSegS_b2 st k) (heldSegS_h2 wv2x0 wv2x1 wv2x2).env n (heldSegS_h2 v2x0 v2x1 v2x2) (outK heldSegS_O 0 heldSegS_b2 k) = heldSegS_F2 n v2x0 v2x1 v2x2 (fun x2x0x0 => k Ex.ret (heldSegS_x2e0 x2x0x0)) (fun x2x1x0 => k (Ex.exit (0 : Nat)) (heldSegS_x2e1 x2x1x0))
  | 0, _, _, _ => rfl
  | n + 1, v2x0, v2x1, v2x2 => by
    rw [loopK_succ, heldSegS_round2]
    simp only [heldSegS_loop2 N k wv2x0 wv2x1 wv2x2 n]
    rfl
theorem heldSegS_at2 (N : Nat) {s : St} {k : Ex → St → Option Rs} {r : Rs} (h : heldSegS_L2 N s k = some r) : ∃ (v2x0 : (List ((List UInt8) × Int))) (v2x1 : Int) (v2x2 : Int), s = (heldSegS_h2 v2x0 v2x1 v2x2) ∧ heldSegS_F2 N v2x0 v2x1 v2x2 (fun x2x0x0 => k Ex.ret (heldSegS_x2e0 x2x0x0)) (fun x2x1x0 => k (Ex.exit (0 : Nat)) (heldSegS_x2e1 x2x1x0)) = some r := by
  cases s with | mk env objs =>
  unfold heldSegS_L2 at h
  split at h
  · rename_i e1 e2
    have e3 := takeF_slots _ _ _ _ e1
    simp only at e2 e3
    subst e2 e3
    exact ⟨_, _, _, rfl, h⟩
  · cases h
theorem heldSegS_in2 : loops heldSegS_b2 = [] := by kernel_rfl
theorem heldSegS_lid2 : lid heldSegS_b2 = 2 := by kernel_rfl
theorem heldSegS_ok2 (N : Nat) : OkL Kx heldSegS_C heldSegS_O 0 N (heldSegS_L N) heldSegS_b2 := by
  intro s k k' r hk h
  rw [heldSegS_lid2] at h
  obtain ⟨v2x0, v2x1, v2x2, rfl, h⟩ := heldSegS_at2 N h
  refine loopL (Λ := heldSegS_L N) heldSegS_b2 ?_ N hk ((heldSegS_loop2 N k v2x0 v2x1 v2x2 N v2x0 v2x1 v2x2).trans h)
  rw [heldSegS_in2]
  exact fun _ h => nomatch h
def heldSegS_run (N : Nat) (l : List (List UInt8 × Int)) (k : Int) : Option Rs := (heldSegS_F2 N l k (0 : Int) (fun x2x0x0 => (some ((AV.int .i64 (-(1 : Int))), ([] : (List (Ob)))))) (fun x2x1x0 => (some ((AV.int .i64 x2x1x0), ([] : (List (Ob)))))))
theorem heldSegS_runL (N : Nat) (l : List (List UInt8 × Int)) (k : Int) : runL Kx heldSegS_C heldSegS_O (heldSegS_L N) Try.f72 ([.sh (.pair .str (.int .i64)) l, .int .i64 k]) ([]) = heldSegS_run N l k := by kernel_rfl
theorem heldSegS_body : Try.f72.body = some (codeOf Try.f72) := by kernel_rfl
theorem heldSegS_loops : loops (codeOf Try.f72) = [heldSegS_b2] := by kernel_rfl
theorem heldSegS_ev (N : Nat) (l : List (List UInt8 × Int)) (k : Int) {r : Rs} (h : heldSegS_run N l k = some r) : ∃ n, runF Kx heldSegS_C heldSegS_O n Try.f72 ([.sh (.pair .str (.int .i64)) l, .int .i64 k]) ([]) = some r :=
  ⟨N, runL_runF heldSegS_body (by rw [heldSegS_loops]; exact List.forall_mem_cons.2 ⟨heldSegS_ok2 N, fun _ h => nomatch h⟩) ((heldSegS_runL N l k).trans h)⟩
def heldSegS_sOf (φ : (List (List UInt8 × Int)) → Int → Br) : List AV → List Ob → Br
  | [.sh (.pair .str (.int .i64)) l, .int .i64 k], [] => φ l k
  | _, _ => .fail
theorem heldSegS_okOf {φ : (List (List UInt8 × Int)) → Int → Br} (fu : (List (List UInt8 × Int)) → Int → Nat) (hv : ∀ l k r, (φ l k).val = some r → heldSegS_run (fu l k) l k = some r) : Sound Kx 72 (heldSegS_sOf φ) := by
  refine sound_run (C := heldSegS_C) (O := heldSegS_O) KOk heldSegS_C_ok Try.func72 (by kernel_rfl) fun args objs res os h => ?_
  unfold heldSegS_sOf at h
  split at h
  · exact heldSegS_ev _ _ _ (hv _ _ _ h)
  · cases h

end Go.Proofs.Ythdiildelpmknaa.Ev
