/- The texts Sd, Se, Sf, Sg, Sh, Si, Sj, Sk, Sl, one behind the other. -/
import Derived.Test.YtdknaddanjpdaaaGreatDoorK26
import Derived.Test.YtdknaddanjpdaaaGreatDoorK27
import Derived.Test.YtdknaddanjpdaaaGreatDoorK12
import Derived.Test.YtdknaddanjpdaaaGreatDoorK23
import Derived.Test.YtdknaddanjpdaaaGreatDoorK24
namespace Go.Proofs.YtdknaddanjpdaaaGreatDoor.Ev
open Go Go.RowKit
set_option linter.unusedVariables false
set_option linter.unusedSimpArgs false
noncomputable section

def iE2E_C : SC := [⟨134, _, iHop_okQ⟩, ⟨72, _, keptE_okQ⟩]
def iE2E_br (l : List Fd) : Br := (Br.ite (decide ((List.length (hopL l)) ≤ 1000000)) (Br.ret (AV.ref 0 0) ((Ob.arr (Ty.pair Ty.str Ty.str) 0 false (bif (fdsOk l) then (offP l (hopL l)) else ([] : (List Fd)))) :: [])) Br.fail)
def iE2E_s : List AV → List Ob → Br
  | [.sh (.pair .str .str) l], [] => iE2E_br l
  | _, _ => .fail
theorem iE2E_ok : Sound Kx 68 iE2E_s := sound_br (C := iE2E_C) (O := O0) Tryz.func68 (by kernel_rfl) fun args objs => by
  unfold iE2E_s; split
  · exact .inr (by kernel_rfl)
  · exact .inl rfl

def sE2E_O : Opt := { live := [(6, [0, 3, 4, 5])], outs := [(6, [2, 3])] }
def sE2E_C : SC := [⟨125, _, sHop_okQ⟩, ⟨59, _, sl5in_okQ⟩, ⟨108, _, sfold_okQ⟩]
def sE2E_T6 (v6x0 : (List Fd)) (v6x1 : (List Bytes)) (v6x2 : Int) (v6x3 : (List Fd)) (kR6 : (List Fd) → (List Bytes) → Int → (List Fd) → Option Rs) (k6e0 : (List Fd) → Option Rs) : Option Rs :=
  (bif (decide (v6x2 < (v6x0.length : Int))) then (bif (decide (0 ≤ v6x2)) then (bif (decide (v6x2 < (v6x0.length : Int))) then (bif (isM (List.getD v6x0 (Int.toNat v6x2) (([] : Bytes), ([] : Bytes))).1) then (bif (decide (v6x1.length ≤ 1000000)) then (bif (!(inP v6x1 (foldP (List.getD v6x0 (Int.toNat v6x2) (([] : Bytes), ([] : Bytes))).1))) then (bif (decide (0 ≤ v6x2)) then (bif (decide (v6x2 < (v6x0.length : Int))) then (bif (decide (((v6x3.length + (List.length (List.set (List.replicate 1 (([] : Bytes), ([] : Bytes))) 0 ((List.getD v6x0 (Int.toNat v6x2) (([] : Bytes), ([] : Bytes))).1, (List.getD v6x0 (Int.toNat v6x2) (([] : Bytes), ([] : Bytes))).2)))) * 32) ≤ 140737488355328)) then (kR6 v6x0 v6x1 (wk64 (v6x2 + 1)) (v6x3 ++ (List.set (List.replicate 1 (([] : Bytes), ([] : Bytes))) 0 ((List.getD v6x0 (Int.toNat v6x2) (([] : Bytes), ([] : Bytes))).1, (List.getD v6x0 (Int.toNat v6x2) (([] : Bytes), ([] : Bytes))).2)))) else (none)) else (none)) else (none)) else (kR6 v6x0 v6x1 (wk64 (v6x2 + 1)) v6x3)) else (none)) else (none)) else (none)) else (none)) else (k6e0 v6x3))
def sE2E_F6 : Nat → (List Fd) → (List Bytes) → Int → (List Fd) → ((List Fd) → Option Rs) → Option Rs
  | 0, _, _, _, _, _ => none
  | n + 1, v6x0, v6x1, v6x2, v6x3, k6e0 => sE2E_T6 v6x0 v6x1 v6x2 v6x3 (fun v6x0 v6x1 v6x2 v6x3 => sE2E_F6 n v6x0 v6x1 v6x2 v6x3 k6e0) k6e0
abbrev sE2E_p6 : SP := ⟨34, [0, 3, 4, 5], [(.v (.sh (Ty.pair Ty.str Ty.str))), (.v (.ref 256 0)), (.v (.sh Ty.str)), (.v (.i .i64))], [(256, .arr (Ty.pair Ty.str Ty.str) 0 false)]⟩
noncomputable def sE2E_b6 : Code := codeAt (codeOf Tryz.f64) [1, 1, 1, 1, 0, 1, 0, 0]
def sE2E_E6 (f : ((List Fd) → Option Rs) → Option Rs) (k : KT) : Option Rs := f (fun x6x0x0 => k (Ex.exit 0) ((St.mk (slots 0 34 [(3, (AV.ref 256 0))]) ((256, (Ob.arr (Ty.pair Ty.str Ty.str) 0 false x6x0x0)) :: ([] : (List (Nat × (Ob))))))))
def sE2E_G6 (n : Nat) (d : sE2E_p6.D) : KT → Option Rs := sE2E_E6 (sE2E_F6 n d.1.1 d.1.2.2.1 d.1.2.2.2.1 d.2.1)
def sE2E_L (N : Nat) : Lam := lamOf [⟨6, sE2E_p6, sE2E_G6 N⟩]
theorem sE2E_ok6 (N : Nat) : OkL Kx sE2E_C.s sE2E_O 0 N (sE2E_L N) sE2E_b6 := okL sE2E_p6 (sE2E_G6) (fun d kR => sE2E_E6 (sE2E_T6 d.1.1 d.1.2.2.1 d.1.2.2.2.1 d.2.1 (fun v6x0 v6x1 v6x2 v6x3 => kR ((v6x0, (), v6x1, v6x2, ()), (v6x3, ()))))) (fun _ _ => by kernel_rfl) (fun _ _ _ => by kernel_rfl) (fun _ _ => by kernel_rfl) (fun _ _ _ _ => by kernel_rfl) (okEach (l' := []) (by kernel_rfl) trivial)
def sE2E_run (N : Nat) (l : List Fd) : Option Rs := (bif (fdsOk l) then (bif (decide (((List.length (hopP l)) : Int) = 0)) then (some ((AV.ref 0 0), ((Ob.arr (Ty.pair Ty.str Ty.str) 0 false ([] : (List Fd))) :: []))) else (sE2E_F6 N l (hopP l) 0 ([] : (List Fd)) (fun x6x0x0 => (some ((AV.ref 0 0), ((Ob.arr (Ty.pair Ty.str Ty.str) 0 false x6x0x0) :: [])))))) else (some ((AV.ref 0 0), ((Ob.arr (Ty.pair Ty.str Ty.str) 0 false ([] : (List Fd))) :: []))))
def sE2E_sOf (φ : (List Fd) → Br) : List AV → List Ob → Br
  | [.sh (.pair .str .str) l], [] => φ l
  | _, _ => .fail
theorem sE2E_okOf {φ : (List Fd) → Br} (fu : (List Fd) → Nat) (hv : ∀ l res_, (φ l).val = some res_ → sE2E_run (fu l) l = some res_) : Sound Kx 64 (sE2E_sOf φ) := sound_lp (C := sE2E_C) (O := sE2E_O) Tryz.func64 (by kernel_rfl) fun args objs => by
  unfold sE2E_sOf; split
  · rename_i l; exact .inr fun _ hyp_ => run_lp (Λ := sE2E_L (fu l)) (by kernel_rfl) (okEach (l' := [sE2E_b6]) (by kernel_rfl) ⟨sE2E_ok6 _, trivial⟩) (by kernel_rfl) (hv l _ hyp_)
  · exact .inl rfl

def iown_C : SC := [⟨138, _, clone_okQ⟩]
def iown_br (ur : Bytes) (t1 t2 : Int) (ak : List Fd) (me ta : Bytes) (st : Int) (re : Bytes) (ba : Bool) (fs : List Fd) (bo : Bytes) : Br := (Br.ite (decide (ak.length ≤ 1000000)) (Br.ite (decide (fs.length ≤ 1000000)) (Br.ret (AV.agg ((AV.str ur) :: ((AV.int .i64 t1) :: ((AV.int .i64 t2) :: ((AV.ref 0 0) :: ((AV.str me) :: ((AV.str ta) :: ((AV.int .i64 st) :: ((AV.str re) :: ((AV.bool ba) :: ((AV.ref 1 0) :: ((AV.str bo) :: [])))))))))))) ((Ob.arr (Ty.pair Ty.str Ty.str) 0 false ak) :: ((Ob.arr (Ty.pair Ty.str Ty.str) 0 false fs) :: []))) Br.fail) Br.fail)
def iown_s : List AV → List Ob → Br
  | [.agg [.str ur, .int .i64 t1, .int .i64 t2, .sh (.pair .str .str) ak, .str me, .str ta, .int .i64 st, .str re, .bool ba, .sh (.pair .str .str) fs, .str bo]], [] => iown_br ur t1 t2 ak me ta st re ba fs bo
  | _, _ => .fail
theorem iown_ok : Sound Kx 71 iown_s := sound_br (C := iown_C) (O := O0) Tryz.func71 (by kernel_rfl) fun args objs => by
  unfold iown_s; split
  · exact .inr (by kernel_rfl)
  · exact .inl rfl


def fr11_C : SC := [⟨76, _, isame_okQ⟩]
def fr11_br (f1 f2 : Bytes) (nm : Bytes) : Br := (Br.ite ((isM f1) && (isM nm)) (Br.ret (AV.bool (sameP f1 nm)) ((Ob.var ((AV.str nm) :: [])) :: [])) Br.fail)
def fr11_s : List AV → List Ob → Br
  | [.agg [.str f1, .str f2], .ptr 0 0], [.var [.str nm]] => fr11_br f1 f2 nm
  | _, _ => .fail
theorem fr11_ok : Sound Kx 75 fr11_s := sound_br (C := fr11_C) (O := O0) Tryz.func75 (by kernel_rfl) fun args objs => by
  unfold fr11_s; split
  · exact .inr (by kernel_rfl)
  · exact .inl rfl

def ixFF_O : Opt := { live := [(2, [0, 1, 7, 8])], outs := [(2, [4])] }
def ixFF_C : SC := [⟨75, _, fr11_ok⟩]
def ixFF_T2 (v2x0 : (List Fd)) (v2x1 v2x2 : Int) (v2x3 : Bytes) (kR2 : (List Fd) → Int → Int → Bytes → Option Rs) (k2e0 : Int → Bytes → Option Rs) (k2e1 : Bytes → Option Rs) : Option Rs :=
  (bif (decide (v2x2 < v2x1)) then (bif (decide (0 ≤ v2x2)) then (bif (decide (v2x2 < (v2x0.length : Int))) then (bif ((isM (List.getD v2x0 (Int.toNat v2x2) (([] : Bytes), ([] : Bytes))).1) && (isM v2x3)) then (bif (sameP (List.getD v2x0 (Int.toNat v2x2) (([] : Bytes), ([] : Bytes))).1 v2x3) then (k2e0 v2x2 v2x3) else (kR2 v2x0 v2x1 (wk64 (v2x2 + 1)) v2x3)) else (none)) else (none)) else (none)) else (k2e1 v2x3))
def ixFF_F2 : Nat → (List Fd) → Int → Int → Bytes → (Int → Bytes → Option Rs) → (Bytes → Option Rs) → Option Rs
  | 0, _, _, _, _, _, _ => none
  | n + 1, v2x0, v2x1, v2x2, v2x3, k2e0, k2e1 => ixFF_T2 v2x0 v2x1 v2x2 v2x3 (fun v2x0 v2x1 v2x2 v2x3 => ixFF_F2 n v2x0 v2x1 v2x2 v2x3 k2e0 k2e1) k2e0 k2e1
abbrev ixFF_p2 : SP := ⟨19, [0, 1, 7, 8], [(.v (.sh (Ty.pair Ty.str Ty.str))), (.v (.fn 75 [(0, 0)])), (.v (.i .i64)), (.v (.i .i64))], [(0, .var [.s])]⟩
noncomputable def ixFF_b2 : Code := codeAt (codeOf Tryz.f139) [1, 0, 1, 0, 0]
def ixFF_E2 (f : (Int → Bytes → Option Rs) → (Bytes → Option Rs) → Option Rs) (k : KT) : Option Rs := f (fun x2x0x0 x2x0x1 => k Ex.ret ((St.mk (slots 0 19 [(4, (AV.int .i64 x2x0x0))]) ((0, (Ob.var ((AV.str x2x0x1) :: []))) :: ([] : (List (Nat × (Ob)))))))) (fun x2x1x0 => k (Ex.exit 0) ((St.mk (slots 0 19 []) ((0, (Ob.var ((AV.str x2x1x0) :: []))) :: ([] : (List (Nat × (Ob))))))))
def ixFF_G2 (n : Nat) (d : ixFF_p2.D) : KT → Option Rs := ixFF_E2 (ixFF_F2 n d.1.1 d.1.2.2.1 d.1.2.2.2.1 d.2.1.1)
def ixFF_L (N : Nat) : Lam := lamOf [⟨2, ixFF_p2, ixFF_G2 N⟩]
theorem ixFF_ok2 (N : Nat) : OkL Kx ixFF_C.s ixFF_O 1 N (ixFF_L N) ixFF_b2 := okL ixFF_p2 (ixFF_G2) (fun d kR => ixFF_E2 (ixFF_T2 d.1.1 d.1.2.2.1 d.1.2.2.2.1 d.2.1.1 (fun v2x0 v2x1 v2x2 v2x3 => kR ((v2x0, (), v2x1, v2x2, ()), ((v2x3, ()), ()))))) (fun _ _ => by kernel_rfl) (fun _ _ _ => by kernel_rfl) (fun _ _ => by kernel_rfl) (fun _ _ _ _ => by kernel_rfl) (okEach (l' := []) (by kernel_rfl) trivial)
def ixFF_run (N : Nat) (l : List Fd) (nm : Bytes) : Option Rs := (ixFF_F2 N l (l.length : Int) 0 nm (fun x2x0x0 => (fun x2x0x1 => (some ((AV.int .i64 x2x0x0), ((Ob.var ((AV.str x2x0x1) :: [])) :: []))))) (fun x2x1x0 => (some ((AV.int .i64 (-1)), ((Ob.var ((AV.str x2x1x0) :: [])) :: [])))))
def ixFF_sOf (φ : (List Fd) → Bytes → Br) : List AV → List Ob → Br
  | [.sh (.pair .str .str) l, .fn 75 [.ptr 0 0]], [.var [.str nm]] => φ l nm
  | _, _ => .fail
theorem ixFF_okOf {φ : (List Fd) → Bytes → Br} (fu : (List Fd) → Bytes → Nat) (hv : ∀ l nm res_, (φ l nm).val = some res_ → ixFF_run (fu l nm) l nm = some res_) : Sound Kx 139 (ixFF_sOf φ) := sound_lp (C := ixFF_C) (O := ixFF_O) Tryz.func139 (by kernel_rfl) fun args objs => by
  unfold ixFF_sOf; split
  · rename_i l nm; exact .inr fun _ hyp_ => run_lp (Λ := ixFF_L (fu l nm)) (by kernel_rfl) (okEach (l' := [ixFF_b2]) (by kernel_rfl) ⟨ixFF_ok2 _, trivial⟩) (by kernel_rfl) (hv l nm _ hyp_)
  · exact .inl rfl

def sCont_C : SC := [⟨108, _, sfold_okQ⟩, ⟨69, _, hpS_ok⟩]
def sCont_br (s : Bytes) : Br := (Br.ite (isM s) (Br.ite (decide (8 ≤ ((List.length (foldP s)) : Int))) (Br.ite (decide (8 ≤ ((List.length (foldP s)) : Int))) (Br.ret (AV.bool (decide ((cut (foldP s) 0 8) = ([99, 111, 110, 116, 101, 110, 116, 45] : Bytes)))) []) Br.fail) (Br.ret (AV.bool false) [])) Br.fail)
def sCont_s : List AV → List Ob → Br
  | [.str s], [] => sCont_br s
  | _, _ => .fail
theorem sCont_ok : Sound Kx 65 sCont_s := sound_br (C := sCont_C) (O := O0) Tryz.func65 (by kernel_rfl) fun args objs => by
  unfold sCont_s; split
  · exact .inr (by kernel_rfl)
  · exact .inl rfl

theorem insP_pos (s : Bytes) : ∀ l : List Bytes, l.length ≤ (insP l s).length
  | [] => Nat.zero_le _
  | a :: l => by
    have := insP_pos s l
    unfold insP
    cases bytesLess s a
    · rw [cond_false]; simp only [List.length_cons]; omega
    · rw [cond_true]; simp only [List.length_cons]; omega
theorem putP_pos (l : List Bytes) (s : Bytes) : l.length ≤ (putP l s).length := by
  unfold putP
  cases inP l s
  · exact insP_pos s l
  · exact Nat.le_refl _
theorem fold_pos : ∀ (xs out : List Bytes), out.length ≤ (xs.foldl (fun o w => putP o (foldP w)) out).length
  | [], _ => Nat.le_refl _
  | a :: xs, out => Nat.le_trans (putP_pos out (foldP a)) (fold_pos xs _)
theorem hop_pos (l : List Fd) : 7 ≤ (hopP l).length := fold_pos _ hopB
def e2eP (l : List Fd) : List Fd := bif fdsOk l then offP l (hopP l) else []
def e2e_s : List AV → List Ob → Br
  | [.sh (.pair .str .str) l], [] => .ret (.ref 0 0) [.arr (.pair .str .str) 0 false (e2eP l)]
  | _, _ => .fail
theorem iE2E_okQ : Sound Kx 68 e2e_s := iE2E_ok.of fun args objs r h => by
  unfold e2e_s at h; split at h
  · refine Eq.trans ?_ h
    rename_i l
    show (iE2E_br l).val = _
    unfold iE2E_br e2eP
    refine (val_t (decide_eq_true (Nat.le_trans (hop_len l) (by decide)))).trans ?_
    unfold hopL
    cases fdsOk l <;> rfl
  · cases h
theorem sE2E_loop (l : List Fd) (hl : l.length ≤ 20) (hops : List Bytes) (hh : hops.length ≤ 1000000) (k : List Fd → Option Rs) : ∀ (r : List Fd) (i : Int) (n : Nat) (out : List Fd), At l i r → r.length < n → (∀ f ∈ r, fdOk f = true) → out.length + r.length ≤ 20 →
    sE2E_F6 n l hops i out k = k (out ++ offP r hops) := by
  intro r; induction r with
  | nil => intro i n out h hn hf ho; obtain ⟨n, rfl⟩ := fuel hn; unfold sE2E_F6 sE2E_T6; rw [h.dge, cond_false]; simp [offP]
  | cons f r ih =>
    intro i n out h hn hf ho; obtain ⟨n, rfl⟩ := fuel hn
    simp only [List.length_cons] at hn ho
    have hm1 := (fdOk_isM (hf f (List.mem_cons_self ..))).1
    have hr := fun x hx => hf x (List.mem_cons_of_mem _ hx)
    have hd : decide (hops.length ≤ 1000000) = true := decide_eq_true hh
    unfold sE2E_F6 sE2E_T6
    simp only [h.dlt, h.dnn, h.get, h.next (by omega), hm1, hd, cond_true]
    unfold offP at ih ⊢
    rw [List.filter_cons]
    cases inP hops (foldP f.1)
    · simp only [Bool.not_false, cond_true, if_true]
      rw [apF out _ (by omega), cond_true, ih (i + 1) n _ h.step (by omega) hr (by rw [List.length_append, List.length_set, List.length_replicate]; omega)]
      simp
    · simp only [Bool.not_true, cond_false]
      exact ih (i + 1) n _ h.step (by omega) hr (by omega)
theorem sE2E_okQ : Sound Kx 64 e2e_s := by
  refine (sE2E_okOf (φ := fun l => .ret (.ref 0 0) [.arr (.pair .str .str) 0 false (e2eP l)]) (fun l => l.length + 1) fun l r h => ?_).of fun args objs r h => ?_
  · cases h
    unfold sE2E_run e2eP
    cases hf : fdsOk l
    · rfl
    · obtain ⟨g1, g2⟩ := fdsOk_mem hf
      have hp := hop_pos l
      have hq := hop_len l
      unfold hopL at hq; rw [hf, cond_true] at hq
      rw [cond_true, show decide (((hopP l).length : Int) = 0) = false from decide_eq_false (by omega), cond_false, cond_true]
      exact sE2E_loop l g1 (hopP l) (by omega) _ l 0 _ [] (At.start l) (by omega) g2 (by rw [List.length_nil]; omega)
  · unfold e2e_s at h; split at h
    · exact h
    · cases h
def contP (s : Bytes) : Bool := decide (8 ≤ ((foldP s).length : Int)) && decide (cut (foldP s) 0 8 = [99, 111, 110, 116, 101, 110, 116, 45])
theorem sCont_okQ : Sound Kx 65 (t1_s fun s => .bool (contP s)) := sCont_ok.of fun args objs r h => by
  unfold t1_s at h
  split at h
  case h_2 => cases h
  rename_i s
  obtain ⟨hM, h2⟩ := ite_some h
  cases h2
  show (sCont_br s).val = some (.bool (contP s), [])
  unfold sCont_br contP
  refine (val_t hM).trans ?_
  cases c : decide (8 ≤ ((foldP s).length : Int)) <;> rfl
def fixG (nm : Bytes) : List Fd → Int → Int
  | [], _ => -1
  | f :: r, i => bif sameP f.1 nm then i else fixG nm r (i + 1)
def anyN (l : List Fd) (nm : Bytes) : Bool := l.any fun f => sameP f.1 nm
theorem fixG_any (nm : Bytes) : ∀ (l : List Fd) (i : Int), 0 ≤ i → decide (0 ≤ fixG nm l i) = anyN l nm
  | [], i, h => rfl
  | f :: r, i, h => by
    unfold fixG anyN
    rw [List.any_cons]
    cases sameP f.1 nm
    · rw [cond_false, Bool.false_or]; exact fixG_any nm r (i + 1) (by omega)
    · rw [cond_true, Bool.true_or]; exact decide_eq_true h
theorem smF_parts {l : List Fd} (h : smF l = true) : l.length ≤ 4611686018427387904 ∧ ∀ f ∈ l, isM f.1 = true ∧ isM f.2 = true := by
  unfold smF at h
  simp only [Bool.and_eq_true, List.all_eq_true, decide_eq_true_eq] at h
  refine ⟨Nat.le_trans h.1 (by decide), fun f hf => ?_⟩
  have := h.2 f hf
  unfold isMF at this
  simpa only [Bool.and_eq_true] using this
theorem ixFF_loop (l : List Fd) (hl : l.length ≤ 4611686018427387904) (nm : Bytes) (hnm : isM nm = true) (k0 : Int → Bytes → Option Rs) (k1 : Bytes → Option Rs) : ∀ (r : List Fd) (i : Int) (n : Nat), At l i r → (∀ f ∈ r, isM f.1 = true ∧ isM f.2 = true) → r.length < n →
    ixFF_F2 n l (l.length : Int) i nm k0 k1 = bif anyN r nm then k0 (fixG nm r i) nm else k1 nm := by
  intro r; induction r with
  | nil => intro i n h hm hn; obtain ⟨n, rfl⟩ := fuel hn; unfold ixFF_F2 ixFF_T2; simp only [h.dge, cond_false]; rfl
  | cons f r ih =>
    intro i n h hm hn; obtain ⟨n, rfl⟩ := fuel hn
    simp only [List.length_cons] at hn
    have hr := ih (i + 1) n h.step (fun x hx => hm x (List.mem_cons_of_mem _ hx)) (by omega)
    have ha := (hm f (List.mem_cons_self ..)).1
    unfold ixFF_F2 ixFF_T2
    simp only [h.dlt, h.dnn, h.get, cond_true, h.next hl, hr, fixG, ha, hnm, Bool.and_self, anyN, List.any_cons]
    cases hs : sameP f.1 nm
    · simp [hs]
    · simp [hs]
def ixG_s : List AV → List Ob → Br
  | [.sh (.pair .str .str) l, .fn 75 [.ptr 0 0]], [.var [.str nm]] => .ite (smF l && isM nm) (.ret (.int .i64 (fixG nm l 0)) [.var [.str nm]]) .fail
  | _, _ => .fail
theorem fixG_no (nm : Bytes) : ∀ (l : List Fd) (i : Int), anyN l nm = false → fixG nm l i = -1
  | [], i, _ => rfl
  | f :: r, i, h => by
    unfold anyN at h
    rw [List.any_cons, Bool.or_eq_false_iff] at h
    unfold fixG
    rw [h.1, cond_false]; exact fixG_no nm r (i + 1) h.2
theorem ixFF_okQ : Sound Kx 139 ixG_s := by
  refine (ixFF_okOf (φ := fun l nm => .ite (smF l && isM nm) (.ret (.int .i64 (fixG nm l 0)) [.var [.str nm]]) .fail) (fun l _ => l.length + 1) fun l nm r h => ?_).of fun args objs r h => ?_
  · obtain ⟨h1, h2⟩ := ite_some h
    cases h2
    rw [Bool.and_eq_true] at h1
    obtain ⟨g1, g2⟩ := smF_parts h1.1
    unfold ixFF_run
    refine (ixFF_loop l g1 nm h1.2 _ _ l 0 _ (At.start l) g2 (by omega)).trans ?_
    cases c : anyN l nm
    · rw [fixG_no nm l 0 c]; rfl
    · rfl
  · unfold ixG_s at h; split at h
    · exact h
    · cases h

def cfF_C : SC := [⟨139, _, ixFF_okQ⟩]
def cfF_br (l : List Fd) (nm : Bytes) : Br := (Br.ite ((smF l) && (isM nm)) (Br.ret (AV.bool (decide (0 ≤ (fixG nm l 0)))) ((Ob.var ((AV.str nm) :: [])) :: [])) Br.fail)
def cfF_s : List AV → List Ob → Br
  | [.sh (.pair .str .str) l, .fn 75 [.ptr 0 0]], [.var [.str nm]] => cfF_br l nm
  | _, _ => .fail
theorem cfF_ok : Sound Kx 74 cfF_s := sound_br (C := cfF_C) (O := O0) Tryz.func74 (by kernel_rfl) fun args objs => by
  unfold cfF_s; split
  · exact .inr (by kernel_rfl)
  · exact .inl rfl

def fr1_C : SC := [⟨74, _, cfF_ok⟩]
def fr1_br (news : List Fd) (nm : Bytes) : Br := (Br.ite ((smF news) && (isM nm)) (Br.ret (AV.bool (!(decide (0 ≤ (fixG nm news 0))))) ((Ob.var ((AV.ref 1 0) :: [])) :: ((Ob.arr (Ty.pair Ty.str Ty.str) 0 false news) :: []))) Br.fail)
def fr1_s : List AV → List Ob → Br
  | [.str nm, .ptr 0 0], [.var [.ref 1 0], .arr (.pair .str .str) 0 false news] => fr1_br news nm
  | _, _ => .fail
theorem fr1_ok : Sound Kx 73 fr1_s := sound_br (C := fr1_C) (O := O0) Tryz.func73 (by kernel_rfl) fun args objs => by
  unfold fr1_s; split
  · exact .inr (by kernel_rfl)
  · exact .inl rfl

def keptF_O : Opt := { live := [(5, [1, 5, 11, 12, 13])], outs := [(5, [4, 5])] }
def keptF_C : SC := [⟨51, _, iFieldsOk_okQ⟩, ⟨73, _, fr1_ok⟩]
def keptF_T5 (v5x0 : (List Fd)) (v5x1 v5x2 : Int) (v5x3 v5x4 : (List Fd)) (kR5 : (List Fd) → Int → Int → (List Fd) → (List Fd) → Option Rs) (k5e0 : (List Fd) → (List Fd) → Option Rs) : Option Rs :=
  (bif (decide (v5x2 < v5x1)) then (bif (decide (0 ≤ v5x2)) then (bif (decide (v5x2 < (v5x0.length : Int))) then (bif ((smF v5x3) && (isM (List.getD v5x0 (Int.toNat v5x2) (([] : Bytes), ([] : Bytes))).1)) then (bif (!(decide (0 ≤ (fixG (List.getD v5x0 (Int.toNat v5x2) (([] : Bytes), ([] : Bytes))).1 v5x3 0)))) then (bif (decide (((v5x4.length + (List.length (List.set (List.replicate 1 (([] : Bytes), ([] : Bytes))) 0 ((List.getD v5x0 (Int.toNat v5x2) (([] : Bytes), ([] : Bytes))).1, (List.getD v5x0 (Int.toNat v5x2) (([] : Bytes), ([] : Bytes))).2)))) * 32) ≤ 140737488355328)) then (kR5 v5x0 v5x1 (wk64 (v5x2 + 1)) v5x3 (v5x4 ++ (List.set (List.replicate 1 (([] : Bytes), ([] : Bytes))) 0 ((List.getD v5x0 (Int.toNat v5x2) (([] : Bytes), ([] : Bytes))).1, (List.getD v5x0 (Int.toNat v5x2) (([] : Bytes), ([] : Bytes))).2)))) else (none)) else (kR5 v5x0 v5x1 (wk64 (v5x2 + 1)) v5x3 v5x4)) else (none)) else (none)) else (none)) else (k5e0 v5x3 v5x4))
def keptF_F5 : Nat → (List Fd) → Int → Int → (List Fd) → (List Fd) → ((List Fd) → (List Fd) → Option Rs) → Option Rs
  | 0, _, _, _, _, _, _ => none
  | n + 1, v5x0, v5x1, v5x2, v5x3, v5x4, k5e0 => keptF_T5 v5x0 v5x1 v5x2 v5x3 v5x4 (fun v5x0 v5x1 v5x2 v5x3 v5x4 => keptF_F5 n v5x0 v5x1 v5x2 v5x3 v5x4 k5e0) k5e0
abbrev keptF_p5 : SP := ⟨27, [1, 5, 11, 12, 13], [(.v (.fn 73 [(0, 0)])), (.v (.ref 384 0)), (.v (.sh (Ty.pair Ty.str Ty.str))), (.v (.i .i64)), (.v (.i .i64))], [(0, .var [(.ref 1 0)]), (1, .arr (Ty.pair Ty.str Ty.str) 0 false), (384, .arr (Ty.pair Ty.str Ty.str) 0 false)]⟩
noncomputable def keptF_b5 : Code := codeAt (codeOf Tryz.f72) [1, 1, 1, 0, 1, 0, 0]
def keptF_E5 (f : ((List Fd) → (List Fd) → Option Rs) → Option Rs) (k : KT) : Option Rs := f (fun x5x0x0 x5x0x1 => k (Ex.exit 0) ((St.mk (slots 0 27 [(5, (AV.ref 384 0))]) ((0, (Ob.var ((AV.ref 1 0) :: []))) :: ((1, (Ob.arr (Ty.pair Ty.str Ty.str) 0 false x5x0x0)) :: ((384, (Ob.arr (Ty.pair Ty.str Ty.str) 0 false x5x0x1)) :: ([] : (List (Nat × (Ob))))))))))
def keptF_G5 (n : Nat) (d : keptF_p5.D) : KT → Option Rs := keptF_E5 (keptF_F5 n d.1.2.2.1 d.1.2.2.2.1 d.1.2.2.2.2.1 d.2.2.1 d.2.2.2.1)
def keptF_L (N : Nat) : Lam := lamOf [⟨5, keptF_p5, keptF_G5 N⟩]
theorem keptF_ok5 (N : Nat) : OkL Kx keptF_C.s keptF_O 2 N (keptF_L N) keptF_b5 := okL keptF_p5 (keptF_G5) (fun d kR => keptF_E5 (keptF_T5 d.1.2.2.1 d.1.2.2.2.1 d.1.2.2.2.2.1 d.2.2.1 d.2.2.2.1 (fun v5x0 v5x1 v5x2 v5x3 v5x4 => kR (((), (), v5x0, v5x1, v5x2, ()), (((), ()), v5x3, v5x4, ()))))) (fun _ _ => by kernel_rfl) (fun _ _ _ => by kernel_rfl) (fun _ _ => by kernel_rfl) (fun _ _ _ _ => by kernel_rfl) (okEach (l' := []) (by kernel_rfl) trivial)
def keptF_run (N : Nat) (l news : List Fd) : Option Rs := (bif (!(fdsOk l)) then (some ((AV.ref (List.length ((Ob.var ((AV.ref 1 0) :: [])) :: ((Ob.arr (Ty.pair Ty.str Ty.str) 0 false news) :: []))) 0), ((Ob.var ((AV.ref 1 0) :: [])) :: ((Ob.arr (Ty.pair Ty.str Ty.str) 0 false news) :: ((Ob.arr (Ty.pair Ty.str Ty.str) 0 false ([] : (List Fd))) :: []))))) else (keptF_F5 N l (l.length : Int) 0 news ([] : (List Fd)) (fun x5x0x0 => (fun x5x0x1 => (some ((AV.ref 2 0), ((Ob.var ((AV.ref 1 0) :: [])) :: ((Ob.arr (Ty.pair Ty.str Ty.str) 0 false x5x0x0) :: ((Ob.arr (Ty.pair Ty.str Ty.str) 0 false x5x0x1) :: [])))))))))
def keptF_sOf (φ : (List Fd) → (List Fd) → Br) : List AV → List Ob → Br
  | [.sh (.pair .str .str) l, .fn 73 [.ptr 0 0]], [.var [.ref 1 0], .arr (.pair .str .str) 0 false news] => φ l news
  | _, _ => .fail
theorem keptF_okOf {φ : (List Fd) → (List Fd) → Br} (fu : (List Fd) → (List Fd) → Nat) (hv : ∀ l news res_, (φ l news).val = some res_ → keptF_run (fu l news) l news = some res_) : Sound Kx 72 (keptF_sOf φ) := sound_lp (C := keptF_C) (O := keptF_O) Tryz.func72 (by kernel_rfl) fun args objs => by
  unfold keptF_sOf; split
  · rename_i l news; exact .inr fun _ hyp_ => run_lp (Λ := keptF_L (fu l news)) (by kernel_rfl) (okEach (l' := [keptF_b5]) (by kernel_rfl) ⟨keptF_ok5 _, trivial⟩) (by kernel_rfl) (hv l news _ hyp_)
  · exact .inl rfl

def restP (l news : List Fd) : List Fd := l.filter fun f => !anyN news f.1
theorem keptF_loop (l : List Fd) (hl : l.length ≤ 20) (news : List Fd) (hh : smF news = true) (k : List Fd → List Fd → Option Rs) : ∀ (r : List Fd) (i : Int) (n : Nat) (out : List Fd), At l i r → r.length < n → (∀ f ∈ r, fdOk f = true) → out.length + r.length ≤ 20 →
    keptF_F5 n l (l.length : Int) i news out k = k news (out ++ restP r news) := by
  intro r; induction r with
  | nil => intro i n out h hn hf ho; obtain ⟨n, rfl⟩ := fuel hn; unfold keptF_F5 keptF_T5; rw [h.dge, cond_false]; simp [restP]
  | cons f r ih =>
    intro i n out h hn hf ho; obtain ⟨n, rfl⟩ := fuel hn
    simp only [List.length_cons] at hn ho
    have hm1 := (fdOk_isM (hf f (List.mem_cons_self ..))).1
    have hr := fun x hx => hf x (List.mem_cons_of_mem _ hx)
    unfold keptF_F5 keptF_T5
    simp only [h.dlt, h.dnn, h.get, h.next (by omega), hm1, hh, cond_true, Bool.and_self, fixG_any _ _ 0 (Int.le_refl 0)]
    unfold restP at ih ⊢
    rw [List.filter_cons]
    cases anyN news f.1
    · simp only [Bool.not_false, cond_true, if_true]
      rw [apF out _ (by omega), cond_true, ih (i + 1) n _ h.step (by omega) hr (by rw [List.length_append, List.length_set, List.length_replicate]; omega)]
      simp
    · simp only [Bool.not_true, cond_false]
      exact ih (i + 1) n _ h.step (by omega) hr (by omega)
def keF_s : List AV → List Ob → Br
  | [.sh (.pair .str .str) l, .fn 73 [.ptr 0 0]], [.var [.ref 1 0], .arr (.pair .str .str) 0 false news] => .ite (smF news) (.ret (.ref 2 0) [.var [.ref 1 0], .arr (.pair .str .str) 0 false news, .arr (.pair .str .str) 0 false (bif fdsOk l then restP l news else [])]) .fail
  | _, _ => .fail
theorem keptF_okQ : Sound Kx 72 keF_s := by
  refine (keptF_okOf (φ := fun l news => .ite (smF news) (.ret (.ref 2 0) [.var [.ref 1 0], .arr (.pair .str .str) 0 false news, .arr (.pair .str .str) 0 false (bif fdsOk l then restP l news else [])]) .fail) (fun l _ => l.length + 1) fun l news r h => ?_).of fun args objs r h => ?_
  · obtain ⟨h1, h2⟩ := ite_some h
    cases h2
    unfold keptF_run
    cases hf : fdsOk l
    · rfl
    · obtain ⟨g1, g2⟩ := fdsOk_mem hf
      exact keptF_loop l g1 news h1 _ l 0 _ [] (At.start l) (by omega) g2 (by rw [List.length_nil]; omega)
  · unfold keF_s at h; split at h
    · exact h
    · cases h

def iFre_O : Opt := { live := [(5, [2, 3, 4, 8, 10, 30, 31, 32])], outs := [(5, [2, 3, 4, 8, 9, 10])] }
def iFre_C : SC := [⟨38, _, iEntryOk_okQ⟩, ⟨67, _, iMsgOk_okQ⟩, ⟨68, _, iE2E_okQ⟩, ⟨70, _, ifold_okQ⟩, ⟨69, _, hpS_ok⟩, ⟨71, _, iown_ok⟩, ⟨72, _, keptF_okQ⟩]
def iFre_T5 (v5x0 v5x1 v5x2 v5x3 : Int) (v5x4 : Bytes) (v5x5 v5x6 : Int) (v5x7 : (List Fd)) (v5x8 v5x9 : Bytes) (v5x10 : Int) (v5x11 : Bytes) (v5x12 : Bool) (v5x13 : (List Fd)) (v5x14 v5x15 : Bytes) (v5x16 v5x17 : Int) (v5x18 v5x19 : Bytes) (v5x20 : Int) (v5x21 : Bytes) (v5x22 : Bool) (v5x23 : Bytes) (v5x24 v5x25 v5x26 v5x27 : (List Fd)) (kR5 : Int → Int → Int → Int → Bytes → Int → Int → (List Fd) → Bytes → Bytes → Int → Bytes → Bool → (List Fd) → Bytes → Bytes → Int → Int → Bytes → Bytes → Int → Bytes → Bool → Bytes → (List Fd) → (List Fd) → (List Fd) → (List Fd) → Option Rs) (k5e0 : Int → Int → Bytes → Int → Int → (List Fd) → Bytes → Bytes → Int → Bytes → Bool → (List Fd) → Bytes → Bytes → Int → Int → Bytes → Bytes → Int → Bytes → Bool → Bytes → (List Fd) → (List Fd) → (List Fd) → Option Rs) : Option Rs :=
  (bif (decide (v5x3 < v5x2)) then (bif (decide (0 ≤ v5x3)) then (bif (decide (v5x3 < (v5x27.length : Int))) then (bif (isM (List.getD v5x27 (Int.toNat v5x3) (([] : Bytes), ([] : Bytes))).1) then (bif (decide (8 ≤ ((List.length (foldP (List.getD v5x27 (Int.toNat v5x3) (([] : Bytes), ([] : Bytes))).1)) : Int))) then (bif (decide (8 ≤ ((List.length (foldP (List.getD v5x27 (Int.toNat v5x3) (([] : Bytes), ([] : Bytes))).1)) : Int))) then (bif (!(decide ((cut (foldP (List.getD v5x27 (Int.toNat v5x3) (([] : Bytes), ([] : Bytes))).1) 0 8) = ([99, 111, 110, 116, 101, 110, 116, 45] : Bytes)))) then (bif (decide (((v5x26.length + (List.length (List.set (List.replicate 1 (([] : Bytes), ([] : Bytes))) 0 ((List.getD v5x27 (Int.toNat v5x3) (([] : Bytes), ([] : Bytes))).1, (List.getD v5x27 (Int.toNat v5x3) (([] : Bytes), ([] : Bytes))).2)))) * 32) ≤ 140737488355328)) then (kR5 v5x0 v5x1 v5x2 (wk64 (v5x3 + 1)) v5x4 v5x5 v5x6 v5x7 v5x8 v5x9 v5x10 v5x11 v5x12 v5x13 v5x14 v5x15 v5x16 v5x17 v5x18 v5x19 v5x20 v5x21 v5x22 v5x23 v5x24 v5x25 (v5x26 ++ (List.set (List.replicate 1 (([] : Bytes), ([] : Bytes))) 0 ((List.getD v5x27 (Int.toNat v5x3) (([] : Bytes), ([] : Bytes))).1, (List.getD v5x27 (Int.toNat v5x3) (([] : Bytes), ([] : Bytes))).2))) v5x27) else (none)) else (kR5 v5x0 v5x1 v5x2 (wk64 (v5x3 + 1)) v5x4 v5x5 v5x6 v5x7 v5x8 v5x9 v5x10 v5x11 v5x12 v5x13 v5x14 v5x15 v5x16 v5x17 v5x18 v5x19 v5x20 v5x21 v5x22 v5x23 v5x24 v5x25 v5x26 v5x27)) else (none)) else (bif (decide (((v5x26.length + (List.length (List.set (List.replicate 1 (([] : Bytes), ([] : Bytes))) 0 ((List.getD v5x27 (Int.toNat v5x3) (([] : Bytes), ([] : Bytes))).1, (List.getD v5x27 (Int.toNat v5x3) (([] : Bytes), ([] : Bytes))).2)))) * 32) ≤ 140737488355328)) then (kR5 v5x0 v5x1 v5x2 (wk64 (v5x3 + 1)) v5x4 v5x5 v5x6 v5x7 v5x8 v5x9 v5x10 v5x11 v5x12 v5x13 v5x14 v5x15 v5x16 v5x17 v5x18 v5x19 v5x20 v5x21 v5x22 v5x23 v5x24 v5x25 (v5x26 ++ (List.set (List.replicate 1 (([] : Bytes), ([] : Bytes))) 0 ((List.getD v5x27 (Int.toNat v5x3) (([] : Bytes), ([] : Bytes))).1, (List.getD v5x27 (Int.toNat v5x3) (([] : Bytes), ([] : Bytes))).2))) v5x27) else (none))) else (none)) else (none)) else (none)) else (k5e0 v5x0 v5x1 v5x4 v5x5 v5x6 v5x7 v5x8 v5x9 v5x10 v5x11 v5x12 v5x13 v5x14 v5x15 v5x16 v5x17 v5x18 v5x19 v5x20 v5x21 v5x22 v5x23 v5x24 v5x25 v5x26))
def iFre_F5 : Nat → Int → Int → Int → Int → Bytes → Int → Int → (List Fd) → Bytes → Bytes → Int → Bytes → Bool → (List Fd) → Bytes → Bytes → Int → Int → Bytes → Bytes → Int → Bytes → Bool → Bytes → (List Fd) → (List Fd) → (List Fd) → (List Fd) → (Int → Int → Bytes → Int → Int → (List Fd) → Bytes → Bytes → Int → Bytes → Bool → (List Fd) → Bytes → Bytes → Int → Int → Bytes → Bytes → Int → Bytes → Bool → Bytes → (List Fd) → (List Fd) → (List Fd) → Option Rs) → Option Rs
  | 0, _, _, _, _, _, _, _, _, _, _, _, _, _, _, _, _, _, _, _, _, _, _, _, _, _, _, _, _, _ => none
  | n + 1, v5x0, v5x1, v5x2, v5x3, v5x4, v5x5, v5x6, v5x7, v5x8, v5x9, v5x10, v5x11, v5x12, v5x13, v5x14, v5x15, v5x16, v5x17, v5x18, v5x19, v5x20, v5x21, v5x22, v5x23, v5x24, v5x25, v5x26, v5x27, k5e0 => iFre_T5 v5x0 v5x1 v5x2 v5x3 v5x4 v5x5 v5x6 v5x7 v5x8 v5x9 v5x10 v5x11 v5x12 v5x13 v5x14 v5x15 v5x16 v5x17 v5x18 v5x19 v5x20 v5x21 v5x22 v5x23 v5x24 v5x25 v5x26 v5x27 (fun v5x0 v5x1 v5x2 v5x3 v5x4 v5x5 v5x6 v5x7 v5x8 v5x9 v5x10 v5x11 v5x12 v5x13 v5x14 v5x15 v5x16 v5x17 v5x18 v5x19 v5x20 v5x21 v5x22 v5x23 v5x24 v5x25 v5x26 v5x27 => iFre_F5 n v5x0 v5x1 v5x2 v5x3 v5x4 v5x5 v5x6 v5x7 v5x8 v5x9 v5x10 v5x11 v5x12 v5x13 v5x14 v5x15 v5x16 v5x17 v5x18 v5x19 v5x20 v5x21 v5x22 v5x23 v5x24 v5x25 v5x26 v5x27 k5e0) k5e0
abbrev iFre_p5 : SP := ⟨66, [2, 3, 4, 8, 10, 30, 31, 32], [(.v (.i .i64)), (.v (.i .i64)), (.v (.ptr 320 0)), (.v (.ptr 576 0)), (.v (.ptr 704 0)), (.v (.ref 1984 0)), (.v (.i .i64)), (.v (.i .i64))], [(320, .var [.s, (.i .i64), (.i .i64), (.sh (Ty.pair Ty.str Ty.str)), .s, .s, (.i .i64), .s, .b, (.sh (Ty.pair Ty.str Ty.str)), .s]), (576, .var [.s, (.i .i64), (.i .i64), (.ref 580 0), .s, .s, (.i .i64), .s, .b, (.ref 586 0), .s]), (580, .arr (Ty.pair Ty.str Ty.str) 0 false), (586, .arr (Ty.pair Ty.str Ty.str) 0 false), (704, .var [(.ref 705 0)]), (705, .arr (Ty.pair Ty.str Ty.str) 0 false), (1984, .arr (Ty.pair Ty.str Ty.str) 0 false)]⟩
noncomputable def iFre_b5 : Code := codeAt (codeOf Tryz.f30) [1, 1, 1, 0, 1, 0, 0]
def iFre_E5 (f : (Int → Int → Bytes → Int → Int → (List Fd) → Bytes → Bytes → Int → Bytes → Bool → (List Fd) → Bytes → Bytes → Int → Int → Bytes → Bytes → Int → Bytes → Bool → Bytes → (List Fd) → (List Fd) → (List Fd) → Option Rs) → Option Rs) (k : KT) : Option Rs := f (fun x5x0x0 x5x0x1 x5x0x2 x5x0x3 x5x0x4 x5x0x5 x5x0x6 x5x0x7 x5x0x8 x5x0x9 x5x0x10 x5x0x11 x5x0x12 x5x0x13 x5x0x14 x5x0x15 x5x0x16 x5x0x17 x5x0x18 x5x0x19 x5x0x20 x5x0x21 x5x0x22 x5x0x23 x5x0x24 => k (Ex.exit 0) ((St.mk (slots 0 66 [(2, (AV.int .i64 x5x0x0)), (3, (AV.int .i64 x5x0x1)), (4, (AV.ptr 320 0)), (8, (AV.ptr 576 0)), (10, (AV.ptr 704 0))]) ((320, (Ob.var ((AV.str x5x0x2) :: ((AV.int .i64 x5x0x3) :: ((AV.int .i64 x5x0x4) :: ((AV.sh (Ty.pair Ty.str Ty.str) x5x0x5) :: ((AV.str x5x0x6) :: ((AV.str x5x0x7) :: ((AV.int .i64 x5x0x8) :: ((AV.str x5x0x9) :: ((AV.bool x5x0x10) :: ((AV.sh (Ty.pair Ty.str Ty.str) x5x0x11) :: ((AV.str x5x0x12) :: []))))))))))))) :: ((576, (Ob.var ((AV.str x5x0x13) :: ((AV.int .i64 x5x0x14) :: ((AV.int .i64 x5x0x15) :: ((AV.ref 580 0) :: ((AV.str x5x0x16) :: ((AV.str x5x0x17) :: ((AV.int .i64 x5x0x18) :: ((AV.str x5x0x19) :: ((AV.bool x5x0x20) :: ((AV.ref 586 0) :: ((AV.str x5x0x21) :: []))))))))))))) :: ((580, (Ob.arr (Ty.pair Ty.str Ty.str) 0 false x5x0x22)) :: ((586, (Ob.arr (Ty.pair Ty.str Ty.str) 0 false x5x0x23)) :: ((704, (Ob.var ((AV.ref 705 0) :: []))) :: ((705, (Ob.arr (Ty.pair Ty.str Ty.str) 0 false x5x0x24)) :: ([] : (List (Nat × (Ob)))))))))))))
def iFre_G5 (n : Nat) (d : iFre_p5.D) : KT → Option Rs := iFre_E5 (iFre_F5 n d.1.1 d.1.2.1 d.1.2.2.2.2.2.2.1 d.1.2.2.2.2.2.2.2.1 d.2.1.1 d.2.1.2.1 d.2.1.2.2.1 d.2.1.2.2.2.1 d.2.1.2.2.2.2.1 d.2.1.2.2.2.2.2.1 d.2.1.2.2.2.2.2.2.1 d.2.1.2.2.2.2.2.2.2.1 d.2.1.2.2.2.2.2.2.2.2.1 d.2.1.2.2.2.2.2.2.2.2.2.1 d.2.1.2.2.2.2.2.2.2.2.2.2.1 d.2.2.1.1 d.2.2.1.2.1 d.2.2.1.2.2.1 d.2.2.1.2.2.2.2.1 d.2.2.1.2.2.2.2.2.1 d.2.2.1.2.2.2.2.2.2.1 d.2.2.1.2.2.2.2.2.2.2.1 d.2.2.1.2.2.2.2.2.2.2.2.1 d.2.2.1.2.2.2.2.2.2.2.2.2.2.1 d.2.2.2.1 d.2.2.2.2.1 d.2.2.2.2.2.2.1 d.2.2.2.2.2.2.2.1)
def iFre_L (N : Nat) : Lam := lamOf [⟨5, iFre_p5, iFre_G5 N⟩]
theorem iFre_ok5 (N : Nat) : OkL Kx iFre_C.s iFre_O 0 N (iFre_L N) iFre_b5 := okL iFre_p5 (iFre_G5) (fun d kR => iFre_E5 (iFre_T5 d.1.1 d.1.2.1 d.1.2.2.2.2.2.2.1 d.1.2.2.2.2.2.2.2.1 d.2.1.1 d.2.1.2.1 d.2.1.2.2.1 d.2.1.2.2.2.1 d.2.1.2.2.2.2.1 d.2.1.2.2.2.2.2.1 d.2.1.2.2.2.2.2.2.1 d.2.1.2.2.2.2.2.2.2.1 d.2.1.2.2.2.2.2.2.2.2.1 d.2.1.2.2.2.2.2.2.2.2.2.1 d.2.1.2.2.2.2.2.2.2.2.2.2.1 d.2.2.1.1 d.2.2.1.2.1 d.2.2.1.2.2.1 d.2.2.1.2.2.2.2.1 d.2.2.1.2.2.2.2.2.1 d.2.2.1.2.2.2.2.2.2.1 d.2.2.1.2.2.2.2.2.2.2.1 d.2.2.1.2.2.2.2.2.2.2.2.1 d.2.2.1.2.2.2.2.2.2.2.2.2.2.1 d.2.2.2.1 d.2.2.2.2.1 d.2.2.2.2.2.2.1 d.2.2.2.2.2.2.2.1 (fun v5x0 v5x1 v5x2 v5x3 v5x4 v5x5 v5x6 v5x7 v5x8 v5x9 v5x10 v5x11 v5x12 v5x13 v5x14 v5x15 v5x16 v5x17 v5x18 v5x19 v5x20 v5x21 v5x22 v5x23 v5x24 v5x25 v5x26 v5x27 => kR ((v5x0, v5x1, (), (), (), (), v5x2, v5x3, ()), ((v5x4, v5x5, v5x6, v5x7, v5x8, v5x9, v5x10, v5x11, v5x12, v5x13, v5x14, ()), (v5x15, v5x16, v5x17, (), v5x18, v5x19, v5x20, v5x21, v5x22, (), v5x23, ()), v5x24, v5x25, ((), ()), v5x26, v5x27, ()))))) (fun _ _ => by kernel_rfl) (fun _ _ _ => by kernel_rfl) (fun _ _ => by kernel_rfl) (fun _ _ _ _ => by kernel_rfl) (okEach (l' := []) (by kernel_rfl) trivial)
def iFre_run (N : Nat) (ur : Bytes) (t1 t2 : Int) (ak : List Fd) (me ta : Bytes) (st : Int) (re : Bytes) (ba : Bool) (fs : List Fd) (bo : Bytes) (me2 ta2 : Bytes) (st2 : Int) (re2 : Bytes) (ba2 : Bool) (fs2 : List Fd) (bo2 : Bytes) (n1 n2 : Int) : Option Rs := (bif (isM ur) then (bif (!(entP (ur, (t1, (t2, (ak, (me, (ta, (st, (re, (ba, (fs, bo)))))))))))) then (some ((AV.tup ((AV.agg ((AV.str ([] : Bytes)) :: ((AV.int .i64 0) :: ((AV.int .i64 0) :: ((AV.ref 0 0) :: ((AV.str ([] : Bytes)) :: ((AV.str ([] : Bytes)) :: ((AV.int .i64 0) :: ((AV.str ([] : Bytes)) :: ((AV.bool false) :: ((AV.ref 1 0) :: ((AV.str ([] : Bytes)) :: [])))))))))))) :: ((AV.bool false) :: []))), ((Ob.arr (Ty.pair Ty.str Ty.str) 0 false ([] : (List Fd))) :: ((Ob.arr (Ty.pair Ty.str Ty.str) 0 false ([] : (List Fd))) :: [])))) else (bif (!(msgOkP me2 ta2 st2 re2 ba2 fs2 bo2)) then (some ((AV.tup ((AV.agg ((AV.str ([] : Bytes)) :: ((AV.int .i64 0) :: ((AV.int .i64 0) :: ((AV.ref 0 0) :: ((AV.str ([] : Bytes)) :: ((AV.str ([] : Bytes)) :: ((AV.int .i64 0) :: ((AV.str ([] : Bytes)) :: ((AV.bool false) :: ((AV.ref 1 0) :: ((AV.str ([] : Bytes)) :: [])))))))))))) :: ((AV.bool false) :: []))), ((Ob.arr (Ty.pair Ty.str Ty.str) 0 false ([] : (List Fd))) :: ((Ob.arr (Ty.pair Ty.str Ty.str) 0 false ([] : (List Fd))) :: [])))) else (bif (!(decide (st2 = 304))) then (some ((AV.tup ((AV.agg ((AV.str ([] : Bytes)) :: ((AV.int .i64 0) :: ((AV.int .i64 0) :: ((AV.ref 0 0) :: ((AV.str ([] : Bytes)) :: ((AV.str ([] : Bytes)) :: ((AV.int .i64 0) :: ((AV.str ([] : Bytes)) :: ((AV.bool false) :: ((AV.ref 1 0) :: ((AV.str ([] : Bytes)) :: [])))))))))))) :: ((AV.bool false) :: []))), ((Ob.arr (Ty.pair Ty.str Ty.str) 0 false ([] : (List Fd))) :: ((Ob.arr (Ty.pair Ty.str Ty.str) 0 false ([] : (List Fd))) :: [])))) else (iFre_F5 N n1 n2 ((List.length (e2eP fs2)) : Int) 0 ur t1 t2 ak me ta st re ba fs bo ([] : Bytes) 0 0 ([] : Bytes) ([] : Bytes) 0 ([] : Bytes) false ([] : Bytes) ([] : (List Fd)) ([] : (List Fd)) ([] : (List Fd)) (e2eP fs2) (fun x5x0x0 => (fun x5x0x1 => (fun x5x0x2 => (fun x5x0x3 => (fun x5x0x4 => (fun x5x0x5 => (fun x5x0x6 => (fun x5x0x7 => (fun x5x0x8 => (fun x5x0x9 => (fun x5x0x10 => (fun x5x0x11 => (fun x5x0x12 => (fun x5x0x13 => (fun x5x0x14 => (fun x5x0x15 => (fun x5x0x16 => (fun x5x0x17 => (fun x5x0x18 => (fun x5x0x19 => (fun x5x0x20 => (fun x5x0x21 => (fun x5x0x22 => (fun x5x0x23 => (fun x5x0x24 => (bif (decide (x5x0x5.length ≤ 1000000)) then (bif (decide (x5x0x11.length ≤ 1000000)) then (bif (smF x5x0x24) then (bif (decide ((((List.length (bif (fdsOk x5x0x11) then (restP x5x0x11 x5x0x24) else ([] : (List Fd)))) + x5x0x24.length) * 32) ≤ 140737488355328)) then (bif (isM x5x0x2) then (bif (!(entP (x5x0x2, (x5x0x0, (x5x0x1, (x5x0x5, (x5x0x6, (x5x0x7, (x5x0x8, (x5x0x9, (x5x0x10, (((bif (fdsOk x5x0x11) then (restP x5x0x11 x5x0x24) else ([] : (List Fd))) ++ x5x0x24), x5x0x12)))))))))))) then (some ((AV.tup ((AV.agg ((AV.str ([] : Bytes)) :: ((AV.int .i64 0) :: ((AV.int .i64 0) :: ((AV.ref 0 0) :: ((AV.str ([] : Bytes)) :: ((AV.str ([] : Bytes)) :: ((AV.int .i64 0) :: ((AV.str ([] : Bytes)) :: ((AV.bool false) :: ((AV.ref 1 0) :: ((AV.str ([] : Bytes)) :: [])))))))))))) :: ((AV.bool false) :: []))), ((Ob.arr (Ty.pair Ty.str Ty.str) 0 false ([] : (List Fd))) :: ((Ob.arr (Ty.pair Ty.str Ty.str) 0 false ([] : (List Fd))) :: [])))) else (some ((AV.tup ((AV.agg ((AV.str x5x0x2) :: ((AV.int .i64 x5x0x0) :: ((AV.int .i64 x5x0x1) :: ((AV.ref 0 0) :: ((AV.str x5x0x6) :: ((AV.str x5x0x7) :: ((AV.int .i64 x5x0x8) :: ((AV.str x5x0x9) :: ((AV.bool x5x0x10) :: ((AV.ref 1 0) :: ((AV.str x5x0x12) :: [])))))))))))) :: ((AV.bool true) :: []))), ((Ob.arr (Ty.pair Ty.str Ty.str) 0 false x5x0x5) :: ((Ob.arr (Ty.pair Ty.str Ty.str) 0 false ((bif (fdsOk x5x0x11) then (restP x5x0x11 x5x0x24) else ([] : (List Fd))) ++ x5x0x24)) :: []))))) else (none)) else (none)) else (none)) else (none)) else (none))))))))))))))))))))))))))))))) else (none))
def iFre_sOf (φ : Bytes → Int → Int → (List Fd) → Bytes → Bytes → Int → Bytes → Bool → (List Fd) → Bytes → Bytes → Bytes → Int → Bytes → Bool → (List Fd) → Bytes → Int → Int → Br) : List AV → List Ob → Br
  | [.agg [.str ur, .int .i64 t1, .int .i64 t2, .sh (.pair .str .str) ak, .str me, .str ta, .int .i64 st, .str re, .bool ba, .sh (.pair .str .str) fs, .str bo], .agg [.str me2, .str ta2, .int .i64 st2, .str re2, .bool ba2, .sh (.pair .str .str) fs2, .str bo2], .int .i64 n1, .int .i64 n2], [] => φ ur t1 t2 ak me ta st re ba fs bo me2 ta2 st2 re2 ba2 fs2 bo2 n1 n2
  | _, _ => .fail
theorem iFre_okOf {φ : Bytes → Int → Int → (List Fd) → Bytes → Bytes → Int → Bytes → Bool → (List Fd) → Bytes → Bytes → Bytes → Int → Bytes → Bool → (List Fd) → Bytes → Int → Int → Br} (fu : Bytes → Int → Int → (List Fd) → Bytes → Bytes → Int → Bytes → Bool → (List Fd) → Bytes → Bytes → Bytes → Int → Bytes → Bool → (List Fd) → Bytes → Int → Int → Nat) (hv : ∀ ur t1 t2 ak me ta st re ba fs bo me2 ta2 st2 re2 ba2 fs2 bo2 n1 n2 res_, (φ ur t1 t2 ak me ta st re ba fs bo me2 ta2 st2 re2 ba2 fs2 bo2 n1 n2).val = some res_ → iFre_run (fu ur t1 t2 ak me ta st re ba fs bo me2 ta2 st2 re2 ba2 fs2 bo2 n1 n2) ur t1 t2 ak me ta st re ba fs bo me2 ta2 st2 re2 ba2 fs2 bo2 n1 n2 = some res_) : Sound Kx 30 (iFre_sOf φ) := sound_lp (C := iFre_C) (O := iFre_O) Tryz.func30 (by kernel_rfl) fun args objs => by
  unfold iFre_sOf; split
  · rename_i ur t1 t2 ak me ta st re ba fs bo me2 ta2 st2 re2 ba2 fs2 bo2 n1 n2; exact .inr fun _ hyp_ => run_lp (Λ := iFre_L (fu ur t1 t2 ak me ta st re ba fs bo me2 ta2 st2 re2 ba2 fs2 bo2 n1 n2)) (by kernel_rfl) (okEach (l' := [iFre_b5]) (by kernel_rfl) ⟨iFre_ok5 _, trivial⟩) (by kernel_rfl) (hv ur t1 t2 ak me ta st re ba fs bo me2 ta2 st2 re2 ba2 fs2 bo2 n1 n2 _ hyp_)
  · exact .inl rfl

def sFre_O : Opt := { live := [(7, [2, 3, 4, 8, 10, 11, 12, 13])], outs := [(7, [2, 3, 4, 8, 9, 10, 11])] }
def sFre_C : SC := [⟨34, _, sEntryOk_okQ⟩, ⟨63, _, sMsgOk_okQ⟩, ⟨64, _, sE2E_okQ⟩, ⟨65, _, sCont_okQ⟩, ⟨66, _, sWithout_okQ⟩]
def sFre_T7 (v7x0 v7x1 v7x2 : Int) (v7x3 : Bytes) (v7x4 v7x5 : Int) (v7x6 : (List Fd)) (v7x7 v7x8 : Bytes) (v7x9 : Int) (v7x10 : Bytes) (v7x11 : Bool) (v7x12 : (List Fd)) (v7x13 v7x14 : Bytes) (v7x15 v7x16 : Int) (v7x17 v7x18 : Bytes) (v7x19 : Int) (v7x20 : Bytes) (v7x21 : Bool) (v7x22 : Bytes) (v7x23 v7x24 v7x25 v7x26 v7x27 : (List Fd)) (kR7 : Int → Int → Int → Bytes → Int → Int → (List Fd) → Bytes → Bytes → Int → Bytes → Bool → (List Fd) → Bytes → Bytes → Int → Int → Bytes → Bytes → Int → Bytes → Bool → Bytes → (List Fd) → (List Fd) → (List Fd) → (List Fd) → (List Fd) → Option Rs) (k7e0 : Int → Int → Bytes → Int → Int → (List Fd) → Bytes → Bytes → Int → Bytes → Bool → (List Fd) → Bytes → Bytes → Int → Int → Bytes → Bytes → Int → Bytes → Bool → Bytes → (List Fd) → (List Fd) → (List Fd) → (List Fd) → Option Rs) : Option Rs :=
  (bif (decide (v7x2 < (v7x27.length : Int))) then (bif (decide (0 ≤ v7x2)) then (bif (decide (v7x2 < (v7x27.length : Int))) then (bif (isM (List.getD v7x27 (Int.toNat v7x2) (([] : Bytes), ([] : Bytes))).1) then (bif (!(contP (List.getD v7x27 (Int.toNat v7x2) (([] : Bytes), ([] : Bytes))).1)) then (bif (decide (0 ≤ v7x2)) then (bif (decide (v7x2 < (v7x27.length : Int))) then (bif (decide (((v7x26.length + (List.length (List.set (List.replicate 1 (([] : Bytes), ([] : Bytes))) 0 ((List.getD v7x27 (Int.toNat v7x2) (([] : Bytes), ([] : Bytes))).1, (List.getD v7x27 (Int.toNat v7x2) (([] : Bytes), ([] : Bytes))).2)))) * 32) ≤ 140737488355328)) then (bif (decide (0 ≤ v7x2)) then (bif (decide (v7x2 < (v7x27.length : Int))) then (bif (isM (List.getD v7x27 (Int.toNat v7x2) (([] : Bytes), ([] : Bytes))).1) then (kR7 v7x0 v7x1 (wk64 (v7x2 + 1)) v7x3 v7x4 v7x5 v7x6 v7x7 v7x8 v7x9 v7x10 v7x11 v7x12 v7x13 v7x14 v7x15 v7x16 v7x17 v7x18 v7x19 v7x20 v7x21 v7x22 v7x23 v7x24 (withP v7x25 (List.getD v7x27 (Int.toNat v7x2) (([] : Bytes), ([] : Bytes))).1) (v7x26 ++ (List.set (List.replicate 1 (([] : Bytes), ([] : Bytes))) 0 ((List.getD v7x27 (Int.toNat v7x2) (([] : Bytes), ([] : Bytes))).1, (List.getD v7x27 (Int.toNat v7x2) (([] : Bytes), ([] : Bytes))).2))) v7x27) else (none)) else (none)) else (none)) else (none)) else (none)) else (none)) else (kR7 v7x0 v7x1 (wk64 (v7x2 + 1)) v7x3 v7x4 v7x5 v7x6 v7x7 v7x8 v7x9 v7x10 v7x11 v7x12 v7x13 v7x14 v7x15 v7x16 v7x17 v7x18 v7x19 v7x20 v7x21 v7x22 v7x23 v7x24 v7x25 v7x26 v7x27)) else (none)) else (none)) else (none)) else (k7e0 v7x0 v7x1 v7x3 v7x4 v7x5 v7x6 v7x7 v7x8 v7x9 v7x10 v7x11 v7x12 v7x13 v7x14 v7x15 v7x16 v7x17 v7x18 v7x19 v7x20 v7x21 v7x22 v7x23 v7x24 v7x25 v7x26))
def sFre_F7 : Nat → Int → Int → Int → Bytes → Int → Int → (List Fd) → Bytes → Bytes → Int → Bytes → Bool → (List Fd) → Bytes → Bytes → Int → Int → Bytes → Bytes → Int → Bytes → Bool → Bytes → (List Fd) → (List Fd) → (List Fd) → (List Fd) → (List Fd) → (Int → Int → Bytes → Int → Int → (List Fd) → Bytes → Bytes → Int → Bytes → Bool → (List Fd) → Bytes → Bytes → Int → Int → Bytes → Bytes → Int → Bytes → Bool → Bytes → (List Fd) → (List Fd) → (List Fd) → (List Fd) → Option Rs) → Option Rs
  | 0, _, _, _, _, _, _, _, _, _, _, _, _, _, _, _, _, _, _, _, _, _, _, _, _, _, _, _, _, _ => none
  | n + 1, v7x0, v7x1, v7x2, v7x3, v7x4, v7x5, v7x6, v7x7, v7x8, v7x9, v7x10, v7x11, v7x12, v7x13, v7x14, v7x15, v7x16, v7x17, v7x18, v7x19, v7x20, v7x21, v7x22, v7x23, v7x24, v7x25, v7x26, v7x27, k7e0 => sFre_T7 v7x0 v7x1 v7x2 v7x3 v7x4 v7x5 v7x6 v7x7 v7x8 v7x9 v7x10 v7x11 v7x12 v7x13 v7x14 v7x15 v7x16 v7x17 v7x18 v7x19 v7x20 v7x21 v7x22 v7x23 v7x24 v7x25 v7x26 v7x27 (fun v7x0 v7x1 v7x2 v7x3 v7x4 v7x5 v7x6 v7x7 v7x8 v7x9 v7x10 v7x11 v7x12 v7x13 v7x14 v7x15 v7x16 v7x17 v7x18 v7x19 v7x20 v7x21 v7x22 v7x23 v7x24 v7x25 v7x26 v7x27 => sFre_F7 n v7x0 v7x1 v7x2 v7x3 v7x4 v7x5 v7x6 v7x7 v7x8 v7x9 v7x10 v7x11 v7x12 v7x13 v7x14 v7x15 v7x16 v7x17 v7x18 v7x19 v7x20 v7x21 v7x22 v7x23 v7x24 v7x25 v7x26 v7x27 k7e0) k7e0
abbrev sFre_p7 : SP := ⟨84, [2, 3, 4, 8, 10, 11, 12, 13], [(.v (.i .i64)), (.v (.i .i64)), (.v (.ptr 320 0)), (.v (.ptr 576 0)), (.v (.ref 704 0)), (.v (.ref 768 0)), (.v (.ref 832 0)), (.v (.i .i64))], [(320, .var [.s, (.i .i64), (.i .i64), (.sh (Ty.pair Ty.str Ty.str)), .s, .s, (.i .i64), .s, .b, (.sh (Ty.pair Ty.str Ty.str)), .s]), (576, .var [.s, (.i .i64), (.i .i64), (.ref 580 0), .s, .s, (.i .i64), .s, .b, (.ref 586 0), .s]), (580, .arr (Ty.pair Ty.str Ty.str) 0 false), (586, .arr (Ty.pair Ty.str Ty.str) 0 false), (704, .arr (Ty.pair Ty.str Ty.str) 0 false), (768, .arr (Ty.pair Ty.str Ty.str) 0 false), (832, .arr (Ty.pair Ty.str Ty.str) 0 false)]⟩
noncomputable def sFre_b7 : Code := codeAt (codeOf Tryz.f28) [1, 1, 1, 1, 1, 0, 1, 0, 0]
def sFre_E7 (f : (Int → Int → Bytes → Int → Int → (List Fd) → Bytes → Bytes → Int → Bytes → Bool → (List Fd) → Bytes → Bytes → Int → Int → Bytes → Bytes → Int → Bytes → Bool → Bytes → (List Fd) → (List Fd) → (List Fd) → (List Fd) → Option Rs) → Option Rs) (k : KT) : Option Rs := f (fun x7x0x0 x7x0x1 x7x0x2 x7x0x3 x7x0x4 x7x0x5 x7x0x6 x7x0x7 x7x0x8 x7x0x9 x7x0x10 x7x0x11 x7x0x12 x7x0x13 x7x0x14 x7x0x15 x7x0x16 x7x0x17 x7x0x18 x7x0x19 x7x0x20 x7x0x21 x7x0x22 x7x0x23 x7x0x24 x7x0x25 => k (Ex.exit 0) ((St.mk (slots 0 84 [(2, (AV.int .i64 x7x0x0)), (3, (AV.int .i64 x7x0x1)), (4, (AV.ptr 320 0)), (8, (AV.ptr 576 0)), (10, (AV.ref 704 0)), (11, (AV.ref 768 0))]) ((320, (Ob.var ((AV.str x7x0x2) :: ((AV.int .i64 x7x0x3) :: ((AV.int .i64 x7x0x4) :: ((AV.sh (Ty.pair Ty.str Ty.str) x7x0x5) :: ((AV.str x7x0x6) :: ((AV.str x7x0x7) :: ((AV.int .i64 x7x0x8) :: ((AV.str x7x0x9) :: ((AV.bool x7x0x10) :: ((AV.sh (Ty.pair Ty.str Ty.str) x7x0x11) :: ((AV.str x7x0x12) :: []))))))))))))) :: ((576, (Ob.var ((AV.str x7x0x13) :: ((AV.int .i64 x7x0x14) :: ((AV.int .i64 x7x0x15) :: ((AV.ref 580 0) :: ((AV.str x7x0x16) :: ((AV.str x7x0x17) :: ((AV.int .i64 x7x0x18) :: ((AV.str x7x0x19) :: ((AV.bool x7x0x20) :: ((AV.ref 586 0) :: ((AV.str x7x0x21) :: []))))))))))))) :: ((580, (Ob.arr (Ty.pair Ty.str Ty.str) 0 false x7x0x22)) :: ((586, (Ob.arr (Ty.pair Ty.str Ty.str) 0 false x7x0x23)) :: ((704, (Ob.arr (Ty.pair Ty.str Ty.str) 0 false x7x0x24)) :: ((768, (Ob.arr (Ty.pair Ty.str Ty.str) 0 false x7x0x25)) :: ([] : (List (Nat × (Ob)))))))))))))
def sFre_G7 (n : Nat) (d : sFre_p7.D) : KT → Option Rs := sFre_E7 (sFre_F7 n d.1.1 d.1.2.1 d.1.2.2.2.2.2.2.2.1 d.2.1.1 d.2.1.2.1 d.2.1.2.2.1 d.2.1.2.2.2.1 d.2.1.2.2.2.2.1 d.2.1.2.2.2.2.2.1 d.2.1.2.2.2.2.2.2.1 d.2.1.2.2.2.2.2.2.2.1 d.2.1.2.2.2.2.2.2.2.2.1 d.2.1.2.2.2.2.2.2.2.2.2.1 d.2.1.2.2.2.2.2.2.2.2.2.2.1 d.2.2.1.1 d.2.2.1.2.1 d.2.2.1.2.2.1 d.2.2.1.2.2.2.2.1 d.2.2.1.2.2.2.2.2.1 d.2.2.1.2.2.2.2.2.2.1 d.2.2.1.2.2.2.2.2.2.2.1 d.2.2.1.2.2.2.2.2.2.2.2.1 d.2.2.1.2.2.2.2.2.2.2.2.2.2.1 d.2.2.2.1 d.2.2.2.2.1 d.2.2.2.2.2.1 d.2.2.2.2.2.2.1 d.2.2.2.2.2.2.2.1)
def sFre_L (N : Nat) : Lam := lamOf [⟨7, sFre_p7, sFre_G7 N⟩]
theorem sFre_ok7 (N : Nat) : OkL Kx sFre_C.s sFre_O 0 N (sFre_L N) sFre_b7 := okL sFre_p7 (sFre_G7) (fun d kR => sFre_E7 (sFre_T7 d.1.1 d.1.2.1 d.1.2.2.2.2.2.2.2.1 d.2.1.1 d.2.1.2.1 d.2.1.2.2.1 d.2.1.2.2.2.1 d.2.1.2.2.2.2.1 d.2.1.2.2.2.2.2.1 d.2.1.2.2.2.2.2.2.1 d.2.1.2.2.2.2.2.2.2.1 d.2.1.2.2.2.2.2.2.2.2.1 d.2.1.2.2.2.2.2.2.2.2.2.1 d.2.1.2.2.2.2.2.2.2.2.2.2.1 d.2.2.1.1 d.2.2.1.2.1 d.2.2.1.2.2.1 d.2.2.1.2.2.2.2.1 d.2.2.1.2.2.2.2.2.1 d.2.2.1.2.2.2.2.2.2.1 d.2.2.1.2.2.2.2.2.2.2.1 d.2.2.1.2.2.2.2.2.2.2.2.1 d.2.2.1.2.2.2.2.2.2.2.2.2.2.1 d.2.2.2.1 d.2.2.2.2.1 d.2.2.2.2.2.1 d.2.2.2.2.2.2.1 d.2.2.2.2.2.2.2.1 (fun v7x0 v7x1 v7x2 v7x3 v7x4 v7x5 v7x6 v7x7 v7x8 v7x9 v7x10 v7x11 v7x12 v7x13 v7x14 v7x15 v7x16 v7x17 v7x18 v7x19 v7x20 v7x21 v7x22 v7x23 v7x24 v7x25 v7x26 v7x27 => kR ((v7x0, v7x1, (), (), (), (), (), v7x2, ()), ((v7x3, v7x4, v7x5, v7x6, v7x7, v7x8, v7x9, v7x10, v7x11, v7x12, v7x13, ()), (v7x14, v7x15, v7x16, (), v7x17, v7x18, v7x19, v7x20, v7x21, (), v7x22, ()), v7x23, v7x24, v7x25, v7x26, v7x27, ()))))) (fun _ _ => by kernel_rfl) (fun _ _ _ => by kernel_rfl) (fun _ _ => by kernel_rfl) (fun _ _ _ _ => by kernel_rfl) (okEach (l' := []) (by kernel_rfl) trivial)
def sFre_run (N : Nat) (ur : Bytes) (t1 t2 : Int) (ak : List Fd) (me ta : Bytes) (st : Int) (re : Bytes) (ba : Bool) (fs : List Fd) (bo : Bytes) (me2 ta2 : Bytes) (st2 : Int) (re2 : Bytes) (ba2 : Bool) (fs2 : List Fd) (bo2 : Bytes) (n1 n2 : Int) : Option Rs := (bif (isM ur) then (bif (!(entP (ur, (t1, (t2, (ak, (me, (ta, (st, (re, (ba, (fs, bo)))))))))))) then (some ((AV.tup ((AV.agg ((AV.str ([] : Bytes)) :: ((AV.int .i64 0) :: ((AV.int .i64 0) :: ((AV.ref 0 0) :: ((AV.str ([] : Bytes)) :: ((AV.str ([] : Bytes)) :: ((AV.int .i64 0) :: ((AV.str ([] : Bytes)) :: ((AV.bool false) :: ((AV.ref 1 0) :: ((AV.str ([] : Bytes)) :: [])))))))))))) :: ((AV.bool false) :: []))), ((Ob.arr (Ty.pair Ty.str Ty.str) 0 false ([] : (List Fd))) :: ((Ob.arr (Ty.pair Ty.str Ty.str) 0 false ([] : (List Fd))) :: [])))) else (bif (!(msgOkP me2 ta2 st2 re2 ba2 fs2 bo2)) then (some ((AV.tup ((AV.agg ((AV.str ([] : Bytes)) :: ((AV.int .i64 0) :: ((AV.int .i64 0) :: ((AV.ref 0 0) :: ((AV.str ([] : Bytes)) :: ((AV.str ([] : Bytes)) :: ((AV.int .i64 0) :: ((AV.str ([] : Bytes)) :: ((AV.bool false) :: ((AV.ref 1 0) :: ((AV.str ([] : Bytes)) :: [])))))))))))) :: ((AV.bool false) :: []))), ((Ob.arr (Ty.pair Ty.str Ty.str) 0 false ([] : (List Fd))) :: ((Ob.arr (Ty.pair Ty.str Ty.str) 0 false ([] : (List Fd))) :: [])))) else (bif (!(decide (st2 = 304))) then (some ((AV.tup ((AV.agg ((AV.str ([] : Bytes)) :: ((AV.int .i64 0) :: ((AV.int .i64 0) :: ((AV.ref 0 0) :: ((AV.str ([] : Bytes)) :: ((AV.str ([] : Bytes)) :: ((AV.int .i64 0) :: ((AV.str ([] : Bytes)) :: ((AV.bool false) :: ((AV.ref 1 0) :: ((AV.str ([] : Bytes)) :: [])))))))))))) :: ((AV.bool false) :: []))), ((Ob.arr (Ty.pair Ty.str Ty.str) 0 false ([] : (List Fd))) :: ((Ob.arr (Ty.pair Ty.str Ty.str) 0 false ([] : (List Fd))) :: [])))) else (bif (decide (((0 + fs.length) * 32) ≤ 140737488355328)) then (sFre_F7 N n1 n2 0 ur t1 t2 ak me ta st re ba fs bo ([] : Bytes) 0 0 ([] : Bytes) ([] : Bytes) 0 ([] : Bytes) false ([] : Bytes) ([] : (List Fd)) ([] : (List Fd)) fs ([] : (List Fd)) (e2eP fs2) (fun x7x0x0 => (fun x7x0x1 => (fun x7x0x2 => (fun x7x0x3 => (fun x7x0x4 => (fun x7x0x5 => (fun x7x0x6 => (fun x7x0x7 => (fun x7x0x8 => (fun x7x0x9 => (fun x7x0x10 => (fun x7x0x11 => (fun x7x0x12 => (fun x7x0x13 => (fun x7x0x14 => (fun x7x0x15 => (fun x7x0x16 => (fun x7x0x17 => (fun x7x0x18 => (fun x7x0x19 => (fun x7x0x20 => (fun x7x0x21 => (fun x7x0x22 => (fun x7x0x23 => (fun x7x0x24 => (fun x7x0x25 => (bif (decide (((0 + x7x0x5.length) * 32) ≤ 140737488355328)) then (bif (decide (((x7x0x24.length + x7x0x25.length) * 32) ≤ 140737488355328)) then (bif (isM x7x0x2) then (bif (!(entP (x7x0x2, (x7x0x0, (x7x0x1, (x7x0x5, (x7x0x6, (x7x0x7, (x7x0x8, (x7x0x9, (x7x0x10, ((x7x0x24 ++ x7x0x25), x7x0x12)))))))))))) then (some ((AV.tup ((AV.agg ((AV.str ([] : Bytes)) :: ((AV.int .i64 0) :: ((AV.int .i64 0) :: ((AV.ref 0 0) :: ((AV.str ([] : Bytes)) :: ((AV.str ([] : Bytes)) :: ((AV.int .i64 0) :: ((AV.str ([] : Bytes)) :: ((AV.bool false) :: ((AV.ref 1 0) :: ((AV.str ([] : Bytes)) :: [])))))))))))) :: ((AV.bool false) :: []))), ((Ob.arr (Ty.pair Ty.str Ty.str) 0 false ([] : (List Fd))) :: ((Ob.arr (Ty.pair Ty.str Ty.str) 0 false ([] : (List Fd))) :: [])))) else (some ((AV.tup ((AV.agg ((AV.str x7x0x2) :: ((AV.int .i64 x7x0x0) :: ((AV.int .i64 x7x0x1) :: ((AV.ref 0 0) :: ((AV.str x7x0x6) :: ((AV.str x7x0x7) :: ((AV.int .i64 x7x0x8) :: ((AV.str x7x0x9) :: ((AV.bool x7x0x10) :: ((AV.ref 1 0) :: ((AV.str x7x0x12) :: [])))))))))))) :: ((AV.bool true) :: []))), ((Ob.arr (Ty.pair Ty.str Ty.str) 0 false x7x0x5) :: ((Ob.arr (Ty.pair Ty.str Ty.str) 0 false (x7x0x24 ++ x7x0x25)) :: []))))) else (none)) else (none)) else (none))))))))))))))))))))))))))))) else (none))))) else (none))
def sFre_sOf (φ : Bytes → Int → Int → (List Fd) → Bytes → Bytes → Int → Bytes → Bool → (List Fd) → Bytes → Bytes → Bytes → Int → Bytes → Bool → (List Fd) → Bytes → Int → Int → Br) : List AV → List Ob → Br
  | [.agg [.str ur, .int .i64 t1, .int .i64 t2, .sh (.pair .str .str) ak, .str me, .str ta, .int .i64 st, .str re, .bool ba, .sh (.pair .str .str) fs, .str bo], .agg [.str me2, .str ta2, .int .i64 st2, .str re2, .bool ba2, .sh (.pair .str .str) fs2, .str bo2], .int .i64 n1, .int .i64 n2], [] => φ ur t1 t2 ak me ta st re ba fs bo me2 ta2 st2 re2 ba2 fs2 bo2 n1 n2
  | _, _ => .fail
theorem sFre_okOf {φ : Bytes → Int → Int → (List Fd) → Bytes → Bytes → Int → Bytes → Bool → (List Fd) → Bytes → Bytes → Bytes → Int → Bytes → Bool → (List Fd) → Bytes → Int → Int → Br} (fu : Bytes → Int → Int → (List Fd) → Bytes → Bytes → Int → Bytes → Bool → (List Fd) → Bytes → Bytes → Bytes → Int → Bytes → Bool → (List Fd) → Bytes → Int → Int → Nat) (hv : ∀ ur t1 t2 ak me ta st re ba fs bo me2 ta2 st2 re2 ba2 fs2 bo2 n1 n2 res_, (φ ur t1 t2 ak me ta st re ba fs bo me2 ta2 st2 re2 ba2 fs2 bo2 n1 n2).val = some res_ → sFre_run (fu ur t1 t2 ak me ta st re ba fs bo me2 ta2 st2 re2 ba2 fs2 bo2 n1 n2) ur t1 t2 ak me ta st re ba fs bo me2 ta2 st2 re2 ba2 fs2 bo2 n1 n2 = some res_) : Sound Kx 28 (sFre_sOf φ) := sound_lp (C := sFre_C) (O := sFre_O) Tryz.func28 (by kernel_rfl) fun args objs => by
  unfold sFre_sOf; split
  · rename_i ur t1 t2 ak me ta st re ba fs bo me2 ta2 st2 re2 ba2 fs2 bo2 n1 n2; exact .inr fun _ hyp_ => run_lp (Λ := sFre_L (fu ur t1 t2 ak me ta st re ba fs bo me2 ta2 st2 re2 ba2 fs2 bo2 n1 n2)) (by kernel_rfl) (okEach (l' := [sFre_b7]) (by kernel_rfl) ⟨sFre_ok7 _, trivial⟩) (by kernel_rfl) (hv ur t1 t2 ak me ta st re ba fs bo me2 ta2 st2 re2 ba2 fs2 bo2 n1 n2 _ hyp_)
  · exact .inl rfl

def newP (l : List Fd) : List Fd := l.filter fun f => !contP f.1
theorem iFre_loop (v0 v1 : Int) (v4 : Bytes) (v5 : Int) (v6 : Int) (v7 : List Fd) (v8 : Bytes) (v9 : Bytes) (v10 : Int) (v11 : Bytes) (v12 : Bool) (v13 : List Fd) (v14 : Bytes) (v15 : Bytes) (v16 : Int) (v17 : Int) (v18 : Bytes) (v19 : Bytes) (v20 : Int) (v21 : Bytes) (v22 : Bool) (v23 : Bytes) (v24 : List Fd) (v25 : List Fd) (l : List Fd) (hl : l.length ≤ 20) (k) : ∀ (r : List Fd) (i : Int) (n : Nat) (out : List Fd), At l i r → r.length < n → (∀ f ∈ r, fdOk f = true) → out.length + r.length ≤ 20 →
    iFre_F5 n v0 v1 (l.length : Int) i v4 v5 v6 v7 v8 v9 v10 v11 v12 v13 v14 v15 v16 v17 v18 v19 v20 v21 v22 v23 v24 v25 out l k = k v0 v1 v4 v5 v6 v7 v8 v9 v10 v11 v12 v13 v14 v15 v16 v17 v18 v19 v20 v21 v22 v23 v24 v25 (out ++ newP r) := by
  intro r; induction r with
  | nil => intro i n out h hn hf ho; obtain ⟨n, rfl⟩ := fuel hn; unfold iFre_F5 iFre_T5; rw [h.dge, cond_false]; simp [newP]
  | cons f r ih =>
    intro i n out h hn hf ho; obtain ⟨n, rfl⟩ := fuel hn
    simp only [List.length_cons] at hn ho
    have hm1 := (fdOk_isM (hf f (List.mem_cons_self ..))).1
    have hr := fun x hx => hf x (List.mem_cons_of_mem _ hx)
    unfold iFre_F5 iFre_T5
    simp only [h.dlt, h.dnn, h.get, h.next (by omega), hm1, cond_true]
    unfold newP at ih ⊢
    rw [List.filter_cons]
    unfold contP at ih ⊢
    cases decide (8 ≤ ((foldP f.1).length : Int))
    · simp only [cond_false, Bool.false_and, Bool.not_false, if_true]
      rw [apF out _ (by omega), cond_true, ih (i + 1) n _ h.step (by omega) hr (by rw [List.length_append, List.length_set, List.length_replicate]; omega)]
      simp
    · simp only [cond_true, Bool.true_and]
      cases decide (cut (foldP f.1) 0 8 = [99, 111, 110, 116, 101, 110, 116, 45])
      · simp only [Bool.not_false, cond_true, if_true]
        rw [apF out _ (by omega), cond_true, ih (i + 1) n _ h.step (by omega) hr (by rw [List.length_append, List.length_set, List.length_replicate]; omega)]
        simp
      · simp only [Bool.not_true, cond_false]
        exact ih (i + 1) n _ h.step (by omega) hr (by omega)
theorem sFre_loop (v0 v1 : Int) (v3 : Bytes) (v4 : Int) (v5 : Int) (v6 : List Fd) (v7 : Bytes) (v8 : Bytes) (v9 : Int) (v10 : Bytes) (v11 : Bool) (v12 : List Fd) (v13 : Bytes) (v14 : Bytes) (v15 : Int) (v16 : Int) (v17 : Bytes) (v18 : Bytes) (v19 : Int) (v20 : Bytes) (v21 : Bool) (v22 : Bytes) (v23 : List Fd) (v24 : List Fd) (l : List Fd) (hl : l.length ≤ 20) (k) : ∀ (r : List Fd) (i : Int) (n : Nat) (fd out : List Fd), At l i r → r.length < n → (∀ f ∈ r, fdOk f = true) → out.length + r.length ≤ 20 →
    sFre_F7 n v0 v1 i v3 v4 v5 v6 v7 v8 v9 v10 v11 v12 v13 v14 v15 v16 v17 v18 v19 v20 v21 v22 v23 v24 fd out l k = k v0 v1 v3 v4 v5 v6 v7 v8 v9 v10 v11 v12 v13 v14 v15 v16 v17 v18 v19 v20 v21 v22 v23 v24 ((newP r).foldl (fun a f => withP a f.1) fd) (out ++ newP r) := by
  intro r; induction r with
  | nil => intro i n fd out h hn hf ho; obtain ⟨n, rfl⟩ := fuel hn; unfold sFre_F7 sFre_T7; rw [h.dge, cond_false]; simp [newP]
  | cons f r ih =>
    intro i n fd out h hn hf ho; obtain ⟨n, rfl⟩ := fuel hn
    simp only [List.length_cons] at hn ho
    have hm1 := (fdOk_isM (hf f (List.mem_cons_self ..))).1
    have hr := fun x hx => hf x (List.mem_cons_of_mem _ hx)
    unfold sFre_F7 sFre_T7
    simp only [h.dlt, h.dnn, h.get, h.next (by omega), hm1, cond_true]
    unfold newP at ih ⊢
    rw [List.filter_cons]
    cases contP f.1
    · simp only [Bool.not_false, cond_true, if_true]
      rw [apF out _ (by omega), cond_true, ih (i + 1) n _ _ h.step (by omega) hr (by rw [List.length_append, List.length_set, List.length_replicate]; omega)]
      simp
    · simp only [Bool.not_true, cond_false]
      exact ih (i + 1) n _ _ h.step (by omega) hr (by omega)
theorem rest_cons (l : List Fd) (f : Fd) (ns : List Fd) : restP (l.filter fun g => !sameP g.1 f.1) ns = restP l (f :: ns) := by
  unfold restP
  rw [List.filter_filter]
  congr 1
  funext g
  unfold anyN
  rw [List.any_cons]
  unfold sameP
  rw [show decide (foldP f.1 = foldP g.1) = decide (foldP g.1 = foldP f.1) from by rw [decide_eq_decide]; exact eq_comm]
  cases decide (foldP g.1 = foldP f.1) <;> simp
theorem rest_fold : ∀ (ns l : List Fd), fdsOk l = true → ns.foldl (fun a f => withP a f.1) l = restP l ns
  | [], l, _ => (List.filter_eq_self.2 fun f _ => rfl).symm
  | f :: ns, l, h => by
    show ns.foldl (fun a f => withP a f.1) (withP l f.1) = _
    have e : withP l f.1 = l.filter fun g => !sameP g.1 f.1 := by unfold withP; rw [h]; rfl
    rw [e, rest_fold ns _ (fdsOk_of h _), rest_cons]
theorem e2e_mem (l : List Fd) : (e2eP l).length ≤ 20 ∧ ∀ f ∈ e2eP l, fdOk f = true := by
  unfold e2eP
  cases h : fdsOk l
  · exact ⟨Nat.zero_le _, fun f hf => by cases hf⟩
  · exact fdsOk_mem (fdsOk_of h _)
theorem new_mem (l : List Fd) : (newP (e2eP l)).length ≤ 20 ∧ smF (newP (e2eP l)) = true := by
  obtain ⟨h1, h2⟩ := e2e_mem l
  have hl : (newP (e2eP l)).length ≤ 20 := Nat.le_trans (List.length_filter_le ..) h1
  refine ⟨hl, ?_⟩
  unfold smF
  rw [Bool.and_eq_true, decide_eq_true_eq, List.all_eq_true]
  refine ⟨by omega, fun f hf => ?_⟩
  have := fdOk_isM (h2 f ((List.mem_filter.1 hf).1))
  unfold isMF; rw [this.1, this.2]; rfl
def freE (e : En) (m : Mg) (n1 n2 : Int) : En := (e.1, n1, n2, e.2.2.2.1, e.2.2.2.2.1, e.2.2.2.2.2.1, e.2.2.2.2.2.2.1, e.2.2.2.2.2.2.2.1, e.2.2.2.2.2.2.2.2.1, restP e.2.2.2.2.2.2.2.2.2.1 (newP (e2eP m.2.2.2.2.2.1)) ++ newP (e2eP m.2.2.2.2.2.1), e.2.2.2.2.2.2.2.2.2.2)
def freOk (e : En) (m : Mg) (n1 n2 : Int) : Bool := entP e && (msgOkP m.1 m.2.1 m.2.2.1 m.2.2.2.1 m.2.2.2.2.1 m.2.2.2.2.2.1 m.2.2.2.2.2.2 && (decide (m.2.2.1 = 304) && entP (freE e m n1 n2)))
def freR (e : En) (m : Mg) (n1 n2 : Int) : En := bif freOk e m n1 n2 then freE e m n1 n2 else en0
def enA (e : En) : AV := .agg [.str e.1, .int .i64 e.2.1, .int .i64 e.2.2.1, .ref 0 0, .str e.2.2.2.2.1, .str e.2.2.2.2.2.1, .int .i64 e.2.2.2.2.2.2.1, .str e.2.2.2.2.2.2.2.1, .bool e.2.2.2.2.2.2.2.2.1, .ref 1 0, .str e.2.2.2.2.2.2.2.2.2.2]
def enO (e : En) : List Ob := [.arr (.pair .str .str) 0 false e.2.2.2.1, .arr (.pair .str .str) 0 false e.2.2.2.2.2.2.2.2.2.1]
def fre_s : List AV → List Ob → Br
  | [.agg [.str ur, .int .i64 t1, .int .i64 t2, .sh (.pair .str .str) ak, .str me, .str ta, .int .i64 st, .str re, .bool ba, .sh (.pair .str .str) fs, .str bo], .agg [.str me2, .str ta2, .int .i64 st2, .str re2, .bool ba2, .sh (.pair .str .str) fs2, .str bo2], .int .i64 n1, .int .i64 n2], [] =>
    .ite (isM ur) (.ret (.tup [enA (freR (ur, t1, t2, ak, me, ta, st, re, ba, fs, bo) (me2, ta2, st2, re2, ba2, fs2, bo2) n1 n2), .bool (freOk (ur, t1, t2, ak, me, ta, st, re, ba, fs, bo) (me2, ta2, st2, re2, ba2, fs2, bo2) n1 n2)]) (enO (freR (ur, t1, t2, ak, me, ta, st, re, ba, fs, bo) (me2, ta2, st2, re2, ba2, fs2, bo2) n1 n2))) .fail
  | _, _ => .fail
theorem ent_fds {e : En} (h : entP e = true) : fdsOk e.2.2.2.1 = true ∧ fdsOk e.2.2.2.2.2.2.2.2.2.1 = true := by
  unfold entP at h
  simp only [Bool.and_eq_true] at h
  obtain ⟨⟨⟨⟨_, h1⟩, h2⟩, _⟩, _⟩ := h
  obtain ⟨h3, _⟩ := msgOk_more h2
  unfold hdG at h3
  simp only [Bool.and_eq_true] at h3
  exact ⟨h1, h3.1.2⟩
theorem iFre_okQ : Sound Kx 30 fre_s := by
  refine (iFre_okOf (φ := fun ur t1 t2 ak me ta st re ba fs bo me2 ta2 st2 re2 ba2 fs2 bo2 n1 n2 => fre_s [.agg [.str ur, .int .i64 t1, .int .i64 t2, .sh (.pair .str .str) ak, .str me, .str ta, .int .i64 st, .str re, .bool ba, .sh (.pair .str .str) fs, .str bo], .agg [.str me2, .str ta2, .int .i64 st2, .str re2, .bool ba2, .sh (.pair .str .str) fs2, .str bo2], .int .i64 n1, .int .i64 n2] []) (fun ur t1 t2 ak me ta st re ba fs bo me2 ta2 st2 re2 ba2 fs2 bo2 n1 n2 => (e2eP fs2).length + 1) fun ur t1 t2 ak me ta st re ba fs bo me2 ta2 st2 re2 ba2 fs2 bo2 n1 n2 r h => ?_).of fun args objs r h => ?_
  · unfold fre_s at h; obtain ⟨h1, h2⟩ := ite_some h
    cases h2
    unfold iFre_run
    rw [h1, cond_true]
    unfold freR freOk
    cases c1 : entP (ur, t1, t2, ak, me, ta, st, re, ba, fs, bo)
    · rfl
    cases c2 : msgOkP me2 ta2 st2 re2 ba2 fs2 bo2
    · rfl
    by_cases c3 : st2 = 304
    case neg => rw [decide_eq_false c3]; rfl
    rw [decide_eq_true c3]
    obtain ⟨g1, g2⟩ := e2e_mem fs2
    obtain ⟨g3, g4⟩ := new_mem fs2
    obtain ⟨g5, g6⟩ := ent_fds c1
    have g5' := (fdsOk_mem g5).1
    have g6' := (fdsOk_mem g6).1
    simp only at g5' g6' g6
    have g7 : (restP fs (newP (e2eP fs2))).length ≤ 20 := Nat.le_trans (List.length_filter_le ..) g6'
    refine (iFre_loop _ _ _ _ _ _ _ _ _ _ _ _ _ _ _ _ _ _ _ _ _ _ _ _ (e2eP fs2) g1 _ (e2eP fs2) 0 _ [] (At.start _) (by omega) g2 (by rw [List.length_nil]; omega)).trans ?_
    rw [List.nil_append]
    rw [show decide (ak.length ≤ 1000000) = true from decide_eq_true (by omega), show decide (fs.length ≤ 1000000) = true from decide_eq_true (by omega), g4, g6]
    simp only [cond_true]
    rw [show decide (((restP fs (newP (e2eP fs2))).length + (newP (e2eP fs2)).length) * 32 ≤ 140737488355328) = true from decide_eq_true (by omega), h1]
    simp only [cond_true]
    show (bif (!entP (freE (ur, t1, t2, ak, me, ta, st, re, ba, fs, bo) (me2, ta2, st2, re2, ba2, fs2, bo2) n1 n2)) then _ else _) = _
    cases entP (freE (ur, t1, t2, ak, me, ta, st, re, ba, fs, bo) (me2, ta2, st2, re2, ba2, fs2, bo2) n1 n2) <;> rfl
  · unfold fre_s at h; split at h
    · exact h
    · cases h
theorem sFre_okQ : Sound Kx 28 fre_s := by
  refine (sFre_okOf (φ := fun ur t1 t2 ak me ta st re ba fs bo me2 ta2 st2 re2 ba2 fs2 bo2 n1 n2 => fre_s [.agg [.str ur, .int .i64 t1, .int .i64 t2, .sh (.pair .str .str) ak, .str me, .str ta, .int .i64 st, .str re, .bool ba, .sh (.pair .str .str) fs, .str bo], .agg [.str me2, .str ta2, .int .i64 st2, .str re2, .bool ba2, .sh (.pair .str .str) fs2, .str bo2], .int .i64 n1, .int .i64 n2] []) (fun ur t1 t2 ak me ta st re ba fs bo me2 ta2 st2 re2 ba2 fs2 bo2 n1 n2 => (e2eP fs2).length + 1) fun ur t1 t2 ak me ta st re ba fs bo me2 ta2 st2 re2 ba2 fs2 bo2 n1 n2 r h => ?_).of fun args objs r h => ?_
  · unfold fre_s at h; obtain ⟨h1, h2⟩ := ite_some h
    cases h2
    unfold sFre_run
    rw [h1, cond_true]
    unfold freR freOk
    cases c1 : entP (ur, t1, t2, ak, me, ta, st, re, ba, fs, bo)
    · rfl
    cases c2 : msgOkP me2 ta2 st2 re2 ba2 fs2 bo2
    · rfl
    by_cases c3 : st2 = 304
    case neg => rw [decide_eq_false c3]; rfl
    rw [decide_eq_true c3]
    obtain ⟨g1, g2⟩ := e2e_mem fs2
    obtain ⟨g3, g4⟩ := new_mem fs2
    obtain ⟨g5, g6⟩ := ent_fds c1
    have g5' := (fdsOk_mem g5).1
    have g6' := (fdsOk_mem g6).1
    simp only at g5' g6' g6
    have g7 : (restP fs (newP (e2eP fs2))).length ≤ 20 := Nat.le_trans (List.length_filter_le ..) g6'
    simp only [Bool.not_true, cond_false]
    rw [show decide ((0 + fs.length) * 32 ≤ 140737488355328) = true from decide_eq_true (by omega), cond_true]
    refine (sFre_loop _ _ _ _ _ _ _ _ _ _ _ _ _ _ _ _ _ _ _ _ _ _ _ _ (e2eP fs2) g1 _ (e2eP fs2) 0 ((e2eP fs2).length + 1) fs [] (At.start _) (by omega) g2 (by rw [List.length_nil]; omega)).trans ?_
    rw [List.nil_append]
    rw [rest_fold _ _ g6, show decide ((0 + ak.length) * 32 ≤ 140737488355328) = true from decide_eq_true (by omega), show decide (((restP fs (newP (e2eP fs2))).length + (newP (e2eP fs2)).length) * 32 ≤ 140737488355328) = true from decide_eq_true (by omega), h1]
    simp only [cond_true]
    show (bif (!entP (freE (ur, t1, t2, ak, me, ta, st, re, ba, fs, bo) (me2, ta2, st2, re2, ba2, fs2, bo2) n1 n2)) then _ else _) = _
    cases entP (freE (ur, t1, t2, ak, me, ta, st, re, ba, fs, bo) (me2, ta2, st2, re2, ba2, fs2, bo2) n1 n2) <;> rfl
  · unfold fre_s at h; split at h
    · exact h
    · cases h

def heldMsg_C : SC := [⟨15, _, heldFieldS_okQ⟩]
def heldMsg_br (me2 ta2 : Bytes) (st2 : Int) (re2 : Bytes) (ba2 : Bool) (fs2 : List Fd) (bo2 : Bytes) (k : Int) : Br := (Br.ite (((decide (0 < k)) && (decide ((k + (2 * (fs2.length : Int))) ≤ 100000000))) && (decide (fs2 = (marksF fs2.length k)))) (Br.ite (decide ((k + (2 * (fs2.length : Int))) < 0)) (Br.ret (AV.int .i64 (-1)) []) (Br.ret (AV.int .i64 (k + (2 * (fs2.length : Int)))) [])) Br.fail)
def heldMsg_s : List AV → List Ob → Br
  | [.agg [.str me2, .str ta2, .int .i64 st2, .str re2, .bool ba2, .sh (.pair .str .str) fs2, .str bo2], .int .i64 k], [] => heldMsg_br me2 ta2 st2 re2 ba2 fs2 bo2 k
  | _, _ => .fail
theorem heldMsg_ok : Sound Kx 77 heldMsg_s := sound_br (C := heldMsg_C) (O := O0) Tryz.func77 (by kernel_rfl) fun args objs => by
  unfold heldMsg_s; split
  · exact .inr (by kernel_rfl)
  · exact .inl rfl

def heldEntry_C : SC := [⟨15, _, heldFieldS_okQ⟩, ⟨77, _, heldMsg_ok⟩]
def heldEntry_br (ur : Bytes) (t1 t2 : Int) (ak : List Fd) (me ta : Bytes) (st : Int) (re : Bytes) (ba : Bool) (fs : List Fd) (bo : Bytes) (k : Int) : Br := (Br.ite (((decide (0 < k)) && (decide ((k + (2 * (ak.length : Int))) ≤ 100000000))) && (decide (ak = (marksF ak.length k)))) (Br.ite (decide ((k + (2 * (ak.length : Int))) < 0)) (Br.ret (AV.int .i64 (-1)) []) (Br.ite (((decide (0 < (k + (2 * (ak.length : Int))))) && (decide (((k + (2 * (ak.length : Int))) + (2 * (fs.length : Int))) ≤ 100000000))) && (decide (fs = (marksF fs.length (k + (2 * (ak.length : Int))))))) (Br.ite (decide (((k + (2 * (ak.length : Int))) + (2 * (fs.length : Int))) < 0)) (Br.ret (AV.int .i64 (-1)) []) (Br.ite (decide (((k + (2 * (ak.length : Int))) + (2 * (fs.length : Int))) < 0)) (Br.ret (AV.int .i64 (-1)) []) (Br.ret (AV.int .i64 ((k + (2 * (ak.length : Int))) + (2 * (fs.length : Int)))) []))) Br.fail)) Br.fail)
def heldEntry_s : List AV → List Ob → Br
  | [.agg [.str ur, .int .i64 t1, .int .i64 t2, .sh (.pair .str .str) ak, .str me, .str ta, .int .i64 st, .str re, .bool ba, .sh (.pair .str .str) fs, .str bo], .int .i64 k], [] => heldEntry_br ur t1 t2 ak me ta st re ba fs bo k
  | _, _ => .fail
theorem heldEntry_ok : Sound Kx 33 heldEntry_s := sound_br (C := heldEntry_C) (O := O0) Tryz.func33 (by kernel_rfl) fun args objs => by
  unfold heldEntry_s; split
  · exact .inr (by kernel_rfl)
  · exact .inl rfl

def lFre_O : Opt := { mutF := [14,13,32] }
def lFre_C : SC := [⟨7, _, szEntry_okQ⟩, ⟨27, _, szMsg_okQ⟩, ⟨9, _, toEntry_ok⟩, ⟨29, _, toMsg_ok⟩, ⟨12, _, eqEntry_okQ⟩, ⟨31, _, eqMsg_okQ⟩, ⟨13, _, markEntry_okQ⟩, ⟨32, _, markMsg_ok⟩, ⟨33, _, heldEntry_ok⟩, ⟨30, _, iFre_okQ⟩, ⟨28, _, sFre_okQ⟩]
abbrev lFre_c1 (ur : Bytes) (t1 t2 : Int) (ak : List Fd) (me ta : Bytes) (st : Int) (re : Bytes) (ba : Bool) (fs : List Fd) (bo : Bytes) (me2 ta2 : Bytes) (st2 : Int) (re2 : Bytes) (ba2 : Bool) (fs2 : List Fd) (bo2 : Bytes) (n1 n2 : Int) := ((freR (ur, (t1, (t2, (ak, (me, (ta, (st, (re, (ba, (fs, bo)))))))))) (me2, (ta2, (st2, (re2, (ba2, (fs2, bo2)))))) n1 n2).1, ((freR (ur, (t1, (t2, (ak, (me, (ta, (st, (re, (ba, (fs, bo)))))))))) (me2, (ta2, (st2, (re2, (ba2, (fs2, bo2)))))) n1 n2).2.1, ((freR (ur, (t1, (t2, (ak, (me, (ta, (st, (re, (ba, (fs, bo)))))))))) (me2, (ta2, (st2, (re2, (ba2, (fs2, bo2)))))) n1 n2).2.2.1, ((freR (ur, (t1, (t2, (ak, (me, (ta, (st, (re, (ba, (fs, bo)))))))))) (me2, (ta2, (st2, (re2, (ba2, (fs2, bo2)))))) n1 n2).2.2.2.1, ((freR (ur, (t1, (t2, (ak, (me, (ta, (st, (re, (ba, (fs, bo)))))))))) (me2, (ta2, (st2, (re2, (ba2, (fs2, bo2)))))) n1 n2).2.2.2.2.1, ((freR (ur, (t1, (t2, (ak, (me, (ta, (st, (re, (ba, (fs, bo)))))))))) (me2, (ta2, (st2, (re2, (ba2, (fs2, bo2)))))) n1 n2).2.2.2.2.2.1, ((freR (ur, (t1, (t2, (ak, (me, (ta, (st, (re, (ba, (fs, bo)))))))))) (me2, (ta2, (st2, (re2, (ba2, (fs2, bo2)))))) n1 n2).2.2.2.2.2.2.1, ((freR (ur, (t1, (t2, (ak, (me, (ta, (st, (re, (ba, (fs, bo)))))))))) (me2, (ta2, (st2, (re2, (ba2, (fs2, bo2)))))) n1 n2).2.2.2.2.2.2.2.1, ((freR (ur, (t1, (t2, (ak, (me, (ta, (st, (re, (ba, (fs, bo)))))))))) (me2, (ta2, (st2, (re2, (ba2, (fs2, bo2)))))) n1 n2).2.2.2.2.2.2.2.2.1, ((freR (ur, (t1, (t2, (ak, (me, (ta, (st, (re, (ba, (fs, bo)))))))))) (me2, (ta2, (st2, (re2, (ba2, (fs2, bo2)))))) n1 n2).2.2.2.2.2.2.2.2.2.1, (freR (ur, (t1, (t2, (ak, (me, (ta, (st, (re, (ba, (fs, bo)))))))))) (me2, (ta2, (st2, (re2, (ba2, (fs2, bo2)))))) n1 n2).2.2.2.2.2.2.2.2.2.2))))))))))
abbrev lFre_c2 (ur : Bytes) (t1 t2 : Int) (ak : List Fd) (me ta : Bytes) (st : Int) (re : Bytes) (ba : Bool) (fs : List Fd) (bo : Bytes) (me2 ta2 : Bytes) (st2 : Int) (re2 : Bytes) (ba2 : Bool) (fs2 : List Fd) (bo2 : Bytes) (n1 n2 : Int) := ((1 + (2 * ((List.length (marksF (List.length (freR (ur, (t1, (t2, (ak, (me, (ta, (st, (re, (ba, (fs, bo)))))))))) (me2, (ta2, (st2, (re2, (ba2, (fs2, bo2)))))) n1 n2).2.2.2.1) 1)) : Int))) + (2 * ((List.length (marksF (List.length (freR (ur, (t1, (t2, (ak, (me, (ta, (st, (re, (ba, (fs, bo)))))))))) (me2, (ta2, (st2, (re2, (ba2, (fs2, bo2)))))) n1 n2).2.2.2.2.2.2.2.2.2.1) (1 + (2 * ((List.length (freR (ur, (t1, (t2, (ak, (me, (ta, (st, (re, (ba, (fs, bo)))))))))) (me2, (ta2, (st2, (re2, (ba2, (fs2, bo2)))))) n1 n2).2.2.2.1) : Int))))) : Int)))
abbrev lFre_c3 (ur : Bytes) (t1 t2 : Int) (ak : List Fd) (me ta : Bytes) (st : Int) (re : Bytes) (ba : Bool) (fs : List Fd) (bo : Bytes) (me2 ta2 : Bytes) (st2 : Int) (re2 : Bytes) (ba2 : Bool) (fs2 : List Fd) (bo2 : Bytes) (n1 n2 : Int) := (List.length (freR (ur, (t1, (t2, (ak, (me, (ta, (st, (re, (ba, (fs, bo)))))))))) (me2, (ta2, (st2, (re2, (ba2, (fs2, bo2)))))) n1 n2).2.2.2.1)
abbrev lFre_c4 (ur : Bytes) (t1 t2 : Int) (ak : List Fd) (me ta : Bytes) (st : Int) (re : Bytes) (ba : Bool) (fs : List Fd) (bo : Bytes) (me2 ta2 : Bytes) (st2 : Int) (re2 : Bytes) (ba2 : Bool) (fs2 : List Fd) (bo2 : Bytes) (n1 n2 : Int) := (((decide (0 < (1 + (2 * ((List.length (marksF (lFre_c3 ur t1 t2 ak me ta st re ba fs bo me2 ta2 st2 re2 ba2 fs2 bo2 n1 n2) 1)) : Int))))) && (decide ((lFre_c2 ur t1 t2 ak me ta st re ba fs bo me2 ta2 st2 re2 ba2 fs2 bo2 n1 n2) ≤ 100000000))) && (decide ((marksF (List.length (freR (ur, (t1, (t2, (ak, (me, (ta, (st, (re, (ba, (fs, bo)))))))))) (me2, (ta2, (st2, (re2, (ba2, (fs2, bo2)))))) n1 n2).2.2.2.2.2.2.2.2.2.1) (1 + (2 * ((lFre_c3 ur t1 t2 ak me ta st re ba fs bo me2 ta2 st2 re2 ba2 fs2 bo2 n1 n2) : Int)))) = (marksF (List.length (marksF (List.length (freR (ur, (t1, (t2, (ak, (me, (ta, (st, (re, (ba, (fs, bo)))))))))) (me2, (ta2, (st2, (re2, (ba2, (fs2, bo2)))))) n1 n2).2.2.2.2.2.2.2.2.2.1) (1 + (2 * ((lFre_c3 ur t1 t2 ak me ta st re ba fs bo me2 ta2 st2 re2 ba2 fs2 bo2 n1 n2) : Int))))) (1 + (2 * ((List.length (marksF (lFre_c3 ur t1 t2 ak me ta st re ba fs bo me2 ta2 st2 re2 ba2 fs2 bo2 n1 n2) 1)) : Int)))))))
abbrev lFre_c5 (ur : Bytes) (t1 t2 : Int) (ak : List Fd) (me ta : Bytes) (st : Int) (re : Bytes) (ba : Bool) (fs : List Fd) (bo : Bytes) (me2 ta2 : Bytes) (st2 : Int) (re2 : Bytes) (ba2 : Bool) (fs2 : List Fd) (bo2 : Bytes) (n1 n2 : Int) := (((eqEb (lFre_c1 ur t1 t2 ak me ta st re ba fs bo me2 ta2 st2 re2 ba2 fs2 bo2 n1 n2) (lFre_c1 ur t1 t2 ak me ta st re ba fs bo me2 ta2 st2 re2 ba2 fs2 bo2 n1 n2)) && (decide ((lFre_c3 ur t1 t2 ak me ta st re ba fs bo me2 ta2 st2 re2 ba2 fs2 bo2 n1 n2) ≤ 1048576))) && (decide ((List.length (freR (ur, (t1, (t2, (ak, (me, (ta, (st, (re, (ba, (fs, bo)))))))))) (me2, (ta2, (st2, (re2, (ba2, (fs2, bo2)))))) n1 n2).2.2.2.2.2.2.2.2.2.1) ≤ 1048576)))
def lFre_br (ur : Bytes) (t1 t2 : Int) (ak : List Fd) (me ta : Bytes) (st : Int) (re : Bytes) (ba : Bool) (fs : List Fd) (bo : Bytes) (me2 ta2 : Bytes) (st2 : Int) (re2 : Bytes) (ba2 : Bool) (fs2 : List Fd) (bo2 : Bytes) (n1 n2 : Int) : Br := (Br.ite ((smE (ur, (t1, (t2, (ak, (me, (ta, (st, (re, (ba, (fs, bo))))))))))) && true) (Br.ite (decide ((szM (enW (ur, (t1, (t2, (ak, (me, (ta, (st, (re, (ba, (fs, bo))))))))))) 1048576) < 0)) (Br.ret (AV.bool true) []) (Br.ite ((smM me2 ta2 re2 fs2 bo2) && (okLeft (szM (enW (ur, (t1, (t2, (ak, (me, (ta, (st, (re, (ba, (fs, bo))))))))))) 1048576))) (Br.ite (decide ((szM (msgW me2 ta2 re2 fs2 bo2) (szM (enW (ur, (t1, (t2, (ak, (me, (ta, (st, (re, (ba, (fs, bo))))))))))) 1048576)) < 0)) (Br.ret (AV.bool true) []) (Br.ite (decide (ak.length ≤ 1048576)) (Br.ite (decide (fs.length ≤ 1048576)) (Br.ite (decide (fs2.length ≤ 1048576)) (Br.ite (isM ur) (Br.ite (decide (ak.length ≤ 1048576)) (Br.ite (decide (fs.length ≤ 1048576)) (Br.ite (decide (fs2.length ≤ 1048576)) (Br.ite (isM ur) (Br.ite (lFre_c5 ur t1 t2 ak me ta st re ba fs bo me2 ta2 st2 re2 ba2 fs2 bo2 n1 n2) (Br.ite (!((freOk (ur, (t1, (t2, (ak, (me, (ta, (st, (re, (ba, (fs, bo)))))))))) (me2, (ta2, (st2, (re2, (ba2, (fs2, bo2)))))) n1 n2) == (freOk (ur, (t1, (t2, (ak, (me, (ta, (st, (re, (ba, (fs, bo)))))))))) (me2, (ta2, (st2, (re2, (ba2, (fs2, bo2)))))) n1 n2))) (Br.ret (AV.bool false) []) (Br.ite (decide (ak.length ≤ 1048576)) (Br.ite (decide (fs.length ≤ 1048576)) (Br.ite (((eqEb (ur, (t1, (t2, (ak, (me, (ta, (st, (re, (ba, (fs, bo)))))))))) (ur, (t1, (t2, (ak, (me, (ta, (st, (re, (ba, (fs, bo))))))))))) && (decide (ak.length ≤ 1048576))) && (decide (fs.length ≤ 1048576))) (Br.ite (decide (fs2.length ≤ 1048576)) (Br.ite ((((((((decide (me2 = me2)) && (decide (ta2 = ta2))) && (decide (st2 = st2))) && (decide (re2 = re2))) && (decide (ba2 = ba2))) && (decide (fs2 = fs2))) && (decide (bo2 = bo2))) && (decide (fs2.length ≤ 1048576))) (Br.ite (true && (decide (((1 + (2 * (ak.length : Int))) + (2 * (fs.length : Int))) ≤ 100000000))) (Br.ite ((decide (0 < ((1 + (2 * (ak.length : Int))) + (2 * (fs.length : Int))))) && (decide ((((1 + (2 * (ak.length : Int))) + (2 * (fs.length : Int))) + (2 * (fs2.length : Int))) ≤ 100000000))) (Br.ite (decide ((((1 + (2 * (ak.length : Int))) + (2 * (fs.length : Int))) + (2 * (fs2.length : Int))) < 0)) (Br.ret (AV.bool false) []) (Br.ite (lFre_c5 ur t1 t2 ak me ta st re ba fs bo me2 ta2 st2 re2 ba2 fs2 bo2 n1 n2) (Br.ite (!((freOk (ur, (t1, (t2, (ak, (me, (ta, (st, (re, (ba, (fs, bo)))))))))) (me2, (ta2, (st2, (re2, (ba2, (fs2, bo2)))))) n1 n2) == (freOk (ur, (t1, (t2, (ak, (me, (ta, (st, (re, (ba, (fs, bo)))))))))) (me2, (ta2, (st2, (re2, (ba2, (fs2, bo2)))))) n1 n2))) (Br.ret (AV.bool false) []) (Br.ite (true && (decide (((1 + (2 * ((lFre_c3 ur t1 t2 ak me ta st re ba fs bo me2 ta2 st2 re2 ba2 fs2 bo2 n1 n2) : Int))) + (2 * ((List.length (freR (ur, (t1, (t2, (ak, (me, (ta, (st, (re, (ba, (fs, bo)))))))))) (me2, (ta2, (st2, (re2, (ba2, (fs2, bo2)))))) n1 n2).2.2.2.2.2.2.2.2.2.1) : Int))) ≤ 100000000))) (Br.ite ((true && (decide ((1 + (2 * ((List.length (marksF (lFre_c3 ur t1 t2 ak me ta st re ba fs bo me2 ta2 st2 re2 ba2 fs2 bo2 n1 n2) 1)) : Int))) ≤ 100000000))) && (decide ((marksF (lFre_c3 ur t1 t2 ak me ta st re ba fs bo me2 ta2 st2 re2 ba2 fs2 bo2 n1 n2) 1) = (marksF (List.length (marksF (lFre_c3 ur t1 t2 ak me ta st re ba fs bo me2 ta2 st2 re2 ba2 fs2 bo2 n1 n2) 1)) 1)))) (Br.ite (decide ((1 + (2 * ((List.length (marksF (lFre_c3 ur t1 t2 ak me ta st re ba fs bo me2 ta2 st2 re2 ba2 fs2 bo2 n1 n2) 1)) : Int))) < 0)) (Br.ret (AV.bool false) []) (Br.ite (lFre_c4 ur t1 t2 ak me ta st re ba fs bo me2 ta2 st2 re2 ba2 fs2 bo2 n1 n2) (Br.ite (decide ((lFre_c2 ur t1 t2 ak me ta st re ba fs bo me2 ta2 st2 re2 ba2 fs2 bo2 n1 n2) < 0)) (Br.ret (AV.bool false) []) (Br.ite (decide ((lFre_c2 ur t1 t2 ak me ta st re ba fs bo me2 ta2 st2 re2 ba2 fs2 bo2 n1 n2) < 0)) (Br.ret (AV.bool false) []) (Br.ite (decide ((lFre_c2 ur t1 t2 ak me ta st re ba fs bo me2 ta2 st2 re2 ba2 fs2 bo2 n1 n2) < 0)) (Br.ret (AV.bool false) []) (Br.ite (!(decide ((lFre_c2 ur t1 t2 ak me ta st re ba fs bo me2 ta2 st2 re2 ba2 fs2 bo2 n1 n2) = ((1 + (2 * ((lFre_c3 ur t1 t2 ak me ta st re ba fs bo me2 ta2 st2 re2 ba2 fs2 bo2 n1 n2) : Int))) + (2 * ((List.length (freR (ur, (t1, (t2, (ak, (me, (ta, (st, (re, (ba, (fs, bo)))))))))) (me2, (ta2, (st2, (re2, (ba2, (fs2, bo2)))))) n1 n2).2.2.2.2.2.2.2.2.2.1) : Int)))))) (Br.ret (AV.bool false) []) (Br.ite (decide (ak.length ≤ 1048576)) (Br.ite (decide (fs.length ≤ 1048576)) (Br.ite (decide (fs2.length ≤ 1048576)) (Br.ite (isM ur) (Br.ite (lFre_c5 ur t1 t2 ak me ta st re ba fs bo me2 ta2 st2 re2 ba2 fs2 bo2 n1 n2) (Br.ite (!((freOk (ur, (t1, (t2, (ak, (me, (ta, (st, (re, (ba, (fs, bo)))))))))) (me2, (ta2, (st2, (re2, (ba2, (fs2, bo2)))))) n1 n2) == (freOk (ur, (t1, (t2, (ak, (me, (ta, (st, (re, (ba, (fs, bo)))))))))) (me2, (ta2, (st2, (re2, (ba2, (fs2, bo2)))))) n1 n2))) (Br.ret (AV.bool false) []) (Br.ite ((true && (decide ((1 + (2 * ((List.length (marksF (lFre_c3 ur t1 t2 ak me ta st re ba fs bo me2 ta2 st2 re2 ba2 fs2 bo2 n1 n2) 1)) : Int))) ≤ 100000000))) && (decide ((marksF (lFre_c3 ur t1 t2 ak me ta st re ba fs bo me2 ta2 st2 re2 ba2 fs2 bo2 n1 n2) 1) = (marksF (List.length (marksF (lFre_c3 ur t1 t2 ak me ta st re ba fs bo me2 ta2 st2 re2 ba2 fs2 bo2 n1 n2) 1)) 1)))) (Br.ite (decide ((1 + (2 * ((List.length (marksF (lFre_c3 ur t1 t2 ak me ta st re ba fs bo me2 ta2 st2 re2 ba2 fs2 bo2 n1 n2) 1)) : Int))) < 0)) (Br.ret (AV.bool false) []) (Br.ite (lFre_c4 ur t1 t2 ak me ta st re ba fs bo me2 ta2 st2 re2 ba2 fs2 bo2 n1 n2) (Br.ite (decide ((lFre_c2 ur t1 t2 ak me ta st re ba fs bo me2 ta2 st2 re2 ba2 fs2 bo2 n1 n2) < 0)) (Br.ret (AV.bool false) []) (Br.ite (decide ((lFre_c2 ur t1 t2 ak me ta st re ba fs bo me2 ta2 st2 re2 ba2 fs2 bo2 n1 n2) < 0)) (Br.ret (AV.bool false) []) (Br.ite (decide ((lFre_c2 ur t1 t2 ak me ta st re ba fs bo me2 ta2 st2 re2 ba2 fs2 bo2 n1 n2) < 0)) (Br.ret (AV.bool false) []) (Br.ite (!(decide ((lFre_c2 ur t1 t2 ak me ta st re ba fs bo me2 ta2 st2 re2 ba2 fs2 bo2 n1 n2) = ((1 + (2 * ((lFre_c3 ur t1 t2 ak me ta st re ba fs bo me2 ta2 st2 re2 ba2 fs2 bo2 n1 n2) : Int))) + (2 * ((List.length (freR (ur, (t1, (t2, (ak, (me, (ta, (st, (re, (ba, (fs, bo)))))))))) (me2, (ta2, (st2, (re2, (ba2, (fs2, bo2)))))) n1 n2).2.2.2.2.2.2.2.2.2.1) : Int)))))) (Br.ret (AV.bool false) []) (Br.ret (AV.bool true) []))))) Br.fail)) Br.fail)) Br.fail) Br.fail) Br.fail) Br.fail) Br.fail))))) Br.fail)) Br.fail) Br.fail)) Br.fail)) Br.fail) Br.fail) Br.fail) Br.fail) Br.fail) Br.fail) Br.fail)) Br.fail) Br.fail) Br.fail) Br.fail) Br.fail) Br.fail) Br.fail) Br.fail) Br.fail)) Br.fail)) Br.fail)
def lFre_s : List AV → List Ob → Br
  | [.agg [.str ur, .int .i64 t1, .int .i64 t2, .sh (.pair .str .str) ak, .str me, .str ta, .int .i64 st, .str re, .bool ba, .sh (.pair .str .str) fs, .str bo], .agg [.str me2, .str ta2, .int .i64 st2, .str re2, .bool ba2, .sh (.pair .str .str) fs2, .str bo2], .int .i64 n1, .int .i64 n2], [] => lFre_br ur t1 t2 ak me ta st re ba fs bo me2 ta2 st2 re2 ba2 fs2 bo2 n1 n2
  | _, _ => .fail
theorem lFre_ok : Sound Kx 6 lFre_s := sound_br (C := lFre_C) (O := lFre_O) Tryz.func6 (by kernel_rfl) fun args objs => by
  unfold lFre_s; split
  · exact .inr (by kernel_rfl)
  · exact .inl rfl

end
end Go.Proofs.YtdknaddanjpdaaaGreatDoor.Ev

namespace Go.Proofs.YtdknaddanjpdaaaGreatDoor.Ev
open Go Go.RowKit
set_option linter.unusedVariables false
set_option linter.unusedSimpArgs false
theorem dfN {a b : Nat} (h : a ≤ b) : decide (a ≤ b) = true := decide_eq_true h
theorem dfI {a b : Int} (h : a ≤ b) : decide (a ≤ b) = true := decide_eq_true h
theorem dfL {a b : Int} (h : a < b) : decide (a < b) = true := decide_eq_true h
theorem dfF {a b : Int} (h : ¬ a < b) : decide (a < b) = false := decide_eq_false h
theorem szMg_small {me ta re bo : Bytes} {fs : List Fd} {left : Int} (h : ¬ szM (msgW me ta re fs bo) left < 0) : (fs.length : Int) ≤ left := by
  have h2 := totF_nn fs
  unfold szM at h
  cases hc : decide (msgW me ta re fs bo ≤ left)
  · rw [hc, cond_false] at h; omega
  · have := of_decide_eq_true hc
    unfold msgW at this; omega
theorem fre_len (e : En) (m : Mg) (n1 n2 : Int) : (freR e m n1 n2).2.2.2.1.length ≤ 20 ∧ (freR e m n1 n2).2.2.2.2.2.2.2.2.2.1.length ≤ 20 := by
  unfold freR
  cases c : freOk e m n1 n2
  · exact ⟨Nat.zero_le _, Nat.zero_le _⟩
  · unfold freOk at c
    simp only [Bool.and_eq_true] at c
    obtain ⟨h1, h2⟩ := ent_fds c.2.2.2
    exact ⟨(fdsOk_mem h1).1, (fdsOk_mem h2).1⟩
theorem lFre_val (ur : Bytes) (t1 t2 : Int) (ak : List Fd) (me ta : Bytes) (st : Int) (re : Bytes) (ba : Bool) (fs : List Fd) (bo : Bytes) (me2 ta2 : Bytes) (st2 : Int) (re2 : Bytes) (ba2 : Bool) (fs2 : List Fd) (bo2 : Bytes) (n1 n2 : Int) (h : smE (ur, t1, t2, ak, me, ta, st, re, ba, fs, bo) = true) (h' : smM me2 ta2 re2 fs2 bo2 = true) : (lFre_br ur t1 t2 ak me ta st re ba fs bo me2 ta2 st2 re2 ba2 fs2 bo2 n1 n2).val = some (.bool true, []) := by
  unfold lFre_br lFre_c5 lFre_c4 lFre_c3 lFre_c2 lFre_c1
  refine (val_t (by rw [h]; rfl)).trans ?_
  by_cases c : szM (enW (ur, t1, t2, ak, me, ta, st, re, ba, fs, bo)) 1048576 < 0
  · exact val_t (decide_eq_true c)
  obtain ⟨hl, hl2, hl3, hl4⟩ := szE_small c
  simp only at hl hl2
  refine (val_f (decide_eq_false c)).trans ?_
  refine (val_t (by rw [h', okLeft_of hl3 hl4]; rfl)).trans ?_
  by_cases c2 : szM (msgW me2 ta2 re2 fs2 bo2) (szM (enW (ur, t1, t2, ak, me, ta, st, re, ba, fs, bo)) 1048576) < 0
  · exact val_t (decide_eq_true c2)
  have hl5 := szMg_small c2
  refine (val_f (decide_eq_false c2)).trans ?_
  have e1 : decide (ak.length ≤ 1048576) = true := decide_eq_true (by omega)
  have e2 : decide (fs.length ≤ 1048576) = true := decide_eq_true (by omega)
  have e3 : decide (fs2.length ≤ 1048576) = true := decide_eq_true (by omega)
  have hm : isM ur = true := by unfold smE at h; simp only [Bool.and_eq_true] at h; exact h.1.1
  have hq := eqEb_self (ur, t1, t2, ak, me, ta, st, re, ba, fs, bo)
  obtain ⟨k1, k2⟩ := fre_len (ur, t1, t2, ak, me, ta, st, re, ba, fs, bo) (me2, ta2, st2, re2, ba2, fs2, bo2) n1 n2
  generalize freR (ur, t1, t2, ak, me, ta, st, re, ba, fs, bo) (me2, ta2, st2, re2, ba2, fs2, bo2) n1 n2 = x at k1 k2 ⊢
  generalize freOk (ur, t1, t2, ak, me, ta, st, re, ba, fs, bo) (me2, ta2, st2, re2, ba2, fs2, bo2) n1 n2 = b
  have hx : eqEb (x.1, x.2.1, x.2.2.1, x.2.2.2.1, x.2.2.2.2.1, x.2.2.2.2.2.1, x.2.2.2.2.2.2.1, x.2.2.2.2.2.2.2.1, x.2.2.2.2.2.2.2.2.1, x.2.2.2.2.2.2.2.2.2.1, x.2.2.2.2.2.2.2.2.2.2) (x.1, x.2.1, x.2.2.1, x.2.2.2.1, x.2.2.2.2.1, x.2.2.2.2.2.1, x.2.2.2.2.2.2.1, x.2.2.2.2.2.2.2.1, x.2.2.2.2.2.2.2.2.1, x.2.2.2.2.2.2.2.2.2.1, x.2.2.2.2.2.2.2.2.2.2) = true := eqEb_self _
  have e4 : decide (x.2.2.2.1.length ≤ 1048576) = true := decide_eq_true (by omega)
  have e5 : decide (x.2.2.2.2.2.2.2.2.2.1.length ≤ 1048576) = true := decide_eq_true (by omega)
  simp (disch := omega) only [marksF_len, e1, e2, e3, e4, e5, hm, hq, hx, decide_true, Bool.not_true, Bool.not_false, Bool.true_and, Bool.and_true, Bool.and_self, beq_self_eq_true, dfN, dfI, dfL, dfF, Br.val]
theorem fnExactFreshen_true (xs : List AV) (h : Args [(tyEnt, true), (tyMsgE, true), (.int .i64, false), (.int .i64, false)] xs) : (lFre_s xs []).val = some (.bool true, []) := by
  obtain ⟨⟨ur, t1, t2, ak, me, ta, st, re, ba, fs, bo⟩, a', g, rfl, ⟨⟨me2, ta2, st2, re2, ba2, fs2, bo2⟩, b', g', rfl, n1, c', _, rfl, n2, d', _, rfl, rfl⟩⟩ := h
  exact lFre_val ur t1 t2 ak me ta st re ba fs bo me2 ta2 st2 re2 ba2 fs2 bo2 n1 n2 (good_smE g) (good_smME g')
end Go.Proofs.YtdknaddanjpdaaaGreatDoor.Ev
