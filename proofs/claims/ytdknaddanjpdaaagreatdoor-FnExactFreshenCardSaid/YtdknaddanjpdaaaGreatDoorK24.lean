/- The texts Tc, Td, Ya, Yb, Yc, Yd, Ye, Yf, Yg, ContS, Yh, Yi, Yj, Yk, Yl, Ym, Yn, Yo, Za, Zb, Zc, Zd, Ze, Zf, Zg, Zh, Zi, Zj, Zk, Zl, Zm, Zn, Zo, Zp, Zq, Zr, Sa, Sb, one behind the other. -/
import Derived.Test.YtdknaddanjpdaaaGreatDoorK19
import Derived.Test.YtdknaddanjpdaaaGreatDoorK23
import Derived.Test.YtdknaddanjpdaaaGreatDoorK12
namespace Go.Proofs.YtdknaddanjpdaaaGreatDoor.Ev
open Go Go.RowKit
set_option linter.unusedVariables false
set_option linter.unusedSimpArgs false
noncomputable section



end
end Go.Proofs.YtdknaddanjpdaaaGreatDoor.Ev

namespace Go.Proofs.YtdknaddanjpdaaaGreatDoor.Ev
open Go Go.RowKit
set_option linter.unusedVariables false
set_option linter.unusedSimpArgs false
noncomputable section

end
end Go.Proofs.YtdknaddanjpdaaaGreatDoor.Ev

namespace Go.Proofs.YtdknaddanjpdaaaGreatDoor.Ev
open Go Go.RowKit
set_option linter.unusedVariables false
set_option linter.unusedSimpArgs false
noncomputable section

end
end Go.Proofs.YtdknaddanjpdaaaGreatDoor.Ev

namespace Go.Proofs.YtdknaddanjpdaaaGreatDoor.Ev
open Go Go.RowKit
set_option linter.unusedVariables false
set_option linter.unusedSimpArgs false
noncomputable section

end
end Go.Proofs.YtdknaddanjpdaaaGreatDoor.Ev

namespace Go.Proofs.YtdknaddanjpdaaaGreatDoor.Ev
open Go Go.RowKit
set_option linter.unusedVariables false
set_option linter.unusedSimpArgs false
noncomputable section

end
end Go.Proofs.YtdknaddanjpdaaaGreatDoor.Ev

namespace Go.Proofs.YtdknaddanjpdaaaGreatDoor.Ev
open Go Go.RowKit
set_option linter.unusedVariables false
set_option linter.unusedSimpArgs false
noncomputable section

end
end Go.Proofs.YtdknaddanjpdaaaGreatDoor.Ev

namespace Go.Proofs.YtdknaddanjpdaaaGreatDoor.Ev
open Go Go.RowKit
set_option linter.unusedVariables false
set_option linter.unusedSimpArgs false
noncomputable section

end
end Go.Proofs.YtdknaddanjpdaaaGreatDoor.Ev

namespace Go.Proofs.YtdknaddanjpdaaaGreatDoor.Ev
open Go Go.RowKit
set_option linter.unusedVariables false
set_option linter.unusedSimpArgs false
noncomputable section

end
end Go.Proofs.YtdknaddanjpdaaaGreatDoor.Ev

namespace Go.Proofs.YtdknaddanjpdaaaGreatDoor.Ev
open Go Go.RowKit
set_option linter.unusedVariables false
set_option linter.unusedSimpArgs false
noncomputable section

end
end Go.Proofs.YtdknaddanjpdaaaGreatDoor.Ev

namespace Go.Proofs.YtdknaddanjpdaaaGreatDoor.Ev
open Go Go.RowKit
set_option linter.unusedVariables false
set_option linter.unusedSimpArgs false
noncomputable section

end
end Go.Proofs.YtdknaddanjpdaaaGreatDoor.Ev

namespace Go.Proofs.YtdknaddanjpdaaaGreatDoor.Ev
open Go Go.RowKit
set_option linter.unusedVariables false
set_option linter.unusedSimpArgs false
noncomputable section

end
end Go.Proofs.YtdknaddanjpdaaaGreatDoor.Ev

namespace Go.Proofs.YtdknaddanjpdaaaGreatDoor.Ev
open Go Go.RowKit
set_option linter.unusedVariables false
set_option linter.unusedSimpArgs false
noncomputable section

end
end Go.Proofs.YtdknaddanjpdaaaGreatDoor.Ev

namespace Go.Proofs.YtdknaddanjpdaaaGreatDoor.Ev
open Go Go.RowKit
set_option linter.unusedVariables false
set_option linter.unusedSimpArgs false
noncomputable section

end
end Go.Proofs.YtdknaddanjpdaaaGreatDoor.Ev

namespace Go.Proofs.YtdknaddanjpdaaaGreatDoor.Ev
open Go Go.RowKit
set_option linter.unusedVariables false
set_option linter.unusedSimpArgs false
noncomputable section

end
end Go.Proofs.YtdknaddanjpdaaaGreatDoor.Ev

namespace Go.Proofs.YtdknaddanjpdaaaGreatDoor.Ev
open Go Go.RowKit
set_option linter.unusedVariables false
set_option linter.unusedSimpArgs false
end Go.Proofs.YtdknaddanjpdaaaGreatDoor.Ev

namespace Go.Proofs.YtdknaddanjpdaaaGreatDoor.Ev
open Go Go.RowKit
set_option linter.unusedVariables false
set_option linter.unusedSimpArgs false
noncomputable section

def heldFieldS_O : Opt := { live := [(2, [0, 1, 5])], outs := [(2, [1, 4])] }
def heldFieldS_C : SC := [⟨43, _, markText_okQ⟩]
def heldFieldS_T2 (v2x0 : (List Fd)) (v2x1 v2x2 : Int) (kR2 : (List Fd) → Int → Int → Option Rs) (k2e0 k2e1 : Int → Option Rs) : Option Rs :=
  (bif (decide (v2x2 < (v2x0.length : Int))) then (bif (decide (0 ≤ v2x2)) then (bif (decide (v2x2 < (v2x0.length : Int))) then (bif ((decide (0 < v2x1)) && (decide (v2x1 ≤ 100000000))) then (bif (!(decide ((List.getD v2x0 (Int.toNat v2x2) (([] : Bytes), ([] : Bytes))).1 = (mtP v2x1)))) then (k2e0 v2x1) else (bif (decide (0 ≤ v2x2)) then (bif (decide (v2x2 < (v2x0.length : Int))) then (bif ((decide (0 < (wk64 (v2x1 + 1)))) && (decide ((wk64 (v2x1 + 1)) ≤ 100000000))) then (bif (!(decide ((List.getD v2x0 (Int.toNat v2x2) (([] : Bytes), ([] : Bytes))).2 = (mtP (wk64 (v2x1 + 1)))))) then (k2e0 (wk64 (v2x1 + 1))) else (kR2 v2x0 (wk64 ((wk64 (v2x1 + 1)) + 1)) (wk64 (v2x2 + 1)))) else (none)) else (none)) else (none))) else (none)) else (none)) else (none)) else (k2e1 v2x1))
def heldFieldS_F2 : Nat → (List Fd) → Int → Int → (Int → Option Rs) → (Int → Option Rs) → Option Rs
  | 0, _, _, _, _, _ => none
  | n + 1, v2x0, v2x1, v2x2, k2e0, k2e1 => heldFieldS_T2 v2x0 v2x1 v2x2 (fun v2x0 v2x1 v2x2 => heldFieldS_F2 n v2x0 v2x1 v2x2 k2e0 k2e1) k2e0 k2e1
abbrev heldFieldS_p2 : SP := ⟨33, [0, 1, 5], [(.v (.sh (Ty.pair Ty.str Ty.str))), (.v (.i .i64)), (.v (.i .i64))], []⟩
noncomputable def heldFieldS_b2 : Code := codeAt (codeOf Tryz.f15) [1, 0, 1, 0, 0]
def heldFieldS_E2 (f : (Int → Option Rs) → (Int → Option Rs) → Option Rs) (k : KT) : Option Rs := f (fun x2x0x0 => k Ex.ret ((St.mk (slots 0 33 [(1, (AV.int .i64 x2x0x0)), (4, (AV.int .i64 (-1)))]) ([] : (List (Nat × (Ob))))))) (fun x2x1x0 => k (Ex.exit 0) ((St.mk (slots 0 33 [(1, (AV.int .i64 x2x1x0))]) ([] : (List (Nat × (Ob)))))))
def heldFieldS_G2 (n : Nat) (d : heldFieldS_p2.D) : KT → Option Rs := heldFieldS_E2 (heldFieldS_F2 n d.1.1 d.1.2.1 d.1.2.2.1)
def heldFieldS_L (N : Nat) : Lam := lamOf [⟨2, heldFieldS_p2, heldFieldS_G2 N⟩]
theorem heldFieldS_ok2 (N : Nat) : OkL Kx heldFieldS_C.s heldFieldS_O 0 N (heldFieldS_L N) heldFieldS_b2 := okL heldFieldS_p2 (heldFieldS_G2) (fun d kR => heldFieldS_E2 (heldFieldS_T2 d.1.1 d.1.2.1 d.1.2.2.1 (fun v2x0 v2x1 v2x2 => kR ((v2x0, v2x1, v2x2, ()), ())))) (fun _ _ => by kernel_rfl) (fun _ _ _ => by kernel_rfl) (fun _ _ => by kernel_rfl) (fun _ _ _ _ => by kernel_rfl) (okEach (l' := []) (by kernel_rfl) trivial)
def heldFieldS_run (N : Nat) (l : List Fd) (k : Int) : Option Rs := (heldFieldS_F2 N l k 0 (fun x2x0x0 => (some ((AV.int .i64 (-1)), []))) (fun x2x1x0 => (some ((AV.int .i64 x2x1x0), []))))
def heldFieldS_sOf (φ : (List Fd) → Int → Br) : List AV → List Ob → Br
  | [.sh (.pair .str .str) l, .int .i64 k], [] => φ l k
  | _, _ => .fail
theorem heldFieldS_okOf {φ : (List Fd) → Int → Br} (fu : (List Fd) → Int → Nat) (hv : ∀ l k res_, (φ l k).val = some res_ → heldFieldS_run (fu l k) l k = some res_) : Sound Kx 15 (heldFieldS_sOf φ) := sound_lp (C := heldFieldS_C) (O := heldFieldS_O) Tryz.func15 (by kernel_rfl) fun args objs => by
  unfold heldFieldS_sOf; split
  · rename_i l k; exact .inr fun _ hyp_ => run_lp (Λ := heldFieldS_L (fu l k)) (by kernel_rfl) (okEach (l' := [heldFieldS_b2]) (by kernel_rfl) ⟨heldFieldS_ok2 _, trivial⟩) (by kernel_rfl) (hv l k _ hyp_)
  · exact .inl rfl

def markMsg_O : Opt := { mutF := [14] }
def markMsg_C : SC := [⟨14, _, markFieldS_okQ⟩]
def markMsg_br (me ta : Bytes) (st : Int) (re : Bytes) (ba : Bool) (fs : List Fd) (bo : Bytes) (k : Int) : Br := (Br.ite ((decide (0 < k)) && (decide ((k + (2 * (fs.length : Int))) ≤ 100000000))) (Br.ret (AV.int .i64 (k + (2 * (fs.length : Int)))) ((Ob.arr (Ty.pair Ty.str Ty.str) 0 false (marksF fs.length k)) :: [])) Br.fail)
def markMsg_s : List AV → List Ob → Br
  | [.agg [.str me, .str ta, .int .i64 st, .str re, .bool ba, .ref 0 0, .str bo], .int .i64 k], [.arr (.pair .str .str) 0 false fs] => markMsg_br me ta st re ba fs bo k
  | _, _ => .fail
theorem markMsg_ok : Sound Kx 32 markMsg_s := sound_br (C := markMsg_C) (O := markMsg_O) Tryz.func32 (by kernel_rfl) fun args objs => by
  unfold markMsg_s; split
  · exact .inr (by kernel_rfl)
  · exact .inl rfl

def markEntry_O : Opt := { mutF := [14,32] }
def markEntry_C : SC := [⟨14, _, markFieldS_okQ⟩, ⟨32, _, markMsg_ok⟩]
def markEntry_br (ur : Bytes) (t1 t2 : Int) (ak : List Fd) (me ta : Bytes) (st : Int) (re : Bytes) (ba : Bool) (fs : List Fd) (bo : Bytes) (k : Int) : Br := (Br.ite ((decide (0 < k)) && (decide ((k + (2 * (ak.length : Int))) ≤ 100000000))) (Br.ite ((decide (0 < (k + (2 * (ak.length : Int))))) && (decide (((k + (2 * (ak.length : Int))) + (2 * (fs.length : Int))) ≤ 100000000))) (Br.ret (AV.int .i64 ((k + (2 * (ak.length : Int))) + (2 * (fs.length : Int)))) ((Ob.arr (Ty.pair Ty.str Ty.str) 0 false (marksF ak.length k)) :: ((Ob.arr (Ty.pair Ty.str Ty.str) 0 false (marksF fs.length (k + (2 * (ak.length : Int))))) :: []))) Br.fail) Br.fail)
def markEntry_s : List AV → List Ob → Br
  | [.agg [.str ur, .int .i64 t1, .int .i64 t2, .ref 0 0, .str me, .str ta, .int .i64 st, .str re, .bool ba, .ref 1 0, .str bo], .int .i64 k], [.arr (.pair .str .str) 0 false ak, .arr (.pair .str .str) 0 false fs] => markEntry_br ur t1 t2 ak me ta st re ba fs bo k
  | _, _ => .fail
theorem markEntry_ok : Sound Kx 13 markEntry_s := sound_br (C := markEntry_C) (O := markEntry_O) Tryz.func13 (by kernel_rfl) fun args objs => by
  unfold markEntry_s; split
  · exact .inr (by kernel_rfl)
  · exact .inl rfl

theorem heldFieldS_loop (l : List Fd) (hl : l.length ≤ 50000000) (k0 k1 : Int → Option Rs) : ∀ (r : List Fd) (k i : Int) (n : Nat), At l i r → r.length < n → 0 < k → k + 2 * r.length ≤ 100000000 → r = marksF r.length k →
    heldFieldS_F2 n l k i k0 k1 = k1 (k + 2 * r.length) := by
  intro r; induction r with
  | nil => intro k i n h hn h0 h1 he; obtain ⟨n, rfl⟩ := fuel hn; unfold heldFieldS_F2 heldFieldS_T2; rw [h.dge, cond_false]; simp
  | cons a r ih =>
    intro k i n h hn h0 h1 he; obtain ⟨n, rfl⟩ := fuel hn
    simp only [List.length_cons, marksF, List.cons.injEq] at he hn h1
    obtain ⟨he, hr⟩ := he
    subst he
    have hw : wk64 (k + 1) = k + 1 := w64 (by omega) (by omega)
    have hw2 : wk64 (k + 1 + 1) = k + 1 + 1 := w64 (by omega) (by omega)
    have hg : (decide (0 < k) && decide (k ≤ 100000000)) = true := by rw [decide_eq_true h0, decide_eq_true (by omega)]; rfl
    have hg2 : (decide (0 < k + 1) && decide (k + 1 ≤ 100000000)) = true := by rw [decide_eq_true (by omega), decide_eq_true (by omega)]; rfl
    unfold heldFieldS_F2 heldFieldS_T2
    simp only [h.dlt, h.dnn, h.get, hg, hg2, hw, hw2, h.next (by omega), cond_true, cond_false, decide_true, Bool.not_true]
    rw [ih (k + 1 + 1) (i + 1) n h.step (by omega) (by omega) (by omega) hr]
    congr 1
    simp only [List.length_cons]; omega
def hdF_s : List AV → List Ob → Br
  | [.sh (.pair .str .str) l, .int .i64 k], [] => .ite (decide (0 < k) && decide (k + 2 * l.length ≤ 100000000) && decide (l = marksF l.length k)) (.ret (.int .i64 (k + 2 * l.length)) []) .fail
  | _, _ => .fail
theorem heldFieldS_okQ : Sound Kx 15 hdF_s := by
  refine (heldFieldS_okOf (φ := fun l k => .ite (decide (0 < k) && decide (k + 2 * l.length ≤ 100000000) && decide (l = marksF l.length k)) (.ret (.int .i64 (k + 2 * l.length)) []) .fail) (fun l _ => l.length + 1) fun l k r h => ?_).of fun args objs r h => ?_
  · obtain ⟨h1, h2⟩ := ite_some h
    cases h2
    rw [Bool.and_eq_true, Bool.and_eq_true, decide_eq_true_eq, decide_eq_true_eq, decide_eq_true_eq] at h1
    unfold heldFieldS_run
    exact heldFieldS_loop l (by omega) _ _ l k 0 _ (At.start l) (by omega) h1.1.1 h1.1.2 h1.2
  · unfold hdF_s at h; split at h
    · exact h
    · cases h
def mkE_s : List AV → List Ob → Br
  | [.agg [.str ur, .int .i64 t1, .int .i64 t2, .ref 0 0, .str me, .str ta, .int .i64 st, .str re, .bool ba, .ref 1 0, .str bo], .int .i64 k], [.arr (.pair .str .str) 0 false ak, .arr (.pair .str .str) 0 false fs] =>
    .ite (decide (0 < k) && decide (k + 2 * ak.length + 2 * fs.length ≤ 100000000)) (.ret (.int .i64 (k + 2 * ak.length + 2 * fs.length)) [.arr (.pair .str .str) 0 false (marksF ak.length k), .arr (.pair .str .str) 0 false (marksF fs.length (k + 2 * ak.length))]) .fail
  | _, _ => .fail
theorem markEntry_okQ : Sound Kx 13 mkE_s := markEntry_ok.of fun args objs r h => by
  unfold mkE_s at h; split at h
  · obtain ⟨h1, h2⟩ := ite_some h
    cases h2
    rw [Bool.and_eq_true, decide_eq_true_eq, decide_eq_true_eq] at h1
    refine (val_t ?_).trans (val_t ?_)
    · rw [decide_eq_true h1.1, decide_eq_true (by omega)]; rfl
    · rw [decide_eq_true (by omega), decide_eq_true (by omega)]; rfl
  · cases h

end
end Go.Proofs.YtdknaddanjpdaaaGreatDoor.Ev

namespace Go.Proofs.YtdknaddanjpdaaaGreatDoor.Ev
open Go Go.RowKit
set_option linter.unusedVariables false
set_option linter.unusedSimpArgs false
theorem marksF_len : ∀ (n : Nat) (k : Int), (marksF n k).length = n
  | 0, _ => rfl
  | n + 1, k => by simp [marksF, marksF_len n]
end Go.Proofs.YtdknaddanjpdaaaGreatDoor.Ev

namespace Go.Proofs.YtdknaddanjpdaaaGreatDoor.Ev
open Go Go.RowKit
set_option linter.unusedVariables false
set_option linter.unusedSimpArgs false
noncomputable section

def sHop_O : Opt := { live := [(6, [3, 4, 5])], outs := [(6, [2, 3])], shn := [3] }
def sHop_C : SC := [⟨45, _, sFieldsOk_okQ⟩, ⟨47, _, sWords_okQ⟩, ⟨158, _, sToken_okQ⟩, ⟨108, _, sfold_okQ⟩, ⟨187, _, sl5put_okQ⟩]
def sHop_T6 (v6x0 : (List Bytes)) (v6x1 : Int) (v6x2 : (List Bytes)) (kR6 : (List Bytes) → Int → (List Bytes) → Option Rs) (k6e0 : (List Bytes) → Option Rs) : Option Rs :=
  (bif (decide (v6x1 < (v6x2.length : Int))) then (bif (decide (0 ≤ v6x1)) then (bif (decide (v6x1 < (v6x2.length : Int))) then (bif (tokP (List.getD v6x2 (Int.toNat v6x1) ([] : Bytes))) then (bif (decide (0 ≤ v6x1)) then (bif (decide (v6x1 < (v6x2.length : Int))) then (bif (isM (List.getD v6x2 (Int.toNat v6x1) ([] : Bytes))) then (bif (decide (v6x0.length ≤ 900000)) then (kR6 (putP v6x0 (foldP (List.getD v6x2 (Int.toNat v6x1) ([] : Bytes)))) (wk64 (v6x1 + 1)) v6x2) else (none)) else (none)) else (none)) else (none)) else (kR6 v6x0 (wk64 (v6x1 + 1)) v6x2)) else (none)) else (none)) else (k6e0 v6x0))
def sHop_F6 : Nat → (List Bytes) → Int → (List Bytes) → ((List Bytes) → Option Rs) → Option Rs
  | 0, _, _, _, _ => none
  | n + 1, v6x0, v6x1, v6x2, k6e0 => sHop_T6 v6x0 v6x1 v6x2 (fun v6x0 v6x1 v6x2 => sHop_F6 n v6x0 v6x1 v6x2 k6e0) k6e0
abbrev sHop_p6 : SP := ⟨31, [3, 4, 5], [(.v (.sh Ty.str)), (.v (.ref 320 0)), (.v (.i .i64))], [(320, .arr Ty.str 0 false)]⟩
noncomputable def sHop_b6 : Code := codeAt (codeOf Tryz.f125) [1, 1, 1, 1, 0, 1, 0, 0]
def sHop_E6 (f : ((List Bytes) → Option Rs) → Option Rs) (k : KT) : Option Rs := f (fun x6x0x0 => k (Ex.exit 0) ((St.mk (slots 0 31 [(3, (AV.sh Ty.str x6x0x0))]) ([] : (List (Nat × (Ob)))))))
def sHop_G6 (n : Nat) (d : sHop_p6.D) : KT → Option Rs := sHop_E6 (sHop_F6 n d.1.1 d.1.2.2.1 d.2.1)
def sHop_L (N : Nat) : Lam := lamOf [⟨6, sHop_p6, sHop_G6 N⟩]
theorem sHop_ok6 (N : Nat) : OkL Kx sHop_C.s sHop_O 0 N (sHop_L N) sHop_b6 := okL sHop_p6 (sHop_G6) (fun d kR => sHop_E6 (sHop_T6 d.1.1 d.1.2.2.1 d.2.1 (fun v6x0 v6x1 v6x2 => kR ((v6x0, (), v6x1, ()), (v6x2, ()))))) (fun _ _ => by kernel_rfl) (fun _ _ _ => by kernel_rfl) (fun _ _ => by kernel_rfl) (fun _ _ _ _ => by kernel_rfl) (okEach (l' := []) (by kernel_rfl) trivial)
def sHop_run (N : Nat) (l : List Fd) : Option Rs := (bif (!(fdsOk l)) then (some ((AV.ref 0 0), ((Ob.arr Ty.str 0 false ([] : (List Bytes))) :: []))) else (sHop_F6 N (List.set (List.set (List.set (List.set (List.set (List.set (List.set (List.replicate 7 ([] : Bytes)) 0 ([99, 111, 110, 110, 101, 99, 116, 105, 111, 110] : Bytes)) 1 ([107, 101, 101, 112, 45, 97, 108, 105, 118, 101] : Bytes)) 2 ([112, 114, 111, 120, 121, 45, 99, 111, 110, 110, 101, 99, 116, 105, 111, 110] : Bytes)) 3 ([116, 101] : Bytes)) 4 ([116, 114, 97, 105, 108, 101, 114] : Bytes)) 5 ([116, 114, 97, 110, 115, 102, 101, 114, 45, 101, 110, 99, 111, 100, 105, 110, 103] : Bytes)) 6 ([117, 112, 103, 114, 97, 100, 101] : Bytes)) 0 (wordsP l ([99, 111, 110, 110, 101, 99, 116, 105, 111, 110] : Bytes)) (fun x6x0x0 => (some ((AV.sh Ty.str x6x0x0), [])))))
def sHop_sOf (φ : (List Fd) → Br) : List AV → List Ob → Br
  | [.sh (.pair .str .str) l], [] => φ l
  | _, _ => .fail
theorem sHop_okOf {φ : (List Fd) → Br} (fu : (List Fd) → Nat) (hv : ∀ l res_, (φ l).val = some res_ → sHop_run (fu l) l = some res_) : Sound Kx 125 (sHop_sOf φ) := sound_lp (C := sHop_C) (O := sHop_O) Tryz.func125 (by kernel_rfl) fun args objs => by
  unfold sHop_sOf; split
  · rename_i l; exact .inr fun _ hyp_ => run_lp (Λ := sHop_L (fu l)) (by kernel_rfl) (okEach (l' := [sHop_b6]) (by kernel_rfl) ⟨sHop_ok6 _, trivial⟩) (by kernel_rfl) (hv l _ hyp_)
  · exact .inl rfl

def iHop_O : Opt := { mutF := [192,193], live := [(5, [3, 11, 12, 13])], outs := [(5, [2, 3])] }
def iHop_C : SC := [⟨51, _, iFieldsOk_okQ⟩, ⟨54, _, iWords_okQ⟩, ⟨161, _, iToken_okQ⟩, ⟨70, _, ifold_okQ⟩, ⟨192, _, sort_okQ⟩, ⟨193, _, comp_okQ⟩]
def iHop_T5 (v5x0 v5x1 : Int) (v5x2 v5x3 : (List Bytes)) (kR5 : Int → Int → (List Bytes) → (List Bytes) → Option Rs) (k5e0 : (List Bytes) → Option Rs) : Option Rs :=
  (bif (decide (v5x1 < v5x0)) then (bif (decide (0 ≤ v5x1)) then (bif (decide (v5x1 < (v5x3.length : Int))) then (bif (tokP (List.getD v5x3 (Int.toNat v5x1) ([] : Bytes))) then (bif (isM (List.getD v5x3 (Int.toNat v5x1) ([] : Bytes))) then (bif (decide (((v5x2.length + (List.length (List.set (List.replicate 1 ([] : Bytes)) 0 (foldP (List.getD v5x3 (Int.toNat v5x1) ([] : Bytes)))))) * 16) ≤ 140737488355328)) then (kR5 v5x0 (wk64 (v5x1 + 1)) (v5x2 ++ (List.set (List.replicate 1 ([] : Bytes)) 0 (foldP (List.getD v5x3 (Int.toNat v5x1) ([] : Bytes))))) v5x3) else (none)) else (none)) else (kR5 v5x0 (wk64 (v5x1 + 1)) v5x2 v5x3)) else (none)) else (none)) else (k5e0 v5x2))
def iHop_F5 : Nat → Int → Int → (List Bytes) → (List Bytes) → ((List Bytes) → Option Rs) → Option Rs
  | 0, _, _, _, _, _ => none
  | n + 1, v5x0, v5x1, v5x2, v5x3, k5e0 => iHop_T5 v5x0 v5x1 v5x2 v5x3 (fun v5x0 v5x1 v5x2 v5x3 => iHop_F5 n v5x0 v5x1 v5x2 v5x3 k5e0) k5e0
abbrev iHop_p5 : SP := ⟨29, [3, 11, 12, 13], [(.v (.ref 256 0)), (.v (.ref 768 0)), (.v (.i .i64)), (.v (.i .i64))], [(256, .arr Ty.str 0 false), (768, .arr Ty.str 0 false)]⟩
noncomputable def iHop_b5 : Code := codeAt (codeOf Tryz.f134) [1, 1, 1, 0, 1, 0, 0]
def iHop_E5 (f : ((List Bytes) → Option Rs) → Option Rs) (k : KT) : Option Rs := f (fun x5x0x0 => k (Ex.exit 0) ((St.mk (slots 0 29 [(3, (AV.ref 256 0))]) ((256, (Ob.arr Ty.str 0 false x5x0x0)) :: ([] : (List (Nat × (Ob))))))))
def iHop_G5 (n : Nat) (d : iHop_p5.D) : KT → Option Rs := iHop_E5 (iHop_F5 n d.1.2.2.1 d.1.2.2.2.1 d.2.1 d.2.2.1)
def iHop_L (N : Nat) : Lam := lamOf [⟨5, iHop_p5, iHop_G5 N⟩]
theorem iHop_ok5 (N : Nat) : OkL Kx iHop_C.s iHop_O 0 N (iHop_L N) iHop_b5 := okL iHop_p5 (iHop_G5) (fun d kR => iHop_E5 (iHop_T5 d.1.2.2.1 d.1.2.2.2.1 d.2.1 d.2.2.1 (fun v5x0 v5x1 v5x2 v5x3 => kR (((), (), v5x0, v5x1, ()), (v5x2, v5x3, ()))))) (fun _ _ => by kernel_rfl) (fun _ _ _ => by kernel_rfl) (fun _ _ => by kernel_rfl) (fun _ _ _ _ => by kernel_rfl) (okEach (l' := []) (by kernel_rfl) trivial)
def iHop_run (N : Nat) (l : List Fd) : Option Rs := (bif (!(fdsOk l)) then (some ((AV.ref 0 0), ((Ob.arr Ty.str 0 false ([] : (List Bytes))) :: []))) else (iHop_F5 N ((List.length (wordsP l ([99, 111, 110, 110, 101, 99, 116, 105, 111, 110] : Bytes))) : Int) 0 (List.set (List.set (List.set (List.set (List.set (List.set (List.set (List.replicate 7 ([] : Bytes)) 0 ([99, 111, 110, 110, 101, 99, 116, 105, 111, 110] : Bytes)) 1 ([107, 101, 101, 112, 45, 97, 108, 105, 118, 101] : Bytes)) 2 ([112, 114, 111, 120, 121, 45, 99, 111, 110, 110, 101, 99, 116, 105, 111, 110] : Bytes)) 3 ([116, 101] : Bytes)) 4 ([116, 114, 97, 105, 108, 101, 114] : Bytes)) 5 ([116, 114, 97, 110, 115, 102, 101, 114, 45, 101, 110, 99, 111, 100, 105, 110, 103] : Bytes)) 6 ([117, 112, 103, 114, 97, 100, 101] : Bytes)) (wordsP l ([99, 111, 110, 110, 101, 99, 116, 105, 111, 110] : Bytes)) (fun x5x0x0 => (bif (decide (x5x0x0.length ≤ 1000000)) then (bif (decide ((List.length (sortP x5x0x0)) ≤ 1000000)) then (some ((AV.ref 0 0), ((Ob.arr Ty.str 0 false (compP (sortP x5x0x0))) :: []))) else (none)) else (none)))))
def iHop_sOf (φ : (List Fd) → Br) : List AV → List Ob → Br
  | [.sh (.pair .str .str) l], [] => φ l
  | _, _ => .fail
theorem iHop_okOf {φ : (List Fd) → Br} (fu : (List Fd) → Nat) (hv : ∀ l res_, (φ l).val = some res_ → iHop_run (fu l) l = some res_) : Sound Kx 134 (iHop_sOf φ) := sound_lp (C := iHop_C) (O := iHop_O) Tryz.func134 (by kernel_rfl) fun args objs => by
  unfold iHop_sOf; split
  · rename_i l; exact .inr fun _ hyp_ => run_lp (Λ := iHop_L (fu l)) (by kernel_rfl) (okEach (l' := [iHop_b5]) (by kernel_rfl) ⟨iHop_ok5 _, trivial⟩) (by kernel_rfl) (hv l _ hyp_)
  · exact .inl rfl


def e2e1_C : SC := [⟨70, _, ifold_okQ⟩, ⟨119, _, conS_okQ⟩]
def e2e1_br (hops : List Bytes) (name : Bytes) : Br := (Br.ite (isM name) (Br.ite (decide (hops.length ≤ 1000000)) (Br.ret (AV.bool (!(inP hops (foldP name)))) ((Ob.var ((AV.ref 1 0) :: [])) :: ((Ob.arr Ty.str 0 false hops) :: []))) Br.fail) Br.fail)
def e2e1_s : List AV → List Ob → Br
  | [.str name, .ptr 0 0], [.var [.ref 1 0], .arr .str 0 false hops] => e2e1_br hops name
  | _, _ => .fail
theorem e2e1_ok : Sound Kx 135 e2e1_s := sound_br (C := e2e1_C) (O := O0) Tryz.func135 (by kernel_rfl) fun args objs => by
  unfold e2e1_s; split
  · exact .inr (by kernel_rfl)
  · exact .inl rfl

def keptE_O : Opt := { live := [(5, [1, 5, 11, 12, 13])], outs := [(5, [4, 5])] }
def keptE_C : SC := [⟨51, _, iFieldsOk_okQ⟩, ⟨135, _, e2e1_ok⟩]
def keptE_T5 (v5x0 : (List Fd)) (v5x1 v5x2 : Int) (v5x3 : (List Bytes)) (v5x4 : (List Fd)) (kR5 : (List Fd) → Int → Int → (List Bytes) → (List Fd) → Option Rs) (k5e0 : (List Bytes) → (List Fd) → Option Rs) : Option Rs :=
  (bif (decide (v5x2 < v5x1)) then (bif (decide (0 ≤ v5x2)) then (bif (decide (v5x2 < (v5x0.length : Int))) then (bif (isM (List.getD v5x0 (Int.toNat v5x2) (([] : Bytes), ([] : Bytes))).1) then (bif (decide (v5x3.length ≤ 1000000)) then (bif (!(inP v5x3 (foldP (List.getD v5x0 (Int.toNat v5x2) (([] : Bytes), ([] : Bytes))).1))) then (bif (decide (((v5x4.length + (List.length (List.set (List.replicate 1 (([] : Bytes), ([] : Bytes))) 0 ((List.getD v5x0 (Int.toNat v5x2) (([] : Bytes), ([] : Bytes))).1, (List.getD v5x0 (Int.toNat v5x2) (([] : Bytes), ([] : Bytes))).2)))) * 32) ≤ 140737488355328)) then (kR5 v5x0 v5x1 (wk64 (v5x2 + 1)) v5x3 (v5x4 ++ (List.set (List.replicate 1 (([] : Bytes), ([] : Bytes))) 0 ((List.getD v5x0 (Int.toNat v5x2) (([] : Bytes), ([] : Bytes))).1, (List.getD v5x0 (Int.toNat v5x2) (([] : Bytes), ([] : Bytes))).2)))) else (none)) else (kR5 v5x0 v5x1 (wk64 (v5x2 + 1)) v5x3 v5x4)) else (none)) else (none)) else (none)) else (none)) else (k5e0 v5x3 v5x4))
def keptE_F5 : Nat → (List Fd) → Int → Int → (List Bytes) → (List Fd) → ((List Bytes) → (List Fd) → Option Rs) → Option Rs
  | 0, _, _, _, _, _, _ => none
  | n + 1, v5x0, v5x1, v5x2, v5x3, v5x4, k5e0 => keptE_T5 v5x0 v5x1 v5x2 v5x3 v5x4 (fun v5x0 v5x1 v5x2 v5x3 v5x4 => keptE_F5 n v5x0 v5x1 v5x2 v5x3 v5x4 k5e0) k5e0
abbrev keptE_p5 : SP := ⟨27, [1, 5, 11, 12, 13], [(.v (.fn 135 [(0, 0)])), (.v (.ref 384 0)), (.v (.sh (Ty.pair Ty.str Ty.str))), (.v (.i .i64)), (.v (.i .i64))], [(0, .var [(.ref 1 0)]), (1, .arr Ty.str 0 false), (384, .arr (Ty.pair Ty.str Ty.str) 0 false)]⟩
noncomputable def keptE_b5 : Code := codeAt (codeOf Tryz.f72) [1, 1, 1, 0, 1, 0, 0]
def keptE_E5 (f : ((List Bytes) → (List Fd) → Option Rs) → Option Rs) (k : KT) : Option Rs := f (fun x5x0x0 x5x0x1 => k (Ex.exit 0) ((St.mk (slots 0 27 [(5, (AV.ref 384 0))]) ((0, (Ob.var ((AV.ref 1 0) :: []))) :: ((1, (Ob.arr Ty.str 0 false x5x0x0)) :: ((384, (Ob.arr (Ty.pair Ty.str Ty.str) 0 false x5x0x1)) :: ([] : (List (Nat × (Ob))))))))))
def keptE_G5 (n : Nat) (d : keptE_p5.D) : KT → Option Rs := keptE_E5 (keptE_F5 n d.1.2.2.1 d.1.2.2.2.1 d.1.2.2.2.2.1 d.2.2.1 d.2.2.2.1)
def keptE_L (N : Nat) : Lam := lamOf [⟨5, keptE_p5, keptE_G5 N⟩]
theorem keptE_ok5 (N : Nat) : OkL Kx keptE_C.s keptE_O 2 N (keptE_L N) keptE_b5 := okL keptE_p5 (keptE_G5) (fun d kR => keptE_E5 (keptE_T5 d.1.2.2.1 d.1.2.2.2.1 d.1.2.2.2.2.1 d.2.2.1 d.2.2.2.1 (fun v5x0 v5x1 v5x2 v5x3 v5x4 => kR (((), (), v5x0, v5x1, v5x2, ()), (((), ()), v5x3, v5x4, ()))))) (fun _ _ => by kernel_rfl) (fun _ _ _ => by kernel_rfl) (fun _ _ => by kernel_rfl) (fun _ _ _ _ => by kernel_rfl) (okEach (l' := []) (by kernel_rfl) trivial)
def keptE_run (N : Nat) (l : List Fd) (hops : List Bytes) : Option Rs := (bif (!(fdsOk l)) then (some ((AV.ref (List.length ((Ob.var ((AV.ref 1 0) :: [])) :: ((Ob.arr Ty.str 0 false hops) :: []))) 0), ((Ob.var ((AV.ref 1 0) :: [])) :: ((Ob.arr Ty.str 0 false hops) :: ((Ob.arr (Ty.pair Ty.str Ty.str) 0 false ([] : (List Fd))) :: []))))) else (keptE_F5 N l (l.length : Int) 0 hops ([] : (List Fd)) (fun x5x0x0 => (fun x5x0x1 => (some ((AV.ref 2 0), ((Ob.var ((AV.ref 1 0) :: [])) :: ((Ob.arr Ty.str 0 false x5x0x0) :: ((Ob.arr (Ty.pair Ty.str Ty.str) 0 false x5x0x1) :: [])))))))))
def keptE_sOf (φ : (List Fd) → (List Bytes) → Br) : List AV → List Ob → Br
  | [.sh (.pair .str .str) l, .fn 135 [.ptr 0 0]], [.var [.ref 1 0], .arr .str 0 false hops] => φ l hops
  | _, _ => .fail
theorem keptE_okOf {φ : (List Fd) → (List Bytes) → Br} (fu : (List Fd) → (List Bytes) → Nat) (hv : ∀ l hops res_, (φ l hops).val = some res_ → keptE_run (fu l hops) l hops = some res_) : Sound Kx 72 (keptE_sOf φ) := sound_lp (C := keptE_C) (O := keptE_O) Tryz.func72 (by kernel_rfl) fun args objs => by
  unfold keptE_sOf; split
  · rename_i l hops; exact .inr fun _ hyp_ => run_lp (Λ := keptE_L (fu l hops)) (by kernel_rfl) (okEach (l' := [keptE_b5]) (by kernel_rfl) ⟨keptE_ok5 _, trivial⟩) (by kernel_rfl) (hv l hops _ hyp_)
  · exact .inl rfl

end
end Go.Proofs.YtdknaddanjpdaaaGreatDoor.Ev
