/- The texts AnyH, Ra, Rb, Rc, Rd, Re, Rf, Rg, Rh, Ri, Rj, Rk, Rl, one behind the other. -/
import Derived.Test.YtdknaddanjpdaaaGreatDoorK23
import Derived.Lib.OthersKept
import Derived.Laws.RangeAny
import Derived.Laws.Runes
import Derived.StillTactics
import Derived.Test.YtdknaddanjpdaaaGreatDoorK12
namespace Go.Proofs.YtdknaddanjpdaaaGreatDoor.Ev
open Go Go.RowKit Go.Proofs Go.Shelf
variable {P : Program} {ρ : Ren}

end Go.Proofs.YtdknaddanjpdaaaGreatDoor.Ev

namespace Go.Proofs.YtdknaddanjpdaaaGreatDoor.Ev
open Go Go.RowKit
set_option linter.unusedVariables false
set_option linter.unusedSimpArgs false
noncomputable section

end
end Go.Proofs.YtdknaddanjpdaaaGreatDoor.Ev

namespace Go.Proofs.YtdknaddanjpdaaaGreatDoor.Ev
open Go Go.RowKit
set_option linter.unusedVariables false
set_option linter.unusedSimpArgs false
noncomputable section

end
end Go.Proofs.YtdknaddanjpdaaaGreatDoor.Ev

namespace Go.Proofs.YtdknaddanjpdaaaGreatDoor.Ev
open Go Go.RowKit
set_option linter.unusedVariables false
set_option linter.unusedSimpArgs false
noncomputable section

end
end Go.Proofs.YtdknaddanjpdaaaGreatDoor.Ev

namespace Go.Proofs.YtdknaddanjpdaaaGreatDoor.Ev
open Go Go.RowKit
set_option linter.unusedVariables false
set_option linter.unusedSimpArgs false
noncomputable section

end
end Go.Proofs.YtdknaddanjpdaaaGreatDoor.Ev

namespace Go.Proofs.YtdknaddanjpdaaaGreatDoor.Ev
open Go Go.RowKit
set_option linter.unusedVariables false
set_option linter.unusedSimpArgs false
noncomputable section

def h11 : Bytes := [72, 84, 84, 80, 47, 49, 46, 49]
end
end Go.Proofs.YtdknaddanjpdaaaGreatDoor.Ev

namespace Go.Proofs.YtdknaddanjpdaaaGreatDoor.Ev
open Go Go.RowKit
set_option linter.unusedVariables false
set_option linter.unusedSimpArgs false
noncomputable section

end
end Go.Proofs.YtdknaddanjpdaaaGreatDoor.Ev

namespace Go.Proofs.YtdknaddanjpdaaaGreatDoor.Ev
open Go Go.RowKit
set_option linter.unusedVariables false
set_option linter.unusedSimpArgs false
noncomputable section

end
end Go.Proofs.YtdknaddanjpdaaaGreatDoor.Ev

namespace Go.Proofs.YtdknaddanjpdaaaGreatDoor.Ev
open Go Go.RowKit
set_option linter.unusedVariables false
set_option linter.unusedSimpArgs false
noncomputable section

end
end Go.Proofs.YtdknaddanjpdaaaGreatDoor.Ev

namespace Go.Proofs.YtdknaddanjpdaaaGreatDoor.Ev
open Go Go.RowKit
set_option linter.unusedVariables false
set_option linter.unusedSimpArgs false
noncomputable section

end
end Go.Proofs.YtdknaddanjpdaaaGreatDoor.Ev

namespace Go.Proofs.YtdknaddanjpdaaaGreatDoor.Ev
open Go Go.RowKit
set_option linter.unusedVariables false
set_option linter.unusedSimpArgs false
noncomputable section

end
end Go.Proofs.YtdknaddanjpdaaaGreatDoor.Ev

namespace Go.Proofs.YtdknaddanjpdaaaGreatDoor.Ev
open Go Go.RowKit
set_option linter.unusedVariables false
set_option linter.unusedSimpArgs false
noncomputable section

def sWithout_O : Opt := { live := [(5, [0, 1, 5, 6])], outs := [(5, [4, 5])] }
def sWithout_C : SC := [⟨45, _, sFieldsOk_okQ⟩, ⟨126, _, ssame_okQ⟩]
def sWithout_T5 (v5x0 : (List Fd)) (v5x1 : Bytes) (v5x2 : Int) (v5x3 : (List Fd)) (kR5 : (List Fd) → Bytes → Int → (List Fd) → Option Rs) (k5e0 : (List Fd) → Option Rs) : Option Rs :=
  (bif (decide (v5x2 < (v5x0.length : Int))) then (bif (decide (0 ≤ v5x2)) then (bif (decide (v5x2 < (v5x0.length : Int))) then (bif ((isM (List.getD v5x0 (Int.toNat v5x2) (([] : Bytes), ([] : Bytes))).1) && (isM v5x1)) then (bif (!(sameP (List.getD v5x0 (Int.toNat v5x2) (([] : Bytes), ([] : Bytes))).1 v5x1)) then (bif (decide (0 ≤ v5x2)) then (bif (decide (v5x2 < (v5x0.length : Int))) then (bif (decide (((v5x3.length + (List.length (List.set (List.replicate 1 (([] : Bytes), ([] : Bytes))) 0 ((List.getD v5x0 (Int.toNat v5x2) (([] : Bytes), ([] : Bytes))).1, (List.getD v5x0 (Int.toNat v5x2) (([] : Bytes), ([] : Bytes))).2)))) * 32) ≤ 140737488355328)) then (kR5 v5x0 v5x1 (wk64 (v5x2 + 1)) (v5x3 ++ (List.set (List.replicate 1 (([] : Bytes), ([] : Bytes))) 0 ((List.getD v5x0 (Int.toNat v5x2) (([] : Bytes), ([] : Bytes))).1, (List.getD v5x0 (Int.toNat v5x2) (([] : Bytes), ([] : Bytes))).2)))) else (none)) else (none)) else (none)) else (kR5 v5x0 v5x1 (wk64 (v5x2 + 1)) v5x3)) else (none)) else (none)) else (none)) else (k5e0 v5x3))
def sWithout_F5 : Nat → (List Fd) → Bytes → Int → (List Fd) → ((List Fd) → Option Rs) → Option Rs
  | 0, _, _, _, _, _ => none
  | n + 1, v5x0, v5x1, v5x2, v5x3, k5e0 => sWithout_T5 v5x0 v5x1 v5x2 v5x3 (fun v5x0 v5x1 v5x2 v5x3 => sWithout_F5 n v5x0 v5x1 v5x2 v5x3 k5e0) k5e0
abbrev sWithout_p5 : SP := ⟨32, [0, 1, 5, 6], [(.v (.sh (Ty.pair Ty.str Ty.str))), (.v .s), (.v (.ref 384 0)), (.v (.i .i64))], [(384, .arr (Ty.pair Ty.str Ty.str) 0 false)]⟩
noncomputable def sWithout_b5 : Code := codeAt (codeOf Tryz.f66) [1, 1, 1, 0, 1, 0, 0]
def sWithout_E5 (f : ((List Fd) → Option Rs) → Option Rs) (k : KT) : Option Rs := f (fun x5x0x0 => k (Ex.exit 0) ((St.mk (slots 0 32 [(5, (AV.ref 384 0))]) ((384, (Ob.arr (Ty.pair Ty.str Ty.str) 0 false x5x0x0)) :: ([] : (List (Nat × (Ob))))))))
def sWithout_G5 (n : Nat) (d : sWithout_p5.D) : KT → Option Rs := sWithout_E5 (sWithout_F5 n d.1.1 d.1.2.1 d.1.2.2.2.1 d.2.1)
def sWithout_L (N : Nat) : Lam := lamOf [⟨5, sWithout_p5, sWithout_G5 N⟩]
theorem sWithout_ok5 (N : Nat) : OkL Kx sWithout_C.s sWithout_O 0 N (sWithout_L N) sWithout_b5 := okL sWithout_p5 (sWithout_G5) (fun d kR => sWithout_E5 (sWithout_T5 d.1.1 d.1.2.1 d.1.2.2.2.1 d.2.1 (fun v5x0 v5x1 v5x2 v5x3 => kR ((v5x0, v5x1, (), v5x2, ()), (v5x3, ()))))) (fun _ _ => by kernel_rfl) (fun _ _ _ => by kernel_rfl) (fun _ _ => by kernel_rfl) (fun _ _ _ _ => by kernel_rfl) (okEach (l' := []) (by kernel_rfl) trivial)
def sWithout_run (N : Nat) (l : List Fd) (nm : Bytes) : Option Rs := (bif (!(fdsOk l)) then (some ((AV.ref 0 0), ((Ob.arr (Ty.pair Ty.str Ty.str) 0 false ([] : (List Fd))) :: []))) else (sWithout_F5 N l nm 0 ([] : (List Fd)) (fun x5x0x0 => (some ((AV.ref 0 0), ((Ob.arr (Ty.pair Ty.str Ty.str) 0 false x5x0x0) :: []))))))
def sWithout_sOf (φ : (List Fd) → Bytes → Br) : List AV → List Ob → Br
  | [.sh (.pair .str .str) l, .str nm], [] => φ l nm
  | _, _ => .fail
theorem sWithout_okOf {φ : (List Fd) → Bytes → Br} (fu : (List Fd) → Bytes → Nat) (hv : ∀ l nm res_, (φ l nm).val = some res_ → sWithout_run (fu l nm) l nm = some res_) : Sound Kx 66 (sWithout_sOf φ) := sound_lp (C := sWithout_C) (O := sWithout_O) Tryz.func66 (by kernel_rfl) fun args objs => by
  unfold sWithout_sOf; split
  · rename_i l nm; exact .inr fun _ hyp_ => run_lp (Λ := sWithout_L (fu l nm)) (by kernel_rfl) (okEach (l' := [sWithout_b5]) (by kernel_rfl) ⟨sWithout_ok5 _, trivial⟩) (by kernel_rfl) (hv l nm _ hyp_)
  · exact .inl rfl

end
end Go.Proofs.YtdknaddanjpdaaaGreatDoor.Ev

namespace Go.Proofs.YtdknaddanjpdaaaGreatDoor.Ev
open Go Go.RowKit
set_option linter.unusedVariables false
set_option linter.unusedSimpArgs false
noncomputable section

theorem fdsOk_of {l : List Fd} (h : fdsOk l = true) (p : Fd → Bool) : fdsOk (l.filter p) = true := by
  obtain ⟨h1, h2⟩ := fdsOk_mem h
  unfold fdsOk
  rw [Bool.and_eq_true, decide_eq_true_eq, List.all_eq_true]
  exact ⟨Nat.le_trans (List.length_filter_le ..) h1, fun f hf => h2 f (List.mem_filter.1 hf).1⟩
def withP (l : List Fd) (nm : Bytes) : List Fd := bif fdsOk l then l.filter (fun f => !sameP f.1 nm) else []
theorem apF (out : List Fd) (x : Fd) (h : out.length ≤ 1000000) : decide ((out.length + (List.set (List.replicate 1 (([] : Bytes), ([] : Bytes))) 0 x).length) * 32 ≤ 140737488355328) = true := decide_eq_true (by rw [List.length_set, List.length_replicate]; omega)
theorem sWithout_loop (nm : Bytes) (hm : isM nm = true) (l : List Fd) (hl : l.length ≤ 20) (k : List Fd → Option Rs) : ∀ (r : List Fd) (i : Int) (n : Nat) (out : List Fd), At l i r → r.length < n → (∀ f ∈ r, fdOk f = true) → out.length + r.length ≤ 20 →
    sWithout_F5 n l nm i out k = k (out ++ r.filter fun f => !sameP f.1 nm) := by
  intro r; induction r with
  | nil => intro i n out h hn hf ho; obtain ⟨n, rfl⟩ := fuel hn; unfold sWithout_F5 sWithout_T5; rw [h.dge, cond_false]; simp
  | cons f r ih =>
    intro i n out h hn hf ho; obtain ⟨n, rfl⟩ := fuel hn
    simp only [List.length_cons] at hn ho
    have hm1 := (fdOk_isM (hf f (List.mem_cons_self ..))).1
    have hr := fun x hx => hf x (List.mem_cons_of_mem _ hx)
    unfold sWithout_F5 sWithout_T5
    simp only [h.dlt, h.dnn, h.get, h.next (by omega), hm, hm1, Bool.and_self, cond_true]
    rw [List.filter_cons]
    cases sameP f.1 nm
    · simp only [Bool.not_false, cond_true, if_true]
      rw [apF out _ (by omega), cond_true, ih (i + 1) n _ h.step (by omega) hr (by rw [List.length_append, List.length_set, List.length_replicate]; omega)]
      simp
    · simp only [Bool.not_true, cond_false]
      exact ih (i + 1) n _ h.step (by omega) hr (by omega)
def wi_s : List AV → List Ob → Br
  | [.sh (.pair .str .str) l, .str nm], [] => .ite (isM nm) (.ret (.ref 0 0) [.arr (.pair .str .str) 0 false (withP l nm)]) .fail
  | _, _ => .fail
theorem sWithout_okQ : Sound Kx 66 wi_s := by
  refine (sWithout_okOf (φ := fun l nm => .ite (isM nm) (.ret (.ref 0 0) [.arr (.pair .str .str) 0 false (withP l nm)]) .fail) (fun l _ => l.length + 1) fun l nm r h => ?_).of fun args objs r h => ?_
  · obtain ⟨h1, h2⟩ := ite_some h
    cases h2
    unfold sWithout_run withP
    cases hf : fdsOk l
    · rfl
    · obtain ⟨g1, g2⟩ := fdsOk_mem hf
      exact sWithout_loop nm h1 l g1 _ l 0 _ [] (At.start l) (by omega) g2 (by rw [List.length_nil]; omega)
  · unfold wi_s at h; split at h
    · exact h
    · cases h
end
end Go.Proofs.YtdknaddanjpdaaaGreatDoor.Ev
