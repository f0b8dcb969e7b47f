/- The texts Sd, Se, Sf, Sg, Sh, Si, Sj, Qp, Sk, Sl, Qq, Qr, Qs, Qt, one behind the other. -/
import Derived.Test.YtgknmoadpgpdeaaGreatDoorK33
import Derived.Test.YtgknmoadpgpdeaaGreatDoorK34
import Derived.Test.YtgknmoadpgpdeaaGreatDoorK13
import Derived.Test.YtgknmoadpgpdeaaGreatDoorK29
import Derived.Test.YtgknmoadpgpdeaaGreatDoorK30
import Derived.Test.YtgknmoadpgpdeaaGreatDoorK17
namespace Go.Proofs.YtgknmoadpgpdeaaGreatDoor.Ev
open Go Go.RowKit
set_option linter.unusedVariables false
set_option linter.unusedSimpArgs false
noncomputable section


end
end Go.Proofs.YtgknmoadpgpdeaaGreatDoor.Ev

namespace Go.Proofs.YtgknmoadpgpdeaaGreatDoor.Ev
open Go Go.RowKit
set_option linter.unusedVariables false
set_option linter.unusedSimpArgs false
noncomputable section

end
end Go.Proofs.YtgknmoadpgpdeaaGreatDoor.Ev

namespace Go.Proofs.YtgknmoadpgpdeaaGreatDoor.Ev
open Go Go.RowKit
set_option linter.unusedVariables false
set_option linter.unusedSimpArgs false
noncomputable section

end
end Go.Proofs.YtgknmoadpgpdeaaGreatDoor.Ev

namespace Go.Proofs.YtgknmoadpgpdeaaGreatDoor.Ev
open Go Go.RowKit
set_option linter.unusedVariables false
set_option linter.unusedSimpArgs false
set_option linter.defProp false
set_option maxRecDepth 20000
noncomputable section

def cdQ {α : Type} (ra : α → AV) (ro : α → List Ob) (D : List Int → α) : List AV → List Ob → Br
  | [.sh (.int .u8) code], [] => .ite (decide (code.length ≤ 281474976710656)) (.ret (ra (D code)) (ro (D code))) .fail
  | _, _ => .fail
theorem cd_ex {α : Type} {n : Nat} {s : List AV → List Ob → Br} (hs : Sound Kx n s) (ra : α → AV) (ro : α → List Ob) (d0 : α) (P : α → Prop)
    (h : ∀ code, code.length ≤ 281474976710656 → ∃ v, (s [.sh (.int .u8) code] []).val = some (ra v, ro v) ∧ P v) : ∃ D : List Int → α, (∀ code, code.length ≤ 281474976710656 → P (D code)) ∧ Sound Kx n (cdQ ra ro D) := by
  open Classical in
  refine ⟨fun code => if hl : code.length ≤ 281474976710656 then (h code hl).choose else d0, fun code hl => ?_, hs.of fun args objs r hv => ?_⟩
  · simp only [dif_pos hl]; exact (h code hl).choose_spec.2
  · unfold cdQ at hv
    split at hv
    · rename_i code
      obtain ⟨h1, h2⟩ := ite_some hv
      have h3 := of_decide_eq_true h1
      rw [← h2]
      simp only [dif_pos h3]
      exact (h code h3).choose_spec.1
    · cases hv
theorem weak_leaf {a b : Bytes} (h1 : a.length ≤ 1000) (h2 : b.length ≤ 2000) : Vq (fun o => ∃ v : Bytes × Bytes, o = some (.tup [.str v.1, .str v.2], []) ∧ v.1.length ≤ 1000 ∧ v.2.length ≤ 2000) (.ret (.tup [.str a, .str b]) []) := ⟨(a, b), rfl, h1, h2⟩
def weak_ex := cd_ex dWeak_ok (fun p : Bytes × Bytes => .tup [.str p.1, .str p.2]) (fun _ => []) ([], []) (fun p => p.1.length ≤ 1000 ∧ p.2.length ≤ 2000) fun code hl => by
  show Vq (fun o => ∃ v : Bytes × Bytes, o = some (.tup [.str v.1, .str v.2], []) ∧ v.1.length ≤ 1000 ∧ v.2.length ≤ 2000) (dWeak_br code)
  have hc := okC0 hl
  have ht := tagV_len code
  unfold dWeak_br
  repeat' (first | with_reducible refine vq_chk ?_ ?_ | with_reducible refine vq_ite (fun _ => ?_) (fun _ => ?_))
  all_goals first
    | ((repeat (first | exact hc | exact c1 | exact c2 | exact c3 | exact q1 | with_reducible apply okC_bel | with_reducible apply okC_of | with_reducible apply okC_next)); done)
    | exact decide_eq_true hl
    | (simp only [Bool.and_true, List.length_cons, List.length_nil, List.length_set, List.length_replicate]; (repeat (first | exact hc | exact c1 | exact c2 | exact c3 | exact q1 | with_reducible apply okC_bel | with_reducible apply okC_of | with_reducible apply okC_next)); done)
    | (rw [decide_eq_true_eq]; simp only [List.length_append, List.length_cons, List.length_nil, ofS_len]; omega)
    | (rw [decide_eq_true_eq]; omega)
    | (refine weak_leaf ?_ ?_ <;> (try simp only [List.length_append, List.length_cons, List.length_nil, ofS_len]) <;> omega)
    | skip
  all_goals trace_state
def weakD := weak_ex.choose
def dWeak_q : List AV → List Ob → Br := cdQ (fun p : Bytes × Bytes => .tup [.str p.1, .str p.2]) (fun _ => []) weakD
theorem dWeak_okQ : Sound Kx 22 dWeak_q := weak_ex.choose_spec.2
theorem weakD_in {code : List Int} (h : code.length ≤ 281474976710656) : (weakD code).1.length ≤ 1000 ∧ (weakD code).2.length ≤ 2000 := weak_ex.choose_spec.1 code h

end
end Go.Proofs.YtgknmoadpgpdeaaGreatDoor.Ev

namespace Go.Proofs.YtgknmoadpgpdeaaGreatDoor.Ev
open Go Go.RowKit
set_option linter.unusedVariables false
set_option linter.unusedSimpArgs false
end Go.Proofs.YtgknmoadpgpdeaaGreatDoor.Ev

namespace Go.Proofs.YtgknmoadpgpdeaaGreatDoor.Ev
open Go Go.RowKit
set_option linter.unusedVariables false
set_option linter.unusedSimpArgs false
noncomputable section

def keep_br  : Br := (Br.ret (AV.agg ((AV.str ([104, 116, 116, 112, 58, 47, 47, 97, 46, 98, 47] : Bytes)) :: ((AV.int .i64 100) :: ((AV.int .i64 101) :: ((AV.ref 1 0) :: ((AV.str ([] : Bytes)) :: ((AV.str ([] : Bytes)) :: ((AV.int .i64 200) :: ((AV.str ([79, 75] : Bytes)) :: ((AV.bool false) :: ((AV.ref 0 0) :: ((AV.str ([111, 110, 101] : Bytes)) :: [])))))))))))) ((Ob.arr (Ty.pair Ty.str Ty.str) 0 false (List.set (List.set (List.replicate 2 (([] : Bytes), ([] : Bytes))) 0 (([69, 84, 97, 103] : Bytes), ([34, 116, 34] : Bytes))) 1 (([67, 97, 99, 104, 101, 45, 67, 111, 110, 116, 114, 111, 108] : Bytes), ([109, 97, 120, 45, 97, 103, 101, 61, 49, 48] : Bytes)))) :: ((Ob.arr (Ty.pair Ty.str Ty.str) 0 false ([] : (List Fd))) :: [])))
def keep_s : List AV → List Ob → Br
  | [], [] => keep_br 
  | _, _ => .fail
theorem keep_ok : Sound Kx 77 keep_s := sound_br (C := []) (O := O0) Tryz.func77 (by kernel_rfl) fun args objs => by
  unfold keep_s; split
  · exact .inr (by kernel_rfl)
  · exact .inl rfl

def iSafe_br (m : Bytes) : Br := (Br.ite (decide (m = ([71, 69, 84] : Bytes))) (Br.ret (AV.bool true) []) (Br.ite (decide (m = ([72, 69, 65, 68] : Bytes))) (Br.ret (AV.bool true) []) (Br.ite (decide (m = ([79, 80, 84, 73, 79, 78, 83] : Bytes))) (Br.ret (AV.bool true) []) (Br.ret (AV.bool (decide (m = ([84, 82, 65, 67, 69] : Bytes)))) []))))
def iSafe_s : List AV → List Ob → Br
  | [.str m], [] => iSafe_br m
  | _, _ => .fail
theorem iSafe_ok : Sound Kx 78 iSafe_s := sound_br (C := []) (O := O0) Tryz.func78 (by kernel_rfl) fun args objs => by
  unfold iSafe_s; split
  · exact .inr (by kernel_rfl)
  · exact .inl rfl

def picks_C : SC := [⟨77, _, keep_ok⟩, ⟨30, _, iVali_okQ⟩, ⟨33, _, iUnm_okQ⟩, ⟨25, _, iWeak_okQ⟩, ⟨35, _, iChosen_okQ⟩, ⟨78, _, iSafe_ok⟩]
def picks_br  : Br := (Br.ite (decide (((List.length (vdP (([104, 116, 116, 112, 58, 47, 47, 97, 46, 98, 47] : Bytes), (100, (101, (([] : (List Fd)), (([] : Bytes), (([] : Bytes), (200, (([79, 75] : Bytes), (false, ((List.set (List.set (List.replicate 2 (([] : Bytes), ([] : Bytes))) 0 (([69, 84, 97, 103] : Bytes), ([34, 116, 34] : Bytes))) 1 (([67, 97, 99, 104, 101, 45, 67, 111, 110, 116, 114, 111, 108] : Bytes), ([109, 97, 120, 45, 97, 103, 101, 61, 49, 48] : Bytes))), ([111, 110, 101] : Bytes))))))))))))) : Int) = 1)) (Br.ite (decide (0 < ((List.length (vdP (([104, 116, 116, 112, 58, 47, 47, 97, 46, 98, 47] : Bytes), (100, (101, (([] : (List Fd)), (([] : Bytes), (([] : Bytes), (200, (([79, 75] : Bytes), (false, ((List.set (List.set (List.replicate 2 (([] : Bytes), ([] : Bytes))) 0 (([69, 84, 97, 103] : Bytes), ([34, 116, 34] : Bytes))) 1 (([67, 97, 99, 104, 101, 45, 67, 111, 110, 116, 114, 111, 108] : Bytes), ([109, 97, 120, 45, 97, 103, 101, 61, 49, 48] : Bytes))), ([111, 110, 101] : Bytes))))))))))))) : Int))) (Br.ite (decide ((List.getD (vdP (([104, 116, 116, 112, 58, 47, 47, 97, 46, 98, 47] : Bytes), (100, (101, (([] : (List Fd)), (([] : Bytes), (([] : Bytes), (200, (([79, 75] : Bytes), (false, ((List.set (List.set (List.replicate 2 (([] : Bytes), ([] : Bytes))) 0 (([69, 84, 97, 103] : Bytes), ([34, 116, 34] : Bytes))) 1 (([67, 97, 99, 104, 101, 45, 67, 111, 110, 116, 114, 111, 108] : Bytes), ([109, 97, 120, 45, 97, 103, 101, 61, 49, 48] : Bytes))), ([111, 110, 101] : Bytes)))))))))))) 0 (([] : Bytes), ([] : Bytes))).2 = ([34, 116, 34] : Bytes))) (Br.ite (unmP (vdP (([104, 116, 116, 112, 58, 47, 47, 97, 46, 98, 47] : Bytes), (100, (101, (([] : (List Fd)), (([] : Bytes), (([] : Bytes), (200, (([79, 75] : Bytes), (false, ((List.set (List.set (List.replicate 2 (([] : Bytes), ([] : Bytes))) 0 (([69, 84, 97, 103] : Bytes), ([34, 116, 34] : Bytes))) 1 (([67, 97, 99, 104, 101, 45, 67, 111, 110, 116, 114, 111, 108] : Bytes), ([109, 97, 120, 45, 97, 103, 101, 61, 49, 48] : Bytes))), ([111, 110, 101] : Bytes)))))))))))) (([104, 116, 116, 112, 58, 47, 47, 97, 46, 98, 47] : Bytes), (100, (101, (([] : (List Fd)), (([] : Bytes), (([] : Bytes), (200, (([79, 75] : Bytes), (false, ((List.set (List.set (List.replicate 2 (([] : Bytes), ([] : Bytes))) 0 (([69, 84, 97, 103] : Bytes), ([34, 116, 34] : Bytes))) 1 (([67, 97, 99, 104, 101, 45, 67, 111, 110, 116, 114, 111, 108] : Bytes), ([109, 97, 120, 45, 97, 103, 101, 61, 49, 48] : Bytes))), ([111, 110, 101] : Bytes)))))))))))) (Br.ite (chosenP (([104, 116, 116, 112, 58, 47, 47, 97, 46, 98, 47] : Bytes), (100, (101, (([] : (List Fd)), (([] : Bytes), (([] : Bytes), (200, (([79, 75] : Bytes), (false, ((List.set (List.set (List.replicate 2 (([] : Bytes), ([] : Bytes))) 0 (([69, 84, 97, 103] : Bytes), ([34, 116, 34] : Bytes))) 1 (([67, 97, 99, 104, 101, 45, 67, 111, 110, 116, 114, 111, 108] : Bytes), ([109, 97, 120, 45, 97, 103, 101, 61, 49, 48] : Bytes))), ([111, 110, 101] : Bytes))))))))))) ([] : (List Fd))) (Br.ret (AV.bool true) []) (Br.ret (AV.bool false) [])) (Br.ret (AV.bool false) [])) (Br.ret (AV.bool false) [])) Br.fail) (Br.ret (AV.bool false) []))
def picks_s : List AV → List Ob → Br
  | [], [] => picks_br 
  | _, _ => .fail
theorem picks_ok : Sound Kx 28 picks_s := sound_br (C := picks_C) (O := O0) Tryz.func28 (by kernel_rfl) fun args objs => by
  unfold picks_s; split
  · exact .inr (by kernel_rfl)
  · exact .inl rfl

def lwith_br (s t : Bytes) : Br := (Br.ite (decide ((s.length : Int) ≤ (t.length : Int))) (Br.ite (decide (0 ≤ (s.length : Int))) (Br.ite (decide ((s.length : Int) ≤ (t.length : Int))) (Br.ret (AV.bool (decide ((cut t 0 (s.length : Int)) = s))) []) Br.fail) Br.fail) (Br.ret (AV.bool false) []))
def lwith_s : List AV → List Ob → Br
  | [.str s, .str t], [] => lwith_br s t
  | _, _ => .fail
theorem lwith_ok : Sound Kx 26 lwith_s := sound_br (C := []) (O := O0) Tryz.func26 (by kernel_rfl) fun args objs => by
  unfold lwith_s; split
  · exact .inr (by kernel_rfl)
  · exact .inl rfl

end
end Go.Proofs.YtgknmoadpgpdeaaGreatDoor.Ev

namespace Go.Proofs.YtgknmoadpgpdeaaGreatDoor.Ev
open Go Go.RowKit
set_option linter.unusedVariables false
set_option linter.unusedSimpArgs false
set_option maxRecDepth 20000
noncomputable section
theorem picks_val : picks_br.val = some (.bool true, []) := by
  unfold picks_br
  refine (val_t (decide_eq_true (show ((List.length (vdP keE) : Nat) : Int) = 1 from by rw [ke_v]; rfl))).trans ?_
  refine (val_t (decide_eq_true (show (0 : Int) < ((List.length (vdP keE) : Nat) : Int) from by rw [ke_v]; decide))).trans ?_
  refine (val_t (decide_eq_true (show (List.getD (vdP keE) 0 (([] : Bytes), ([] : Bytes))).2 = [34, 116, 34] from by rw [ke_v]; rfl))).trans ?_
  refine (val_t (show unmP (vdP keE) keE = true from by rw [ke_v]; exact ke_u)).trans ?_
  refine (val_t (show chosenP keE [] = true from ke_c)).trans ?_
  rfl
def pk_s : List AV → List Ob → Br
  | [], [] => .ret (.bool true) []
  | _, _ => .fail
theorem picks_okQ : Sound Kx 28 pk_s := picks_ok.of fun args objs r h => by
  unfold pk_s at h
  split at h
  · rw [← h]; exact picks_val
  · cases h

def lTags_C : SC := [⟨22, _, dWeak_okQ⟩, ⟨23, _, iTag_okQ⟩, ⟨24, _, sTag_okQ⟩, ⟨25, _, iWeak_okQ⟩, ⟨27, _, sWeak_okQ⟩, ⟨28, _, picks_okQ⟩, ⟨26, _, lwith_ok⟩]
def lTags_br (code : List Int) : Br := (Br.ite (decide (code.length ≤ 281474976710656)) (Br.ite (!((tagP (weakD code).1) == (tagP (weakD code).1))) (Br.ret (AV.bool false) []) (Br.ite (!((weakP (weakD code).1 (weakD code).2) == (weakP (weakD code).2 (weakD code).1))) (Br.ret (AV.bool false) []) (Br.ite (!((weakP (weakD code).1 (weakD code).1) == (tagP (weakD code).1))) (Br.ret (AV.bool false) []) (Br.ite (tagP (weakD code).1) (Br.ite (decide (((List.length (weakD code).1) : Int) < 189)) (Br.ite (decide (2 ≤ ((List.length (weakD code).1) : Int))) (Br.ite (decide (2 ≤ ((List.length (weakD code).1) : Int))) (Br.ite (!(decide ((cut (weakD code).1 0 2) = ([87, 47] : Bytes)))) (Br.ite (decide ((2 + (List.length (weakD code).1)) ≤ 9223372036854775807)) (Br.ite (!(weakP (([87, 47] : Bytes) ++ (weakD code).1) (weakD code).1)) (Br.ret (AV.bool false) []) (Br.ite ((weakP (weakD code).1 (weakD code).2) == (weakP (weakD code).1 (weakD code).2)) (Br.ret (AV.bool true) []) (Br.ret (AV.bool false) []))) Br.fail) (Br.ite ((weakP (weakD code).1 (weakD code).2) == (weakP (weakD code).1 (weakD code).2)) (Br.ret (AV.bool true) []) (Br.ret (AV.bool false) []))) Br.fail) (Br.ite (decide ((2 + (List.length (weakD code).1)) ≤ 9223372036854775807)) (Br.ite (!(weakP (([87, 47] : Bytes) ++ (weakD code).1) (weakD code).1)) (Br.ret (AV.bool false) []) (Br.ite ((weakP (weakD code).1 (weakD code).2) == (weakP (weakD code).1 (weakD code).2)) (Br.ret (AV.bool true) []) (Br.ret (AV.bool false) []))) Br.fail)) (Br.ite ((weakP (weakD code).1 (weakD code).2) == (weakP (weakD code).1 (weakD code).2)) (Br.ret (AV.bool true) []) (Br.ret (AV.bool false) []))) (Br.ite ((weakP (weakD code).1 (weakD code).2) == (weakP (weakD code).1 (weakD code).2)) (Br.ret (AV.bool true) []) (Br.ret (AV.bool false) [])))))) Br.fail)
def lTags_s : List AV → List Ob → Br
  | [.sh (.int .u8) code], [] => lTags_br code
  | _, _ => .fail
theorem lTags_ok : Sound Kx 5 lTags_s := sound_br (C := lTags_C) (O := O0) Tryz.func5 (by kernel_rfl) fun args objs => by
  unfold lTags_s; split
  · exact .inr (by kernel_rfl)
  · exact .inl rfl

end
end Go.Proofs.YtgknmoadpgpdeaaGreatDoor.Ev

namespace Go.Proofs.YtgknmoadpgpdeaaGreatDoor.Ev
open Go Go.RowKit
set_option linter.unusedVariables false
set_option linter.unusedSimpArgs false
set_option maxRecDepth 20000
noncomputable section
theorem cut2 (a : Bytes) : Ev.cut a 0 2 = a.take 2 := by unfold Ev.cut; simp
theorem lTags_val (code : List Int) (hl : code.length ≤ 281474976710656) : (lTags_br code).val = some (.bool true, []) := by
  obtain ⟨h1, h2⟩ := weakD_in hl
  unfold lTags_br
  generalize weakD code = p at *
  obtain ⟨a, b⟩ := p
  simp only at h1 h2 ⊢
  have e1 : weakP b a = weakP a b := weak_comm b a
  have e2 := weak_self a
  have e3 : decide (2 + a.length ≤ 9223372036854775807) = true := decide_eq_true (by omega)
  refine (val_t (decide_eq_true hl)).trans ?_
  rw [e1, e2]
  simp only [beq_self_eq_true, Bool.not_true, Br.val, e3]
  cases ht : tagP a
  · rfl
  simp only []
  by_cases c1 : (a.length : Int) < 189
  · rw [decide_eq_true c1]
    simp only []
    by_cases c2 : (2 : Int) ≤ (a.length : Int)
    · rw [decide_eq_true c2]
      simp only []
      by_cases c3 : Ev.cut a 0 2 = [87, 47]
      · rw [decide_eq_true c3]; rfl
      · rw [decide_eq_false c3]
        have hw := weak_W ht c1 (by rw [cut2] at c3; rw [decide_eq_false c3, Bool.and_false])
        simp only [Bool.not_false, hw, Bool.not_true]
    · rw [decide_eq_false c2]
      have hw := weak_W ht c1 (by rw [decide_eq_false (show ¬ 2 ≤ a.length by omega), Bool.false_and])
      simp only [hw, Bool.not_true]
  · rw [decide_eq_false c1]
theorem code_sm {x : List Int} (h : Good (.slice (.int .u8)) x) : x.length ≤ 281474976710656 := by
  have e : reachBytes = 140737488351232 := rfl
  have := h.1
  rw [e] at this
  omega
theorem fnTags_true (xs : List AV) (h : Args [(.slice (.int .u8), false)] xs) : (lTags_s xs []).val = some (.bool true, []) := by
  obtain ⟨code, a', g, rfl, rfl⟩ := h
  exact lTags_val code (code_sm g)
end
end Go.Proofs.YtgknmoadpgpdeaaGreatDoor.Ev
