/- The texts ItoaS, ExtM, JoinS, CutS, one behind the other. -/
import Derived.Test.YtdknaddanjpdaaaGreatDoorK12
import Derived.Test.YtdknaddanjpdaaaGreatDoorK15
namespace Go.Proofs.YtdknaddanjpdaaaGreatDoor.Ev
open Go Go.RowKit
set_option linter.unusedVariables false
set_option linter.unusedSimpArgs false

noncomputable def decD : Int → Bytes := sealed fun n => Lib.decDigits n.toNat
theorem decD_eq (n : Int) : decD n = Lib.decDigits n.toNat := by unfold decD; rw [sealed_eq]
def num15 (n : Int) : Bool := decide (0 ≤ n) && decide (n ≤ 999999999999999)
noncomputable def itoa_s : List AV → List Ob → Br
  | [.int .i64 n], [] => .ite (num15 n) (.ret (.str (decD n)) []) .fail
  | _, _ => .fail
theorem tab_there : (Tryz.prog.globalNamed "internal/strconv.uint64pow10").isNone = false := by kernel_rfl
theorem below_draws (w : World) (k : Nat) (os : Array Obj) : Below w.heap.size w (Go.Sort.grow (w.drewN k) os) :=
  ⟨rfl, rfl, rfl, by show w.heap.size ≤ (w.heap ++ os).size; rw [Array.size_append]; omega, fun j hj => Go.Sort.heap_grow_old (w.drewN k) os (by exact hj)⟩
theorem itoa_ok : Sound Kx 189 itoa_s := by
  refine sound_calls Tryz.func189 (by kernel_rfl) rfl fun args objs res objs' hv w L vs hR hr => ?_
  unfold itoa_s at hv
  split at hv
  case h_2 => cases hv
  rename_i n
  obtain ⟨h1, h2⟩ := ite_some hv
  simp only [num15, Bool.and_eq_true, decide_eq_true_eq] at h1
  cases h2
  refine ⟨rfl, ?_⟩
  simp only [rels, rel] at hr
  obtain ⟨v, vs', rfl, rfl, rfl⟩ := hr
  have ht : Tab10 w := by
    rcases hR.g.1 with h | h
    · have := tab_there; rw [h] at this; cases this
    · exact h
  refine (Tryz.strconv_Itoa n (by omega) (by omega) w ht).mono ?_
  rintro e w' ⟨rfl, k, os, rfl⟩
  refine ⟨_, rfl, below_draws w k os, ?_⟩
  simp only [rel]
  rw [decD_eq]
  unfold Lib.itoa
  rw [if_neg (by omega)]
end Go.Proofs.YtdknaddanjpdaaaGreatDoor.Ev

namespace Go.Proofs.YtdknaddanjpdaaaGreatDoor.Ev
open Go Go.RowKit
set_option linter.unusedVariables false
set_option linter.unusedSimpArgs false
noncomputable section

def joinP (l : List Bytes) (sep : Bytes) : Bytes := Lib.join l sep
def join_s : List AV → List Ob → Br
  | [.sh .str l, .str sep], [] => .ite (decide (l.length ≤ 1000000) && decide ((joinP l sep).length ≤ 1000000)) (.ret (.str (joinP l sep)) []) .fail
  | _, _ => .fail
theorem join_okQ : Sound Kx 165 join_s := by
  refine sound_calls Tryz.func165 (by kernel_rfl) rfl fun args objs res objs' hv w L vs hR hr => ?_
  unfold join_s at hv
  split at hv
  case h_2 => cases hv
  rename_i l sep
  obtain ⟨h1, h2⟩ := ite_some hv
  cases h2
  simp only [Bool.and_eq_true, decide_eq_true_eq] at h1
  refine ⟨rfl, ?_⟩
  simp only [rels, rel, rd] at hr
  obtain ⟨v, vs', rfl, ⟨a, n, c, hv1, rfl, hc, hq⟩, v2, vs2, rfl, rfl, rfl⟩ := hr
  obtain rfl : v = .slice a l.length c := by simpa using hv1
  by_cases hl : l = []
  · subst hl
    refine (Tryz.strings_Join_none a c ⟨sep.toArray⟩ w).mono ?_
    rintro e w' ⟨rfl, rfl⟩
    exact ⟨_, rfl, Below.refl _ _, by simp only [rel]; rfl⟩
  · rcases hq with hq | ⟨b, o, rfl, hq⟩
    · exact absurd hq hl
    have hcell : ∀ (j : Nat) x, (l.map fun s => (⟨s.toArray⟩ : ByteArray))[j]? = some x → w.cell? ⟨b, o + j, none⟩ = some (.string x) := by
      intro j x hx
      rw [List.getElem?_map] at hx
      obtain ⟨s, hs, rfl⟩ := Option.map_eq_some_iff.1 hx
      obtain ⟨hj, rfl⟩ := List.getElem?_eq_some_iff.1 hs
      obtain ⟨ds, g1, rfl, g3⟩ := hq j hj
      have := (g3 0 (by decide)).1
      simp only [Ty.size, Ty.cts, List.length_singleton, Nat.mul_one, Nat.add_zero] at this
      rw [this]; rfl
    have hmap : (l.map fun s => (⟨s.toArray⟩ : ByteArray)).map (·.data.toList) = l := by
      rw [List.map_map]; conv => rhs; rw [← List.map_id l]
      exact List.map_congr_left fun s _ => rfl
    have hlt : b < w.heap.size := World.block_lt_of_cell? w ⟨b, o + 0, none⟩ (hcell 0 ⟨(l[0]'(List.length_pos_iff.2 hl)).toArray⟩ (by simp [List.length_pos_iff.2 hl]))
    have := Tryz.strings_Join b o c (l.map fun s => ⟨s.toArray⟩) ⟨sep.toArray⟩ w hcell hlt (by rw [List.length_map]; omega) (by rw [List.length_map]; exact hc) (by rw [hmap]; have := h1.2; unfold joinP at this; show (Lib.join l sep).length ≤ _; omega)
    rw [List.length_map] at this
    refine this.mono ?_
    rintro e w' ⟨rfl, hb⟩
    refine ⟨_, rfl, hb, ?_⟩
    simp only [rel]
    rw [hmap]; rfl
def cutP (s sep : Bytes) : Bytes × Bytes × Bool := Lib.cut s sep
def cut_s : List AV → List Ob → Br
  | [.str s, .str sep], [] => .ite (decide (s.length ≤ 1000000)) (.ret (.tup [.str (cutP s sep).1, .str (cutP s sep).2.1, .bool (cutP s sep).2.2]) []) .fail
  | _, _ => .fail
theorem cut_okQ : Sound Kx 177 cut_s := by
  refine sound_calls Tryz.func177 (by kernel_rfl) rfl fun args objs res objs' hv w L vs hR hr => ?_
  unfold cut_s at hv
  split at hv
  case h_2 => cases hv
  rename_i s sep
  obtain ⟨h1, h2⟩ := ite_some hv
  cases h2
  rw [decide_eq_true_eq] at h1
  refine ⟨rfl, ?_⟩
  simp only [rels, rel] at hr
  obtain ⟨v, vs', rfl, rfl, v2, vs2, rfl, rfl, rfl⟩ := hr
  obtain ⟨m, hm⟩ := hR.g.2.1 0 (by kernel_rfl)
  refine (Tryz.strings_Cut ⟨s.toArray⟩ ⟨sep.toArray⟩ m w (by show s.toArray.size < _; simp; omega) hm).mono ?_
  rintro e w' ⟨rfl, n, rfl⟩
  refine ⟨_, rfl, ⟨rfl, rfl, rfl, Nat.le_refl _, fun _ _ => rfl⟩, ?_⟩
  simp only [rel, rels]
  exact ⟨_, rfl, _, _, rfl, rfl, _, _, rfl, rfl, _, _, rfl, rfl, rfl⟩
end
end Go.Proofs.YtdknaddanjpdaaaGreatDoor.Ev
