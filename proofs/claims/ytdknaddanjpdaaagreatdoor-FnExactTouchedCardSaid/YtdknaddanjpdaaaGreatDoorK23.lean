/- The texts AnyH, Ra, Rb, Rc, Rd, Re, Rf, Rg, Rh, Ri, Rj, Rk, Rl, Rm, Rn, Ro, Rp, Rq, Rr, Rs, Rt, one behind the other. -/
import Derived.Test.YtdknaddanjpdaaaGreatDoorK22
import Derived.Lib.OthersKept
import Derived.Laws.RangeAny
import Derived.Laws.Runes
import Derived.StillTactics
import Derived.Test.YtdknaddanjpdaaaGreatDoorK12
namespace Go.Proofs.YtdknaddanjpdaaaGreatDoor.Ev
open Go Go.RowKit Go.Proofs Go.Shelf
variable {P : Program} {ρ : Ren}

def crlfB : ByteArray := ⟨#[13, 10]⟩
set_option maxHeartbeats 8000000 in
set_option maxRecDepth 1000000 in
theorem ixRune_high (L : Lays.n152 P ρ) (r : Int) (w : World) (h1 : 128 ≤ r) :
    Calls P (ρ.f 152) #[.string crlfB, .int .i32 r] w fun e w' => e = .returned (.int .i64 (-1)) ∧ Below w.heap.size w w' := by
  have mixed := L.mixed
  have t3 := L.t3; have a3 := L.a3; have z3 := L.z3; have v3 := L.v3
  have t4 := L.t4; have a4 := L.a4; have z4 := L.z4; have v4 := L.v4
  have t5 := L.t5; have a5 := L.a5; have z5 := L.z5; have v5 := L.v5
  have t9 := L.t9; have a9 := L.a9; have z9 := L.z9; have v9 := L.v9
  have t21 := L.t21; have a21 := L.a21; have z21 := L.z21; have v21 := L.v21
  have e137 : ∀ args w, (callFunc (ρ.f 137) args).run P w = .ok (.enter (ρ.f 137) args) w := enters_of L.f137 (by kernel_rfl) rfl
  have e119 : ∀ args w, (callFunc (ρ.f 119) args).run P w = .ok (.enter (ρ.f 119) args) w := enters_of L.f119 (by kernel_rfl) rfl
  have h128 : decide (r < 128) = false := decide_eq_false (by omega)
  have h0 : decide ((0 : Int) ≤ r) = true := decide_eq_true (by omega)
  have hsz : crlfB.size = 2 := rfl
  by_cases hr : r = 65533
  · subst hr
    go_enter L.f152, Body.n152_ntmps ρ
    go_wp2
    go_loopg [5, 6] 2 (fun g _ _ wx => ∃ i : Nat, i + g = 2 ∧ wx = w.iter crlfB i)
    case atStart => exact ⟨0, rfl, rfl⟩
    case round =>
      obtain ⟨i, hig, rfl⟩ := hrel
      cases gk with
      | zero =>
        obtain rfl : i = 2 := by omega
        have hnx := fun ty => run_next_end (P := P) w crlfB 2 ty (by decide)
        go_wp2
        go_ret
        exact ⟨rfl, (Below.refl _ w).alloc (Nat.le_refl _) _⟩
      | succ g =>
        have hi : i < crlfB.size := by rw [hsz]; omega
        have ha : (crlfB[i]'hi).toNat < 14 := by
          rw [hsz] at hi
          rcases (show i = 0 ∨ i = 1 by omega) with rfl | rfl
          · exact (by decide : (13 : Nat) < 14)
          · exact (by decide : (10 : Nat) < 14)
        have hnx := fun ty => run_next_ascii (P := P) w crlfB i ty hi (by omega)
        have hne : (((crlfB[i]'hi).toNat : Int) == 65533) = false := beq_eq_false_iff_ne.2 (by omega)
        go_wp2
        go_roundg g
        case measure => omega
        case rel => exact ⟨i + 1, by omega, rfl⟩
  have hrb : (r == 65533) = false := beq_eq_false_iff_ne.2 hr
  cases hv : Lib.validRune r
  · go_enter L.f152, Body.n152_ntmps ρ
    go_wp2_with (first
      | (go_at_fn (ρ.f 119); refine (Any.utf8_ValidRune { L with } _ _).mono ?_; rintro e w' ⟨rfl, hw⟩; rw [hw, hv]))
    go_ret
    exact ⟨rfl, Below.refl _ w⟩
  · have hval : Utf8.valid r = true := by
      unfold Lib.validRune at hv
      have := of_decide_eq_true hv
      unfold Utf8.valid
      simp only [Bool.or_eq_true, Bool.and_eq_true, decide_eq_true_eq]
      omega
    obtain ⟨hs2, hs4, hlast⟩ := encode_facts r hval h1
    have hcv : ∀ w, (convert (ρ.t 21) (ρ.t 9) (.int .i32 r)).run P w = .ok (.string (Utf8.encode r)) w := fun w => run_convert_int_string w _ _ _ _ (by rw [t21]; rfl) t9
    generalize Utf8.encode r = rs at hs2 hs4 hlast hcv
    have hsub : wrap64 ((rs.size : Int) - 1) = ((rs.size - 1 : Nat) : Int) := by unfold wrap64; omega
    have hx := hlast (by omega)
    obtain ⟨b, hb⟩ : ∃ b : UInt8, rs[rs.size - 1]'(by omega) = b := ⟨_, rfl⟩
    rw [hb] at hx
    clear hlast hval
    rcases Nat.lt_or_ge 2 rs.size with h3 | h3
    · have hlt : ¬ ((rs.size : Int) - 1 < (crlfB.size : Int)) := by rw [hsz]; omega
      go_enter L.f152, Body.n152_ntmps ρ
      go_wp2_with (first
        | (go_at_fn (ρ.f 119); refine (Any.utf8_ValidRune { L with } _ _).mono ?_; rintro e w' ⟨rfl, hw⟩; rw [hw, hv]))
      go_step3
      go_wp2
      apply wp_loop_once
      go_wp2
      rw [Exit.noGoto_ret]
      go_wp2
      go_ret
      exact ⟨rfl, Below.refl _ w⟩
    · obtain he : rs.size = 2 := by omega
      have hb' : ∀ h, rs[1]'h = b := fun h => by rw [← hb]; congr 1; omega
      have hne : ¬ ((10 : Int) = (b.toNat : Int)) := by omega
      have hwr : IntKind.i64.wrap 2 = 2 := by decide
      have hcr : crlfB[1]'(by rw [hsz]; omega) = 10 := rfl
      go_enter L.f152, Body.n152_ntmps ρ
      go_wp2_with (first
        | (go_at_fn (ρ.f 119); refine (Any.utf8_ValidRune { L with } _ _).mono ?_; rintro e w' ⟨rfl, hw⟩; rw [hw, hv]))
      go_step3
      go_wp2
      apply wp_loop_once
      go_wp2
      go_step3
      go_wp2
      go_still mixed
      go_wp2
      refine wp_region_still_lit mixed (by kernel_rfl) ?_
      repeat still_step
      still_call (Any.strings_IndexByte { L with } _ _ _)
      repeat still_step
      refine wpStill_nil ?_
      go_wp2
      rw [Exit.noGoto_ret]
      go_wp2
      rw [Exit.noGoto_ret]
      go_wp2
      go_ret
      exact ⟨rfl, rfl, rfl, rfl, Nat.le_refl _, fun _ _ => rfl⟩
theorem decode_skip (s : ByteArray) (pos : Nat) (h : pos < s.size) (ha : 128 ≤ (s[pos]'h).toNat) : ∀ j, pos ≤ j → j < pos + (Utf8.decode s pos).2 → ∃ hj : j < s.size, 128 ≤ (s[j]'hj).toNat := by
  have hg : ∀ k, pos + k < s.size → ∀ h' : pos + k < s.size, (s.get! (pos + k)) = s[pos + k]'h' := fun k _ h' => by
    show s.get! (pos + k) = _
    simp [ByteArray.get!, getElem!_pos, h']
    rfl
  intro j h1 h2
  obtain ⟨k, rfl⟩ : ∃ k, j = pos + k := ⟨j - pos, by omega⟩
  by_cases hk : k = 0
  · subst hk; exact ⟨h, ha⟩
  have hn : ¬ (s[pos]'h).toNat < 128 := by omega
  have fin : pos + k < s.size → (s.get! (pos + k)).toNat / 64 = 2 → ∃ hj : pos + k < s.size, 128 ≤ (s[pos + k]'hj).toNat := fun h1 h2 => ⟨h1, by rw [← hg k h1 h1]; omega⟩
  simp only [Utf8.decode, get_at s pos h, hn, if_false] at h2
  have k3 : k = 1 ∨ k = 2 ∨ k = 3 ∨ 4 ≤ k := by omega
  repeat' split at h2
  all_goals (simp only [Bool.and_eq_true, decide_eq_true_eq, beq_iff_eq] at *)
  all_goals first
    | omega
    | (rcases k3 with rfl | rfl | rfl | k3
       all_goals first
         | omega
         | exact fin (by omega) (by omega))
theorem noAny_crlf {s : ByteArray} {i : Nat} (hno : Lib.NoAny s.data.toList [13, 10] i) {n : Nat} (h : ∀ j, i ≤ j → j < i + n → ∃ hj : j < s.size, 128 ≤ (s[j]'hj).toNat) : Lib.NoAny s.data.toList [13, 10] (i + n) := by
  intro j b hj hb
  by_cases c : j < i
  · exact hno j b c hb
  · obtain ⟨h1, h2⟩ := h j (by omega) hj
    have e := Lib.data_getElem? s j h1
    rw [e] at hb
    cases hb
    have n1 : (s[j]'h1) ≠ 13 := fun e => by rw [e] at h2; exact absurd h2 (by decide)
    have n2 : (s[j]'h1) ≠ 10 := fun e => by rw [e] at h2; exact absurd h2 (by decide)
    simp [n1, n2]
set_option maxHeartbeats 8000000 in
set_option maxRecDepth 1000000 in
theorem ixAny_high (L : Lays.n153 P ρ) (s : ByteArray) (w : World) (h8 : s.size ≤ 8) :
    Calls P (ρ.f 153) #[.string s, .string crlfB] w fun e w' => e = .returned (.int .i64 (Lib.indexAny s.data.toList [13, 10])) ∧ Below w.heap.size w w' := by
  have hemp : crlfB.toList.isEmpty = false := by rw [Lib.toList_data]; rfl
  have hn1 : ((crlfB.size : Int) == 1) = false := rfl
  have h8z : decide ((8 : Int) < (s.size : Int)) = false := decide_eq_false (by omega)
  have mixed := L.mixed
  have t3 := L.t3; have a3 := L.a3; have z3 := L.z3; have v3 := L.v3
  have t4 := L.t4; have a4 := L.a4; have z4 := L.z4; have v4 := L.v4
  have t5 := L.t5; have a5 := L.a5; have z5 := L.z5; have v5 := L.v5
  have t9 := L.t9; have a9 := L.a9; have z9 := L.z9; have v9 := L.v9
  have t21 := L.t21; have a21 := L.a21; have z21 := L.z21; have v21 := L.v21
  have e152 : ∀ args w, (callFunc (ρ.f 152) args).run P w = .ok (.enter (ρ.f 152) args) w := enters_of L.f152 (by kernel_rfl) rfl
  have e226 : ∀ args w, (callFunc (ρ.f 226) args).run P w = .ok (.enter (ρ.f 226) args) w := enters_of L.f226 (by kernel_rfl) rfl
  go_enter L.f153, Body.n153_ntmps ρ
  go_wp2_with (go_at_fn (ρ.f 226); refine (Any.strings_shouldUseASCIISet { L with } _ _).mono ?_; rintro e w' ⟨rfl, hw⟩; rw [hw, h8z])
  go_loopg [9, 10] s.size (fun g _ _ wx => ∃ i : Nat, i + g = s.size ∧ wx.heap[w.heap.size]? = some (.stringIter s i) ∧ Below w.heap.size w wx ∧ Lib.NoAny s.data.toList [13, 10] i)
  case atStart => exact ⟨0, by omega, World.iter_heap w s 0, (Below.refl _ w).alloc (Nat.le_refl _) _, Lib.NoAny.zero _ _⟩
  case round =>
    obtain ⟨i, hig, hk, hB, hno⟩ := hrel
    have HN : Aside (Lib.NoAny s.data.toList [13, 10] i) := hno
    have HB : Aside (Below w.heap.size w wr) := hB
    clear hno hB
    cases gk with
    | zero =>
      obtain rfl : i = s.size := by omega
      have hnx := fun ty => Lib.run_next_end_at (P := P) wr w.heap.size s s.size ty hk (by omega)
      go_wp2
      go_ret
      exact ⟨by rw [Lib.indexAny_none (by rw [← Lib.size_eq]; exact HN.out)]; rfl, HB.out⟩
    | succ g =>
      have hi : i < s.size := by omega
      obtain ⟨x, hx⟩ : ∃ x : UInt8, s[i]'hi = x := ⟨_, rfl⟩
      have Hx : Aside (s.data.toList[i]? = some x) := by rw [← hx]; exact Lib.data_getElem? s i hi
      have hlt : w.heap.size < wr.heap.size := (Array.getElem?_eq_some_iff.1 hk).1
      have HK : ∀ p w', Below wr.heap.size (wr.iterAt w.heap.size s p) w' → w'.heap[w.heap.size]? = some (.stringIter s p) ∧ Below w.heap.size w w' := fun p w' h => by
        refine ⟨(h.block _ hlt).trans (Lib.iterAt_heap wr _ s i p hk), (Lib.below_iterAt HB.out (Nat.le_refl _) s p).trans (h.mono (by omega))⟩
      have HKA : Aside (∀ p w', Below wr.heap.size (wr.iterAt w.heap.size s p) w' → w'.heap[w.heap.size]? = some (.stringIter s p) ∧ Below w.heap.size w w') := HK
      clear HK
      rcases Nat.lt_or_ge x.toNat 128 with hx1 | hx1
      · have hnx := fun ty => Lib.run_next_ascii_at (P := P) wr w.heap.size s i ty hk hi (by rw [hx]; exact hx1)
        rw [hx] at hnx
        clear hx
        have hcon := Lib.contains_iff_indexByte crlfB.data.toList x
        have hback : ((x.toNat : Int)).toNat.toUInt8 = x := by simp
        cases hin : crlfB.data.toList.contains x
        · rw [hin] at hcon
          have hl : ¬ ((0 : Int) ≤ Lib.indexByte crlfB.data.toList x) := of_decide_eq_false hcon.symm
          clear hcon
          go_wp2_with (go_at_fn (ρ.f 152); refine (Any.strings_IndexRune_ascii { L with } _ _ _ (by omega) (by omega)).mono ?_; rintro e w' ⟨rfl, hw⟩; rw [hw, hback])
          go_roundg g
          case measure => omega
          case rel => exact ⟨i + 1, by omega, (HKA.out _ _ (Below.refl _ _)).1, (HKA.out _ _ (Below.refl _ _)).2, HN.out.succ Hx.out hin⟩
        · rw [hin] at hcon
          have hge : (0 : Int) ≤ Lib.indexByte crlfB.data.toList x := of_decide_eq_true hcon.symm
          clear hcon
          go_wp2_with (go_at_fn (ρ.f 152); refine (Any.strings_IndexRune_ascii { L with } _ _ _ (by omega) (by omega)).mono ?_; rintro e w' ⟨rfl, hw⟩; rw [hw, hback])
          go_ret
          exact ⟨by rw [Lib.indexAny_hit HN.out Hx.out hin]; rfl, (HKA.out _ _ (Below.refl _ _)).2⟩
      · have hd := decode_high s i hi (by rw [hx]; exact hx1)
        have hs := decode_skip s i hi (by rw [hx]; exact hx1)
        obtain ⟨hlast, _⟩ := hs (i + (Utf8.decode s i).2 - 1) (by omega) (by omega)
        have HS := noAny_crlf HN.out hs
        have HSA : Aside (Lib.NoAny s.data.toList [13, 10] (i + (Utf8.decode s i).2)) := HS
        have hnx := fun ty => Lib.run_next_any_at (P := P) wr w.heap.size s i ty hk hi
        clear HS hs hx
        generalize Utf8.decode s i = d at hnx hd hlast HSA
        have hl : ¬ ((0 : Int) ≤ -1) := by decide
        go_wp2_with (go_at_fn (ρ.f 152); refine (ixRune_high { L with } _ _ (by omega)).mono ?_; rintro e w' ⟨rfl, hw⟩)
        go_roundg (s.size - (i + d.2))
        case measure => omega
        case rel =>
          rw [Lib.iterAt_size] at hw
          exact ⟨i + d.2, by omega, (HKA.out _ _ hw).1, (HKA.out _ _ hw).2, HSA.out⟩
theorem ixAny_crlf (L : Lays.n153 P ρ) (h116 : (P.info? (ρ.t 116)).map (fun i => (i.zero, i.size)) = some (some (.agg (Array.replicate 256 (.bool false))), 256)) (s : ByteArray) (w : World) (hs : s.size < 4294967281) :
    Calls P (ρ.f 153) #[.string s, .string crlfB] w fun e w' => e = .returned (.int .i64 (Lib.indexAny s.data.toList [13, 10])) ∧ Below w.heap.size w w' := by
  by_cases h8 : s.size ≤ 8
  · exact ixAny_high L s w h8
  · refine (Any.strings_IndexAny_long L (zero_of_info h116).1 (zero_of_info h116).2 s crlfB w (by show 2 ≤ 2; omega) (by omega) hs (by show 2 < _; omega) (fun j b h => ?_)).mono fun e w' ⟨h1, h2⟩ => ⟨h1, ?_⟩
    · have : b ∈ [13, 10] := List.mem_of_getElem? (l := [13, 10]) h
      rcases List.mem_cons.1 this with rfl | h
      · decide
      · rcases List.mem_cons.1 h with rfl | h
        · decide
        · cases h
    · rw [h2]
      exact ((Below.refl _ _).alloc (Nat.le_refl _) _).alloc (by simp) _
def ixCr_s : List AV → List Ob → Br
  | [.str s, .str [13, 10]], [] => .ite (decide (s.length ≤ 1000000)) (.ret (.int .i64 (anyIx s [13, 10])) []) .fail
  | _, _ => .fail
theorem ixCr_okQ : Sound Kx 176 ixCr_s := by
  refine sound_calls Tryz.func176 (by kernel_rfl) rfl fun args objs res objs' hv w L vs hR hr => ?_
  unfold ixCr_s at hv
  split at hv
  case h_2 => cases hv
  rename_i s
  obtain ⟨h1, h2⟩ := ite_some hv
  cases h2
  rw [decide_eq_true_eq] at h1
  refine ⟨rfl, ?_⟩
  simp only [rels, rel] at hr
  obtain ⟨v, vs', rfl, rfl, v2, vs2, rfl, rfl, rfl⟩ := hr
  refine (ixAny_crlf Tryz.lays153 (by kernel_rfl) ⟨s.toArray⟩ w (by show s.toArray.size < _; simp; omega)).mono ?_
  rintro e w' ⟨rfl, hb⟩
  exact ⟨_, rfl, hb, by simp only [rel]; rfl⟩
end Go.Proofs.YtdknaddanjpdaaaGreatDoor.Ev

namespace Go.Proofs.YtdknaddanjpdaaaGreatDoor.Ev
open Go Go.RowKit
set_option linter.unusedVariables false
set_option linter.unusedSimpArgs false
noncomputable section

def sCurOk_br (s : Bytes) (a : Int) : Br := (Br.ite (decide (0 ≤ a)) (Br.ret (AV.bool (decide (a ≤ (s.length : Int)))) []) (Br.ret (AV.bool false) []))
def sCurOk_s : List AV → List Ob → Br
  | [.agg [.str s, .int .i64 a]], [] => sCurOk_br s a
  | _, _ => .fail
theorem sCurOk_ok : Sound Kx 281 sCurOk_s := sound_br (C := []) (O := O0) Tryz.func281 (by kernel_rfl) fun args objs => by
  unfold sCurOk_s; split
  · exact .inr (by kernel_rfl)
  · exact .inl rfl

def iCurOk_C : SC := [⟨149, _, iwithin_ok⟩]
def iCurOk_br (s : Bytes) (a : Int) : Br := (Br.ite (decide (0 ≤ a)) (Br.ret (AV.bool (decide (a ≤ (s.length : Int)))) []) (Br.ret (AV.bool false) []))
def iCurOk_s : List AV → List Ob → Br
  | [.agg [.str s, .int .i64 a]], [] => iCurOk_br s a
  | _, _ => .fail
theorem iCurOk_ok : Sound Kx 284 iCurOk_s := sound_br (C := iCurOk_C) (O := O0) Tryz.func284 (by kernel_rfl) fun args objs => by
  unfold iCurOk_s; split
  · exact .inr (by kernel_rfl)
  · exact .inl rfl

def sTakeLine_O : Opt := { live := [(4, [1, 3, 5])], outs := [(4, [2, 3, 4])] }
def sTakeLine_C : SC := [⟨281, _, sCurOk_ok⟩]
def sTakeLine_T4 (v4x0 : Int) (v4x1 : Bytes) (v4x2 : Int) (v4x3 : Bytes) (v4x4 : Int) (kR4 : Int → Bytes → Int → Bytes → Int → Option Rs) (k4e0 : Int → Bytes → Bytes → Int → Option Rs) (k4e1 : Bytes → Int → Option Rs) : Option Rs :=
  (bif (decide (v4x0 < (v4x1.length : Int))) then (bif (decide (0 ≤ v4x0)) then (bif (decide (v4x0 < (v4x1.length : Int))) then (bif (decide ((strAt v4x1 v4x0) = 10)) then (k4e0 2 ([] : Bytes) ([] : Bytes) 0) else (bif (decide (0 ≤ v4x0)) then (bif (decide (v4x0 < (v4x1.length : Int))) then (bif (decide ((strAt v4x1 v4x0) = 13)) then (bif (decide ((wk64 (v4x0 + 1)) = (v4x1.length : Int))) then (k4e0 1 ([] : Bytes) ([] : Bytes) 0) else (bif (decide (0 ≤ (wk64 (v4x0 + 1)))) then (bif (decide ((wk64 (v4x0 + 1)) < (v4x1.length : Int))) then (bif (!(decide ((strAt v4x1 (wk64 (v4x0 + 1))) = 10))) then (k4e0 2 ([] : Bytes) ([] : Bytes) 0) else (bif (decide (0 ≤ v4x2)) then (bif (decide (v4x2 ≤ v4x0)) then (bif (decide (v4x0 ≤ (v4x1.length : Int))) then (k4e0 0 (cut v4x1 v4x2 v4x0) v4x1 (wk64 (v4x0 + 2))) else (none)) else (none)) else (none))) else (none)) else (none))) else (kR4 (wk64 (v4x0 + 1)) v4x1 v4x2 v4x3 v4x4)) else (none)) else (none))) else (none)) else (none)) else (k4e1 v4x3 v4x4))
def sTakeLine_F4 : Nat → Int → Bytes → Int → Bytes → Int → (Int → Bytes → Bytes → Int → Option Rs) → (Bytes → Int → Option Rs) → Option Rs
  | 0, _, _, _, _, _, _, _ => none
  | n + 1, v4x0, v4x1, v4x2, v4x3, v4x4, k4e0, k4e1 => sTakeLine_T4 v4x0 v4x1 v4x2 v4x3 v4x4 (fun v4x0 v4x1 v4x2 v4x3 v4x4 => sTakeLine_F4 n v4x0 v4x1 v4x2 v4x3 v4x4 k4e0 k4e1) k4e0 k4e1
abbrev sTakeLine_p4 : SP := ⟨56, [1, 3, 5], [(.v (.ptr 128 0)), (.v (.ptr 256 0)), (.v (.i .i64))], [(128, .var [.s, (.i .i64)]), (256, .var [.s, (.i .i64)])]⟩
noncomputable def sTakeLine_b4 : Code := codeAt (codeOf Tryz.f245) [1, 1, 0, 1, 0, 0]
def sTakeLine_E4 (f : (Int → Bytes → Bytes → Int → Option Rs) → (Bytes → Int → Option Rs) → Option Rs) (k : KT) : Option Rs := f (fun x4x0x0 x4x0x1 x4x0x2 x4x0x3 => k Ex.ret ((St.mk (slots 0 56 [(2, (AV.str x4x0x1)), (3, (AV.ptr 256 0)), (4, (AV.int .i64 x4x0x0))]) ((256, (Ob.var ((AV.str x4x0x2) :: ((AV.int .i64 x4x0x3) :: [])))) :: ([] : (List (Nat × (Ob)))))))) (fun x4x1x0 x4x1x1 => k (Ex.exit 0) ((St.mk (slots 0 56 [(3, (AV.ptr 256 0))]) ((256, (Ob.var ((AV.str x4x1x0) :: ((AV.int .i64 x4x1x1) :: [])))) :: ([] : (List (Nat × (Ob))))))))
def sTakeLine_G4 (n : Nat) (d : sTakeLine_p4.D) : KT → Option Rs := sTakeLine_E4 (sTakeLine_F4 n d.1.2.2.1 d.2.1.1 d.2.1.2.1 d.2.2.1.1 d.2.2.1.2.1)
def sTakeLine_L (N : Nat) : Lam := lamOf [⟨4, sTakeLine_p4, sTakeLine_G4 N⟩]
theorem sTakeLine_ok4 (N : Nat) : OkL Kx sTakeLine_C.s sTakeLine_O 0 N (sTakeLine_L N) sTakeLine_b4 := okL sTakeLine_p4 (sTakeLine_G4) (fun d kR => sTakeLine_E4 (sTakeLine_T4 d.1.2.2.1 d.2.1.1 d.2.1.2.1 d.2.2.1.1 d.2.2.1.2.1 (fun v4x0 v4x1 v4x2 v4x3 v4x4 => kR (((), (), v4x0, ()), ((v4x1, v4x2, ()), (v4x3, v4x4, ()), ()))))) (fun _ _ => by kernel_rfl) (fun _ _ _ => by kernel_rfl) (fun _ _ => by kernel_rfl) (fun _ _ _ _ => by kernel_rfl) (okEach (l' := []) (by kernel_rfl) trivial)
def sTakeLine_run (N : Nat) (s : Bytes) (a : Int) : Option Rs := (bif (decide (0 ≤ a)) then (bif (!(decide (a ≤ (s.length : Int)))) then (some ((AV.tup ((AV.str ([] : Bytes)) :: ((AV.agg ((AV.str ([] : Bytes)) :: ((AV.int .i64 0) :: []))) :: ((AV.int .i64 2) :: [])))), [])) else (sTakeLine_F4 N a s a ([] : Bytes) 0 (fun x4x0x0 => (fun x4x0x1 => (fun x4x0x2 => (fun x4x0x3 => (some ((AV.tup ((AV.str x4x0x1) :: ((AV.agg ((AV.str x4x0x2) :: ((AV.int .i64 x4x0x3) :: []))) :: ((AV.int .i64 x4x0x0) :: [])))), [])))))) (fun x4x1x0 => (fun x4x1x1 => (some ((AV.tup ((AV.str ([] : Bytes)) :: ((AV.agg ((AV.str ([] : Bytes)) :: ((AV.int .i64 0) :: []))) :: ((AV.int .i64 1) :: [])))), [])))))) else (some ((AV.tup ((AV.str ([] : Bytes)) :: ((AV.agg ((AV.str ([] : Bytes)) :: ((AV.int .i64 0) :: []))) :: ((AV.int .i64 2) :: [])))), [])))
def sTakeLine_sOf (φ : Bytes → Int → Br) : List AV → List Ob → Br
  | [.agg [.str s, .int .i64 a]], [] => φ s a
  | _, _ => .fail
theorem sTakeLine_okOf {φ : Bytes → Int → Br} (fu : Bytes → Int → Nat) (hv : ∀ s a res_, (φ s a).val = some res_ → sTakeLine_run (fu s a) s a = some res_) : Sound Kx 245 (sTakeLine_sOf φ) := sound_lp (C := sTakeLine_C) (O := sTakeLine_O) Tryz.func245 (by kernel_rfl) fun args objs => by
  unfold sTakeLine_sOf; split
  · rename_i s a; exact .inr fun _ hyp_ => run_lp (Λ := sTakeLine_L (fu s a)) (by kernel_rfl) (okEach (l' := [sTakeLine_b4]) (by kernel_rfl) ⟨sTakeLine_ok4 _, trivial⟩) (by kernel_rfl) (hv s a _ hyp_)
  · exact .inl rfl

def iTakeLine_O : Opt := { split := true }
def iTakeLine_C : SC := [⟨284, _, iCurOk_ok⟩, ⟨176, _, ixCr_okQ⟩]
abbrev iTakeLine_c1 (s : Bytes) (a : Int) := (Br.ite (decide (0 ≤ (anyIx (cut s a (s.length : Int)) ([13, 10] : Bytes)))) (Br.ite (decide ((anyIx (cut s a (s.length : Int)) ([13, 10] : Bytes)) < ((List.length (cut s a (s.length : Int))) : Int))) (Br.ite (decide ((strAt (cut s a (s.length : Int)) (anyIx (cut s a (s.length : Int)) ([13, 10] : Bytes))) = 13)) (Br.ite (decide (0 ≤ (wk64 ((anyIx (cut s a (s.length : Int)) ([13, 10] : Bytes)) + 1)))) (Br.ite (decide ((wk64 ((anyIx (cut s a (s.length : Int)) ([13, 10] : Bytes)) + 1)) < ((List.length (cut s a (s.length : Int))) : Int))) (Br.ite (decide ((strAt (cut s a (s.length : Int)) (wk64 ((anyIx (cut s a (s.length : Int)) ([13, 10] : Bytes)) + 1))) = 10)) (Br.ite (decide (0 ≤ (anyIx (cut s a (s.length : Int)) ([13, 10] : Bytes)))) (Br.ite (decide ((anyIx (cut s a (s.length : Int)) ([13, 10] : Bytes)) ≤ ((List.length (cut s a (s.length : Int))) : Int))) (Br.ret (AV.tup ((AV.str (cut (cut s a (s.length : Int)) 0 (anyIx (cut s a (s.length : Int)) ([13, 10] : Bytes)))) :: ((AV.agg ((AV.str s) :: ((AV.int .i64 (wk64 ((wk64 (a + (anyIx (cut s a (s.length : Int)) ([13, 10] : Bytes)))) + 2))) :: []))) :: ((AV.int .i64 0) :: [])))) []) Br.fail) Br.fail) (Br.ret (AV.tup ((AV.str ([] : Bytes)) :: ((AV.agg ((AV.str ([] : Bytes)) :: ((AV.int .i64 0) :: []))) :: ((AV.int .i64 2) :: [])))) [])) Br.fail) Br.fail) (Br.ret (AV.tup ((AV.str ([] : Bytes)) :: ((AV.agg ((AV.str ([] : Bytes)) :: ((AV.int .i64 0) :: []))) :: ((AV.int .i64 2) :: [])))) [])) Br.fail) Br.fail)
def iTakeLine_br (s : Bytes) (a : Int) : Br := (Br.ite (decide (0 ≤ a)) (Br.ite (!(decide (a ≤ (s.length : Int)))) (Br.ret (AV.tup ((AV.str ([] : Bytes)) :: ((AV.agg ((AV.str ([] : Bytes)) :: ((AV.int .i64 0) :: []))) :: ((AV.int .i64 2) :: [])))) []) (Br.ite (decide (0 ≤ a)) (Br.ite (decide (a ≤ (s.length : Int))) (Br.ite (decide ((List.length (cut s a (s.length : Int))) ≤ 1000000)) (Br.ite (decide ((anyIx (cut s a (s.length : Int)) ([13, 10] : Bytes)) < 0)) (Br.ret (AV.tup ((AV.str ([] : Bytes)) :: ((AV.agg ((AV.str ([] : Bytes)) :: ((AV.int .i64 0) :: []))) :: ((AV.int .i64 1) :: [])))) []) (Br.ite (decide (0 ≤ (anyIx (cut s a (s.length : Int)) ([13, 10] : Bytes)))) (Br.ite (decide ((anyIx (cut s a (s.length : Int)) ([13, 10] : Bytes)) < ((List.length (cut s a (s.length : Int))) : Int))) (Br.ite (decide ((strAt (cut s a (s.length : Int)) (anyIx (cut s a (s.length : Int)) ([13, 10] : Bytes))) = 13)) (Br.ite (decide ((anyIx (cut s a (s.length : Int)) ([13, 10] : Bytes)) = (wk64 (((List.length (cut s a (s.length : Int))) : Int) - 1)))) (Br.ret (AV.tup ((AV.str ([] : Bytes)) :: ((AV.agg ((AV.str ([] : Bytes)) :: ((AV.int .i64 0) :: []))) :: ((AV.int .i64 1) :: [])))) []) (iTakeLine_c1 s a)) (iTakeLine_c1 s a)) Br.fail) Br.fail)) Br.fail) Br.fail) Br.fail)) (Br.ret (AV.tup ((AV.str ([] : Bytes)) :: ((AV.agg ((AV.str ([] : Bytes)) :: ((AV.int .i64 0) :: []))) :: ((AV.int .i64 2) :: [])))) []))
def iTakeLine_s : List AV → List Ob → Br
  | [.agg [.str s, .int .i64 a]], [] => iTakeLine_br s a
  | _, _ => .fail
theorem iTakeLine_ok : Sound Kx 250 iTakeLine_s := sound_br (C := iTakeLine_C) (O := iTakeLine_O) Tryz.func250 (by kernel_rfl) fun args objs => by
  unfold iTakeLine_s; split
  · exact .inr (by kernel_rfl)
  · exact .inl rfl

def sTakeN_C : SC := [⟨281, _, sCurOk_ok⟩]
def sTakeN_br (s : Bytes) (a n : Int) : Br := (Br.ite (decide (0 ≤ a)) (Br.ite (!(decide (a ≤ (s.length : Int)))) (Br.ret (AV.tup ((AV.str ([] : Bytes)) :: ((AV.agg ((AV.str ([] : Bytes)) :: ((AV.int .i64 0) :: []))) :: ((AV.bool false) :: [])))) []) (Br.ite (decide (n < 0)) (Br.ret (AV.tup ((AV.str ([] : Bytes)) :: ((AV.agg ((AV.str ([] : Bytes)) :: ((AV.int .i64 0) :: []))) :: ((AV.bool false) :: [])))) []) (Br.ite (decide ((wk64 ((s.length : Int) - a)) < n)) (Br.ret (AV.tup ((AV.str ([] : Bytes)) :: ((AV.agg ((AV.str ([] : Bytes)) :: ((AV.int .i64 0) :: []))) :: ((AV.bool false) :: [])))) []) (Br.ite (decide (0 ≤ a)) (Br.ite (decide (a ≤ (wk64 (a + n)))) (Br.ite (decide ((wk64 (a + n)) ≤ (s.length : Int))) (Br.ret (AV.tup ((AV.str (cut s a (wk64 (a + n)))) :: ((AV.agg ((AV.str s) :: ((AV.int .i64 (wk64 (a + n))) :: []))) :: ((AV.bool true) :: [])))) []) Br.fail) Br.fail) Br.fail)))) (Br.ret (AV.tup ((AV.str ([] : Bytes)) :: ((AV.agg ((AV.str ([] : Bytes)) :: ((AV.int .i64 0) :: []))) :: ((AV.bool false) :: [])))) []))
def sTakeN_s : List AV → List Ob → Br
  | [.agg [.str s, .int .i64 a], .int .i64 n], [] => sTakeN_br s a n
  | _, _ => .fail
theorem sTakeN_ok : Sound Kx 283 sTakeN_s := sound_br (C := sTakeN_C) (O := O0) Tryz.func283 (by kernel_rfl) fun args objs => by
  unfold sTakeN_s; split
  · exact .inr (by kernel_rfl)
  · exact .inl rfl

def iTakeN_C : SC := [⟨284, _, iCurOk_ok⟩, ⟨149, _, iwithin_ok⟩]
def iTakeN_br (s : Bytes) (a n : Int) : Br := (Br.ite (decide (0 ≤ a)) (Br.ite (!(decide (a ≤ (s.length : Int)))) (Br.ret (AV.tup ((AV.str ([] : Bytes)) :: ((AV.agg ((AV.str ([] : Bytes)) :: ((AV.int .i64 0) :: []))) :: ((AV.bool false) :: [])))) []) (Br.ite (decide (0 ≤ n)) (Br.ite (!(decide (n ≤ (wk64 ((s.length : Int) - a))))) (Br.ret (AV.tup ((AV.str ([] : Bytes)) :: ((AV.agg ((AV.str ([] : Bytes)) :: ((AV.int .i64 0) :: []))) :: ((AV.bool false) :: [])))) []) (Br.ite (decide (0 ≤ a)) (Br.ite (decide (a ≤ (wk64 (a + n)))) (Br.ite (decide ((wk64 (a + n)) ≤ (s.length : Int))) (Br.ret (AV.tup ((AV.str (cut s a (wk64 (a + n)))) :: ((AV.agg ((AV.str s) :: ((AV.int .i64 (wk64 (a + n))) :: []))) :: ((AV.bool true) :: [])))) []) Br.fail) Br.fail) Br.fail)) (Br.ret (AV.tup ((AV.str ([] : Bytes)) :: ((AV.agg ((AV.str ([] : Bytes)) :: ((AV.int .i64 0) :: []))) :: ((AV.bool false) :: [])))) []))) (Br.ret (AV.tup ((AV.str ([] : Bytes)) :: ((AV.agg ((AV.str ([] : Bytes)) :: ((AV.int .i64 0) :: []))) :: ((AV.bool false) :: [])))) []))
def iTakeN_s : List AV → List Ob → Br
  | [.agg [.str s, .int .i64 a], .int .i64 n], [] => iTakeN_br s a n
  | _, _ => .fail
theorem iTakeN_ok : Sound Kx 256 iTakeN_s := sound_br (C := iTakeN_C) (O := O0) Tryz.func256 (by kernel_rfl) fun args objs => by
  unfold iTakeN_s; split
  · exact .inr (by kernel_rfl)
  · exact .inl rfl

def sReadField_O : Opt := { live := [(2, [0, 2, 4])], outs := [(2, [2, 3])] }
def sReadField_C : SC := [⟨160, _, strim_okQ⟩, ⟨95, _, sFieldOk_okQ⟩]
def sReadField_T2 (v2x0 : Bytes) (v2x1 : Int) (v2x2 v2x3 : Bytes) (kR2 : Bytes → Int → Bytes → Bytes → Option Rs) (k2e0 : Bool → Bytes → Bytes → Option Rs) (k2e1 : Bytes → Bytes → Option Rs) : Option Rs :=
  (bif (decide (v2x1 < (v2x0.length : Int))) then (bif (decide (v2x1 ≤ 40)) then (bif (decide (0 ≤ v2x1)) then (bif (decide (v2x1 < (v2x0.length : Int))) then (bif (!(decide ((strAt v2x0 v2x1) = 58))) then (kR2 v2x0 (wk64 (v2x1 + 1)) v2x2 v2x3) else (bif (decide (0 ≤ v2x1)) then (bif (decide (v2x1 ≤ (v2x0.length : Int))) then (bif (decide (0 ≤ (wk64 (v2x1 + 1)))) then (bif (decide ((wk64 (v2x1 + 1)) ≤ (v2x0.length : Int))) then (bif (isM (cut v2x0 (wk64 (v2x1 + 1)) (v2x0.length : Int))) then (bif (!(fdOk ((cut v2x0 0 v2x1), (trimP (cut v2x0 (wk64 (v2x1 + 1)) (v2x0.length : Int)))))) then (k2e0 false ([] : Bytes) ([] : Bytes)) else (k2e0 true (cut v2x0 0 v2x1) (trimP (cut v2x0 (wk64 (v2x1 + 1)) (v2x0.length : Int))))) else (none)) else (none)) else (none)) else (none)) else (none))) else (none)) else (none)) else (k2e1 v2x2 v2x3)) else (k2e1 v2x2 v2x3))
def sReadField_F2 : Nat → Bytes → Int → Bytes → Bytes → (Bool → Bytes → Bytes → Option Rs) → (Bytes → Bytes → Option Rs) → Option Rs
  | 0, _, _, _, _, _, _ => none
  | n + 1, v2x0, v2x1, v2x2, v2x3, k2e0, k2e1 => sReadField_T2 v2x0 v2x1 v2x2 v2x3 (fun v2x0 v2x1 v2x2 v2x3 => sReadField_F2 n v2x0 v2x1 v2x2 v2x3 k2e0 k2e1) k2e0 k2e1
abbrev sReadField_p2 : SP := ⟨35, [0, 2, 4], [(.v .s), (.v (.ptr 192 0)), (.v (.i .i64))], [(192, .var [.s, .s])]⟩
noncomputable def sReadField_b2 : Code := codeAt (codeOf Tryz.f248) [1, 0, 1, 0, 0]
def sReadField_E2 (f : (Bool → Bytes → Bytes → Option Rs) → (Bytes → Bytes → Option Rs) → Option Rs) (k : KT) : Option Rs := f (fun x2x0x0 x2x0x1 x2x0x2 => k Ex.ret ((St.mk (slots 0 35 [(2, (AV.ptr 192 0)), (3, (AV.bool x2x0x0))]) ((192, (Ob.var ((AV.str x2x0x1) :: ((AV.str x2x0x2) :: [])))) :: ([] : (List (Nat × (Ob)))))))) (fun x2x1x0 x2x1x1 => k (Ex.exit 0) ((St.mk (slots 0 35 [(2, (AV.ptr 192 0))]) ((192, (Ob.var ((AV.str x2x1x0) :: ((AV.str x2x1x1) :: [])))) :: ([] : (List (Nat × (Ob))))))))
def sReadField_G2 (n : Nat) (d : sReadField_p2.D) : KT → Option Rs := sReadField_E2 (sReadField_F2 n d.1.1 d.1.2.2.1 d.2.1.1 d.2.1.2.1)
def sReadField_L (N : Nat) : Lam := lamOf [⟨2, sReadField_p2, sReadField_G2 N⟩]
theorem sReadField_ok2 (N : Nat) : OkL Kx sReadField_C.s sReadField_O 0 N (sReadField_L N) sReadField_b2 := okL sReadField_p2 (sReadField_G2) (fun d kR => sReadField_E2 (sReadField_T2 d.1.1 d.1.2.2.1 d.2.1.1 d.2.1.2.1 (fun v2x0 v2x1 v2x2 v2x3 => kR ((v2x0, (), v2x1, ()), ((v2x2, v2x3, ()), ()))))) (fun _ _ => by kernel_rfl) (fun _ _ _ => by kernel_rfl) (fun _ _ => by kernel_rfl) (fun _ _ _ _ => by kernel_rfl) (okEach (l' := []) (by kernel_rfl) trivial)
def sReadField_run (N : Nat) (s : Bytes) : Option Rs := (sReadField_F2 N s 0 ([] : Bytes) ([] : Bytes) (fun x2x0x0 => (fun x2x0x1 => (fun x2x0x2 => (some ((AV.tup ((AV.agg ((AV.str x2x0x1) :: ((AV.str x2x0x2) :: []))) :: ((AV.bool x2x0x0) :: []))), []))))) (fun x2x1x0 => (fun x2x1x1 => (some ((AV.tup ((AV.agg ((AV.str ([] : Bytes)) :: ((AV.str ([] : Bytes)) :: []))) :: ((AV.bool false) :: []))), [])))))
def sReadField_sOf (φ : Bytes → Br) : List AV → List Ob → Br
  | [.str s], [] => φ s
  | _, _ => .fail
theorem sReadField_okOf {φ : Bytes → Br} (fu : Bytes → Nat) (hv : ∀ s res_, (φ s).val = some res_ → sReadField_run (fu s) s = some res_) : Sound Kx 248 (sReadField_sOf φ) := sound_lp (C := sReadField_C) (O := sReadField_O) Tryz.func248 (by kernel_rfl) fun args objs => by
  unfold sReadField_sOf; split
  · rename_i s; exact .inr fun _ hyp_ => run_lp (Λ := sReadField_L (fu s)) (by kernel_rfl) (okEach (l' := [sReadField_b2]) (by kernel_rfl) ⟨sReadField_ok2 _, trivial⟩) (by kernel_rfl) (hv s _ hyp_)
  · exact .inl rfl

def iReadField_O : Opt := { split := true }
def iReadField_C : SC := [⟨177, _, cut_okQ⟩, ⟨163, _, itrim_okQ⟩, ⟨98, _, iFieldOk_okQ⟩]
def iReadField_br (s : Bytes) : Br := (Br.ite (decide (s.length ≤ 1000000)) (Br.ite (isM (cutP s ([58] : Bytes)).2.1) (Br.ite (!(cutP s ([58] : Bytes)).2.2) (Br.ret (AV.tup ((AV.agg ((AV.str ([] : Bytes)) :: ((AV.str ([] : Bytes)) :: []))) :: ((AV.bool false) :: []))) []) (Br.ite (!(fdOk ((cutP s ([58] : Bytes)).1, (trimP (cutP s ([58] : Bytes)).2.1)))) (Br.ret (AV.tup ((AV.agg ((AV.str ([] : Bytes)) :: ((AV.str ([] : Bytes)) :: []))) :: ((AV.bool false) :: []))) []) (Br.ret (AV.tup ((AV.agg ((AV.str (cutP s ([58] : Bytes)).1) :: ((AV.str (trimP (cutP s ([58] : Bytes)).2.1)) :: []))) :: ((AV.bool true) :: []))) []))) Br.fail) Br.fail)
def iReadField_s : List AV → List Ob → Br
  | [.str s], [] => iReadField_br s
  | _, _ => .fail
theorem iReadField_ok : Sound Kx 252 iReadField_s := sound_br (C := iReadField_C) (O := iReadField_O) Tryz.func252 (by kernel_rfl) fun args objs => by
  unfold iReadField_s; split
  · exact .inr (by kernel_rfl)
  · exact .inl rfl

def iReadHex_O : Opt := { live := [(5, [0, 4, 5])], outs := [(5, [2, 3, 4])] }
def iReadHex_C : SC := [⟨149, _, iwithin_ok⟩, ⟨264, _, hexOf_okQ⟩]
def iReadHex_T5 (v5x0 : Bytes) (v5x1 v5x2 : Int) (kR5 : Bytes → Int → Int → Option Rs) (k5e0 k5e1 : Int → Option Rs) : Option Rs :=
  (bif (decide (v5x2 < (v5x0.length : Int))) then (bif (decide (0 ≤ v5x2)) then (bif (decide (v5x2 < (v5x0.length : Int))) then (bif (decide ((hexI (strAt v5x0 v5x2)) < 0)) then (k5e0 v5x1) else (kR5 v5x0 (wk64 ((wk64 (16 * v5x1)) + (hexI (strAt v5x0 v5x2)))) (wk64 (v5x2 + 1)))) else (none)) else (none)) else (k5e1 v5x1))
def iReadHex_F5 : Nat → Bytes → Int → Int → (Int → Option Rs) → (Int → Option Rs) → Option Rs
  | 0, _, _, _, _, _ => none
  | n + 1, v5x0, v5x1, v5x2, k5e0, k5e1 => iReadHex_T5 v5x0 v5x1 v5x2 (fun v5x0 v5x1 v5x2 => iReadHex_F5 n v5x0 v5x1 v5x2 k5e0 k5e1) k5e0 k5e1
abbrev iReadHex_p5 : SP := ⟨28, [0, 4, 5], [(.v .s), (.v (.i .i64)), (.v (.i .i64))], []⟩
noncomputable def iReadHex_b5 : Code := codeAt (codeOf Tryz.f254) [1, 1, 1, 0, 1, 0, 0]
def iReadHex_E5 (f : (Int → Option Rs) → (Int → Option Rs) → Option Rs) (k : KT) : Option Rs := f (fun x5x0x0 => k Ex.ret ((St.mk (slots 0 28 [(2, (AV.int .i64 0)), (3, (AV.bool false)), (4, (AV.int .i64 x5x0x0))]) ([] : (List (Nat × (Ob))))))) (fun x5x1x0 => k (Ex.exit 0) ((St.mk (slots 0 28 [(4, (AV.int .i64 x5x1x0))]) ([] : (List (Nat × (Ob)))))))
def iReadHex_G5 (n : Nat) (d : iReadHex_p5.D) : KT → Option Rs := iReadHex_E5 (iReadHex_F5 n d.1.1 d.1.2.1 d.1.2.2.1)
def iReadHex_L (N : Nat) : Lam := lamOf [⟨5, iReadHex_p5, iReadHex_G5 N⟩]
theorem iReadHex_ok5 (N : Nat) : OkL Kx iReadHex_C.s iReadHex_O 0 N (iReadHex_L N) iReadHex_b5 := okL iReadHex_p5 (iReadHex_G5) (fun d kR => iReadHex_E5 (iReadHex_T5 d.1.1 d.1.2.1 d.1.2.2.1 (fun v5x0 v5x1 v5x2 => kR ((v5x0, v5x1, v5x2, ()), ())))) (fun _ _ => by kernel_rfl) (fun _ _ _ => by kernel_rfl) (fun _ _ => by kernel_rfl) (fun _ _ _ _ => by kernel_rfl) (okEach (l' := []) (by kernel_rfl) trivial)
def iReadHex_run (N : Nat) (s : Bytes) : Option Rs := (bif (decide (1 ≤ (s.length : Int))) then (bif (!(decide ((s.length : Int) ≤ 7))) then (some ((AV.tup ((AV.int .i64 0) :: ((AV.bool false) :: []))), [])) else (iReadHex_F5 N s 0 0 (fun x5x0x0 => (some ((AV.tup ((AV.int .i64 0) :: ((AV.bool false) :: []))), []))) (fun x5x1x0 => (some ((AV.tup ((AV.int .i64 x5x1x0) :: ((AV.bool true) :: []))), []))))) else (some ((AV.tup ((AV.int .i64 0) :: ((AV.bool false) :: []))), [])))
def iReadHex_sOf (φ : Bytes → Br) : List AV → List Ob → Br
  | [.str s], [] => φ s
  | _, _ => .fail
theorem iReadHex_okOf {φ : Bytes → Br} (fu : Bytes → Nat) (hv : ∀ s res_, (φ s).val = some res_ → iReadHex_run (fu s) s = some res_) : Sound Kx 254 (iReadHex_sOf φ) := sound_lp (C := iReadHex_C) (O := iReadHex_O) Tryz.func254 (by kernel_rfl) fun args objs => by
  unfold iReadHex_sOf; split
  · rename_i s; exact .inr fun _ hyp_ => run_lp (Λ := iReadHex_L (fu s)) (by kernel_rfl) (okEach (l' := [iReadHex_b5]) (by kernel_rfl) ⟨iReadHex_ok5 _, trivial⟩) (by kernel_rfl) (hv s _ hyp_)
  · exact .inl rfl

end
end Go.Proofs.YtdknaddanjpdaaaGreatDoor.Ev

namespace Go.Proofs.YtdknaddanjpdaaaGreatDoor.Ev
open Go Go.RowKit
set_option linter.unusedVariables false
set_option linter.unusedSimpArgs false
noncomputable section

def crP : Bytes → Bytes × Nat × Int
  | [] => ([], 0, 1)
  | d :: _ => bif decide (by8 d = 10) then ([], 2, 0) else ([], 0, 2)
def lnP : Bytes → Bytes × Nat × Int
  | [] => ([], 0, 1)
  | c :: r => bif decide (by8 c = 10) then ([], 0, 2) else bif decide (by8 c = 13) then crP r
    else bif decide ((lnP r).2.2 = 0) then (c :: (lnP r).1, (lnP r).2.1 + 1, 0) else ([], 0, (lnP r).2.2)
theorem lnP_cons (c : UInt8) (r : Bytes) : lnP (c :: r) = (bif decide (by8 c = 10) then ([], 0, 2) else bif decide (by8 c = 13) then crP r
    else bif decide ((lnP r).2.2 = 0) then (c :: (lnP r).1, (lnP r).2.1 + 1, 0) else ([], 0, (lnP r).2.2) : Bytes × Nat × Int) := by rw [lnP]
theorem lnP_ok : ∀ (r : Bytes), (lnP r).2.2 = 0 → ∃ q, r = (lnP r).1 ++ 13 :: 10 :: q ∧ (lnP r).2.1 = (lnP r).1.length + 2
  | [], h => by cases h
  | c :: r, h => by
    rw [lnP_cons] at h ⊢
    cases c1 : decide (by8 c = 10)
    · cases c2 : decide (by8 c = 13)
      · rw [c1, c2] at h
        simp only [cond_false] at h ⊢
        cases c3 : decide ((lnP r).2.2 = 0)
        · rw [c3] at h
          exact absurd h (of_decide_eq_false c3)
        · obtain ⟨q, h1, h2⟩ := lnP_ok r (of_decide_eq_true c3)
          simp only [cond_true]
          exact ⟨q, by rw [List.cons_append, ← h1], by simp only [List.length_cons]; omega⟩
      · rw [c1, c2] at h
        simp only [cond_false, cond_true] at h ⊢
        have hc : c = 13 := by8_inj (of_decide_eq_true c2)
        subst hc
        cases r with
        | nil => cases h
        | cons d r =>
          rw [show crP (d :: r) = bif decide (by8 d = 10) then ([], 2, 0) else ([], 0, 2) from rfl] at h ⊢
          cases c3 : decide (by8 d = 10)
          · rw [c3] at h; cases h
          · have hd : d = 10 := by8_inj (of_decide_eq_true c3)
            subst hd
            exact ⟨r, rfl, rfl⟩
    · rw [c1] at h; cases h
def tlP (s : Bytes) (a : Int) : Bytes × Bytes × Int × Int :=
  bif decide (0 ≤ a) && decide (a ≤ (s.length : Int)) then (bif decide ((lnP (s.drop a.toNat)).2.2 = 0) then ((lnP (s.drop a.toNat)).1, s, a + (lnP (s.drop a.toNat)).2.1, 0) else ([], [], 0, (lnP (s.drop a.toNat)).2.2)) else ([], [], 0, 2)
def tlA (x : Bytes × Bytes × Int × Int) : AV := .tup [.str x.1, .agg [.str x.2.1, .int .i64 x.2.2.1], .int .i64 x.2.2.2]
def cu_s (p : Bytes → Int → AV) : List AV → List Ob → Br
  | [.agg [.str s, .int .i64 a]], [] => .ite (decide (s.length ≤ 1000000)) (.ret (p s a) []) .fail
  | _, _ => .fail
def tlK (k0 : Int → Bytes → Bytes → Int → Option Rs) (s : Bytes) (a i : Int) (x : Bytes × Nat × Int) : Option Rs := bif decide (x.2.2 = 0) then k0 0 (cut s a (i + x.1.length)) s (i + x.2.1) else k0 x.2.2 [] [] 0
theorem sTakeLine_loop (s : Bytes) (hl : s.length ≤ 1000000) (a : Int) (ha : 0 ≤ a) (k0 : Int → Bytes → Bytes → Int → Option Rs) (k1 : Bytes → Int → Option Rs) (hk : k1 [] 0 = k0 1 [] [] 0) : ∀ (r : Bytes) (i : Int) (n : Nat), At s i r → a ≤ i → r.length < n →
    sTakeLine_F4 n i s a [] 0 k0 k1 = tlK k0 s a i (lnP r) := by
  intro r; induction r with
  | nil => intro i n h hi hn; obtain ⟨n, rfl⟩ := fuel hn; unfold sTakeLine_F4 sTakeLine_T4; rw [h.dge, cond_false, hk]; rfl
  | cons c r ih =>
    intro i n h hi hn; obtain ⟨n, rfl⟩ := fuel hn
    simp only [List.length_cons] at hn
    have hlt := h.lt
    have hle := h.le
    simp only [List.length_cons] at hle
    have hs := ih (i + 1) n h.step (by omega) (by omega)
    unfold sTakeLine_F4 sTakeLine_T4
    simp only [h.dlt, h.dnn, h.str, h.next (by omega), cond_true, hs, lnP_cons]
    cases decide (by8 c = 10)
    · cases decide (by8 c = 13)
      · simp only [cond_false]
        unfold tlK
        by_cases c3 : (lnP r).2.2 = 0
        · simp only [decide_eq_true c3, cond_true, decide_true, List.length_cons]
          rw [show i + 1 + ((lnP r).1.length : Int) = i + (((lnP r).1.length + 1 : Nat) : Int) by omega, show i + 1 + ((lnP r).2.1 : Int) = i + (((lnP r).2.1 + 1 : Nat) : Int) by omega]
        · simp only [decide_eq_false c3, cond_false]
      · simp only [cond_false, cond_true]
        have w2 : wk64 (i + 2) = i + 2 := w64 (by omega) (by omega)
        cases r with
        | nil =>
          simp only [List.length_nil] at hle
          rw [decide_eq_true (show i + 1 = (s.length : Int) by omega)]; rfl
        | cons d r =>
          simp only [List.length_cons] at hle
          have h2 := h.step
          rw [decide_eq_false (show ¬ i + 1 = (s.length : Int) by omega)]
          simp only [h2.dlt, h2.dnn, h2.str, cond_true, cond_false]
          rw [show crP (d :: r) = bif decide (by8 d = 10) then ([], 2, 0) else ([], 0, 2) from rfl]
          cases decide (by8 d = 10)
          · rfl
          · simp only [Bool.not_true, cond_false, cond_true, w2, decide_eq_true ha, decide_eq_true hi, decide_eq_true (show i ≤ (s.length : Int) by omega)]
            show k0 0 (cut s a i) s (i + 2) = k0 0 (cut s a (i + ((0 : Nat) : Int))) s (i + ((2 : Nat) : Int))
            rw [show i + ((0 : Nat) : Int) = i by omega]; rfl
    · rfl
theorem lnP_cut (s : Bytes) (a : Nat) (h : (lnP (s.drop a)).2.2 = 0) : cut s (a : Int) ((a : Int) + (lnP (s.drop a)).1.length) = (lnP (s.drop a)).1 := by
  obtain ⟨q, h1, _⟩ := lnP_ok _ h
  rw [show (a : Int) + ((lnP (s.drop a)).1.length : Int) = ((a + (lnP (s.drop a)).1.length : Nat) : Int) by omega, cut_eq, Nat.add_sub_cancel_left]
  exact (congrArg (List.take (lnP (s.drop a)).1.length) h1).trans (by simp)
theorem sTakeLine_okQ : Sound Kx 245 (cu_s fun s a => tlA (tlP s a)) := by
  refine (sTakeLine_okOf (φ := fun s a => .ite (decide (s.length ≤ 1000000)) (.ret (tlA (tlP s a)) []) .fail) (fun s _ => s.length + 1) fun s a r h => ?_).of fun args objs r h => ?_
  · obtain ⟨h1, h2⟩ := ite_some h
    cases h2
    rw [decide_eq_true_eq] at h1
    unfold sTakeLine_run tlP
    by_cases ha : 0 ≤ a
    · rw [decide_eq_true ha, cond_true, Bool.true_and]
      by_cases hb : a ≤ (s.length : Int)
      · rw [decide_eq_true hb, Bool.not_true, cond_false, cond_true]
        refine (sTakeLine_loop s h1 a ha _ _ (by rfl) (s.drop a.toNat) a _ (At.of_le s a ha hb) (Int.le_refl _) (by rw [List.length_drop]; omega)).trans ?_
        unfold tlK
        obtain ⟨k, rfl⟩ : ∃ k : Nat, a = (k : Int) := ⟨a.toNat, by omega⟩
        rw [Int.toNat_natCast]
        cases c : decide ((lnP (s.drop k)).2.2 = 0)
        · rfl
        · simp only [cond_true]
          rw [lnP_cut s k (of_decide_eq_true c)]; rfl
      · rw [decide_eq_false hb]; rfl
    · rw [decide_eq_false ha]; rfl
  · unfold cu_s at h; split at h
    · exact h
    · cases h
theorem anyIx_split (cs : Bytes) : ∀ r : Bytes, (anyIx r cs = -1 ∧ ∀ x ∈ r, cs.contains x = false) ∨ ∃ p c q, r = p ++ c :: q ∧ anyIx r cs = (p.length : Int) ∧ cs.contains c = true ∧ ∀ x ∈ p, cs.contains x = false
  | [] => .inl ⟨rfl, fun x h => by cases h⟩
  | b :: r => by
    have e : anyIx (b :: r) cs = if cs.contains b then 0 else if Lib.indexAny r cs == -1 then -1 else Lib.indexAny r cs + 1 := rfl
    cases hb : cs.contains b
    · rw [hb] at e
      rcases anyIx_split cs r with ⟨h1, h2⟩ | ⟨p, c, q, h1, h2, h3, h4⟩
      · left
        refine ⟨by rw [e]; unfold anyIx at h1; rw [h1]; rfl, fun x hx => ?_⟩
        rcases List.mem_cons.1 hx with rfl | hx
        · exact hb
        · exact h2 x hx
      · right
        refine ⟨b :: p, c, q, by rw [h1]; rfl, ?_, h3, fun x hx => ?_⟩
        · unfold anyIx at h2
          rw [e, h2]
          have : ((p.length : Int) == -1) = false := beq_eq_false_iff_ne.2 (by omega)
          rw [this]; simp
        · rcases List.mem_cons.1 hx with rfl | hx
          · exact hb
          · exact h4 x hx
    · right
      exact ⟨[], b, r, rfl, by rw [e, hb]; rfl, hb, fun x h => by cases h⟩
theorem crlf_no {x : UInt8} (h : ([13, 10] : Bytes).contains x = false) : decide (by8 x = 10) = false ∧ decide (by8 x = 13) = false := by
  have e : ([13, 10] : Bytes).contains x = ((x == 13) || ((x == 10) || false)) := by rw [List.contains_cons, List.contains_cons, List.contains_nil]
  rw [e] at h
  simp only [Bool.or_false, Bool.or_eq_false_iff, beq_eq_false_iff_ne] at h
  exact ⟨decide_eq_false fun e => h.2 (by8_inj e), decide_eq_false fun e => h.1 (by8_inj e)⟩
theorem lnP_none : ∀ r : Bytes, (∀ x ∈ r, ([13, 10] : Bytes).contains x = false) → lnP r = ([], 0, 1)
  | [], _ => rfl
  | c :: r, h => by
    obtain ⟨h1, h2⟩ := crlf_no (h c (List.mem_cons_self ..))
    rw [lnP_cons, h1, h2, lnP_none r fun x hx => h x (List.mem_cons_of_mem _ hx)]; rfl
theorem lnP_no : ∀ q : Bytes, ¬ (lnP q).2.2 = 0 → lnP q = ([], 0, (lnP q).2.2)
  | [], _ => rfl
  | c :: r, h => by
    rw [lnP_cons] at h ⊢
    cases c1 : decide (by8 c = 10)
    · cases c2 : decide (by8 c = 13)
      · rw [c1, c2] at h
        cases c3 : decide ((lnP r).2.2 = 0)
        · rfl
        · rw [c3] at h; exact absurd rfl h
      · rw [c1, c2] at h
        cases r with
        | nil => rfl
        | cons d r =>
          rw [show crP (d :: r) = bif decide (by8 d = 10) then ([], 2, 0) else ([], 0, 2) from rfl] at h ⊢
          cases c3 : decide (by8 d = 10)
          · rfl
          · rw [c3] at h; exact absurd rfl h
    · rfl
theorem lnP_app (q : Bytes) : ∀ p : Bytes, (∀ x ∈ p, ([13, 10] : Bytes).contains x = false) → lnP (p ++ q) = bif decide ((lnP q).2.2 = 0) then (p ++ (lnP q).1, p.length + (lnP q).2.1, 0) else ([], 0, (lnP q).2.2)
  | [], _ => by
    rw [List.nil_append]
    by_cases c : (lnP q).2.2 = 0
    · rw [decide_eq_true c, cond_true, List.nil_append, List.length_nil, Nat.zero_add]
      exact Prod.ext rfl (Prod.ext rfl c)
    · rw [decide_eq_false c, cond_false]; exact lnP_no q c
  | x :: p, h => by
    obtain ⟨h1, h2⟩ := crlf_no (h x (List.mem_cons_self ..))
    rw [List.cons_append, lnP_cons, h1, h2, lnP_app q p fun y hy => h y (List.mem_cons_of_mem _ hy)]
    cases c : decide ((lnP q).2.2 = 0)
    · simp only [cond_false, c]
    · simp only [cond_true, cond_false, decide_true, List.length_cons]
      refine Prod.ext rfl (Prod.ext ?_ rfl)
      show p.length + (lnP q).2.1 + 1 = p.length + 1 + (lnP q).2.1
      omega
end
end Go.Proofs.YtdknaddanjpdaaaGreatDoor.Ev

namespace Go.Proofs.YtdknaddanjpdaaaGreatDoor.Ev
open Go Go.RowKit
set_option linter.unusedVariables false
set_option linter.unusedSimpArgs false
noncomputable section

theorem iTakeLine_okQ : Sound Kx 250 (cu_s fun s a => tlA (tlP s a)) := iTakeLine_ok.of fun args objs r h => by
  unfold cu_s at h; split at h
  case h_2 => cases h
  rename_i s a
  obtain ⟨h1, h2⟩ := ite_some h
  cases h2
  rw [decide_eq_true_eq] at h1
  show (iTakeLine_br s a).val = some (tlA (tlP s a), [])
  unfold iTakeLine_br tlP iTakeLine_c1
  by_cases ha : 0 ≤ a
  case neg => rw [decide_eq_false ha]; rfl
  by_cases hb : a ≤ (s.length : Int)
  case neg => rw [decide_eq_true ha, decide_eq_false hb]; rfl
  rw [decide_eq_true ha, decide_eq_true hb]
  obtain ⟨k, rfl⟩ : ∃ k : Nat, a = (k : Int) := ⟨a.toNat, by omega⟩
  rw [Int.toNat_natCast, show cut s (k : Int) (s.length : Int) = s.drop k from cut_end (k := k) rfl]
  have hrl : (s.drop k).length = s.length - k := List.length_drop ..
  generalize s.drop k = r at hrl
  have m : decide (r.length ≤ 1000000) = true := decide_eq_true (by omega)
  rw [m]
  rcases anyIx_split [13, 10] r with ⟨h3, h4⟩ | ⟨p, c, q, h3, h4, h5, h6⟩
  · rw [h3, lnP_none r h4]; rfl
  · have hA : At r (p.length : Int) (c :: q) := ⟨p, h3, rfl⟩
    have hl := hA.le
    simp only [List.length_cons] at hl
    have e0 : decide ((p.length : Int) < 0) = false := decide_eq_false (by omega)
    have w1 : wk64 ((r.length : Int) - 1) = (r.length : Int) - 1 := w64 (by omega) (by omega)
    have w2 : wk64 ((p.length : Int) + 1) = (p.length : Int) + 1 := w64 (by omega) (by omega)
    have w3 : wk64 (wk64 ((k : Int) + (p.length : Int)) + 2) = (k : Int) + ((p.length + 2 : Nat) : Int) := by rw [w64 (n := (k : Int) + _) (by omega) (by omega), w64 (by omega) (by omega)]; omega
    have hlp := lnP_app (c :: q) p h6
    rw [← h3] at hlp
    have hcut : cut r 0 (p.length : Int) = p := by rw [h3]; exact cut_pre p _
    have e1 : decide ((p.length : Int) ≤ (r.length : Int)) = true := decide_eq_true (by omega)
    rw [h4, hlp, lnP_cons, e0, hA.dnn, hA.dlt, hA.str, w1, w2, w3, hcut, e1]
    cases c1 : decide (by8 c = 13)
    · have c2 : decide (by8 c = 10) = true := by
        have e : ([13, 10] : Bytes).contains c = ((c == 13) || ((c == 10) || false)) := by rw [List.contains_cons, List.contains_cons, List.contains_nil]
        rw [e, Bool.or_false, Bool.or_eq_true, beq_iff_eq, beq_iff_eq] at h5
        rcases h5 with rfl | rfl
        · cases c1
        · rfl
      rw [c2]; rfl
    · have c2 : decide (by8 c = 10) = false := decide_eq_false (by have := of_decide_eq_true c1; omega)
      rw [c2]
      cases q with
      | nil =>
        rw [decide_eq_true (show (p.length : Int) = (r.length : Int) - 1 by simp at hl; omega)]; rfl
      | cons d q =>
        have hB := hA.step
        simp only [List.length_cons] at hl
        rw [decide_eq_false (show ¬ (p.length : Int) = (r.length : Int) - 1 by omega), hB.dnn, hB.dlt, hB.str, show crP (d :: q) = bif decide (by8 d = 10) then ([], 2, 0) else ([], 0, 2) from rfl]
        cases decide (by8 d = 10)
        · rfl
        · show some _ = some (tlA (p ++ [], s, (k : Int) + ((p.length + 2 : Nat) : Int), 0), [])
          rw [List.append_nil]; rfl

def tnP (s : Bytes) (a n : Int) : Bytes × Bytes × Int × Bool :=
  bif decide (0 ≤ a) && decide (a ≤ (s.length : Int)) && decide (0 ≤ n) && decide (n ≤ (s.length : Int) - a) then (cut s a (a + n), s, a + n, true) else ([], [], 0, false)
def tnA (x : Bytes × Bytes × Int × Bool) : AV := .tup [.str x.1, .agg [.str x.2.1, .int .i64 x.2.2.1], .bool x.2.2.2]
def tn_s : List AV → List Ob → Br
  | [.agg [.str s, .int .i64 a], .int .i64 n], [] => .ite (decide (s.length ≤ 1000000)) (.ret (tnA (tnP s a n)) []) .fail
  | _, _ => .fail
theorem sTakeN_val (s : Bytes) (a n : Int) (h1 : s.length ≤ 1000000) : (sTakeN_br s a n).val = some (tnA (tnP s a n), []) := by
  unfold sTakeN_br tnP
  by_cases ha : 0 ≤ a
  case neg => rw [decide_eq_false ha]; rfl
  by_cases hb : a ≤ (s.length : Int)
  case neg => rw [decide_eq_true ha, decide_eq_false hb]; rfl
  have w1 : wk64 ((s.length : Int) - a) = (s.length : Int) - a := w64 (by omega) (by omega)
  rw [decide_eq_true ha, decide_eq_true hb, w1]
  by_cases hn : n < 0
  · rw [decide_eq_true hn, decide_eq_false (show ¬ 0 ≤ n by omega)]; rfl
  rw [decide_eq_false hn, decide_eq_true (show 0 ≤ n by omega)]
  by_cases hc : n ≤ (s.length : Int) - a
  · have w2 : wk64 (a + n) = a + n := w64 (by omega) (by omega)
    rw [decide_eq_true hc, decide_eq_false (show ¬ (s.length : Int) - a < n by omega), w2, decide_eq_true (show a ≤ a + n by omega), decide_eq_true (show a + n ≤ (s.length : Int) by omega)]; rfl
  · rw [decide_eq_false hc, decide_eq_true (show (s.length : Int) - a < n by omega)]; rfl
theorem iTakeN_val (s : Bytes) (a n : Int) (h1 : s.length ≤ 1000000) : (iTakeN_br s a n).val = some (tnA (tnP s a n), []) := by
  unfold iTakeN_br tnP
  by_cases ha : 0 ≤ a
  case neg => rw [decide_eq_false ha]; rfl
  by_cases hb : a ≤ (s.length : Int)
  case neg => rw [decide_eq_true ha, decide_eq_false hb]; rfl
  have w1 : wk64 ((s.length : Int) - a) = (s.length : Int) - a := w64 (by omega) (by omega)
  rw [decide_eq_true ha, decide_eq_true hb, w1]
  by_cases hn : 0 ≤ n
  case neg => rw [decide_eq_false hn]; rfl
  rw [decide_eq_true hn]
  by_cases hc : n ≤ (s.length : Int) - a
  · have w2 : wk64 (a + n) = a + n := w64 (by omega) (by omega)
    rw [decide_eq_true hc, w2, decide_eq_true (show a ≤ a + n by omega), decide_eq_true (show a + n ≤ (s.length : Int) by omega)]; rfl
  · rw [decide_eq_false hc]; rfl
theorem sTakeN_okQ : Sound Kx 283 tn_s := sTakeN_ok.of fun args objs r h => by
  unfold tn_s at h; split at h
  · obtain ⟨h1, h2⟩ := ite_some h
    exact (sTakeN_val _ _ _ (of_decide_eq_true h1)).trans h2
  · cases h
theorem iTakeN_okQ : Sound Kx 256 tn_s := iTakeN_ok.of fun args objs r h => by
  unfold tn_s at h; split at h
  · obtain ⟨h1, h2⟩ := ite_some h
    exact (iTakeN_val _ _ _ (of_decide_eq_true h1)).trans h2
  · cases h

theorem iReadHex_loop (s : Bytes) (hl : s.length ≤ 7) (k0 : Int → Option Rs) (k1 : Int → Option Rs) (K0 : Option Rs) (h0 : ∀ x, k0 x = K0) : ∀ (r : Bytes) (v i : Int) (n : Nat), At s i r → r.length < n → 0 ≤ v → (v + 1) * 16 ^ r.length ≤ 268435456 →
    iReadHex_F5 n s v i k0 k1 = bif allP isHexB r then k1 (hexN r v) else K0 := by
  intro r; induction r with
  | nil => intro v i n h hn hv hb; obtain ⟨n, rfl⟩ := fuel hn; unfold iReadHex_F5 iReadHex_T5; simp only [h.dge, cond_false]; rfl
  | cons a r ih =>
    intro v i n h hn hv hb; obtain ⟨n, rfl⟩ := fuel hn
    simp only [List.length_cons] at hn hb
    have hp : (1 : Int) ≤ 16 ^ r.length := by have h0 : (0 : Int) < 16 ^ r.length := Int.pow_pos (by decide); omega
    have hb' : ((v + 1) * 16) * 16 ^ r.length ≤ 268435456 := by rw [Int.pow_succ, Int.mul_comm (16 ^ r.length) 16, ← Int.mul_assoc] at hb; exact hb
    have hv16 : (v + 1) * 16 ≤ 268435456 := Int.le_trans (by have := Int.mul_le_mul_of_nonneg_left hp (show 0 ≤ (v + 1) * 16 by omega); rwa [Int.mul_one] at this) hb'
    have hx := hexI_lt (by8 a)
    unfold iReadHex_F5 iReadHex_T5
    simp only [h.dlt, h.dnn, h.str, cond_true, h.next (show s.length ≤ 4611686018427387904 by omega), h0]
    show _ = bif (!decide (hexI (by8 a) < 0)) && allP isHexB r then k1 (hexN r (v * 16 + hexI (by8 a))) else K0
    by_cases c : hexI (by8 a) < 0
    · rw [decide_eq_true c]; rfl
    · have e : wk64 (wk64 (16 * v) + hexI (by8 a)) = v * 16 + hexI (by8 a) := by rw [w64 (n := 16 * v) (by omega) (by omega), w64 (by omega) (by omega), Int.mul_comm]
      rw [decide_eq_false c, cond_false, e, ih _ (i + 1) n h.step (by omega) (by omega) (Int.le_trans (Int.mul_le_mul_of_nonneg_right (show v * 16 + hexI (by8 a) + 1 ≤ (v + 1) * 16 by omega) (by omega)) hb')]
      rfl
theorem iReadHex_okQ : Sound Kx 254 rh_s := by
  refine (iReadHex_okOf (φ := fun s => .ret (.tup [.int .i64 (rdHexP s).1, .bool (rdHexP s).2]) []) (fun s => s.length + 1) fun s r h => ?_).of fun args objs r h => ?_
  · cases h
    unfold iReadHex_run rdHexP
    by_cases h1 : 1 ≤ s.length
    case neg => rw [decide_eq_false h1, decide_eq_false (show ¬ (1 : Int) ≤ (s.length : Int) by omega)]; rfl
    rw [decide_eq_true h1, decide_eq_true (show (1 : Int) ≤ (s.length : Int) by omega)]
    by_cases h2 : s.length ≤ 7
    case neg => rw [decide_eq_false h2, decide_eq_false (show ¬ (s.length : Int) ≤ 7 by omega)]; rfl
    rw [decide_eq_true h2, decide_eq_true (show (s.length : Int) ≤ 7 by omega)]
    have hb : ((0 : Int) + 1) * 16 ^ s.length ≤ 268435456 := by
      have h3 : (16 : Nat) ^ s.length ≤ 16 ^ 7 := Nat.pow_le_pow_right (by decide) h2
      have e : (16 : Int) ^ s.length = ((16 ^ s.length : Nat) : Int) := by rw [Int.natCast_pow]; rfl
      have e2 : (16 : Nat) ^ 7 = 268435456 := by decide
      rw [e]; omega
    refine (iReadHex_loop s h2 _ _ _ (fun _ => by rfl) s 0 0 _ (At.start s) (by omega) (Int.le_refl _) hb).trans ?_
    cases allP isHexB s <;> rfl
  · unfold rh_s at h; split at h
    · exact h
    · cases h

def rfP (s : Bytes) : Fd × Bool :=
  bif decide ((uptoP s 58).length < s.length) && fdOk (uptoP s 58, trimP (s.drop ((uptoP s 58).length + 1))) then ((uptoP s 58, trimP (s.drop ((uptoP s 58).length + 1))), true) else (([], []), false)
def rfA (x : Fd × Bool) : AV := .tup [.agg [.str x.1.1, .str x.1.2], .bool x.2]
def rf_s : List AV → List Ob → Br
  | [.str s], [] => .ite (decide (s.length ≤ 1000000)) (.ret (rfA (rfP s)) []) .fail
  | _, _ => .fail
theorem iReadField_okQ : Sound Kx 252 rf_s := iReadField_ok.of fun args objs r h => by
  unfold rf_s at h; split at h
  case h_2 => cases h
  rename_i s
  obtain ⟨h1, h2⟩ := ite_some h
  cases h2
  show (iReadField_br s).val = some (rfA (rfP s), [])
  unfold iReadField_br rfP
  have hl := upto_le s 58
  rw [decide_eq_true_eq] at h1
  have hm : isM (s.drop ((uptoP s 58).length + 1)) = true := isM_of (n := 1000000) (by rw [List.length_drop]; omega)
  have hne : decide ((uptoP s 58).length < s.length) = !decide ((uptoP s 58).length = s.length) := by
    by_cases c : (uptoP s 58).length = s.length
    · rw [decide_eq_true c, decide_eq_false (by omega)]; rfl
    · rw [decide_eq_false c, decide_eq_true (by omega)]; rfl
  rw [decide_eq_true h1, cut_upto, show by8 58 = 58 from rfl, hm, hne]
  cases decide ((uptoP s 58).length = s.length)
  · cases fdOk (uptoP s 58, trimP (s.drop ((uptoP s 58).length + 1))) <;> rfl
  · rfl
theorem sReadField_loop (s : Bytes) (hl : s.length ≤ 1000000) (k0 : Bool → Bytes → Bytes → Option Rs) (k1 : Bytes → Bytes → Option Rs) (hk : k1 [] [] = k0 false [] []) : ∀ (r p : Bytes) (n : Nat), s = p ++ r → uptoP s 58 = p ++ uptoP r 58 → r.length < n →
    sReadField_F2 n s (p.length : Int) [] [] k0 k1 = k0 (rfP s).2 (rfP s).1.1 (rfP s).1.2 := by
  intro r; induction r with
  | nil =>
    intro p n hs hu hn; obtain ⟨n, rfl⟩ := fuel hn
    have hA : At s (p.length : Int) [] := ⟨p, hs, rfl⟩
    unfold sReadField_F2 sReadField_T2 rfP
    have : (uptoP s 58).length = s.length := by rw [hu, hs]; rfl
    rw [hA.dge, cond_false, hk, decide_eq_false (show ¬ (uptoP s 58).length < s.length by omega)]; rfl
  | cons a r ih =>
    intro p n hs hu hn; obtain ⟨n, rfl⟩ := fuel hn
    have hA : At s (p.length : Int) (a :: r) := ⟨p, hs, rfl⟩
    simp only [List.length_cons] at hn
    have hle := hA.le
    simp only [List.length_cons] at hle
    have hpu : p.length ≤ (uptoP s 58).length := by rw [hu, List.length_append]; omega
    unfold sReadField_F2 sReadField_T2
    rw [hA.dlt, cond_true]
    by_cases c : (p.length : Int) ≤ 40
    · have w1 : wk64 ((p.length : Int) + 1) = ((p.length + 1 : Nat) : Int) := by rw [w64 (by omega) (by omega)]; omega
      rw [decide_eq_true c, hA.dnn, hA.str, w1]
      simp only [cond_true]
      cases c1 : decide (by8 a = 58)
      · have e : ((p.length + 1 : Nat) : Int) = ((p ++ [a]).length : Int) := by simp
        simp only [Bool.not_false, cond_true]
        rw [e]
        refine ih (p ++ [a]) n (by rw [hs]; simp) ?_ (by omega)
        rw [hu]
        unfold uptoP
        rw [List.takeWhile_cons, c1]; simp
      · have hu' : uptoP s 58 = p := by
          rw [hu]; unfold uptoP; rw [List.takeWhile_cons, c1]; simp
        have hd : s.drop (p.length + 1) = r := by rw [hs, ← List.drop_drop]; simp
        have hc0 : cut s 0 (p.length : Int) = p := by rw [hs]; exact cut_pre p _
        have hm : isM r = true := isM_of (n := 1000000) (by omega)
        rw [cut_end (k := p.length + 1) rfl, hd, hc0, hm, decide_eq_true (show (p.length : Int) ≤ (s.length : Int) by omega), decide_eq_true (show (0 : Int) ≤ ((p.length + 1 : Nat) : Int) by omega), decide_eq_true (show ((p.length + 1 : Nat) : Int) ≤ (s.length : Int) by omega)]
        unfold rfP
        rw [hu', hd, decide_eq_true (show p.length < s.length by omega)]
        cases fdOk (p, trimP r) <;> rfl
    · have hf : fdOk (uptoP s 58, trimP (s.drop ((uptoP s 58).length + 1))) = false := by
        cases hh : fdOk (uptoP s 58, trimP (s.drop ((uptoP s 58).length + 1)))
        · rfl
        · have := (fdOk_len hh).1
          simp only at this
          omega
      unfold rfP
      rw [decide_eq_false c, cond_false, hk, hf, Bool.and_false]; rfl
theorem sReadField_okQ : Sound Kx 248 rf_s := by
  refine (sReadField_okOf (φ := fun s => .ite (decide (s.length ≤ 1000000)) (.ret (rfA (rfP s)) []) .fail) (fun s => s.length + 1) fun s r h => ?_).of fun args objs r h => ?_
  · obtain ⟨h1, h2⟩ := ite_some h
    cases h2
    unfold sReadField_run
    exact sReadField_loop s (of_decide_eq_true h1) _ _ (by rfl) s [] _ rfl rfl (by omega)
  · unfold rf_s at h; split at h
    · exact h
    · cases h
end
end Go.Proofs.YtdknaddanjpdaaaGreatDoor.Ev

namespace Go.Proofs.YtdknaddanjpdaaaGreatDoor.Ev
open Go Go.RowKit
set_option linter.unusedVariables false
set_option linter.unusedSimpArgs false
noncomputable section

def hpc_br (s p : Bytes) : Br := (Br.ite (decide ((p.length : Int) ≤ (s.length : Int))) (Br.ite (decide (0 ≤ (p.length : Int))) (Br.ite (decide ((p.length : Int) ≤ (s.length : Int))) (Br.ret (AV.bool (decide ((cut s 0 (p.length : Int)) = p))) []) Br.fail) Br.fail) (Br.ret (AV.bool false) []))
def hpc_s : List AV → List Ob → Br
  | [.str s, .str p], [] => hpc_br s p
  | _, _ => .fail
theorem hpc_ok : Sound Kx 136 hpc_s := sound_br (C := []) (O := O0) Tryz.func136 (by kernel_rfl) fun args objs => by
  unfold hpc_s; split
  · exact .inr (by kernel_rfl)
  · exact .inl rfl

def cpx0_O : Opt := { split := true }
def cpx0_C : SC := [⟨136, _, hpc_ok⟩]
def cpx0_br (s p : Bytes) : Br := (Br.ite (decide ((p.length : Int) ≤ (s.length : Int))) (Br.ite (decide (0 ≤ (p.length : Int))) (Br.ite (decide ((p.length : Int) ≤ (s.length : Int))) (Br.ite (!(decide ((cut s 0 (p.length : Int)) = p))) (Br.ret (AV.tup ((AV.str s) :: ((AV.bool false) :: []))) []) (Br.ite (decide (0 ≤ (p.length : Int))) (Br.ite (decide ((p.length : Int) ≤ (s.length : Int))) (Br.ret (AV.tup ((AV.str (cut s (p.length : Int) (s.length : Int))) :: ((AV.bool true) :: []))) []) Br.fail) Br.fail)) Br.fail) Br.fail) (Br.ret (AV.tup ((AV.str s) :: ((AV.bool false) :: []))) []))
def cpx0_s : List AV → List Ob → Br
  | [.str s, .str p], [] => cpx0_br s p
  | _, _ => .fail
theorem cpx0_ok : Sound Kx 304 cpx0_s := sound_br (C := cpx0_C) (O := cpx0_O) Tryz.func304 (by kernel_rfl) fun args objs => by
  unfold cpx0_s; split
  · exact .inr (by kernel_rfl)
  · exact .inl rfl

def cpx_O : Opt := { split := true }
def cpx_C : SC := [⟨304, _, cpx0_ok⟩]
def cpx_br (s p : Bytes) : Br := (Br.ite (decide ((p.length : Int) ≤ (s.length : Int))) (Br.ite (decide (0 ≤ (p.length : Int))) (Br.ite (decide ((p.length : Int) ≤ (s.length : Int))) (Br.ite (!(decide ((cut s 0 (p.length : Int)) = p))) (Br.ret (AV.tup ((AV.str s) :: ((AV.bool false) :: []))) []) (Br.ite (decide (0 ≤ (p.length : Int))) (Br.ite (decide ((p.length : Int) ≤ (s.length : Int))) (Br.ret (AV.tup ((AV.str (cut s (p.length : Int) (s.length : Int))) :: ((AV.bool true) :: []))) []) Br.fail) Br.fail)) Br.fail) Br.fail) (Br.ret (AV.tup ((AV.str s) :: ((AV.bool false) :: []))) []))
def cpx_s : List AV → List Ob → Br
  | [.str s, .str p], [] => cpx_br s p
  | _, _ => .fail
theorem cpx_ok : Sound Kx 285 cpx_s := sound_br (C := cpx_C) (O := cpx_O) Tryz.func285 (by kernel_rfl) fun args objs => by
  unfold cpx_s; split
  · exact .inr (by kernel_rfl)
  · exact .inl rfl

def sFirst_O : Opt := { live := [(2, [0, 2, 4])], outs := [(2, [0, 2, 3, 4])] }
def sFirst_C : SC := [⟨122, _, srequest_okQ⟩]
def sFirst_T2 (v2x0 : Bytes) (v2x1 : Int) (v2x2 v2x3 : Bytes) (v2x4 : Int) (v2x5 : Bytes) (v2x6 : Bool) (v2x7 : Bytes) (v2x8 : (List Fd)) (kR2 k2e0 : Bytes → Int → Bytes → Bytes → Int → Bytes → Bool → Bytes → (List Fd) → Option Rs) : Option Rs :=
  (bif (decide (v2x1 < (v2x0.length : Int))) then (bif (decide (0 ≤ v2x1)) then (bif (decide (v2x1 < (v2x0.length : Int))) then (bif (!(decide ((strAt v2x0 v2x1) = 32))) then (kR2 v2x0 (wk64 (v2x1 + 1)) v2x2 v2x3 v2x4 v2x5 v2x6 v2x7 v2x8) else (k2e0 v2x0 v2x1 v2x2 v2x3 v2x4 v2x5 v2x6 v2x7 v2x8)) else (none)) else (none)) else (k2e0 v2x0 v2x1 v2x2 v2x3 v2x4 v2x5 v2x6 v2x7 v2x8))
def sFirst_F2 : Nat → Bytes → Int → Bytes → Bytes → Int → Bytes → Bool → Bytes → (List Fd) → (Bytes → Int → Bytes → Bytes → Int → Bytes → Bool → Bytes → (List Fd) → Option Rs) → Option Rs
  | 0, _, _, _, _, _, _, _, _, _, _ => none
  | n + 1, v2x0, v2x1, v2x2, v2x3, v2x4, v2x5, v2x6, v2x7, v2x8, k2e0 => sFirst_T2 v2x0 v2x1 v2x2 v2x3 v2x4 v2x5 v2x6 v2x7 v2x8 (fun v2x0 v2x1 v2x2 v2x3 v2x4 v2x5 v2x6 v2x7 v2x8 => sFirst_F2 n v2x0 v2x1 v2x2 v2x3 v2x4 v2x5 v2x6 v2x7 v2x8 k2e0) k2e0
abbrev sFirst_p2 : SP := ⟨46, [0, 2, 4], [(.v .s), (.v (.ptr 192 0)), (.v (.i .i64))], [(192, .var [.s, .s, (.i .i64), .s, .b, (.ref 198 0), .s]), (198, .arr (Ty.pair Ty.str Ty.str) 0 false)]⟩
noncomputable def sFirst_b2 : Code := codeAt (codeOf Tryz.f247) [1, 1, 0, 0, 0]
def sFirst_E2 (f : (Bytes → Int → Bytes → Bytes → Int → Bytes → Bool → Bytes → (List Fd) → Option Rs) → Option Rs) (k : KT) : Option Rs := f (fun x2x0x0 x2x0x1 x2x0x2 x2x0x3 x2x0x4 x2x0x5 x2x0x6 x2x0x7 x2x0x8 => k (Ex.exit 0) ((St.mk (slots 0 46 [(0, (AV.str x2x0x0)), (2, (AV.ptr 192 0)), (4, (AV.int .i64 x2x0x1))]) ((192, (Ob.var ((AV.str x2x0x2) :: ((AV.str x2x0x3) :: ((AV.int .i64 x2x0x4) :: ((AV.str x2x0x5) :: ((AV.bool x2x0x6) :: ((AV.ref 198 0) :: ((AV.str x2x0x7) :: []))))))))) :: ((198, (Ob.arr (Ty.pair Ty.str Ty.str) 0 false x2x0x8)) :: ([] : (List (Nat × (Ob)))))))))
def sFirst_G2 (n : Nat) (d : sFirst_p2.D) : KT → Option Rs := sFirst_E2 (sFirst_F2 n d.1.1 d.1.2.2.1 d.2.1.1 d.2.1.2.1 d.2.1.2.2.1 d.2.1.2.2.2.1 d.2.1.2.2.2.2.1 d.2.1.2.2.2.2.2.2.1 d.2.2.1)
def sFirst_L (N : Nat) : Lam := lamOf [⟨2, sFirst_p2, sFirst_G2 N⟩]
theorem sFirst_ok2 (N : Nat) : OkL Kx sFirst_C.s sFirst_O 0 N (sFirst_L N) sFirst_b2 := okL sFirst_p2 (sFirst_G2) (fun d kR => sFirst_E2 (sFirst_T2 d.1.1 d.1.2.2.1 d.2.1.1 d.2.1.2.1 d.2.1.2.2.1 d.2.1.2.2.2.1 d.2.1.2.2.2.2.1 d.2.1.2.2.2.2.2.2.1 d.2.2.1 (fun v2x0 v2x1 v2x2 v2x3 v2x4 v2x5 v2x6 v2x7 v2x8 => kR ((v2x0, (), v2x1, ()), ((v2x2, v2x3, v2x4, v2x5, v2x6, (), v2x7, ()), v2x8, ()))))) (fun _ _ => by kernel_rfl) (fun _ _ _ => by kernel_rfl) (fun _ _ => by kernel_rfl) (fun _ _ _ _ => by kernel_rfl) (okEach (l' := []) (by kernel_rfl) trivial)
def sFirst_run (N : Nat) (s : Bytes) : Option Rs := (sFirst_F2 N s 0 ([] : Bytes) ([] : Bytes) 0 ([] : Bytes) false ([] : Bytes) ([] : (List Fd)) (fun x2x0x0 => (fun x2x0x1 => (fun x2x0x2 => (fun x2x0x3 => (fun x2x0x4 => (fun x2x0x5 => (fun x2x0x6 => (fun x2x0x7 => (fun x2x0x8 => (bif (decide ((x2x0x0.length : Int) < (wk64 (x2x0x1 + 11)))) then (some ((AV.tup ((AV.agg ((AV.str ([] : Bytes)) :: ((AV.str ([] : Bytes)) :: ((AV.int .i64 0) :: ((AV.str ([] : Bytes)) :: ((AV.bool false) :: ((AV.ref 0 0) :: ((AV.str ([] : Bytes)) :: [])))))))) :: ((AV.bool false) :: []))), ((Ob.arr (Ty.pair Ty.str Ty.str) 0 false ([] : (List Fd))) :: []))) else (bif (decide (0 ≤ (wk64 ((x2x0x0.length : Int) - 9)))) then (bif (decide ((wk64 ((x2x0x0.length : Int) - 9)) ≤ (x2x0x0.length : Int))) then (bif (!(decide ((cut x2x0x0 (wk64 ((x2x0x0.length : Int) - 9)) (x2x0x0.length : Int)) = ([32, 72, 84, 84, 80, 47, 49, 46, 49] : Bytes)))) then (some ((AV.tup ((AV.agg ((AV.str ([] : Bytes)) :: ((AV.str ([] : Bytes)) :: ((AV.int .i64 0) :: ((AV.str ([] : Bytes)) :: ((AV.bool false) :: ((AV.ref 0 0) :: ((AV.str ([] : Bytes)) :: [])))))))) :: ((AV.bool false) :: []))), ((Ob.arr (Ty.pair Ty.str Ty.str) 0 false ([] : (List Fd))) :: []))) else (bif (decide (0 ≤ x2x0x1)) then (bif (decide (x2x0x1 ≤ (x2x0x0.length : Int))) then (bif (decide (0 ≤ (wk64 (x2x0x1 + 1)))) then (bif (decide ((wk64 (x2x0x1 + 1)) ≤ (wk64 ((x2x0x0.length : Int) - 9)))) then (bif (decide ((wk64 ((x2x0x0.length : Int) - 9)) ≤ (x2x0x0.length : Int))) then (some ((AV.tup ((AV.agg ((AV.str (cut x2x0x0 0 x2x0x1)) :: ((AV.str (cut x2x0x0 (wk64 (x2x0x1 + 1)) (wk64 ((x2x0x0.length : Int) - 9)))) :: ((AV.int .i64 0) :: ((AV.str ([] : Bytes)) :: ((AV.bool false) :: ((AV.ref 0 0) :: ((AV.str ([] : Bytes)) :: [])))))))) :: ((AV.bool (reqP (cut x2x0x0 0 x2x0x1) (cut x2x0x0 (wk64 (x2x0x1 + 1)) (wk64 ((x2x0x0.length : Int) - 9))) 0 ([] : Bytes) false)) :: []))), ((Ob.arr (Ty.pair Ty.str Ty.str) 0 false ([] : (List Fd))) :: []))) else (none)) else (none)) else (none)) else (none)) else (none))) else (none)) else (none)))))))))))))
def sFirst_sOf (φ : Bytes → Br) : List AV → List Ob → Br
  | [.str s], [] => φ s
  | _, _ => .fail
theorem sFirst_okOf {φ : Bytes → Br} (fu : Bytes → Nat) (hv : ∀ s res_, (φ s).val = some res_ → sFirst_run (fu s) s = some res_) : Sound Kx 247 (sFirst_sOf φ) := sound_lp (C := sFirst_C) (O := sFirst_O) Tryz.func247 (by kernel_rfl) fun args objs => by
  unfold sFirst_sOf; split
  · rename_i s; exact .inr fun _ hyp_ => run_lp (Λ := sFirst_L (fu s)) (by kernel_rfl) (okEach (l' := [sFirst_b2]) (by kernel_rfl) ⟨sFirst_ok2 _, trivial⟩) (by kernel_rfl) (hv s _ hyp_)
  · exact .inl rfl

def sStatus_O : Opt := { split := true }
def sStatus_C : SC := [⟨109, _, sReadDec_okQ⟩, ⟨159, _, splains_okQ⟩]
abbrev sStatus_c1 (s : Bytes) := (Br.ret (AV.tup ((AV.agg ((AV.str ([] : Bytes)) :: ((AV.str ([] : Bytes)) :: ((AV.int .i64 (decR (cut s 9 12)).1) :: ((AV.str (cut s 13 (s.length : Int))) :: ((AV.bool false) :: ((AV.ref 0 0) :: ((AV.str ([] : Bytes)) :: [])))))))) :: ((AV.bool false) :: []))) ((Ob.arr (Ty.pair Ty.str Ty.str) 0 false ([] : (List Fd))) :: []))
abbrev sStatus_c2 (s : Bytes) := (Br.ret (AV.tup ((AV.agg ((AV.str ([] : Bytes)) :: ((AV.str ([] : Bytes)) :: ((AV.int .i64 0) :: ((AV.str ([] : Bytes)) :: ((AV.bool false) :: ((AV.ref 0 0) :: ((AV.str ([] : Bytes)) :: [])))))))) :: ((AV.bool false) :: []))) ((Ob.arr (Ty.pair Ty.str Ty.str) 0 false ([] : (List Fd))) :: []))
def sStatus_br (s : Bytes) : Br := (Br.ite (decide ((s.length : Int) < 13)) (sStatus_c2 s) (Br.ite (decide (9 ≤ (s.length : Int))) (Br.ite (!(decide ((cut s 0 9) = ([72, 84, 84, 80, 47, 49, 46, 49, 32] : Bytes)))) (sStatus_c2 s) (Br.ite (decide (12 < (s.length : Int))) (Br.ite (!(decide ((strAt s 12) = 32))) (sStatus_c2 s) (Br.ite (decide (12 ≤ (s.length : Int))) (Br.ite (decide (13 ≤ (s.length : Int))) (Br.ite (decR (cut s 9 12)).2 (Br.ite (decide (200 ≤ (decR (cut s 9 12)).1)) (Br.ite (decide ((decR (cut s 9 12)).1 ≤ 599)) (Br.ite (decide (((List.length (cut s 13 (s.length : Int))) : Int) ≤ 40)) (Br.ite (isM (cut s 13 (s.length : Int))) (Br.ite (allP isPl (cut s 13 (s.length : Int))) (Br.ret (AV.tup ((AV.agg ((AV.str ([] : Bytes)) :: ((AV.str ([] : Bytes)) :: ((AV.int .i64 (decR (cut s 9 12)).1) :: ((AV.str (cut s 13 (s.length : Int))) :: ((AV.bool false) :: ((AV.ref 0 0) :: ((AV.str ([] : Bytes)) :: [])))))))) :: ((AV.bool true) :: []))) ((Ob.arr (Ty.pair Ty.str Ty.str) 0 false ([] : (List Fd))) :: [])) (sStatus_c1 s)) Br.fail) (sStatus_c1 s)) (sStatus_c1 s)) (sStatus_c1 s)) (sStatus_c1 s)) Br.fail) Br.fail)) Br.fail)) Br.fail))
def sStatus_s : List AV → List Ob → Br
  | [.str s], [] => sStatus_br s
  | _, _ => .fail
theorem sStatus_ok : Sound Kx 246 sStatus_s := sound_br (C := sStatus_C) (O := sStatus_O) Tryz.func246 (by kernel_rfl) fun args objs => by
  unfold sStatus_s; split
  · exact .inr (by kernel_rfl)
  · exact .inl rfl

def iFirst_O : Opt := { split := true }
def iFirst_C : SC := [⟨285, _, cpx_ok⟩, ⟨92, _, allDig_okQ⟩, ⟨230, _, atoi_okQ⟩, ⟨130, _, isStatus_okQ⟩, ⟨131, _, isReason_okQ⟩, ⟨233, _, split_okQ⟩, ⟨128, _, isMethod_okQ⟩, ⟨129, _, isTarget_okQ⟩]
abbrev iFirst_c1 (s : Bytes) (an : Bool) := (Br.ret (AV.tup ((AV.agg ((AV.str ([] : Bytes)) :: ((AV.str ([] : Bytes)) :: ((AV.int .i64 0) :: ((AV.str ([] : Bytes)) :: ((AV.bool false) :: ((AV.ref 0 0) :: ((AV.str ([] : Bytes)) :: [])))))))) :: ((AV.bool false) :: []))) ((Ob.arr (Ty.pair Ty.str Ty.str) 0 false ([] : (List Fd))) :: []))
abbrev iFirst_c2 (s : Bytes) (an : Bool) := (Br.ite (decide (4 ≤ ((List.length (cut s 9 (s.length : Int))) : Int))) (Br.ite (isSta (atoiV (cut (cut s 9 (s.length : Int)) 0 3))) (Br.ite (decide (4 ≤ ((List.length (cut s 9 (s.length : Int))) : Int))) (Br.ite (reasonP (cut (cut s 9 (s.length : Int)) 4 ((List.length (cut s 9 (s.length : Int))) : Int))) (Br.ret (AV.tup ((AV.agg ((AV.str ([] : Bytes)) :: ((AV.str ([] : Bytes)) :: ((AV.int .i64 (atoiV (cut (cut s 9 (s.length : Int)) 0 3))) :: ((AV.str (cut (cut s 9 (s.length : Int)) 4 ((List.length (cut s 9 (s.length : Int))) : Int))) :: ((AV.bool false) :: ((AV.ref 0 0) :: ((AV.str ([] : Bytes)) :: [])))))))) :: ((AV.bool true) :: []))) ((Ob.arr (Ty.pair Ty.str Ty.str) 0 false ([] : (List Fd))) :: [])) (Br.ret (AV.tup ((AV.agg ((AV.str ([] : Bytes)) :: ((AV.str ([] : Bytes)) :: ((AV.int .i64 (atoiV (cut (cut s 9 (s.length : Int)) 0 3))) :: ((AV.str (cut (cut s 9 (s.length : Int)) 4 ((List.length (cut s 9 (s.length : Int))) : Int))) :: ((AV.bool false) :: ((AV.ref 0 0) :: ((AV.str ([] : Bytes)) :: [])))))))) :: ((AV.bool false) :: []))) ((Ob.arr (Ty.pair Ty.str Ty.str) 0 false ([] : (List Fd))) :: []))) Br.fail) (Br.ret (AV.tup ((AV.agg ((AV.str ([] : Bytes)) :: ((AV.str ([] : Bytes)) :: ((AV.int .i64 (atoiV (cut (cut s 9 (s.length : Int)) 0 3))) :: ((AV.str (cut (cut s 9 (s.length : Int)) 4 ((List.length (cut s 9 (s.length : Int))) : Int))) :: ((AV.bool false) :: ((AV.ref 0 0) :: ((AV.str ([] : Bytes)) :: [])))))))) :: ((AV.bool false) :: []))) ((Ob.arr (Ty.pair Ty.str Ty.str) 0 false ([] : (List Fd))) :: []))) Br.fail)
abbrev iFirst_c3 (s : Bytes) (an : Bool) := (AV.agg ((AV.str (List.getD (splP s 32) 0 ([] : Bytes))) :: ((AV.str (List.getD (splP s 32) 1 ([] : Bytes))) :: ((AV.int .i64 0) :: ((AV.str ([] : Bytes)) :: ((AV.bool false) :: ((AV.ref 0 0) :: ((AV.str ([] : Bytes)) :: []))))))))
def iFirst_br (s : Bytes) (an : Bool) : Br := (Br.ite an (Br.ite (decide (9 ≤ (s.length : Int))) (Br.ite (decide (9 ≤ (s.length : Int))) (Br.ite (!(decide ((cut s 0 9) = ([72, 84, 84, 80, 47, 49, 46, 49, 32] : Bytes)))) (iFirst_c1 s an) (Br.ite (decide (9 ≤ (s.length : Int))) (Br.ite (decide (((List.length (cut s 9 (s.length : Int))) : Int) < 4)) (iFirst_c1 s an) (Br.ite (decide (3 < ((List.length (cut s 9 (s.length : Int))) : Int))) (Br.ite (!(decide ((strAt (cut s 9 (s.length : Int)) 3) = 32))) (iFirst_c1 s an) (Br.ite (decide (3 ≤ ((List.length (cut s 9 (s.length : Int))) : Int))) (Br.ite (isM (cut (cut s 9 (s.length : Int)) 0 3)) (Br.ite (!(allP isDig (cut (cut s 9 (s.length : Int)) 0 3))) (iFirst_c1 s an) (Br.ite (decide (3 ≤ ((List.length (cut s 9 (s.length : Int))) : Int))) (Br.ite (decide ((List.length (cut (cut s 9 (s.length : Int)) 0 3)) ≤ 1000000)) (Br.ite (atoiOk (cut (cut s 9 (s.length : Int)) 0 3)) (iFirst_c2 s an) (iFirst_c2 s an)) Br.fail) Br.fail)) Br.fail) Br.fail)) Br.fail)) Br.fail)) Br.fail) (iFirst_c1 s an)) (Br.ite (decide (s.length ≤ 1000000)) (Br.ite (!(decide (((List.length (splP s 32)) : Int) = 3))) (iFirst_c1 s an) (Br.ite (decide (2 < ((List.length (splP s 32)) : Int))) (Br.ite (!(decide ((List.getD (splP s 32) 2 ([] : Bytes)) = ([72, 84, 84, 80, 47, 49, 46, 49] : Bytes)))) (iFirst_c1 s an) (Br.ite (decide (0 < ((List.length (splP s 32)) : Int))) (Br.ite (decide (1 < ((List.length (splP s 32)) : Int))) (Br.ite (decide (0 < ((List.length (splP s 32)) : Int))) (Br.ite (methodP (List.getD (splP s 32) 0 ([] : Bytes))) (Br.ite (decide (1 < ((List.length (splP s 32)) : Int))) (Br.ite (targetP (List.getD (splP s 32) 1 ([] : Bytes))) (Br.ret (AV.tup ((iFirst_c3 s an) :: ((AV.bool true) :: []))) ((Ob.arr (Ty.pair Ty.str Ty.str) 0 false ([] : (List Fd))) :: [])) (Br.ret (AV.tup ((iFirst_c3 s an) :: ((AV.bool false) :: []))) ((Ob.arr (Ty.pair Ty.str Ty.str) 0 false ([] : (List Fd))) :: []))) Br.fail) (Br.ret (AV.tup ((iFirst_c3 s an) :: ((AV.bool false) :: []))) ((Ob.arr (Ty.pair Ty.str Ty.str) 0 false ([] : (List Fd))) :: []))) Br.fail) Br.fail) Br.fail)) Br.fail)) Br.fail))
def iFirst_s : List AV → List Ob → Br
  | [.str s, .bool an], [] => iFirst_br s an
  | _, _ => .fail
theorem iFirst_ok : Sound Kx 251 iFirst_s := sound_br (C := iFirst_C) (O := iFirst_O) Tryz.func251 (by kernel_rfl) fun args objs => by
  unfold iFirst_s; split
  · exact .inr (by kernel_rfl)
  · exact .inl rfl

end
end Go.Proofs.YtdknaddanjpdaaaGreatDoor.Ev

namespace Go.Proofs.YtdknaddanjpdaaaGreatDoor.Ev
open Go Go.RowKit
set_option linter.unusedVariables false
set_option linter.unusedSimpArgs false
noncomputable section

def h11 : Bytes := [72, 84, 84, 80, 47, 49, 46, 49]
def rqX (s : Bytes) : Bytes := uptoP s 32
def rqZ (s : Bytes) : Bytes := s.drop ((rqX s).length + 1)
def rqY (s : Bytes) : Bytes := uptoP (rqZ s) 32
def rqOk (s : Bytes) : Bool := decide (s = rqX s ++ 32 :: (rqY s ++ 32 :: h11)) && (methodP (rqX s) && targetP (rqY s))
theorem spl_hit {s : Bytes} {b : Int} (h : (uptoP s b).length ≠ s.length) : splP s b = uptoP s b :: splP (s.drop ((uptoP s b).length + 1)) b := by
  unfold splP; rw [splR_hit b s [] h]; rfl
theorem spl_miss {s : Bytes} {b : Int} (h : (uptoP s b).length = s.length) : splP s b = [s] := by
  unfold splP; rw [splR_miss b s [] h]; rfl
theorem spl_ne (s : Bytes) (b : Int) : splP s b ≠ [] := by
  by_cases h : (uptoP s b).length = s.length
  · rw [spl_miss h]; simp
  · rw [spl_hit h]; simp
theorem upto_hit (c : UInt8) : ∀ (s : Bytes), (uptoP s (by8 c)).length ≠ s.length → s = uptoP s (by8 c) ++ c :: s.drop ((uptoP s (by8 c)).length + 1)
  | [], h => absurd rfl h
  | x :: r, h => by
    unfold uptoP at h ⊢
    rw [List.takeWhile_cons] at h ⊢
    cases e : decide (by8 x = by8 c)
    · rw [e] at h
      simp only [Bool.not_false, if_true, List.length_cons] at h ⊢
      have ih := upto_hit c r (by unfold uptoP; omega)
      unfold uptoP at ih
      rw [List.cons_append, List.drop_succ_cons, ← ih]
    · have hx := by8_inj (of_decide_eq_true e)
      subst hx; simp
theorem upto_app (c : UInt8) (z : Bytes) : ∀ (p : Bytes), (∀ x ∈ p, decide (by8 x = by8 c) = false) → uptoP (p ++ c :: z) (by8 c) = p
  | [], _ => by unfold uptoP; simp
  | x :: p, h => by
    have := upto_app c z p fun y hy => h y (List.mem_cons_of_mem _ hy)
    unfold uptoP at this ⊢
    rw [List.cons_append, List.takeWhile_cons, h x (List.mem_cons_self ..)]
    simp only [Bool.not_false, if_true, this]
theorem vis_no {s : Bytes} (h : allP isVis s = true) : ∀ x ∈ s, decide (by8 x = by8 32) = false := by
  intro x hx
  unfold allP at h
  rw [List.all_eq_true] at h
  have := h x hx
  unfold isVis at this
  rw [Bool.and_eq_true, decide_eq_true_eq] at this
  exact decide_eq_false (by show ¬ by8 x = 32; omega)
theorem rq_spl (s : Bytes) : (decide ((splP s 32).length = 3) && decide ((splP s 32).getD 2 [] = h11) && (methodP ((splP s 32).getD 0 []) && targetP ((splP s 32).getD 1 []))) = rqOk s ∧
    (rqOk s = true → (splP s 32).length = 3 ∧ (splP s 32).getD 0 [] = rqX s ∧ (splP s 32).getD 1 [] = rqY s ∧ (splP s 32).getD 2 [] = h11) := by
  have hb : (32 : Int) = by8 32 := rfl
  unfold rqOk
  by_cases h1 : (uptoP s 32).length = s.length
  · have e1 : decide (s = rqX s ++ 32 :: (rqY s ++ 32 :: h11)) = false := decide_eq_false fun e => by
      have := congrArg List.length e
      rw [List.length_append, List.length_cons] at this
      unfold rqX at this; omega
    rw [spl_miss h1, e1]
    exact ⟨rfl, fun h => by cases h⟩
  · have hs := upto_hit 32 s h1
    rw [← hb] at hs
    have hs' : s = rqX s ++ 32 :: rqZ s := hs
    rw [spl_hit h1]
    change (decide ((rqX s :: splP (rqZ s) 32).length = 3) && decide ((rqX s :: splP (rqZ s) 32).getD 2 [] = h11) && (methodP ((rqX s :: splP (rqZ s) 32).getD 0 []) && targetP ((rqX s :: splP (rqZ s) 32).getD 1 []))) = _ ∧ (_ → (rqX s :: splP (rqZ s) 32).length = 3 ∧ (rqX s :: splP (rqZ s) 32).getD 0 [] = rqX s ∧ (rqX s :: splP (rqZ s) 32).getD 1 [] = rqY s ∧ (rqX s :: splP (rqZ s) 32).getD 2 [] = h11)
    have he : (s = rqX s ++ 32 :: (rqY s ++ 32 :: h11)) ↔ rqZ s = rqY s ++ 32 :: h11 := by
      constructor
      · intro e
        have := hs'.symm.trans e
        exact (List.cons.inj (List.append_cancel_left this)).2
      · intro e; rw [← e]; exact hs'
    by_cases h2 : (uptoP (rqZ s) 32).length = (rqZ s).length
    · have e1 : decide (s = rqX s ++ 32 :: (rqY s ++ 32 :: h11)) = false := decide_eq_false fun e => by
        have := congrArg List.length (he.1 e)
        rw [List.length_append, List.length_cons] at this
        unfold rqY at this; omega
      rw [spl_miss h2, e1]
      exact ⟨rfl, fun h => by cases h⟩
    · have hz := upto_hit 32 (rqZ s) h2
      rw [← hb] at hz
      have hy : uptoP (rqZ s) 32 = rqY s := rfl
      rw [spl_hit h2]
      rw [hy] at hz ⊢
      generalize (rqZ s).drop ((rqY s).length + 1) = z at hz ⊢
      have he2 : rqZ s = rqY s ++ 32 :: h11 ↔ z = h11 := by
        constructor
        · intro e
          have := hz.symm.trans e
          exact (List.cons.inj (List.append_cancel_left this)).2
        · intro e; rw [← e]; exact hz
      by_cases h3 : z = h11
      · have e1 : decide (s = rqX s ++ 32 :: (rqY s ++ 32 :: h11)) = true := decide_eq_true (he.2 (he2.2 h3))
        rw [e1, h3, show splP h11 32 = [h11] from rfl]
        exact ⟨rfl, fun _ => ⟨rfl, rfl, rfl, rfl⟩⟩
      · have e1 : decide (s = rqX s ++ 32 :: (rqY s ++ 32 :: h11)) = false := decide_eq_false fun e => h3 (he2.1 (he.1 e))
        rw [e1]
        refine ⟨?_, fun h => by cases h⟩
        by_cases h4 : (uptoP z 32).length = z.length
        · rw [spl_miss h4]
          show (decide (z = h11) && _) = _
          rw [decide_eq_false h3]; rfl
        · rw [spl_hit h4]
          have := spl_ne (z.drop ((uptoP z 32).length + 1)) 32
          rw [decide_eq_false (show ¬ (rqX s :: rqY s :: uptoP z 32 :: splP (z.drop ((uptoP z 32).length + 1)) 32).length = 3 by
            have := List.length_pos_iff.2 this
            simp only [List.length_cons]; omega)]
          rfl
theorem parse_step (c : UInt8) (r : Bytes) (acc : Nat) (h : isDig (by8 c) = true) (ha : acc ≤ 999) : Lib.parseUint10 acc (c :: r) = Lib.parseUint10 (acc * 10 + (c.toNat - 48)) r := by
  unfold isDig by8 at h
  rw [Bool.and_eq_true, decide_eq_true_eq, decide_eq_true_eq] at h
  conv => lhs; unfold Lib.parseUint10
  rw [if_pos (by omega), if_neg (by omega), if_neg (by omega)]
theorem dec3 (n : Nat) (h1 : 100 ≤ n) (h2 : n < 1000) : Lib.decDigits n = [UInt8.ofNat (48 + n / 100), UInt8.ofNat (48 + n / 10 % 10), UInt8.ofNat (48 + n % 10)] := by
  rw [Lib.decDigits, dif_neg (by omega), Lib.decDigits, dif_neg (by omega), Lib.decDigits, dif_pos (by omega)]
  rw [show n / 10 / 10 = n / 100 by omega]; rfl
theorem cnd_fst (x : Bool) (v : Int) (h : (bif x then (v, true) else (0, false)).2 = true) : (bif x then (v, true) else (0, false)).1 = v := by
  cases x
  · cases h
  · rfl
theorem three (a b c : UInt8) (ha : isDig (by8 a) = true) (hb : isDig (by8 b) = true) (hc : isDig (by8 c) = true) : atoiOk [a, b, c] = true ∧ isSta (atoiV [a, b, c]) = ((decR [a, b, c]).2 && isSta (decR [a, b, c]).1) ∧ ((decR [a, b, c]).2 = true → (decR [a, b, c]).1 = atoiV [a, b, c]) := by
  have ha' := ha; have hb' := hb; have hc' := hc
  unfold isDig by8 at ha' hb' hc'
  rw [Bool.and_eq_true, decide_eq_true_eq, decide_eq_true_eq] at ha' hb' hc'
  have hp : Lib.parseUint10 0 [a, b, c] = .ok ((a.toNat - 48) * 100 + (b.toNat - 48) * 10 + (c.toNat - 48)) := by
    rw [parse_step a _ _ ha (by omega), parse_step b _ _ hb (by omega), parse_step c _ _ hc (by omega)]
    unfold Lib.parseUint10
    congr 1; omega
  have hat : Lib.atoiAll [a, b, c] = .ok (((a.toNat - 48) * 100 + (b.toNat - 48) * 10 + (c.toNat - 48) : Nat) : Int) := by
    rw [Lib.atoiAll_plain a _ (by omega) (by omega)]
    unfold Lib.parseMag
    rw [if_neg (by simp), hp]
    unfold Lib.signless
    simp only
    rw [if_neg (by omega)]
  have e1 : atoiOk [a, b, c] = true := by unfold atoiOk; rw [hat]
  have e2 : atoiV [a, b, c] = (((a.toNat - 48) * 100 + (b.toNat - 48) * 10 + (c.toNat - 48) : Nat) : Int) := by unfold atoiV; rw [hat]
  refine ⟨e1, ?_, fun h => ?_⟩
  · rw [decR_atoi, e1, e2]
    generalize hv : (a.toNat - 48) * 100 + (b.toNat - 48) * 10 + (c.toNat - 48) = v
    cases hs : isSta (v : Int)
    · cases true && (decide (0 ≤ (v : Int)) && decide ((v : Int) ≤ 999999999999999)) && decide (decD (v : Int) = [a, b, c])
      · rfl
      · exact hs.symm
    · have hs' := hs
      unfold isSta at hs'
      rw [Bool.and_eq_true, decide_eq_true_eq, decide_eq_true_eq] at hs'
      have hd : decD (v : Int) = [a, b, c] := by
        rw [decD_eq, Int.toNat_natCast, dec3 v (by omega) (by omega)]
        rw [show 48 + v / 100 = a.toNat by omega, show 48 + v / 10 % 10 = b.toNat by omega, show 48 + v % 10 = c.toNat by omega]
        simp
      rw [hd, decide_eq_true (show (0 : Int) ≤ (v : Int) by omega), decide_eq_true (show (v : Int) ≤ 999999999999999 by omega), decide_eq_true rfl]
      exact hs.symm
  · rw [decR_atoi, e1, e2] at h ⊢
    exact cnd_fst _ _ h
def anD (s : Bytes) : Bytes := cut s 9 12
def anN (s : Bytes) : Int := (decR (anD s)).1
def anOk (s : Bytes) : Bool := decide (13 ≤ s.length) && decide (cut s 0 9 = h11 ++ [32]) && decide (strAt s 12 = 32) && ((decR (anD s)).2 && isSta (anN s)) && reasonP (s.drop 13)

def fo0 : List Ob := [.arr (.pair .str .str) 0 false []]
def fiA (m t : Bytes) (n : Int) (r : Bytes) (ok : Bool) : AV := .tup [.agg [.str m, .str t, .int .i64 n, .str r, .bool false, .ref 0 0, .str []], .bool ok]
def gI : Option Rs → Bytes × Bytes × Int × Bytes
  | some (.tup [.agg [.str m, .str t, .int _ n, .str r, _, _, _], _], _) => (m, t, n, r)
  | _ => ([], [], 0, [])
theorem gI_of {v : Option Rs} {m t r : Bytes} {n : Int} (h : v = some (fiA m t n r false, fo0)) : v = some (fiA (gI v).1 (gI v).2.1 (gI v).2.2.1 (gI v).2.2.2 false, fo0) := by
  subst h; rfl
def giQ (s : Bytes) : Bytes × Bytes × Int × Bytes := gI (sFirst_run (s.length + 1) s)
def giA (s : Bytes) : Bytes × Bytes × Int × Bytes := gI (sStatus_br s).val
def giI (s : Bytes) (an : Bool) : Bytes × Bytes × Int × Bytes := gI (iFirst_br s an).val
theorem sFirst_loop (s : Bytes) (hl : s.length ≤ 1000000) (b c : Bytes) (d : Int) (e : Bytes) (f : Bool) (g : Bytes) (m : List Fd) (k : Bytes → Int → Bytes → Bytes → Int → Bytes → Bool → Bytes → List Fd → Option Rs) : ∀ (r : Bytes) (i : Int) (n : Nat), At s i r → r.length < n →
    sFirst_F2 n s i b c d e f g m k = k s (i + (uptoP r 32).length) b c d e f g m := by
  intro r; induction r with
  | nil => intro i n h hn; obtain ⟨n, rfl⟩ := fuel hn; unfold sFirst_F2 sFirst_T2; rw [h.dge, cond_false]; simp [uptoP]
  | cons x r ih =>
    intro i n h hn; obtain ⟨n, rfl⟩ := fuel hn
    simp only [List.length_cons] at hn
    have hs := ih (i + 1) n h.step (by omega)
    unfold sFirst_F2 sFirst_T2
    simp only [h.dlt, h.dnn, h.str, h.next (by omega), cond_true, hs]
    unfold uptoP
    rw [List.takeWhile_cons]
    cases decide (by8 x = 32)
    · simp only [Bool.not_false, cond_true, if_true, List.length_cons]
      congr 1; omega
    · simp
theorem rq_of {s t : Bytes} (h : rqZ s = t ++ 32 :: h11) (hs : s = rqX s ++ 32 :: rqZ s) : rqOk s = (methodP (rqX s) && targetP t) ∧ (targetP t = true → rqY s = t) := by
  have hy : targetP t = true → rqY s = t := fun ht => by
    unfold targetP at ht
    simp only [Bool.and_eq_true] at ht
    unfold rqY
    rw [h]
    exact upto_app 32 h11 t (vis_no ht.2)
  refine ⟨?_, hy⟩
  unfold rqOk
  cases ht : targetP t
  · rw [Bool.and_false]
    by_cases c : s = rqX s ++ 32 :: (rqY s ++ 32 :: h11)
    · have h1 := (List.cons.inj (List.append_cancel_left (hs.symm.trans c))).2
      have h2 := h.symm.trans h1
      have h3 : t = rqY s := List.append_cancel_right h2
      rw [← h3, ht, Bool.and_false, Bool.and_false]
    · rw [decide_eq_false c]; rfl
  · rw [hy ht, ht]
    have c : s = rqX s ++ 32 :: (t ++ 32 :: h11) := by rw [← h]; exact hs
    rw [decide_eq_true c]; rfl
theorem rq_len {s : Bytes} (h : rqOk s = true) : s = rqX s ++ 32 :: (rqY s ++ 32 :: h11) ∧ s.length = (rqX s).length + (rqY s).length + 10 ∧ 1 ≤ (rqY s).length := by
  unfold rqOk at h
  rw [Bool.and_eq_true, Bool.and_eq_true, decide_eq_true_eq] at h
  refine ⟨h.1, ?_, ?_⟩
  · have e := congrArg List.length h.1
    rw [List.length_append, List.length_cons, List.length_append, List.length_cons] at e
    have : h11.length = 8 := rfl
    omega
  · have := h.2.2
    unfold targetP at this
    simp only [Bool.and_eq_true, decide_eq_true_eq] at this
    exact this.1.1
def sf_s : List AV → List Ob → Br
  | [.str s], [] => .ite (decide (s.length ≤ 1000000)) (.ite (rqOk s) (.ret (fiA (rqX s) (rqY s) 0 [] true) fo0) (.ret (fiA (giQ s).1 (giQ s).2.1 (giQ s).2.2.1 (giQ s).2.2.2 false) fo0)) .fail
  | _, _ => .fail
theorem sFirst_val (s : Bytes) (h1 : s.length ≤ 1000000) : (rqOk s = true → sFirst_run (s.length + 1) s = some (fiA (rqX s) (rqY s) 0 [] true, fo0)) ∧ (rqOk s = false → ∃ m t n r, sFirst_run (s.length + 1) s = some (fiA m t n r false, fo0)) := by
  unfold sFirst_run
  rw [sFirst_loop s h1 [] [] 0 [] false [] [] _ s 0 (s.length + 1) (At.start s) (by omega)]
  rw [show (0 : Int) + ((uptoP s 32).length : Int) = ((rqX s).length : Int) by unfold rqX; omega]
  have hx : (rqX s).length ≤ s.length := upto_le s 32
  have w1 : wk64 (((rqX s).length : Int) + 11) = ((rqX s).length : Int) + 11 := w64 (by omega) (by omega)
  have w2 : wk64 ((s.length : Int) - 9) = (s.length : Int) - 9 := w64 (by omega) (by omega)
  have w3 : wk64 (((rqX s).length : Int) + 1) = (((rqX s).length + 1 : Nat) : Int) := by rw [w64 (by omega) (by omega)]; omega
  rw [w1, w2, w3]
  by_cases c1 : (s.length : Int) < ((rqX s).length : Int) + 11
  · rw [decide_eq_true c1]
    refine ⟨fun h => ?_, fun _ => ⟨_, _, _, _, rfl⟩⟩
    have := rq_len h
    omega
  · obtain ⟨k, hk⟩ : ∃ k : Nat, s.length = k + 9 := ⟨s.length - 9, by omega⟩
    have e9 : (s.length : Int) - 9 = (k : Int) := by omega
    rw [decide_eq_false c1, e9, decide_eq_true (show (0 : Int) ≤ (k : Int) by omega), decide_eq_true (show (k : Int) ≤ (s.length : Int) by omega), cut_end (k := k) rfl, decide_eq_true (show (0 : Int) ≤ ((rqX s).length : Int) by omega), decide_eq_true (show ((rqX s).length : Int) ≤ (s.length : Int) by omega),
      decide_eq_true (show (0 : Int) ≤ (((rqX s).length + 1 : Nat) : Int) by omega), decide_eq_true (show (((rqX s).length + 1 : Nat) : Int) ≤ (k : Int) by omega), cut_take (k := (rqX s).length) rfl, cut_eq]
    simp only [cond_true, cond_false]
    have hsp : s = rqX s ++ 32 :: rqZ s := upto_hit 32 s (by show (rqX s).length ≠ s.length; omega)
    have htx : s.take (rqX s).length = rqX s := (congrArg (List.take (rqX s).length) hsp).trans (by simp)
    by_cases c2 : s.drop k = [32, 72, 84, 84, 80, 47, 49, 46, 49]
    · rw [decide_eq_true c2]
      have hz : rqZ s = (s.drop ((rqX s).length + 1)).take (k - ((rqX s).length + 1)) ++ 32 :: h11 := by
        have e := (List.take_append_drop (k - ((rqX s).length + 1)) (s.drop ((rqX s).length + 1))).symm
        rw [List.drop_drop, show (rqX s).length + 1 + (k - ((rqX s).length + 1)) = k by omega, c2] at e
        exact e
      obtain ⟨g1, g2⟩ := rq_of hz hsp
      rw [htx]
      generalize (s.drop ((rqX s).length + 1)).take (k - ((rqX s).length + 1)) = t at g1 g2 hz
      have hr : reqP (rqX s) t 0 [] false = (methodP (rqX s) && targetP t) := by unfold reqP; simp
      refine ⟨fun h => ?_, fun h => ⟨rqX s, t, 0, [], ?_⟩⟩
      · have h' := h
        rw [g1, Bool.and_eq_true] at h'
        rw [hr, ← g1, h, g2 h'.2]; rfl
      · rw [hr, ← g1, h]; rfl
    · rw [decide_eq_false c2]
      refine ⟨fun h => ?_, fun _ => ⟨_, _, _, _, rfl⟩⟩
      obtain ⟨h2, h3, h4⟩ := rq_len h
      exfalso; apply c2
      rw [h2, show k = (rqX s ++ 32 :: rqY s).length by simp; omega]
      rw [show rqX s ++ 32 :: (rqY s ++ 32 :: h11) = (rqX s ++ 32 :: rqY s) ++ 32 :: h11 by simp, List.drop_left]; rfl
theorem sFirst_okQ : Sound Kx 247 sf_s := by
  refine (sFirst_okOf (φ := fun s => .ite (decide (s.length ≤ 1000000)) (.ite (rqOk s) (.ret (fiA (rqX s) (rqY s) 0 [] true) fo0) (.ret (fiA (giQ s).1 (giQ s).2.1 (giQ s).2.2.1 (giQ s).2.2.2 false) fo0)) .fail) (fun s => s.length + 1) fun s r h => ?_).of fun args objs r h => ?_
  · obtain ⟨h1, h2⟩ := ite_some h
    rw [decide_eq_true_eq] at h1
    obtain ⟨g1, g2⟩ := sFirst_val s h1
    cases c : rqOk s
    · obtain ⟨m, t, n, r', g⟩ := g2 c
      rw [c] at h2
      exact (gI_of g).trans h2
    · rw [c] at h2
      exact (g1 c).trans h2
  · unfold sf_s at h; split at h
    · exact h
    · cases h
end
end Go.Proofs.YtdknaddanjpdaaaGreatDoor.Ev

namespace Go.Proofs.YtdknaddanjpdaaaGreatDoor.Ev
open Go Go.RowKit
set_option linter.unusedVariables false
set_option linter.unusedSimpArgs false
noncomputable section

def ss_s : List AV → List Ob → Br
  | [.str s], [] => .ite (decide (s.length ≤ 1000000)) (.ite (anOk s) (.ret (fiA [] [] (anN s) (s.drop 13) true) fo0) (.ret (fiA (giA s).1 (giA s).2.1 (giA s).2.2.1 (giA s).2.2.2 false) fo0)) .fail
  | _, _ => .fail
theorem h11_eq : h11 ++ [32] = [72, 84, 84, 80, 47, 49, 46, 49, 32] := rfl
theorem sStatus_val (s : Bytes) (h1 : s.length ≤ 1000000) : (anOk s = true → (sStatus_br s).val = some (fiA [] [] (anN s) (s.drop 13) true, fo0)) ∧ (anOk s = false → ∃ m t n r, (sStatus_br s).val = some (fiA m t n r false, fo0)) := by
  unfold sStatus_br anOk sStatus_c2 sStatus_c1
  by_cases h13 : 13 ≤ s.length
  case neg =>
    rw [decide_eq_false h13, decide_eq_true (show (s.length : Int) < 13 by omega)]
    exact ⟨(fun h => by cases h), fun _ => ⟨_, _, _, _, rfl⟩⟩
  have hm : isM (s.drop 13) = true := isM_of (n := 1000000) (by rw [List.length_drop]; omega)
  rw [decide_eq_true h13, decide_eq_false (show ¬ (s.length : Int) < 13 by omega), decide_eq_true (show (9 : Int) ≤ (s.length : Int) by omega), decide_eq_true (show (12 : Int) < (s.length : Int) by omega), decide_eq_true (show (12 : Int) ≤ (s.length : Int) by omega), decide_eq_true (show (13 : Int) ≤ (s.length : Int) by omega),
    show cut s 13 (s.length : Int) = s.drop 13 from cut_end (k := 13) rfl, hm, h11_eq]
  cases decide (cut s 0 9 = [72, 84, 84, 80, 47, 49, 46, 49, 32])
  · exact ⟨(fun h => by cases h), fun _ => ⟨_, _, _, _, rfl⟩⟩
  cases decide (strAt s 12 = 32)
  · exact ⟨(fun h => by cases h), fun _ => ⟨_, _, _, _, rfl⟩⟩
  unfold anN anD isSta reasonP
  rw [show decide (((s.drop 13).length : Int) ≤ 40) = decide ((s.drop 13).length ≤ 40) from lenle _ 40]
  cases (decR (cut s 9 12)).2
  · exact ⟨(fun h => by cases h), fun _ => ⟨_, _, _, _, rfl⟩⟩
  cases decide (200 ≤ (decR (cut s 9 12)).1)
  · exact ⟨(fun h => by cases h), fun _ => ⟨_, _, _, _, rfl⟩⟩
  cases decide ((decR (cut s 9 12)).1 ≤ 599)
  · exact ⟨(fun h => by cases h), fun _ => ⟨_, _, _, _, rfl⟩⟩
  cases decide ((s.drop 13).length ≤ 40)
  · exact ⟨(fun h => by cases h), fun _ => ⟨_, _, _, _, rfl⟩⟩
  cases allP isPl (s.drop 13)
  · exact ⟨(fun h => by cases h), fun _ => ⟨_, _, _, _, rfl⟩⟩
  · exact ⟨fun _ => rfl, fun h => by cases h⟩
theorem sStatus_okQ : Sound Kx 246 ss_s := sStatus_ok.of fun args objs r h => by
  unfold ss_s at h; split at h
  case h_2 => cases h
  rename_i s
  obtain ⟨h1, h2⟩ := ite_some h
  obtain ⟨g1, g2⟩ := sStatus_val s (of_decide_eq_true h1)
  cases c : anOk s
  · obtain ⟨m, t, n, r', g⟩ := g2 c
    rw [c] at h2
    exact (gI_of g).trans h2
  · rw [c] at h2
    exact (g1 c).trans h2
theorem dig3 (d : Bytes) (h : d.length = 3) : (allP isDig d && isSta (atoiV d)) = ((decR d).2 && isSta (decR d).1) ∧ (allP isDig d = true → atoiOk d = true) ∧ ((decR d).2 = true → (decR d).1 = atoiV d) := by
  match d, h with
  | [a, b, c], _ =>
    cases hd : allP isDig [a, b, c]
    · have e : (decR [a, b, c]).2 = false := by unfold decR; rw [hd, Bool.and_false, Bool.false_and]; rfl
      rw [e]
      exact ⟨rfl, (fun h => by cases h), (fun h => by cases h)⟩
    · have hd' : (isDig (by8 a) && (isDig (by8 b) && (isDig (by8 c) && true))) = true := hd
      simp only [Bool.and_eq_true] at hd'
      obtain ⟨h1, h2, h3⟩ := three a b c hd'.1 hd'.2.1 hd'.2.2.1
      exact ⟨by rw [h2]; rfl, fun _ => h1, h3⟩
def if_s : List AV → List Ob → Br
  | [.str s, .bool an], [] => .ite (decide (s.length ≤ 1000000)) (.ite an (.ite (anOk s) (.ret (fiA [] [] (anN s) (s.drop 13) true) fo0) (.ret (fiA (giI s true).1 (giI s true).2.1 (giI s true).2.2.1 (giI s true).2.2.2 false) fo0))
      (.ite (rqOk s) (.ret (fiA (rqX s) (rqY s) 0 [] true) fo0) (.ret (fiA (giI s false).1 (giI s false).2.1 (giI s false).2.2.1 (giI s false).2.2.2 false) fo0))) .fail
  | _, _ => .fail
theorem iFirst_rq (s : Bytes) (h1 : s.length ≤ 1000000) : (rqOk s = true → (iFirst_br s false).val = some (fiA (rqX s) (rqY s) 0 [] true, fo0)) ∧ (rqOk s = false → ∃ m t n r, (iFirst_br s false).val = some (fiA m t n r false, fo0)) := by
  obtain ⟨g1, g2⟩ := rq_spl s
  rw [← g1]
  unfold iFirst_br iFirst_c3 iFirst_c2 iFirst_c1
  rw [decide_eq_true h1]
  by_cases c1 : (splP s 32).length = 3
  case neg =>
    rw [decide_eq_false c1, decide_eq_false (show ¬ ((splP s 32).length : Int) = 3 by omega)]
    exact ⟨(fun h => by cases h), fun _ => ⟨_, _, _, _, rfl⟩⟩
  rw [decide_eq_true c1, decide_eq_true (show ((splP s 32).length : Int) = 3 by omega), decide_eq_true (show (2 : Int) < ((splP s 32).length : Int) by omega), decide_eq_true (show (0 : Int) < ((splP s 32).length : Int) by omega), decide_eq_true (show (1 : Int) < ((splP s 32).length : Int) by omega)] at *
  by_cases c2 : (splP s 32).getD 2 [] = h11
  case neg =>
    have c2' : decide ((splP s 32).getD 2 [] = [72, 84, 84, 80, 47, 49, 46, 49]) = false := decide_eq_false c2
    rw [decide_eq_false c2, c2']
    exact ⟨(fun h => by cases h), fun _ => ⟨_, _, _, _, rfl⟩⟩
  have c2' : decide ((splP s 32).getD 2 [] = [72, 84, 84, 80, 47, 49, 46, 49]) = true := decide_eq_true c2
  rw [decide_eq_true c2] at g1 ⊢
  rw [c2']
  cases c3 : methodP ((splP s 32).getD 0 [])
  · exact ⟨(fun h => by cases h), fun _ => ⟨_, _, _, _, rfl⟩⟩
  cases c4 : targetP ((splP s 32).getD 1 [])
  · exact ⟨(fun h => by cases h), fun _ => ⟨_, _, _, _, rfl⟩⟩
  · rw [c3, c4] at g1
    obtain ⟨_, e1, e2, _⟩ := g2 g1.symm
    refine ⟨fun _ => ?_, fun h => by cases h⟩
    rw [← e1, ← e2]; rfl
theorem iFirst_an (s : Bytes) (h1 : s.length ≤ 1000000) : (anOk s = true → (iFirst_br s true).val = some (fiA [] [] (anN s) (s.drop 13) true, fo0)) ∧ (anOk s = false → ∃ m t n r, (iFirst_br s true).val = some (fiA m t n r false, fo0)) := by
  unfold iFirst_br anOk iFirst_c3 iFirst_c2 iFirst_c1
  by_cases h9 : 9 ≤ s.length
  case neg =>
    rw [decide_eq_false (show ¬ 13 ≤ s.length by omega), decide_eq_false (show ¬ (9 : Int) ≤ (s.length : Int) by omega)]
    exact ⟨(fun h => by cases h), fun _ => ⟨_, _, _, _, rfl⟩⟩
  have hrl : (s.drop 9).length = s.length - 9 := List.length_drop ..
  have r3 : cut (s.drop 9) 0 3 = anD s := (cut_take (k := 3) rfl).trans (cut_eq s 9 12).symm
  have r4 : cut (s.drop 9) 4 ((s.drop 9).length : Int) = s.drop 13 := (cut_end (k := 4) rfl).trans (by rw [List.drop_drop])
  have rs : strAt (s.drop 9) 3 = strAt s 12 := by unfold strAt; simp [List.getD_eq_getElem?_getD, List.getElem?_drop]
  rw [decide_eq_true (show (9 : Int) ≤ (s.length : Int) by omega), show cut s 9 (s.length : Int) = s.drop 9 from cut_end (k := 9) rfl, r3, r4, rs, h11_eq]
  by_cases h13 : 13 ≤ s.length
  case neg =>
    rw [decide_eq_false h13, decide_eq_true (show ((s.drop 9).length : Int) < 4 by omega)]
    refine ⟨(fun h => by cases h), fun _ => ?_⟩
    cases decide (cut s 0 9 = [72, 84, 84, 80, 47, 49, 46, 49, 32]) <;> exact ⟨_, _, _, _, rfl⟩
  have hd : (anD s).length = 3 := by unfold anD; rw [show cut s 9 12 = (s.drop 9).take 3 from cut_eq s 9 12, List.length_take]; omega
  obtain ⟨d1, d2, d3⟩ := dig3 (anD s) hd
  rw [decide_eq_true h13, decide_eq_false (show ¬ ((s.drop 9).length : Int) < 4 by omega), decide_eq_true (show (3 : Int) < ((s.drop 9).length : Int) by omega), decide_eq_true (show (3 : Int) ≤ ((s.drop 9).length : Int) by omega), decide_eq_true (show (4 : Int) ≤ ((s.drop 9).length : Int) by omega),
    show isM (anD s) = true from isM_of (n := 3) (by omega), decide_eq_true (show (anD s).length ≤ 1000000 by omega)]
  cases decide (cut s 0 9 = [72, 84, 84, 80, 47, 49, 46, 49, 32])
  · exact ⟨(fun h => by cases h), fun _ => ⟨_, _, _, _, rfl⟩⟩
  cases decide (strAt s 12 = 32)
  · exact ⟨(fun h => by cases h), fun _ => ⟨_, _, _, _, rfl⟩⟩
  unfold anN
  rw [← d1]
  cases c1 : allP isDig (anD s)
  · exact ⟨(fun h => by cases h), fun _ => ⟨_, _, _, _, rfl⟩⟩
  rw [d2 c1]
  cases c2 : isSta (atoiV (anD s))
  · exact ⟨(fun h => by cases h), fun _ => ⟨_, _, _, _, rfl⟩⟩
  cases reasonP (s.drop 13)
  · exact ⟨(fun h => by cases h), fun _ => ⟨_, _, _, _, rfl⟩⟩
  · refine ⟨fun _ => ?_, (fun h => by cases h)⟩
    rw [c1, c2] at d1
    rw [d3 (by cases h : (decR (anD s)).2 <;> rw [h] at d1 <;> first | rfl | cases d1)]; rfl
theorem iFirst_okQ : Sound Kx 251 if_s := iFirst_ok.of fun args objs r h => by
  unfold if_s at h; split at h
  case h_2 => cases h
  rename_i s an
  obtain ⟨h1, h2⟩ := ite_some h
  cases an
  · obtain ⟨g1, g2⟩ := iFirst_rq s (of_decide_eq_true h1)
    replace h2 := (val_f rfl).symm.trans h2
    cases c : rqOk s
    · obtain ⟨m, t, n, r', g⟩ := g2 c
      rw [c] at h2
      exact (gI_of g).trans h2
    · rw [c] at h2
      exact (g1 c).trans h2
  · obtain ⟨g1, g2⟩ := iFirst_an s (of_decide_eq_true h1)
    replace h2 := (val_t rfl).symm.trans h2
    cases c : anOk s
    · obtain ⟨m, t, n, r', g⟩ := g2 c
      rw [c] at h2
      exact (gI_of g).trans h2
    · rw [c] at h2
      exact (g1 c).trans h2
end
end Go.Proofs.YtdknaddanjpdaaaGreatDoor.Ev

namespace Go.Proofs.YtdknaddanjpdaaaGreatDoor.Ev
open Go Go.RowKit
set_option linter.unusedVariables false
set_option linter.unusedSimpArgs false
noncomputable section

def sRH_O : Opt := { live := [(7, [1, 4, 7, 8, 9])], outs := [(7, [4, 5, 6])] }
def sRH_C : SC := [⟨245, _, sTakeLine_okQ⟩, ⟨246, _, sStatus_okQ⟩, ⟨247, _, sFirst_okQ⟩, ⟨248, _, sReadField_okQ⟩]
def sRH_T7 (v7x0 v7x1 : Bool) (v7x2 v7x3 : Bytes) (v7x4 : Int) (v7x5 : Bytes) (v7x6 : Bool) (v7x7 : Bytes) (v7x8 : (List Fd)) (v7x9 v7x10 : Bytes) (v7x11 : Int) (v7x12 : Bytes) (v7x13 : Bool) (v7x14 : Bytes) (v7x15 : (List Fd)) (v7x16 : Bytes) (v7x17 : Int) (kR7 : Bool → Bool → Bytes → Bytes → Int → Bytes → Bool → Bytes → (List Fd) → Bytes → Bytes → Int → Bytes → Bool → Bytes → (List Fd) → Bytes → Int → Option Rs) (k7e0 : Int → Int → Bytes → Bytes → Int → Bytes → Bool → Bytes → (List Fd) → Option Rs) : Option Rs :=
  (bif (decide (v7x16.length ≤ 1000000)) then (bif (!(decide ((tlP v7x16 v7x17).2.2.2 = 0))) then (k7e0 400 0 ([] : Bytes) ([] : Bytes) 0 ([] : Bytes) false ([] : Bytes) ([] : (List Fd))) else (bif (decide (300 < ((List.length (tlP v7x16 v7x17).1) : Int))) then (k7e0 431 0 ([] : Bytes) ([] : Bytes) 0 ([] : Bytes) false ([] : Bytes) ([] : (List Fd))) else (bif (decide (1500 < (tlP v7x16 v7x17).2.2.1)) then (k7e0 431 0 ([] : Bytes) ([] : Bytes) 0 ([] : Bytes) false ([] : Bytes) ([] : (List Fd))) else (bif v7x1 then (bif v7x0 then (bif (decide ((List.length (tlP v7x16 v7x17).1) ≤ 1000000)) then (bif (anOk (tlP v7x16 v7x17).1) then (kR7 v7x0 false v7x2 v7x3 v7x4 v7x5 v7x6 v7x7 v7x8 ([] : Bytes) ([] : Bytes) (anN (tlP v7x16 v7x17).1) (List.drop 13 (tlP v7x16 v7x17).1) false ([] : Bytes) ([] : (List Fd)) (tlP v7x16 v7x17).2.1 (tlP v7x16 v7x17).2.2.1) else (k7e0 400 0 ([] : Bytes) ([] : Bytes) 0 ([] : Bytes) false ([] : Bytes) ([] : (List Fd)))) else (none)) else (bif (decide ((List.length (tlP v7x16 v7x17).1) ≤ 1000000)) then (bif (rqOk (tlP v7x16 v7x17).1) then (kR7 v7x0 false v7x2 v7x3 v7x4 v7x5 v7x6 v7x7 v7x8 (rqX (tlP v7x16 v7x17).1) (rqY (tlP v7x16 v7x17).1) 0 ([] : Bytes) false ([] : Bytes) ([] : (List Fd)) (tlP v7x16 v7x17).2.1 (tlP v7x16 v7x17).2.2.1) else (k7e0 400 0 ([] : Bytes) ([] : Bytes) 0 ([] : Bytes) false ([] : Bytes) ([] : (List Fd)))) else (none))) else (bif (decide ((tlP v7x16 v7x17).1 = ([] : Bytes))) then (k7e0 0 (tlP v7x16 v7x17).2.2.1 v7x9 v7x10 v7x11 v7x12 v7x13 v7x14 v7x15) else (bif (decide ((v7x15.length : Int) = 20)) then (k7e0 431 0 ([] : Bytes) ([] : Bytes) 0 ([] : Bytes) false ([] : Bytes) ([] : (List Fd))) else (bif (decide ((List.length (tlP v7x16 v7x17).1) ≤ 1000000)) then (bif (!(rfP (tlP v7x16 v7x17).1).2) then (k7e0 400 0 ([] : Bytes) ([] : Bytes) 0 ([] : Bytes) false ([] : Bytes) ([] : (List Fd))) else (bif (decide (((v7x15.length + (List.length (List.set (List.replicate 1 (([] : Bytes), ([] : Bytes))) 0 ((rfP (tlP v7x16 v7x17).1).1.1, (rfP (tlP v7x16 v7x17).1).1.2)))) * 32) ≤ 140737488355328)) then (kR7 v7x0 false v7x2 v7x3 v7x4 v7x5 v7x6 v7x7 v7x8 v7x9 v7x10 v7x11 v7x12 v7x13 v7x14 (v7x15 ++ (List.set (List.replicate 1 (([] : Bytes), ([] : Bytes))) 0 ((rfP (tlP v7x16 v7x17).1).1.1, (rfP (tlP v7x16 v7x17).1).1.2))) (tlP v7x16 v7x17).2.1 (tlP v7x16 v7x17).2.2.1) else (none))) else (none)))))))) else (none))
def sRH_F7 : Nat → Bool → Bool → Bytes → Bytes → Int → Bytes → Bool → Bytes → (List Fd) → Bytes → Bytes → Int → Bytes → Bool → Bytes → (List Fd) → Bytes → Int → (Int → Int → Bytes → Bytes → Int → Bytes → Bool → Bytes → (List Fd) → Option Rs) → Option Rs
  | 0, _, _, _, _, _, _, _, _, _, _, _, _, _, _, _, _, _, _, _ => none
  | n + 1, v7x0, v7x1, v7x2, v7x3, v7x4, v7x5, v7x6, v7x7, v7x8, v7x9, v7x10, v7x11, v7x12, v7x13, v7x14, v7x15, v7x16, v7x17, k7e0 => sRH_T7 v7x0 v7x1 v7x2 v7x3 v7x4 v7x5 v7x6 v7x7 v7x8 v7x9 v7x10 v7x11 v7x12 v7x13 v7x14 v7x15 v7x16 v7x17 (fun v7x0 v7x1 v7x2 v7x3 v7x4 v7x5 v7x6 v7x7 v7x8 v7x9 v7x10 v7x11 v7x12 v7x13 v7x14 v7x15 v7x16 v7x17 => sRH_F7 n v7x0 v7x1 v7x2 v7x3 v7x4 v7x5 v7x6 v7x7 v7x8 v7x9 v7x10 v7x11 v7x12 v7x13 v7x14 v7x15 v7x16 v7x17 k7e0) k7e0
abbrev sRH_p7 : SP := ⟨80, [1, 4, 7, 8, 9], [(.v .b), (.v (.ptr 320 0)), (.v (.ptr 512 0)), (.v (.ptr 576 0)), (.v .b)], [(320, .var [.s, .s, (.i .i64), .s, .b, (.ref 326 0), .s]), (326, .arr (Ty.pair Ty.str Ty.str) 0 false), (512, .var [.s, .s, (.i .i64), .s, .b, (.ref 518 0), .s]), (518, .arr (Ty.pair Ty.str Ty.str) 0 false), (576, .var [.s, (.i .i64)])]⟩
noncomputable def sRH_b7 : Code := codeAt (codeOf Tryz.f214) [1, 1, 1, 1, 1, 0, 0]
def sRH_E7 (f : (Int → Int → Bytes → Bytes → Int → Bytes → Bool → Bytes → (List Fd) → Option Rs) → Option Rs) (k : KT) : Option Rs := f (fun x7x0x0 x7x0x1 x7x0x2 x7x0x3 x7x0x4 x7x0x5 x7x0x6 x7x0x7 x7x0x8 => k Ex.ret ((St.mk (slots 0 80 [(4, (AV.ptr 320 0)), (5, (AV.int .i64 x7x0x1)), (6, (AV.int .i64 x7x0x0))]) ((320, (Ob.var ((AV.str x7x0x2) :: ((AV.str x7x0x3) :: ((AV.int .i64 x7x0x4) :: ((AV.str x7x0x5) :: ((AV.bool x7x0x6) :: ((AV.ref 326 0) :: ((AV.str x7x0x7) :: []))))))))) :: ((326, (Ob.arr (Ty.pair Ty.str Ty.str) 0 false x7x0x8)) :: ([] : (List (Nat × (Ob)))))))))
def sRH_G7 (n : Nat) (d : sRH_p7.D) : KT → Option Rs := sRH_E7 (sRH_F7 n d.1.1 d.1.2.2.2.2.1 d.2.1.1 d.2.1.2.1 d.2.1.2.2.1 d.2.1.2.2.2.1 d.2.1.2.2.2.2.1 d.2.1.2.2.2.2.2.2.1 d.2.2.1 d.2.2.2.1.1 d.2.2.2.1.2.1 d.2.2.2.1.2.2.1 d.2.2.2.1.2.2.2.1 d.2.2.2.1.2.2.2.2.1 d.2.2.2.1.2.2.2.2.2.2.1 d.2.2.2.2.1 d.2.2.2.2.2.1.1 d.2.2.2.2.2.1.2.1)
def sRH_L (N : Nat) : Lam := lamOf [⟨7, sRH_p7, sRH_G7 N⟩]
theorem sRH_ok7 (N : Nat) : OkL Kx sRH_C.s sRH_O 0 N (sRH_L N) sRH_b7 := okL sRH_p7 (sRH_G7) (fun d kR => sRH_E7 (sRH_T7 d.1.1 d.1.2.2.2.2.1 d.2.1.1 d.2.1.2.1 d.2.1.2.2.1 d.2.1.2.2.2.1 d.2.1.2.2.2.2.1 d.2.1.2.2.2.2.2.2.1 d.2.2.1 d.2.2.2.1.1 d.2.2.2.1.2.1 d.2.2.2.1.2.2.1 d.2.2.2.1.2.2.2.1 d.2.2.2.1.2.2.2.2.1 d.2.2.2.1.2.2.2.2.2.2.1 d.2.2.2.2.1 d.2.2.2.2.2.1.1 d.2.2.2.2.2.1.2.1 (fun v7x0 v7x1 v7x2 v7x3 v7x4 v7x5 v7x6 v7x7 v7x8 v7x9 v7x10 v7x11 v7x12 v7x13 v7x14 v7x15 v7x16 v7x17 => kR ((v7x0, (), (), (), v7x1, ()), ((v7x2, v7x3, v7x4, v7x5, v7x6, (), v7x7, ()), v7x8, (v7x9, v7x10, v7x11, v7x12, v7x13, (), v7x14, ()), v7x15, (v7x16, v7x17, ()), ()))))) (fun _ _ => by kernel_rfl) (fun _ _ _ => by kernel_rfl) (fun _ _ => by kernel_rfl) (fun _ _ _ _ => by kernel_rfl) (okEach (l' := []) (by kernel_rfl) trivial)
def sRH_run (N : Nat) (s : Bytes) (an : Bool) : Option Rs := (bif (decide (4000 < (s.length : Int))) then (some ((AV.tup ((AV.agg ((AV.str ([] : Bytes)) :: ((AV.str ([] : Bytes)) :: ((AV.int .i64 0) :: ((AV.str ([] : Bytes)) :: ((AV.bool false) :: ((AV.ref 0 0) :: ((AV.str ([] : Bytes)) :: [])))))))) :: ((AV.int .i64 0) :: ((AV.int .i64 413) :: [])))), ((Ob.arr (Ty.pair Ty.str Ty.str) 0 false ([] : (List Fd))) :: []))) else (sRH_F7 N an true ([] : Bytes) ([] : Bytes) 0 ([] : Bytes) false ([] : Bytes) ([] : (List Fd)) ([] : Bytes) ([] : Bytes) 0 ([] : Bytes) false ([] : Bytes) ([] : (List Fd)) s 0 (fun x7x0x0 => (fun x7x0x1 => (fun x7x0x2 => (fun x7x0x3 => (fun x7x0x4 => (fun x7x0x5 => (fun x7x0x6 => (fun x7x0x7 => (fun x7x0x8 => (some ((AV.tup ((AV.agg ((AV.str x7x0x2) :: ((AV.str x7x0x3) :: ((AV.int .i64 x7x0x4) :: ((AV.str x7x0x5) :: ((AV.bool x7x0x6) :: ((AV.ref 0 0) :: ((AV.str x7x0x7) :: [])))))))) :: ((AV.int .i64 x7x0x1) :: ((AV.int .i64 x7x0x0) :: [])))), ((Ob.arr (Ty.pair Ty.str Ty.str) 0 false x7x0x8) :: []))))))))))))))
def sRH_sOf (φ : Bytes → Bool → Br) : List AV → List Ob → Br
  | [.str s, .bool an], [] => φ s an
  | _, _ => .fail
theorem sRH_okOf {φ : Bytes → Bool → Br} (fu : Bytes → Bool → Nat) (hv : ∀ s an res_, (φ s an).val = some res_ → sRH_run (fu s an) s an = some res_) : Sound Kx 214 (sRH_sOf φ) := sound_lp (C := sRH_C) (O := sRH_O) Tryz.func214 (by kernel_rfl) fun args objs => by
  unfold sRH_sOf; split
  · rename_i s an; exact .inr fun _ hyp_ => run_lp (Λ := sRH_L (fu s an)) (by kernel_rfl) (okEach (l' := [sRH_b7]) (by kernel_rfl) ⟨sRH_ok7 _, trivial⟩) (by kernel_rfl) (hv s an _ hyp_)
  · exact .inl rfl

def iRH_O : Opt := { live := [(7, [1, 4, 7, 8, 9])], outs := [(7, [4, 5, 6])] }
def iRH_C : SC := [⟨250, _, iTakeLine_okQ⟩, ⟨251, _, iFirst_okQ⟩, ⟨252, _, iReadField_okQ⟩]
def iRH_T7 (v7x0 v7x1 : Bool) (v7x2 v7x3 : Bytes) (v7x4 : Int) (v7x5 : Bytes) (v7x6 : Bool) (v7x7 : Bytes) (v7x8 : (List Fd)) (v7x9 : Bytes) (v7x10 : Int) (v7x11 v7x12 : Bytes) (v7x13 : Int) (v7x14 : Bytes) (v7x15 : Bool) (v7x16 : Bytes) (v7x17 : (List Fd)) (kR7 : Bool → Bool → Bytes → Bytes → Int → Bytes → Bool → Bytes → (List Fd) → Bytes → Int → Bytes → Bytes → Int → Bytes → Bool → Bytes → (List Fd) → Option Rs) (k7e0 : Int → Int → Bytes → Bytes → Int → Bytes → Bool → Bytes → (List Fd) → Option Rs) : Option Rs :=
  (bif (decide (v7x9.length ≤ 1000000)) then (bif (!(decide ((tlP v7x9 v7x10).2.2.2 = 0))) then (k7e0 400 0 ([] : Bytes) ([] : Bytes) 0 ([] : Bytes) false ([] : Bytes) ([] : (List Fd))) else (bif (decide (300 < ((List.length (tlP v7x9 v7x10).1) : Int))) then (k7e0 431 0 ([] : Bytes) ([] : Bytes) 0 ([] : Bytes) false ([] : Bytes) ([] : (List Fd))) else (bif (decide (1500 < (tlP v7x9 v7x10).2.2.1)) then (k7e0 431 0 ([] : Bytes) ([] : Bytes) 0 ([] : Bytes) false ([] : Bytes) ([] : (List Fd))) else (bif v7x1 then (bif (decide ((List.length (tlP v7x9 v7x10).1) ≤ 1000000)) then (bif v7x0 then (bif (anOk (tlP v7x9 v7x10).1) then (kR7 v7x0 false v7x2 v7x3 v7x4 v7x5 v7x6 v7x7 v7x8 (tlP v7x9 v7x10).2.1 (tlP v7x9 v7x10).2.2.1 ([] : Bytes) ([] : Bytes) (anN (tlP v7x9 v7x10).1) (List.drop 13 (tlP v7x9 v7x10).1) false ([] : Bytes) ([] : (List Fd))) else (k7e0 400 0 ([] : Bytes) ([] : Bytes) 0 ([] : Bytes) false ([] : Bytes) ([] : (List Fd)))) else (bif (rqOk (tlP v7x9 v7x10).1) then (kR7 v7x0 false v7x2 v7x3 v7x4 v7x5 v7x6 v7x7 v7x8 (tlP v7x9 v7x10).2.1 (tlP v7x9 v7x10).2.2.1 (rqX (tlP v7x9 v7x10).1) (rqY (tlP v7x9 v7x10).1) 0 ([] : Bytes) false ([] : Bytes) ([] : (List Fd))) else (k7e0 400 0 ([] : Bytes) ([] : Bytes) 0 ([] : Bytes) false ([] : Bytes) ([] : (List Fd))))) else (none)) else (bif (decide ((tlP v7x9 v7x10).1 = ([] : Bytes))) then (k7e0 0 (tlP v7x9 v7x10).2.2.1 v7x11 v7x12 v7x13 v7x14 v7x15 v7x16 v7x17) else (bif (decide ((v7x17.length : Int) = 20)) then (k7e0 431 0 ([] : Bytes) ([] : Bytes) 0 ([] : Bytes) false ([] : Bytes) ([] : (List Fd))) else (bif (decide ((List.length (tlP v7x9 v7x10).1) ≤ 1000000)) then (bif (!(rfP (tlP v7x9 v7x10).1).2) then (k7e0 400 0 ([] : Bytes) ([] : Bytes) 0 ([] : Bytes) false ([] : Bytes) ([] : (List Fd))) else (bif (decide (((v7x17.length + (List.length (List.set (List.replicate 1 (([] : Bytes), ([] : Bytes))) 0 ((rfP (tlP v7x9 v7x10).1).1.1, (rfP (tlP v7x9 v7x10).1).1.2)))) * 32) ≤ 140737488355328)) then (kR7 v7x0 false v7x2 v7x3 v7x4 v7x5 v7x6 v7x7 v7x8 (tlP v7x9 v7x10).2.1 (tlP v7x9 v7x10).2.2.1 v7x11 v7x12 v7x13 v7x14 v7x15 v7x16 (v7x17 ++ (List.set (List.replicate 1 (([] : Bytes), ([] : Bytes))) 0 ((rfP (tlP v7x9 v7x10).1).1.1, (rfP (tlP v7x9 v7x10).1).1.2)))) else (none))) else (none)))))))) else (none))
def iRH_F7 : Nat → Bool → Bool → Bytes → Bytes → Int → Bytes → Bool → Bytes → (List Fd) → Bytes → Int → Bytes → Bytes → Int → Bytes → Bool → Bytes → (List Fd) → (Int → Int → Bytes → Bytes → Int → Bytes → Bool → Bytes → (List Fd) → Option Rs) → Option Rs
  | 0, _, _, _, _, _, _, _, _, _, _, _, _, _, _, _, _, _, _, _ => none
  | n + 1, v7x0, v7x1, v7x2, v7x3, v7x4, v7x5, v7x6, v7x7, v7x8, v7x9, v7x10, v7x11, v7x12, v7x13, v7x14, v7x15, v7x16, v7x17, k7e0 => iRH_T7 v7x0 v7x1 v7x2 v7x3 v7x4 v7x5 v7x6 v7x7 v7x8 v7x9 v7x10 v7x11 v7x12 v7x13 v7x14 v7x15 v7x16 v7x17 (fun v7x0 v7x1 v7x2 v7x3 v7x4 v7x5 v7x6 v7x7 v7x8 v7x9 v7x10 v7x11 v7x12 v7x13 v7x14 v7x15 v7x16 v7x17 => iRH_F7 n v7x0 v7x1 v7x2 v7x3 v7x4 v7x5 v7x6 v7x7 v7x8 v7x9 v7x10 v7x11 v7x12 v7x13 v7x14 v7x15 v7x16 v7x17 k7e0) k7e0
abbrev iRH_p7 : SP := ⟨77, [1, 4, 7, 8, 9], [(.v .b), (.v (.ptr 320 0)), (.v (.ptr 512 0)), (.v (.ptr 576 0)), (.v .b)], [(320, .var [.s, .s, (.i .i64), .s, .b, (.ref 326 0), .s]), (326, .arr (Ty.pair Ty.str Ty.str) 0 false), (512, .var [.s, (.i .i64)]), (576, .var [.s, .s, (.i .i64), .s, .b, (.ref 582 0), .s]), (582, .arr (Ty.pair Ty.str Ty.str) 0 false)]⟩
noncomputable def iRH_b7 : Code := codeAt (codeOf Tryz.f220) [1, 1, 1, 1, 1, 0, 0]
def iRH_E7 (f : (Int → Int → Bytes → Bytes → Int → Bytes → Bool → Bytes → (List Fd) → Option Rs) → Option Rs) (k : KT) : Option Rs := f (fun x7x0x0 x7x0x1 x7x0x2 x7x0x3 x7x0x4 x7x0x5 x7x0x6 x7x0x7 x7x0x8 => k Ex.ret ((St.mk (slots 0 77 [(4, (AV.ptr 320 0)), (5, (AV.int .i64 x7x0x1)), (6, (AV.int .i64 x7x0x0))]) ((320, (Ob.var ((AV.str x7x0x2) :: ((AV.str x7x0x3) :: ((AV.int .i64 x7x0x4) :: ((AV.str x7x0x5) :: ((AV.bool x7x0x6) :: ((AV.ref 326 0) :: ((AV.str x7x0x7) :: []))))))))) :: ((326, (Ob.arr (Ty.pair Ty.str Ty.str) 0 false x7x0x8)) :: ([] : (List (Nat × (Ob)))))))))
def iRH_G7 (n : Nat) (d : iRH_p7.D) : KT → Option Rs := iRH_E7 (iRH_F7 n d.1.1 d.1.2.2.2.2.1 d.2.1.1 d.2.1.2.1 d.2.1.2.2.1 d.2.1.2.2.2.1 d.2.1.2.2.2.2.1 d.2.1.2.2.2.2.2.2.1 d.2.2.1 d.2.2.2.1.1 d.2.2.2.1.2.1 d.2.2.2.2.1.1 d.2.2.2.2.1.2.1 d.2.2.2.2.1.2.2.1 d.2.2.2.2.1.2.2.2.1 d.2.2.2.2.1.2.2.2.2.1 d.2.2.2.2.1.2.2.2.2.2.2.1 d.2.2.2.2.2.1)
def iRH_L (N : Nat) : Lam := lamOf [⟨7, iRH_p7, iRH_G7 N⟩]
theorem iRH_ok7 (N : Nat) : OkL Kx iRH_C.s iRH_O 0 N (iRH_L N) iRH_b7 := okL iRH_p7 (iRH_G7) (fun d kR => iRH_E7 (iRH_T7 d.1.1 d.1.2.2.2.2.1 d.2.1.1 d.2.1.2.1 d.2.1.2.2.1 d.2.1.2.2.2.1 d.2.1.2.2.2.2.1 d.2.1.2.2.2.2.2.2.1 d.2.2.1 d.2.2.2.1.1 d.2.2.2.1.2.1 d.2.2.2.2.1.1 d.2.2.2.2.1.2.1 d.2.2.2.2.1.2.2.1 d.2.2.2.2.1.2.2.2.1 d.2.2.2.2.1.2.2.2.2.1 d.2.2.2.2.1.2.2.2.2.2.2.1 d.2.2.2.2.2.1 (fun v7x0 v7x1 v7x2 v7x3 v7x4 v7x5 v7x6 v7x7 v7x8 v7x9 v7x10 v7x11 v7x12 v7x13 v7x14 v7x15 v7x16 v7x17 => kR ((v7x0, (), (), (), v7x1, ()), ((v7x2, v7x3, v7x4, v7x5, v7x6, (), v7x7, ()), v7x8, (v7x9, v7x10, ()), (v7x11, v7x12, v7x13, v7x14, v7x15, (), v7x16, ()), v7x17, ()))))) (fun _ _ => by kernel_rfl) (fun _ _ _ => by kernel_rfl) (fun _ _ => by kernel_rfl) (fun _ _ _ _ => by kernel_rfl) (okEach (l' := []) (by kernel_rfl) trivial)
def iRH_run (N : Nat) (s : Bytes) (an : Bool) : Option Rs := (bif (decide (4000 < (s.length : Int))) then (some ((AV.tup ((AV.agg ((AV.str ([] : Bytes)) :: ((AV.str ([] : Bytes)) :: ((AV.int .i64 0) :: ((AV.str ([] : Bytes)) :: ((AV.bool false) :: ((AV.ref 0 0) :: ((AV.str ([] : Bytes)) :: [])))))))) :: ((AV.int .i64 0) :: ((AV.int .i64 413) :: [])))), ((Ob.arr (Ty.pair Ty.str Ty.str) 0 false ([] : (List Fd))) :: []))) else (iRH_F7 N an true ([] : Bytes) ([] : Bytes) 0 ([] : Bytes) false ([] : Bytes) ([] : (List Fd)) s 0 ([] : Bytes) ([] : Bytes) 0 ([] : Bytes) false ([] : Bytes) ([] : (List Fd)) (fun x7x0x0 => (fun x7x0x1 => (fun x7x0x2 => (fun x7x0x3 => (fun x7x0x4 => (fun x7x0x5 => (fun x7x0x6 => (fun x7x0x7 => (fun x7x0x8 => (some ((AV.tup ((AV.agg ((AV.str x7x0x2) :: ((AV.str x7x0x3) :: ((AV.int .i64 x7x0x4) :: ((AV.str x7x0x5) :: ((AV.bool x7x0x6) :: ((AV.ref 0 0) :: ((AV.str x7x0x7) :: [])))))))) :: ((AV.int .i64 x7x0x1) :: ((AV.int .i64 x7x0x0) :: [])))), ((Ob.arr (Ty.pair Ty.str Ty.str) 0 false x7x0x8) :: []))))))))))))))
def iRH_sOf (φ : Bytes → Bool → Br) : List AV → List Ob → Br
  | [.str s, .bool an], [] => φ s an
  | _, _ => .fail
theorem iRH_okOf {φ : Bytes → Bool → Br} (fu : Bytes → Bool → Nat) (hv : ∀ s an res_, (φ s an).val = some res_ → iRH_run (fu s an) s an = some res_) : Sound Kx 220 (iRH_sOf φ) := sound_lp (C := iRH_C) (O := iRH_O) Tryz.func220 (by kernel_rfl) fun args objs => by
  unfold iRH_sOf; split
  · rename_i s an; exact .inr fun _ hyp_ => run_lp (Λ := iRH_L (fu s an)) (by kernel_rfl) (okEach (l' := [iRH_b7]) (by kernel_rfl) ⟨iRH_ok7 _, trivial⟩) (by kernel_rfl) (hv s an _ hyp_)
  · exact .inl rfl

end
end Go.Proofs.YtdknaddanjpdaaaGreatDoor.Ev

namespace Go.Proofs.YtdknaddanjpdaaaGreatDoor.Ev
open Go Go.RowKit
set_option linter.unusedVariables false
set_option linter.unusedSimpArgs false
noncomputable section

theorem tlP_ok {s : Bytes} {a : Int} (h : (tlP s a).2.2.2 = 0) : (tlP s a).2.1 = s ∧ a + 2 ≤ (tlP s a).2.2.1 ∧ (tlP s a).2.2.1 ≤ (s.length : Int) ∧ 0 ≤ a ∧ (tlP s a).1.length ≤ s.length ∧ (tlP s a).2.2.1 = a + (tlP s a).1.length + 2 := by
  unfold tlP at h ⊢
  by_cases h0 : 0 ≤ a
  case neg => rw [decide_eq_false h0] at h; exact absurd h (show ¬ (2 : Int) = 0 by decide)
  by_cases h1 : a ≤ (s.length : Int)
  case neg => rw [decide_eq_true h0, decide_eq_false h1] at h; exact absurd h (show ¬ (2 : Int) = 0 by decide)
  rw [decide_eq_true h0, decide_eq_true h1] at h ⊢
  simp only [Bool.and_self, cond_true] at h ⊢
  by_cases c : (lnP (s.drop a.toNat)).2.2 = 0
  · rw [decide_eq_true c]
    obtain ⟨q, g1, g2⟩ := lnP_ok _ c
    have e := congrArg List.length g1
    rw [List.length_drop, List.length_append, List.length_cons, List.length_cons] at e
    simp only [cond_true]
    refine ⟨trivial, ?_, ?_, h0, ?_, ?_⟩ <;> omega
  · rw [decide_eq_false c] at h
    exact absurd h c
def mg0 : Mg := ([], [], 0, [], false, [], [])
def fiOk (an : Bool) (l : Bytes) : Bool := bif an then anOk l else rqOk l
def fiM (an : Bool) (l : Bytes) : Mg := bif an then ([], [], anN l, l.drop 13, false, [], []) else (rqX l, rqY l, 0, [], false, [], [])
def mgF (m : Mg) (fs : List Fd) : Mg := (m.1, m.2.1, m.2.2.1, m.2.2.2.1, m.2.2.2.2.1, fs, m.2.2.2.2.2.2)
def hdGo (s : Bytes) (an : Bool) : Nat → Bool → Mg → Int → Mg × Int × Int
  | 0, _, _, _ => (mg0, 0, 400)
  | n + 1, f, m, a =>
    bif !decide ((tlP s a).2.2.2 = 0) then (mg0, 0, 400) else bif decide (300 < ((tlP s a).1.length : Int)) then (mg0, 0, 431) else bif decide (1500 < (tlP s a).2.2.1) then (mg0, 0, 431)
    else bif f then (bif fiOk an (tlP s a).1 then hdGo s an n false (fiM an (tlP s a).1) (tlP s a).2.2.1 else (mg0, 0, 400))
    else bif decide ((tlP s a).1 = []) then (m, (tlP s a).2.2.1, 0) else bif decide ((m.2.2.2.2.2.1.length : Int) = 20) then (mg0, 0, 431)
    else bif !(rfP (tlP s a).1).2 then (mg0, 0, 400) else hdGo s an n false (mgF m (m.2.2.2.2.2.1 ++ [(rfP (tlP s a).1).1])) (tlP s a).2.2.1
def kM (k : Int → Int → Bytes → Bytes → Int → Bytes → Bool → Bytes → List Fd → Option Rs) (x : Mg × Int × Int) : Option Rs :=
  k x.2.2 x.2.1 x.1.1 x.1.2.1 x.1.2.2.1 x.1.2.2.2.1 x.1.2.2.2.2.1 x.1.2.2.2.2.2.2 x.1.2.2.2.2.2.1
theorem sRH_loop (s : Bytes) (hl : s.length ≤ 1000000) (an : Bool) (k : Int → Int → Bytes → Bytes → Int → Bytes → Bool → Bytes → List Fd → Option Rs) : ∀ (n : Nat) (f : Bool) (m : Mg) (a : Int), a ≤ (s.length : Int) → (s.length : Int) - a < n → m.2.2.2.2.2.1.length ≤ 20 →
    sRH_F7 n an f [] [] 0 [] false [] [] m.1 m.2.1 m.2.2.1 m.2.2.2.1 m.2.2.2.2.1 m.2.2.2.2.2.2 m.2.2.2.2.2.1 s a k = kM k (hdGo s an n f m a) := by
  intro n; induction n with
  | zero => intro f m a h1 hn hm; omega
  | succ n ih =>
    intro f m a h1 hn hm
    unfold sRH_F7 sRH_T7 hdGo
    rw [decide_eq_true hl, cond_true]
    by_cases c1 : (tlP s a).2.2.2 = 0
    case neg => rw [decide_eq_false c1]; rfl
    obtain ⟨e1, e2, e3, e4, e5, _⟩ := tlP_ok c1
    have hI := fun f m h => ih f m (tlP s a).2.2.1 e3 (by omega) h
    rw [decide_eq_true c1, e1]
    by_cases c2 : 300 < ((tlP s a).1.length : Int)
    · rw [decide_eq_true c2]; rfl
    rw [decide_eq_false c2, decide_eq_true (show (tlP s a).1.length ≤ 1000000 by omega)]
    by_cases c3 : 1500 < (tlP s a).2.2.1
    · rw [decide_eq_true c3]; rfl
    rw [decide_eq_false c3]
    simp only [Bool.not_true, cond_true, cond_false]
    cases f
    · simp only [cond_false]
      cases decide ((tlP s a).1 = [])
      case true => rfl
      by_cases c5 : (m.2.2.2.2.2.1.length : Int) = 20
      · rw [decide_eq_true c5]; rfl
      rw [decide_eq_false c5]
      cases (rfP (tlP s a).1).2
      · rfl
      simp only [Bool.not_true, cond_false]
      rw [decide_eq_true (show (m.2.2.2.2.2.1.length + (List.set (List.replicate 1 (([] : Bytes), ([] : Bytes))) 0 ((rfP (tlP s a).1).1.1, (rfP (tlP s a).1).1.2)).length) * 32 ≤ 140737488355328 by rw [List.length_set, List.length_replicate]; omega), cond_true]
      exact hI false (mgF m (m.2.2.2.2.2.1 ++ [(rfP (tlP s a).1).1])) (by show (m.2.2.2.2.2.1 ++ [(rfP (tlP s a).1).1]).length ≤ 20; rw [List.length_append, List.length_singleton]; omega)
    · unfold fiOk fiM
      cases an
      · simp only [cond_true, cond_false]
        cases rqOk (tlP s a).1
        · rfl
        · exact hI false (rqX (tlP s a).1, rqY (tlP s a).1, 0, [], false, [], []) (Nat.zero_le _)
      · simp only [cond_true]
        cases anOk (tlP s a).1
        · rfl
        · exact hI false ([], [], anN (tlP s a).1, (tlP s a).1.drop 13, false, [], []) (Nat.zero_le _)
theorem iRH_loop (s : Bytes) (hl : s.length ≤ 1000000) (an : Bool) (k : Int → Int → Bytes → Bytes → Int → Bytes → Bool → Bytes → List Fd → Option Rs) : ∀ (n : Nat) (f : Bool) (m : Mg) (a : Int), a ≤ (s.length : Int) → (s.length : Int) - a < n → m.2.2.2.2.2.1.length ≤ 20 →
    iRH_F7 n an f [] [] 0 [] false [] [] s a m.1 m.2.1 m.2.2.1 m.2.2.2.1 m.2.2.2.2.1 m.2.2.2.2.2.2 m.2.2.2.2.2.1 k = kM k (hdGo s an n f m a) := by
  intro n; induction n with
  | zero => intro f m a h1 hn hm; omega
  | succ n ih =>
    intro f m a h1 hn hm
    unfold iRH_F7 iRH_T7 hdGo
    rw [decide_eq_true hl, cond_true]
    by_cases c1 : (tlP s a).2.2.2 = 0
    case neg => rw [decide_eq_false c1]; rfl
    obtain ⟨e1, e2, e3, e4, e5, _⟩ := tlP_ok c1
    have hI := fun f m h => ih f m (tlP s a).2.2.1 e3 (by omega) h
    rw [decide_eq_true c1, e1]
    by_cases c2 : 300 < ((tlP s a).1.length : Int)
    · rw [decide_eq_true c2]; rfl
    rw [decide_eq_false c2, decide_eq_true (show (tlP s a).1.length ≤ 1000000 by omega)]
    by_cases c3 : 1500 < (tlP s a).2.2.1
    · rw [decide_eq_true c3]; rfl
    rw [decide_eq_false c3]
    simp only [Bool.not_true, cond_true, cond_false]
    cases f
    · simp only [cond_false]
      cases decide ((tlP s a).1 = [])
      case true => rfl
      by_cases c5 : (m.2.2.2.2.2.1.length : Int) = 20
      · rw [decide_eq_true c5]; rfl
      rw [decide_eq_false c5]
      cases (rfP (tlP s a).1).2
      · rfl
      simp only [Bool.not_true, cond_false]
      rw [decide_eq_true (show (m.2.2.2.2.2.1.length + (List.set (List.replicate 1 (([] : Bytes), ([] : Bytes))) 0 ((rfP (tlP s a).1).1.1, (rfP (tlP s a).1).1.2)).length) * 32 ≤ 140737488355328 by rw [List.length_set, List.length_replicate]; omega), cond_true]
      exact hI false (mgF m (m.2.2.2.2.2.1 ++ [(rfP (tlP s a).1).1])) (by show (m.2.2.2.2.2.1 ++ [(rfP (tlP s a).1).1]).length ≤ 20; rw [List.length_append, List.length_singleton]; omega)
    · unfold fiOk fiM
      cases an
      · simp only [cond_true, cond_false]
        cases rqOk (tlP s a).1
        · rfl
        · exact hI false (rqX (tlP s a).1, rqY (tlP s a).1, 0, [], false, [], []) (Nat.zero_le _)
      · simp only [cond_true]
        cases anOk (tlP s a).1
        · rfl
        · exact hI false ([], [], anN (tlP s a).1, (tlP s a).1.drop 13, false, [], []) (Nat.zero_le _)
def rhP (s : Bytes) (an : Bool) : Mg × Int × Int := bif decide (4000 < (s.length : Int)) then (mg0, 0, 413) else hdGo s an (s.length + 1) true mg0 0
def mgR (m : Mg) : AV := .agg [.str m.1, .str m.2.1, .int .i64 m.2.2.1, .str m.2.2.2.1, .bool m.2.2.2.2.1, .ref 0 0, .str m.2.2.2.2.2.2]
def mgO (m : Mg) : List Ob := [.arr (.pair .str .str) 0 false m.2.2.2.2.2.1]
def rhA (x : Mg × Int × Int) : AV := .tup [mgR x.1, .int .i64 x.2.1, .int .i64 x.2.2]
def rh2_s : List AV → List Ob → Br
  | [.str s, .bool an], [] => .ret (rhA (rhP s an)) (mgO (rhP s an).1)
  | _, _ => .fail
theorem sRH_okQ : Sound Kx 214 rh2_s := by
  refine (sRH_okOf (φ := fun s an => .ret (rhA (rhP s an)) (mgO (rhP s an).1)) (fun s _ => s.length + 1) fun s an r h => ?_).of fun args objs r h => ?_
  · cases h
    unfold sRH_run rhP
    by_cases c : 4000 < (s.length : Int)
    · rw [decide_eq_true c]; rfl
    · rw [decide_eq_false c, cond_false]
      exact sRH_loop s (by omega) an _ (s.length + 1) true mg0 0 (by omega) (by omega) (Nat.zero_le _)
  · unfold rh2_s at h; split at h
    · exact h
    · cases h
theorem iRH_okQ : Sound Kx 220 rh2_s := by
  refine (iRH_okOf (φ := fun s an => .ret (rhA (rhP s an)) (mgO (rhP s an).1)) (fun s _ => s.length + 1) fun s an r h => ?_).of fun args objs r h => ?_
  · cases h
    unfold iRH_run rhP
    by_cases c : 4000 < (s.length : Int)
    · rw [decide_eq_true c]; rfl
    · rw [decide_eq_false c, cond_false]
      exact iRH_loop s (by omega) an _ (s.length + 1) true mg0 0 (by omega) (by omega) (Nat.zero_le _)
  · unfold rh2_s at h; split at h
    · exact h
    · cases h
end
end Go.Proofs.YtdknaddanjpdaaaGreatDoor.Ev

namespace Go.Proofs.YtdknaddanjpdaaaGreatDoor.Ev
open Go Go.RowKit
set_option linter.unusedVariables false
set_option linter.unusedSimpArgs false
noncomputable section

def iLen_O : Opt := { live := [(4, [5, 12, 13, 14])], outs := [(4, [2, 3, 5])] }
def iLen_C : SC := [⟨54, _, iWords_okQ⟩, ⟨179, _, iReadDec_okQ⟩]
def iLen_T4 (v4x0 v4x1 v4x2 : Int) (v4x3 : (List Bytes)) (kR4 : Int → Int → Int → (List Bytes) → Option Rs) (k4e0 k4e1 : Int → Option Rs) : Option Rs :=
  (bif (decide (v4x2 < v4x1)) then (bif (decide (0 ≤ v4x2)) then (bif (decide (v4x2 < (v4x3.length : Int))) then (bif (decide ((List.length (List.getD v4x3 (Int.toNat v4x2) ([] : Bytes))) ≤ 1000000)) then (bif (!(decR (List.getD v4x3 (Int.toNat v4x2) ([] : Bytes))).2) then (k4e0 v4x0) else (bif (decide (0 ≤ v4x0)) then (bif (!(decide ((decR (List.getD v4x3 (Int.toNat v4x2) ([] : Bytes))).1 = v4x0))) then (k4e0 v4x0) else (kR4 (decR (List.getD v4x3 (Int.toNat v4x2) ([] : Bytes))).1 v4x1 (wk64 (v4x2 + 1)) v4x3)) else (kR4 (decR (List.getD v4x3 (Int.toNat v4x2) ([] : Bytes))).1 v4x1 (wk64 (v4x2 + 1)) v4x3))) else (none)) else (none)) else (none)) else (k4e1 v4x0))
def iLen_F4 : Nat → Int → Int → Int → (List Bytes) → (Int → Option Rs) → (Int → Option Rs) → Option Rs
  | 0, _, _, _, _, _, _ => none
  | n + 1, v4x0, v4x1, v4x2, v4x3, k4e0, k4e1 => iLen_T4 v4x0 v4x1 v4x2 v4x3 (fun v4x0 v4x1 v4x2 v4x3 => iLen_F4 n v4x0 v4x1 v4x2 v4x3 k4e0 k4e1) k4e0 k4e1
abbrev iLen_p4 : SP := ⟨39, [5, 12, 13, 14], [(.v (.i .i64)), (.v (.ref 832 0)), (.v (.i .i64)), (.v (.i .i64))], [(832, .arr Ty.str 0 false)]⟩
noncomputable def iLen_b4 : Code := codeAt (codeOf Tryz.f253) [1, 1, 1, 0, 1, 0, 0]
def iLen_E4 (f : (Int → Option Rs) → (Int → Option Rs) → Option Rs) (k : KT) : Option Rs := f (fun x4x0x0 => k Ex.ret ((St.mk (slots 0 39 [(2, (AV.int .i64 0)), (3, (AV.bool false)), (5, (AV.int .i64 x4x0x0))]) ([] : (List (Nat × (Ob))))))) (fun x4x1x0 => k (Ex.exit 0) ((St.mk (slots 0 39 [(5, (AV.int .i64 x4x1x0))]) ([] : (List (Nat × (Ob)))))))
def iLen_G4 (n : Nat) (d : iLen_p4.D) : KT → Option Rs := iLen_E4 (iLen_F4 n d.1.1 d.1.2.2.1 d.1.2.2.2.1 d.2.1)
def iLen_L (N : Nat) : Lam := lamOf [⟨4, iLen_p4, iLen_G4 N⟩]
theorem iLen_ok4 (N : Nat) : OkL Kx iLen_C.s iLen_O 0 N (iLen_L N) iLen_b4 := okL iLen_p4 (iLen_G4) (fun d kR => iLen_E4 (iLen_T4 d.1.1 d.1.2.2.1 d.1.2.2.2.1 d.2.1 (fun v4x0 v4x1 v4x2 v4x3 => kR ((v4x0, (), v4x1, v4x2, ()), (v4x3, ()))))) (fun _ _ => by kernel_rfl) (fun _ _ _ => by kernel_rfl) (fun _ _ => by kernel_rfl) (fun _ _ _ _ => by kernel_rfl) (okEach (l' := []) (by kernel_rfl) trivial)
def iLen_run (N : Nat) (l : List Fd) : Option Rs := (iLen_F4 N (-1) ((List.length (wordsP l ([99, 111, 110, 116, 101, 110, 116, 45, 108, 101, 110, 103, 116, 104] : Bytes))) : Int) 0 (wordsP l ([99, 111, 110, 116, 101, 110, 116, 45, 108, 101, 110, 103, 116, 104] : Bytes)) (fun x4x0x0 => (some ((AV.tup ((AV.int .i64 0) :: ((AV.bool false) :: []))), []))) (fun x4x1x0 => (some ((AV.tup ((AV.int .i64 x4x1x0) :: ((AV.bool (decide (0 ≤ x4x1x0))) :: []))), []))))
def iLen_sOf (φ : (List Fd) → Br) : List AV → List Ob → Br
  | [.sh (.pair .str .str) l], [] => φ l
  | _, _ => .fail
theorem iLen_okOf {φ : (List Fd) → Br} (fu : (List Fd) → Nat) (hv : ∀ l res_, (φ l).val = some res_ → iLen_run (fu l) l = some res_) : Sound Kx 253 (iLen_sOf φ) := sound_lp (C := iLen_C) (O := iLen_O) Tryz.func253 (by kernel_rfl) fun args objs => by
  unfold iLen_sOf; split
  · rename_i l; exact .inr fun _ hyp_ => run_lp (Λ := iLen_L (fu l)) (by kernel_rfl) (okEach (l' := [iLen_b4]) (by kernel_rfl) ⟨iLen_ok4 _, trivial⟩) (by kernel_rfl) (hv l _ hyp_)
  · exact .inl rfl

def sFram_O : Opt := { live := [(15, [1, 2, 9, 11, 13, 14, 15])], outs := [(15, [1, 2, 6, 7, 9, 11, 13])], split := true }
def sFram_C : SC := [⟨45, _, sFieldsOk_okQ⟩, ⟨35, _, sGet_okQ⟩, ⟨47, _, sWords_okQ⟩, ⟨108, _, sfold_okQ⟩, ⟨109, _, sReadDec_okQ⟩]
def sFram_T15 (v15x0 v15x1 v15x2 v15x3 : Bool) (v15x4 v15x5 : Int) (v15x6 : (List Bytes)) (kR15 : Bool → Bool → Bool → Bool → Int → Int → (List Bytes) → Option Rs) (k15e0 k15e1 : Bool → Bool → Bool → Bool → Int → Option Rs) : Option Rs :=
  (bif (decide (v15x5 < (v15x6.length : Int))) then (bif (decide (0 ≤ v15x5)) then (bif (decide (v15x5 < (v15x6.length : Int))) then (bif (!(decR (List.getD v15x6 (Int.toNat v15x5) ([] : Bytes))).2) then (k15e0 v15x0 v15x1 v15x2 v15x3 v15x4) else (bif (decide (0 < v15x5)) then (bif (!(decide ((decR (List.getD v15x6 (Int.toNat v15x5) ([] : Bytes))).1 = v15x4))) then (k15e0 v15x0 v15x1 v15x2 v15x3 v15x4) else (kR15 v15x0 v15x1 v15x2 v15x3 (decR (List.getD v15x6 (Int.toNat v15x5) ([] : Bytes))).1 (wk64 (v15x5 + 1)) v15x6)) else (kR15 v15x0 v15x1 v15x2 v15x3 (decR (List.getD v15x6 (Int.toNat v15x5) ([] : Bytes))).1 (wk64 (v15x5 + 1)) v15x6))) else (none)) else (none)) else (k15e1 v15x0 v15x1 v15x2 v15x3 v15x4))
def sFram_F15 : Nat → Bool → Bool → Bool → Bool → Int → Int → (List Bytes) → (Bool → Bool → Bool → Bool → Int → Option Rs) → (Bool → Bool → Bool → Bool → Int → Option Rs) → Option Rs
  | 0, _, _, _, _, _, _, _, _, _ => none
  | n + 1, v15x0, v15x1, v15x2, v15x3, v15x4, v15x5, v15x6, k15e0, k15e1 => sFram_T15 v15x0 v15x1 v15x2 v15x3 v15x4 v15x5 v15x6 (fun v15x0 v15x1 v15x2 v15x3 v15x4 v15x5 v15x6 => sFram_F15 n v15x0 v15x1 v15x2 v15x3 v15x4 v15x5 v15x6 k15e0 k15e1) k15e0 k15e1
abbrev sFram_p15 : SP := ⟨88, [1, 2, 9, 11, 13, 14, 15], [(.v .b), (.v .b), (.v .b), (.v .b), (.v (.i .i64)), (.v (.ref 960 0)), (.v (.i .i64))], [(960, .arr Ty.str 0 false)]⟩
noncomputable def sFram_b15 : Code := codeAt (codeOf Tryz.f215) [1, 1, 1, 1, 1, 1, 0, 1, 0, 1, 1, 1, 0, 0]
def sFram_E15 (f : (Bool → Bool → Bool → Bool → Int → Option Rs) → (Bool → Bool → Bool → Bool → Int → Option Rs) → Option Rs) (k : KT) : Option Rs := f (fun x15x0x0 x15x0x1 x15x0x2 x15x0x3 x15x0x4 => k Ex.ret ((St.mk (slots 0 88 [(1, (AV.bool x15x0x0)), (2, (AV.bool x15x0x1)), (6, (AV.int .i64 4)), (7, (AV.int .i64 0)), (9, (AV.bool x15x0x2)), (11, (AV.bool x15x0x3)), (13, (AV.int .i64 x15x0x4))]) ([] : (List (Nat × (Ob))))))) (fun x15x1x0 x15x1x1 x15x1x2 x15x1x3 x15x1x4 => k (Ex.exit 0) ((St.mk (slots 0 88 [(1, (AV.bool x15x1x0)), (2, (AV.bool x15x1x1)), (9, (AV.bool x15x1x2)), (11, (AV.bool x15x1x3)), (13, (AV.int .i64 x15x1x4))]) ([] : (List (Nat × (Ob)))))))
def sFram_G15 (n : Nat) (d : sFram_p15.D) : KT → Option Rs := sFram_E15 (sFram_F15 n d.1.1 d.1.2.1 d.1.2.2.1 d.1.2.2.2.1 d.1.2.2.2.2.1 d.1.2.2.2.2.2.2.1 d.2.1)
def sFram_L (N : Nat) : Lam := lamOf [⟨15, sFram_p15, sFram_G15 N⟩]
theorem sFram_ok15 (N : Nat) : OkL Kx sFram_C.s sFram_O 0 N (sFram_L N) sFram_b15 := okL sFram_p15 (sFram_G15) (fun d kR => sFram_E15 (sFram_T15 d.1.1 d.1.2.1 d.1.2.2.1 d.1.2.2.2.1 d.1.2.2.2.2.1 d.1.2.2.2.2.2.2.1 d.2.1 (fun v15x0 v15x1 v15x2 v15x3 v15x4 v15x5 v15x6 => kR ((v15x0, v15x1, v15x2, v15x3, v15x4, (), v15x5, ()), (v15x6, ()))))) (fun _ _ => by kernel_rfl) (fun _ _ _ => by kernel_rfl) (fun _ _ => by kernel_rfl) (fun _ _ _ _ => by kernel_rfl) (okEach (l' := []) (by kernel_rfl) trivial)
def sFram_run (N : Nat) (l : List Fd) (an ba : Bool) : Option Rs := (bif (!(fdsOk l)) then (some ((AV.tup ((AV.int .i64 4) :: ((AV.int .i64 0) :: []))), [])) else (bif (hasP l ([116, 114, 97, 110, 115, 102, 101, 114, 45, 101, 110, 99, 111, 100, 105, 110, 103] : Bytes)) then (bif (hasP l ([99, 111, 110, 116, 101, 110, 116, 45, 108, 101, 110, 103, 116, 104] : Bytes)) then (some ((AV.tup ((AV.int .i64 4) :: ((AV.int .i64 0) :: []))), [])) else (bif (!(decide (((List.length (wordsP l ([116, 114, 97, 110, 115, 102, 101, 114, 45, 101, 110, 99, 111, 100, 105, 110, 103] : Bytes))) : Int) = 1))) then (some ((AV.tup ((AV.int .i64 4) :: ((AV.int .i64 0) :: []))), [])) else (bif (decide (0 < ((List.length (wordsP l ([116, 114, 97, 110, 115, 102, 101, 114, 45, 101, 110, 99, 111, 100, 105, 110, 103] : Bytes))) : Int))) then (bif (isM (List.getD (wordsP l ([116, 114, 97, 110, 115, 102, 101, 114, 45, 101, 110, 99, 111, 100, 105, 110, 103] : Bytes)) 0 ([] : Bytes))) then (bif (!(decide ((foldP (List.getD (wordsP l ([116, 114, 97, 110, 115, 102, 101, 114, 45, 101, 110, 99, 111, 100, 105, 110, 103] : Bytes)) 0 ([] : Bytes))) = ([99, 104, 117, 110, 107, 101, 100] : Bytes)))) then (some ((AV.tup ((AV.int .i64 4) :: ((AV.int .i64 0) :: []))), [])) else (bif (hasP l ([99, 111, 110, 116, 101, 110, 116, 45, 108, 101, 110, 103, 116, 104] : Bytes)) then (bif (decide (((List.length (wordsP l ([99, 111, 110, 116, 101, 110, 116, 45, 108, 101, 110, 103, 116, 104] : Bytes))) : Int) = 0)) then (some ((AV.tup ((AV.int .i64 4) :: ((AV.int .i64 0) :: []))), [])) else (sFram_F15 N an ba (hasP l ([116, 114, 97, 110, 115, 102, 101, 114, 45, 101, 110, 99, 111, 100, 105, 110, 103] : Bytes)) (hasP l ([99, 111, 110, 116, 101, 110, 116, 45, 108, 101, 110, 103, 116, 104] : Bytes)) 0 0 (wordsP l ([99, 111, 110, 116, 101, 110, 116, 45, 108, 101, 110, 103, 116, 104] : Bytes)) (fun x15x0x0 => (fun x15x0x1 => (fun x15x0x2 => (fun x15x0x3 => (fun x15x0x4 => (some ((AV.tup ((AV.int .i64 4) :: ((AV.int .i64 0) :: []))), []))))))) (fun x15x1x0 => (fun x15x1x1 => (fun x15x1x2 => (fun x15x1x3 => (fun x15x1x4 => (bif x15x1x1 then (some ((AV.tup ((AV.int .i64 0) :: ((AV.int .i64 0) :: []))), [])) else (bif x15x1x2 then (some ((AV.tup ((AV.int .i64 2) :: ((AV.int .i64 0) :: []))), [])) else (bif x15x1x3 then (some ((AV.tup ((AV.int .i64 1) :: ((AV.int .i64 x15x1x4) :: []))), [])) else (bif x15x1x0 then (some ((AV.tup ((AV.int .i64 3) :: ((AV.int .i64 0) :: []))), [])) else (some ((AV.tup ((AV.int .i64 0) :: ((AV.int .i64 0) :: []))), []))))))))))))) else (bif ba then (some ((AV.tup ((AV.int .i64 0) :: ((AV.int .i64 0) :: []))), [])) else (bif (hasP l ([116, 114, 97, 110, 115, 102, 101, 114, 45, 101, 110, 99, 111, 100, 105, 110, 103] : Bytes)) then (some ((AV.tup ((AV.int .i64 2) :: ((AV.int .i64 0) :: []))), [])) else (bif (hasP l ([99, 111, 110, 116, 101, 110, 116, 45, 108, 101, 110, 103, 116, 104] : Bytes)) then (some ((AV.tup ((AV.int .i64 1) :: ((AV.int .i64 0) :: []))), [])) else (bif an then (some ((AV.tup ((AV.int .i64 3) :: ((AV.int .i64 0) :: []))), [])) else (some ((AV.tup ((AV.int .i64 0) :: ((AV.int .i64 0) :: []))), [])))))))) else (none)) else (none)))) else (bif (hasP l ([99, 111, 110, 116, 101, 110, 116, 45, 108, 101, 110, 103, 116, 104] : Bytes)) then (bif (decide (((List.length (wordsP l ([99, 111, 110, 116, 101, 110, 116, 45, 108, 101, 110, 103, 116, 104] : Bytes))) : Int) = 0)) then (some ((AV.tup ((AV.int .i64 4) :: ((AV.int .i64 0) :: []))), [])) else (sFram_F15 N an ba (hasP l ([116, 114, 97, 110, 115, 102, 101, 114, 45, 101, 110, 99, 111, 100, 105, 110, 103] : Bytes)) (hasP l ([99, 111, 110, 116, 101, 110, 116, 45, 108, 101, 110, 103, 116, 104] : Bytes)) 0 0 (wordsP l ([99, 111, 110, 116, 101, 110, 116, 45, 108, 101, 110, 103, 116, 104] : Bytes)) (fun x15x0x0 => (fun x15x0x1 => (fun x15x0x2 => (fun x15x0x3 => (fun x15x0x4 => (some ((AV.tup ((AV.int .i64 4) :: ((AV.int .i64 0) :: []))), []))))))) (fun x15x1x0 => (fun x15x1x1 => (fun x15x1x2 => (fun x15x1x3 => (fun x15x1x4 => (bif x15x1x1 then (some ((AV.tup ((AV.int .i64 0) :: ((AV.int .i64 0) :: []))), [])) else (bif x15x1x2 then (some ((AV.tup ((AV.int .i64 2) :: ((AV.int .i64 0) :: []))), [])) else (bif x15x1x3 then (some ((AV.tup ((AV.int .i64 1) :: ((AV.int .i64 x15x1x4) :: []))), [])) else (bif x15x1x0 then (some ((AV.tup ((AV.int .i64 3) :: ((AV.int .i64 0) :: []))), [])) else (some ((AV.tup ((AV.int .i64 0) :: ((AV.int .i64 0) :: []))), []))))))))))))) else (bif ba then (some ((AV.tup ((AV.int .i64 0) :: ((AV.int .i64 0) :: []))), [])) else (bif (hasP l ([116, 114, 97, 110, 115, 102, 101, 114, 45, 101, 110, 99, 111, 100, 105, 110, 103] : Bytes)) then (some ((AV.tup ((AV.int .i64 2) :: ((AV.int .i64 0) :: []))), [])) else (bif (hasP l ([99, 111, 110, 116, 101, 110, 116, 45, 108, 101, 110, 103, 116, 104] : Bytes)) then (some ((AV.tup ((AV.int .i64 1) :: ((AV.int .i64 0) :: []))), [])) else (bif an then (some ((AV.tup ((AV.int .i64 3) :: ((AV.int .i64 0) :: []))), [])) else (some ((AV.tup ((AV.int .i64 0) :: ((AV.int .i64 0) :: []))), [])))))))))
def sFram_sOf (φ : (List Fd) → Bool → Bool → Br) : List AV → List Ob → Br
  | [.sh (.pair .str .str) l, .bool an, .bool ba], [] => φ l an ba
  | _, _ => .fail
theorem sFram_okOf {φ : (List Fd) → Bool → Bool → Br} (fu : (List Fd) → Bool → Bool → Nat) (hv : ∀ l an ba res_, (φ l an ba).val = some res_ → sFram_run (fu l an ba) l an ba = some res_) : Sound Kx 215 (sFram_sOf φ) := sound_lp (C := sFram_C) (O := sFram_O) Tryz.func215 (by kernel_rfl) fun args objs => by
  unfold sFram_sOf; split
  · rename_i l an ba; exact .inr fun _ hyp_ => run_lp (Λ := sFram_L (fu l an ba)) (by kernel_rfl) (okEach (l' := [sFram_b15]) (by kernel_rfl) ⟨sFram_ok15 _, trivial⟩) (by kernel_rfl) (hv l an ba _ hyp_)
  · exact .inl rfl

def sTrail_O : Opt := { live := [(2, [1, 3])], outs := [(2, [2])] }
def sTrail_C : SC := [⟨245, _, sTakeLine_okQ⟩, ⟨248, _, sReadField_okQ⟩]
def sTrail_T2 (v2x0 : Int) (v2x1 : Bytes) (v2x2 : Int) (kR2 : Int → Bytes → Int → Option Rs) (k2e0 : Bool → Option Rs) (k2e1 : Option Rs) : Option Rs :=
  (bif (decide (v2x0 ≤ 20)) then (bif (decide (v2x1.length ≤ 1000000)) then (bif (!(decide ((tlP v2x1 v2x2).2.2.2 = 0))) then (k2e0 false) else (bif (decide (300 < ((List.length (tlP v2x1 v2x2).1) : Int))) then (k2e0 false) else (bif (decide ((tlP v2x1 v2x2).1 = ([] : Bytes))) then (k2e0 (decide ((tlP v2x1 v2x2).2.2.1 = ((List.length (tlP v2x1 v2x2).2.1) : Int)))) else (bif (decide ((List.length (tlP v2x1 v2x2).1) ≤ 1000000)) then (bif (!(rfP (tlP v2x1 v2x2).1).2) then (k2e0 false) else (kR2 (wk64 (v2x0 + 1)) (tlP v2x1 v2x2).2.1 (tlP v2x1 v2x2).2.2.1)) else (none))))) else (none)) else k2e1)
def sTrail_F2 : Nat → Int → Bytes → Int → (Bool → Option Rs) → (Option Rs) → Option Rs
  | 0, _, _, _, _, _ => none
  | n + 1, v2x0, v2x1, v2x2, k2e0, k2e1 => sTrail_T2 v2x0 v2x1 v2x2 (fun v2x0 v2x1 v2x2 => sTrail_F2 n v2x0 v2x1 v2x2 k2e0 k2e1) k2e0 k2e1
abbrev sTrail_p2 : SP := ⟨42, [1, 3], [(.v (.ptr 128 0)), (.v (.i .i64))], [(128, .var [.s, (.i .i64)])]⟩
noncomputable def sTrail_b2 : Code := codeAt (codeOf Tryz.f282) [1, 0, 1, 0, 0]
def sTrail_E2 (f : (Bool → Option Rs) → (Option Rs) → Option Rs) (k : KT) : Option Rs := f (fun x2x0x0 => k Ex.ret ((St.mk (slots 0 42 [(2, (AV.bool x2x0x0))]) ([] : (List (Nat × (Ob))))))) (k (Ex.exit 0) ((St.mk (slots 0 42 []) ([] : (List (Nat × (Ob)))))))
def sTrail_G2 (n : Nat) (d : sTrail_p2.D) : KT → Option Rs := sTrail_E2 (sTrail_F2 n d.1.2.1 d.2.1.1 d.2.1.2.1)
def sTrail_L (N : Nat) : Lam := lamOf [⟨2, sTrail_p2, sTrail_G2 N⟩]
theorem sTrail_ok2 (N : Nat) : OkL Kx sTrail_C.s sTrail_O 0 N (sTrail_L N) sTrail_b2 := okL sTrail_p2 (sTrail_G2) (fun d kR => sTrail_E2 (sTrail_T2 d.1.2.1 d.2.1.1 d.2.1.2.1 (fun v2x0 v2x1 v2x2 => kR (((), v2x0, ()), ((v2x1, v2x2, ()), ()))))) (fun _ _ => by kernel_rfl) (fun _ _ _ => by kernel_rfl) (fun _ _ => by kernel_rfl) (fun _ _ _ _ => by kernel_rfl) (okEach (l' := []) (by kernel_rfl) trivial)
def sTrail_run (N : Nat) (s : Bytes) (a : Int) : Option Rs := (sTrail_F2 N 0 s a (fun x2x0x0 => (some ((AV.bool x2x0x0), []))) (some ((AV.bool false), [])))
def sTrail_sOf (φ : Bytes → Int → Br) : List AV → List Ob → Br
  | [.agg [.str s, .int .i64 a]], [] => φ s a
  | _, _ => .fail
theorem sTrail_okOf {φ : Bytes → Int → Br} (fu : Bytes → Int → Nat) (hv : ∀ s a res_, (φ s a).val = some res_ → sTrail_run (fu s a) s a = some res_) : Sound Kx 282 (sTrail_sOf φ) := sound_lp (C := sTrail_C) (O := sTrail_O) Tryz.func282 (by kernel_rfl) fun args objs => by
  unfold sTrail_sOf; split
  · rename_i s a; exact .inr fun _ hyp_ => run_lp (Λ := sTrail_L (fu s a)) (by kernel_rfl) (okEach (l' := [sTrail_b2]) (by kernel_rfl) ⟨sTrail_ok2 _, trivial⟩) (by kernel_rfl) (hv s a _ hyp_)
  · exact .inl rfl

def iTrail_O : Opt := { live := [(3, [1, 3])], outs := [(3, [2])] }
def iTrail_C : SC := [⟨250, _, iTakeLine_okQ⟩, ⟨252, _, iReadField_okQ⟩]
def iTrail_T3 (v3x0 : Int) (v3x1 : Bytes) (v3x2 : Int) (kR3 : Int → Bytes → Int → Option Rs) (k3e0 : Bool → Option Rs) : Option Rs :=
  (bif (decide (v3x1.length ≤ 1000000)) then (bif (!(decide ((tlP v3x1 v3x2).2.2.2 = 0))) then (k3e0 false) else (bif (decide (300 < ((List.length (tlP v3x1 v3x2).1) : Int))) then (k3e0 false) else (bif (decide ((tlP v3x1 v3x2).1 = ([] : Bytes))) then (k3e0 (decide ((tlP v3x1 v3x2).2.2.1 = ((List.length (tlP v3x1 v3x2).2.1) : Int)))) else (bif (decide ((List.length (tlP v3x1 v3x2).1) ≤ 1000000)) then (bif (!(rfP (tlP v3x1 v3x2).1).2) then (k3e0 false) else (bif (decide (v3x0 = 20)) then (k3e0 false) else (kR3 (wk64 (v3x0 + 1)) (tlP v3x1 v3x2).2.1 (tlP v3x1 v3x2).2.2.1))) else (none))))) else (none))
def iTrail_F3 : Nat → Int → Bytes → Int → (Bool → Option Rs) → Option Rs
  | 0, _, _, _, _ => none
  | n + 1, v3x0, v3x1, v3x2, k3e0 => iTrail_T3 v3x0 v3x1 v3x2 (fun v3x0 v3x1 v3x2 => iTrail_F3 n v3x0 v3x1 v3x2 k3e0) k3e0
abbrev iTrail_p3 : SP := ⟨44, [1, 3], [(.v (.ptr 128 0)), (.v (.i .i64))], [(128, .var [.s, (.i .i64)])]⟩
noncomputable def iTrail_b3 : Code := codeAt (codeOf Tryz.f255) [1, 1, 0, 0]
def iTrail_E3 (f : (Bool → Option Rs) → Option Rs) (k : KT) : Option Rs := f (fun x3x0x0 => k Ex.ret ((St.mk (slots 0 44 [(2, (AV.bool x3x0x0))]) ([] : (List (Nat × (Ob)))))))
def iTrail_G3 (n : Nat) (d : iTrail_p3.D) : KT → Option Rs := iTrail_E3 (iTrail_F3 n d.1.2.1 d.2.1.1 d.2.1.2.1)
def iTrail_L (N : Nat) : Lam := lamOf [⟨3, iTrail_p3, iTrail_G3 N⟩]
theorem iTrail_ok3 (N : Nat) : OkL Kx iTrail_C.s iTrail_O 0 N (iTrail_L N) iTrail_b3 := okL iTrail_p3 (iTrail_G3) (fun d kR => iTrail_E3 (iTrail_T3 d.1.2.1 d.2.1.1 d.2.1.2.1 (fun v3x0 v3x1 v3x2 => kR (((), v3x0, ()), ((v3x1, v3x2, ()), ()))))) (fun _ _ => by kernel_rfl) (fun _ _ _ => by kernel_rfl) (fun _ _ => by kernel_rfl) (fun _ _ _ _ => by kernel_rfl) (okEach (l' := []) (by kernel_rfl) trivial)
def iTrail_run (N : Nat) (s : Bytes) (a : Int) : Option Rs := (iTrail_F3 N 0 s a (fun x3x0x0 => (some ((AV.bool x3x0x0), []))))
def iTrail_sOf (φ : Bytes → Int → Br) : List AV → List Ob → Br
  | [.agg [.str s, .int .i64 a]], [] => φ s a
  | _, _ => .fail
theorem iTrail_okOf {φ : Bytes → Int → Br} (fu : Bytes → Int → Nat) (hv : ∀ s a res_, (φ s a).val = some res_ → iTrail_run (fu s a) s a = some res_) : Sound Kx 255 (iTrail_sOf φ) := sound_lp (C := iTrail_C) (O := iTrail_O) Tryz.func255 (by kernel_rfl) fun args objs => by
  unfold iTrail_sOf; split
  · rename_i s a; exact .inr fun _ hyp_ => run_lp (Λ := iTrail_L (fu s a)) (by kernel_rfl) (okEach (l' := [iTrail_b3]) (by kernel_rfl) ⟨iTrail_ok3 _, trivial⟩) (by kernel_rfl) (hv s a _ hyp_)
  · exact .inl rfl

end
end Go.Proofs.YtdknaddanjpdaaaGreatDoor.Ev

namespace Go.Proofs.YtdknaddanjpdaaaGreatDoor.Ev
open Go Go.RowKit
set_option linter.unusedVariables false
set_option linter.unusedSimpArgs false
noncomputable section

def nTE : Bytes := [116, 114, 97, 110, 115, 102, 101, 114, 45, 101, 110, 99, 111, 100, 105, 110, 103]
def nCL : Bytes := [99, 111, 110, 116, 101, 110, 116, 45, 108, 101, 110, 103, 116, 104]
def chuB : Bytes := [99, 104, 117, 110, 107, 101, 100]
def clGo : Int → List Bytes → Option Int
  | L, [] => some L
  | L, w :: r => bif !(decR w).2 then none else bif decide (0 ≤ L) && !decide ((decR w).1 = L) then none else clGo (decR w).1 r
def clK (K0 : Option Rs) (k1 : Int → Option Rs) : Option Int → Option Rs
  | none => K0
  | some x => k1 x
def clenP (l : List Fd) : Int × Bool := match clGo (-1) (wordsP l nCL) with | none => (0, false) | some x => (x, decide (0 ≤ x))
theorem iLen_loop (ws : List Bytes) (hl : ws.length ≤ 1000000) (k0 k1 : Int → Option Rs) (K0 : Option Rs) (h0 : ∀ x, k0 x = K0) : ∀ (r : List Bytes) (L i : Int) (n : Nat), At ws i r → (∀ x ∈ r, x.length ≤ 4000) → r.length < n →
    iLen_F4 n L (ws.length : Int) i ws k0 k1 = clK K0 k1 (clGo L r) := by
  intro r; induction r with
  | nil => intro L i n h hf hn; obtain ⟨n, rfl⟩ := fuel hn; unfold iLen_F4 iLen_T4; rw [h.dge, cond_false]; rfl
  | cons w r ih =>
    intro L i n h hf hn; obtain ⟨n, rfl⟩ := fuel hn
    simp only [List.length_cons] at hn
    have hw := hf w (List.mem_cons_self ..)
    have hs := ih (decR w).1 (i + 1) n h.step (fun x hx => hf x (List.mem_cons_of_mem _ hx)) (by omega)
    unfold iLen_F4 iLen_T4
    simp only [h.dlt, h.dnn, h.get, h.next (by omega), cond_true, hs, h0]
    rw [decide_eq_true (show w.length ≤ 1000000 by omega), cond_true]
    show _ = clK K0 k1 (bif !(decR w).2 then none else bif decide (0 ≤ L) && !decide ((decR w).1 = L) then none else clGo (decR w).1 r)
    cases (decR w).2
    · rfl
    · cases decide (0 ≤ L)
      · rfl
      · cases decide ((decR w).1 = L) <;> rfl
def le_s : List AV → List Ob → Br
  | [.sh (.pair .str .str) l], [] => .ret (.tup [.int .i64 (clenP l).1, .bool (clenP l).2]) []
  | _, _ => .fail
theorem iLen_okQ : Sound Kx 253 le_s := by
  refine (iLen_okOf (φ := fun l => .ret (.tup [.int .i64 (clenP l).1, .bool (clenP l).2]) []) (fun l => (wordsP l nCL).length + 1) fun l r h => ?_).of fun args objs r h => ?_
  · cases h
    obtain ⟨h1, h2⟩ := elem_bd (joinedP l nCL)
    unfold iLen_run
    refine (iLen_loop (wordsP l nCL) (by unfold wordsP; omega) _ _ _ (fun _ => by rfl) _ (-1) 0 _ (At.start _) h2 (by omega)).trans ?_
    unfold clenP
    cases clGo (-1) (wordsP l nCL) <;> rfl
  · unfold le_s at h; split at h
    · exact h
    · cases h
def frP (l : List Fd) (an ba : Bool) : Int × Int :=
  bif !fdsOk l then (4, 0) else bif hasP l nTE && (hasP l nCL || !decide ((wordsP l nTE).length = 1) || !decide (foldP ((wordsP l nTE).getD 0 []) = chuB)) then (4, 0)
  else bif hasP l nCL && !(clenP l).2 then (4, 0) else bif ba then (0, 0) else bif hasP l nTE then (2, 0) else bif hasP l nCL then (1, (clenP l).1) else bif an then (3, 0) else (0, 0)
def frA (x : Int × Int) : AV := .tup [.int .i64 x.1, .int .i64 x.2]
def fr3_s : List AV → List Ob → Br
  | [.sh (.pair .str .str) l, .bool an, .bool ba], [] => .ret (frA (frP l an ba)) []
  | _, _ => .fail
theorem sFram_loop (ws : List Bytes) (hl : ws.length ≤ 1000000) (an ba te cl : Bool) (k0 k1 : Bool → Bool → Bool → Bool → Int → Option Rs) (K0 : Option Rs) (h0 : ∀ x, k0 an ba te cl x = K0) : ∀ (r : List Bytes) (v i : Int) (n : Nat), At ws i r → ws ≠ [] → (0 < i → 0 ≤ v) → r.length < n →
    sFram_F15 n an ba te cl v i ws k0 k1 = clK K0 (k1 an ba te cl) (clGo (bif decide (0 < i) then v else -1) r) := by
  intro r; induction r with
  | nil =>
    intro v i n h hw hv hn; obtain ⟨n, rfl⟩ := fuel hn
    have := h.ge
    have := List.length_pos_iff.2 hw
    unfold sFram_F15 sFram_T15; rw [h.dge, cond_false, decide_eq_true (show 0 < i by omega)]; rfl
  | cons w r ih =>
    intro v i n h hw hv hn; obtain ⟨n, rfl⟩ := fuel hn
    simp only [List.length_cons] at hn
    have hi := h.nn
    have hs := ih (decR w).1 (i + 1) n h.step hw (fun _ => (decR_bd w).1) (by omega)
    rw [decide_eq_true (show 0 < i + 1 by omega), cond_true] at hs
    unfold sFram_F15 sFram_T15
    simp only [h.dlt, h.dnn, h.get, h.next (by omega), cond_true, hs, h0]
    show _ = clK K0 (k1 an ba te cl) (bif !(decR w).2 then none else bif decide (0 ≤ (bif decide (0 < i) then v else -1)) && !decide ((decR w).1 = (bif decide (0 < i) then v else -1)) then none else clGo (decR w).1 r)
    cases (decR w).2
    · rfl
    · by_cases c : 0 < i
      · rw [show (bif decide (0 < i) then v else -1) = v by rw [decide_eq_true c]; rfl, decide_eq_true c, decide_eq_true (hv c)]
        cases decide ((decR w).1 = v) <;> rfl
      · rw [show (bif decide (0 < i) then v else -1) = -1 by rw [decide_eq_false c]; rfl, decide_eq_false c]; rfl
theorem sFram_okQ : Sound Kx 215 fr3_s := by
  refine (sFram_okOf (φ := fun l an ba => .ret (frA (frP l an ba)) []) (fun l _ _ => (wordsP l nCL).length + 1) fun l an ba r h => ?_).of fun args objs r h => ?_
  · cases h
    obtain ⟨h1, h2⟩ := elem_bd (joinedP l nCL)
    obtain ⟨h3, h4⟩ := elem_bd (joinedP l nTE)
    have hm : ∀ k, isM ((wordsP l nTE).getD k []) = true := fun k => isM_of (n := 4000) (by
      rw [List.getD_eq_getElem?_getD]
      cases hk : (wordsP l nTE)[k]? with
      | none => exact Nat.zero_le _
      | some x => exact h4 x (List.mem_of_getElem? hk))
    have hb : (wordsP l nCL).length ≤ 1000000 := by unfold wordsP; omega
    have hcl : ∀ (te cl : Bool) (k0 k1 : Bool → Bool → Bool → Bool → Int → Option Rs) (K0 : Option Rs), (∀ x, k0 an ba te cl x = K0) → wordsP l nCL ≠ [] → sFram_F15 ((wordsP l nCL).length + 1) an ba te cl 0 0 (wordsP l nCL) k0 k1 = clK K0 (k1 an ba te cl) (clGo (-1) (wordsP l nCL)) := fun te cl k0 k1 K0 hk hw =>
      sFram_loop (wordsP l nCL) hb an ba te cl k0 k1 K0 hk _ 0 0 _ (At.start _) hw (fun h => absurd h (by decide)) (by omega)
    unfold sFram_run frP
    change (bif !fdsOk l then _ else bif hasP l nTE then bif hasP l nCL then _ else bif !decide (((wordsP l nTE).length : Int) = 1) then _ else bif decide ((0 : Int) < ((wordsP l nTE).length : Int)) then bif isM ((wordsP l nTE).getD 0 []) then bif !decide (foldP ((wordsP l nTE).getD 0 []) = chuB) then _ else bif hasP l nCL then _ else bif ba then _ else bif hasP l nTE then _ else bif hasP l nCL then _ else bif an then _ else _ else none else none
      else bif hasP l nCL then bif decide (((wordsP l nCL).length : Int) = 0) then _ else sFram_F15 _ an ba (hasP l nTE) (hasP l nCL) 0 0 (wordsP l nCL) _ _ else bif ba then _ else bif hasP l nTE then _ else bif hasP l nCL then _ else bif an then _ else _) = _
    cases fdsOk l
    · rfl
    cases hte : hasP l nTE
    · cases hc : hasP l nCL
      · cases ba <;> cases an <;> rfl
      · by_cases c0 : (wordsP l nCL).length = 0
        · have e : clenP l = (-1, false) := by unfold clenP; rw [List.length_eq_zero_iff.1 c0]; rfl
          rw [decide_eq_true (show ((wordsP l nCL).length : Int) = 0 by omega), e]; rfl
        · rw [decide_eq_false (show ¬ ((wordsP l nCL).length : Int) = 0 by omega)]
          simp only [Bool.not_true, cond_true, cond_false, Bool.false_and, Bool.true_and]
          refine (hcl false true _ _ _ (fun _ => by rfl) (fun e => c0 (by rw [e]; rfl))).trans ?_
          unfold clenP
          cases hg : clGo (-1) (wordsP l nCL) with
          | none => rfl
          | some x =>
            have hx : 0 ≤ x := by
              cases hw : wordsP l nCL with
              | nil => rw [hw] at c0; exact absurd rfl c0
              | cons w r =>
                rw [hw] at hg
                have key : ∀ (r : List Bytes) (L y : Int), 0 ≤ L → clGo L r = some y → 0 ≤ y := by
                  intro r; induction r with
                  | nil => intro L y hL h; cases h; exact hL
                  | cons w r ih =>
                    intro L y hL h
                    have h' : (bif !(decR w).2 then none else bif decide (0 ≤ L) && !decide ((decR w).1 = L) then none else clGo (decR w).1 r) = some y := h
                    cases c1 : !(decR w).2
                    · rw [c1, cond_false] at h'
                      cases c2 : decide (0 ≤ L) && !decide ((decR w).1 = L)
                      · rw [c2, cond_false] at h'; exact ih _ _ (decR_bd w).1 h'
                      · rw [c2] at h'; cases h'
                    · rw [c1] at h'; cases h'
                have h' : (bif !(decR w).2 then none else clGo (decR w).1 r) = some x := hg
                cases c1 : !(decR w).2
                · rw [c1, cond_false] at h'; exact key _ _ _ (decR_bd w).1 h'
                · rw [c1] at h'; cases h'
            simp only [decide_eq_true hx]
            cases ba <;> rfl
    · cases hc : hasP l nCL
      · by_cases c1 : (wordsP l nTE).length = 1
        · rw [decide_eq_true (show ((wordsP l nTE).length : Int) = 1 by omega), decide_eq_true (show (0 : Int) < ((wordsP l nTE).length : Int) by omega), hm, decide_eq_true c1]
          cases decide (foldP ((wordsP l nTE).getD 0 []) = chuB)
          · rfl
          · cases ba <;> rfl
        · rw [decide_eq_false (show ¬ ((wordsP l nTE).length : Int) = 1 by omega), decide_eq_false c1]; rfl
      · rfl
  · unfold fr3_s at h; split at h
    · exact h
    · cases h
def trGo (s : Bytes) : Nat → Int → Bool
  | 0, _ => false
  | j + 1, a => bif !decide ((tlP s a).2.2.2 = 0) then false else bif decide (300 < ((tlP s a).1.length : Int)) then false else bif decide ((tlP s a).1 = []) then decide ((tlP s a).2.2.1 = (s.length : Int)) else bif !(rfP (tlP s a).1).2 then false else trGo s j (tlP s a).2.2.1
theorem sTrail_loop (s : Bytes) (hl : s.length ≤ 1000000) (k0 : Bool → Option Rs) (k1 : Option Rs) (hk : k1 = k0 false) : ∀ (j n : Nat) (i a : Int), i = 21 - (j : Int) → j < n → j ≤ 21 → sTrail_F2 n i s a k0 k1 = k0 (trGo s j a) := by
  intro j; induction j with
  | zero =>
    intro n i a hi hn hj; obtain ⟨n, rfl⟩ := fuel hn
    unfold sTrail_F2 sTrail_T2; rw [decide_eq_false (show ¬ i ≤ 20 by omega), cond_false, hk]; rfl
  | succ j ih =>
    intro n i a hi hn hj; obtain ⟨n, rfl⟩ := fuel hn
    unfold sTrail_F2 sTrail_T2 trGo
    rw [decide_eq_true (show i ≤ 20 by omega), decide_eq_true hl]
    by_cases c1 : (tlP s a).2.2.2 = 0
    case neg => rw [decide_eq_false c1]; rfl
    obtain ⟨e1, e2, e3, e4, e5, _⟩ := tlP_ok c1
    have hw : wk64 (i + 1) = i + 1 := w64 (by omega) (by omega)
    rw [decide_eq_true c1, e1, decide_eq_true (show (tlP s a).1.length ≤ 1000000 by omega), hw]
    have hI := ih n (i + 1) (tlP s a).2.2.1 (by omega) (by omega) (by omega)
    cases decide (300 < ((tlP s a).1.length : Int))
    · cases decide ((tlP s a).1 = [])
      · cases (rfP (tlP s a).1).2
        · rfl
        · exact hI
      · rfl
    · rfl
theorem iTrail_loop (s : Bytes) (hl : s.length ≤ 1000000) (k0 : Bool → Option Rs) : ∀ (j n : Nat) (i a : Int), i = 20 - (j : Int) → j < n → j ≤ 20 → iTrail_F3 n i s a k0 = k0 (trGo s (j + 1) a) := by
  intro j; induction j with
  | zero =>
    intro n i a hi hn hj; obtain ⟨n, rfl⟩ := fuel hn
    unfold iTrail_F3 iTrail_T3 trGo
    rw [decide_eq_true hl, decide_eq_true (show i = 20 by omega)]
    by_cases c1 : (tlP s a).2.2.2 = 0
    case neg => rw [decide_eq_false c1]; rfl
    obtain ⟨e1, e2, e3, e4, e5, _⟩ := tlP_ok c1
    rw [decide_eq_true c1, e1, decide_eq_true (show (tlP s a).1.length ≤ 1000000 by omega)]
    cases decide (300 < ((tlP s a).1.length : Int))
    · cases decide ((tlP s a).1 = [])
      · cases (rfP (tlP s a).1).2
        · rfl
        · rfl
      · rfl
    · rfl
  | succ j ih =>
    intro n i a hi hn hj; obtain ⟨n, rfl⟩ := fuel hn
    unfold iTrail_F3 iTrail_T3
    show _ = k0 (bif !decide ((tlP s a).2.2.2 = 0) then false else bif decide (300 < ((tlP s a).1.length : Int)) then false else bif decide ((tlP s a).1 = []) then decide ((tlP s a).2.2.1 = (s.length : Int)) else bif !(rfP (tlP s a).1).2 then false else trGo s (j + 1) (tlP s a).2.2.1)
    rw [decide_eq_true hl, decide_eq_false (show ¬ i = 20 by omega)]
    by_cases c1 : (tlP s a).2.2.2 = 0
    case neg => rw [decide_eq_false c1]; rfl
    obtain ⟨e1, e2, e3, e4, e5, _⟩ := tlP_ok c1
    have hw : wk64 (i + 1) = i + 1 := w64 (by omega) (by omega)
    rw [decide_eq_true c1, e1, decide_eq_true (show (tlP s a).1.length ≤ 1000000 by omega), hw]
    have hI := ih n (i + 1) (tlP s a).2.2.1 (by omega) (by omega) (by omega)
    cases decide (300 < ((tlP s a).1.length : Int))
    · cases decide ((tlP s a).1 = [])
      · cases (rfP (tlP s a).1).2
        · rfl
        · exact hI
      · rfl
    · rfl
theorem sTrail_okQ : Sound Kx 282 (cu_s fun s a => .bool (trGo s 21 a)) := by
  refine (sTrail_okOf (φ := fun s a => .ite (decide (s.length ≤ 1000000)) (.ret (.bool (trGo s 21 a)) []) .fail) (fun _ _ => 22) fun s a r h => ?_).of fun args objs r h => ?_
  · obtain ⟨h1, h2⟩ := ite_some h
    cases h2
    exact sTrail_loop s (of_decide_eq_true h1) _ _ rfl 21 22 0 a rfl (by decide) (by decide)
  · unfold cu_s at h; split at h
    · exact h
    · cases h
theorem iTrail_okQ : Sound Kx 255 (cu_s fun s a => .bool (trGo s 21 a)) := by
  refine (iTrail_okOf (φ := fun s a => .ite (decide (s.length ≤ 1000000)) (.ret (.bool (trGo s 21 a)) []) .fail) (fun _ _ => 22) fun s a r h => ?_).of fun args objs r h => ?_
  · obtain ⟨h1, h2⟩ := ite_some h
    cases h2
    exact iTrail_loop s (of_decide_eq_true h1) _ 20 22 0 a rfl (by decide) (by decide)
  · unfold cu_s at h; split at h
    · exact h
    · cases h
end
end Go.Proofs.YtdknaddanjpdaaaGreatDoor.Ev

namespace Go.Proofs.YtdknaddanjpdaaaGreatDoor.Ev
open Go Go.RowKit
set_option linter.unusedVariables false
set_option linter.unusedSimpArgs false
noncomputable section

def iFram_O : Opt := { split := true }
def iFram_C : SC := [⟨51, _, iFieldsOk_okQ⟩, ⟨52, _, iHas_okQ⟩, ⟨54, _, iWords_okQ⟩, ⟨70, _, ifold_okQ⟩, ⟨253, _, iLen_okQ⟩]
abbrev iFram_c1 (l : List Fd) (an ba : Bool) := (Br.ite (hasP l ([99, 111, 110, 116, 101, 110, 116, 45, 108, 101, 110, 103, 116, 104] : Bytes)) (Br.ite (!(clenP l).2) (Br.ret (AV.tup ((AV.int .i64 4) :: ((AV.int .i64 0) :: []))) []) (Br.ite ba (Br.ret (AV.tup ((AV.int .i64 0) :: ((AV.int .i64 0) :: []))) []) (Br.ite (hasP l ([116, 114, 97, 110, 115, 102, 101, 114, 45, 101, 110, 99, 111, 100, 105, 110, 103] : Bytes)) (Br.ret (AV.tup ((AV.int .i64 2) :: ((AV.int .i64 0) :: []))) []) (Br.ite (hasP l ([99, 111, 110, 116, 101, 110, 116, 45, 108, 101, 110, 103, 116, 104] : Bytes)) (Br.ret (AV.tup ((AV.int .i64 1) :: ((AV.int .i64 (clenP l).1) :: []))) []) (Br.ite an (Br.ret (AV.tup ((AV.int .i64 3) :: ((AV.int .i64 0) :: []))) []) (Br.ret (AV.tup ((AV.int .i64 0) :: ((AV.int .i64 0) :: []))) [])))))) (Br.ite ba (Br.ret (AV.tup ((AV.int .i64 0) :: ((AV.int .i64 0) :: []))) []) (Br.ite (hasP l ([116, 114, 97, 110, 115, 102, 101, 114, 45, 101, 110, 99, 111, 100, 105, 110, 103] : Bytes)) (Br.ret (AV.tup ((AV.int .i64 2) :: ((AV.int .i64 0) :: []))) []) (Br.ite (hasP l ([99, 111, 110, 116, 101, 110, 116, 45, 108, 101, 110, 103, 116, 104] : Bytes)) (Br.ret (AV.tup ((AV.int .i64 1) :: ((AV.int .i64 0) :: []))) []) (Br.ite an (Br.ret (AV.tup ((AV.int .i64 3) :: ((AV.int .i64 0) :: []))) []) (Br.ret (AV.tup ((AV.int .i64 0) :: ((AV.int .i64 0) :: []))) []))))))
def iFram_br (l : List Fd) (an ba : Bool) : Br := (Br.ite (!(fdsOk l)) (Br.ret (AV.tup ((AV.int .i64 4) :: ((AV.int .i64 0) :: []))) []) (Br.ite (hasP l ([116, 114, 97, 110, 115, 102, 101, 114, 45, 101, 110, 99, 111, 100, 105, 110, 103] : Bytes)) (Br.ite (hasP l ([99, 111, 110, 116, 101, 110, 116, 45, 108, 101, 110, 103, 116, 104] : Bytes)) (Br.ret (AV.tup ((AV.int .i64 4) :: ((AV.int .i64 0) :: []))) []) (Br.ite (!(decide (((List.length (wordsP l ([116, 114, 97, 110, 115, 102, 101, 114, 45, 101, 110, 99, 111, 100, 105, 110, 103] : Bytes))) : Int) = 1))) (Br.ret (AV.tup ((AV.int .i64 4) :: ((AV.int .i64 0) :: []))) []) (Br.ite (decide (0 < ((List.length (wordsP l ([116, 114, 97, 110, 115, 102, 101, 114, 45, 101, 110, 99, 111, 100, 105, 110, 103] : Bytes))) : Int))) (Br.ite (isM (List.getD (wordsP l ([116, 114, 97, 110, 115, 102, 101, 114, 45, 101, 110, 99, 111, 100, 105, 110, 103] : Bytes)) 0 ([] : Bytes))) (Br.ite (!(decide ((foldP (List.getD (wordsP l ([116, 114, 97, 110, 115, 102, 101, 114, 45, 101, 110, 99, 111, 100, 105, 110, 103] : Bytes)) 0 ([] : Bytes))) = ([99, 104, 117, 110, 107, 101, 100] : Bytes)))) (Br.ret (AV.tup ((AV.int .i64 4) :: ((AV.int .i64 0) :: []))) []) (iFram_c1 l an ba)) Br.fail) Br.fail))) (iFram_c1 l an ba)))
def iFram_s : List AV → List Ob → Br
  | [.sh (.pair .str .str) l, .bool an, .bool ba], [] => iFram_br l an ba
  | _, _ => .fail
theorem iFram_ok : Sound Kx 221 iFram_s := sound_br (C := iFram_C) (O := iFram_O) Tryz.func221 (by kernel_rfl) fun args objs => by
  unfold iFram_s; split
  · exact .inr (by kernel_rfl)
  · exact .inl rfl

def sChunks_O : Opt := { live := [(3, [4, 5])], outs := [(3, [2, 3])] }
def sChunks_C : SC := [⟨245, _, sTakeLine_okQ⟩, ⟨107, _, supto_okQ⟩, ⟨217, _, sReadHex_okQ⟩, ⟨282, _, sTrail_okQ⟩, ⟨283, _, sTakeN_okQ⟩]
def sChunks_T3 (v3x0 v3x1 : Bytes) (v3x2 : Int) (kR3 : Bytes → Bytes → Int → Option Rs) (k3e0 : Int → Bytes → Option Rs) : Option Rs :=
  (bif (decide (v3x1.length ≤ 1000000)) then (bif (!(decide ((tlP v3x1 v3x2).2.2.2 = 0))) then (k3e0 400 ([] : Bytes)) else (bif (decide (300 < ((List.length (tlP v3x1 v3x2).1) : Int))) then (k3e0 400 ([] : Bytes)) else (bif (isM (tlP v3x1 v3x2).1) then (bif (!(rdHexP (uptoP (tlP v3x1 v3x2).1 59)).2) then (k3e0 400 ([] : Bytes)) else (bif (decide ((wk64 (600 - (v3x0.length : Int))) < (rdHexP (uptoP (tlP v3x1 v3x2).1 59)).1)) then (k3e0 413 ([] : Bytes)) else (bif (decide ((rdHexP (uptoP (tlP v3x1 v3x2).1 59)).1 = 0)) then (bif (decide ((List.length (tlP v3x1 v3x2).2.1) ≤ 1000000)) then (bif (!(trGo (tlP v3x1 v3x2).2.1 21 (tlP v3x1 v3x2).2.2.1)) then (k3e0 400 ([] : Bytes)) else (k3e0 0 v3x0)) else (none)) else (bif (decide ((List.length (tlP v3x1 v3x2).2.1) ≤ 1000000)) then (bif (!(tnP (tlP v3x1 v3x2).2.1 (tlP v3x1 v3x2).2.2.1 (rdHexP (uptoP (tlP v3x1 v3x2).1 59)).1).2.2.2) then (k3e0 400 ([] : Bytes)) else (bif (decide ((List.length (tnP (tlP v3x1 v3x2).2.1 (tlP v3x1 v3x2).2.2.1 (rdHexP (uptoP (tlP v3x1 v3x2).1 59)).1).2.1) ≤ 1000000)) then (bif (!(tnP (tnP (tlP v3x1 v3x2).2.1 (tlP v3x1 v3x2).2.2.1 (rdHexP (uptoP (tlP v3x1 v3x2).1 59)).1).2.1 (tnP (tlP v3x1 v3x2).2.1 (tlP v3x1 v3x2).2.2.1 (rdHexP (uptoP (tlP v3x1 v3x2).1 59)).1).2.2.1 2).2.2.2) then (k3e0 400 ([] : Bytes)) else (bif (!(decide ((tnP (tnP (tlP v3x1 v3x2).2.1 (tlP v3x1 v3x2).2.2.1 (rdHexP (uptoP (tlP v3x1 v3x2).1 59)).1).2.1 (tnP (tlP v3x1 v3x2).2.1 (tlP v3x1 v3x2).2.2.1 (rdHexP (uptoP (tlP v3x1 v3x2).1 59)).1).2.2.1 2).1 = ([13, 10] : Bytes)))) then (k3e0 400 ([] : Bytes)) else (bif (decide ((v3x0.length + (List.length (tnP (tlP v3x1 v3x2).2.1 (tlP v3x1 v3x2).2.2.1 (rdHexP (uptoP (tlP v3x1 v3x2).1 59)).1).1)) ≤ 9223372036854775807)) then (kR3 (v3x0 ++ (tnP (tlP v3x1 v3x2).2.1 (tlP v3x1 v3x2).2.2.1 (rdHexP (uptoP (tlP v3x1 v3x2).1 59)).1).1) (tnP (tnP (tlP v3x1 v3x2).2.1 (tlP v3x1 v3x2).2.2.1 (rdHexP (uptoP (tlP v3x1 v3x2).1 59)).1).2.1 (tnP (tlP v3x1 v3x2).2.1 (tlP v3x1 v3x2).2.2.1 (rdHexP (uptoP (tlP v3x1 v3x2).1 59)).1).2.2.1 2).2.1 (tnP (tnP (tlP v3x1 v3x2).2.1 (tlP v3x1 v3x2).2.2.1 (rdHexP (uptoP (tlP v3x1 v3x2).1 59)).1).2.1 (tnP (tlP v3x1 v3x2).2.1 (tlP v3x1 v3x2).2.2.1 (rdHexP (uptoP (tlP v3x1 v3x2).1 59)).1).2.2.1 2).2.2.1) else (none)))) else (none))) else (none))))) else (none)))) else (none))
def sChunks_F3 : Nat → Bytes → Bytes → Int → (Int → Bytes → Option Rs) → Option Rs
  | 0, _, _, _, _ => none
  | n + 1, v3x0, v3x1, v3x2, k3e0 => sChunks_T3 v3x0 v3x1 v3x2 (fun v3x0 v3x1 v3x2 => sChunks_F3 n v3x0 v3x1 v3x2 k3e0) k3e0
abbrev sChunks_p3 : SP := ⟨74, [4, 5], [(.v (.ptr 320 0)), (.v .s)], [(320, .var [.s, (.i .i64)])]⟩
noncomputable def sChunks_b3 : Code := codeAt (codeOf Tryz.f249) [1, 1, 1, 0, 0]
def sChunks_E3 (f : (Int → Bytes → Option Rs) → Option Rs) (k : KT) : Option Rs := f (fun x3x0x0 x3x0x1 => k Ex.ret ((St.mk (slots 0 74 [(2, (AV.str x3x0x1)), (3, (AV.int .i64 x3x0x0))]) ([] : (List (Nat × (Ob)))))))
def sChunks_G3 (n : Nat) (d : sChunks_p3.D) : KT → Option Rs := sChunks_E3 (sChunks_F3 n d.1.2.1 d.2.1.1 d.2.1.2.1)
def sChunks_L (N : Nat) : Lam := lamOf [⟨3, sChunks_p3, sChunks_G3 N⟩]
theorem sChunks_ok3 (N : Nat) : OkL Kx sChunks_C.s sChunks_O 0 N (sChunks_L N) sChunks_b3 := okL sChunks_p3 (sChunks_G3) (fun d kR => sChunks_E3 (sChunks_T3 d.1.2.1 d.2.1.1 d.2.1.2.1 (fun v3x0 v3x1 v3x2 => kR (((), v3x0, ()), ((v3x1, v3x2, ()), ()))))) (fun _ _ => by kernel_rfl) (fun _ _ _ => by kernel_rfl) (fun _ _ => by kernel_rfl) (fun _ _ _ _ => by kernel_rfl) (okEach (l' := []) (by kernel_rfl) trivial)
def sChunks_run (N : Nat) (s : Bytes) : Option Rs := (sChunks_F3 N ([] : Bytes) s 0 (fun x3x0x0 => (fun x3x0x1 => (some ((AV.tup ((AV.str x3x0x1) :: ((AV.int .i64 x3x0x0) :: []))), [])))))
def sChunks_sOf (φ : Bytes → Br) : List AV → List Ob → Br
  | [.str s], [] => φ s
  | _, _ => .fail
theorem sChunks_okOf {φ : Bytes → Br} (fu : Bytes → Nat) (hv : ∀ s res_, (φ s).val = some res_ → sChunks_run (fu s) s = some res_) : Sound Kx 249 (sChunks_sOf φ) := sound_lp (C := sChunks_C) (O := sChunks_O) Tryz.func249 (by kernel_rfl) fun args objs => by
  unfold sChunks_sOf; split
  · rename_i s; exact .inr fun _ hyp_ => run_lp (Λ := sChunks_L (fu s)) (by kernel_rfl) (okEach (l' := [sChunks_b3]) (by kernel_rfl) ⟨sChunks_ok3 _, trivial⟩) (by kernel_rfl) (hv s _ hyp_)
  · exact .inl rfl

def iChunks_O : Opt := { live := [(3, [4, 5])], outs := [(3, [2, 3])] }
def iChunks_C : SC := [⟨250, _, iTakeLine_okQ⟩, ⟨177, _, cut_okQ⟩, ⟨254, _, iReadHex_okQ⟩, ⟨255, _, iTrail_okQ⟩, ⟨256, _, iTakeN_okQ⟩]
def iChunks_T3 (v3x0 v3x1 : Bytes) (v3x2 : Int) (kR3 : Bytes → Bytes → Int → Option Rs) (k3e0 : Int → Bytes → Option Rs) : Option Rs :=
  (bif (decide (v3x1.length ≤ 1000000)) then (bif (!(decide ((tlP v3x1 v3x2).2.2.2 = 0))) then (k3e0 400 ([] : Bytes)) else (bif (decide (300 < ((List.length (tlP v3x1 v3x2).1) : Int))) then (k3e0 400 ([] : Bytes)) else (bif (decide ((List.length (tlP v3x1 v3x2).1) ≤ 1000000)) then (bif (!(rdHexP (cutP (tlP v3x1 v3x2).1 ([59] : Bytes)).1).2) then (k3e0 400 ([] : Bytes)) else (bif (decide (600 < (wk64 ((v3x0.length : Int) + (rdHexP (cutP (tlP v3x1 v3x2).1 ([59] : Bytes)).1).1)))) then (k3e0 413 ([] : Bytes)) else (bif (decide ((rdHexP (cutP (tlP v3x1 v3x2).1 ([59] : Bytes)).1).1 = 0)) then (bif (decide ((List.length (tlP v3x1 v3x2).2.1) ≤ 1000000)) then (bif (!(trGo (tlP v3x1 v3x2).2.1 21 (tlP v3x1 v3x2).2.2.1)) then (k3e0 400 ([] : Bytes)) else (bif (decide ((rdHexP (cutP (tlP v3x1 v3x2).1 ([59] : Bytes)).1).1 = 0)) then (k3e0 0 v3x0) else (bif (decide ((List.length (tlP v3x1 v3x2).2.1) ≤ 1000000)) then (bif (decide ((List.length (tnP (tlP v3x1 v3x2).2.1 (tlP v3x1 v3x2).2.2.1 (rdHexP (cutP (tlP v3x1 v3x2).1 ([59] : Bytes)).1).1).2.1) ≤ 1000000)) then (bif (!(tnP (tlP v3x1 v3x2).2.1 (tlP v3x1 v3x2).2.2.1 (rdHexP (cutP (tlP v3x1 v3x2).1 ([59] : Bytes)).1).1).2.2.2) then (k3e0 400 ([] : Bytes)) else (bif (!(tnP (tnP (tlP v3x1 v3x2).2.1 (tlP v3x1 v3x2).2.2.1 (rdHexP (cutP (tlP v3x1 v3x2).1 ([59] : Bytes)).1).1).2.1 (tnP (tlP v3x1 v3x2).2.1 (tlP v3x1 v3x2).2.2.1 (rdHexP (cutP (tlP v3x1 v3x2).1 ([59] : Bytes)).1).1).2.2.1 2).2.2.2) then (k3e0 400 ([] : Bytes)) else (bif (!(decide ((tnP (tnP (tlP v3x1 v3x2).2.1 (tlP v3x1 v3x2).2.2.1 (rdHexP (cutP (tlP v3x1 v3x2).1 ([59] : Bytes)).1).1).2.1 (tnP (tlP v3x1 v3x2).2.1 (tlP v3x1 v3x2).2.2.1 (rdHexP (cutP (tlP v3x1 v3x2).1 ([59] : Bytes)).1).1).2.2.1 2).1 = ([13, 10] : Bytes)))) then (k3e0 400 ([] : Bytes)) else (bif (decide ((v3x0.length + (List.length (tnP (tlP v3x1 v3x2).2.1 (tlP v3x1 v3x2).2.2.1 (rdHexP (cutP (tlP v3x1 v3x2).1 ([59] : Bytes)).1).1).1)) ≤ 9223372036854775807)) then (kR3 (v3x0 ++ (tnP (tlP v3x1 v3x2).2.1 (tlP v3x1 v3x2).2.2.1 (rdHexP (cutP (tlP v3x1 v3x2).1 ([59] : Bytes)).1).1).1) (tnP (tnP (tlP v3x1 v3x2).2.1 (tlP v3x1 v3x2).2.2.1 (rdHexP (cutP (tlP v3x1 v3x2).1 ([59] : Bytes)).1).1).2.1 (tnP (tlP v3x1 v3x2).2.1 (tlP v3x1 v3x2).2.2.1 (rdHexP (cutP (tlP v3x1 v3x2).1 ([59] : Bytes)).1).1).2.2.1 2).2.1 (tnP (tnP (tlP v3x1 v3x2).2.1 (tlP v3x1 v3x2).2.2.1 (rdHexP (cutP (tlP v3x1 v3x2).1 ([59] : Bytes)).1).1).2.1 (tnP (tlP v3x1 v3x2).2.1 (tlP v3x1 v3x2).2.2.1 (rdHexP (cutP (tlP v3x1 v3x2).1 ([59] : Bytes)).1).1).2.2.1 2).2.2.1) else (none))))) else (none)) else (none)))) else (none)) else (bif (decide ((rdHexP (cutP (tlP v3x1 v3x2).1 ([59] : Bytes)).1).1 = 0)) then (k3e0 0 v3x0) else (bif (decide ((List.length (tlP v3x1 v3x2).2.1) ≤ 1000000)) then (bif (decide ((List.length (tnP (tlP v3x1 v3x2).2.1 (tlP v3x1 v3x2).2.2.1 (rdHexP (cutP (tlP v3x1 v3x2).1 ([59] : Bytes)).1).1).2.1) ≤ 1000000)) then (bif (!(tnP (tlP v3x1 v3x2).2.1 (tlP v3x1 v3x2).2.2.1 (rdHexP (cutP (tlP v3x1 v3x2).1 ([59] : Bytes)).1).1).2.2.2) then (k3e0 400 ([] : Bytes)) else (bif (!(tnP (tnP (tlP v3x1 v3x2).2.1 (tlP v3x1 v3x2).2.2.1 (rdHexP (cutP (tlP v3x1 v3x2).1 ([59] : Bytes)).1).1).2.1 (tnP (tlP v3x1 v3x2).2.1 (tlP v3x1 v3x2).2.2.1 (rdHexP (cutP (tlP v3x1 v3x2).1 ([59] : Bytes)).1).1).2.2.1 2).2.2.2) then (k3e0 400 ([] : Bytes)) else (bif (!(decide ((tnP (tnP (tlP v3x1 v3x2).2.1 (tlP v3x1 v3x2).2.2.1 (rdHexP (cutP (tlP v3x1 v3x2).1 ([59] : Bytes)).1).1).2.1 (tnP (tlP v3x1 v3x2).2.1 (tlP v3x1 v3x2).2.2.1 (rdHexP (cutP (tlP v3x1 v3x2).1 ([59] : Bytes)).1).1).2.2.1 2).1 = ([13, 10] : Bytes)))) then (k3e0 400 ([] : Bytes)) else (bif (decide ((v3x0.length + (List.length (tnP (tlP v3x1 v3x2).2.1 (tlP v3x1 v3x2).2.2.1 (rdHexP (cutP (tlP v3x1 v3x2).1 ([59] : Bytes)).1).1).1)) ≤ 9223372036854775807)) then (kR3 (v3x0 ++ (tnP (tlP v3x1 v3x2).2.1 (tlP v3x1 v3x2).2.2.1 (rdHexP (cutP (tlP v3x1 v3x2).1 ([59] : Bytes)).1).1).1) (tnP (tnP (tlP v3x1 v3x2).2.1 (tlP v3x1 v3x2).2.2.1 (rdHexP (cutP (tlP v3x1 v3x2).1 ([59] : Bytes)).1).1).2.1 (tnP (tlP v3x1 v3x2).2.1 (tlP v3x1 v3x2).2.2.1 (rdHexP (cutP (tlP v3x1 v3x2).1 ([59] : Bytes)).1).1).2.2.1 2).2.1 (tnP (tnP (tlP v3x1 v3x2).2.1 (tlP v3x1 v3x2).2.2.1 (rdHexP (cutP (tlP v3x1 v3x2).1 ([59] : Bytes)).1).1).2.1 (tnP (tlP v3x1 v3x2).2.1 (tlP v3x1 v3x2).2.2.1 (rdHexP (cutP (tlP v3x1 v3x2).1 ([59] : Bytes)).1).1).2.2.1 2).2.2.1) else (none))))) else (none)) else (none)))))) else (none)))) else (none))
def iChunks_F3 : Nat → Bytes → Bytes → Int → (Int → Bytes → Option Rs) → Option Rs
  | 0, _, _, _, _ => none
  | n + 1, v3x0, v3x1, v3x2, k3e0 => iChunks_T3 v3x0 v3x1 v3x2 (fun v3x0 v3x1 v3x2 => iChunks_F3 n v3x0 v3x1 v3x2 k3e0) k3e0
abbrev iChunks_p3 : SP := ⟨92, [4, 5], [(.v (.ptr 320 0)), (.v .s)], [(320, .var [.s, (.i .i64)])]⟩
noncomputable def iChunks_b3 : Code := codeAt (codeOf Tryz.f222) [1, 1, 1, 0, 0]
def iChunks_E3 (f : (Int → Bytes → Option Rs) → Option Rs) (k : KT) : Option Rs := f (fun x3x0x0 x3x0x1 => k Ex.ret ((St.mk (slots 0 92 [(2, (AV.str x3x0x1)), (3, (AV.int .i64 x3x0x0))]) ([] : (List (Nat × (Ob)))))))
def iChunks_G3 (n : Nat) (d : iChunks_p3.D) : KT → Option Rs := iChunks_E3 (iChunks_F3 n d.1.2.1 d.2.1.1 d.2.1.2.1)
def iChunks_L (N : Nat) : Lam := lamOf [⟨3, iChunks_p3, iChunks_G3 N⟩]
theorem iChunks_ok3 (N : Nat) : OkL Kx iChunks_C.s iChunks_O 0 N (iChunks_L N) iChunks_b3 := okL iChunks_p3 (iChunks_G3) (fun d kR => iChunks_E3 (iChunks_T3 d.1.2.1 d.2.1.1 d.2.1.2.1 (fun v3x0 v3x1 v3x2 => kR (((), v3x0, ()), ((v3x1, v3x2, ()), ()))))) (fun _ _ => by kernel_rfl) (fun _ _ _ => by kernel_rfl) (fun _ _ => by kernel_rfl) (fun _ _ _ _ => by kernel_rfl) (okEach (l' := []) (by kernel_rfl) trivial)
def iChunks_run (N : Nat) (s : Bytes) : Option Rs := (iChunks_F3 N ([] : Bytes) s 0 (fun x3x0x0 => (fun x3x0x1 => (some ((AV.tup ((AV.str x3x0x1) :: ((AV.int .i64 x3x0x0) :: []))), [])))))
def iChunks_sOf (φ : Bytes → Br) : List AV → List Ob → Br
  | [.str s], [] => φ s
  | _, _ => .fail
theorem iChunks_okOf {φ : Bytes → Br} (fu : Bytes → Nat) (hv : ∀ s res_, (φ s).val = some res_ → iChunks_run (fu s) s = some res_) : Sound Kx 222 (iChunks_sOf φ) := sound_lp (C := iChunks_C) (O := iChunks_O) Tryz.func222 (by kernel_rfl) fun args objs => by
  unfold iChunks_sOf; split
  · rename_i s; exact .inr fun _ hyp_ => run_lp (Λ := iChunks_L (fu s)) (by kernel_rfl) (okEach (l' := [iChunks_b3]) (by kernel_rfl) ⟨iChunks_ok3 _, trivial⟩) (by kernel_rfl) (hv s _ hyp_)
  · exact .inl rfl

def sWithout_O : Opt := { live := [(5, [0, 1, 5, 6])], outs := [(5, [4, 5])] }
def sWithout_C : SC := [⟨45, _, sFieldsOk_okQ⟩, ⟨126, _, ssame_okQ⟩]
def sWithout_T5 (v5x0 : (List Fd)) (v5x1 : Bytes) (v5x2 : Int) (v5x3 : (List Fd)) (kR5 : (List Fd) → Bytes → Int → (List Fd) → Option Rs) (k5e0 : (List Fd) → Option Rs) : Option Rs :=
  (bif (decide (v5x2 < (v5x0.length : Int))) then (bif (decide (0 ≤ v5x2)) then (bif (decide (v5x2 < (v5x0.length : Int))) then (bif ((isM (List.getD v5x0 (Int.toNat v5x2) (([] : Bytes), ([] : Bytes))).1) && (isM v5x1)) then (bif (!(sameP (List.getD v5x0 (Int.toNat v5x2) (([] : Bytes), ([] : Bytes))).1 v5x1)) then (bif (decide (0 ≤ v5x2)) then (bif (decide (v5x2 < (v5x0.length : Int))) then (bif (decide (((v5x3.length + (List.length (List.set (List.replicate 1 (([] : Bytes), ([] : Bytes))) 0 ((List.getD v5x0 (Int.toNat v5x2) (([] : Bytes), ([] : Bytes))).1, (List.getD v5x0 (Int.toNat v5x2) (([] : Bytes), ([] : Bytes))).2)))) * 32) ≤ 140737488355328)) then (kR5 v5x0 v5x1 (wk64 (v5x2 + 1)) (v5x3 ++ (List.set (List.replicate 1 (([] : Bytes), ([] : Bytes))) 0 ((List.getD v5x0 (Int.toNat v5x2) (([] : Bytes), ([] : Bytes))).1, (List.getD v5x0 (Int.toNat v5x2) (([] : Bytes), ([] : Bytes))).2)))) else (none)) else (none)) else (none)) else (kR5 v5x0 v5x1 (wk64 (v5x2 + 1)) v5x3)) else (none)) else (none)) else (none)) else (k5e0 v5x3))
def sWithout_F5 : Nat → (List Fd) → Bytes → Int → (List Fd) → ((List Fd) → Option Rs) → Option Rs
  | 0, _, _, _, _, _ => none
  | n + 1, v5x0, v5x1, v5x2, v5x3, k5e0 => sWithout_T5 v5x0 v5x1 v5x2 v5x3 (fun v5x0 v5x1 v5x2 v5x3 => sWithout_F5 n v5x0 v5x1 v5x2 v5x3 k5e0) k5e0
abbrev sWithout_p5 : SP := ⟨32, [0, 1, 5, 6], [(.v (.sh (Ty.pair Ty.str Ty.str))), (.v .s), (.v (.ref 384 0)), (.v (.i .i64))], [(384, .arr (Ty.pair Ty.str Ty.str) 0 false)]⟩
noncomputable def sWithout_b5 : Code := codeAt (codeOf Tryz.f66) [1, 1, 1, 0, 1, 0, 0]
def sWithout_E5 (f : ((List Fd) → Option Rs) → Option Rs) (k : KT) : Option Rs := f (fun x5x0x0 => k (Ex.exit 0) ((St.mk (slots 0 32 [(5, (AV.ref 384 0))]) ((384, (Ob.arr (Ty.pair Ty.str Ty.str) 0 false x5x0x0)) :: ([] : (List (Nat × (Ob))))))))
def sWithout_G5 (n : Nat) (d : sWithout_p5.D) : KT → Option Rs := sWithout_E5 (sWithout_F5 n d.1.1 d.1.2.1 d.1.2.2.2.1 d.2.1)
def sWithout_L (N : Nat) : Lam := lamOf [⟨5, sWithout_p5, sWithout_G5 N⟩]
theorem sWithout_ok5 (N : Nat) : OkL Kx sWithout_C.s sWithout_O 0 N (sWithout_L N) sWithout_b5 := okL sWithout_p5 (sWithout_G5) (fun d kR => sWithout_E5 (sWithout_T5 d.1.1 d.1.2.1 d.1.2.2.2.1 d.2.1 (fun v5x0 v5x1 v5x2 v5x3 => kR ((v5x0, v5x1, (), v5x2, ()), (v5x3, ()))))) (fun _ _ => by kernel_rfl) (fun _ _ _ => by kernel_rfl) (fun _ _ => by kernel_rfl) (fun _ _ _ _ => by kernel_rfl) (okEach (l' := []) (by kernel_rfl) trivial)
def sWithout_run (N : Nat) (l : List Fd) (nm : Bytes) : Option Rs := (bif (!(fdsOk l)) then (some ((AV.ref 0 0), ((Ob.arr (Ty.pair Ty.str Ty.str) 0 false ([] : (List Fd))) :: []))) else (sWithout_F5 N l nm 0 ([] : (List Fd)) (fun x5x0x0 => (some ((AV.ref 0 0), ((Ob.arr (Ty.pair Ty.str Ty.str) 0 false x5x0x0) :: []))))))
def sWithout_sOf (φ : (List Fd) → Bytes → Br) : List AV → List Ob → Br
  | [.sh (.pair .str .str) l, .str nm], [] => φ l nm
  | _, _ => .fail
theorem sWithout_okOf {φ : (List Fd) → Bytes → Br} (fu : (List Fd) → Bytes → Nat) (hv : ∀ l nm res_, (φ l nm).val = some res_ → sWithout_run (fu l nm) l nm = some res_) : Sound Kx 66 (sWithout_sOf φ) := sound_lp (C := sWithout_C) (O := sWithout_O) Tryz.func66 (by kernel_rfl) fun args objs => by
  unfold sWithout_sOf; split
  · rename_i l nm; exact .inr fun _ hyp_ => run_lp (Λ := sWithout_L (fu l nm)) (by kernel_rfl) (okEach (l' := [sWithout_b5]) (by kernel_rfl) ⟨sWithout_ok5 _, trivial⟩) (by kernel_rfl) (hv l nm _ hyp_)
  · exact .inl rfl

def rm1_C : SC := [⟨127, _, iframed_ok⟩, ⟨70, _, ifold_okQ⟩, ⟨119, _, conS_okQ⟩]
def rm1_br (nm : Bytes) : Br := (Br.ite (isM nm) (Br.ret (AV.bool (!(inP (List.set (List.set (List.set (List.replicate 3 ([] : Bytes)) 0 ([99, 111, 110, 116, 101, 110, 116, 45, 108, 101, 110, 103, 116, 104] : Bytes)) 1 ([116, 114, 97, 110, 115, 102, 101, 114, 45, 101, 110, 99, 111, 100, 105, 110, 103] : Bytes)) 2 ([116, 114, 97, 105, 108, 101, 114] : Bytes)) (foldP nm)))) []) Br.fail)
def rm1_s : List AV → List Ob → Br
  | [.str nm], [] => rm1_br nm
  | _, _ => .fail
theorem rm1_ok : Sound Kx 223 rm1_s := sound_br (C := rm1_C) (O := O0) Tryz.func223 (by kernel_rfl) fun args objs => by
  unfold rm1_s; split
  · exact .inr (by kernel_rfl)
  · exact .inl rfl

end
end Go.Proofs.YtdknaddanjpdaaaGreatDoor.Ev

namespace Go.Proofs.YtdknaddanjpdaaaGreatDoor.Ev
open Go Go.RowKit
set_option linter.unusedVariables false
set_option linter.unusedSimpArgs false
noncomputable section

theorem iFram_okQ : Sound Kx 221 fr3_s := iFram_ok.of fun args objs r h => by
  unfold fr3_s at h; split at h
  case h_2 => cases h
  rename_i l an ba
  cases h
  obtain ⟨h3, h4⟩ := elem_bd (joinedP l nTE)
  have hm : ∀ k, isM ((wordsP l nTE).getD k []) = true := fun k => isM_of (n := 4000) (by
    rw [List.getD_eq_getElem?_getD]
    cases hk : (wordsP l nTE)[k]? with
    | none => exact Nat.zero_le _
    | some x => exact h4 x (List.mem_of_getElem? hk))
  show (iFram_br l an ba).val = some (frA (frP l an ba), [])
  unfold iFram_br frP iFram_c1
  change (Br.ite (!fdsOk l) _ (Br.ite (hasP l nTE) (Br.ite (hasP l nCL) _ (Br.ite (!decide (((wordsP l nTE).length : Int) = 1)) _ (Br.ite (decide ((0 : Int) < ((wordsP l nTE).length : Int))) (Br.ite (isM ((wordsP l nTE).getD 0 [])) (Br.ite (!decide (foldP ((wordsP l nTE).getD 0 []) = chuB)) _ (Br.ite (hasP l nCL) _ (Br.ite ba _ (Br.ite (hasP l nTE) _ (Br.ite (hasP l nCL) _ _))))) _) _)))
    (Br.ite (hasP l nCL) (Br.ite (!(clenP l).2) _ (Br.ite ba _ (Br.ite (hasP l nTE) _ (Br.ite (hasP l nCL) _ _)))) (Br.ite ba _ (Br.ite (hasP l nTE) _ (Br.ite (hasP l nCL) _ (Br.ite an _ _))))))).val = _
  cases fdsOk l
  · rfl
  cases hte : hasP l nTE
  · cases hc : hasP l nCL
    · cases ba <;> cases an <;> rfl
    · cases (clenP l).2 <;> cases ba <;> rfl
  · cases hc : hasP l nCL
    · by_cases c1 : (wordsP l nTE).length = 1
      · rw [decide_eq_true (show ((wordsP l nTE).length : Int) = 1 by omega), decide_eq_true (show (0 : Int) < ((wordsP l nTE).length : Int) by omega), hm, decide_eq_true c1]
        cases decide (foldP ((wordsP l nTE).getD 0 []) = chuB)
        · rfl
        · cases ba <;> rfl
      · rw [decide_eq_false (show ¬ ((wordsP l nTE).length : Int) = 1 by omega), decide_eq_false c1]; rfl
    · rfl
theorem tnP_ok {s : Bytes} {a n : Int} (h : (tnP s a n).2.2.2 = true) : (tnP s a n).2.1 = s ∧ (tnP s a n).2.2.1 = a + n ∧ a + n ≤ (s.length : Int) ∧ 0 ≤ n ∧ 0 ≤ a ∧ ((tnP s a n).1.length : Int) = n := by
  unfold tnP at h ⊢
  cases c : decide (0 ≤ a) && decide (a ≤ (s.length : Int)) && decide (0 ≤ n) && decide (n ≤ (s.length : Int) - a)
  · rw [c] at h; cases h
  · simp only [Bool.and_eq_true, decide_eq_true_eq] at c
    rw [cond_true]
    obtain ⟨k, rfl⟩ : ∃ k : Nat, a = (k : Int) := ⟨a.toNat, by omega⟩
    obtain ⟨j, rfl⟩ : ∃ j : Nat, n = (j : Int) := ⟨n.toNat, by omega⟩
    refine ⟨rfl, rfl, by omega, by omega, by omega, ?_⟩
    show ((Ev.cut s (k : Int) ((k : Int) + (j : Int))).length : Int) = j
    rw [show (k : Int) + (j : Int) = ((k + j : Nat) : Int) by omega, cut_eq, List.length_take, List.length_drop]
    omega
theorem hexN_bd : ∀ (r : Bytes) (v : Int), allP isHexB r = true → 0 ≤ v → 0 ≤ hexN r v ∧ hexN r v + 1 ≤ (v + 1) * 16 ^ r.length
  | [], v, _, hv => ⟨hv, by simp [hexN]⟩
  | a :: r, v, h, hv => by
    have h' : (isHexB (by8 a) && allP isHexB r) = true := h
    rw [Bool.and_eq_true] at h'
    have hx := hexI_lt (by8 a)
    have h0 : 0 ≤ hexI (by8 a) := by
      have := h'.1; unfold isHexB at this
      rw [Bool.not_eq_true', decide_eq_false_iff_not] at this; omega
    obtain ⟨g1, g2⟩ := hexN_bd r (v * 16 + hexI (by8 a)) h'.2 (by omega)
    refine ⟨g1, Int.le_trans g2 ?_⟩
    rw [List.length_cons, Int.pow_succ, Int.mul_comm (16 ^ r.length) 16, ← Int.mul_assoc]
    exact Int.mul_le_mul_of_nonneg_right (by omega) (Int.le_of_lt (Int.pow_pos (by decide)))
theorem rdHex_bd (s : Bytes) : 0 ≤ (rdHexP s).1 ∧ (rdHexP s).1 ≤ 268435455 := by
  unfold rdHexP
  cases c : decide (1 ≤ s.length) && decide (s.length ≤ 7) && allP isHexB s
  · exact ⟨Int.le_refl 0, show (0 : Int) ≤ 268435455 by decide⟩
  · simp only [Bool.and_eq_true, decide_eq_true_eq] at c
    obtain ⟨g1, g2⟩ := hexN_bd s 0 c.2 (Int.le_refl _)
    have h3 : (16 : Nat) ^ s.length ≤ 16 ^ 7 := Nat.pow_le_pow_right (by decide) c.1.2
    have e : (16 : Int) ^ s.length = ((16 ^ s.length : Nat) : Int) := by rw [Int.natCast_pow]; rfl
    have e2 : (16 : Nat) ^ 7 = 268435456 := by decide
    rw [e] at g2
    exact ⟨g1, by show hexN s 0 ≤ _; omega⟩
def chGo (s : Bytes) : Nat → Bytes → Int → Bytes × Int
  | 0, _, _ => ([], 400)
  | n + 1, b, a =>
    bif !decide ((tlP s a).2.2.2 = 0) then ([], 400) else bif decide (300 < ((tlP s a).1.length : Int)) then ([], 400)
    else bif !(rdHexP (uptoP (tlP s a).1 59)).2 then ([], 400) else bif decide (600 < (b.length : Int) + (rdHexP (uptoP (tlP s a).1 59)).1) then ([], 413)
    else bif decide ((rdHexP (uptoP (tlP s a).1 59)).1 = 0) then (bif trGo s 21 (tlP s a).2.2.1 then (b, 0) else ([], 400))
    else bif !(tnP s (tlP s a).2.2.1 (rdHexP (uptoP (tlP s a).1 59)).1).2.2.2 then ([], 400)
    else bif !(tnP s ((tlP s a).2.2.1 + (rdHexP (uptoP (tlP s a).1 59)).1) 2).2.2.2 then ([], 400)
    else bif !decide ((tnP s ((tlP s a).2.2.1 + (rdHexP (uptoP (tlP s a).1 59)).1) 2).1 = [13, 10]) then ([], 400)
    else chGo s n (b ++ (tnP s (tlP s a).2.2.1 (rdHexP (uptoP (tlP s a).1 59)).1).1) ((tlP s a).2.2.1 + (rdHexP (uptoP (tlP s a).1 59)).1 + 2)
def ch_K (k : Int → Bytes → Option Rs) (x : Bytes × Int) : Option Rs := k x.2 x.1
theorem sChunks_loop (s : Bytes) (hl : s.length ≤ 1000000) (k : Int → Bytes → Option Rs) : ∀ (n : Nat) (b : Bytes) (a : Int), a ≤ (s.length : Int) → (s.length : Int) - a < n → b.length ≤ 600 →
    sChunks_F3 n b s a k = ch_K k (chGo s n b a) := by
  intro n; induction n with
  | zero => intro b a h1 hn hb; omega
  | succ n ih =>
    intro b a h1 hn hb
    unfold sChunks_F3 sChunks_T3 chGo
    rw [decide_eq_true hl, cond_true]
    by_cases c1 : (tlP s a).2.2.2 = 0
    case neg => rw [decide_eq_false c1]; rfl
    obtain ⟨e1, e2, e3, e4, e5, _⟩ := tlP_ok c1
    have hh := rdHex_bd (uptoP (tlP s a).1 59)
    have w1 : wk64 (600 - (b.length : Int)) = 600 - (b.length : Int) := w64 (by omega) (by omega)
    have hm : isM (tlP s a).1 = true := isM_of (n := 1000000) (by omega)
    rw [decide_eq_true c1, e1, decide_eq_true hl, w1, hm]
    generalize tlP s a = x at *
    generalize rdHexP (uptoP x.1 59) = h at *
    cases decide (300 < (x.1.length : Int))
    case true => rfl
    cases h.2
    · rfl
    simp only [Bool.not_true, cond_true, cond_false]
    by_cases c2 : 600 < (b.length : Int) + h.1
    · rw [decide_eq_true c2, decide_eq_true (show 600 - (b.length : Int) < h.1 by omega)]; rfl
    rw [decide_eq_false c2, decide_eq_false (show ¬ 600 - (b.length : Int) < h.1 by omega)]
    by_cases c3 : h.1 = 0
    · rw [decide_eq_true c3]
      cases trGo s 21 x.2.2.1 <;> rfl
    rw [decide_eq_false c3]
    simp only [cond_false]
    cases c4 : (tnP s x.2.2.1 h.1).2.2.2
    · rfl
    obtain ⟨f1, f2, f3, f4, f5, f6⟩ := tnP_ok c4
    rw [f1, f2, decide_eq_true hl]
    cases c5 : (tnP s (x.2.2.1 + h.1) 2).2.2.2
    · rfl
    obtain ⟨g1, g2, g3, g4, g5, g6⟩ := tnP_ok c5
    rw [g1, g2]
    cases decide ((tnP s (x.2.2.1 + h.1) 2).1 = [13, 10])
    · rfl
    simp only [Bool.not_true, cond_true, cond_false]
    rw [decide_eq_true (show b.length + (tnP s x.2.2.1 h.1).1.length ≤ 9223372036854775807 by omega)]
    exact ih _ _ (by omega) (by omega) (by rw [List.length_append]; omega)
theorem cutP_up (s : Bytes) : (cutP s [59]).1 = uptoP s 59 := by rw [cut_upto]; rfl
theorem iChunks_loop (s : Bytes) (hl : s.length ≤ 1000000) (k : Int → Bytes → Option Rs) : ∀ (n : Nat) (b : Bytes) (a : Int), a ≤ (s.length : Int) → (s.length : Int) - a < n → b.length ≤ 600 →
    iChunks_F3 n b s a k = ch_K k (chGo s n b a) := by
  intro n; induction n with
  | zero => intro b a h1 hn hb; omega
  | succ n ih =>
    intro b a h1 hn hb
    unfold iChunks_F3 iChunks_T3 chGo
    rw [decide_eq_true hl, cond_true]
    by_cases c1 : (tlP s a).2.2.2 = 0
    case neg => rw [decide_eq_false c1]; rfl
    obtain ⟨e1, e2, e3, e4, e5, _⟩ := tlP_ok c1
    have hh := rdHex_bd (uptoP (tlP s a).1 59)
    have w1 : wk64 ((b.length : Int) + (rdHexP (uptoP (tlP s a).1 59)).1) = (b.length : Int) + (rdHexP (uptoP (tlP s a).1 59)).1 := w64 (by omega) (by omega)
    rw [decide_eq_true c1, e1, decide_eq_true hl, cutP_up, w1, decide_eq_true (show (tlP s a).1.length ≤ 1000000 by omega)]
    generalize tlP s a = x at *
    generalize rdHexP (uptoP x.1 59) = h at *
    cases decide (300 < (x.1.length : Int))
    case true => rfl
    cases h.2
    · rfl
    simp only [Bool.not_true, cond_true, cond_false]
    by_cases c2 : 600 < (b.length : Int) + h.1
    · rw [decide_eq_true c2]; rfl
    rw [decide_eq_false c2]
    by_cases c3 : h.1 = 0
    · rw [decide_eq_true c3]
      cases trGo s 21 x.2.2.1 <;> rfl
    rw [decide_eq_false c3]
    simp only [cond_false]
    cases c4 : (tnP s x.2.2.1 h.1).2.2.2
    · have e0 : (tnP s x.2.2.1 h.1).2.1 = [] := by
        unfold tnP at c4 ⊢
        cases c : decide (0 ≤ x.2.2.1) && decide (x.2.2.1 ≤ (s.length : Int)) && decide (0 ≤ h.1) && decide (h.1 ≤ (s.length : Int) - x.2.2.1)
        · rfl
        · rw [c] at c4; cases c4
      rw [e0]; rfl
    obtain ⟨f1, f2, f3, f4, f5, f6⟩ := tnP_ok c4
    rw [f1, f2, decide_eq_true hl]
    cases c5 : (tnP s (x.2.2.1 + h.1) 2).2.2.2
    · rfl
    obtain ⟨g1, g2, g3, g4, g5, g6⟩ := tnP_ok c5
    rw [g1, g2]
    cases decide ((tnP s (x.2.2.1 + h.1) 2).1 = [13, 10])
    · rfl
    simp only [Bool.not_true, cond_true, cond_false]
    rw [decide_eq_true (show b.length + (tnP s x.2.2.1 h.1).1.length ≤ 9223372036854775807 by omega)]
    exact ih _ _ (by omega) (by omega) (by rw [List.length_append]; omega)
def chP (s : Bytes) : Bytes × Int := chGo s (s.length + 1) [] 0
def ch2_s : List AV → List Ob → Br
  | [.str s], [] => .ite (decide (s.length ≤ 1000000)) (.ret (.tup [.str (chP s).1, .int .i64 (chP s).2]) []) .fail
  | _, _ => .fail
theorem sChunks_okQ : Sound Kx 249 ch2_s := by
  refine (sChunks_okOf (φ := fun s => .ite (decide (s.length ≤ 1000000)) (.ret (.tup [.str (chP s).1, .int .i64 (chP s).2]) []) .fail) (fun s => s.length + 1) fun s r h => ?_).of fun args objs r h => ?_
  · obtain ⟨h1, h2⟩ := ite_some h
    cases h2
    exact sChunks_loop s (of_decide_eq_true h1) _ (s.length + 1) [] 0 (by omega) (by omega) (Nat.zero_le _)
  · unfold ch2_s at h; split at h
    · exact h
    · cases h
theorem iChunks_okQ : Sound Kx 222 ch2_s := by
  refine (iChunks_okOf (φ := fun s => .ite (decide (s.length ≤ 1000000)) (.ret (.tup [.str (chP s).1, .int .i64 (chP s).2]) []) .fail) (fun s => s.length + 1) fun s r h => ?_).of fun args objs r h => ?_
  · obtain ⟨h1, h2⟩ := ite_some h
    cases h2
    exact iChunks_loop s (of_decide_eq_true h1) _ (s.length + 1) [] 0 (by omega) (by omega) (Nat.zero_le _)
  · unfold ch2_s at h; split at h
    · exact h
    · cases h

theorem fdsOk_of {l : List Fd} (h : fdsOk l = true) (p : Fd → Bool) : fdsOk (l.filter p) = true := by
  obtain ⟨h1, h2⟩ := fdsOk_mem h
  unfold fdsOk
  rw [Bool.and_eq_true, decide_eq_true_eq, List.all_eq_true]
  exact ⟨Nat.le_trans (List.length_filter_le ..) h1, fun f hf => h2 f (List.mem_filter.1 hf).1⟩
def withP (l : List Fd) (nm : Bytes) : List Fd := bif fdsOk l then l.filter (fun f => !sameP f.1 nm) else []
theorem apF (out : List Fd) (x : Fd) (h : out.length ≤ 1000000) : decide ((out.length + (List.set (List.replicate 1 (([] : Bytes), ([] : Bytes))) 0 x).length) * 32 ≤ 140737488355328) = true := decide_eq_true (by rw [List.length_set, List.length_replicate]; omega)
theorem sWithout_loop (nm : Bytes) (hm : isM nm = true) (l : List Fd) (hl : l.length ≤ 20) (k : List Fd → Option Rs) : ∀ (r : List Fd) (i : Int) (n : Nat) (out : List Fd), At l i r → r.length < n → (∀ f ∈ r, fdOk f = true) → out.length + r.length ≤ 20 →
    sWithout_F5 n l nm i out k = k (out ++ r.filter fun f => !sameP f.1 nm) := by
  intro r; induction r with
  | nil => intro i n out h hn hf ho; obtain ⟨n, rfl⟩ := fuel hn; unfold sWithout_F5 sWithout_T5; rw [h.dge, cond_false]; simp
  | cons f r ih =>
    intro i n out h hn hf ho; obtain ⟨n, rfl⟩ := fuel hn
    simp only [List.length_cons] at hn ho
    have hm1 := (fdOk_isM (hf f (List.mem_cons_self ..))).1
    have hr := fun x hx => hf x (List.mem_cons_of_mem _ hx)
    unfold sWithout_F5 sWithout_T5
    simp only [h.dlt, h.dnn, h.get, h.next (by omega), hm, hm1, Bool.and_self, cond_true]
    rw [List.filter_cons]
    cases sameP f.1 nm
    · simp only [Bool.not_false, cond_true, if_true]
      rw [apF out _ (by omega), cond_true, ih (i + 1) n _ h.step (by omega) hr (by rw [List.length_append, List.length_set, List.length_replicate]; omega)]
      simp
    · simp only [Bool.not_true, cond_false]
      exact ih (i + 1) n _ h.step (by omega) hr (by omega)
def wi_s : List AV → List Ob → Br
  | [.sh (.pair .str .str) l, .str nm], [] => .ite (isM nm) (.ret (.ref 0 0) [.arr (.pair .str .str) 0 false (withP l nm)]) .fail
  | _, _ => .fail
theorem sWithout_okQ : Sound Kx 66 wi_s := by
  refine (sWithout_okOf (φ := fun l nm => .ite (isM nm) (.ret (.ref 0 0) [.arr (.pair .str .str) 0 false (withP l nm)]) .fail) (fun l _ => l.length + 1) fun l nm r h => ?_).of fun args objs r h => ?_
  · obtain ⟨h1, h2⟩ := ite_some h
    cases h2
    unfold sWithout_run withP
    cases hf : fdsOk l
    · rfl
    · obtain ⟨g1, g2⟩ := fdsOk_mem hf
      exact sWithout_loop nm h1 l g1 _ l 0 _ [] (At.start l) (by omega) g2 (by rw [List.length_nil]; omega)
  · unfold wi_s at h; split at h
    · exact h
    · cases h
def rm_s : List AV → List Ob → Br
  | [.str nm], [] => .ite (isM nm) (.ret (.bool (!isFr (nm, []))) []) .fail
  | _, _ => .fail
theorem rm1_okQ : Sound Kx 223 rm_s := rm1_ok.of fun args objs r h => by
  unfold rm_s at h; split at h
  · rename_i nm
    obtain ⟨h1, h2⟩ := ite_some h
    cases h2
    refine (val_t h1).trans ?_
    unfold isFr
    simp only [List.replicate, List.set, inP, List.any_cons, List.any_nil, Bool.or_false, Br.val]
    have e : ∀ x y : Bytes, decide (x = y) = decide (y = x) := fun x y => by
      by_cases c : x = y
      · rw [decide_eq_true c, decide_eq_true c.symm]
      · rw [decide_eq_false c, decide_eq_false fun e => c e.symm]
    rw [e _ (foldP nm), e _ (foldP nm), e _ (foldP nm), ← Bool.or_assoc]; rfl
  · cases h
end
end Go.Proofs.YtdknaddanjpdaaaGreatDoor.Ev

namespace Go.Proofs.YtdknaddanjpdaaaGreatDoor.Ev
open Go Go.RowKit
set_option linter.unusedVariables false
set_option linter.unusedSimpArgs false
noncomputable section

def keptM_O : Opt := { live := [(5, [1, 5, 11, 12, 13])], outs := [(5, [4, 5])] }
def keptM_C : SC := [⟨51, _, iFieldsOk_okQ⟩, ⟨223, _, rm1_okQ⟩]
def keptM_T5 (v5x0 : (List Fd)) (v5x1 v5x2 : Int) (v5x3 : (List Fd)) (kR5 : (List Fd) → Int → Int → (List Fd) → Option Rs) (k5e0 : (List Fd) → Option Rs) : Option Rs :=
  (bif (decide (v5x2 < v5x1)) then (bif (decide (0 ≤ v5x2)) then (bif (decide (v5x2 < (v5x0.length : Int))) then (bif (isM (List.getD v5x0 (Int.toNat v5x2) (([] : Bytes), ([] : Bytes))).1) then (bif (!(isFr ((List.getD v5x0 (Int.toNat v5x2) (([] : Bytes), ([] : Bytes))).1, ([] : Bytes)))) then (bif (decide (((v5x3.length + (List.length (List.set (List.replicate 1 (([] : Bytes), ([] : Bytes))) 0 ((List.getD v5x0 (Int.toNat v5x2) (([] : Bytes), ([] : Bytes))).1, (List.getD v5x0 (Int.toNat v5x2) (([] : Bytes), ([] : Bytes))).2)))) * 32) ≤ 140737488355328)) then (kR5 v5x0 v5x1 (wk64 (v5x2 + 1)) (v5x3 ++ (List.set (List.replicate 1 (([] : Bytes), ([] : Bytes))) 0 ((List.getD v5x0 (Int.toNat v5x2) (([] : Bytes), ([] : Bytes))).1, (List.getD v5x0 (Int.toNat v5x2) (([] : Bytes), ([] : Bytes))).2)))) else (none)) else (kR5 v5x0 v5x1 (wk64 (v5x2 + 1)) v5x3)) else (none)) else (none)) else (none)) else (k5e0 v5x3))
def keptM_F5 : Nat → (List Fd) → Int → Int → (List Fd) → ((List Fd) → Option Rs) → Option Rs
  | 0, _, _, _, _, _ => none
  | n + 1, v5x0, v5x1, v5x2, v5x3, k5e0 => keptM_T5 v5x0 v5x1 v5x2 v5x3 (fun v5x0 v5x1 v5x2 v5x3 => keptM_F5 n v5x0 v5x1 v5x2 v5x3 k5e0) k5e0
abbrev keptM_p5 : SP := ⟨27, [1, 5, 11, 12, 13], [(.v (.fn 223 [])), (.v (.ref 384 0)), (.v (.sh (Ty.pair Ty.str Ty.str))), (.v (.i .i64)), (.v (.i .i64))], [(384, .arr (Ty.pair Ty.str Ty.str) 0 false)]⟩
noncomputable def keptM_b5 : Code := codeAt (codeOf Tryz.f72) [1, 1, 1, 0, 1, 0, 0]
def keptM_E5 (f : ((List Fd) → Option Rs) → Option Rs) (k : KT) : Option Rs := f (fun x5x0x0 => k (Ex.exit 0) ((St.mk (slots 0 27 [(5, (AV.ref 384 0))]) ((384, (Ob.arr (Ty.pair Ty.str Ty.str) 0 false x5x0x0)) :: ([] : (List (Nat × (Ob))))))))
def keptM_G5 (n : Nat) (d : keptM_p5.D) : KT → Option Rs := keptM_E5 (keptM_F5 n d.1.2.2.1 d.1.2.2.2.1 d.1.2.2.2.2.1 d.2.1)
def keptM_L (N : Nat) : Lam := lamOf [⟨5, keptM_p5, keptM_G5 N⟩]
theorem keptM_ok5 (N : Nat) : OkL Kx keptM_C.s keptM_O 0 N (keptM_L N) keptM_b5 := okL keptM_p5 (keptM_G5) (fun d kR => keptM_E5 (keptM_T5 d.1.2.2.1 d.1.2.2.2.1 d.1.2.2.2.2.1 d.2.1 (fun v5x0 v5x1 v5x2 v5x3 => kR (((), (), v5x0, v5x1, v5x2, ()), (v5x3, ()))))) (fun _ _ => by kernel_rfl) (fun _ _ _ => by kernel_rfl) (fun _ _ => by kernel_rfl) (fun _ _ _ _ => by kernel_rfl) (okEach (l' := []) (by kernel_rfl) trivial)
def keptM_run (N : Nat) (l : List Fd) : Option Rs := (bif (!(fdsOk l)) then (some ((AV.ref 0 0), ((Ob.arr (Ty.pair Ty.str Ty.str) 0 false ([] : (List Fd))) :: []))) else (keptM_F5 N l (l.length : Int) 0 ([] : (List Fd)) (fun x5x0x0 => (some ((AV.ref 0 0), ((Ob.arr (Ty.pair Ty.str Ty.str) 0 false x5x0x0) :: []))))))
def keptM_sOf (φ : (List Fd) → Br) : List AV → List Ob → Br
  | [.sh (.pair .str .str) l, .fn 223 []], [] => φ l
  | _, _ => .fail
theorem keptM_okOf {φ : (List Fd) → Br} (fu : (List Fd) → Nat) (hv : ∀ l res_, (φ l).val = some res_ → keptM_run (fu l) l = some res_) : Sound Kx 72 (keptM_sOf φ) := sound_lp (C := keptM_C) (O := keptM_O) Tryz.func72 (by kernel_rfl) fun args objs => by
  unfold keptM_sOf; split
  · rename_i l; exact .inr fun _ hyp_ => run_lp (Λ := keptM_L (fu l)) (by kernel_rfl) (okEach (l' := [keptM_b5]) (by kernel_rfl) ⟨keptM_ok5 _, trivial⟩) (by kernel_rfl) (hv l _ hyp_)
  · exact .inl rfl

end
end Go.Proofs.YtdknaddanjpdaaaGreatDoor.Ev

namespace Go.Proofs.YtdknaddanjpdaaaGreatDoor.Ev
open Go Go.RowKit
set_option linter.unusedVariables false
set_option linter.unusedSimpArgs false
noncomputable section

def kpM (l : List Fd) : List Fd := bif fdsOk l then l.filter (fun f => !isFr f) else []
theorem keptM_loop (l : List Fd) (hl : l.length ≤ 20) (k : List Fd → Option Rs) : ∀ (r : List Fd) (i : Int) (n : Nat) (out : List Fd), At l i r → r.length < n → (∀ f ∈ r, fdOk f = true) → out.length + r.length ≤ 20 →
    keptM_F5 n l (l.length : Int) i out k = k (out ++ r.filter fun f => !isFr f) := by
  intro r; induction r with
  | nil => intro i n out h hn hf ho; obtain ⟨n, rfl⟩ := fuel hn; unfold keptM_F5 keptM_T5; rw [h.dge, cond_false]; simp
  | cons f r ih =>
    intro i n out h hn hf ho; obtain ⟨n, rfl⟩ := fuel hn
    simp only [List.length_cons] at hn ho
    have hm1 := (fdOk_isM (hf f (List.mem_cons_self ..))).1
    have hr := fun x hx => hf x (List.mem_cons_of_mem _ hx)
    unfold keptM_F5 keptM_T5
    simp only [h.dlt, h.dnn, h.get, h.next (by omega), hm1, cond_true]
    rw [List.filter_cons, show isFr (f.1, []) = isFr f from rfl]
    cases isFr f
    · simp only [Bool.not_false, cond_true, if_true]
      rw [apF out _ (by omega), cond_true, ih (i + 1) n _ h.step (by omega) hr (by rw [List.length_append, List.length_set, List.length_replicate]; omega)]
      simp
    · simp only [Bool.not_true, cond_false]
      exact ih (i + 1) n _ h.step (by omega) hr (by omega)
def km_s : List AV → List Ob → Br
  | [.sh (.pair .str .str) l, .fn 223 []], [] => .ret (.ref 0 0) [.arr (.pair .str .str) 0 false (kpM l)]
  | _, _ => .fail
theorem keptM_okQ : Sound Kx 72 km_s := by
  refine (keptM_okOf (φ := fun l => .ret (.ref 0 0) [.arr (.pair .str .str) 0 false (kpM l)]) (fun l => l.length + 1) fun l r h => ?_).of fun args objs r h => ?_
  · cases h
    unfold keptM_run kpM
    cases hf : fdsOk l
    · rfl
    · obtain ⟨g1, g2⟩ := fdsOk_mem hf
      exact keptM_loop l g1 _ l 0 _ [] (At.start l) (by omega) g2 (by rw [List.length_nil]; omega)
  · unfold km_s at h; split at h
    · exact h
    · cases h
theorem with3 (l : List Fd) : withP (withP (withP l frC) frT) frR = kpM l := by
  unfold kpM
  cases h : fdsOk l
  · have e : ∀ nm, withP l nm = [] := fun nm => by unfold withP; rw [h]; rfl
    rw [e]; rfl
  · have e1 : withP l frC = l.filter fun f => !sameP f.1 frC := by unfold withP; rw [h]; rfl
    have h1 := fdsOk_of h fun f => !sameP f.1 frC
    have e2 : withP (withP l frC) frT = (l.filter fun f => !sameP f.1 frC).filter fun f => !sameP f.1 frT := by rw [e1]; unfold withP; rw [h1]; rfl
    have h2 := fdsOk_of h1 fun f => !sameP f.1 frT
    rw [e2]
    unfold withP
    rw [h2, cond_true, cond_true, List.filter_filter, List.filter_filter]
    congr 1
    funext f
    unfold isFr sameP
    rw [show foldP frC = frC from rfl, show foldP frT = frT from rfl, show foldP frR = frR from rfl]
    cases decide (foldP f.1 = frC) <;> cases decide (foldP f.1 = frT) <;> cases decide (foldP f.1 = frR) <;> rfl
end
end Go.Proofs.YtdknaddanjpdaaaGreatDoor.Ev

namespace Go.Proofs.YtdknaddanjpdaaaGreatDoor.Ev
open Go Go.RowKit
set_option linter.unusedVariables false
set_option linter.unusedSimpArgs false
noncomputable section

def sBody_C : SC := [⟨249, _, sChunks_okQ⟩]
def sBody_br (r : Bytes) (k n : Int) : Br := (Br.ite (decide (k = 0)) (Br.ite (!(decide (r = ([] : Bytes)))) (Br.ret (AV.tup ((AV.str ([] : Bytes)) :: ((AV.int .i64 400) :: []))) []) (Br.ret (AV.tup ((AV.str ([] : Bytes)) :: ((AV.int .i64 0) :: []))) [])) (Br.ite (decide (k = 1)) (Br.ite (decide (600 < n)) (Br.ret (AV.tup ((AV.str ([] : Bytes)) :: ((AV.int .i64 413) :: []))) []) (Br.ite (!(decide ((r.length : Int) = n))) (Br.ret (AV.tup ((AV.str ([] : Bytes)) :: ((AV.int .i64 400) :: []))) []) (Br.ret (AV.tup ((AV.str r) :: ((AV.int .i64 0) :: []))) []))) (Br.ite (decide (k = 2)) (Br.ite (decide (r.length ≤ 1000000)) (Br.ret (AV.tup ((AV.str (chP r).1) :: ((AV.int .i64 (chP r).2) :: []))) []) Br.fail) (Br.ite (decide (k = 3)) (Br.ite (decide (600 < (r.length : Int))) (Br.ret (AV.tup ((AV.str ([] : Bytes)) :: ((AV.int .i64 413) :: []))) []) (Br.ret (AV.tup ((AV.str r) :: ((AV.int .i64 0) :: []))) [])) (Br.ret (AV.tup ((AV.str ([] : Bytes)) :: ((AV.int .i64 400) :: []))) [])))))
def sBody_s : List AV → List Ob → Br
  | [.str r, .int .i64 k, .int .i64 n], [] => sBody_br r k n
  | _, _ => .fail
theorem sBody_ok : Sound Kx 216 sBody_s := sound_br (C := sBody_C) (O := O0) Tryz.func216 (by kernel_rfl) fun args objs => by
  unfold sBody_s; split
  · exact .inr (by kernel_rfl)
  · exact .inl rfl

def iRdM_C : SC := [⟨220, _, iRH_okQ⟩, ⟨132, _, isBareStatus_okQ⟩, ⟨221, _, iFram_okQ⟩, ⟨222, _, iChunks_okQ⟩, ⟨72, _, keptM_okQ⟩, ⟨67, _, iMsgOk_okQ⟩]
abbrev iRdM_c1 (s : Bytes) (an he : Bool) := (AV.agg ((AV.str ([] : Bytes)) :: ((AV.str ([] : Bytes)) :: ((AV.int .i64 0) :: ((AV.str ([] : Bytes)) :: ((AV.bool false) :: ((AV.ref 0 0) :: ((AV.str ([] : Bytes)) :: []))))))))
abbrev iRdM_c2 (s : Bytes) (an he : Bool) := (Br.ite (!(msgOkP (rhP s an).1.1 (rhP s an).1.2.1 (rhP s an).1.2.2.1 (rhP s an).1.2.2.2.1 (isBar (rhP s an).1.2.2.1) (kpM (rhP s an).1.2.2.2.2.2.1) (cut s (rhP s an).2.1 (s.length : Int)))) (Br.ret (AV.tup ((iRdM_c1 s an he) :: ((AV.int .i64 431) :: []))) ((Ob.arr (Ty.pair Ty.str Ty.str) 0 false ([] : (List Fd))) :: [])) (Br.ret (AV.tup ((AV.agg ((AV.str (rhP s an).1.1) :: ((AV.str (rhP s an).1.2.1) :: ((AV.int .i64 (rhP s an).1.2.2.1) :: ((AV.str (rhP s an).1.2.2.2.1) :: ((AV.bool (isBar (rhP s an).1.2.2.1)) :: ((AV.ref 0 0) :: ((AV.str (cut s (rhP s an).2.1 (s.length : Int))) :: [])))))))) :: ((AV.int .i64 0) :: []))) ((Ob.arr (Ty.pair Ty.str Ty.str) 0 false (kpM (rhP s an).1.2.2.2.2.2.1)) :: [])))
abbrev iRdM_c3 (s : Bytes) (an he : Bool) := (Br.ite (!(msgOkP (rhP s an).1.1 (rhP s an).1.2.1 (rhP s an).1.2.2.1 (rhP s an).1.2.2.2.1 false (kpM (rhP s an).1.2.2.2.2.2.1) (cut s (rhP s an).2.1 (s.length : Int)))) (Br.ret (AV.tup ((iRdM_c1 s an he) :: ((AV.int .i64 431) :: []))) ((Ob.arr (Ty.pair Ty.str Ty.str) 0 false ([] : (List Fd))) :: [])) (Br.ret (AV.tup ((AV.agg ((AV.str (rhP s an).1.1) :: ((AV.str (rhP s an).1.2.1) :: ((AV.int .i64 (rhP s an).1.2.2.1) :: ((AV.str (rhP s an).1.2.2.2.1) :: ((AV.bool false) :: ((AV.ref 0 0) :: ((AV.str (cut s (rhP s an).2.1 (s.length : Int))) :: [])))))))) :: ((AV.int .i64 0) :: []))) ((Ob.arr (Ty.pair Ty.str Ty.str) 0 false (kpM (rhP s an).1.2.2.2.2.2.1)) :: [])))
abbrev iRdM_c4 (s : Bytes) (an he : Bool) := (Br.ite (!(msgOkP (rhP s an).1.1 (rhP s an).1.2.1 (rhP s an).1.2.2.1 (rhP s an).1.2.2.2.1 true (kpM (rhP s an).1.2.2.2.2.2.1) (cut s (rhP s an).2.1 (s.length : Int)))) (Br.ret (AV.tup ((iRdM_c1 s an he) :: ((AV.int .i64 431) :: []))) ((Ob.arr (Ty.pair Ty.str Ty.str) 0 false ([] : (List Fd))) :: [])) (Br.ret (AV.tup ((AV.agg ((AV.str (rhP s an).1.1) :: ((AV.str (rhP s an).1.2.1) :: ((AV.int .i64 (rhP s an).1.2.2.1) :: ((AV.str (rhP s an).1.2.2.2.1) :: ((AV.bool true) :: ((AV.ref 0 0) :: ((AV.str (cut s (rhP s an).2.1 (s.length : Int))) :: [])))))))) :: ((AV.int .i64 0) :: []))) ((Ob.arr (Ty.pair Ty.str Ty.str) 0 false (kpM (rhP s an).1.2.2.2.2.2.1)) :: [])))
abbrev iRdM_c5 (s : Bytes) (an he : Bool) := ((Ob.arr (Ty.pair Ty.str Ty.str) 0 false ([] : (List Fd))) :: [])
abbrev iRdM_c6 (s : Bytes) (an he : Bool) := (Br.ret (AV.tup ((iRdM_c1 s an he) :: ((AV.int .i64 400) :: []))) (iRdM_c5 s an he))
abbrev iRdM_c7 (s : Bytes) (an he : Bool) := (cut s (rhP s an).2.1 (s.length : Int))
abbrev iRdM_c8 (s : Bytes) (an he : Bool) := (Br.ret (AV.tup ((iRdM_c1 s an he) :: ((AV.int .i64 413) :: []))) (iRdM_c5 s an he))
abbrev iRdM_c9 (s : Bytes) (an he : Bool) := (frP (rhP s an).1.2.2.2.2.2.1 an (isBar (rhP s an).1.2.2.1))
def iRdM_br (s : Bytes) (an he : Bool) : Br := (Br.ite (!(decide ((rhP s an).2.2 = 0))) (Br.ret (AV.tup ((iRdM_c1 s an he) :: ((AV.int .i64 (rhP s an).2.2) :: []))) (iRdM_c5 s an he)) (Br.ite an (Br.ite he (Br.ite (decide (0 ≤ (rhP s an).2.1)) (Br.ite (decide ((rhP s an).2.1 ≤ (s.length : Int))) (Br.ite (decide ((frP (rhP s an).1.2.2.2.2.2.1 an true).1 = 4)) (iRdM_c6 s an he) (Br.ite (decide ((frP (rhP s an).1.2.2.2.2.2.1 an true).1 = 0)) (Br.ite (!(decide ((iRdM_c7 s an he) = ([] : Bytes)))) (iRdM_c6 s an he) (iRdM_c4 s an he)) (Br.ite (decide ((frP (rhP s an).1.2.2.2.2.2.1 an true).1 = 1)) (Br.ite (decide (600 < (frP (rhP s an).1.2.2.2.2.2.1 an true).2)) (iRdM_c8 s an he) (Br.ite (!(decide (((List.length (iRdM_c7 s an he)) : Int) = (frP (rhP s an).1.2.2.2.2.2.1 an true).2))) (iRdM_c6 s an he) (iRdM_c4 s an he))) (Br.ite (decide ((frP (rhP s an).1.2.2.2.2.2.1 an true).1 = 2)) (Br.ite (decide ((List.length (iRdM_c7 s an he)) ≤ 1000000)) (Br.ite (!(decide ((chP (iRdM_c7 s an he)).2 = 0))) (Br.ret (AV.tup ((iRdM_c1 s an he) :: ((AV.int .i64 (chP (iRdM_c7 s an he)).2) :: []))) (iRdM_c5 s an he)) (Br.ite (!(msgOkP (rhP s an).1.1 (rhP s an).1.2.1 (rhP s an).1.2.2.1 (rhP s an).1.2.2.2.1 true (kpM (rhP s an).1.2.2.2.2.2.1) (chP (iRdM_c7 s an he)).1)) (Br.ret (AV.tup ((iRdM_c1 s an he) :: ((AV.int .i64 431) :: []))) (iRdM_c5 s an he)) (Br.ret (AV.tup ((AV.agg ((AV.str (rhP s an).1.1) :: ((AV.str (rhP s an).1.2.1) :: ((AV.int .i64 (rhP s an).1.2.2.1) :: ((AV.str (rhP s an).1.2.2.2.1) :: ((AV.bool true) :: ((AV.ref 0 0) :: ((AV.str (chP (iRdM_c7 s an he)).1) :: [])))))))) :: ((AV.int .i64 0) :: []))) ((Ob.arr (Ty.pair Ty.str Ty.str) 0 false (kpM (rhP s an).1.2.2.2.2.2.1)) :: [])))) Br.fail) (Br.ite (decide ((frP (rhP s an).1.2.2.2.2.2.1 an true).1 = 3)) (Br.ite (decide (600 < ((List.length (iRdM_c7 s an he)) : Int))) (iRdM_c8 s an he) (iRdM_c4 s an he)) (iRdM_c4 s an he)))))) Br.fail) Br.fail) (Br.ite (decide (0 ≤ (rhP s an).2.1)) (Br.ite (decide ((rhP s an).2.1 ≤ (s.length : Int))) (Br.ite (decide ((iRdM_c9 s an he).1 = 4)) (iRdM_c6 s an he) (Br.ite (decide ((iRdM_c9 s an he).1 = 0)) (Br.ite (!(decide ((iRdM_c7 s an he) = ([] : Bytes)))) (iRdM_c6 s an he) (iRdM_c2 s an he)) (Br.ite (decide ((iRdM_c9 s an he).1 = 1)) (Br.ite (decide (600 < (iRdM_c9 s an he).2)) (iRdM_c8 s an he) (Br.ite (!(decide (((List.length (iRdM_c7 s an he)) : Int) = (iRdM_c9 s an he).2))) (iRdM_c6 s an he) (iRdM_c2 s an he))) (Br.ite (decide ((iRdM_c9 s an he).1 = 2)) (Br.ite (decide ((List.length (iRdM_c7 s an he)) ≤ 1000000)) (Br.ite (!(decide ((chP (iRdM_c7 s an he)).2 = 0))) (Br.ret (AV.tup ((iRdM_c1 s an he) :: ((AV.int .i64 (chP (iRdM_c7 s an he)).2) :: []))) (iRdM_c5 s an he)) (Br.ite (!(msgOkP (rhP s an).1.1 (rhP s an).1.2.1 (rhP s an).1.2.2.1 (rhP s an).1.2.2.2.1 (isBar (rhP s an).1.2.2.1) (kpM (rhP s an).1.2.2.2.2.2.1) (chP (iRdM_c7 s an he)).1)) (Br.ret (AV.tup ((iRdM_c1 s an he) :: ((AV.int .i64 431) :: []))) (iRdM_c5 s an he)) (Br.ret (AV.tup ((AV.agg ((AV.str (rhP s an).1.1) :: ((AV.str (rhP s an).1.2.1) :: ((AV.int .i64 (rhP s an).1.2.2.1) :: ((AV.str (rhP s an).1.2.2.2.1) :: ((AV.bool (isBar (rhP s an).1.2.2.1)) :: ((AV.ref 0 0) :: ((AV.str (chP (iRdM_c7 s an he)).1) :: [])))))))) :: ((AV.int .i64 0) :: []))) ((Ob.arr (Ty.pair Ty.str Ty.str) 0 false (kpM (rhP s an).1.2.2.2.2.2.1)) :: [])))) Br.fail) (Br.ite (decide ((iRdM_c9 s an he).1 = 3)) (Br.ite (decide (600 < ((List.length (iRdM_c7 s an he)) : Int))) (iRdM_c8 s an he) (iRdM_c2 s an he)) (iRdM_c2 s an he)))))) Br.fail) Br.fail)) (Br.ite (decide (0 ≤ (rhP s an).2.1)) (Br.ite (decide ((rhP s an).2.1 ≤ (s.length : Int))) (Br.ite (decide ((frP (rhP s an).1.2.2.2.2.2.1 an false).1 = 4)) (iRdM_c6 s an he) (Br.ite (decide ((frP (rhP s an).1.2.2.2.2.2.1 an false).1 = 0)) (Br.ite (!(decide ((iRdM_c7 s an he) = ([] : Bytes)))) (iRdM_c6 s an he) (iRdM_c3 s an he)) (Br.ite (decide ((frP (rhP s an).1.2.2.2.2.2.1 an false).1 = 1)) (Br.ite (decide (600 < (frP (rhP s an).1.2.2.2.2.2.1 an false).2)) (iRdM_c8 s an he) (Br.ite (!(decide (((List.length (iRdM_c7 s an he)) : Int) = (frP (rhP s an).1.2.2.2.2.2.1 an false).2))) (iRdM_c6 s an he) (iRdM_c3 s an he))) (Br.ite (decide ((frP (rhP s an).1.2.2.2.2.2.1 an false).1 = 2)) (Br.ite (decide ((List.length (iRdM_c7 s an he)) ≤ 1000000)) (Br.ite (!(decide ((chP (iRdM_c7 s an he)).2 = 0))) (Br.ret (AV.tup ((iRdM_c1 s an he) :: ((AV.int .i64 (chP (iRdM_c7 s an he)).2) :: []))) (iRdM_c5 s an he)) (Br.ite (!(msgOkP (rhP s an).1.1 (rhP s an).1.2.1 (rhP s an).1.2.2.1 (rhP s an).1.2.2.2.1 false (kpM (rhP s an).1.2.2.2.2.2.1) (chP (iRdM_c7 s an he)).1)) (Br.ret (AV.tup ((iRdM_c1 s an he) :: ((AV.int .i64 431) :: []))) (iRdM_c5 s an he)) (Br.ret (AV.tup ((AV.agg ((AV.str (rhP s an).1.1) :: ((AV.str (rhP s an).1.2.1) :: ((AV.int .i64 (rhP s an).1.2.2.1) :: ((AV.str (rhP s an).1.2.2.2.1) :: ((AV.bool false) :: ((AV.ref 0 0) :: ((AV.str (chP (iRdM_c7 s an he)).1) :: [])))))))) :: ((AV.int .i64 0) :: []))) ((Ob.arr (Ty.pair Ty.str Ty.str) 0 false (kpM (rhP s an).1.2.2.2.2.2.1)) :: [])))) Br.fail) (Br.ite (decide ((frP (rhP s an).1.2.2.2.2.2.1 an false).1 = 3)) (Br.ite (decide (600 < ((List.length (iRdM_c7 s an he)) : Int))) (iRdM_c8 s an he) (iRdM_c3 s an he)) (iRdM_c3 s an he)))))) Br.fail) Br.fail)))
def iRdM_s : List AV → List Ob → Br
  | [.str s, .bool an, .bool he], [] => iRdM_br s an he
  | _, _ => .fail
theorem iRdM_ok : Sound Kx 173 iRdM_s := sound_br (C := iRdM_C) (O := O0) Tryz.func173 (by kernel_rfl) fun args objs => by
  unfold iRdM_s; split
  · exact .inr (by kernel_rfl)
  · exact .inl rfl

end
end Go.Proofs.YtdknaddanjpdaaaGreatDoor.Ev

namespace Go.Proofs.YtdknaddanjpdaaaGreatDoor.Ev
open Go Go.RowKit
set_option linter.unusedVariables false
set_option linter.unusedSimpArgs false
noncomputable section

def bdP (r : Bytes) (k n : Int) : Bytes × Int :=
  bif decide (k = 0) then (bif decide (r = []) then ([], 0) else ([], 400))
  else bif decide (k = 1) then (bif decide (600 < n) then ([], 413) else bif decide ((r.length : Int) = n) then (r, 0) else ([], 400))
  else bif decide (k = 2) then chP r else bif decide (k = 3) then (bif decide (600 < (r.length : Int)) then ([], 413) else (r, 0)) else ([], 400)
def bd_s : List AV → List Ob → Br
  | [.str r, .int .i64 k, .int .i64 n], [] => .ite (decide (r.length ≤ 1000000)) (.ret (.tup [.str (bdP r k n).1, .int .i64 (bdP r k n).2]) []) .fail
  | _, _ => .fail
theorem sBody_okQ : Sound Kx 216 bd_s := sBody_ok.of fun args objs r h => by
  unfold bd_s at h; split at h
  case h_2 => cases h
  rename_i r k n
  obtain ⟨h1, h2⟩ := ite_some h
  cases h2
  show (sBody_br r k n).val = some (.tup [.str (bdP r k n).1, .int .i64 (bdP r k n).2], [])
  unfold sBody_br bdP
  rw [h1]
  cases decide (k = 0)
  · cases decide (k = 1)
    · cases decide (k = 2)
      · cases decide (k = 3)
        · rfl
        · cases decide (600 < (r.length : Int)) <;> rfl
      · rfl
    · cases decide (600 < n)
      · cases decide ((r.length : Int) = n) <;> rfl
      · rfl
  · cases decide (r = []) <;> rfl
end
end Go.Proofs.YtdknaddanjpdaaaGreatDoor.Ev

namespace Go.Proofs.YtdknaddanjpdaaaGreatDoor.Ev
open Go Go.RowKit
set_option linter.unusedVariables false
set_option linter.unusedSimpArgs false
noncomputable section

def sRdM_C : SC := [⟨214, _, sRH_okQ⟩, ⟨185, _, sbare_okQ⟩, ⟨215, _, sFram_okQ⟩, ⟨216, _, sBody_okQ⟩, ⟨66, _, sWithout_okQ⟩, ⟨63, _, sMsgOk_okQ⟩]
abbrev sRdM_c1 (s : Bytes) (an he : Bool) := (withP (withP (withP (rhP s an).1.2.2.2.2.2.1 ([99, 111, 110, 116, 101, 110, 116, 45, 108, 101, 110, 103, 116, 104] : Bytes)) ([116, 114, 97, 110, 115, 102, 101, 114, 45, 101, 110, 99, 111, 100, 105, 110, 103] : Bytes)) ([116, 114, 97, 105, 108, 101, 114] : Bytes))
abbrev sRdM_c2 (s : Bytes) (an he : Bool) := (AV.agg ((AV.str ([] : Bytes)) :: ((AV.str ([] : Bytes)) :: ((AV.int .i64 0) :: ((AV.str ([] : Bytes)) :: ((AV.bool false) :: ((AV.ref 0 0) :: ((AV.str ([] : Bytes)) :: []))))))))
abbrev sRdM_c3 (s : Bytes) (an he : Bool) := (bdP (cut s (rhP s an).2.1 (s.length : Int)) (frP (rhP s an).1.2.2.2.2.2.1 an (isBar (rhP s an).1.2.2.1)).1 (frP (rhP s an).1.2.2.2.2.2.1 an (isBar (rhP s an).1.2.2.1)).2)
abbrev sRdM_c4 (s : Bytes) (an he : Bool) := (bdP (cut s (rhP s an).2.1 (s.length : Int)) (frP (rhP s an).1.2.2.2.2.2.1 an false).1 (frP (rhP s an).1.2.2.2.2.2.1 an false).2)
abbrev sRdM_c5 (s : Bytes) (an he : Bool) := (bdP (cut s (rhP s an).2.1 (s.length : Int)) (frP (rhP s an).1.2.2.2.2.2.1 an true).1 (frP (rhP s an).1.2.2.2.2.2.1 an true).2)
abbrev sRdM_c6 (s : Bytes) (an he : Bool) := ((Ob.arr (Ty.pair Ty.str Ty.str) 0 false ([] : (List Fd))) :: [])
def sRdM_br (s : Bytes) (an he : Bool) : Br := (Br.ite (!(decide ((rhP s an).2.2 = 0))) (Br.ret (AV.tup ((sRdM_c2 s an he) :: ((AV.int .i64 (rhP s an).2.2) :: []))) (sRdM_c6 s an he)) (Br.ite an (Br.ite he (Br.ite (decide (0 ≤ (rhP s an).2.1)) (Br.ite (decide ((rhP s an).2.1 ≤ (s.length : Int))) (Br.ite (decide ((List.length (cut s (rhP s an).2.1 (s.length : Int))) ≤ 1000000)) (Br.ite (!(decide ((sRdM_c5 s an he).2 = 0))) (Br.ret (AV.tup ((sRdM_c2 s an he) :: ((AV.int .i64 (sRdM_c5 s an he).2) :: []))) (sRdM_c6 s an he)) (Br.ite (!(msgOkP (rhP s an).1.1 (rhP s an).1.2.1 (rhP s an).1.2.2.1 (rhP s an).1.2.2.2.1 true (sRdM_c1 s an he) (sRdM_c5 s an he).1)) (Br.ret (AV.tup ((sRdM_c2 s an he) :: ((AV.int .i64 431) :: []))) (sRdM_c6 s an he)) (Br.ret (AV.tup ((AV.agg ((AV.str (rhP s an).1.1) :: ((AV.str (rhP s an).1.2.1) :: ((AV.int .i64 (rhP s an).1.2.2.1) :: ((AV.str (rhP s an).1.2.2.2.1) :: ((AV.bool true) :: ((AV.ref 0 0) :: ((AV.str (sRdM_c5 s an he).1) :: [])))))))) :: ((AV.int .i64 0) :: []))) ((Ob.arr (Ty.pair Ty.str Ty.str) 0 false (sRdM_c1 s an he)) :: [])))) Br.fail) Br.fail) Br.fail) (Br.ite (decide (0 ≤ (rhP s an).2.1)) (Br.ite (decide ((rhP s an).2.1 ≤ (s.length : Int))) (Br.ite (decide ((List.length (cut s (rhP s an).2.1 (s.length : Int))) ≤ 1000000)) (Br.ite (!(decide ((sRdM_c3 s an he).2 = 0))) (Br.ret (AV.tup ((sRdM_c2 s an he) :: ((AV.int .i64 (sRdM_c3 s an he).2) :: []))) (sRdM_c6 s an he)) (Br.ite (!(msgOkP (rhP s an).1.1 (rhP s an).1.2.1 (rhP s an).1.2.2.1 (rhP s an).1.2.2.2.1 (isBar (rhP s an).1.2.2.1) (sRdM_c1 s an he) (sRdM_c3 s an he).1)) (Br.ret (AV.tup ((sRdM_c2 s an he) :: ((AV.int .i64 431) :: []))) (sRdM_c6 s an he)) (Br.ret (AV.tup ((AV.agg ((AV.str (rhP s an).1.1) :: ((AV.str (rhP s an).1.2.1) :: ((AV.int .i64 (rhP s an).1.2.2.1) :: ((AV.str (rhP s an).1.2.2.2.1) :: ((AV.bool (isBar (rhP s an).1.2.2.1)) :: ((AV.ref 0 0) :: ((AV.str (sRdM_c3 s an he).1) :: [])))))))) :: ((AV.int .i64 0) :: []))) ((Ob.arr (Ty.pair Ty.str Ty.str) 0 false (sRdM_c1 s an he)) :: [])))) Br.fail) Br.fail) Br.fail)) (Br.ite (decide (0 ≤ (rhP s an).2.1)) (Br.ite (decide ((rhP s an).2.1 ≤ (s.length : Int))) (Br.ite (decide ((List.length (cut s (rhP s an).2.1 (s.length : Int))) ≤ 1000000)) (Br.ite (!(decide ((sRdM_c4 s an he).2 = 0))) (Br.ret (AV.tup ((sRdM_c2 s an he) :: ((AV.int .i64 (sRdM_c4 s an he).2) :: []))) (sRdM_c6 s an he)) (Br.ite (!(msgOkP (rhP s an).1.1 (rhP s an).1.2.1 (rhP s an).1.2.2.1 (rhP s an).1.2.2.2.1 false (sRdM_c1 s an he) (sRdM_c4 s an he).1)) (Br.ret (AV.tup ((sRdM_c2 s an he) :: ((AV.int .i64 431) :: []))) (sRdM_c6 s an he)) (Br.ret (AV.tup ((AV.agg ((AV.str (rhP s an).1.1) :: ((AV.str (rhP s an).1.2.1) :: ((AV.int .i64 (rhP s an).1.2.2.1) :: ((AV.str (rhP s an).1.2.2.2.1) :: ((AV.bool false) :: ((AV.ref 0 0) :: ((AV.str (sRdM_c4 s an he).1) :: [])))))))) :: ((AV.int .i64 0) :: []))) ((Ob.arr (Ty.pair Ty.str Ty.str) 0 false (sRdM_c1 s an he)) :: [])))) Br.fail) Br.fail) Br.fail)))
def sRdM_s : List AV → List Ob → Br
  | [.str s, .bool an, .bool he], [] => sRdM_br s an he
  | _, _ => .fail
theorem sRdM_ok : Sound Kx 166 sRdM_s := sound_br (C := sRdM_C) (O := O0) Tryz.func166 (by kernel_rfl) fun args objs => by
  unfold sRdM_s; split
  · exact .inr (by kernel_rfl)
  · exact .inl rfl

end
end Go.Proofs.YtdknaddanjpdaaaGreatDoor.Ev

namespace Go.Proofs.YtdknaddanjpdaaaGreatDoor.Ev
open Go Go.RowKit
set_option linter.unusedVariables false
set_option linter.unusedSimpArgs false
noncomputable section

theorem hdGo_ok (s : Bytes) (an : Bool) : ∀ (n : Nat) (f : Bool) (m : Mg) (a : Int), (hdGo s an n f m a).2.2 = 0 → 0 ≤ (hdGo s an n f m a).2.1 ∧ (hdGo s an n f m a).2.1 ≤ (s.length : Int) := by
  intro n; induction n with
  | zero => intro f m a h; exact absurd h (show ¬ (400 : Int) = 0 by decide)
  | succ n ih =>
    intro f m a h
    unfold hdGo at h ⊢
    by_cases c1 : (tlP s a).2.2.2 = 0
    case neg => rw [decide_eq_false c1] at h; exact absurd h (show ¬ (400 : Int) = 0 by decide)
    obtain ⟨e1, e2, e3, e4, e5, _⟩ := tlP_ok c1
    rw [decide_eq_true c1] at h ⊢
    cases c2 : decide (300 < ((tlP s a).1.length : Int))
    case true => rw [c2] at h; exact absurd h (show ¬ (431 : Int) = 0 by decide)
    cases c3 : decide (1500 < (tlP s a).2.2.1)
    case true => rw [c2, c3] at h; exact absurd h (show ¬ (431 : Int) = 0 by decide)
    rw [c2, c3] at h
    simp only [Bool.not_true, cond_false] at h ⊢
    cases f
    · cases c4 : decide ((tlP s a).1 = [])
      · cases c5 : decide ((m.2.2.2.2.2.1.length : Int) = 20)
        · cases c6 : (rfP (tlP s a).1).2
          · rw [c4, c5, c6] at h; exact absurd h (show ¬ (400 : Int) = 0 by decide)
          · rw [c4, c5, c6] at h; exact ih _ _ _ h
        · rw [c4, c5] at h; exact absurd h (show ¬ (431 : Int) = 0 by decide)
      · exact ⟨show 0 ≤ (tlP s a).2.2.1 by omega, e3⟩
    · cases c4 : fiOk an (tlP s a).1
      · rw [c4] at h; exact absurd h (show ¬ (400 : Int) = 0 by decide)
      · rw [c4] at h; exact ih _ _ _ h
theorem rhP_ok {s : Bytes} {an : Bool} (h : (rhP s an).2.2 = 0) : 0 ≤ (rhP s an).2.1 ∧ (rhP s an).2.1 ≤ (s.length : Int) ∧ s.length ≤ 4000 := by
  unfold rhP at h ⊢
  by_cases c : 4000 < (s.length : Int)
  · rw [decide_eq_true c] at h; exact absurd h (show ¬ (413 : Int) = 0 by decide)
  · rw [decide_eq_false c] at h ⊢
    obtain ⟨h1, h2⟩ := hdGo_ok s an _ _ _ _ h
    exact ⟨h1, h2, by omega⟩
def rmB (h : Mg) (ba : Bool) (fr : Int × Int) (r : Bytes) : Mg × Int :=
  bif !decide ((bdP r fr.1 fr.2).2 = 0) then (mg0, (bdP r fr.1 fr.2).2)
  else bif !msgOkP h.1 h.2.1 h.2.2.1 h.2.2.2.1 ba (kpM h.2.2.2.2.2.1) (bdP r fr.1 fr.2).1 then (mg0, 431) else ((h.1, h.2.1, h.2.2.1, h.2.2.2.1, ba, kpM h.2.2.2.2.2.1, (bdP r fr.1 fr.2).1), 0)
def rmP (s : Bytes) (an he : Bool) : Mg × Int :=
  bif !decide ((rhP s an).2.2 = 0) then (mg0, (rhP s an).2.2)
  else rmB (rhP s an).1 (an && (he || isBar (rhP s an).1.2.2.1)) (frP (rhP s an).1.2.2.2.2.2.1 an (an && (he || isBar (rhP s an).1.2.2.1))) (cut s (rhP s an).2.1 (s.length : Int))
def rmA (x : Mg × Int) : AV := .tup [mgR x.1, .int .i64 x.2]
theorem frP_k (l : List Fd) (an ba : Bool) : (frP l an ba).1 = 0 ∨ (frP l an ba).1 = 1 ∨ (frP l an ba).1 = 2 ∨ (frP l an ba).1 = 3 ∨ (frP l an ba).1 = 4 := by
  unfold frP
  cases fdsOk l
  · simp
  · generalize (hasP l nTE && (hasP l nCL || !decide ((wordsP l nTE).length = 1) || !decide (foldP ((wordsP l nTE).getD 0 []) = chuB))) = x
    cases x
    · generalize (hasP l nCL && !(clenP l).2) = y
      cases y
      · cases ba <;> cases hasP l nTE <;> cases hasP l nCL <;> cases an <;> simp
      · simp
    · simp
theorem cut_le (s : Bytes) (a b : Int) : (cut s a b).length ≤ s.length := cut_len s a b
theorem iRdM_val (s : Bytes) (an he : Bool) : (iRdM_br s an he).val = some (rmA (rmP s an he), mgO (rmP s an he).1) := by
  unfold iRdM_br rmP iRdM_c9 iRdM_c8 iRdM_c7 iRdM_c6 iRdM_c5 iRdM_c4 iRdM_c3 iRdM_c2 iRdM_c1
  by_cases c : (rhP s an).2.2 = 0
  case neg => rw [decide_eq_false c]; rfl
  obtain ⟨h1, h2, h3⟩ := rhP_ok c
  have hr := cut_le s (rhP s an).2.1 (s.length : Int)
  rw [decide_eq_true c, decide_eq_true h1, decide_eq_true h2]
  have hm : decide ((cut s (rhP s an).2.1 (s.length : Int)).length ≤ 1000000) = true := decide_eq_true (by omega)
  rw [hm]
  have key : ∀ (ba : Bool) (fr : Int × Int) (h : Mg) (r : Bytes) (T : Br), (fr.1 = 0 ∨ fr.1 = 1 ∨ fr.1 = 2 ∨ fr.1 = 3 ∨ fr.1 = 4) →
      T = (Br.ite (decide (fr.1 = 4)) (.ret (rmA (mg0, 400)) (mgO mg0)) (Br.ite (decide (fr.1 = 0)) (Br.ite (!decide (r = [])) (.ret (rmA (mg0, 400)) (mgO mg0)) (Br.ite (!msgOkP h.1 h.2.1 h.2.2.1 h.2.2.2.1 ba (kpM h.2.2.2.2.2.1) r) (.ret (rmA (mg0, 431)) (mgO mg0)) (.ret (rmA ((h.1, h.2.1, h.2.2.1, h.2.2.2.1, ba, kpM h.2.2.2.2.2.1, r), 0)) (mgO (h.1, h.2.1, h.2.2.1, h.2.2.2.1, ba, kpM h.2.2.2.2.2.1, r)))))
        (Br.ite (decide (fr.1 = 1)) (Br.ite (decide (600 < fr.2)) (.ret (rmA (mg0, 413)) (mgO mg0)) (Br.ite (!decide ((r.length : Int) = fr.2)) (.ret (rmA (mg0, 400)) (mgO mg0)) (Br.ite (!msgOkP h.1 h.2.1 h.2.2.1 h.2.2.2.1 ba (kpM h.2.2.2.2.2.1) r) (.ret (rmA (mg0, 431)) (mgO mg0)) (.ret (rmA ((h.1, h.2.1, h.2.2.1, h.2.2.2.1, ba, kpM h.2.2.2.2.2.1, r), 0)) (mgO (h.1, h.2.1, h.2.2.1, h.2.2.2.1, ba, kpM h.2.2.2.2.2.1, r))))))
        (Br.ite (decide (fr.1 = 2)) (Br.ite true (Br.ite (!decide ((chP r).2 = 0)) (.ret (rmA (mg0, (chP r).2)) (mgO mg0)) (Br.ite (!msgOkP h.1 h.2.1 h.2.2.1 h.2.2.2.1 ba (kpM h.2.2.2.2.2.1) (chP r).1) (.ret (rmA (mg0, 431)) (mgO mg0)) (.ret (rmA ((h.1, h.2.1, h.2.2.1, h.2.2.2.1, ba, kpM h.2.2.2.2.2.1, (chP r).1), 0)) (mgO (h.1, h.2.1, h.2.2.1, h.2.2.2.1, ba, kpM h.2.2.2.2.2.1, (chP r).1))))) .fail)
        (Br.ite (decide (fr.1 = 3)) (Br.ite (decide (600 < (r.length : Int))) (.ret (rmA (mg0, 413)) (mgO mg0)) (Br.ite (!msgOkP h.1 h.2.1 h.2.2.1 h.2.2.2.1 ba (kpM h.2.2.2.2.2.1) r) (.ret (rmA (mg0, 431)) (mgO mg0)) (.ret (rmA ((h.1, h.2.1, h.2.2.1, h.2.2.2.1, ba, kpM h.2.2.2.2.2.1, r), 0)) (mgO (h.1, h.2.1, h.2.2.1, h.2.2.2.1, ba, kpM h.2.2.2.2.2.1, r)))))
        (Br.ite (!msgOkP h.1 h.2.1 h.2.2.1 h.2.2.2.1 ba (kpM h.2.2.2.2.2.1) r) (.ret (rmA (mg0, 431)) (mgO mg0)) (.ret (rmA ((h.1, h.2.1, h.2.2.1, h.2.2.2.1, ba, kpM h.2.2.2.2.2.1, r), 0)) (mgO (h.1, h.2.1, h.2.2.1, h.2.2.2.1, ba, kpM h.2.2.2.2.2.1, r))))))))) →
      T.val = some (rmA (rmB h ba fr r), mgO (rmB h ba fr r).1) := by
    intro ba fr h r T hk hT
    subst hT
    obtain ⟨k, n⟩ := fr
    unfold rmB bdP
    rcases hk with hk | hk | hk | hk | hk <;> (simp only at hk; subst hk)
    · by_cases e : r = []
      · subst e
        show (Br.ite (!msgOkP h.1 h.2.1 h.2.2.1 h.2.2.2.1 ba (kpM h.2.2.2.2.2.1) []) _ _).val = _
        cases g : msgOkP h.1 h.2.1 h.2.2.1 h.2.2.2.1 ba (kpM h.2.2.2.2.2.1) []
        · simp [g, Br.val]
        · simp [g, Br.val]
      · simp [e, Br.val]
    · by_cases e : 600 < n
      · simp [e, Br.val]
      · by_cases e2 : (r.length : Int) = n
        · cases g : msgOkP h.1 h.2.1 h.2.2.1 h.2.2.2.1 ba (kpM h.2.2.2.2.2.1) r <;> simp [e, e2, g, Br.val]
        · simp [e, e2, Br.val]
    · by_cases e : (chP r).2 = 0
      · cases g : msgOkP h.1 h.2.1 h.2.2.1 h.2.2.2.1 ba (kpM h.2.2.2.2.2.1) (chP r).1 <;> simp [e, g, Br.val]
      · simp [e, Br.val]
    · by_cases e : 600 < (r.length : Int)
      · simp [e, Br.val]
      · cases g : msgOkP h.1 h.2.1 h.2.2.1 h.2.2.2.1 ba (kpM h.2.2.2.2.2.1) r <;> simp [e, g, Br.val]
    · simp [Br.val]
  cases an
  · exact (val_f rfl).trans ((val_f rfl).trans ((val_t rfl).trans ((val_t rfl).trans (key false _ _ _ _ (frP_k _ _ _) rfl))))
  · cases he
    · exact (val_f rfl).trans ((val_t rfl).trans ((val_f rfl).trans ((val_t rfl).trans ((val_t rfl).trans (key (isBar (rhP s true).1.2.2.1) _ _ _ _ (frP_k _ _ _) rfl)))))
    · exact (val_f rfl).trans ((val_t rfl).trans ((val_t rfl).trans ((val_t rfl).trans ((val_t rfl).trans (key true _ _ _ _ (frP_k _ _ _) rfl)))))
theorem sRdM_val (s : Bytes) (an he : Bool) : (sRdM_br s an he).val = some (rmA (rmP s an he), mgO (rmP s an he).1) := by
  unfold sRdM_br rmP sRdM_c6 sRdM_c5 sRdM_c4 sRdM_c3 sRdM_c2 sRdM_c1
  by_cases c : (rhP s an).2.2 = 0
  case neg => rw [decide_eq_false c]; rfl
  obtain ⟨h1, h2, h3⟩ := rhP_ok c
  have hr := cut_le s (rhP s an).2.1 (s.length : Int)
  have w3 : withP (withP (withP (rhP s an).1.2.2.2.2.2.1 [99, 111, 110, 116, 101, 110, 116, 45, 108, 101, 110, 103, 116, 104]) [116, 114, 97, 110, 115, 102, 101, 114, 45, 101, 110, 99, 111, 100, 105, 110, 103]) [116, 114, 97, 105, 108, 101, 114] = kpM (rhP s an).1.2.2.2.2.2.1 := with3 _
  rw [decide_eq_true c, decide_eq_true h1, decide_eq_true h2, w3]
  have hm : decide ((cut s (rhP s an).2.1 (s.length : Int)).length ≤ 1000000) = true := decide_eq_true (by omega)
  rw [hm]
  have key : ∀ (ba : Bool) (fr : Int × Int) (h : Mg) (r : Bytes) (T : Br),
      T = (Br.ite (!decide ((bdP r fr.1 fr.2).2 = 0)) (.ret (rmA (mg0, (bdP r fr.1 fr.2).2)) (mgO mg0)) (Br.ite (!msgOkP h.1 h.2.1 h.2.2.1 h.2.2.2.1 ba (kpM h.2.2.2.2.2.1) (bdP r fr.1 fr.2).1) (.ret (rmA (mg0, 431)) (mgO mg0)) (.ret (rmA ((h.1, h.2.1, h.2.2.1, h.2.2.2.1, ba, kpM h.2.2.2.2.2.1, (bdP r fr.1 fr.2).1), 0)) (mgO (h.1, h.2.1, h.2.2.1, h.2.2.2.1, ba, kpM h.2.2.2.2.2.1, (bdP r fr.1 fr.2).1))))) →
      T.val = some (rmA (rmB h ba fr r), mgO (rmB h ba fr r).1) := by
    intro ba fr h r T hT
    subst hT
    unfold rmB
    cases decide ((bdP r fr.1 fr.2).2 = 0)
    · rfl
    · cases msgOkP h.1 h.2.1 h.2.2.1 h.2.2.2.1 ba (kpM h.2.2.2.2.2.1) (bdP r fr.1 fr.2).1 <;> rfl
  cases an
  · exact (val_f rfl).trans ((val_f rfl).trans ((val_t rfl).trans ((val_t rfl).trans ((val_t rfl).trans (key false _ _ _ _ rfl)))))
  · cases he
    · exact (val_f rfl).trans ((val_t rfl).trans ((val_f rfl).trans ((val_t rfl).trans ((val_t rfl).trans ((val_t rfl).trans (key (isBar (rhP s true).1.2.2.1) _ _ _ _ rfl))))))
    · exact (val_f rfl).trans ((val_t rfl).trans ((val_t rfl).trans ((val_t rfl).trans ((val_t rfl).trans ((val_t rfl).trans (key true _ _ _ _ rfl))))))
def rm2_s : List AV → List Ob → Br
  | [.str s, .bool an, .bool he], [] => .ret (rmA (rmP s an he)) (mgO (rmP s an he).1)
  | _, _ => .fail
theorem sRdM_okQ : Sound Kx 166 rm2_s := sRdM_ok.of fun args objs r h => by
  unfold rm2_s at h; split at h
  · exact (sRdM_val _ _ _).trans h
  · cases h
theorem iRdM_okQ : Sound Kx 173 rm2_s := iRdM_ok.of fun args objs r h => by
  unfold rm2_s at h; split at h
  · exact (iRdM_val _ _ _).trans h
  · cases h
end
end Go.Proofs.YtdknaddanjpdaaaGreatDoor.Ev

namespace Go.Proofs.YtdknaddanjpdaaaGreatDoor.Ev
open Go Go.RowKit
set_option linter.unusedVariables false
set_option linter.unusedSimpArgs false
noncomputable section

def sReq_C : SC := [⟨166, _, sRdM_okQ⟩]
def sReq_br (s : Bytes) : Br := (Br.ret (AV.tup ((AV.agg ((AV.str (rmP s false false).1.1) :: ((AV.str (rmP s false false).1.2.1) :: ((AV.int .i64 (rmP s false false).1.2.2.1) :: ((AV.str (rmP s false false).1.2.2.2.1) :: ((AV.bool (rmP s false false).1.2.2.2.2.1) :: ((AV.ref 0 0) :: ((AV.str (rmP s false false).1.2.2.2.2.2.2) :: [])))))))) :: ((AV.int .i64 (rmP s false false).2) :: []))) ((Ob.arr (Ty.pair Ty.str Ty.str) 0 false (rmP s false false).1.2.2.2.2.2.1) :: []))
def sReq_s : List AV → List Ob → Br
  | [.str s], [] => sReq_br s
  | _, _ => .fail
theorem sReq_ok : Sound Kx 102 sReq_s := sound_br (C := sReq_C) (O := O0) Tryz.func102 (by kernel_rfl) fun args objs => by
  unfold sReq_s; split
  · exact .inr (by kernel_rfl)
  · exact .inl rfl

def iReq_C : SC := [⟨173, _, iRdM_okQ⟩]
def iReq_br (s : Bytes) : Br := (Br.ret (AV.tup ((AV.agg ((AV.str (rmP s false false).1.1) :: ((AV.str (rmP s false false).1.2.1) :: ((AV.int .i64 (rmP s false false).1.2.2.1) :: ((AV.str (rmP s false false).1.2.2.2.1) :: ((AV.bool (rmP s false false).1.2.2.2.2.1) :: ((AV.ref 0 0) :: ((AV.str (rmP s false false).1.2.2.2.2.2.2) :: [])))))))) :: ((AV.int .i64 (rmP s false false).2) :: []))) ((Ob.arr (Ty.pair Ty.str Ty.str) 0 false (rmP s false false).1.2.2.2.2.2.1) :: []))
def iReq_s : List AV → List Ob → Br
  | [.str s], [] => iReq_br s
  | _, _ => .fail
theorem iReq_ok : Sound Kx 114 iReq_s := sound_br (C := iReq_C) (O := O0) Tryz.func114 (by kernel_rfl) fun args objs => by
  unfold iReq_s; split
  · exact .inr (by kernel_rfl)
  · exact .inl rfl

def sAns_C : SC := [⟨166, _, sRdM_okQ⟩]
def sAns_br (s : Bytes) (he : Bool) : Br := (Br.ret (AV.tup ((AV.agg ((AV.str (rmP s true he).1.1) :: ((AV.str (rmP s true he).1.2.1) :: ((AV.int .i64 (rmP s true he).1.2.2.1) :: ((AV.str (rmP s true he).1.2.2.2.1) :: ((AV.bool (rmP s true he).1.2.2.2.2.1) :: ((AV.ref 0 0) :: ((AV.str (rmP s true he).1.2.2.2.2.2.2) :: [])))))))) :: ((AV.int .i64 (rmP s true he).2) :: []))) ((Ob.arr (Ty.pair Ty.str Ty.str) 0 false (rmP s true he).1.2.2.2.2.2.1) :: []))
def sAns_s : List AV → List Ob → Br
  | [.str s, .bool he], [] => sAns_br s he
  | _, _ => .fail
theorem sAns_ok : Sound Kx 104 sAns_s := sound_br (C := sAns_C) (O := O0) Tryz.func104 (by kernel_rfl) fun args objs => by
  unfold sAns_s; split
  · exact .inr (by kernel_rfl)
  · exact .inl rfl

def iAns_C : SC := [⟨173, _, iRdM_okQ⟩]
def iAns_br (s : Bytes) (he : Bool) : Br := (Br.ret (AV.tup ((AV.agg ((AV.str (rmP s true he).1.1) :: ((AV.str (rmP s true he).1.2.1) :: ((AV.int .i64 (rmP s true he).1.2.2.1) :: ((AV.str (rmP s true he).1.2.2.2.1) :: ((AV.bool (rmP s true he).1.2.2.2.2.1) :: ((AV.ref 0 0) :: ((AV.str (rmP s true he).1.2.2.2.2.2.2) :: [])))))))) :: ((AV.int .i64 (rmP s true he).2) :: []))) ((Ob.arr (Ty.pair Ty.str Ty.str) 0 false (rmP s true he).1.2.2.2.2.2.1) :: []))
def iAns_s : List AV → List Ob → Br
  | [.str s, .bool he], [] => iAns_br s he
  | _, _ => .fail
theorem iAns_ok : Sound Kx 115 iAns_s := sound_br (C := iAns_C) (O := O0) Tryz.func115 (by kernel_rfl) fun args objs => by
  unfold iAns_s; split
  · exact .inr (by kernel_rfl)
  · exact .inl rfl

def iSide_C : SC := [⟨149, _, iwithin_ok⟩]
def iSide_br (n : Int) : Br := (Br.ite (decide (n = 0)) (Br.ret (AV.bool true) []) (Br.ret (AV.bool (decide (n = 1))) []))
def iSide_s : List AV → List Ob → Br
  | [.int .i64 n], [] => iSide_br n
  | _, _ => .fail
theorem iSide_ok : Sound Kx 113 iSide_s := sound_br (C := iSide_C) (O := O0) Tryz.func113 (by kernel_rfl) fun args objs => by
  unfold iSide_s; split
  · exact .inr (by kernel_rfl)
  · exact .inl rfl

def sL10_C : SC := [⟨79, _, sTime_okQ⟩, ⟨102, _, sReq_ok⟩, ⟨103, _, sCanon_okQ⟩, ⟨104, _, sAns_ok⟩, ⟨105, _, sWrite_okQ⟩]
abbrev sL10_c1 (sd t1 t2 : Int) (ur rq an : Bytes) := (Br.ret (AV.tup ((AV.agg ((AV.str ([] : Bytes)) :: ((AV.str ([] : Bytes)) :: ((AV.int .i64 0) :: ((AV.str ([] : Bytes)) :: ((AV.bool false) :: ((AV.ref 0 0) :: ((AV.str ([] : Bytes)) :: [])))))))) :: ((AV.agg ((AV.str ([] : Bytes)) :: ((AV.str ([] : Bytes)) :: ((AV.int .i64 0) :: ((AV.str ([] : Bytes)) :: ((AV.bool false) :: ((AV.ref 1 0) :: ((AV.str ([] : Bytes)) :: [])))))))) :: ((AV.bool false) :: [])))) ((Ob.arr (Ty.pair Ty.str Ty.str) 0 false ([] : (List Fd))) :: ((Ob.arr (Ty.pair Ty.str Ty.str) 0 false ([] : (List Fd))) :: [])))
abbrev sL10_c2 (sd t1 t2 : Int) (ur rq an : Bytes) := (Br.ite (!(timB t1)) (sL10_c1 sd t1 t2 ur rq an) (Br.ite (!(timB t2)) (sL10_c1 sd t1 t2 ur rq an) (Br.ite (decide (t2 < t1)) (sL10_c1 sd t1 t2 ur rq an) (Br.ite (!(decide ((rmP rq false false).2 = 0))) (sL10_c1 sd t1 t2 ur rq an) (Br.ite (isM (rmP rq false false).1.2.1) (Br.ite (!(canonP (rmP rq false false).1.2.1).2) (sL10_c1 sd t1 t2 ur rq an) (Br.ite (!(decide ((canonP (rmP rq false false).1.2.1).1 = ur))) (sL10_c1 sd t1 t2 ur rq an) (Br.ite (!(decide ((rmP an true (decide ((rmP rq false false).1.1 = ([72, 69, 65, 68] : Bytes)))).2 = 0))) (Br.ite (!(decide ((rmP an true (decide ((rmP rq false false).1.1 = ([72, 69, 65, 68] : Bytes)))).2 = 0))) (Br.ite (!(decide ((rmP an true (decide ((rmP rq false false).1.1 = ([72, 69, 65, 68] : Bytes)))).2 = 0))) (Br.ite (!(decide ((rmP an true (decide ((rmP rq false false).1.1 = ([72, 69, 65, 68] : Bytes)))).2 = 0))) (Br.ite (!(decide ((rmP an true (decide ((rmP rq false false).1.1 = ([72, 69, 65, 68] : Bytes)))).2 = 0))) (Br.ite (!(decide ((rmP an true (decide ((rmP rq false false).1.1 = ([72, 69, 65, 68] : Bytes)))).2 = 0))) (sL10_c1 sd t1 t2 ur rq an) Br.fail) Br.fail) Br.fail) (Br.ite (!(decide ((rmP an true (decide ((rmP rq false false).1.1 = ([72, 69, 65, 68] : Bytes)))).2 = 0))) (Br.ite (!(decide ((rmP an true (decide ((rmP rq false false).1.1 = ([72, 69, 65, 68] : Bytes)))).2 = 0))) (Br.ite (!(decide ((rmP an true (decide ((rmP rq false false).1.1 = ([72, 69, 65, 68] : Bytes)))).2 = 0))) (sL10_c1 sd t1 t2 ur rq an) Br.fail) Br.fail) (Br.ite (!(decide ((rmP an true (decide ((rmP rq false false).1.1 = ([72, 69, 65, 68] : Bytes)))).2 = 0))) (Br.ite (!(decide ((rmP an true (decide ((rmP rq false false).1.1 = ([72, 69, 65, 68] : Bytes)))).2 = 0))) (sL10_c1 sd t1 t2 ur rq an) Br.fail) Br.fail))) Br.fail) (Br.ite (!(decide ((rmP an true (decide ((rmP rq false false).1.1 = ([72, 69, 65, 68] : Bytes)))).2 = 0))) (Br.ite (!(decide ((rmP an true (decide ((rmP rq false false).1.1 = ([72, 69, 65, 68] : Bytes)))).2 = 0))) (Br.ite (!(decide ((rmP an true (decide ((rmP rq false false).1.1 = ([72, 69, 65, 68] : Bytes)))).2 = 0))) (Br.ite (!(decide ((rmP an true (decide ((rmP rq false false).1.1 = ([72, 69, 65, 68] : Bytes)))).2 = 0))) (Br.ite (!(decide ((rmP an true (decide ((rmP rq false false).1.1 = ([72, 69, 65, 68] : Bytes)))).2 = 0))) (sL10_c1 sd t1 t2 ur rq an) Br.fail) Br.fail) Br.fail) (Br.ite (!(decide ((rmP an true (decide ((rmP rq false false).1.1 = ([72, 69, 65, 68] : Bytes)))).2 = 0))) (Br.ite (!(decide ((rmP an true (decide ((rmP rq false false).1.1 = ([72, 69, 65, 68] : Bytes)))).2 = 0))) (Br.ite (!(decide ((rmP an true (decide ((rmP rq false false).1.1 = ([72, 69, 65, 68] : Bytes)))).2 = 0))) (sL10_c1 sd t1 t2 ur rq an) Br.fail) Br.fail) (Br.ite (!(decide ((rmP an true (decide ((rmP rq false false).1.1 = ([72, 69, 65, 68] : Bytes)))).2 = 0))) (Br.ite (!(decide ((rmP an true (decide ((rmP rq false false).1.1 = ([72, 69, 65, 68] : Bytes)))).2 = 0))) (sL10_c1 sd t1 t2 ur rq an) Br.fail) Br.fail))) (Br.ite (!(decide ((rmP an true (decide ((rmP rq false false).1.1 = ([72, 69, 65, 68] : Bytes)))).2 = 0))) (Br.ite (!(decide ((rmP an true (decide ((rmP rq false false).1.1 = ([72, 69, 65, 68] : Bytes)))).2 = 0))) (Br.ite (!(decide ((rmP an true (decide ((rmP rq false false).1.1 = ([72, 69, 65, 68] : Bytes)))).2 = 0))) (Br.ite (!(decide ((rmP an true (decide ((rmP rq false false).1.1 = ([72, 69, 65, 68] : Bytes)))).2 = 0))) (sL10_c1 sd t1 t2 ur rq an) Br.fail) Br.fail) Br.fail) (Br.ite (!(decide ((rmP an true (decide ((rmP rq false false).1.1 = ([72, 69, 65, 68] : Bytes)))).2 = 0))) (Br.ite (!(decide ((rmP an true (decide ((rmP rq false false).1.1 = ([72, 69, 65, 68] : Bytes)))).2 = 0))) (Br.ite (!(decide ((rmP an true (decide ((rmP rq false false).1.1 = ([72, 69, 65, 68] : Bytes)))).2 = 0))) (sL10_c1 sd t1 t2 ur rq an) Br.fail) Br.fail) (Br.ite (!(decide ((rmP an true (decide ((rmP rq false false).1.1 = ([72, 69, 65, 68] : Bytes)))).2 = 0))) (Br.ite (!(decide ((rmP an true (decide ((rmP rq false false).1.1 = ([72, 69, 65, 68] : Bytes)))).2 = 0))) (sL10_c1 sd t1 t2 ur rq an) Br.fail) (Br.ite (!(decide ((rmP an true (decide ((rmP rq false false).1.1 = ([72, 69, 65, 68] : Bytes)))).2 = 0))) (sL10_c1 sd t1 t2 ur rq an) (Br.ite (!(decide ((writeP ((rmP an true (decide ((rmP rq false false).1.1 = ([72, 69, 65, 68] : Bytes)))).1.1, ((rmP an true (decide ((rmP rq false false).1.1 = ([72, 69, 65, 68] : Bytes)))).1.2.1, ((rmP an true (decide ((rmP rq false false).1.1 = ([72, 69, 65, 68] : Bytes)))).1.2.2.1, ((rmP an true (decide ((rmP rq false false).1.1 = ([72, 69, 65, 68] : Bytes)))).1.2.2.2.1, ((rmP an true (decide ((rmP rq false false).1.1 = ([72, 69, 65, 68] : Bytes)))).1.2.2.2.2.1, ((rmP an true (decide ((rmP rq false false).1.1 = ([72, 69, 65, 68] : Bytes)))).1.2.2.2.2.2.1, (rmP an true (decide ((rmP rq false false).1.1 = ([72, 69, 65, 68] : Bytes)))).1.2.2.2.2.2.2))))))) = an))) (sL10_c1 sd t1 t2 ur rq an) (Br.ret (AV.tup ((AV.agg ((AV.str (rmP rq false false).1.1) :: ((AV.str (rmP rq false false).1.2.1) :: ((AV.int .i64 (rmP rq false false).1.2.2.1) :: ((AV.str (rmP rq false false).1.2.2.2.1) :: ((AV.bool (rmP rq false false).1.2.2.2.2.1) :: ((AV.ref 0 0) :: ((AV.str (rmP rq false false).1.2.2.2.2.2.2) :: [])))))))) :: ((AV.agg ((AV.str (rmP an true (decide ((rmP rq false false).1.1 = ([72, 69, 65, 68] : Bytes)))).1.1) :: ((AV.str (rmP an true (decide ((rmP rq false false).1.1 = ([72, 69, 65, 68] : Bytes)))).1.2.1) :: ((AV.int .i64 (rmP an true (decide ((rmP rq false false).1.1 = ([72, 69, 65, 68] : Bytes)))).1.2.2.1) :: ((AV.str (rmP an true (decide ((rmP rq false false).1.1 = ([72, 69, 65, 68] : Bytes)))).1.2.2.2.1) :: ((AV.bool (rmP an true (decide ((rmP rq false false).1.1 = ([72, 69, 65, 68] : Bytes)))).1.2.2.2.2.1) :: ((AV.ref 1 0) :: ((AV.str (rmP an true (decide ((rmP rq false false).1.1 = ([72, 69, 65, 68] : Bytes)))).1.2.2.2.2.2.2) :: [])))))))) :: ((AV.bool true) :: [])))) ((Ob.arr (Ty.pair Ty.str Ty.str) 0 false (rmP rq false false).1.2.2.2.2.2.1) :: ((Ob.arr (Ty.pair Ty.str Ty.str) 0 false (rmP an true (decide ((rmP rq false false).1.1 = ([72, 69, 65, 68] : Bytes)))).1.2.2.2.2.2.1) :: [])))))))))))) Br.fail)))))
def sL10_br (sd t1 t2 : Int) (ur rq an : Bytes) : Br := (Br.ite (!(decide (sd = 0))) (Br.ite (!(decide (sd = 1))) (sL10_c1 sd t1 t2 ur rq an) (sL10_c2 sd t1 t2 ur rq an)) (sL10_c2 sd t1 t2 ur rq an))
def sL10_s : List AV → List Ob → Br
  | [.agg [.int .i64 sd, .int .i64 t1, .int .i64 t2, .str ur, .str rq, .str an]], [] => sL10_br sd t1 t2 ur rq an
  | _, _ => .fail
theorem sL10_ok : Sound Kx 57 sL10_s := sound_br (C := sL10_C) (O := O0) Tryz.func57 (by kernel_rfl) fun args objs => by
  unfold sL10_s; split
  · exact .inr (by kernel_rfl)
  · exact .inl rfl

def iMess_C : SC := [⟨113, _, iSide_ok⟩, ⟨89, _, iTime_okQ⟩, ⟨114, _, iReq_ok⟩, ⟨115, _, iAns_ok⟩, ⟨116, _, iCanon_okQ⟩, ⟨117, _, iWrite_okQ⟩]
abbrev iMess_c1 (sd t1 t2 : Int) (ur rq an : Bytes) := (Br.ret (AV.tup ((AV.agg ((AV.str ([] : Bytes)) :: ((AV.str ([] : Bytes)) :: ((AV.int .i64 0) :: ((AV.str ([] : Bytes)) :: ((AV.bool false) :: ((AV.ref 0 0) :: ((AV.str ([] : Bytes)) :: [])))))))) :: ((AV.agg ((AV.str ([] : Bytes)) :: ((AV.str ([] : Bytes)) :: ((AV.int .i64 0) :: ((AV.str ([] : Bytes)) :: ((AV.bool false) :: ((AV.ref 1 0) :: ((AV.str ([] : Bytes)) :: [])))))))) :: ((AV.bool false) :: [])))) ((Ob.arr (Ty.pair Ty.str Ty.str) 0 false ([] : (List Fd))) :: ((Ob.arr (Ty.pair Ty.str Ty.str) 0 false ([] : (List Fd))) :: [])))
abbrev iMess_c2 (sd t1 t2 : Int) (ur rq an : Bytes) := (Br.ite (!(timB t1)) (iMess_c1 sd t1 t2 ur rq an) (Br.ite (!(timB t2)) (iMess_c1 sd t1 t2 ur rq an) (Br.ite (decide (t2 < t1)) (iMess_c1 sd t1 t2 ur rq an) (Br.ite (!(decide ((rmP rq false false).2 = 0))) (iMess_c1 sd t1 t2 ur rq an) (Br.ite (isM (rmP rq false false).1.2.1) (Br.ite (!(decide ((rmP an true (decide ((rmP rq false false).1.1 = ([72, 69, 65, 68] : Bytes)))).2 = 0))) (Br.ite (!(decide ((rmP an true (decide ((rmP rq false false).1.1 = ([72, 69, 65, 68] : Bytes)))).2 = 0))) (Br.ite (!(decide ((rmP an true (decide ((rmP rq false false).1.1 = ([72, 69, 65, 68] : Bytes)))).2 = 0))) (iMess_c1 sd t1 t2 ur rq an) Br.fail) Br.fail) (Br.ite (!(decide ((rmP an true (decide ((rmP rq false false).1.1 = ([72, 69, 65, 68] : Bytes)))).2 = 0))) (Br.ite (!(decide ((rmP an true (decide ((rmP rq false false).1.1 = ([72, 69, 65, 68] : Bytes)))).2 = 0))) (iMess_c1 sd t1 t2 ur rq an) Br.fail) (Br.ite (!(decide ((rmP an true (decide ((rmP rq false false).1.1 = ([72, 69, 65, 68] : Bytes)))).2 = 0))) (iMess_c1 sd t1 t2 ur rq an) (Br.ite (!(canonP (rmP rq false false).1.2.1).2) (Br.ite (!(canonP (rmP rq false false).1.2.1).2) (Br.ite (!(canonP (rmP rq false false).1.2.1).2) (Br.ite (!(canonP (rmP rq false false).1.2.1).2) (Br.ite (!(canonP (rmP rq false false).1.2.1).2) (iMess_c1 sd t1 t2 ur rq an) Br.fail) Br.fail) Br.fail) (Br.ite (!(canonP (rmP rq false false).1.2.1).2) (Br.ite (!(canonP (rmP rq false false).1.2.1).2) (Br.ite (!(canonP (rmP rq false false).1.2.1).2) (iMess_c1 sd t1 t2 ur rq an) Br.fail) Br.fail) (Br.ite (!(canonP (rmP rq false false).1.2.1).2) (Br.ite (!(canonP (rmP rq false false).1.2.1).2) (iMess_c1 sd t1 t2 ur rq an) Br.fail) Br.fail))) (Br.ite (!(canonP (rmP rq false false).1.2.1).2) (Br.ite (!(canonP (rmP rq false false).1.2.1).2) (Br.ite (!(canonP (rmP rq false false).1.2.1).2) (Br.ite (!(canonP (rmP rq false false).1.2.1).2) (iMess_c1 sd t1 t2 ur rq an) Br.fail) Br.fail) Br.fail) (Br.ite (!(canonP (rmP rq false false).1.2.1).2) (Br.ite (!(canonP (rmP rq false false).1.2.1).2) (Br.ite (!(canonP (rmP rq false false).1.2.1).2) (iMess_c1 sd t1 t2 ur rq an) Br.fail) Br.fail) (Br.ite (!(canonP (rmP rq false false).1.2.1).2) (Br.ite (!(canonP (rmP rq false false).1.2.1).2) (iMess_c1 sd t1 t2 ur rq an) Br.fail) (Br.ite (!(canonP (rmP rq false false).1.2.1).2) (iMess_c1 sd t1 t2 ur rq an) (Br.ite (!(decide ((canonP (rmP rq false false).1.2.1).1 = ur))) (Br.ite (!(decide ((canonP (rmP rq false false).1.2.1).1 = ur))) (Br.ite (!(decide ((canonP (rmP rq false false).1.2.1).1 = ur))) (Br.ite (!(decide ((canonP (rmP rq false false).1.2.1).1 = ur))) (Br.ite (!(decide ((canonP (rmP rq false false).1.2.1).1 = ur))) (Br.ite (!(decide ((canonP (rmP rq false false).1.2.1).1 = ur))) (iMess_c1 sd t1 t2 ur rq an) Br.fail) Br.fail) Br.fail) (Br.ite (!(decide ((canonP (rmP rq false false).1.2.1).1 = ur))) (Br.ite (!(decide ((canonP (rmP rq false false).1.2.1).1 = ur))) (Br.ite (!(decide ((canonP (rmP rq false false).1.2.1).1 = ur))) (iMess_c1 sd t1 t2 ur rq an) Br.fail) Br.fail) (Br.ite (!(decide ((canonP (rmP rq false false).1.2.1).1 = ur))) (Br.ite (!(decide ((canonP (rmP rq false false).1.2.1).1 = ur))) (iMess_c1 sd t1 t2 ur rq an) Br.fail) Br.fail))) Br.fail) (Br.ite (!(decide ((canonP (rmP rq false false).1.2.1).1 = ur))) (Br.ite (!(decide ((canonP (rmP rq false false).1.2.1).1 = ur))) (Br.ite (!(decide ((canonP (rmP rq false false).1.2.1).1 = ur))) (Br.ite (!(decide ((canonP (rmP rq false false).1.2.1).1 = ur))) (Br.ite (!(decide ((canonP (rmP rq false false).1.2.1).1 = ur))) (iMess_c1 sd t1 t2 ur rq an) Br.fail) Br.fail) Br.fail) (Br.ite (!(decide ((canonP (rmP rq false false).1.2.1).1 = ur))) (Br.ite (!(decide ((canonP (rmP rq false false).1.2.1).1 = ur))) (Br.ite (!(decide ((canonP (rmP rq false false).1.2.1).1 = ur))) (iMess_c1 sd t1 t2 ur rq an) Br.fail) Br.fail) (Br.ite (!(decide ((canonP (rmP rq false false).1.2.1).1 = ur))) (Br.ite (!(decide ((canonP (rmP rq false false).1.2.1).1 = ur))) (iMess_c1 sd t1 t2 ur rq an) Br.fail) Br.fail))) (Br.ite (!(decide ((canonP (rmP rq false false).1.2.1).1 = ur))) (Br.ite (!(decide ((canonP (rmP rq false false).1.2.1).1 = ur))) (Br.ite (!(decide ((canonP (rmP rq false false).1.2.1).1 = ur))) (Br.ite (!(decide ((canonP (rmP rq false false).1.2.1).1 = ur))) (iMess_c1 sd t1 t2 ur rq an) Br.fail) Br.fail) Br.fail) (Br.ite (!(decide ((canonP (rmP rq false false).1.2.1).1 = ur))) (Br.ite (!(decide ((canonP (rmP rq false false).1.2.1).1 = ur))) (Br.ite (!(decide ((canonP (rmP rq false false).1.2.1).1 = ur))) (iMess_c1 sd t1 t2 ur rq an) Br.fail) Br.fail) (Br.ite (!(decide ((canonP (rmP rq false false).1.2.1).1 = ur))) (Br.ite (!(decide ((canonP (rmP rq false false).1.2.1).1 = ur))) (iMess_c1 sd t1 t2 ur rq an) Br.fail) (Br.ite (!(decide ((canonP (rmP rq false false).1.2.1).1 = ur))) (iMess_c1 sd t1 t2 ur rq an) (Br.ite (!(decide ((writeP ((rmP an true (decide ((rmP rq false false).1.1 = ([72, 69, 65, 68] : Bytes)))).1.1, ((rmP an true (decide ((rmP rq false false).1.1 = ([72, 69, 65, 68] : Bytes)))).1.2.1, ((rmP an true (decide ((rmP rq false false).1.1 = ([72, 69, 65, 68] : Bytes)))).1.2.2.1, ((rmP an true (decide ((rmP rq false false).1.1 = ([72, 69, 65, 68] : Bytes)))).1.2.2.2.1, ((rmP an true (decide ((rmP rq false false).1.1 = ([72, 69, 65, 68] : Bytes)))).1.2.2.2.2.1, ((rmP an true (decide ((rmP rq false false).1.1 = ([72, 69, 65, 68] : Bytes)))).1.2.2.2.2.2.1, (rmP an true (decide ((rmP rq false false).1.1 = ([72, 69, 65, 68] : Bytes)))).1.2.2.2.2.2.2))))))) = an))) (iMess_c1 sd t1 t2 ur rq an) (Br.ret (AV.tup ((AV.agg ((AV.str (rmP rq false false).1.1) :: ((AV.str (rmP rq false false).1.2.1) :: ((AV.int .i64 (rmP rq false false).1.2.2.1) :: ((AV.str (rmP rq false false).1.2.2.2.1) :: ((AV.bool (rmP rq false false).1.2.2.2.2.1) :: ((AV.ref 0 0) :: ((AV.str (rmP rq false false).1.2.2.2.2.2.2) :: [])))))))) :: ((AV.agg ((AV.str (rmP an true (decide ((rmP rq false false).1.1 = ([72, 69, 65, 68] : Bytes)))).1.1) :: ((AV.str (rmP an true (decide ((rmP rq false false).1.1 = ([72, 69, 65, 68] : Bytes)))).1.2.1) :: ((AV.int .i64 (rmP an true (decide ((rmP rq false false).1.1 = ([72, 69, 65, 68] : Bytes)))).1.2.2.1) :: ((AV.str (rmP an true (decide ((rmP rq false false).1.1 = ([72, 69, 65, 68] : Bytes)))).1.2.2.2.1) :: ((AV.bool (rmP an true (decide ((rmP rq false false).1.1 = ([72, 69, 65, 68] : Bytes)))).1.2.2.2.2.1) :: ((AV.ref 1 0) :: ((AV.str (rmP an true (decide ((rmP rq false false).1.1 = ([72, 69, 65, 68] : Bytes)))).1.2.2.2.2.2.2) :: [])))))))) :: ((AV.bool true) :: [])))) ((Ob.arr (Ty.pair Ty.str Ty.str) 0 false (rmP rq false false).1.2.2.2.2.2.1) :: ((Ob.arr (Ty.pair Ty.str Ty.str) 0 false (rmP an true (decide ((rmP rq false false).1.1 = ([72, 69, 65, 68] : Bytes)))).1.2.2.2.2.2.1) :: [])))))))))))))))))) Br.fail)))))
def iMess_br (sd t1 t2 : Int) (ur rq an : Bytes) : Br := (Br.ite (decide (sd = 0)) (iMess_c2 sd t1 t2 ur rq an) (Br.ite (!(decide (sd = 1))) (iMess_c1 sd t1 t2 ur rq an) (iMess_c2 sd t1 t2 ur rq an)))
def iMess_s : List AV → List Ob → Br
  | [.agg [.int .i64 sd, .int .i64 t1, .int .i64 t2, .str ur, .str rq, .str an]], [] => iMess_br sd t1 t2 ur rq an
  | _, _ => .fail
theorem iMess_ok : Sound Kx 61 iMess_s := sound_br (C := iMess_C) (O := O0) Tryz.func61 (by kernel_rfl) fun args objs => by
  unfold iMess_s; split
  · exact .inr (by kernel_rfl)
  · exact .inl rfl

end
end Go.Proofs.YtdknaddanjpdaaaGreatDoor.Ev

namespace Go.Proofs.YtdknaddanjpdaaaGreatDoor.Ev
open Go Go.RowKit
set_option linter.unusedVariables false
set_option linter.unusedSimpArgs false
noncomputable section
theorem rm_ok {s : Bytes} {an he : Bool} (h : (rmP s an he).2 = 0) : msgOkP (rmP s an he).1.1 (rmP s an he).1.2.1 (rmP s an he).1.2.2.1 (rmP s an he).1.2.2.2.1 (rmP s an he).1.2.2.2.2.1 (rmP s an he).1.2.2.2.2.2.1 (rmP s an he).1.2.2.2.2.2.2 = true := by
  unfold rmP at h ⊢
  by_cases c : (rhP s an).2.2 = 0
  · rw [decide_eq_true c] at h ⊢
    generalize (rhP s an).1 = x at h ⊢
    generalize (an && (he || isBar x.2.2.1)) = b at h ⊢
    generalize frP x.2.2.2.2.2.1 an b = fr at h ⊢
    generalize cut s _ _ = r at h ⊢
    simp only [Bool.not_true, cond_false] at h ⊢
    unfold rmB at h ⊢
    by_cases c2 : (bdP r fr.1 fr.2).2 = 0
    · rw [decide_eq_true c2] at h ⊢
      simp only [Bool.not_true, cond_false] at h ⊢
      cases g : msgOkP x.1 x.2.1 x.2.2.1 x.2.2.2.1 b (kpM x.2.2.2.2.2.1) (bdP r fr.1 fr.2).1
      · rw [g] at h; exact absurd h (show ¬ (431 : Int) = 0 by decide)
      · simp only [Bool.not_true, cond_false]; exact g
    · rw [decide_eq_false c2] at h; exact absurd h c2
  · rw [decide_eq_false c] at h; exact absurd h c
theorem rm_tgt {s : Bytes} {an he : Bool} (h : (rmP s an he).2 = 0) : isM (rmP s an he).1.2.1 = true := by
  obtain ⟨h1, _, _⟩ := msgOk_more (rm_ok h)
  unfold hdG at h1
  simp only [Bool.and_eq_true, decide_eq_true_eq] at h1
  exact decide_eq_true (by omega)
def exN (rq an : Bytes) : Mg × Int := rmP an true (decide ((rmP rq false false).1.1 = [72, 69, 65, 68]))
def exOk (sd t1 t2 : Int) (ur rq an : Bytes) : Bool :=
  (decide (sd = 0) || decide (sd = 1)) && (timB t1 && (timB t2 && (!decide (t2 < t1) && (decide ((rmP rq false false).2 = 0) && ((canonP (rmP rq false false).1.2.1).2 && (decide ((canonP (rmP rq false false).1.2.1).1 = ur) && (decide ((exN rq an).2 = 0) && decide (writeP (exN rq an).1 = an))))))))
def exQ (sd t1 t2 : Int) (ur rq an : Bytes) : Mg := bif exOk sd t1 t2 ur rq an then (rmP rq false false).1 else mg0
def exA (sd t1 t2 : Int) (ur rq an : Bytes) : Mg := bif exOk sd t1 t2 ur rq an then (exN rq an).1 else mg0
def mgR1 (m : Mg) : AV := .agg [.str m.1, .str m.2.1, .int .i64 m.2.2.1, .str m.2.2.2.1, .bool m.2.2.2.2.1, .ref 1 0, .str m.2.2.2.2.2.2]
def exR (sd t1 t2 : Int) (ur rq an : Bytes) : AV := .tup [mgR (exQ sd t1 t2 ur rq an), mgR1 (exA sd t1 t2 ur rq an), .bool (exOk sd t1 t2 ur rq an)]
def exOb (sd t1 t2 : Int) (ur rq an : Bytes) : List Ob := [.arr (.pair .str .str) 0 false (exQ sd t1 t2 ur rq an).2.2.2.2.2.1, .arr (.pair .str .str) 0 false (exA sd t1 t2 ur rq an).2.2.2.2.2.1]
theorem sL10_val (sd t1 t2 : Int) (ur rq an : Bytes) : (sL10_br sd t1 t2 ur rq an).val = some (exR sd t1 t2 ur rq an, exOb sd t1 t2 ur rq an) := by
  unfold sL10_br exR exOb exQ exA exOk exN sL10_c2 sL10_c1
  have hg : (rmP rq false false).2 = 0 → isM (rmP rq false false).1.2.1 = true := rm_tgt
  revert hg
  generalize rmP rq false false = q
  generalize rmP an true (decide (q.1.1 = ([72, 69, 65, 68] : Bytes))) = a
  generalize decide (sd = 0) = b1
  generalize decide (sd = 1) = b2
  generalize timB t1 = b3
  generalize timB t2 = b4
  generalize decide (t2 < t1) = b5
  intro hg
  by_cases c6 : q.2 = 0
  · rw [decide_eq_true c6, hg c6]
    generalize (canonP q.1.2.1).2 = b7
    generalize decide ((canonP q.1.2.1).1 = ur) = b8
    generalize decide (a.2 = 0) = b9
    generalize decide (writeP _ = an) = b10
    cases b1 <;> cases b2 <;> cases b3 <;> cases b4 <;> cases b5 <;> first | rfl | (cases b7 <;> first | rfl | (cases b8 <;> first | rfl | (cases b9 <;> first | rfl | (cases b10 <;> rfl))))
  · rw [decide_eq_false c6]
    cases b1 <;> cases b2 <;> cases b3 <;> cases b4 <;> cases b5 <;> rfl
theorem iMess_val (sd t1 t2 : Int) (ur rq an : Bytes) : (iMess_br sd t1 t2 ur rq an).val = some (exR sd t1 t2 ur rq an, exOb sd t1 t2 ur rq an) := by
  unfold iMess_br exR exOb exQ exA exOk exN iMess_c2 iMess_c1
  have hg : (rmP rq false false).2 = 0 → isM (rmP rq false false).1.2.1 = true := rm_tgt
  revert hg
  generalize rmP rq false false = q
  generalize rmP an true (decide (q.1.1 = ([72, 69, 65, 68] : Bytes))) = a
  generalize decide (sd = 0) = b1
  generalize decide (sd = 1) = b2
  generalize timB t1 = b3
  generalize timB t2 = b4
  generalize decide (t2 < t1) = b5
  intro hg
  by_cases c6 : q.2 = 0
  · rw [decide_eq_true c6, hg c6]
    generalize (canonP q.1.2.1).2 = b7
    generalize decide ((canonP q.1.2.1).1 = ur) = b8
    generalize decide (a.2 = 0) = b9
    generalize decide (writeP _ = an) = b10
    cases b1 <;> cases b2 <;> cases b3 <;> cases b4 <;> cases b5 <;> first | rfl | (cases b9 <;> cases b7 <;> first | rfl | (cases b8 <;> first | rfl | (cases b10 <;> rfl)))
  · rw [decide_eq_false c6]
    cases b1 <;> cases b2 <;> cases b3 <;> cases b4 <;> cases b5 <;> rfl
def ex_s : List AV → List Ob → Br
  | [.agg [.int .i64 sd, .int .i64 t1, .int .i64 t2, .str ur, .str rq, .str an]], [] => .ret (exR sd t1 t2 ur rq an) (exOb sd t1 t2 ur rq an)
  | _, _ => .fail
theorem sL10_okQ : Sound Kx 57 ex_s := sL10_ok.of fun args objs r h => by
  unfold ex_s at h; split at h
  · exact (sL10_val _ _ _ _ _ _).trans h
  · cases h
theorem iMess_okQ : Sound Kx 61 ex_s := iMess_ok.of fun args objs r h => by
  unfold ex_s at h; split at h
  · exact (iMess_val _ _ _ _ _ _).trans h
  · cases h
end
end Go.Proofs.YtdknaddanjpdaaaGreatDoor.Ev
