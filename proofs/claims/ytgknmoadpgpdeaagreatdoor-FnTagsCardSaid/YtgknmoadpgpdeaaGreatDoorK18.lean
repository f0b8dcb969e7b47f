/- The texts Head, HeadS, Mz, Ma, Mb, Qg, Mc, Md, Me, Mf, one behind the other. -/
import Derived.Test.YtgknmoadpgpdeaaGreatDoorK14
import Derived.Test.YtgknmoadpgpdeaaGreatDoorK16
import Derived.Test.YtgknmoadpgpdeaaGreatDoorK17
import Derived.Deep.Cut
import Derived.Deep.CutRange
import Derived.Deep.RegionWith
import Derived.Lib.ItoaLen
import Derived.Test.YtgknmoadpgpdeaaGreatDoorK13
namespace Go.Proofs.YtgknmoadpgpdeaaGreatDoor.Ev
open Go.Shelf Go.RowKit Go
set_option linter.unusedVariables false

def bs (l : Bytes) : ByteArray := ⟨l.toArray⟩
theorem bs_size (l : Bytes) : (bs l).size = l.length := by simp [bs, ByteArray.size]
noncomputable def firstP (me ta : Bytes) (st : Int) (re : Bytes) : Bytes :=
  bif decide (me = []) then [72, 84, 84, 80, 47, 49, 46, 49, 32] ++ decD st ++ [32] ++ re ++ [13, 10] else me ++ [32] ++ ta ++ [32, 72, 84, 84, 80, 47, 49, 46, 49] ++ [13, 10]

theorem itoa_calls (st : Int) (h : num15 st = true) (w : World) (htab : Tab10 w) : Calls Tryz.prog 232 #[.int .i64 st] w fun e w' => e = .returned (.string (bs (decD st))) ∧ Below w.heap.size w w' := by
  simp only [num15, Bool.and_eq_true, decide_eq_true_eq] at h
  refine (Tryz.strconv_Itoa st (by omega) (by omega) w htab).mono ?_
  rintro e w' ⟨rfl, k, os, rfl⟩
  refine ⟨?_, below_draws w k os⟩
  rw [decD_eq]; unfold Lib.itoa bs; rw [if_neg (by omega)]
def Fresh (b : Nat) (w : World) : Prop := w.heap[b]? = some (.cells #[.pointer none, .slice none 0 0] 186 (0, 0))
theorem Fresh.is {b : Nat} {w : World} (h : Fresh b w) : Lib.IsBuilderF 186 5 b b [] w :=
  .inl ⟨Nat.le_refl _, _, h, World.ownsRowF_nil w b _ 1, by simp [Value.ownBlock]⟩
theorem Fresh.below {b : Nat} {w w' : World} (h : Fresh b w) (hb : Below w.heap.size w w') : Fresh b w' := by
  unfold Fresh at *
  have : b < w.heap.size := by
    rcases Nat.lt_or_ge b w.heap.size with h' | h'
    · exact h'
    · rw [Array.getElem?_eq_none h'] at h; cases h
  rw [hb.block b this]; exact h
theorem tab_below {w w' : World} {B : Nat} (hB : gN ≤ B) (h : Tab10 w) (hb : Below B w w') : Tab10 w' := by
  unfold Tab10 Lib.TabIs World.var? at *
  cases hg : Tryz.prog.globalNamed "internal/strconv.uint64pow10" with
  | none => rw [hg] at h; cases h
  | some g =>
    have hlt := named_lt hg
    rw [hg] at h
    simp only [Option.bind_some] at h ⊢
    rw [hb.block g (Nat.lt_of_lt_of_le hlt hB)]
    exact h
theorem decD_len (st : Int) (h : num15 st = true) : (decD st).length ≤ 21 := by
  simp only [num15, Bool.and_eq_true, decide_eq_true_eq] at h
  have := Lib.itoa_length_le st (by omega) (by omega)
  unfold Lib.itoa at this
  rw [if_neg (by omega)] at this
  rw [decD_eq]; exact this

theorem bs_app (a b : Bytes) : bs a ++ bs b = bs (a ++ b) := by unfold bs; rw [ByteArray.mk_append_mk]
theorem bs_nil (l : Bytes) : (bs l).toList.isEmpty = decide (l = []) := by cases l <;> simp [bs]
theorem firstP_len (me ta : Bytes) (st : Int) (re : Bytes) (h1 : me.length ≤ 20) (h2 : ta.length ≤ 200) (h3 : re.length ≤ 40) (h : num15 st = true) : (firstP me ta st re).length ≤ 300 := by
  have := decD_len st h
  unfold firstP
  cases decide (me = []) <;> simp <;> omega
theorem firstA (me ta : Bytes) (st : Int) (re : Bytes) (h : (!(bs me).toList.isEmpty) = true) : bs me ++ ⟨#[32]⟩ ++ bs ta ++ ⟨#[32, 72, 84, 84, 80, 47, 49, 46, 49]⟩ ++ ⟨#[13, 10]⟩ = bs (firstP me ta st re) := by
  rw [bs_nil] at h
  simp only [Bool.not_eq_true', decide_eq_false_iff_not] at h
  unfold firstP
  rw [decide_eq_false h, cond_false]
  show bs me ++ bs [32] ++ bs ta ++ bs [32, 72, 84, 84, 80, 47, 49, 46, 49] ++ bs [13, 10] = _
  simp only [bs_app]
theorem firstB (me ta : Bytes) (st : Int) (re : Bytes) (h : (!(bs me).toList.isEmpty) = false) : ⟨#[72, 84, 84, 80, 47, 49, 46, 49, 32]⟩ ++ bs (decD st) ++ ⟨#[32]⟩ ++ bs re ++ ⟨#[13, 10]⟩ = bs (firstP me ta st re) := by
  rw [bs_nil] at h
  simp only [Bool.not_eq_false', decide_eq_true_eq] at h
  unfold firstP
  rw [decide_eq_true h, cond_true]
  show bs [72, 84, 84, 80, 47, 49, 46, 49, 32] ++ bs (decD st) ++ bs [32] ++ bs re ++ bs [13, 10] = _
  simp only [bs_app]
def Holds (w : World) (p : Obj) (l : Bytes) (wx : World) : Prop :=
  Lib.IsBuilderF 186 5 (w.heap.size + 1) (w.heap.size + 1) (Lib.byteCells l) wx ∧ Below w.heap.size w wx ∧ w.heap.size + 2 ≤ wx.heap.size ∧ wx.heap[w.heap.size]? = some p
theorem Holds.of {w W w2 : World} {p : Obj} {l : Bytes} {s : ByteArray} (hW : Below w.heap.size w W) (hs : w.heap.size + 2 ≤ W.heap.size) (hp : W.heap[w.heap.size]? = some p) (l0 : Bytes) (he : s = bs l)
    (hB : Lib.BuilderAtF 186 5 (w.heap.size + 1) (w.heap.size + 1) (.pointer (some ⟨w.heap.size + 1, 0, none⟩)) (Lib.byteCells l0 ++ Lib.strCells s) w2) (bB : Below (w.heap.size + 1) W w2) : Holds w p (l0 ++ l) w2 := by
  subst he
  refine ⟨.inr ?_, hW.trans (bB.mono (by omega)), by have := bB.size; omega, by rw [bB.block _ (by omega)]; exact hp⟩
  rw [Lib.byteCells_append]; exact hB
theorem Holds.alloc {w wx : World} {p : Obj} {l : Bytes} (h : Holds w p l wx) (X : Obj) : Holds w p l (wx.alloc X) :=
  ⟨h.1.alloc X, h.2.1.alloc (by have := h.2.2.1; omega) X, by have := h.2.2.1; simp; omega, by rw [heap_alloc_old _ _ (by have := h.2.2.1; omega)]; exact h.2.2.2⟩

theorem Holds.below {w wx w' : World} {p : Obj} {l : Bytes} (h : Holds w p l wx) (hb : Below wx.heap.size wx w') : Holds w p l w' := by
  obtain ⟨h1, h2, h3, h4⟩ := h
  have hg : ∀ row, wx.grownBy w' row := fun row => ⟨hb.os, hb.tape, hb.output, hb.size, fun k hk _ => hb.block k hk⟩
  have kept : ∀ v n xs, wx.ownsRowF (w.heap.size + 1) 5 1 v n xs → w'.ownsRowF (w.heap.size + 1) 5 1 v n xs := fun v n xs ho => by
    cases hv : v.ownBlock with
    | none => exact ho.kept (hg none) (.inl hv)
    | some q => exact ho.kept (hg none) (.inr (by rw [hv]; exact fun e => by cases e))
  have one : ∀ q, Lib.BuilderAtF 186 5 (w.heap.size + 1) (w.heap.size + 1) q (Lib.byteCells l) wx → Lib.BuilderAtF 186 5 (w.heap.size + 1) (w.heap.size + 1) q (Lib.byteCells l) w' := by
    rintro q ⟨g1, v, g2, g3, g4⟩
    exact ⟨g1, v, by rw [hb.block _ (by omega)]; exact g2, kept _ _ _ g3, g4⟩
  exact ⟨h1.imp (one _) (one _), h2.trans (hb.mono (by omega)), by have := hb.size; omega, by rw [hb.block _ (by omega)]; exact h4⟩
noncomputable def clP (me : Bytes) (ba : Bool) (bo : Bytes) : Bytes :=
  bif (!decide (me = []) && !decide (bo = [])) || (decide (me = []) && !ba) then [67, 111, 110, 116, 101, 110, 116, 45, 76, 101, 110, 103, 116, 104, 58, 32] ++ decD (bo.length : Int) ++ [13, 10] else []
theorem clP_no (me : Bytes) (ba : Bool) (bo : Bytes) (h : ((!decide (me = []) && !decide (bo = [])) || (decide (me = []) && !ba)) = false) : clP me ba bo = [] := by unfold clP; rw [h]; rfl
theorem clP_yes (me : Bytes) (ba : Bool) (bo : Bytes) (h : ((!decide (me = []) && !decide (bo = [])) || (decide (me = []) && !ba)) = true) : bs (clP me ba bo) = ⟨#[67, 111, 110, 116, 101, 110, 116, 45, 76, 101, 110, 103, 116, 104, 58, 32]⟩ ++ bs (decD ((bs bo).size : Int)) ++ ⟨#[13, 10]⟩ := by
  unfold clP; rw [h, cond_true, bs_size]
  show _ = bs [67, 111, 110, 116, 101, 110, 116, 45, 76, 101, 110, 103, 116, 104, 58, 32] ++ bs (decD (bo.length : Int)) ++ bs [13, 10]
  simp only [bs_app]
def lineP (f : Fd) : Bytes := fTextP f ++ [13, 10]
def linesP : List Fd → Bytes
  | [] => []
  | f :: r => lineP f ++ linesP r
theorem linesP_snoc : ∀ (l : List Fd) (f : Fd), linesP (l ++ [f]) = linesP l ++ lineP f
  | [], f => by simp [linesP]
  | g :: r, f => by simp only [List.cons_append, linesP, linesP_snoc r f, List.append_assoc]
theorem linesP_take (l : List Fd) (k : Nat) (h : k < l.length) : linesP (l.take (k + 1)) = linesP (l.take k) ++ lineP (l[k]'h) := by
  rw [List.take_succ_eq_append_getElem h, linesP_snoc]
theorem linesP_len : ∀ (l : List Fd), (∀ f ∈ l, fdOk f = true) → (linesP l).length ≤ 300 * l.length
  | [], _ => by simp [linesP]
  | f :: r, h => by
    have h1 := fdOk_len (h f (List.mem_cons_self ..))
    have h2 := linesP_len r fun g hg => h g (List.mem_cons_of_mem _ hg)
    simp only [linesP, lineP, fTextP, List.length_append, List.length_cons, List.length_nil]; omega

noncomputable def headP (me ta : Bytes) (st : Int) (re : Bytes) (ba : Bool) (l : List Fd) (bo : Bytes) : Bytes := firstP me ta st re ++ linesP l ++ clP me ba bo ++ [13, 10]

set_option maxHeartbeats 4000000 in
set_option maxRecDepth 1000000 in
theorem head_walk (me ta re bo : Bytes) (st : Int) (ba : Bool) (l : List Fd) (a : Option Addr) (cp : Nat) (w : World) (htab : Tab10 w) (hgn : gN ≤ w.heap.size) (hl : l.length ≤ 20) (hf : ∀ f ∈ l, fdOk f = true)
    (hc : ∀ i (h : i < l.length), ∃ b o, a = some ⟨b, o, none⟩ ∧ w.cell? ⟨b, o + i * 2, none⟩ = some (.string (bs (l[i]).1)) ∧ w.cell? ⟨b, o + i * 2 + 1, none⟩ = some (.string (bs (l[i]).2)))
    (h1 : me.length ≤ 20) (h2 : ta.length ≤ 200) (h3 : re.length ≤ 40) (h4 : bo.length ≤ 600) (h5 : num15 st = true) :
    Calls Tryz.prog 177 #[.agg #[.string (bs me), .string (bs ta), .int .i64 st, .string (bs re), .bool ba, .slice a l.length cp, .string (bs bo)]] w fun e w' => e = .returned (.string (bs (headP me ta st re ba l bo))) ∧ Below w.heap.size w w' := by
  let P : Obj := .cells #[.string (bs me), .string (bs ta), .int .i64 st, .string (bs re), .bool ba, .slice a l.length cp, .string (bs bo)] 43
  have s1 : (bs me).size ≤ 20 := by rw [bs_size]; exact h1
  have s2 : (bs ta).size ≤ 200 := by rw [bs_size]; exact h2
  have s3 : (bs re).size ≤ 40 := by rw [bs_size]; exact h3
  have s4 : (bs bo).size ≤ 600 := by rw [bs_size]; exact h4
  have s5 : (bs (decD st)).size ≤ 21 := by rw [bs_size]; exact decD_len st h5
  have sF : (bs (firstP me ta st re)).size ≤ 300 := by rw [bs_size]; exact firstP_len me ta st re h1 h2 h3 h5
  go_enter Tryz.func177, Tryz.ntmps177
  go_upto_if 8 with fail
  go_cut [] from 6 to 66 (fun wx => Holds w (.cells #[.string (bs me), .string (bs ta), .int .i64 st, .string (bs re), .bool ba, .slice a l.length cp, .string (bs bo)] 43) (firstP me ta st re) wx)
  case first =>
    have fresh : ∀ X : Obj, Fresh (w.heap.size + 1) ((w.alloc X).alloc (.cells #[.pointer none, .slice none 0 0] 186)) := fun X => by
      unfold Fresh
      have e : w.heap.size + 1 = (w.alloc X).heap.size := by simp
      rw [e]
      exact heap_alloc_new _ _
    have grown : ∀ X Y : Obj, Below w.heap.size w ((w.alloc X).alloc Y) := fun X Y => ((Below.refl _ w).alloc (Nat.le_refl _) X).alloc (by simp) Y
    have par2 : ∀ X Y : Obj, ((w.alloc X).alloc Y).heap[w.heap.size]? = some X := fun X Y => by rw [heap_alloc_old _ _ (by simp)]; exact heap_alloc_new _ _
    have size2 : ∀ X Y : Obj, w.heap.size + 2 ≤ ((w.alloc X).alloc Y).heap.size := fun X Y => by simp
    go_wp2_with (go_at_call 231; refine (Tryz.bld_write (w.heap.size + 1) (w.heap.size + 1) [] _ _ (fresh _).is ?hl ?hB).mono ?_)
    · rename_i hc _ _
      rw [firstA me ta st re hc]
      simp only [List.length_nil]; omega
    · simp
    · rename_i hc _ _
      rw [firstA me ta st re hc]
      rintro e w1 ⟨rfl, hB1, bB1, _⟩
      have hH := Holds.of (l := firstP me ta st re) (grown _ _) (size2 _ _) (par2 _ _) [] rfl hB1 bB1
      go_wp2_with fail
      go_meet
      case rel => exact hH
    · rename_i hc
      have growD : ∀ X Y : Obj, Below w.heap.size w ((w.alloc X).alloc Y).drew := fun X Y => Below.drew (grown X Y)
      have sizeD : ∀ X Y : Obj, w.heap.size + 2 ≤ ((w.alloc X).alloc Y).drew.heap.size := size2
      have freshD : ∀ X : Obj, Fresh (w.heap.size + 1) ((w.alloc X).alloc (.cells #[.pointer none, .slice none 0 0] 186)).drew := fresh
      have parD : ∀ X Y : Obj, ((w.alloc X).alloc Y).drew.heap[w.heap.size]? = some X := par2
      have eB := firstB me ta st re hc
      go_region_with (first
        | (go_at_call 232; refine (itoa_calls st h5 _ (tab_below hgn htab (growD _ _))).mono ?_; rintro e w1 ⟨rfl, hb1⟩; have g3 : w1.cell? ⟨w.heap.size, 3, none⟩ = some (.string (bs re)) := ((hb1.cell (p := ⟨w.heap.size, 3, none⟩) (Nat.lt_of_lt_of_le (by simp only; omega) (sizeD _ _))).trans (by rw [Lib.cell_of_heap (parD _ _)]; rfl)); have g7 : w1.heap[w.heap.size]? = _ := (hb1.block _ (Nat.lt_of_lt_of_le (by omega) (sizeD _ _))).trans (parD _ _); have g4 : Fresh (w.heap.size + 1) w1 := (freshD _).below hb1; have g5 : Below w.heap.size w w1 := (growD _ _).trans (hb1.mono (Nat.le_trans (Nat.le_add_right _ 2) (sizeD _ _))); have g6 : w.heap.size + 2 ≤ w1.heap.size := Nat.le_trans (sizeD _ _) hb1.size; clear hb1)
        | (go_at_call 231; refine (Tryz.bld_write (w.heap.size + 1) (w.heap.size + 1) [] _ _ (Fresh.is (by assumption)) (by simp only [List.length_nil]; omega) (by omega)).mono ?_; rintro e w2 ⟨rfl, hB1, bB1, _⟩; have hH := Holds.of (l := firstP me ta st re) g5 g6 g7 [] rfl hB1 bB1))
      all_goals (go_wp2_with fail; go_meet; exact hH)
  case rest =>
    have hp := hcut.2.2.2
    have c5 : wc.cell? ⟨w.heap.size, 5, none⟩ = some (.slice a l.length cp) := by rw [Lib.cell_of_heap hp]; rfl
    go_wp2_with fail
    go_loopw [31] (fun i wr => ∃ k : Nat, k ≤ l.length ∧ i = .int .i64 k ∧ Holds w (.cells #[.string (bs me), .string (bs ta), .int .i64 st, .string (bs re), .bool ba, .slice a l.length cp, .string (bs bo)] 43) (firstP me ta st re ++ linesP (l.take k)) wr) (fun i _ => l.length - (intOf i).toNat)
    case atStart => exact ⟨0, Nat.zero_le _, rfl, by simpa [linesP] using hcut⟩
    case round =>
      obtain ⟨k, hk, rfl, hI⟩ := hrel
      by_cases hlt : k < l.length
      · obtain ⟨b, o, rfl, g1, g2⟩ := hc k hlt
        have hbb : b < w.heap.size := World.block_lt_of_cell? w ⟨b, o + k * 2, none⟩ g1
        have q1 : wr.cell? ⟨b, o + k * 2, none⟩ = _ := (hI.2.1.cell (p := ⟨b, o + k * 2, none⟩) hbb).trans g1
        have q2 : wr.cell? ⟨b, o + k * 2 + 1, none⟩ = _ := (hI.2.1.cell (p := ⟨b, o + k * 2 + 1, none⟩) hbb).trans g2
        have z := fdOk_len (hf _ (List.getElem_mem hlt))
        have z1 : (bs (l[k]).1).size ≤ 40 := by rw [bs_size]; exact z.1
        have z2 : (bs (l[k]).2).size ≤ 190 := by rw [bs_size]; exact z.2
        have eL : bs (l[k]).1 ++ ⟨#[58, 32]⟩ ++ bs (l[k]).2 ++ ⟨#[13, 10]⟩ = bs (lineP (l[k])) := by
          show bs (l[k]).1 ++ bs [58, 32] ++ bs (l[k]).2 ++ bs [13, 10] = _
          simp only [bs_app, lineP, fTextP, List.append_assoc]; rfl
        have hb2 := fun X Y => (hI.alloc X).alloc Y
        have hb3 : ∀ X Y : Obj, w.heap.size + 1 ≤ ((wr.alloc X).alloc Y).heap.size := fun X Y => by have := (hb2 X Y).2.2.1; omega
        have hn : (Lib.byteCells (firstP me ta st re ++ linesP (l.take k))).length + (bs (lineP (l[k]))).size ≤ 140737488355328 := by
          have y1 := firstP_len me ta st re h1 h2 h3 h5
          have y2 := linesP_len (l.take k) fun f hf' => hf f (List.mem_of_mem_take hf')
          have y3 : (l.take k).length ≤ 20 := Nat.le_trans (List.length_take_le _ _) (by omega)
          rw [Lib.byteCells_length, bs_size, List.length_append]
          have y4 : (lineP (l[k])).length ≤ 300 := by simp only [lineP, fTextP, List.length_append, List.length_cons, List.length_nil]; omega
          omega
        go_wp2_with (first
          | (go_at_call 231; refine (Tryz.bld_write (w.heap.size + 1) (w.heap.size + 1) _ _ _ (hb2 _ _).1 hn (hb3 _ _)).mono ?_)
          | go_in)
        rintro e w1 ⟨rfl, hB1, bB1, _⟩
        have hH := Holds.of (l := lineP (l[k])) (hb2 _ _).2.1 (hb2 _ _).2.2.1 (hb2 _ _).2.2.2 _ rfl hB1 bB1
        clear eL hb2 hb3 hn
        go_wp2_with fail
        go_roundw
        case rel => exact ⟨k + 1, by omega, by go_num, by rw [linesP_take l k hlt, ← List.append_assoc]; exact hH⟩
        case measure => simp [intOf]; omega
      · have hkl : k = l.length := by omega
        subst hkl
        rw [List.take_length] at hI
        have hp := hI.2.2.2
        have d0 : wr.cell? ⟨w.heap.size, 0, none⟩ = some (.string (bs me)) := by rw [Lib.cell_of_heap hp]; rfl
        have d4 : wr.cell? ⟨w.heap.size, 4, none⟩ = some (.bool ba) := by rw [Lib.cell_of_heap hp]; rfl
        have d6 : wr.cell? ⟨w.heap.size, 6, none⟩ = some (.string (bs bo)) := by rw [Lib.cell_of_heap hp]; rfl
        have hT : Tab10 wr := tab_below hgn htab hI.2.1
        have hN : num15 ((bs bo).size : Int) = true := by simp only [num15, Bool.and_eq_true, decide_eq_true_eq]; omega
        have s6 : (bs (decD ((bs bo).size : Int))).size ≤ 21 := by rw [bs_size]; exact decD_len _ hN
        have hL : (firstP me ta st re ++ linesP l).length ≤ 6300 := by
          have y1 := firstP_len me ta st re h1 h2 h3 h5
          have y2 := linesP_len l hf
          rw [List.length_append]; omega
        have hI2 := hI
        go_upto_region 10 with fail
        go_cut [57] from 40 to 66 (fun v wx => v = .bool ((!decide (me = []) && !decide (bo = [])) || (decide (me = []) && !ba)) ∧ Holds w (.cells #[.string (bs me), .string (bs ta), .int .i64 st, .string (bs re), .bool ba, .slice a l.length cp, .string (bs bo)] 43) (firstP me ta st re ++ linesP l) wx)
        case first =>
          have e1 := bs_nil me
          have e2 := bs_nil bo
          cases hm : decide (me = []) <;> cases hb : decide (bo = []) <;> cases ba <;> rw [hm] at e1 <;> rw [hb] at e2
          all_goals
            go_wp2_with fail
            go_meet
            exact ⟨by rw [hm, hb]; rfl, hI2⟩
        case rest =>
          obtain ⟨rfl, hJ⟩ := hcut
          have hT := tab_below hgn htab hJ.2.1
          have hp2 := hJ.2.2.2
          have d6 : wc.cell? ⟨w.heap.size, 6, none⟩ = some (.string (bs bo)) := by rw [Lib.cell_of_heap hp2]; rfl
          cases hq : (!decide (me = []) && !decide (bo = [])) || (decide (me = []) && !ba)
          · have hcl := clP_no me ba bo hq
            have hl9 : headP me ta st re ba l bo = firstP me ta st re ++ linesP l ++ [13, 10] := by rw [headP, hcl, List.append_nil]
            go_wp2_with (go_at_call 234; refine (Tryz.bld_string (w.heap.size + 1) (w.heap.size + 1) _ _ hJ.1 (by have := hJ.2.2.1; omega)).mono ?_)
            rintro e w2 ⟨rfl, hB2, bB2, _⟩
            have y1 := firstP_len me ta st re h1 h2 h3 h5
            have y2 := linesP_len l hf
            go_wp2_with fail
            go_ret
            exact ⟨by rw [hl9, ← bs_app]; rfl, hJ.2.1.trans (bB2.mono (by have := hJ.2.2.1; omega))⟩
          · have eW := clP_yes me ba bo hq
            have sW : (bs (clP me ba bo)).size ≤ 60 := by
              rw [eW]
              have g1 : (⟨#[67, 111, 110, 116, 101, 110, 116, 45, 76, 101, 110, 103, 116, 104, 58, 32]⟩ : ByteArray).size = 16 := rfl
              have g2 : (⟨#[13, 10]⟩ : ByteArray).size = 2 := rfl
              rw [ByteArray.size_append, ByteArray.size_append, g1, g2]; omega
            have y1 := firstP_len me ta st re h1 h2 h3 h5
            have y2 := linesP_len l hf
            have y3 : (clP me ba bo).length ≤ 60 := by rw [← bs_size]; exact sW
            have sN : (Lib.byteCells (firstP me ta st re ++ linesP l)).length + (bs (clP me ba bo)).size ≤ 140737488355328 := by rw [Lib.byteCells_length]; omega
            go_wp2_with (first
              | (go_at_call 232; refine (itoa_calls _ hN _ hT).mono ?_; rintro e w1 ⟨rfl, hb1⟩; have hI1 := hJ.below hb1; clear hb1)
              | (go_at_call 231; refine (Tryz.bld_write (w.heap.size + 1) (w.heap.size + 1) _ _ _ hI1.1 (by rw [← eW]; exact sN) (by have := hI1.2.2.1; omega)).mono ?_; rintro e w2 ⟨rfl, hB1, bB1, _⟩; have hH := Holds.of (l := clP me ba bo) hI1.2.1 hI1.2.2.1 hI1.2.2.2 _ eW.symm hB1 bB1)
              | (go_at_call 234; refine (Tryz.bld_string (w.heap.size + 1) (w.heap.size + 1) _ _ hH.1 (by have := hH.2.2.1; omega)).mono ?_; rintro e w3 ⟨rfl, hB2, bB2, _⟩))
            go_ret
            exact ⟨by rw [headP, ← bs_app]; simp only [List.append_assoc]; rfl, hH.2.1.trans (bB2.mono (by have := hH.2.2.1; omega))⟩

def hdG (me ta : Bytes) (st : Int) (re : Bytes) (fs : List Fd) (bo : Bytes) : Bool := decide (me.length ≤ 20) && decide (ta.length ≤ 200) && num15 st && decide (re.length ≤ 40) && fdsOk fs && decide (bo.length ≤ 600)
noncomputable def head_s : List AV → List Ob → Br
  | [.agg [.str me, .str ta, .int .i64 st, .str re, .bool ba, .sh (.pair .str .str) fs, .str bo]], [] => .ite (hdG me ta st re fs bo) (.ret (.str (headP me ta st re ba fs bo)) []) .fail
  | _, _ => .fail
theorem head_okQ : Sound Kx 177 head_s := by
  refine sound_calls Tryz.func177 (by kernel_rfl) rfl fun args objs res objs' hv w L vs hR hr => ?_
  unfold head_s at hv
  split at hv
  case h_2 => cases hv
  rename_i me ta st re ba fs bo
  obtain ⟨h1, h2⟩ := ite_some hv
  cases h2
  simp only [hdG, Bool.and_eq_true, decide_eq_true_eq] at h1
  obtain ⟨⟨⟨⟨⟨g1, g2⟩, g3⟩, g4⟩, g5⟩, g6⟩ := h1
  obtain ⟨g7, g8⟩ := fdsOk_mem g5
  have ht : Tab10 w := by
    rcases hR.g.1 with h | h
    · have := tab_there; rw [h] at this; cases this
    · exact h
  have hgn : gN ≤ w.heap.size := hR.gs
  refine ⟨rfl, ?_⟩
  simp only [rels, rel, rd] at hr
  obtain ⟨v, vs', rfl, ⟨cs, rfl, hcs, -⟩, rfl⟩ := hr
  obtain ⟨c1, r1, e1, rfl, c2, r2, rfl, rfl, c3, r3, rfl, rfl, c4, r4, rfl, rfl, c5, r5, rfl, rfl, c6, r6, rfl, ⟨a, n, cp, q1, rfl, q3, q4⟩, c7, r7, rfl, rfl, rfl⟩ := hcs
  obtain rfl : c6 = .slice a fs.length cp := by simpa using q1
  have hc : ∀ i (h : i < fs.length), ∃ b o, a = some ⟨b, o, none⟩ ∧ w.cell? ⟨b, o + i * 2, none⟩ = some (.string (bs (fs[i]).1)) ∧ w.cell? ⟨b, o + i * 2 + 1, none⟩ = some (.string (bs (fs[i]).2)) := by
    intro i h
    rcases q4 with rfl | ⟨b, o, rfl, q4⟩
    · cases h
    · obtain ⟨ds, _, ⟨d1, d2, rfl, rfl, rfl⟩, k3⟩ := q4 i h
      exact ⟨b, o, rfl, by have := (k3 0 (by decide)).1; exact this, by have := (k3 1 (by decide)).1; exact this⟩
  have := head_walk me ta re bo st ba fs a cp w ht hgn g7 g8 hc g1 g2 g4 g6 g3
  have e2 : cs = #[.string (bs me), .string (bs ta), .int .i64 st, .string (bs re), .bool ba, .slice a fs.length cp, .string (bs bo)] := by
    apply Array.toList_inj.1; rw [e1]; rfl
  subst e2
  refine this.mono ?_
  rintro e w' ⟨rfl, hb⟩
  exact ⟨_, rfl, hb, by simp only [rel]; rfl⟩
end Go.Proofs.YtgknmoadpgpdeaaGreatDoor.Ev

namespace Go.Proofs.YtgknmoadpgpdeaaGreatDoor.Ev
open Go Go.RowKit
end Go.Proofs.YtgknmoadpgpdeaaGreatDoor.Ev

namespace Go.Proofs.YtgknmoadpgpdeaaGreatDoor.Ev
open Go Go.RowKit
set_option linter.unusedVariables false
set_option linter.unusedSimpArgs false
noncomputable section

def iHas_C : SC := [⟨47, _, iValues_okQ⟩]
def iHas_br (l : List Fd) (name : Bytes) : Br := (Br.ite (isM name) (Br.ret (AV.bool (decide (0 < ((List.length (vals l name)) : Int)))) []) Br.fail)
def iHas_s : List AV → List Ob → Br
  | [.sh (.pair .str .str) l, .str name], [] => iHas_br l name
  | _, _ => .fail
theorem iHas_ok : Sound Kx 85 iHas_s := sound_br (C := iHas_C) (O := O0) Tryz.func85 (by kernel_rfl) fun args objs => by
  unfold iHas_s; split
  · exact .inr (by kernel_rfl)
  · exact .inl rfl

def iframed_br  : Br := (Br.ret (AV.ref 0 0) ((Ob.arr Ty.str 0 false (List.set (List.set (List.set (List.replicate 3 ([] : Bytes)) 0 ([99, 111, 110, 116, 101, 110, 116, 45, 108, 101, 110, 103, 116, 104] : Bytes)) 1 ([116, 114, 97, 110, 115, 102, 101, 114, 45, 101, 110, 99, 111, 100, 105, 110, 103] : Bytes)) 2 ([116, 114, 97, 105, 108, 101, 114] : Bytes))) :: []))
def iframed_s : List AV → List Ob → Br
  | [], [] => iframed_br 
  | _, _ => .fail
theorem iframed_ok : Sound Kx 171 iframed_s := sound_br (C := []) (O := O0) Tryz.func171 (by kernel_rfl) fun args objs => by
  unfold iframed_s; split
  · exact .inr (by kernel_rfl)
  · exact .inl rfl


def hasP (l : List Fd) (name : Bytes) : Bool := decide (0 < (vals l name).length)
def has2_s : List AV → List Ob → Br
  | [.sh (.pair .str .str) l, .str name], [] => .ite (isM name) (.ret (.bool (hasP l name)) []) .fail
  | _, _ => .fail
theorem iHas_okQ : Sound Kx 85 has2_s := iHas_ok.of fun args objs r h => by
  unfold has2_s at h
  split at h
  · rename_i l name
    obtain ⟨h1, h2⟩ := ite_some h
    cases h2
    show (iHas_br l name).val = _
    unfold iHas_br hasP
    refine (val_t h1).trans ?_
    simp only [Int.natCast_pos]
    rfl
  · cases h
def sGet2_s : List AV → List Ob → Br
  | [.sh (.pair .str .str) l, .str name], [] => .ite (isM name) (.ret (.tup [.str ((vals l name).getD 0 []), .bool (hasP l name)]) []) .fail
  | _, _ => .fail

def l1bend_C : SC := [⟨71, _, l1Below_okQ⟩, ⟨148, _, l1Byte_okQ⟩]
abbrev l1bend_c1 (s : List UInt8) (code : List Int) (i h : Int) := (Br.ite (decide ((belV (wk64 ((s.length : Int) + 1)) code i h) < (s.length : Int))) (Br.ite (decide (0 ≤ (belV (wk64 ((s.length : Int) + 1)) code i h))) (Br.ite (decide ((belV (wk64 ((s.length : Int) + 1)) code i h) < ((List.length (bytesOf s)) : Int))) (Br.ite (okC code (belI 4 code (belI (wk64 ((s.length : Int) + 1)) code i))) (Br.ite (!(decide ((belV 8 code (belI 4 code (belI (wk64 ((s.length : Int) + 1)) code i)) (belH 4 (belH (wk64 ((s.length : Int) + 1)) h))) < 0))) (Br.ite (decide (0 ≤ (belV (wk64 ((s.length : Int) + 1)) code i h))) (Br.ite (decide ((belV (wk64 ((s.length : Int) + 1)) code i h) < ((List.length (bytesOf s)) : Int))) (Br.ret (AV.str (ofBytes (List.set (bytesOf s) (Int.toNat (belV (wk64 ((s.length : Int) + 1)) code i h)) (wkk .u8 (((BitVec.toNat ((BitVec.ofInt 8 (List.getD (bytesOf s) (Int.toNat (belV (wk64 ((s.length : Int) + 1)) code i h)) 0)) ^^^ (BitVec.ofInt 8 (wk8 (1 * (2 ^ (min (Int.toNat (belV 8 code (belI 4 code (belI (wk64 ((s.length : Int) + 1)) code i)) (belH 4 (belH (wk64 ((s.length : Int) + 1)) h)))) 8))))))) : Nat) : Int))))) ((Ob.var ((AV.sh (Ty.int .u8) code) :: ((AV.int .i64 (belI 8 code (belI 4 code (belI (wk64 ((s.length : Int) + 1)) code i)))) :: ((AV.int .i64 (belH 8 (belH 4 (belH (wk64 ((s.length : Int) + 1)) h)))) :: [])))) :: [])) Br.fail) Br.fail) Br.fail) Br.fail) Br.fail) Br.fail) (Br.ite (decide ((s.length + 1) ≤ 9223372036854775807)) (Br.ret (AV.str (s ++ ([48] : Bytes))) ((Ob.var ((AV.sh (Ty.int .u8) code) :: ((AV.int .i64 (belI 4 code (belI (wk64 ((s.length : Int) + 1)) code i))) :: ((AV.int .i64 (belH 4 (belH (wk64 ((s.length : Int) + 1)) h))) :: [])))) :: [])) Br.fail))
abbrev l1bend_c2 (s : List UInt8) (code : List Int) (i h : Int) := (belV (wk64 ((s.length : Int) + 1)) code i h)
abbrev l1bend_c3 (s : List UInt8) (code : List Int) (i h : Int) := (ofBytes (List.set (List.replicate 1 0) 0 (wk8 (byteV code (belI 4 code (belI (wk64 ((s.length : Int) + 1)) code i)) (belH 4 (belH (wk64 ((s.length : Int) + 1)) h))))))
def l1bend_br (s : List UInt8) (code : List Int) (i h : Int) : Br := (Br.ite (okC code i) (Br.ite (okC code (belI (wk64 ((s.length : Int) + 1)) code i)) (Br.ite (decide ((belV 4 code (belI (wk64 ((s.length : Int) + 1)) code i) (belH (wk64 ((s.length : Int) + 1)) h)) = 0)) (Br.ite (decide (0 ≤ (l1bend_c2 s code i h))) (Br.ite (decide ((l1bend_c2 s code i h) ≤ (s.length : Int))) (Br.ite (okC code (belI 4 code (belI (wk64 ((s.length : Int) + 1)) code i))) (Br.ite (decide (((List.length (cut s 0 (l1bend_c2 s code i h))) + (List.length (l1bend_c3 s code i h))) ≤ 9223372036854775807)) (Br.ite (decide (0 ≤ (l1bend_c2 s code i h))) (Br.ite (decide ((l1bend_c2 s code i h) ≤ (s.length : Int))) (Br.ite (decide (((List.length ((cut s 0 (l1bend_c2 s code i h)) ++ (l1bend_c3 s code i h))) + (List.length (cut s (l1bend_c2 s code i h) (s.length : Int)))) ≤ 9223372036854775807)) (Br.ret (AV.str (((cut s 0 (l1bend_c2 s code i h)) ++ (l1bend_c3 s code i h)) ++ (cut s (l1bend_c2 s code i h) (s.length : Int)))) ((Ob.var ((AV.sh (Ty.int .u8) code) :: ((AV.int .i64 (byteI code (belI 4 code (belI (wk64 ((s.length : Int) + 1)) code i)))) :: ((AV.int .i64 (mix (belH 4 (belH (wk64 ((s.length : Int) + 1)) h)))) :: [])))) :: [])) Br.fail) Br.fail) Br.fail) Br.fail) Br.fail) Br.fail) Br.fail) (Br.ite (decide ((belV 4 code (belI (wk64 ((s.length : Int) + 1)) code i) (belH (wk64 ((s.length : Int) + 1)) h)) = 1)) (Br.ite (decide (0 ≤ (l1bend_c2 s code i h))) (Br.ite (decide ((l1bend_c2 s code i h) ≤ (s.length : Int))) (Br.ret (AV.str (cut s 0 (l1bend_c2 s code i h))) ((Ob.var ((AV.sh (Ty.int .u8) code) :: ((AV.int .i64 (belI 4 code (belI (wk64 ((s.length : Int) + 1)) code i))) :: ((AV.int .i64 (belH 4 (belH (wk64 ((s.length : Int) + 1)) h))) :: [])))) :: [])) Br.fail) Br.fail) (Br.ite (decide ((belV 4 code (belI (wk64 ((s.length : Int) + 1)) code i) (belH (wk64 ((s.length : Int) + 1)) h)) = 2)) (Br.ite (decide ((l1bend_c2 s code i h) < (s.length : Int))) (Br.ite (decide (0 ≤ (l1bend_c2 s code i h))) (Br.ite (decide ((l1bend_c2 s code i h) ≤ (s.length : Int))) (Br.ite (decide (0 ≤ (wk64 ((l1bend_c2 s code i h) + 1)))) (Br.ite (decide ((wk64 ((l1bend_c2 s code i h) + 1)) ≤ (s.length : Int))) (Br.ite (decide (((List.length (cut s 0 (l1bend_c2 s code i h))) + (List.length (cut s (wk64 ((l1bend_c2 s code i h) + 1)) (s.length : Int)))) ≤ 9223372036854775807)) (Br.ret (AV.str ((cut s 0 (l1bend_c2 s code i h)) ++ (cut s (wk64 ((l1bend_c2 s code i h) + 1)) (s.length : Int)))) ((Ob.var ((AV.sh (Ty.int .u8) code) :: ((AV.int .i64 (belI 4 code (belI (wk64 ((s.length : Int) + 1)) code i))) :: ((AV.int .i64 (belH 4 (belH (wk64 ((s.length : Int) + 1)) h))) :: [])))) :: [])) Br.fail) Br.fail) Br.fail) Br.fail) Br.fail) (l1bend_c1 s code i h)) (l1bend_c1 s code i h)))) Br.fail) Br.fail)
def l1bend_s : List AV → List Ob → Br
  | [.ptr 0 0, .str s], [.var [.sh (.int .u8) code, .int .i64 i, .int .i64 h]] => l1bend_br s code i h
  | _, _ => .fail
theorem l1bend_ok : Sound Kx 147 l1bend_s := sound_br (C := l1bend_C) (O := O0) Tryz.func147 (by kernel_rfl) fun args objs => by
  unfold l1bend_s; split
  · exact .inr (by kernel_rfl)
  · exact .inl rfl


def iMsgOk_O : Opt := { live := [(4, [1, 21, 22, 23])], outs := [(4, [1, 2])] }
def iMsgOk_C : SC := [⟨84, _, iFieldsOk_okQ⟩, ⟨171, _, iframed_ok⟩, ⟨85, _, iHas_okQ⟩, ⟨172, _, isMethod_okQ⟩, ⟨173, _, isTarget_okQ⟩, ⟨174, _, isStatus_okQ⟩, ⟨175, _, isReason_okQ⟩, ⟨176, _, isBareStatus_okQ⟩, ⟨177, _, head_okQ⟩]
def iMsgOk_T4 (v4x0 v4x1 : Int) (v4x2 v4x3 : Bytes) (v4x4 : Int) (v4x5 : Bytes) (v4x6 : Bool) (v4x7 : (List Fd)) (v4x8 : Bytes) (v4x9 : (List Bytes)) (kR4 : Int → Int → Bytes → Bytes → Int → Bytes → Bool → (List Fd) → Bytes → (List Bytes) → Option Rs) (k4e0 k4e1 : Bytes → Bytes → Int → Bytes → Bool → (List Fd) → Bytes → Option Rs) : Option Rs :=
  (bif (decide (v4x1 < v4x0)) then (bif (decide (0 ≤ v4x1)) then (bif (decide (v4x1 < (v4x9.length : Int))) then (bif (isM (List.getD v4x9 (Int.toNat v4x1) ([] : Bytes))) then (bif (hasP v4x7 (List.getD v4x9 (Int.toNat v4x1) ([] : Bytes))) then (k4e0 v4x2 v4x3 v4x4 v4x5 v4x6 v4x7 v4x8) else (kR4 v4x0 (wk64 (v4x1 + 1)) v4x2 v4x3 v4x4 v4x5 v4x6 v4x7 v4x8 v4x9)) else (none)) else (none)) else (none)) else (k4e1 v4x2 v4x3 v4x4 v4x5 v4x6 v4x7 v4x8))
def iMsgOk_F4 : Nat → Int → Int → Bytes → Bytes → Int → Bytes → Bool → (List Fd) → Bytes → (List Bytes) → (Bytes → Bytes → Int → Bytes → Bool → (List Fd) → Bytes → Option Rs) → (Bytes → Bytes → Int → Bytes → Bool → (List Fd) → Bytes → Option Rs) → Option Rs
  | 0, _, _, _, _, _, _, _, _, _, _, _, _ => none
  | n + 1, v4x0, v4x1, v4x2, v4x3, v4x4, v4x5, v4x6, v4x7, v4x8, v4x9, k4e0, k4e1 => iMsgOk_T4 v4x0 v4x1 v4x2 v4x3 v4x4 v4x5 v4x6 v4x7 v4x8 v4x9 (fun v4x0 v4x1 v4x2 v4x3 v4x4 v4x5 v4x6 v4x7 v4x8 v4x9 => iMsgOk_F4 n v4x0 v4x1 v4x2 v4x3 v4x4 v4x5 v4x6 v4x7 v4x8 v4x9 k4e0 k4e1) k4e0 k4e1
abbrev iMsgOk_p4 : SP := ⟨97, [1, 21, 22, 23], [(.v (.ptr 128 0)), (.v (.ref 1408 0)), (.v (.i .i64)), (.v (.i .i64))], [(128, .var [.s, .s, (.i .i64), .s, .b, (.sh (Ty.pair Ty.str Ty.str)), .s]), (1408, .arr Ty.str 0 false)]⟩
noncomputable def iMsgOk_b4 : Code := codeAt (codeOf Tryz.f101) [1, 1, 0, 1, 0, 0]
def iMsgOk_E4 (f : (Bytes → Bytes → Int → Bytes → Bool → (List Fd) → Bytes → Option Rs) → (Bytes → Bytes → Int → Bytes → Bool → (List Fd) → Bytes → Option Rs) → Option Rs) (k : KT) : Option Rs := f (fun x4x0x0 x4x0x1 x4x0x2 x4x0x3 x4x0x4 x4x0x5 x4x0x6 => k Ex.ret ((St.mk (slots 0 97 [(1, (AV.ptr 128 0)), (2, (AV.bool false))]) ((128, (Ob.var ((AV.str x4x0x0) :: ((AV.str x4x0x1) :: ((AV.int .i64 x4x0x2) :: ((AV.str x4x0x3) :: ((AV.bool x4x0x4) :: ((AV.sh (Ty.pair Ty.str Ty.str) x4x0x5) :: ((AV.str x4x0x6) :: []))))))))) :: ([] : (List (Nat × (Ob)))))))) (fun x4x1x0 x4x1x1 x4x1x2 x4x1x3 x4x1x4 x4x1x5 x4x1x6 => k (Ex.exit 0) ((St.mk (slots 0 97 [(1, (AV.ptr 128 0))]) ((128, (Ob.var ((AV.str x4x1x0) :: ((AV.str x4x1x1) :: ((AV.int .i64 x4x1x2) :: ((AV.str x4x1x3) :: ((AV.bool x4x1x4) :: ((AV.sh (Ty.pair Ty.str Ty.str) x4x1x5) :: ((AV.str x4x1x6) :: []))))))))) :: ([] : (List (Nat × (Ob))))))))
def iMsgOk_G4 (n : Nat) (d : iMsgOk_p4.D) : KT → Option Rs := iMsgOk_E4 (iMsgOk_F4 n d.1.2.2.1 d.1.2.2.2.1 d.2.1.1 d.2.1.2.1 d.2.1.2.2.1 d.2.1.2.2.2.1 d.2.1.2.2.2.2.1 d.2.1.2.2.2.2.2.1 d.2.1.2.2.2.2.2.2.1 d.2.2.1)
def iMsgOk_L (N : Nat) : Lam := lamOf [⟨4, iMsgOk_p4, iMsgOk_G4 N⟩]
theorem iMsgOk_ok4 (N : Nat) : OkL Kx iMsgOk_C.s iMsgOk_O 0 N (iMsgOk_L N) iMsgOk_b4 := okL iMsgOk_p4 (iMsgOk_G4) (fun d kR => iMsgOk_E4 (iMsgOk_T4 d.1.2.2.1 d.1.2.2.2.1 d.2.1.1 d.2.1.2.1 d.2.1.2.2.1 d.2.1.2.2.2.1 d.2.1.2.2.2.2.1 d.2.1.2.2.2.2.2.1 d.2.1.2.2.2.2.2.2.1 d.2.2.1 (fun v4x0 v4x1 v4x2 v4x3 v4x4 v4x5 v4x6 v4x7 v4x8 v4x9 => kR (((), (), v4x0, v4x1, ()), ((v4x2, v4x3, v4x4, v4x5, v4x6, v4x7, v4x8, ()), v4x9, ()))))) (fun _ _ => by kernel_rfl) (fun _ _ _ => by kernel_rfl) (fun _ _ => by kernel_rfl) (fun _ _ _ _ => by kernel_rfl) (okEach (l' := []) (by kernel_rfl) trivial)
def iMsgOk_run (N : Nat) (me ta : Bytes) (st : Int) (re : Bytes) (ba : Bool) (fs : List Fd) (bo : Bytes) : Option Rs := (bif (!(fdsOk fs)) then (some ((AV.bool false), [])) else (bif (decide (20 ≤ (fs.length : Int))) then (some ((AV.bool false), [])) else (bif (decide (600 < (bo.length : Int))) then (some ((AV.bool false), [])) else (iMsgOk_F4 N 3 0 me ta st re ba fs bo (List.set (List.set (List.set (List.replicate 3 ([] : Bytes)) 0 ([99, 111, 110, 116, 101, 110, 116, 45, 108, 101, 110, 103, 116, 104] : Bytes)) 1 ([116, 114, 97, 110, 115, 102, 101, 114, 45, 101, 110, 99, 111, 100, 105, 110, 103] : Bytes)) 2 ([116, 114, 97, 105, 108, 101, 114] : Bytes)) (fun x4x0x0 => (fun x4x0x1 => (fun x4x0x2 => (fun x4x0x3 => (fun x4x0x4 => (fun x4x0x5 => (fun x4x0x6 => (some ((AV.bool false), []))))))))) (fun x4x1x0 => (fun x4x1x1 => (fun x4x1x2 => (fun x4x1x3 => (fun x4x1x4 => (fun x4x1x5 => (fun x4x1x6 => (bif (!(decide (x4x1x0 = ([] : Bytes)))) then (bif (!(methodP x4x1x0)) then (some ((AV.bool false), [])) else (bif (!(targetP x4x1x1)) then (some ((AV.bool false), [])) else (bif (!(decide (x4x1x2 = 0))) then (some ((AV.bool false), [])) else (bif (!(decide (x4x1x3 = ([] : Bytes)))) then (some ((AV.bool false), [])) else (bif x4x1x4 then (some ((AV.bool false), [])) else (bif (hdG x4x1x0 x4x1x1 x4x1x2 x4x1x3 x4x1x5 x4x1x6) then (some ((AV.bool (decide (((List.length (headP x4x1x0 x4x1x1 x4x1x2 x4x1x3 x4x1x4 x4x1x5 x4x1x6)) : Int) ≤ 1500))), [])) else (none))))))) else (bif (!(decide (x4x1x1 = ([] : Bytes)))) then (some ((AV.bool false), [])) else (bif (!(isSta x4x1x2)) then (some ((AV.bool false), [])) else (bif (!(reasonP x4x1x3)) then (some ((AV.bool false), [])) else (bif x4x1x4 then (bif (!(decide (x4x1x6 = ([] : Bytes)))) then (some ((AV.bool false), [])) else (bif (isBar x4x1x2) then (bif (!x4x1x4) then (some ((AV.bool false), [])) else (bif (hdG x4x1x0 x4x1x1 x4x1x2 x4x1x3 x4x1x5 x4x1x6) then (some ((AV.bool (decide (((List.length (headP x4x1x0 x4x1x1 x4x1x2 x4x1x3 x4x1x4 x4x1x5 x4x1x6)) : Int) ≤ 1500))), [])) else (none))) else (bif (hdG x4x1x0 x4x1x1 x4x1x2 x4x1x3 x4x1x5 x4x1x6) then (some ((AV.bool (decide (((List.length (headP x4x1x0 x4x1x1 x4x1x2 x4x1x3 x4x1x4 x4x1x5 x4x1x6)) : Int) ≤ 1500))), [])) else (none)))) else (bif (isBar x4x1x2) then (bif (!x4x1x4) then (some ((AV.bool false), [])) else (bif (hdG x4x1x0 x4x1x1 x4x1x2 x4x1x3 x4x1x5 x4x1x6) then (some ((AV.bool (decide (((List.length (headP x4x1x0 x4x1x1 x4x1x2 x4x1x3 x4x1x4 x4x1x5 x4x1x6)) : Int) ≤ 1500))), [])) else (none))) else (bif (hdG x4x1x0 x4x1x1 x4x1x2 x4x1x3 x4x1x5 x4x1x6) then (some ((AV.bool (decide (((List.length (headP x4x1x0 x4x1x1 x4x1x2 x4x1x3 x4x1x4 x4x1x5 x4x1x6)) : Int) ≤ 1500))), [])) else (none)))))))))))))))))))
def iMsgOk_sOf (φ : Bytes → Bytes → Int → Bytes → Bool → (List Fd) → Bytes → Br) : List AV → List Ob → Br
  | [.agg [.str me, .str ta, .int .i64 st, .str re, .bool ba, .sh (.pair .str .str) fs, .str bo]], [] => φ me ta st re ba fs bo
  | _, _ => .fail
theorem iMsgOk_okOf {φ : Bytes → Bytes → Int → Bytes → Bool → (List Fd) → Bytes → Br} (fu : Bytes → Bytes → Int → Bytes → Bool → (List Fd) → Bytes → Nat) (hv : ∀ me ta st re ba fs bo res_, (φ me ta st re ba fs bo).val = some res_ → iMsgOk_run (fu me ta st re ba fs bo) me ta st re ba fs bo = some res_) : Sound Kx 101 (iMsgOk_sOf φ) := sound_lp (C := iMsgOk_C) (O := iMsgOk_O) Tryz.func101 (by kernel_rfl) fun args objs => by
  unfold iMsgOk_sOf; split
  · rename_i me ta st re ba fs bo; exact .inr fun _ hyp_ => run_lp (Λ := iMsgOk_L (fu me ta st re ba fs bo)) (by kernel_rfl) (okEach (l' := [iMsgOk_b4]) (by kernel_rfl) ⟨iMsgOk_ok4 _, trivial⟩) (by kernel_rfl) (hv me ta st re ba fs bo _ hyp_)
  · exact .inl rfl


theorem dle {a b : Nat} (h : a ≤ b) : decide (a ≤ b) = true := decide_eq_true h
def frmP (fs : List Fd) : Bool := hasP fs frC || hasP fs frT || hasP fs frR
def firstOk (me ta : Bytes) (st : Int) (re : Bytes) (ba : Bool) (bo : Bytes) : Bool := bif decide (me = []) then ansP ta st re ba bo else reqP me ta st re ba
def msgOkP (me ta : Bytes) (st : Int) (re : Bytes) (ba : Bool) (fs : List Fd) (bo : Bytes) : Bool :=
  fdsOk fs && !decide (20 ≤ (fs.length : Int)) && !decide (600 < (bo.length : Int)) && !frmP fs && firstOk me ta st re ba bo && decide (((headP me ta st re ba fs bo).length : Int) ≤ 1500)
theorem iMsgOk_loop (me ta re : Bytes) (st : Int) (ba : Bool) (fs : List Fd) (bo : Bytes) (k0 k1 : Bytes → Bytes → Int → Bytes → Bool → List Fd → Bytes → Option Rs) :
    iMsgOk_F4 4 3 0 me ta st re ba fs bo [frC, frT, frR] k0 k1 = bif frmP fs then k0 me ta st re ba fs bo else k1 me ta st re ba fs bo := by
  have e0 : wk64 (0 + 1) = 1 := by rw [w64 (by decide) (by decide)]; rfl
  have e1 : wk64 (1 + 1) = 2 := by rw [w64 (by decide) (by decide)]; rfl
  have e2 : wk64 (2 + 1) = 3 := by rw [w64 (by decide) (by decide)]; rfl
  have m0 : isM frC = true := isM_of (n := 20) (by decide)
  have m1 : isM frT = true := isM_of (n := 20) (by decide)
  have m2 : isM frR = true := isM_of (n := 20) (by decide)
  have l3 : ([frC, frT, frR] : List Bytes).length = 3 := rfl
  have t0 : ([frC, frT, frR] : List Bytes).getD (0 : Int).toNat [] = frC := rfl
  have t1 : ([frC, frT, frR] : List Bytes).getD (1 : Int).toNat [] = frT := rfl
  have t2 : ([frC, frT, frR] : List Bytes).getD (2 : Int).toNat [] = frR := rfl
  unfold frmP
  simp only [iMsgOk_F4, iMsgOk_T4, e0, e1, e2, t0, t1, t2, m0, m1, m2, l3, Int.reduceLT, Int.reduceLE, Int.ofNat_eq_natCast, Int.cast_ofNat_Int, decide_true, decide_false, cond_true, cond_false]
  cases hasP fs frC <;> cases hasP fs frT <;> cases hasP fs frR <;> rfl
theorem hdG_ok {me ta re bo : Bytes} {st : Int} {ba : Bool} {fs : List Fd} (hf : fdsOk fs = true) (hb : ¬ (600 < (bo.length : Int))) (h : firstOk me ta st re ba bo = true) : hdG me ta st re fs bo = true := by
  unfold firstOk at h
  simp only [hdG, Bool.and_eq_true, decide_eq_true_eq]
  by_cases hm : me = []
  · rw [decide_eq_true hm, cond_true] at h
    simp only [ansP, isSta, reasonP, Bool.and_eq_true, decide_eq_true_eq] at h
    subst hm
    obtain ⟨⟨⟨⟨rfl, hs⟩, hr, _⟩, _⟩, _⟩ := h
    exact ⟨⟨⟨⟨⟨by decide, by decide⟩, by simp only [num15, Bool.and_eq_true, decide_eq_true_eq]; omega⟩, hr⟩, hf⟩, by omega⟩
  · rw [decide_eq_false hm, cond_false] at h
    simp only [reqP, methodP, targetP, Bool.and_eq_true, decide_eq_true_eq] at h
    obtain ⟨⟨⟨⟨h1, h2⟩, rfl⟩, rfl⟩, _⟩ := h
    exact ⟨⟨⟨⟨⟨by omega, by omega⟩, by decide⟩, by decide⟩, hf⟩, by omega⟩
def mgOk_s : List AV → List Ob → Br := mg_s fun m => .bool (msgOkP m.1 m.2.1 m.2.2.1 m.2.2.2.1 m.2.2.2.2.1 m.2.2.2.2.2.1 m.2.2.2.2.2.2)
theorem iMsgOk_okQ : Sound Kx 101 mgOk_s := by
  refine (iMsgOk_okOf (φ := fun me ta st re ba fs bo => .ret (.bool (msgOkP me ta st re ba fs bo)) []) (fun _ _ _ _ _ _ _ => 4) fun me ta st re ba fs bo r h => ?_).of fun args objs r h => ?_
  · cases h
    unfold iMsgOk_run msgOkP
    have big : ∀ k0 k1, iMsgOk_F4 4 3 0 me ta st re ba fs bo (List.set (List.set (List.set (List.replicate 3 []) 0 [99, 111, 110, 116, 101, 110, 116, 45, 108, 101, 110, 103, 116, 104]) 1 [116, 114, 97, 110, 115, 102, 101, 114, 45, 101, 110, 99, 111, 100, 105, 110, 103]) 2 [116, 114, 97, 105, 108, 101, 114]) k0 k1 = _ := iMsgOk_loop me ta re st ba fs bo
    rw [big]
    cases hf : fdsOk fs
    · rfl
    cases h1 : decide (20 ≤ (fs.length : Int))
    case true => rfl
    cases h2 : decide (600 < (bo.length : Int))
    case true => rfl
    cases h3 : frmP fs
    case true => rfl
    have h2' := of_decide_eq_false h2
    simp only [Bool.not_true, Bool.not_false, cond_true, cond_false, Bool.true_and]
    have hg := fun h => hdG_ok (me := me) (ta := ta) (st := st) (re := re) (ba := ba) hf h2' h
    unfold firstOk reqP ansP at hg ⊢
    cases hm : decide (me = [])
    · rw [hm] at hg
      simp only [cond_false] at hg ⊢
      revert hg
      cases methodP me <;> cases targetP ta <;> cases decide (st = 0) <;> cases decide (re = []) <;> cases ba <;> intro hg <;> first | rfl | (rw [hg rfl]; rfl)
    · rw [hm] at hg
      simp only [cond_true] at hg ⊢
      revert hg
      cases decide (ta = []) <;> cases isSta st <;> cases reasonP re <;> cases decide (bo = []) <;> cases ba <;> cases isBar st <;> intro hg <;> first | rfl | (rw [hg rfl]; rfl)
  · unfold mgOk_s mg_s at h; split at h
    · exact h
    · cases h


end
end Go.Proofs.YtgknmoadpgpdeaaGreatDoor.Ev
