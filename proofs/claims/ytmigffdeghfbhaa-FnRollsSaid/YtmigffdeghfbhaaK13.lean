/- The texts Bld, BldAll, FnA, FnB, FnC, FnG, FnR, FnE, FnPr, one behind the other. -/
import Derived.Test.YtmigffdeghfbhaaK12
import Derived.Shelf.Strings.BuilderK
import Derived.BigCall
namespace Go.Proofs
open Go.Shelf Go.RowKit
set_option linter.unusedVariables false

set_option maxHeartbeats 1000000 in
set_option maxRecDepth 100000 in
theorem Try.bld_used (b : Nat) (w : World) (h0 : w.cell? ⟨b, 0, none⟩ = some (.pointer (some ⟨b, 0, none⟩))) :
    Calls Try.prog 45 #[.pointer (some ⟨b, 0, none⟩)] w fun e w' => e = .returned (.tuple #[]) ∧ w' = w := by
  have hs : (Try.prog.info? 65).map (·.size) = some 2 := by kernel_rfl
  obtain ⟨j, hj, _⟩ := Option.map_eq_some_iff.1 hs
  go_enter Try.func45, Try.ntmps45
  go_wp2
  rw [Lib.run_neq_ptr_same w _ Try.underlying63 hj]
  go_wp2
  go_end0
  exact ⟨rfl, rfl⟩

set_option maxHeartbeats 1000000 in
set_option maxRecDepth 100000 in
theorem Try.bld_fresh (b : Nat) (w : World) (h0 : w.cell? ⟨b, 0, none⟩ = some (.pointer none)) (hsh : w.shape? b = some (65, 2)) (hfz : w.frozen? ⟨b, 0, none⟩ = false) :
    Calls Try.prog 45 #[.pointer (some ⟨b, 0, none⟩)] w fun e w' => e = .returned (.tuple #[]) ∧ w' = w.setCell ⟨b, 0, none⟩ (.pointer (some ⟨b, 0, none⟩)) := by
  have hs : (Try.prog.info? 65).map (·.size) = some 2 := by kernel_rfl
  have hl : liesAt Try.prog Try.prog.depth 65 (2 / Try.prog.cellsOf 65) 0 65 1 = true := by kernel_rfl
  obtain ⟨j, hj, hjs⟩ := Option.map_eq_some_iff.1 hs
  go_enter Try.func45, Try.ntmps45
  go_wp2
  rw [Lib.run_to_unsafe w ⟨b, 0, none⟩ Try.underlying63 Try.underlying73 hj (by rw [hjs]; decide) hsh (Nat.zero_lt_succ 1)]
  simp only [Result.andThen]
  rw [Oper.upon_value]
  go_wp2
  rw [run_callFunc_extern Try.func46 (by kernel_rfl) (by kernel_rfl) (by kernel_rfl) (e := Extern.AbiNoEscape.same) (by kernel_rfl)]
  rw [Lib.run_noEscape]
  simp only [Result.andThen]
  rw [Oper.upon_value]
  go_wp2
  rw [Lib.run_from_unsafe w ⟨b, 0, none⟩ Try.underlying73 Try.underlying63 hj hsh hl]
  simp only [Result.andThen]
  rw [Oper.upon_value]
  go_wp2
  go_end0
  exact ⟨rfl, rfl⟩

theorem Try.bld_check (B b : Nat) (bs : List Value) (w : World) (h : Lib.IsBuilderF 65 5 B b bs w) :
    Calls Try.prog 45 #[.pointer (some ⟨b, 0, none⟩)] w fun e w' => e = .returned (.tuple #[]) ∧ (Lib.BuilderAtF 65 5 B b (.pointer (some ⟨b, 0, none⟩)) bs w' ∧ Below B w w' ∧ Lib.OthersKept 5 (some b) w w') := by
  rcases h with h | h
  · refine (Try.bld_fresh b w h.cell0 h.shape h.frozen0).mono ?_
    rintro e w' ⟨rfl, rfl⟩
    exact ⟨rfl, h.used _, (Below.refl B w).setCell (p := ⟨b, 0, none⟩) h.1 _, (Lib.OthersKept.refl _ _ w).setCell ⟨b, 0, none⟩ rfl _⟩
  · refine (Try.bld_used b w h.cell0).mono ?_
    rintro e w' ⟨rfl, rfl⟩
    exact ⟨rfl, h, Below.refl B _, Lib.OthersKept.refl _ _ _⟩

set_option maxHeartbeats 2000000 in
set_option maxRecDepth 100000 in
theorem Try.bld_write (B b : Nat) (bs : List Value) (s : ByteArray) (w : World) (h : Lib.IsBuilderF 65 5 B b bs w) (hlen : bs.length + s.size ≤ 140737488355328) (hBw : B ≤ w.heap.size) :
    Calls Try.prog 39 #[.pointer (some ⟨b, 0, none⟩), .string s] w fun e w' => e = .returned (.tuple #[.int .i64 s.size, .nilIface]) ∧ (Lib.BuilderAtF 65 5 B b (.pointer (some ⟨b, 0, none⟩)) (bs ++ Lib.strCells s) w' ∧ Below B w w' ∧ Lib.OthersKept 5 (some b) w w') := by
  have hinfo : (Try.prog.info? 5).map (fun i => (i.zero, i.size, i.bytes)) = some (some (.int .u8 0), 1, 1) := by kernel_rfl
  obtain ⟨i0, hi, hz0, hz1, hz2⟩ := info_parts hinfo
  go_enter Try.func39, Try.ntmps39
  go_wp2_with (go_at_call 45; refine (Try.bld_check B b bs _ h).mono ?_)
  rintro e w1 ⟨rfl, h1, hb1, hk1⟩
  obtain ⟨hB, v, hbk, hown, hne⟩ := h1
  have c0 : w1.cell? ⟨b, 0, none⟩ = some (.pointer (some ⟨b, 0, none⟩)) := by rw [Lib.cell_of_heap hbk]; rfl
  have c1 : w1.cell? ⟨b, 1, none⟩ = some v := by rw [Lib.cell_of_heap hbk]; rfl
  go_wp2_with (at_builtin; refine Lib.wpList_append_own_stringF _ rfl _ _ 22 9 rfl B 5 i0 Try.underlying22 Try.underlying9 hi hz0 hz1 hz2 _ _ _ rfl hown s rfl ?c3 ?c4 ?c5 ?_)
  case c3 => unfold maxLen; omega
  case c4 => omega
  case c5 => have := hb1.size; omega
  intro v' w2 hown' hgrow _
  have hlt : b < w1.heap.size := by
    rcases Nat.lt_or_ge b w1.heap.size with h' | h'
    · exact h'
    · simp [Array.getElem?_eq_none h'] at hbk
  have hb2 : w2.heap[b]? = some (.cells #[.pointer (some ⟨b, 0, none⟩), v] 65 (0, 0)) := by
    rw [hgrow.block b hlt (fun e => hne e.symm)]
    exact hbk
  have d0 : w2.cell? ⟨b, 0, none⟩ = some (.pointer (some ⟨b, 0, none⟩)) := by rw [Lib.cell_of_heap hb2]; rfl
  have d1 : w2.cell? ⟨b, 1, none⟩ = some v := by rw [Lib.cell_of_heap hb2]; rfl
  have f1 : w2.frozen? ⟨b, 1, none⟩ = false := Lib.frozen_of_heap hb2 1
  obtain ⟨ao, n', cap, rfl⟩ : ∃ ao n' cap, v' = .slice ao n' cap := by
    rcases hown'.2 with ⟨hv, _⟩ | ⟨g, cap, cur, fz, hv, _⟩
    · exact ⟨_, _, _, hv⟩
    · exact ⟨_, _, _, hv⟩
  go_wp2
  go_ret2
  refine ⟨rfl, ?_, ?_, (hk1.grown hgrow (Lib.ownsRowF_kind hown)).setCell ⟨b, 1, none⟩ rfl _⟩
  · exact Lib.BuilderAtF.put (T := 65) (e := 5) hB hb2 (bs' := bs ++ Lib.strCells s) (by simpa [Lib.strCells_length] using hown') (by decide)
  · exact (hb1.grown hgrow (by have := hb1.size; omega) (fun k hk => (hown.lt k hk).1)).setCell (p := ⟨b, 1, none⟩) hB _

def Try.bldRen : Go.Shelf.Ren := ⟨fun | 169 => 40 | n => n, fun | 70 => 63 | 9 => 9 | 0 => 0 | 72 => 65 | 37 => 22 | 127 => 72 | 3 => 3 | 5 => 5 | n => n, fun | n => n⟩
theorem Try.bldLays : Go.Proofs.Lays.n169 Try.prog Try.bldRen := {
  mixed := by kernel_rfl
  f169 := Try.func40.trans (congrArg some (by kernel_rfl))
  t0 := Try.underlying0
  a0 := Try.isAgg0
  z0 := Try.sizeOf0
  v0 := Try.zeroValue0
  t3 := Try.underlying3
  a3 := Try.isAgg3
  z3 := Try.sizeOf3
  v3 := Try.zeroValue3
  t9 := Try.underlying9
  a9 := Try.isAgg9
  z9 := Try.sizeOf9
  v9 := Try.zeroValue9
  t37 := Try.underlying22
  a37 := Try.isAgg22
  z37 := Try.sizeOf22
  v37 := Try.zeroValue22
  t70 := Try.underlying63
  a70 := Try.isAgg63
  z70 := Try.sizeOf63
  v70 := Try.zeroValue63
  t72 := Try.underlying65
  a72 := Try.isAgg65
  z72 := Try.sizeOf65
  v72 := Try.zeroValue65
  t127 := Try.underlying72
  a127 := Try.isAgg72
  z127 := Try.sizeOf72
  v127 := Try.zeroValue72 }
theorem Try.bldExtra : Builder.Extra Try.prog Try.bldRen := {
  sizeBuilder := by kernel_rfl
  liesBuilder := by kernel_rfl
  t5 := Try.underlying5
  a5 := Try.isAgg5
  z5 := Try.sizeOf5
  v5 := Try.zeroValue5
  infoByte := by kernel_rfl
  cellsByte := by kernel_rfl
  sizeByte := by kernel_rfl
  neB5 := by decide }
theorem Try.bld_string (B b : Nat) (l : List UInt8) (w : World) (h : Lib.IsBuilderF 65 5 B b (Lib.byteCells l) w) (hBw : B ≤ w.heap.size) :
    Calls Try.prog 40 #[.pointer (some ⟨b, 0, none⟩)] w fun e w' => e = .returned (.string ⟨l.toArray⟩) ∧ (Lib.IsBuilderF 65 5 B b (Lib.byteCells l) w' ∧ Below B w w' ∧ Lib.OthersKept 5 (some b) w w') := Any.Builder_String_any_k Try.bldLays Try.bldExtra B b l w h hBw

end Go.Proofs

namespace Go.Proofs.Ytmigffdeghfbhaa.Ev
open Go.Shelf Go.RowKit Go
set_option linter.unusedVariables false

theorem alloc_sz (w : World) (x : Obj) : (w.alloc x).heap.size = w.heap.size + 1 := by simp
theorem allB_snoc : ∀ (pre : Segs) (a : List UInt8 × Int), allB (pre ++ [a]) = allB pre ++ a.1
  | [], a => by simp [allB]
  | b :: r, a => by simp only [List.cons_append, allB, allB_snoc r a, List.append_assoc]
theorem allB_take (l : Segs) (k : Nat) (h : k < l.length) : allB (l.take (k + 1)) = allB (l.take k) ++ (l[k]'h).1 := by
  rw [List.take_succ_eq_append_getElem h, allB_snoc]
theorem total_take : ∀ (l : Segs) (k : Nat), total (l.take k) ≤ total l
  | [], k => by simp
  | a :: r, 0 => by simp [total]
  | a :: r, k + 1 => by simp only [List.take_succ_cons, total]; have := total_take r k; omega

set_option maxHeartbeats 4000000 in
set_option maxRecDepth 1000000 in
theorem all_walk (l : Segs) (hl : l.length ≤ 40) (ht : total l ≤ 60000) (a : Option Addr) (cp : Nat) (c : Int) (w : World)
    (hc : ∀ i (h : i < l.length), ∃ b o, a = some ⟨b, o, none⟩ ∧ w.cell? ⟨b, o + i * 2, none⟩ = some (.string ⟨(l[i]).1.toArray⟩) ∧ w.cell? ⟨b, o + i * 2 + 1, none⟩ = some (.int .i64 (l[i]).2)) :
    Calls Try.prog 29 #[.agg #[.slice a l.length cp, .int .i64 c]] w fun e w' => e = .returned (.string ⟨(allB l).toArray⟩) ∧ Below w.heap.size w w' := by
  go_enter Try.func29, Try.ntmps29
  go_wp2
  go_loopw [9] (fun i wr => ∃ k : Nat, k ≤ l.length ∧ i = .int .i64 k ∧ Lib.IsBuilderF 65 5 (w.heap.size + 1) (w.heap.size + 1) (Lib.byteCells (allB (l.take k))) wr ∧ Below w.heap.size w wr ∧ w.heap.size + 2 ≤ wr.heap.size) (fun i _ => l.length - (intOf i).toNat)
  case atStart =>
    refine ⟨0, Nat.zero_le _, rfl, ?_, ((Below.refl _ w).alloc (Nat.le_refl _) _).alloc (by simp) _, by simp⟩
    have e : w.heap.size + 1 = (w.alloc (Obj.cells #[Value.slice a l.length cp, Value.int IntKind.i64 c] 25)).heap.size := by simp
    rw [e]
    exact Lib.IsBuilderF.of (Lib.fresh_isBuilder 65 5 _)
  case round =>
    obtain ⟨k, hk, rfl, hI, hb, hsz⟩ := hrel
    by_cases hlt : k < l.length
    · obtain ⟨b, o, rfl, h1, h2⟩ := hc k hlt
      have hbb : b < w.heap.size := World.block_lt_of_cell? w ⟨b, o + k * 2, none⟩ h1
      have g1 : wr.cell? ⟨b, o + k * 2, none⟩ = _ := (hb.cell (p := ⟨b, o + k * 2, none⟩) hbb).trans h1
      have g2 : wr.cell? ⟨b, o + k * 2 + 1, none⟩ = _ := (hb.cell (p := ⟨b, o + k * 2 + 1, none⟩) hbb).trans h2
      have e1 := allB_take l k hlt
      have e2 := total_take l (k + 1)
      rw [← allB_len, e1, List.length_append] at e2
      go_wp2_with (go_at_call 39; refine (Try.bld_write (w.heap.size + 1) (w.heap.size + 1) _ ⟨(l[k]).1.toArray⟩ _ (hI.alloc _) ?_ ?_).mono ?_)
      · rw [Lib.byteCells_length]
        show _ + (l[k]).1.toArray.size ≤ _
        simp only [List.size_toArray]; omega
      · simp only [alloc_sz]; omega
      · rintro e w1 ⟨rfl, hB1, bB1, _⟩
        have sz1 := bB1.size
        go_wp2
        go_roundw
        case rel =>
          refine ⟨k + 1, by omega, by go_num, ?_, (hb.alloc (by omega) _).trans (bB1.mono (by omega)), by simp only [alloc_sz] at sz1; omega⟩
          rw [e1, Lib.byteCells_append]
          exact Or.inr hB1
        case measure => simp [intOf]; omega
    · have hkl : k = l.length := by omega
      subst hkl
      rw [List.take_length] at hI
      go_wp2_with (go_at_call 40; refine (Try.bld_string (w.heap.size + 1) (w.heap.size + 1) (allB l) _ hI (by omega)).mono ?_)
      rintro e w1 ⟨rfl, _, bB1, _⟩
      go_wp2
      go_ret
      exact ⟨rfl, hb.trans (bB1.mono (by omega))⟩

/-- allBytes, as a spec. -/
def allQ_s : List AV → List Ob → Br
  | [.agg [.sh (.pair .str (.int .i64)) l, .int .i64 c]], [] => .ite (decide (l.length ≤ 40) && decide (total l ≤ 60000)) (.ret (.str (allB l)) []) .fail
  | _, _ => .fail
theorem all_okQ : Sound Kx 29 allQ_s := by
  refine sound_calls Try.func29 (by kernel_rfl) rfl fun args objs res objs' hv w L vs hR hr => ?_
  unfold allQ_s at hv
  split at hv
  case h_2 => cases hv
  rename_i l c
  obtain ⟨h1, h2⟩ := ite_some hv
  simp only [Bool.and_eq_true, decide_eq_true_eq] at h1
  cases h2
  refine ⟨rfl, ?_⟩
  simp only [rels, rel] at hr
  obtain ⟨v, vs', rfl, ⟨cs, rfl, ⟨v1, c1, hcs, hsl, v2, c2, rfl, rfl, rfl⟩, _⟩, rfl⟩ := hr
  obtain ⟨a, n, cp, hv1, hn, _, hcell⟩ := hsl
  cases hv1
  subst hn
  have hcs' : cs = #[.slice a l.length cp, .int .i64 c] := by cases cs; simp_all
  subst hcs'
  refine (all_walk l h1.1 h1.2 a cp c w fun i hi => ?_).mono ?_
  · rcases hcell with rfl | ⟨b, o, rfl, hc⟩
    · simp at hi
    · obtain ⟨ds, hd1, hd2, hd3⟩ := hc i hi
      obtain ⟨d1, d2, rfl, e1, e2⟩ := hd2
      simp only [rd] at e1 e2
      subst e1 e2
      have z : Ty.size (.pair .str (.int .i64)) = 2 := rfl
      have q0 := (hd3 0 (by rw [z]; omega)).1
      have q1 := (hd3 1 (by rw [z]; omega)).1
      rw [z] at q0 q1
      exact ⟨b, o, rfl, by simpa using q0, by simpa using q1⟩
  · rintro e w' ⟨rfl, hb⟩
    exact ⟨_, rfl, hb, by simp [rel]⟩

end Go.Proofs.Ytmigffdeghfbhaa.Ev

namespace Go.Proofs.Ytmigffdeghfbhaa.Ev
open Go Go.RowKit
set_option linter.unusedVariables false
set_option linter.unusedSimpArgs false
noncomputable section

/-! impl.AllBytes -/
def iAll_O : Opt := { cons := [], keepNil := false, mutF := [], live := [], outs := [] }
def iAll_C : Spec := (add (add noS 25 iOk_s) 29 allQ_s)
theorem iAll_C_ok : ∀ fn, Sound Kx fn (iAll_C fn) := (sound_add (sound_add (sound_no Kx) iOk_ok) all_okQ)
def iAll_br (l : List (List UInt8 × Int)) (c : Int) : Br := (Br.ite (smS l) (Br.ite (!(okStore l c)) (Br.ret (AV.str ([] : (List UInt8))) ([] : (List (Ob)))) (Br.ite ((decide ((List.length l) ≤ (40 : Nat))) && (decide ((total l) ≤ (60000 : Nat)))) (Br.ret (AV.str (allB l)) ([] : (List (Ob)))) Br.fail)) Br.fail)
theorem iAll_run (l : List (List UInt8 × Int)) (c : Int) : runF Kx iAll_C iAll_O 1 Try.f10 ([.agg [.sh (.pair .str (.int .i64)) l, .int .i64 c]]) ([]) = (iAll_br l c).val := by kernel_rfl
def iAll_s : List AV → List Ob → Br
  | [.agg [.sh (.pair .str (.int .i64)) l, .int .i64 c]], [] => iAll_br l c
  | _, _ => .fail
theorem iAll_ok : Sound Kx 10 iAll_s := by
  refine sound_run (C := iAll_C) (O := iAll_O) KOk iAll_C_ok Try.func10 (by kernel_rfl) fun args objs res os h => ?_
  unfold iAll_s at h
  split at h
  · exact ⟨1, (iAll_run _ _).trans h⟩
  · cases h

/-! impl.Loose -/
def iLoose_O : Opt := { cons := [], keepNil := false, mutF := [], live := [], outs := [] }
def iLoose_C : Spec := (add (add noS 25 iOk_s) 30 last_s)
theorem iLoose_C_ok : ∀ fn, Sound Kx fn (iLoose_C fn) := (sound_add (sound_add (sound_no Kx) iOk_ok) last_ok)
def iLoose_br (l : List (List UInt8 × Int)) (c : Int) : Br := (Br.ite (smS l) (Br.ite (!(okStore l c)) (Br.ret (AV.int .i64 (-(1 : Int))) ([] : (List (Ob)))) (Br.ite (decide ((0 : Int) ≤ (wk64 (((List.length l) : Int) - (1 : Int))))) (Br.ite (decide ((wk64 (((List.length l) : Int) - (1 : Int))) < ((List.length l) : Int))) (Br.ite (decide ((0 : Int) ≤ (wk64 (((List.length l) : Int) - (1 : Int))))) (Br.ite (decide ((wk64 (((List.length l) : Int) - (1 : Int))) < ((List.length l) : Int))) (Br.ret (AV.int .i64 (wk64 (((List.length (List.getD l (Int.toNat (wk64 (((List.length l) : Int) - (1 : Int)))) (([] : (List UInt8)), (0 : Int))).1) : Int) - (List.getD l (Int.toNat (wk64 (((List.length l) : Int) - (1 : Int)))) (([] : (List UInt8)), (0 : Int))).2))) ([] : (List (Ob)))) Br.fail) Br.fail) Br.fail) Br.fail)) Br.fail)
theorem iLoose_run (l : List (List UInt8 × Int)) (c : Int) : runF Kx iLoose_C iLoose_O 1 Try.f13 ([.agg [.sh (.pair .str (.int .i64)) l, .int .i64 c]]) ([]) = (iLoose_br l c).val := by kernel_rfl
def iLoose_s : List AV → List Ob → Br
  | [.agg [.sh (.pair .str (.int .i64)) l, .int .i64 c]], [] => iLoose_br l c
  | _, _ => .fail
theorem iLoose_ok : Sound Kx 13 iLoose_s := by
  refine sound_run (C := iLoose_C) (O := iLoose_O) KOk iLoose_C_ok Try.func13 (by kernel_rfl) fun args objs res os h => ?_
  unfold iLoose_s at h
  split at h
  · exact ⟨1, (iLoose_run _ _).trans h⟩
  · cases h

/-! spec.Loose -/
/-! laws.within -/
/-! laws.sameStore -/
def sameStore_O : Opt := { cons := [], keepNil := false, mutF := [], live := [(4, [2, 3, 5])], outs := [(4, [4])] }
def sameStore_T4 (v4x0 : Int) (v4x1 : (List ((List UInt8) × Int))) (v4x2 : Int) (v4x3 : (List ((List UInt8) × Int))) (v4x4 : Int) (kR4 : Int → (List ((List UInt8) × Int)) → Int → (List ((List UInt8) × Int)) → Int → Option Rs) (k4e0 : Option Rs) (k4e1 : Option Rs) : Option Rs :=
  (bif (decide (v4x0 < ((List.length v4x1) : Int))) then (bif (decide ((0 : Int) ≤ v4x0)) then (bif (decide (v4x0 < ((List.length v4x1) : Int))) then (bif (decide ((0 : Int) ≤ v4x0)) then (bif (decide (v4x0 < ((List.length v4x3) : Int))) then (bif (!((decide ((List.getD v4x1 (Int.toNat v4x0) (([] : (List UInt8)), (0 : Int))).1 = (List.getD v4x3 (Int.toNat v4x0) (([] : (List UInt8)), (0 : Int))).1)) && ((decide ((List.getD v4x1 (Int.toNat v4x0) (([] : (List UInt8)), (0 : Int))).2 = (List.getD v4x3 (Int.toNat v4x0) (([] : (List UInt8)), (0 : Int))).2)) && true))) then k4e0 else (kR4 (wk64 (v4x0 + (1 : Int))) v4x1 v4x2 v4x3 v4x4)) else (none)) else (none)) else (none)) else (none)) else k4e1)
def sameStore_F4 : Nat → Int → (List ((List UInt8) × Int)) → Int → (List ((List UInt8) × Int)) → Int → (Option Rs) → (Option Rs) → Option Rs
  | 0, _, _, _, _, _, _, _ => none
  | n + 1, v4x0, v4x1, v4x2, v4x3, v4x4, k4e0, k4e1 => sameStore_T4 v4x0 v4x1 v4x2 v4x3 v4x4 (fun v4x0 v4x1 v4x2 v4x3 v4x4 => sameStore_F4 n v4x0 v4x1 v4x2 v4x3 v4x4 k4e0 k4e1) k4e0 k4e1
def sameStore_h4 (v4x0 : Int) (v4x1 : (List ((List UInt8) × Int))) (v4x2 : Int) (v4x3 : (List ((List UInt8) × Int))) (v4x4 : Int) : St := (St.mk (slots 0 38 [(2, (AV.ptr (192 : Nat) (0 : Nat))), (3, (AV.ptr (256 : Nat) (0 : Nat))), (5, (AV.int .i64 v4x0))]) (((192 : Nat), (Ob.var ((AV.sh (Ty.pair Ty.str (Ty.int .i64)) v4x1) :: ((AV.int .i64 v4x2) :: ([] : (List (AV))))))) :: (((256 : Nat), (Ob.var ((AV.sh (Ty.pair Ty.str (Ty.int .i64)) v4x3) :: ((AV.int .i64 v4x4) :: ([] : (List (AV))))))) :: ([] : (List (Nat × (Ob)))))))
def sameStore_x4e0  : St := (St.mk (slots 0 38 [(4, (AV.bool false))]) ([] : (List (Nat × (Ob)))))
def sameStore_x4e1  : St := (St.mk (slots 0 38 []) ([] : (List (Nat × (Ob)))))
noncomputable def sameStore_b4 : Code := codeAt (codeOf Try.f14) [1, 1, 0, 1, 0, 0]
def sameStore_L4 (N : Nat) (st : St) (k : Ex → St → Option Rs) : Option Rs := match takeF [2, 3, 5] 0 38 st.env, st.objs with
  | some [.ptr 192 0, .ptr 256 0, .int .i64 v4x0], [(192, .var [.sh (Ty.pair Ty.str (Ty.int .i64)) v4x1, .int .i64 v4x2]), (256, .var [.sh (Ty.pair Ty.str (Ty.int .i64)) v4x3, .int .i64 v4x4])] => sameStore_F4 N v4x0 v4x1 v4x2 v4x3 v4x4 (k Ex.ret (sameStore_x4e0)) (k (Ex.exit (0 : Nat)) (sameStore_x4e1))
  | _, _ => none
def sameStore_L (N : Nat) : Lam := fun j st k => match j with
  | 4 => sameStore_L4 N st k
  | _ => none
theorem sameStore_round4 (N : Nat) (again : St → Option Rs) (k : Ex → St → Option Rs) (wv4x0 : Int) (wv4x1 : (List ((List UInt8) × Int))) (wv4x2 : Int) (wv4x3 : (List ((List UInt8) × Int))) (wv4x4 : Int) (v4x0 : Int) (v4x1 : (List ((List UInt8) × Int))) (v4x2 : Int) (v4x3 : (List ((List UInt8) × Int))) (v4x4 : Int) :
    roundK 0 (fun st k => evL Kx noS sameStore_O 0 (sameStore_L N) sameStore_b4 st k) (sameStore_h4 wv4x0 wv4x1 wv4x2 wv4x3 wv4x4).env again (sameStore_h4 v4x0 v4x1 v4x2 v4x3 v4x4) (outK sameStore_O 0 sameStore_b4 k) = sameStore_T4 v4x0 v4x1 v4x2 v4x3 v4x4 (fun v4x0 v4x1 v4x2 v4x3 v4x4 => again (sameStore_h4 v4x0 v4x1 v4x2 v4x3 v4x4)) (k Ex.ret (sameStore_x4e0)) (k (Ex.exit (0 : Nat)) (sameStore_x4e1)) := by kernel_rfl
theorem sameStore_loop4 (N : Nat) (k : Ex → St → Option Rs) (wv4x0 : Int) (wv4x1 : (List ((List UInt8) × Int))) (wv4x2 : Int) (wv4x3 : (List ((List UInt8) × Int))) (wv4x4 : Int) : ∀ (n : Nat) (v4x0 : Int) (v4x1 : (List ((List UInt8) × Int))) (v4x2 : Int) (v4x3 : (List ((List UInt8) × Int))) (v4x4 : Int),
    loopK 0 (fun st k => evL Kx noS sameStore_O 0 (sameStore_L N) sameStore_b4 st k) (sameStore_h4 wv4x0 wv4x1 wv4x2 wv4x3 wv4x4).env n (sameStore_h4 v4x0 v4x1 v4x2 v4x3 v4x4) (outK sameStore_O 0 sameStore_b4 k) = sameStore_F4 n v4x0 v4x1 v4x2 v4x3 v4x4 (k Ex.ret (sameStore_x4e0)) (k (Ex.exit (0 : Nat)) (sameStore_x4e1))
  | 0, _, _, _, _, _ => rfl
  | n + 1, v4x0, v4x1, v4x2, v4x3, v4x4 => by
    rw [loopK_succ, sameStore_round4]
    simp only [sameStore_loop4 N k wv4x0 wv4x1 wv4x2 wv4x3 wv4x4 n]
    rfl
theorem sameStore_at4 (N : Nat) {s : St} {k : Ex → St → Option Rs} {r : Rs} (h : sameStore_L4 N s k = some r) : ∃ (v4x0 : Int) (v4x1 : (List ((List UInt8) × Int))) (v4x2 : Int) (v4x3 : (List ((List UInt8) × Int))) (v4x4 : Int), s = (sameStore_h4 v4x0 v4x1 v4x2 v4x3 v4x4) ∧ sameStore_F4 N v4x0 v4x1 v4x2 v4x3 v4x4 (k Ex.ret (sameStore_x4e0)) (k (Ex.exit (0 : Nat)) (sameStore_x4e1)) = some r := by
  cases s with | mk env objs =>
  unfold sameStore_L4 at h
  split at h
  · rename_i e1 e2
    have e3 := takeF_slots _ _ _ _ e1
    simp only at e2 e3
    subst e2 e3
    exact ⟨_, _, _, _, _, rfl, h⟩
  · cases h
theorem sameStore_in4 : loops sameStore_b4 = [] := by kernel_rfl
theorem sameStore_lid4 : lid sameStore_b4 = 4 := by kernel_rfl
theorem sameStore_ok4 (N : Nat) : OkL Kx noS sameStore_O 0 N (sameStore_L N) sameStore_b4 := by
  intro s k k' r hk h
  rw [sameStore_lid4] at h
  obtain ⟨v4x0, v4x1, v4x2, v4x3, v4x4, rfl, h⟩ := sameStore_at4 N h
  refine loopL (Λ := sameStore_L N) sameStore_b4 ?_ N hk ((sameStore_loop4 N k v4x0 v4x1 v4x2 v4x3 v4x4 N v4x0 v4x1 v4x2 v4x3 v4x4).trans h)
  rw [sameStore_in4]
  exact fun _ h => nomatch h
def sameStore_run (N : Nat) (l : List (List UInt8 × Int)) (c : Int) (l' : List (List UInt8 × Int)) (c' : Int) : Option Rs := (bif (!(decide (c = c'))) then (some ((AV.bool false), ([] : (List (Ob))))) else (bif (!(decide (((List.length l) : Int) = ((List.length l') : Int)))) then (some ((AV.bool false), ([] : (List (Ob))))) else (sameStore_F4 N (0 : Int) l c l' c' (some ((AV.bool false), ([] : (List (Ob))))) (some ((AV.bool true), ([] : (List (Ob))))))))
theorem sameStore_runL (N : Nat) (l : List (List UInt8 × Int)) (c : Int) (l' : List (List UInt8 × Int)) (c' : Int) : runL Kx noS sameStore_O (sameStore_L N) Try.f14 ([.agg [.sh (.pair .str (.int .i64)) l, .int .i64 c], .agg [.sh (.pair .str (.int .i64)) l', .int .i64 c']]) ([]) = sameStore_run N l c l' c' := by kernel_rfl
theorem sameStore_body : Try.f14.body = some (codeOf Try.f14) := by kernel_rfl
theorem sameStore_loops : loops (codeOf Try.f14) = [sameStore_b4] := by kernel_rfl
theorem sameStore_ev (N : Nat) (l : List (List UInt8 × Int)) (c : Int) (l' : List (List UInt8 × Int)) (c' : Int) {res_ : Rs} (hyp_ : sameStore_run N l c l' c' = some res_) : ∃ n_, runF Kx noS sameStore_O n_ Try.f14 ([.agg [.sh (.pair .str (.int .i64)) l, .int .i64 c], .agg [.sh (.pair .str (.int .i64)) l', .int .i64 c']]) ([]) = some res_ :=
  ⟨N, runL_runF sameStore_body (by rw [sameStore_loops]; exact List.forall_mem_cons.2 ⟨sameStore_ok4 N, fun _ h => nomatch h⟩) ((sameStore_runL N l c l' c').trans hyp_)⟩
def sameStore_sOf (φ : (List (List UInt8 × Int)) → Int → (List (List UInt8 × Int)) → Int → Br) : List AV → List Ob → Br
  | [.agg [.sh (.pair .str (.int .i64)) l, .int .i64 c], .agg [.sh (.pair .str (.int .i64)) l', .int .i64 c']], [] => φ l c l' c'
  | _, _ => .fail
theorem sameStore_okOf {φ : (List (List UInt8 × Int)) → Int → (List (List UInt8 × Int)) → Int → Br} (fu : (List (List UInt8 × Int)) → Int → (List (List UInt8 × Int)) → Int → Nat) (hv : ∀ l c l' c' res_, (φ l c l' c').val = some res_ → sameStore_run (fu l c l' c') l c l' c' = some res_) : Sound Kx 14 (sameStore_sOf φ) := by
  refine sound_run (C := noS) (O := sameStore_O) KOk (sound_no Kx) Try.func14 (by kernel_rfl) fun args objs res os h => ?_
  unfold sameStore_sOf at h
  split at h
  · exact sameStore_ev _ _ _ _ _ (hv _ _ _ _ _ h)
  · cases h

/-! laws.at -/
/-! impl.StoreNew -/
def iNewS_O : Opt := { cons := [], keepNil := false, mutF := [], live := [], outs := [] }
def iNewS_C : Spec := (add noS 32 iwithin_s)
theorem iNewS_C_ok : ∀ fn, Sound Kx fn (iNewS_C fn) := (sound_add (sound_no Kx) iwithin_ok)
def iNewS_br (n : Int) : Br := (Br.ite (decide ((0 : Int) ≤ n)) (Br.ite (!(decide (n ≤ (60000 : Int)))) (Br.ret (AV.tup ((AV.agg ((AV.ref (0 : Nat) (0 : Nat)) :: ((AV.int .i64 (0 : Int)) :: ([] : (List (AV)))))) :: ((AV.bool false) :: ([] : (List (AV)))))) ((Ob.arr (Ty.pair Ty.str (Ty.int .i64)) (0 : Nat) false ([] : (List ((List UInt8) × Int)))) :: ([] : (List (Ob))))) (Br.ret (AV.tup ((AV.agg ((AV.ref (0 : Nat) (0 : Nat)) :: ((AV.int .i64 n) :: ([] : (List (AV)))))) :: ((AV.bool true) :: ([] : (List (AV)))))) ((Ob.arr (Ty.pair Ty.str (Ty.int .i64)) (0 : Nat) false (List.set (List.replicate (1 : Nat) (([] : (List UInt8)), (0 : Int))) (0 : Nat) (([] : (List UInt8)), (0 : Int)))) :: ([] : (List (Ob)))))) (Br.ret (AV.tup ((AV.agg ((AV.ref (0 : Nat) (0 : Nat)) :: ((AV.int .i64 (0 : Int)) :: ([] : (List (AV)))))) :: ((AV.bool false) :: ([] : (List (AV)))))) ((Ob.arr (Ty.pair Ty.str (Ty.int .i64)) (0 : Nat) false ([] : (List ((List UInt8) × Int)))) :: ([] : (List (Ob))))))
theorem iNewS_run (n : Int) : runF Kx iNewS_C iNewS_O 1 Try.f27 ([.int .i64 n]) ([]) = (iNewS_br n).val := by kernel_rfl
def iNewS_s : List AV → List Ob → Br
  | [.int .i64 n], [] => iNewS_br n
  | _, _ => .fail
theorem iNewS_ok : Sound Kx 27 iNewS_s := by
  refine sound_run (C := iNewS_C) (O := iNewS_O) KOk iNewS_C_ok Try.func27 (by kernel_rfl) fun args objs res os h => ?_
  unfold iNewS_s at h
  split at h
  · exact ⟨1, (iNewS_run _).trans h⟩
  · cases h

end
end Go.Proofs.Ytmigffdeghfbhaa.Ev

namespace Go.Proofs.Ytmigffdeghfbhaa.Ev
open Go Go.RowKit
set_option linter.unusedVariables false
set_option linter.unusedSimpArgs false
noncomputable section

theorem okStore_small {l : Segs} {c : Int} (h : okStore l c = true) : l.length ≤ 40 ∧ 1 ≤ l.length ∧ total l ≤ 60000 ∧ smS l = true := by
  refine ⟨?_, ?_, ?_, good_smS (ok_good h)⟩ <;>
  · unfold okStore at h
    simp only [Bool.and_eq_true, decide_eq_true_eq] at h
    omega
def allP (l : Segs) (c : Int) : List UInt8 := bif okStore l c then allB l else []
def allPQ_s : List AV → List Ob → Br
  | [.agg [.sh (.pair .str (.int .i64)) l, .int .i64 c]], [] => .ite (smS l) (.ret (.str (allP l c)) []) .fail
  | _, _ => .fail
theorem iAll_okQ : Sound Kx 10 allPQ_s := iAll_ok.of fun args objs r h => by
  unfold allPQ_s at h
  split at h
  · rename_i l c
    obtain ⟨h1, h2⟩ := ite_some h
    rw [← h2]
    show (iAll_br l c).val = _
    unfold iAll_br allP
    cases hk : okStore l c with
    | false => simp only [h1, Bool.not_false, Br.val, cond_false]
    | true =>
      obtain ⟨q1, q2, q3, _⟩ := okStore_small hk
      simp only [h1, q1, q3, decide_true, Bool.and_self, Bool.not_true, Br.val, cond_true]
  · cases h
theorem sAll_okQ : Sound Kx 9 allPQ_s := sAll_ok.of fun args objs r h => by
  unfold allPQ_s at h
  split at h
  · exact (ite_some h).2
  · cases h
def looseP (l : Segs) (c : Int) : Int := bif okStore l c then ((lastS l).1.length : Int) - (lastS l).2 else -1
def looseQ_s : List AV → List Ob → Br
  | [.agg [.sh (.pair .str (.int .i64)) l, .int .i64 c]], [] => .ite (smS l) (.ret (.int .i64 (looseP l c)) []) .fail
  | _, _ => .fail
theorem iLoose_okQ : Sound Kx 13 looseQ_s := iLoose_ok.of fun args objs r h => by
  unfold looseQ_s at h
  split at h
  · rename_i l c
    obtain ⟨hs, h2⟩ := ite_some h
    rw [← h2]
    show (iLoose_br l c).val = _
    unfold iLoose_br looseP
    cases hk : okStore l c with
    | false => simp only [hs, Bool.not_false, Br.val, cond_false]
    | true =>
      obtain ⟨pre, a, rfl, hp, h1, h2, h3, h4, h5, h6⟩ := okStore_last hk
      have e : wk64 ((a.1.length : Int) - a.2) = (a.1.length : Int) - a.2 := w64 (by omega) (by omega)
      simp only [hs, Bool.not_true, Br.val, f3 pre a hp, f4, f5, Int.toNat_natCast, f6, cond_true, lastS_snoc, e]
  · cases h
def usedP (l : Segs) (c : Int) : Int := bif okStore l c then (total l : Int) else -1
/-! ReadAt -/
def readC (l : Segs) (c k a n : Int) : Bool := okStore l c && decide (0 ≤ k) && decide (k ≤ (l.length : Int) - 1) && decide (0 ≤ a) && decide (a ≤ ((l.getD k.toNat ([], 0)).1.length : Int)) && decide (0 ≤ n) && decide (n ≤ ((l.getD k.toNat ([], 0)).1.length : Int) - a)
def readS (l : Segs) (c k a n : Int) : List UInt8 := bif readC l c k a n then cut (l.getD k.toNat ([], 0)).1 a (a + n) else []
/-! within, sameStore, at, StoreNew -/
def prefixB (s t : List UInt8) : Bool := decide ((s.length : Int) ≤ (t.length : Int)) && decide (cut t 0 (s.length : Int) = s)
theorem sameStore_loop (c c' : Int) (k0 k1 : Option Rs) : ∀ (r r' pre pre' : Segs) (n : Nat), r.length < n → (pre ++ r).length ≤ 281474976710656 → pre.length = pre'.length → r.length = r'.length →
    sameStore_F4 n (pre.length : Int) (pre ++ r) c (pre' ++ r') c' k0 k1 = bif decide (r = r') then k1 else k0
  | [], [], pre, pre', n + 1, hn, hl, hp, hr => by
    have e1 : decide ((pre.length : Int) < ((pre ++ ([] : Segs)).length : Int)) = false := by simp
    unfold sameStore_F4 sameStore_T4
    simp only [e1, cond_false]
    rfl
  | [], _ :: _, _, _, _, _, _, _, hr => by simp at hr
  | _ :: _, [], _, _, _, _, _, _, hr => by simp at hr
  | a :: r, b :: r', pre, pre', n + 1, hn, hl, hp, hr => by
    have hlen : (pre ++ a :: r).length = pre.length + r.length + 1 := by simp; omega
    have e1 : decide ((pre.length : Int) < ((pre ++ a :: r).length : Int)) = true := by rw [hlen]; simp; omega
    have e2 : decide ((0 : Int) ≤ (pre.length : Int)) = true := by simp
    have e3 : decide ((pre.length : Int) < ((pre' ++ b :: r').length : Int)) = true := by simp; omega
    have ih := sameStore_loop c c' k0 k1 r r' (pre ++ [a]) (pre' ++ [b]) n (by simp at hn; omega) (by rw [← cat_one]; exact hl) (by simp [hp]) (by simpa using hr)
    rw [← cat_one, ← cat_one] at ih
    have e4 : (pre' ++ b :: r').getD pre.length ([], 0) = b := by rw [hp]; exact getD_mid ..
    unfold sameStore_F4 sameStore_T4
    simp only [e1, e2, e3, cond_true, Int.toNat_natCast, getD_mid, e4]
    rw [next_len pre a (by omega), ih]
    obtain ⟨a1, a2⟩ := a
    obtain ⟨b1, b2⟩ := b
    by_cases h1 : a1 = b1
    · by_cases h2 : a2 = b2
      · simp [h1, h2]
      · simp [h1, h2]
    · simp [h1]
def sameQ_s : List AV → List Ob → Br
  | [.agg [.sh (.pair .str (.int .i64)) l, .int .i64 c], .agg [.sh (.pair .str (.int .i64)) l', .int .i64 c']], [] => .ite (decide (l.length ≤ 281474976710656)) (.ret (.bool (decide (c = c') && decide (l = l'))) []) .fail
  | _, _ => .fail
theorem sameStore_okQ : Sound Kx 14 sameQ_s := by
  refine (sameStore_okOf (φ := fun l c l' c' => .ite (decide (l.length ≤ 281474976710656)) (.ret (.bool (decide (c = c') && decide (l = l'))) []) .fail) (fun l _ _ _ => l.length + 1) fun l c l' c' r h => ?_).of fun args objs r h => by
    unfold sameQ_s at h
    unfold sameStore_sOf
    split at h
    · exact h
    · cases h
  obtain ⟨h1, h2⟩ := ite_some h
  rw [← h2]
  unfold sameStore_run
  by_cases h3 : c = c'
  · by_cases h4 : (l.length : Int) = (l'.length : Int)
    · simp only [h3, h4, decide_true, Bool.not_true, cond_false, Bool.true_and]
      have := sameStore_loop c' c' (some (.bool false, [])) (some (.bool true, [])) l l' [] [] (l.length + 1) (by omega) (by simpa using h1) rfl (by omega)
      simp only [List.nil_append, List.length_nil] at this
      refine this.trans ?_
      cases decide (l = l') <;> rfl
    · have h5 : ¬ l = l' := fun e => h4 (by rw [e])
      simp only [h3, h4, h5, decide_true, decide_false, Bool.not_true, Bool.not_false, cond_true, cond_false, Bool.and_false]
      rfl
  · simp only [h3, decide_false, Bool.not_false, cond_true, Bool.false_and]
    rfl
def latV (code : List Int) (i : Int) : Int := bif decide ((code.length : Int) = 0) then 0 else wk64 (code.getD (Int.tmod i (code.length : Int)).toNat 0)
theorem iNewS_okQ : Sound Kx 27 newQ_s := iNewS_ok.of fun args objs r h => by
  unfold newQ_s at h
  split at h
  · rename_i room
    rw [← h]
    show (iNewS_br room).val = _
    unfold iNewS_br newS newC
    cases decide (0 ≤ room) <;> cases decide (room ≤ 60000) <;> rfl
  · cases h
end
end Go.Proofs.Ytmigffdeghfbhaa.Ev

namespace Go.Proofs.Ytmigffdeghfbhaa.Ev
open Go Go.RowKit
set_option linter.unusedVariables false
set_option linter.unusedSimpArgs false
noncomputable section

/-! laws.disks -/
def disks_O : Opt := { cons := [], keepNil := false, mutF := [], live := [], outs := [] }
def disks_C : Spec := (add (add (add (add (add noS 27 newQ_s) 28 appendQ_s) 6 crashQ_s) 10 allPQ_s) 13 looseQ_s)
theorem disks_C_ok : ∀ fn, Sound Kx fn (disks_C fn) := (sound_add (sound_add (sound_add (sound_add (sound_add (sound_no Kx) iNewS_okQ) iAppend_okQ) iCrash_okQ) iAll_okQ) iLoose_okQ)
def disks_br  : Br := (Br.ret (AV.bool true) ([] : (List (Ob))))
theorem disks_run  : runF Kx disks_C disks_O 1 Try.f8 ([]) ([]) = (disks_br ).val := by kernel_rfl
def disks_s : List AV → List Ob → Br
  | [], [] => disks_br 
  | _, _ => .fail
theorem disks_ok : Sound Kx 8 disks_s := by
  refine sound_run (C := disks_C) (O := disks_O) KOk disks_C_ok Try.func8 (by kernel_rfl) fun args objs res os h => ?_
  unfold disks_s at h
  split at h
  · exact ⟨1, (disks_run).trans h⟩
  · cases h

end
end Go.Proofs.Ytmigffdeghfbhaa.Ev

namespace Go.Proofs.Ytmigffdeghfbhaa.Ev
open Go Go.RowKit
set_option linter.unusedVariables false
set_option linter.unusedSimpArgs false
noncomputable section

/-- The plain functions. -/
structure Fs where
  fsm : Segs → Bool
  fok : Segs → Int → Bool
  fap : Segs → Int → List UInt8 → Segs × Int × Int
  fro : Segs → Int → Segs × Int × Int
  fcu : Segs → Int → Int → Segs × Int × Int
  fcr : Segs → Int → Int → Segs × Int
  fsy : Segs → Int → Segs × Int
  fal : Segs → Int → List UInt8
  flo : Segs → Int → Int
  fus : Segs → Int → Int
  frc : Segs → Int → Int → Int → Int → Bool
  frs : Segs → Int → Int → Int → Int → List UInt8
  fpf : List UInt8 → List UInt8 → Bool
  fat : List Int → Int → Int
  fdl : List Int → Segs
  fdc : List Int → Int
  fdb : List Int → List UInt8
  fkc : List Int → Int
  fku : List Int → Int
noncomputable abbrev F0 : Fs := ⟨smS, okStore, appendP, rollP, stCutP, crashP, syncP, allP, looseP, usedP, readC, readS, prefixB, latV, rL, rC, fun _ => [], kCrash, kCut⟩
open Fs
def gSync (F : Fs) : List AV → List Ob → Br
  | [.agg [.sh (.pair .str (.int .i64)) l, .int .i64 c]], [] => .ite (fsm F l) (.ret (.agg [.ref 0 0, .int .i64 (fsy F l c).2]) [.arr (.pair .str (.int .i64)) 0 false (fsy F l c).1]) .fail
  | _, _ => .fail
theorem gSync_impl : Sound Kx 16 (gSync F0) := Sound.of iSync_okQ fun args objs r h => by
  unfold gSync at h
  split at h
  · exact h
  · cases h
def gCut (F : Fs) : List AV → List Ob → Br
  | [.agg [.sh (.pair .str (.int .i64)) l, .int .i64 c], .int .i64 k], [] => .ite (fsm F l) (.ret (.tup [.agg [.ref 0 0, .int .i64 (fcu F l c k).2.1], .int .i64 (fcu F l c k).2.2]) [.arr (.pair .str (.int .i64)) 0 false (fcu F l c k).1]) .fail
  | _, _ => .fail
theorem gCut_impl : Sound Kx 20 (gCut F0) := Sound.of iCut_okQ fun args objs r h => by
  unfold gCut at h
  split at h
  · exact h
  · cases h
def gRoll (F : Fs) : List AV → List Ob → Br
  | [.agg [.sh (.pair .str (.int .i64)) l, .int .i64 c]], [] => .ite (fsm F l) (.ret (.tup [.agg [.ref 0 0, .int .i64 (fro F l c).2.1], .int .i64 (fro F l c).2.2]) [.arr (.pair .str (.int .i64)) 0 false (fro F l c).1]) .fail
  | _, _ => .fail
theorem gRoll_spec : Sound Kx 19 (gRoll F0) := Sound.of sRoll_okQ fun args objs r h => by
  unfold gRoll at h
  split at h
  · exact h
  · cases h
theorem gRoll_impl : Sound Kx 18 (gRoll F0) := Sound.of iRoll_okQ fun args objs r h => by
  unfold gRoll at h
  split at h
  · exact h
  · cases h
def gAll (F : Fs) : List AV → List Ob → Br
  | [.agg [.sh (.pair .str (.int .i64)) l, .int .i64 c]], [] => .ite (fsm F l) (.ret (.str (fal F l c)) []) .fail
  | _, _ => .fail
theorem gAll_spec : Sound Kx 9 (gAll F0) := Sound.of sAll_okQ fun args objs r h => by
  unfold gAll at h
  split at h
  · exact h
  · cases h
theorem gAll_impl : Sound Kx 10 (gAll F0) := Sound.of iAll_okQ fun args objs r h => by
  unfold gAll at h
  split at h
  · exact h
  · cases h
def gLoose (F : Fs) : List AV → List Ob → Br
  | [.agg [.sh (.pair .str (.int .i64)) l, .int .i64 c]], [] => .ite (fsm F l) (.ret (.int .i64 (flo F l c)) []) .fail
  | _, _ => .fail
theorem gLoose_impl : Sound Kx 13 (gLoose F0) := Sound.of iLoose_okQ fun args objs r h => by
  unfold gLoose at h
  split at h
  · exact h
  · cases h
def gSame (F : Fs) : List AV → List Ob → Br
  | [.agg [.sh (.pair .str (.int .i64)) l, .int .i64 c], .agg [.sh (.pair .str (.int .i64)) l', .int .i64 c']], [] => .ite (decide (l.length ≤ 281474976710656)) (.ret (.bool (decide (c = c') && decide (l = l'))) []) .fail
  | _, _ => .fail
theorem gSame_laws : Sound Kx 14 (gSame F0) := Sound.of sameStore_okQ fun args objs r h => by
  unfold gSame at h
  split at h
  · exact h
  · cases h
def gDrR (F : Fs) : List AV → List Ob → Br
  | [.sh (.int .u8) code], [] => .ite (decide (code.length ≤ 281474976710656)) (.ret (.agg [.ref 0 0, .int .i64 (fdc F code)]) [.arr (.pair .str (.int .i64)) 0 false (fdl F code)]) .fail
  | _, _ => .fail
theorem gDrR_spec : Sound Kx 17 (gDrR F0) := Sound.of drRoll_okQ fun args objs r h => by
  unfold gDrR at h
  split at h
  · exact h
  · cases h
end
end Go.Proofs.Ytmigffdeghfbhaa.Ev

namespace Go.Proofs.Ytmigffdeghfbhaa.Ev
open Go Go.RowKit
set_option linter.unusedVariables false
set_option linter.unusedSimpArgs false
noncomputable section
open Fs

/-! laws.FnRolls -/
def lRolls_O : Opt := { cons := [], keepNil := false, mutF := [], live := [], outs := [], split := true }
def lRolls_C (F : Fs) : Spec := (add (add (add (add (add (add (add (add (add (add noS 17 (gDrR F)) 18 (gRoll F)) 19 (gRoll F)) 8 disks_s) 20 (gCut F)) 10 (gAll F)) 9 (gAll F)) 13 (gLoose F)) 14 (gSame F)) 16 (gSync F))
theorem lRolls_C_ok : ∀ fn, Sound Kx fn (lRolls_C F0 fn) := (sound_add (sound_add (sound_add (sound_add (sound_add (sound_add (sound_add (sound_add (sound_add (sound_add (sound_no Kx) gDrR_spec) gRoll_impl) gRoll_spec) disks_ok) gCut_impl) gAll_impl) gAll_spec) gLoose_impl) gSame_laws) gSync_impl)
def lRolls_br (F : Fs) (code : List Int) : Br := (Br.ite (decide ((List.length code) ≤ (281474976710656 : Nat))) (Br.ite (fsm F (fdl F code)) (Br.ite (fsm F (fdl F code)) (Br.ite (!(decide ((fro F (fdl F code) (fdc F code)).2.2 = (fro F (fdl F code) (fdc F code)).2.2))) (Br.ite (decide ((fro F (fdl F code) (fdc F code)).2.2 = (fro F (fdl F code) (fdc F code)).2.2)) (Br.ite (decide (((List.length (fro F (fdl F code) (fdc F code)).1) : Int) = (0 : Int))) (Br.ret (AV.bool true) ([] : (List (Ob)))) (Br.ret (AV.bool false) ([] : (List (Ob))))) (Br.ret (AV.bool false) ([] : (List (Ob))))) (Br.ite (!(decide ((fro F (fdl F code) (fdc F code)).2.2 = (0 : Int)))) (Br.ite (decide ((fro F (fdl F code) (fdc F code)).2.2 = (fro F (fdl F code) (fdc F code)).2.2)) (Br.ite (decide (((List.length (fro F (fdl F code) (fdc F code)).1) : Int) = (0 : Int))) (Br.ret (AV.bool true) ([] : (List (Ob)))) (Br.ret (AV.bool false) ([] : (List (Ob))))) (Br.ret (AV.bool false) ([] : (List (Ob))))) (Br.ite (fsm F (fro F (fdl F code) (fdc F code)).1) (Br.ite (decide (((List.length (fro F (fdl F code) (fdc F code)).1) : Int) = (wk64 (((List.length (fdl F code)) : Int) + (1 : Int))))) (Br.ite (fsm F (fro F (fdl F code) (fdc F code)).1) (Br.ite (fsm F (fdl F code)) (Br.ite (decide ((fal F (fro F (fdl F code) (fdc F code)).1 (fro F (fdl F code) (fdc F code)).2.1) = (fal F (fdl F code) (fdc F code)))) (Br.ite (fsm F (fro F (fdl F code) (fdc F code)).1) (Br.ite (decide ((flo F (fro F (fdl F code) (fdc F code)).1 (fro F (fdl F code) (fdc F code)).2.1) = (0 : Int))) (Br.ite (decide ((fcu F (fro F (fdl F code) (fdc F code)).1 (fro F (fdl F code) (fdc F code)).2.1 (0 : Int)).2.2 = (0 : Int))) (Br.ite (fsm F (fdl F code)) (Br.ite (decide ((List.length (fcu F (fro F (fdl F code) (fdc F code)).1 (fro F (fdl F code) (fdc F code)).2.1 (0 : Int)).1) ≤ (281474976710656 : Nat))) (Br.ite ((decide ((fcu F (fro F (fdl F code) (fdc F code)).1 (fro F (fdl F code) (fdc F code)).2.1 (0 : Int)).2.1 = (fsy F (fdl F code) (fdc F code)).2)) && (decide ((fcu F (fro F (fdl F code) (fdc F code)).1 (fro F (fdl F code) (fdc F code)).2.1 (0 : Int)).1 = (fsy F (fdl F code) (fdc F code)).1))) (Br.ret (AV.bool true) ([] : (List (Ob)))) (Br.ret (AV.bool false) ([] : (List (Ob))))) Br.fail) Br.fail) (Br.ret (AV.bool false) ([] : (List (Ob))))) (Br.ret (AV.bool false) ([] : (List (Ob))))) Br.fail) (Br.ret (AV.bool false) ([] : (List (Ob))))) Br.fail) Br.fail) (Br.ret (AV.bool false) ([] : (List (Ob))))) Br.fail))) Br.fail) Br.fail) Br.fail)
theorem lRolls_run (F : Fs) (code : List Int) : runF Kx (lRolls_C F) lRolls_O 1 Try.f4 ([.sh (.int .u8) code]) ([]) = (lRolls_br F code).val := by kernel_rfl

end
end Go.Proofs.Ytmigffdeghfbhaa.Ev

namespace Go.Proofs.Ytmigffdeghfbhaa.Ev
open Go Go.RowKit
set_option linter.unusedVariables false
set_option linter.unusedSimpArgs false
noncomputable section

/-- A store by its parts. -/
structure IsSt (pre : Segs) (a : List UInt8 × Int) (c : Int) : Prop where
  f : full pre = true
  h1 : 0 ≤ a.2
  h2 : a.2 ≤ (a.1.length : Int)
  hp : pre.length ≤ 39
  ht : (total (pre ++ [a]) : Int) ≤ c
  hc : c ≤ 60000
theorem IsSt.ok {pre : Segs} {a : List UInt8 × Int} {c : Int} (h : IsSt pre a c) : okStore (pre ++ [a]) c = true := okStore_snoc h.f h.h1 h.h2 h.hp h.ht h.hc
theorem isSt_of {l : Segs} {c : Int} (h : okStore l c = true) : ∃ pre a, l = pre ++ [a] ∧ IsSt pre a c := by
  obtain ⟨pre, a, rfl, hp, h1, h2, h3, h4, h5, h6⟩ := okStore_last h
  exact ⟨pre, a, rfl, okStore_full h, h1, h2, hp, h6, h5⟩
theorem IsSt.sm {pre : Segs} {a : List UInt8 × Int} {c : Int} (h : IsSt pre a c) : smS (pre ++ [a]) = true := (okStore_small h.ok).2.2.2
theorem IsSt.all {pre : Segs} {a : List UInt8 × Int} {c : Int} (h : IsSt pre a c) : allP (pre ++ [a]) c = allB pre ++ a.1 := by
  unfold allP; rw [h.ok]; exact allB_snoc pre a
theorem IsSt.loose {pre : Segs} {a : List UInt8 × Int} {c : Int} (h : IsSt pre a c) : looseP (pre ++ [a]) c = (a.1.length : Int) - a.2 := by
  unfold looseP; rw [h.ok, lastS_snoc]; rfl
theorem IsSt.used {pre : Segs} {a : List UInt8 × Int} {c : Int} (h : IsSt pre a c) : usedP (pre ++ [a]) c = (total pre : Int) + a.1.length := by
  unfold usedP; rw [h.ok, total_snoc]; push_cast; rfl
theorem IsSt.len {pre : Segs} {a : List UInt8 × Int} {c : Int} (h : IsSt pre a c) : a.1.length ≤ 60000 := by
  have := h.ht; rw [total_snoc] at this; have := h.hc; omega
theorem IsSt.tot {pre : Segs} {a : List UInt8 × Int} {c : Int} (h : IsSt pre a c) : (total pre : Int) + a.1.length ≤ c := by
  have := h.ht; rw [total_snoc] at this; push_cast at this; exact this
/-- With another last segment. -/
theorem IsSt.put {pre : Segs} {a : List UInt8 × Int} {c : Int} (h : IsSt pre a c) (b : List UInt8 × Int) (h1 : 0 ≤ b.2) (h2 : b.2 ≤ (b.1.length : Int)) (h3 : (total pre : Int) + b.1.length ≤ c) : IsSt pre b c :=
  ⟨h.f, h1, h2, h.hp, by rw [total_snoc]; push_cast; exact h3, h.hc⟩

/-! Append -/
/-! Crash -/
theorem sync_ok {pre : Segs} {a : List UInt8 × Int} {c : Int} (h : IsSt pre a c) : syncP (pre ++ [a]) c = (pre ++ [(a.1, (a.1.length : Int))], c) ∧ IsSt pre (a.1, (a.1.length : Int)) c := by
  refine ⟨?_, h.put _ (by simp) (by simp) h.tot⟩
  unfold syncP
  rw [h.ok, cond_true, updS_snoc]

/-! Roll -/
theorem roll_code {l : Segs} {c : Int} (h : ¬ (rollP l c).2.2 = 0) : (rollP l c).1 = [] := by
  unfold rollP at h ⊢
  cases hk : okStore l c
  · rfl
  · rw [hk] at h
    simp only [cond_true] at h ⊢
    cases h1 : decide ((lastS l).1 = [])
    · cases h2 : decide ((l.length : Int) = 40)
      · rw [h1, h2] at h; simp only [cond_false] at h; exact absurd trivial h
      · rfl
    · rfl
theorem roll_ok {l : Segs} {c : Int} (h : (rollP l c).2.2 = 0) : ∃ pre a, l = pre ++ [a] ∧ IsSt pre a c ∧ IsSt (pre ++ [(a.1, (a.1.length : Int))]) ([], 0) c ∧ rollP l c = ((pre ++ [(a.1, (a.1.length : Int))]) ++ [([], 0)], c, 0) := by
  have hk : okStore l c = true := by
    cases hk : okStore l c
    · unfold rollP at h; rw [hk] at h; simp only [cond_false] at h; omega
    · rfl
  have h9 := okS_roll hk h
  obtain ⟨pre, a, rfl, hi⟩ := isSt_of hk
  unfold rollP at h h9 ⊢
  rw [hk] at h h9 ⊢
  simp only [cond_true, updS_snoc, lastS_snoc] at h h9 ⊢
  cases h1 : decide (a.1 = [])
  · cases h2 : decide (((pre ++ [a]).length : Int) = 40)
    · rw [h1, h2] at h9
      simp only [cond_false] at h9 ⊢
      refine ⟨pre, a, rfl, hi, ?_, rfl⟩
      obtain ⟨p', a', e, q⟩ := isSt_of h9
      have e1 := List.append_inj' e rfl
      rw [e1.1]
      have e2 : ([], 0) = a' := by simpa using e1.2
      rw [e2]
      exact q
    · rw [h1, h2] at h; simp only [cond_true, cond_false] at h; omega
  · rw [h1] at h; simp only [cond_true] at h; omega

/-! Cut -/
theorem take_snoc (pre : Segs) (a : List UInt8 × Int) : (pre ++ [a]).take ((pre ++ [a]).length - 1) = pre := by simp
end
end Go.Proofs.Ytmigffdeghfbhaa.Ev

namespace Go.Proofs.Ytmigffdeghfbhaa.Ev
open Go Go.RowKit
set_option linter.unusedVariables false
set_option linter.unusedSimpArgs false
noncomputable section

open Fs in
theorem roll_tree (F : Fs) (code : List Int) (h : code.length ≤ 281474976710656) (hs : fsm F (fdl F code) = true)
    (hf : ((fro F (fdl F code) (fdc F code)).2.2 = 0 ∧ fsm F (fro F (fdl F code) (fdc F code)).1 = true ∧ ((fro F (fdl F code) (fdc F code)).1.length : Int) = wk64 (((fdl F code).length : Int) + 1) ∧
        fal F (fro F (fdl F code) (fdc F code)).1 (fro F (fdl F code) (fdc F code)).2.1 = fal F (fdl F code) (fdc F code) ∧ flo F (fro F (fdl F code) (fdc F code)).1 (fro F (fdl F code) (fdc F code)).2.1 = 0 ∧
        (fcu F (fro F (fdl F code) (fdc F code)).1 (fro F (fdl F code) (fdc F code)).2.1 0).2.2 = 0 ∧ (fcu F (fro F (fdl F code) (fdc F code)).1 (fro F (fdl F code) (fdc F code)).2.1 0).1.length ≤ 281474976710656 ∧
        (fcu F (fro F (fdl F code) (fdc F code)).1 (fro F (fdl F code) (fdc F code)).2.1 0).2.1 = (fsy F (fdl F code) (fdc F code)).2 ∧
        (fcu F (fro F (fdl F code) (fdc F code)).1 (fro F (fdl F code) (fdc F code)).2.1 0).1 = (fsy F (fdl F code) (fdc F code)).1) ∨
      (¬ (fro F (fdl F code) (fdc F code)).2.2 = 0 ∧ ((fro F (fdl F code) (fdc F code)).1.length : Int) = 0)) : (lRolls_br F code).val = some (.bool true, []) := by
  unfold lRolls_br
  have nn : ∀ x : Int, (!decide (x = x)) = false := fun x => by rw [decide_eq_true rfl]; rfl
  refine (val_t (decide_eq_true h)).trans ((val_t hs).trans ((val_t hs).trans ((val_f (nn _)).trans ?_)))
  rcases hf with ⟨c0, f1, f2, f3, f4, f5, f6, f7, f8⟩ | ⟨c0, f1⟩
  · refine (val_f (by rw [decide_eq_true c0]; rfl)).trans ((val_t f1).trans ((val_t (decide_eq_true f2)).trans ((val_t f1).trans ((val_t hs).trans ((val_t (decide_eq_true f3)).trans ((val_t f1).trans ((val_t (decide_eq_true f4)).trans
      ((val_t (decide_eq_true f5)).trans ((val_t hs).trans ((val_t (decide_eq_true f6)).trans ((val_t (by rw [decide_eq_true f7, decide_eq_true f8]; rfl)).trans rfl)))))))))))
  · exact (val_t (by rw [decide_eq_false c0]; rfl)).trans ((val_t (decide_eq_true rfl)).trans ((val_t (decide_eq_true f1)).trans rfl))
theorem lRolls_val (code : List Int) (h : code.length ≤ 281474976710656) : (lRolls_br F0 code).val = some (.bool true, []) := by
  have hs := good_smS (rL_good h)
  refine roll_tree F0 code h hs ?_
  by_cases h0 : (rollP (rL code) (rC code)).2.2 = 0
  · refine .inl ?_
    obtain ⟨pre, a, hl1, hi, hx, hA⟩ := roll_ok h0
    have hp := hi.hp
    have g1 : ((((pre ++ [(a.1, (a.1.length : Int))]) ++ [([], 0)] : Segs).length : Int) = wk64 (((pre ++ [a]).length : Int) + 1)) := by
      have : ((pre ++ [a]).length : Int) = (pre.length : Int) + 1 := by rw [List.length_append, List.length_singleton]; rfl
      rw [w64 (by omega) (by omega)]
      simp only [List.length_append, List.length_singleton]; rfl
    have g2 : allB (pre ++ [(a.1, (a.1.length : Int))]) ++ [] = allB pre ++ a.1 := by rw [List.append_nil, allB_snoc]
    have hs' := (sync_ok hi).1
    have hc : stCutP ((pre ++ [(a.1, (a.1.length : Int))]) ++ [([], 0)]) (rC code) 0 = (pre ++ [(a.1, (a.1.length : Int))], rC code, 0) := by
      unfold stCutP
      have w : decide (1 < ((pre ++ [(a.1, (a.1.length : Int))]) ++ [(([] : List UInt8), (0 : Int))]).length) = true := by
        rw [decide_eq_true_eq]; simp only [List.length_append, List.length_singleton]; omega
      rw [hx.ok, cond_true, lastS_snoc, w, take_snoc]
      rfl
    have g4 : (pre ++ [(a.1, (a.1.length : Int))]).length ≤ 281474976710656 := by
      simp only [List.length_append, List.length_singleton]; omega
    show (rollP (rL code) (rC code)).2.2 = 0 ∧ smS (rollP (rL code) (rC code)).1 = true ∧ ((rollP (rL code) (rC code)).1.length : Int) = wk64 (((rL code).length : Int) + 1) ∧
        allP (rollP (rL code) (rC code)).1 (rollP (rL code) (rC code)).2.1 = allP (rL code) (rC code) ∧ looseP (rollP (rL code) (rC code)).1 (rollP (rL code) (rC code)).2.1 = 0 ∧
        (stCutP (rollP (rL code) (rC code)).1 (rollP (rL code) (rC code)).2.1 0).2.2 = 0 ∧ (stCutP (rollP (rL code) (rC code)).1 (rollP (rL code) (rC code)).2.1 0).1.length ≤ 281474976710656 ∧
        (stCutP (rollP (rL code) (rC code)).1 (rollP (rL code) (rC code)).2.1 0).2.1 = (syncP (rL code) (rC code)).2 ∧
        (stCutP (rollP (rL code) (rC code)).1 (rollP (rL code) (rC code)).2.1 0).1 = (syncP (rL code) (rC code)).1
    rw [hl1] at hA ⊢
    rw [hA]
    simp only [hc, hs']
    refine ⟨trivial, hx.sm, g1, hx.all.trans (g2.trans hi.all.symm), hx.loose.trans (by decide), ?_⟩
    simp [g4]
    omega
  · refine .inr ⟨h0, ?_⟩
    show ((rollP (rL code) (rC code)).1.length : Int) = 0
    rw [roll_code h0]; rfl

theorem code_small {x : List Int} (h : Good (.slice (.int .u8)) x) : x.length ≤ 281474976710656 := by
  have e : reachBytes = 140737488351232 := rfl
  have := h.1
  rw [e] at this
  omega
def lRolls_s : List AV → List Ob → Br
  | [.sh (.int .u8) code], [] => .ite (decide (code.length ≤ 281474976710656)) (.ret (.bool true) []) .fail
  | _, _ => .fail
theorem lRolls_ok : Sound Kx 4 lRolls_s := by
  refine sound_run (C := lRolls_C F0) (O := lRolls_O) KOk lRolls_C_ok Try.func4 (by kernel_rfl) fun args objs res os h => ?_
  unfold lRolls_s at h
  split at h
  · obtain ⟨h1, h2⟩ := ite_some h
    refine ⟨1, (lRolls_run F0 _).trans ?_⟩
    rw [← h2]
    exact lRolls_val _ (of_decide_eq_true h1)
  · cases h
theorem fnRolls_true (xs : List AV) (h : Args [(.slice (.int .u8), false)] xs) : (lRolls_s xs []).val = some (.bool true, []) := by
  obtain ⟨x, a', hg, rfl, rfl⟩ := h
  show (Br.ite (decide (x.length ≤ 281474976710656)) (.ret (.bool true) []) .fail).val = _
  rw [decide_eq_true (code_small hg)]
  rfl

end
end Go.Proofs.Ytmigffdeghfbhaa.Ev
