/- (impl.Store).allBytes. -/
import Derived.Test.YtmigffdeghfbhaaBld
import Derived.Test.YtmigffdeghfbhaaStoreM
namespace Go.Proofs.Ytmigffdeghfbhaa.Ev
open Go.Shelf Go.RowKit Go
set_option linter.unusedVariables false

theorem alloc_sz (w : World) (x : Obj) : (w.alloc x).heap.size = w.heap.size + 1 := by simp
theorem byteCells_strCells (s : List UInt8) : Lib.strCells ⟨s.toArray⟩ = Lib.byteCells s := rfl
theorem allB_snoc : ∀ (pre : Segs) (a : List UInt8 × Int), allB (pre ++ [a]) = allB pre ++ a.1
  | [], a => by simp [allB]
  | b :: r, a => by simp only [List.cons_append, allB, allB_snoc r a, List.append_assoc]
theorem allB_take (l : Segs) (k : Nat) (h : k < l.length) : allB (l.take (k + 1)) = allB (l.take k) ++ (l[k]'h).1 := by
  rw [List.take_succ_eq_append_getElem h, allB_snoc]
theorem total_take : ∀ (l : Segs) (k : Nat), total (l.take k) ≤ total l
  | [], k => by simp
  | a :: r, 0 => by simp [total]
  | a :: r, k + 1 => by simp only [List.take_succ_cons, total]; have := total_take r k; omega

set_option maxHeartbeats 4000000 in
set_option maxRecDepth 1000000 in
theorem all_walk (l : Segs) (hl : l.length ≤ 40) (ht : total l ≤ 60000) (a : Option Addr) (cp : Nat) (c : Int) (w : World)
    (hc : ∀ i (h : i < l.length), ∃ b o, a = some ⟨b, o, none⟩ ∧ w.cell? ⟨b, o + i * 2, none⟩ = some (.string ⟨(l[i]).1.toArray⟩) ∧ w.cell? ⟨b, o + i * 2 + 1, none⟩ = some (.int .i64 (l[i]).2)) :
    Calls Try.prog 29 #[.agg #[.slice a l.length cp, .int .i64 c]] w fun e w' => e = .returned (.string ⟨(allB l).toArray⟩) ∧ Below w.heap.size w w' := by
  go_enter Try.func29, Try.ntmps29
  go_wp2
  go_loopw [9] (fun i wr => ∃ k : Nat, k ≤ l.length ∧ i = .int .i64 k ∧ Lib.IsBuilderF 65 5 (w.heap.size + 1) (w.heap.size + 1) (Lib.byteCells (allB (l.take k))) wr ∧ Below w.heap.size w wr ∧ w.heap.size + 2 ≤ wr.heap.size) (fun i _ => l.length - (intOf i).toNat)
  case atStart =>
    refine ⟨0, Nat.zero_le _, rfl, ?_, ((Below.refl _ w).alloc (Nat.le_refl _) _).alloc (by simp) _, by simp⟩
    have e : w.heap.size + 1 = (w.alloc (Obj.cells #[Value.slice a l.length cp, Value.int IntKind.i64 c] 25)).heap.size := by simp
    rw [e]
    exact Lib.IsBuilderF.of (Lib.fresh_isBuilder 65 5 _)
  case round =>
    obtain ⟨k, hk, rfl, hI, hb, hsz⟩ := hrel
    by_cases hlt : k < l.length
    · obtain ⟨b, o, rfl, h1, h2⟩ := hc k hlt
      have hbb : b < w.heap.size := World.block_lt_of_cell? w ⟨b, o + k * 2, none⟩ h1
      have g1 : wr.cell? ⟨b, o + k * 2, none⟩ = _ := (hb.cell (p := ⟨b, o + k * 2, none⟩) hbb).trans h1
      have g2 : wr.cell? ⟨b, o + k * 2 + 1, none⟩ = _ := (hb.cell (p := ⟨b, o + k * 2 + 1, none⟩) hbb).trans h2
      have e1 := allB_take l k hlt
      have e2 := total_take l (k + 1)
      rw [← allB_len, e1, List.length_append] at e2
      go_wp2_with (go_at_call 39; refine (Try.bld_write (w.heap.size + 1) (w.heap.size + 1) _ ⟨(l[k]).1.toArray⟩ _ (hI.alloc _) ?_ ?_).mono ?_)
      · rw [Lib.byteCells_length]
        show _ + (l[k]).1.toArray.size ≤ _
        simp only [List.size_toArray]; omega
      · simp only [alloc_sz]; omega
      · rintro e w1 ⟨rfl, hB1, bB1, _⟩
        have sz1 := bB1.size
        go_wp2
        go_roundw
        case rel =>
          refine ⟨k + 1, by omega, by go_num, ?_, (hb.alloc (by omega) _).trans (bB1.mono (by omega)), by simp only [alloc_sz] at sz1; omega⟩
          rw [e1, Lib.byteCells_append]
          exact Or.inr hB1
        case measure => simp [intOf]; omega
    · have hkl : k = l.length := by omega
      subst hkl
      rw [List.take_length] at hI
      go_wp2_with (go_at_call 40; refine (Try.bld_string (w.heap.size + 1) (w.heap.size + 1) (allB l) _ hI (by omega)).mono ?_)
      rintro e w1 ⟨rfl, _, bB1, _⟩
      go_wp2
      go_ret
      exact ⟨rfl, hb.trans (bB1.mono (by omega))⟩

/-- allBytes, as a spec. -/
def allQ_s : List AV → List Ob → Br
  | [.agg [.sh (.pair .str (.int .i64)) l, .int .i64 c]], [] => .ite (decide (l.length ≤ 40) && decide (total l ≤ 60000)) (.ret (.str (allB l)) []) .fail
  | _, _ => .fail
theorem all_okQ : Sound Kx 29 allQ_s := by
  refine sound_calls Try.func29 (by kernel_rfl) rfl fun args objs res objs' hv w L vs hR hr => ?_
  unfold allQ_s at hv
  split at hv
  case h_2 => cases hv
  rename_i l c
  obtain ⟨h1, h2⟩ := ite_some hv
  simp only [Bool.and_eq_true, decide_eq_true_eq] at h1
  cases h2
  refine ⟨rfl, ?_⟩
  simp only [rels, rel] at hr
  obtain ⟨v, vs', rfl, ⟨cs, rfl, ⟨v1, c1, hcs, hsl, v2, c2, rfl, rfl, rfl⟩, _⟩, rfl⟩ := hr
  obtain ⟨a, n, cp, hv1, hn, _, hcell⟩ := hsl
  cases hv1
  subst hn
  have hcs' : cs = #[.slice a l.length cp, .int .i64 c] := by cases cs; simp_all
  subst hcs'
  refine (all_walk l h1.1 h1.2 a cp c w fun i hi => ?_).mono ?_
  · rcases hcell with rfl | ⟨b, o, rfl, hc⟩
    · simp at hi
    · obtain ⟨ds, hd1, hd2, hd3⟩ := hc i hi
      obtain ⟨d1, d2, rfl, e1, e2⟩ := hd2
      simp only [rd] at e1 e2
      subst e1 e2
      have z : Ty.size (.pair .str (.int .i64)) = 2 := rfl
      have q0 := (hd3 0 (by rw [z]; omega)).1
      have q1 := (hd3 1 (by rw [z]; omega)).1
      rw [z] at q0 q1
      exact ⟨b, o, rfl, by simpa using q0, by simpa using q1⟩
  · rintro e w' ⟨rfl, hb⟩
    exact ⟨_, rfl, hb, by simp [rel]⟩

end Go.Proofs.Ytmigffdeghfbhaa.Ev
