/- The texts Sc, one behind the other. -/
import Derived.Test.YtdknaddanjpdaaaGreatDoorK24
import Derived.Test.YtdknaddanjpdaaaGreatDoorK20
import Derived.Test.YtdknaddanjpdaaaGreatDoorK25
namespace Go.Proofs.YtdknaddanjpdaaaGreatDoor.Ev
open Go Go.RowKit
set_option linter.unusedVariables false
set_option linter.unusedSimpArgs false
noncomputable section
def nConn : Bytes := [99, 111, 110, 110, 101, 99, 116, 105, 111, 110]
def hopB : List Bytes := [[99, 111, 110, 110, 101, 99, 116, 105, 111, 110], [107, 101, 101, 112, 45, 97, 108, 105, 118, 101], [112, 114, 111, 120, 121, 45, 99, 111, 110, 110, 101, 99, 116, 105, 111, 110], [116, 101], [116, 114, 97, 105, 108, 101, 114], [116, 114, 97, 110, 115, 102, 101, 114, 45, 101, 110, 99, 111, 100, 105, 110, 103], [117, 112, 103, 114, 97, 100, 101]]
def hopP (l : List Fd) : List Bytes := ((wordsP l nConn).filter tokP).foldl (fun o w => putP o (foldP w)) hopB
def hopL (l : List Fd) : List Bytes := bif fdsOk l then hopP l else []
theorem hopB_put : hopB.foldl putP [] = hopB := by kernel_rfl
theorem hop_eq (l : List Fd) : compP (sortP (hopB ++ ((wordsP l nConn).filter tokP).map foldP)) = hopP l := by
  rw [comp_sort, List.foldl_append, hopB_put, List.foldl_map]; rfl
theorem iHop_loop (k : List Bytes → Option Rs) (ws : List Bytes) (hl : ws.length ≤ 100000) : ∀ (r : List Bytes) (i : Int) (n : Nat) (out : List Bytes), At ws i r → r.length < n → (∀ x ∈ r, isM x = true) → out.length + r.length ≤ 200000 →
    iHop_F5 n (ws.length : Int) i out ws k = k (out ++ (r.filter tokP).map foldP) := by
  intro r; induction r with
  | nil => intro i n out h hn hf ho; obtain ⟨n, rfl⟩ := fuel hn; unfold iHop_F5 iHop_T5; rw [h.dge, cond_false]; simp
  | cons a r ih =>
    intro i n out h hn hf ho; obtain ⟨n, rfl⟩ := fuel hn
    have ha := hf a (List.mem_cons_self ..)
    have hr := fun x h => hf x (List.mem_cons_of_mem _ h)
    simp only [List.length_cons] at hn ho
    unfold iHop_F5 iHop_T5
    simp (disch := omega) only [h.dlt, h.dnn, h.get, h.next (by omega), ha, cond_true, ap1]
    rw [List.filter_cons]
    cases tokP a
    · simp only [cond_false]
      exact ih (i + 1) n _ h.step (by omega) hr (by omega)
    · rw [cond_true, one_set, ih (i + 1) n _ h.step (by omega) hr (by simp only [List.length_append, List.length_singleton]; omega)]
      simp
theorem sHop_loop (k : List Bytes → Option Rs) (ws : List Bytes) (hl : ws.length ≤ 100000) : ∀ (r : List Bytes) (i : Int) (n : Nat) (out : List Bytes), At ws i r → r.length < n → (∀ x ∈ r, isM x = true) → out.length + r.length ≤ 200000 →
    sHop_F6 n out i ws k = k ((r.filter tokP).foldl (fun o w => putP o (foldP w)) out) := by
  intro r; induction r with
  | nil => intro i n out h hn hf ho; obtain ⟨n, rfl⟩ := fuel hn; unfold sHop_F6 sHop_T6; rw [h.dge, cond_false]; rfl
  | cons a r ih =>
    intro i n out h hn hf ho; obtain ⟨n, rfl⟩ := fuel hn
    have ha := hf a (List.mem_cons_self ..)
    have hr := fun x h => hf x (List.mem_cons_of_mem _ h)
    simp only [List.length_cons] at hn ho
    have hp := put_len out (foldP a)
    unfold sHop_F6 sHop_T6
    simp (disch := omega) only [h.dlt, h.dnn, h.get, h.next (by omega), ha, cond_true, dle']
    rw [List.filter_cons]
    cases tokP a
    · simp only [cond_false]
      exact ih (i + 1) n _ h.step (by omega) hr (by omega)
    · rw [cond_true, ih (i + 1) n _ h.step (by omega) hr (by omega)]
      rfl
def hoR_s : List AV → List Ob → Br
  | [.sh (.pair .str .str) l], [] => .ret (.ref 0 0) [.arr .str 0 false (hopL l)]
  | _, _ => .fail
def hoS_s : List AV → List Ob → Br
  | [.sh (.pair .str .str) l], [] => .ite (fdsOk l) (.ret (.sh .str (hopP l)) []) (.ret (.ref 0 0) [.arr .str 0 false []])
  | _, _ => .fail
theorem iHop_okQ : Sound Kx 134 hoR_s := by
  refine (iHop_okOf (φ := fun l => .ret (.ref 0 0) [.arr .str 0 false (hopL l)]) (fun l => (wordsP l nConn).length + 1) fun l r h => ?_).of fun args objs r h => ?_
  · cases h
    obtain ⟨h1, h2⟩ := words_bd l nConn
    unfold iHop_run hopL
    cases fdsOk l
    · rfl
    rw [← hop_eq]
    have hf : ((wordsP l nConn).filter tokP).length ≤ 4001 := Nat.le_trans (List.length_filter_le ..) h1
    have hs : (sortP (hopB ++ ((wordsP l nConn).filter tokP).map foldP)).length ≤ 5000 := by
      unfold sortP; rw [List.length_mergeSort, List.length_append, List.length_map, show hopB.length = 7 from rfl]; omega
    refine (iHop_loop _ (wordsP l nConn) (by omega) _ 0 _ hopB (At.start _) (by omega) h2 (by rw [show hopB.length = 7 from rfl]; omega)).trans ?_
    rw [dle' (by rw [List.length_append, List.length_map, show hopB.length = 7 from rfl]; omega), dle' (by omega)]; rfl
  · unfold hoR_s at h; split at h
    · exact h
    · cases h
theorem sHop_okQ : Sound Kx 125 hoS_s := by
  refine (sHop_okOf (φ := fun l => .ite (fdsOk l) (.ret (.sh .str (hopP l)) []) (.ret (.ref 0 0) [.arr .str 0 false []])) (fun l => (wordsP l nConn).length + 1) fun l r h => ?_).of fun args objs r h => ?_
  · obtain ⟨h1, h2⟩ := words_bd l nConn
    unfold sHop_run
    cases c : fdsOk l
    · rw [c] at h; exact h
    rw [c] at h; cases h
    exact sHop_loop _ (wordsP l nConn) (by omega) _ 0 _ hopB (At.start _) (by omega) h2 (by rw [show hopB.length = 7 from rfl]; omega)
  · unfold hoS_s at h; split at h
    · exact h
    · cases h
theorem hop_len (l : List Fd) : (hopL l).length ≤ 5000 := by
  unfold hopL
  cases fdsOk l
  · exact Nat.zero_le _
  rw [cond_true, ← hop_eq]
  refine Nat.le_trans (comp_len _) ?_
  have hf : ((wordsP l nConn).filter tokP).length ≤ 4001 := Nat.le_trans (List.length_filter_le ..) (words_bd l nConn).1
  unfold sortP; rw [List.length_mergeSort, List.length_append, List.length_map, show hopB.length = 7 from rfl]; omega
def offP (l : List Fd) (hops : List Bytes) : List Fd := l.filter fun f => !inP hops (foldP f.1)
theorem keptE_loop (l : List Fd) (hl : l.length ≤ 20) (hops : List Bytes) (hh : hops.length ≤ 1000000) (k : List Bytes → List Fd → Option Rs) : ∀ (r : List Fd) (i : Int) (n : Nat) (out : List Fd), At l i r → r.length < n → (∀ f ∈ r, fdOk f = true) → out.length + r.length ≤ 20 →
    keptE_F5 n l (l.length : Int) i hops out k = k hops (out ++ offP r hops) := by
  intro r; induction r with
  | nil => intro i n out h hn hf ho; obtain ⟨n, rfl⟩ := fuel hn; unfold keptE_F5 keptE_T5; rw [h.dge, cond_false]; simp [offP]
  | cons f r ih =>
    intro i n out h hn hf ho; obtain ⟨n, rfl⟩ := fuel hn
    simp only [List.length_cons] at hn ho
    have hm1 := (fdOk_isM (hf f (List.mem_cons_self ..))).1
    have hr := fun x hx => hf x (List.mem_cons_of_mem _ hx)
    have hd : decide (hops.length ≤ 1000000) = true := decide_eq_true hh
    unfold keptE_F5 keptE_T5
    simp only [h.dlt, h.dnn, h.get, h.next (by omega), hm1, hd, cond_true]
    unfold offP at ih ⊢
    rw [List.filter_cons]
    cases inP hops (foldP f.1)
    · simp only [Bool.not_false, cond_true, if_true]
      rw [apF out _ (by omega), cond_true, ih (i + 1) n _ h.step (by omega) hr (by rw [List.length_append, List.length_set, List.length_replicate]; omega)]
      simp
    · simp only [Bool.not_true, cond_false]
      exact ih (i + 1) n _ h.step (by omega) hr (by omega)
def keE_s : List AV → List Ob → Br
  | [.sh (.pair .str .str) l, .fn 135 [.ptr 0 0]], [.var [.ref 1 0], .arr .str 0 false hops] => .ite (decide (hops.length ≤ 1000000)) (.ret (.ref 2 0) [.var [.ref 1 0], .arr .str 0 false hops, .arr (.pair .str .str) 0 false (bif fdsOk l then offP l hops else [])]) .fail
  | _, _ => .fail
theorem keptE_okQ : Sound Kx 72 keE_s := by
  refine (keptE_okOf (φ := fun l hops => .ite (decide (hops.length ≤ 1000000)) (.ret (.ref 2 0) [.var [.ref 1 0], .arr .str 0 false hops, .arr (.pair .str .str) 0 false (bif fdsOk l then offP l hops else [])]) .fail) (fun l _ => l.length + 1) fun l hops r h => ?_).of fun args objs r h => ?_
  · obtain ⟨h1, h2⟩ := ite_some h
    cases h2
    unfold keptE_run
    cases hf : fdsOk l
    · rfl
    · obtain ⟨g1, g2⟩ := fdsOk_mem hf
      exact keptE_loop l g1 hops (of_decide_eq_true h1) _ l 0 _ [] (At.start l) (by omega) g2 (by rw [List.length_nil]; omega)
  · unfold keE_s at h; split at h
    · exact h
    · cases h
end
end Go.Proofs.YtdknaddanjpdaaaGreatDoor.Ev
