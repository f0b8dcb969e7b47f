/- The texts Ne, Nf, Ng, Nh, Ni, Nj, Nk, Nl, one behind the other. -/
import Derived.Test.YtgknmoadpgpdeaaGreatDoorK17
import Derived.Test.YtgknmoadpgpdeaaGreatDoorK16
import Derived.Test.YtgknmoadpgpdeaaGreatDoorK13
namespace Go.Proofs.YtgknmoadpgpdeaaGreatDoor.Ev
open Go Go.RowKit
set_option linter.unusedVariables false
set_option linter.unusedSimpArgs false
noncomputable section

def iJoined_C : SC := [⟨47, _, iValues_okQ⟩, ⟨223, _, join_okQ⟩]
def iJoined_br (l : List Fd) (name : Bytes) : Br := (Br.ite (isM name) (Br.ite ((decide ((List.length (vals l name)) ≤ 1000000)) && (decide ((List.length (joinP (vals l name) ([44, 32] : Bytes))) ≤ 1000000))) (Br.ret (AV.str (joinP (vals l name) ([44, 32] : Bytes))) []) Br.fail) Br.fail)
def iJoined_s : List AV → List Ob → Br
  | [.sh (.pair .str .str) l, .str name], [] => iJoined_br l name
  | _, _ => .fail
theorem iJoined_ok : Sound Kx 161 iJoined_s := sound_br (C := iJoined_C) (O := O0) Tryz.func161 (by kernel_rfl) fun args objs => by
  unfold iJoined_s; split
  · exact .inr (by kernel_rfl)
  · exact .inl rfl


theorem dle' {a b : Nat} (h : a ≤ b) : decide (a ≤ b) = true := decide_eq_true h
theorem vals_len (l : List Fd) (name : Bytes) : (vals l name).length ≤ 20 ∧ ∀ x ∈ vals l name, x.length ≤ 190 := by
  unfold vals
  cases h : fdsOk l
  · simp
  · rw [cond_true]
    obtain ⟨h1, h2⟩ := fdsOk_mem h
    refine ⟨?_, fun x hx => ?_⟩
    · unfold valsR; rw [List.length_map]; exact Nat.le_trans (List.length_filter_le _ _) h1
    · unfold valsR at hx
      obtain ⟨f, hf, rfl⟩ := List.mem_map.1 hx
      exact (fdOk_len (h2 f (List.mem_filter.1 hf).1)).2
def sepC : Bytes := [44, 32]
theorem tail_cons (x : Bytes) (r : List Bytes) : Lib.joinTail sepC (x :: r) = sepC ++ x ++ Lib.joinTail sepC r := by simp [Lib.joinTail]
theorem tail_len : ∀ (r : List Bytes), (∀ x ∈ r, x.length ≤ 190) → (Lib.joinTail sepC r).length ≤ 192 * r.length
  | [], _ => by simp [Lib.joinTail]
  | x :: r, h => by
    have h1 := h x (List.mem_cons_self ..)
    have h2 := tail_len r fun y hy => h y (List.mem_cons_of_mem _ hy)
    have h3 : sepC.length = 2 := rfl
    rw [tail_cons]
    simp only [List.length_append, List.length_cons, h3]; omega
theorem join_tail (x : Bytes) (r : List Bytes) : joinP (x :: r) sepC = x ++ Lib.joinTail sepC r := Lib.join_cons x r sepC
def joinedP (l : List Fd) (name : Bytes) : Bytes := joinP (vals l name) sepC
theorem joined_len (l : List Fd) (name : Bytes) : (joinedP l name).length ≤ 4000 := by
  unfold joinedP
  obtain ⟨h1, h2⟩ := vals_len l name
  cases hv : vals l name with
  | nil => simp [joinP, Lib.join_nil]
  | cons x r =>
    rw [hv] at h1 h2
    have := h2 x (List.mem_cons_self ..)
    have := tail_len r fun y hy => h2 y (List.mem_cons_of_mem _ hy)
    rw [join_tail, List.length_append]
    simp only [List.length_cons] at h1; omega
def jo_s (p : List Fd → Bytes → AV) : List AV → List Ob → Br
  | [.sh (.pair .str .str) l, .str name], [] => .ite (isM name) (.ret (p l name) []) .fail
  | _, _ => .fail
theorem iJoined_okQ : Sound Kx 161 (jo_s fun l name => .str (joinedP l name)) := iJoined_ok.of fun args objs r h => by
  unfold jo_s at h
  split at h
  case h_2 => cases h
  rename_i l name
  obtain ⟨h1, h2⟩ := ite_some h
  cases h2
  show (iJoined_br l name).val = _
  unfold iJoined_br
  have g1 := (vals_len l name).1
  have g2 := joined_len l name
  unfold joinedP sepC at g2
  refine (val_t h1).trans ((val_t ?_).trans rfl)
  rw [decide_eq_true (by omega), decide_eq_true (by omega)]; rfl

def bytesLess (a b : Bytes) : Bool := Op.bytesLess a b
def inP (l : List Bytes) (s : Bytes) : Bool := l.any fun x => decide (x = s)

def iWords_C : SC := [⟨161, _, iJoined_okQ⟩, ⟨160, _, iElements_okQ⟩]
def iWords_br (l : List Fd) (name : Bytes) : Br := (Br.ite (isM name) (Br.ret (AV.ref 0 0) ((Ob.arr Ty.str 0 false (elemP (joinedP l name))) :: [])) Br.fail)
def iWords_s : List AV → List Ob → Br
  | [.sh (.pair .str .str) l, .str name], [] => iWords_br l name
  | _, _ => .fail
theorem iWords_ok : Sound Kx 87 iWords_s := sound_br (C := iWords_C) (O := O0) Tryz.func87 (by kernel_rfl) fun args objs => by
  unfold iWords_s; split
  · exact .inr (by kernel_rfl)
  · exact .inl rfl


def wordsP (l : List Fd) (name : Bytes) : List Bytes := elemP (joinedP l name)
def wo_s : List AV → List Ob → Br
  | [.sh (.pair .str .str) l, .str name], [] => .ite (isM name) (.ret (.ref 0 0) [.arr .str 0 false (wordsP l name)]) .fail
  | _, _ => .fail
theorem iWords_okQ : Sound Kx 87 wo_s := iWords_ok.of fun args objs r h => by
  unfold wo_s at h
  split at h
  · exact h
  · cases h
def insP : List Bytes → Bytes → List Bytes
  | [], s => [s]
  | x :: r, s => bif bytesLess s x then s :: x :: r else x :: insP r s
def putP (l : List Bytes) (s : Bytes) : List Bytes := bif inP l s then l else insP l s
theorem ap1 (out : List Bytes) (x : Bytes) (h : out.length ≤ 5000000) : decide ((out.length + (List.set (List.replicate 1 ([] : Bytes)) 0 x).length) * 16 ≤ 140737488355328) = true := decide_eq_true (by rw [one_set, List.length_singleton]; omega)

def iVary_O : Opt := { mutF := [165,166], live := [(3, [3, 7, 8, 9])], outs := [(3, [2, 3])] }
def iVary_C : SC := [⟨118, _, ifold_okQ⟩, ⟨87, _, iWords_okQ⟩, ⟨165, _, sort_okQ⟩, ⟨166, _, comp_okQ⟩]
def iVary_T3 (v3x0 v3x1 : Int) (v3x2 v3x3 : (List Bytes)) (kR3 : Int → Int → (List Bytes) → (List Bytes) → Option Rs) (k3e0 : (List Bytes) → Option Rs) : Option Rs :=
  (bif (decide (v3x1 < v3x0)) then (bif (decide (0 ≤ v3x1)) then (bif (decide (v3x1 < (v3x3.length : Int))) then (bif (isM (List.getD v3x3 (Int.toNat v3x1) ([] : Bytes))) then (bif (decide (((v3x2.length + (List.length (List.set (List.replicate 1 ([] : Bytes)) 0 (foldP (List.getD v3x3 (Int.toNat v3x1) ([] : Bytes)))))) * 16) ≤ 140737488355328)) then (kR3 v3x0 (wk64 (v3x1 + 1)) (v3x2 ++ (List.set (List.replicate 1 ([] : Bytes)) 0 (foldP (List.getD v3x3 (Int.toNat v3x1) ([] : Bytes))))) v3x3) else (none)) else (none)) else (none)) else (none)) else (k3e0 v3x2))
def iVary_F3 : Nat → Int → Int → (List Bytes) → (List Bytes) → ((List Bytes) → Option Rs) → Option Rs
  | 0, _, _, _, _, _ => none
  | n + 1, v3x0, v3x1, v3x2, v3x3, k3e0 => iVary_T3 v3x0 v3x1 v3x2 v3x3 (fun v3x0 v3x1 v3x2 v3x3 => iVary_F3 n v3x0 v3x1 v3x2 v3x3 k3e0) k3e0
abbrev iVary_p3 : SP := ⟨23, [3, 7, 8, 9], [(.v (.ref 256 0)), (.v (.ref 512 0)), (.v (.i .i64)), (.v (.i .i64))], [(256, .arr Ty.str 0 false), (512, .arr Ty.str 0 false)]⟩
noncomputable def iVary_b3 : Code := codeAt (codeOf Tryz.f92) [1, 1, 0, 1, 0, 0]
def iVary_E3 (f : ((List Bytes) → Option Rs) → Option Rs) (k : KT) : Option Rs := f (fun x3x0x0 => k (Ex.exit 0) ((St.mk (slots 0 23 [(3, (AV.ref 256 0))]) ((256, (Ob.arr Ty.str 0 false x3x0x0)) :: ([] : (List (Nat × (Ob))))))))
def iVary_G3 (n : Nat) (d : iVary_p3.D) : KT → Option Rs := iVary_E3 (iVary_F3 n d.1.2.2.1 d.1.2.2.2.1 d.2.1 d.2.2.1)
def iVary_L (N : Nat) : Lam := lamOf [⟨3, iVary_p3, iVary_G3 N⟩]
theorem iVary_ok3 (N : Nat) : OkL Kx iVary_C.s iVary_O 0 N (iVary_L N) iVary_b3 := okL iVary_p3 (iVary_G3) (fun d kR => iVary_E3 (iVary_T3 d.1.2.2.1 d.1.2.2.2.1 d.2.1 d.2.2.1 (fun v3x0 v3x1 v3x2 v3x3 => kR (((), (), v3x0, v3x1, ()), (v3x2, v3x3, ()))))) (fun _ _ => by kernel_rfl) (fun _ _ _ => by kernel_rfl) (fun _ _ => by kernel_rfl) (fun _ _ _ _ => by kernel_rfl) (okEach (l' := []) (by kernel_rfl) trivial)
def iVary_run (N : Nat) (l : List Fd) : Option Rs := (iVary_F3 N ((List.length (wordsP l ([118, 97, 114, 121] : Bytes))) : Int) 0 ([] : (List Bytes)) (wordsP l ([118, 97, 114, 121] : Bytes)) (fun x3x0x0 => (bif (decide (x3x0x0.length ≤ 1000000)) then (bif (decide ((List.length (sortP x3x0x0)) ≤ 1000000)) then (some ((AV.ref 0 0), ((Ob.arr Ty.str 0 false (compP (sortP x3x0x0))) :: []))) else (none)) else (none))))
def iVary_sOf (φ : (List Fd) → Br) : List AV → List Ob → Br
  | [.sh (.pair .str .str) l], [] => φ l
  | _, _ => .fail
theorem iVary_okOf {φ : (List Fd) → Br} (fu : (List Fd) → Nat) (hv : ∀ l res_, (φ l).val = some res_ → iVary_run (fu l) l = some res_) : Sound Kx 92 (iVary_sOf φ) := sound_lp (C := iVary_C) (O := iVary_O) Tryz.func92 (by kernel_rfl) fun args objs => by
  unfold iVary_sOf; split
  · rename_i l; exact .inr fun _ hyp_ => run_lp (Λ := iVary_L (fu l)) (by kernel_rfl) (okEach (l' := [iVary_b3]) (by kernel_rfl) ⟨iVary_ok3 _, trivial⟩) (by kernel_rfl) (hv l _ hyp_)
  · exact .inl rfl

end
end Go.Proofs.YtgknmoadpgpdeaaGreatDoor.Ev

namespace Go.Proofs.YtgknmoadpgpdeaaGreatDoor.Ev
open Go Go.RowKit
set_option linter.unusedVariables false
set_option linter.unusedSimpArgs false

abbrev Asc (l : List Bytes) : Prop := l.Pairwise fun a b => a < b
theorem asc_eq : ∀ {l m : List Bytes}, Asc l → Asc m → (∀ x, x ∈ l ↔ x ∈ m) → l = m
  | [], [], _, _, _ => rfl
  | [], b :: m, _, _, h => by have := (h b).2 (List.mem_cons_self ..); cases this
  | a :: l, [], _, _, h => by have := (h a).1 (List.mem_cons_self ..); cases this
  | a :: l, b :: m, h1, h2, h => by
    obtain ⟨g1, g2⟩ := List.pairwise_cons.1 h1
    obtain ⟨k1, k2⟩ := List.pairwise_cons.1 h2
    have hab : a = b := by
      rcases List.mem_cons.1 ((h a).1 (List.mem_cons_self ..)) with e | e
      · exact e
      · rcases List.mem_cons.1 ((h b).2 (List.mem_cons_self ..)) with e' | e'
        · exact e'.symm
        · exact absurd (k1 a e) (List.lt_asymm (g1 b e'))
    subst hab
    congr 1
    refine asc_eq g2 k2 fun x => ⟨fun hx => ?_, fun hx => ?_⟩
    · rcases List.mem_cons.1 ((h x).1 (List.mem_cons_of_mem _ hx)) with e | e
      · subst e; exact absurd (g1 x hx) (List.lt_irrefl x)
      · exact e
    · rcases List.mem_cons.1 ((h x).2 (List.mem_cons_of_mem _ hx)) with e | e
      · subst e; exact absurd (k1 x hx) (List.lt_irrefl x)
      · exact e
theorem less_eq (a b : Bytes) : bytesLess a b = decide (a < b) := bytesLess_eq a b
theorem lt_of_not {a b : Bytes} (h1 : ¬ a < b) (h2 : b ≠ a) : b < a := by
  rcases Classical.em (b < a) with h | h
  · exact h
  · exact absurd (List.le_antisymm (List.not_lt.1 h1) (List.not_lt.1 h)) h2
theorem mem_ins (s x : Bytes) : ∀ l : List Bytes, x ∈ insP l s ↔ x ∈ l ∨ x = s
  | [] => by simp [insP]
  | a :: l => by
    unfold insP
    cases bytesLess s a
    · simp only [cond_false, List.mem_cons, mem_ins s x l, or_assoc]
    · simp only [cond_true, List.mem_cons]
      constructor
      · rintro (h | h | h)
        · exact .inr h
        · exact .inl (.inl h)
        · exact .inl (.inr h)
      · rintro ((h | h) | h)
        · exact .inr (.inl h)
        · exact .inr (.inr h)
        · exact .inl h
theorem asc_ins (s : Bytes) : ∀ {l : List Bytes}, Asc l → s ∉ l → Asc (insP l s)
  | [], _, _ => by simp [insP]
  | a :: l, h, hs => by
    obtain ⟨g1, g2⟩ := List.pairwise_cons.1 h
    unfold insP
    cases hb : bytesLess s a
    · rw [less_eq] at hb
      have hab : a < s := lt_of_not (of_decide_eq_false hb) fun e => hs (by rw [e]; exact List.mem_cons_self ..)
      rw [cond_false]
      refine List.pairwise_cons.2 ⟨fun y hy => ?_, asc_ins s g2 fun e => hs (List.mem_cons_of_mem _ e)⟩
      rcases (mem_ins s y l).1 hy with e | e
      · exact g1 y e
      · subst e; exact hab
    · rw [less_eq] at hb
      have hab := of_decide_eq_true hb
      rw [cond_true]
      refine List.pairwise_cons.2 ⟨fun y hy => ?_, h⟩
      rcases List.mem_cons.1 hy with e | e
      · subst e; exact hab
      · exact List.lt_trans hab (g1 y e)
theorem inP_iff (l : List Bytes) (s : Bytes) : inP l s = true ↔ s ∈ l := by
  unfold inP
  simp
theorem mem_put (l : List Bytes) (s x : Bytes) : x ∈ putP l s ↔ x ∈ l ∨ x = s := by
  unfold putP
  cases h : inP l s
  · exact mem_ins s x l
  · rw [cond_true]
    refine ⟨.inl, fun h2 => ?_⟩
    rcases h2 with e | e
    · exact e
    · subst e; exact (inP_iff l x).1 h
theorem asc_put {l : List Bytes} (hl : Asc l) (s : Bytes) : Asc (putP l s) := by
  unfold putP
  cases h : inP l s
  · exact asc_ins s hl fun e => by rw [(inP_iff l s).2 e] at h; cases h
  · exact hl
theorem foldl_put : ∀ (xs l : List Bytes), Asc l → Asc (xs.foldl putP l) ∧ ∀ x, x ∈ xs.foldl putP l ↔ x ∈ l ∨ x ∈ xs
  | [], l, h => ⟨h, fun x => by simp⟩
  | a :: xs, l, h => by
    obtain ⟨h1, h2⟩ := foldl_put xs (putP l a) (asc_put h a)
    refine ⟨h1, fun x => ?_⟩
    show x ∈ xs.foldl putP (putP l a) ↔ _
    rw [h2, mem_put, List.mem_cons, or_assoc]
theorem le_sorted (xs : List Bytes) : (sortP xs).Pairwise fun a b => a ≤ b := by
  have := List.pairwise_mergeSort (le := fun x y : Bytes => decide (x ≤ y)) (fun a b c h1 h2 => by simp only [decide_eq_true_eq] at *; exact List.le_trans h1 h2) (fun a b => by simp only [Bool.or_eq_true, decide_eq_true_eq]; exact List.le_total a b) xs
  exact this.imp fun h => by simpa using h
theorem mem_sort (xs : List Bytes) (x : Bytes) : x ∈ sortP xs ↔ x ∈ xs := (List.mergeSort_perm xs _).mem_iff
theorem asc_comp {zs : List Bytes} (h : zs.Pairwise fun a b => a ≤ b) : Asc (compP zs) ∧ ∀ x, x ∈ compP zs ↔ x ∈ zs := by
  have hle : ∀ i j, i ≤ j → j < zs.length → zs.toArray[i]! ≤ zs.toArray[j]! := fun i j hij hj => by
    rw [getElem!_pos _ i (by simpa using Nat.lt_of_le_of_lt hij hj), getElem!_pos _ j (by simpa using hj)]
    rcases Nat.lt_or_ge i j with h' | h'
    · simpa using List.pairwise_iff_getElem.1 h i j (by omega) hj h'
    · obtain rfl : i = j := by omega
      exact List.le_refl _
  unfold compP Lib.compact Lib.compactUpTo
  refine ⟨?_, fun x => ⟨fun hx => ?_, fun hx => ?_⟩⟩
  · refine List.pairwise_map.2 ?_
    have h1 : ((List.range zs.length).filter (Lib.keeps zs.toArray)).Pairwise (· < ·) := List.pairwise_lt_range.filter _
    refine h1.imp_of_mem fun {i j} hi hj hij => ?_
    obtain ⟨hj1, hj2⟩ := List.mem_filter.1 hj
    have hj1 := List.mem_range.1 hj1
    have hne : zs.toArray[j]! ≠ zs.toArray[j - 1]! := by
      have := of_decide_eq_true hj2
      rcases this with e | e
      · omega
      · exact e
    have g1 := hle i (j - 1) (by omega) (by omega)
    have g2 := hle (j - 1) j (by omega) hj1
    have g3 : zs.toArray[j - 1]! < zs.toArray[j]! := lt_of_not (fun hlt => hne (List.le_antisymm (List.le_of_lt hlt) g2)) (Ne.symm hne)
    rcases Classical.em (zs.toArray[i]! = zs.toArray[j - 1]!) with e | e
    · rw [e]; exact g3
    · exact List.lt_trans (lt_of_not (fun hlt => e (List.le_antisymm g1 (List.le_of_lt hlt))) e) g3
  · obtain ⟨i, hi, rfl⟩ := List.mem_map.1 hx
    have hi' : i < zs.length := List.mem_range.1 (List.mem_filter.1 hi).1
    simp [getElem!_pos, hi']
  · obtain ⟨i, hi, rfl⟩ := List.mem_iff_getElem.1 hx
    clear hx
    induction i with
    | zero => exact List.mem_map.2 ⟨0, List.mem_filter.2 ⟨List.mem_range.2 hi, by simp [Lib.keeps]⟩, by simp [getElem!_pos, hi]⟩
    | succ i ih =>
      rcases Classical.em (zs[i + 1] = zs[i]) with e | e
      · rw [e]; exact ih (by omega)
      · refine List.mem_map.2 ⟨i + 1, List.mem_filter.2 ⟨List.mem_range.2 hi, ?_⟩, by simp [getElem!_pos, hi]⟩
        refine decide_eq_true (.inr ?_)
        rw [getElem!_pos _ (i + 1) (by simpa using hi), getElem!_pos _ (i + 1 - 1) (by simp; omega)]
        simpa using e
theorem comp_sort (xs : List Bytes) : compP (sortP xs) = xs.foldl putP [] := by
  obtain ⟨h1, h2⟩ := asc_comp (le_sorted xs)
  obtain ⟨h3, h4⟩ := foldl_put xs [] (by simp)
  exact asc_eq h1 h3 fun x => by rw [h2, mem_sort, h4]; simp
end Go.Proofs.YtgknmoadpgpdeaaGreatDoor.Ev

namespace Go.Proofs.YtgknmoadpgpdeaaGreatDoor.Ev
open Go Go.RowKit
set_option linter.unusedVariables false
set_option linter.unusedSimpArgs false
noncomputable section

theorem partE_bd : ∀ (n : Nat) (r cur : Bytes) (q : Bool), r.length ≤ n → (partE cur q r).length ≤ r.length + 1 ∧ ∀ x ∈ partE cur q r, x.length ≤ cur.length + r.length := by
  intro n; induction n with
  | zero =>
    intro r cur q h
    obtain rfl : r = [] := List.length_eq_zero_iff.1 (by omega)
    simp [partE_nil]
  | succ n ih =>
    intro r cur q h
    cases r with
    | nil => simp [partE_nil]
    | cons c r =>
      simp only [List.length_cons] at h
      have step : ∀ (cur' : Bytes) (q' : Bool), cur'.length ≤ cur.length + 1 → (partE cur' q' r).length ≤ (c :: r).length + 1 ∧ ∀ x ∈ partE cur' q' r, x.length ≤ cur.length + (c :: r).length := fun cur' q' hc => by
        obtain ⟨h1, h2⟩ := ih r cur' q' (by omega)
        refine ⟨by simp only [List.length_cons]; omega, fun x hx => ?_⟩
        have := h2 x hx
        simp only [List.length_cons]; omega
      rw [partE_cons]
      cases decide (by8 c = 34)
      · rw [cond_false]
        cases q && decide (by8 c = 92)
        · rw [cond_false]
          cases !q && decide (by8 c = 44)
          · rw [cond_false]; exact step _ _ (by simp)
          · rw [cond_true]
            obtain ⟨h1, h2⟩ := ih r [] q (by omega)
            refine ⟨by simp only [List.length_cons]; omega, fun x hx => ?_⟩
            rcases List.mem_cons.1 hx with e | e
            · subst e; omega
            · have := h2 x e
              simp only [List.length_cons, List.length_nil] at this ⊢; omega
        · rw [cond_true]
          cases r with
          | nil => simp
          | cons d r =>
            simp only [List.length_cons] at h
            obtain ⟨h1, h2⟩ := ih r (cur ++ [c, d]) q (by omega)
            refine ⟨by simp only [List.length_cons]; omega, fun x hx => ?_⟩
            have := h2 x hx
            simp only [List.length_cons, List.length_append, List.length_nil] at this ⊢; omega
      · rw [cond_true]; exact step _ _ (by simp)
theorem dropWhile_len (p : UInt8 → Bool) : ∀ s : Bytes, (s.dropWhile p).length ≤ s.length
  | [] => by simp
  | a :: s => by
    rw [List.dropWhile_cons]
    split
    · have := dropWhile_len p s; simp only [List.length_cons]; omega
    · exact Nat.le_refl _
theorem trimP_le (s : Bytes) : (trimP s).length ≤ s.length := by
  unfold trimP trimR trimL
  rw [List.length_reverse]
  refine Nat.le_trans (dropWhile_len _ _) ?_
  rw [List.length_reverse]
  exact dropWhile_len _ _
theorem keepE_bd : ∀ (l : List Bytes) (n : Nat), (∀ x ∈ l, x.length ≤ n) → (keepE l).length ≤ l.length ∧ ∀ x ∈ keepE l, x.length ≤ n
  | [], _, _ => by simp [keepE]
  | a :: l, n, h => by
    obtain ⟨h1, h2⟩ := keepE_bd l n fun x hx => h x (List.mem_cons_of_mem _ hx)
    have ha := h a (List.mem_cons_self ..)
    have := trimP_le a
    rw [keep_cons]
    cases decide (trimP a = [])
    · rw [cond_false]
      refine ⟨by simp only [List.length_cons]; omega, fun x hx => ?_⟩
      rcases List.mem_cons.1 hx with e | e
      · subst e; omega
      · exact h2 x e
    · rw [cond_true]
      exact ⟨by simp only [List.length_cons]; omega, h2⟩
theorem elem_bd (s : Bytes) : (elemP s).length ≤ 4001 ∧ ∀ x ∈ elemP s, x.length ≤ 4000 := by
  unfold elemP
  cases c : decide (4000 < (s.length : Int))
  · have hl := of_decide_eq_false c
    rw [cond_false]
    obtain ⟨h1, h2⟩ := partE_bd s.length s [] false (Nat.le_refl _)
    obtain ⟨h3, h4⟩ := keepE_bd (partE [] false s) 4000 fun x hx => by have := h2 x hx; simp only [List.length_nil] at this; omega
    exact ⟨by omega, h4⟩
  · simp
theorem words_bd (l : List Fd) (name : Bytes) : (wordsP l name).length ≤ 4001 ∧ ∀ x ∈ wordsP l name, isM x = true :=
  ⟨(elem_bd _).1, fun x hx => isM_of ((elem_bd _).2 x hx)⟩
def nVary : Bytes := [118, 97, 114, 121]
def varyP (l : List Fd) : List Bytes := (wordsP l nVary).foldl (fun o w => putP o (foldP w)) []
theorem vary_eq (l : List Fd) : compP (sortP ((wordsP l nVary).map foldP)) = varyP l := by
  rw [comp_sort, List.foldl_map]; rfl
theorem iVary_loop (k : List Bytes → Option Rs) (ws : List Bytes) (hl : ws.length ≤ 100000) : ∀ (r : List Bytes) (i : Int) (n : Nat) (out : List Bytes), At ws i r → r.length < n → (∀ x ∈ r, isM x = true) → out.length + r.length ≤ 200000 →
    iVary_F3 n (ws.length : Int) i out ws k = k (out ++ r.map foldP) := by
  intro r; induction r with
  | nil => intro i n out h hn hf ho; obtain ⟨n, rfl⟩ := fuel hn; unfold iVary_F3 iVary_T3; rw [h.dge, cond_false]; simp
  | cons a r ih =>
    intro i n out h hn hf ho; obtain ⟨n, rfl⟩ := fuel hn
    have ha := hf a (List.mem_cons_self ..)
    have hr := fun x h => hf x (List.mem_cons_of_mem _ h)
    simp only [List.length_cons] at hn ho
    unfold iVary_F3 iVary_T3
    simp (disch := omega) only [h.dlt, h.dnn, h.get, h.next (by omega), ha, cond_true, ap1]
    rw [one_set, ih (i + 1) n _ h.step (by omega) hr (by simp only [List.length_append, List.length_singleton]; omega)]
    simp
def vaR_s : List AV → List Ob → Br
  | [.sh (.pair .str .str) l], [] => .ret (.ref 0 0) [.arr .str 0 false (varyP l)]
  | _, _ => .fail
theorem iVary_okQ : Sound Kx 92 vaR_s := by
  refine (iVary_okOf (φ := fun l => .ret (.ref 0 0) [.arr .str 0 false (varyP l)]) (fun l => (wordsP l nVary).length + 1) fun l r h => ?_).of fun args objs r h => ?_
  · cases h
    obtain ⟨h1, h2⟩ := words_bd l nVary
    rw [← vary_eq]
    have hs : (sortP ((wordsP l nVary).map foldP)).length = (wordsP l nVary).length := by simp [sortP]
    unfold iVary_run
    refine (iVary_loop _ (wordsP l nVary) (by omega) _ 0 _ [] (At.start _) (by omega) h2 (by simp only [List.length_nil]; omega)).trans ?_
    simp only [List.nil_append]
    rw [dle' (by rw [List.length_map]; omega), dle' (by rw [hs]; omega)]; rfl
  · unfold vaR_s at h; split at h
    · exact h
    · cases h
theorem vary_len (l : List Fd) : (varyP l).length ≤ 4001 := by
  rw [← vary_eq]
  refine Nat.le_trans (comp_len _) ?_
  have hs : (sortP ((wordsP l nVary).map foldP)).length = (wordsP l nVary).length := by simp [sortP]
  rw [hs]; exact (words_bd l nVary).1
end
end Go.Proofs.YtgknmoadpgpdeaaGreatDoor.Ev
