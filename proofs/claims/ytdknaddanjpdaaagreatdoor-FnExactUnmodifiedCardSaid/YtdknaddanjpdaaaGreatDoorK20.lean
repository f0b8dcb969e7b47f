/- The texts Ne, Nf, Ng, Nh, Ni, Nj, Nk, Nl, one behind the other. -/
import Derived.Test.YtdknaddanjpdaaaGreatDoorK16
import Derived.Test.YtdknaddanjpdaaaGreatDoorK15
import Derived.Test.YtdknaddanjpdaaaGreatDoorK12
namespace Go.Proofs.YtdknaddanjpdaaaGreatDoor.Ev
open Go Go.RowKit
set_option linter.unusedVariables false
set_option linter.unusedSimpArgs false
noncomputable section

def iJoined_C : SC := [⟨90, _, iValues_okQ⟩, ⟨165, _, join_okQ⟩]
def iJoined_br (l : List Fd) (name : Bytes) : Br := (Br.ite (isM name) (Br.ite ((decide ((List.length (vals l name)) ≤ 1000000)) && (decide ((List.length (joinP (vals l name) ([44, 32] : Bytes))) ≤ 1000000))) (Br.ret (AV.str (joinP (vals l name) ([44, 32] : Bytes))) []) Br.fail) Br.fail)
def iJoined_s : List AV → List Ob → Br
  | [.sh (.pair .str .str) l, .str name], [] => iJoined_br l name
  | _, _ => .fail
theorem iJoined_ok : Sound Kx 101 iJoined_s := sound_br (C := iJoined_C) (O := O0) Tryz.func101 (by kernel_rfl) fun args objs => by
  unfold iJoined_s; split
  · exact .inr (by kernel_rfl)
  · exact .inl rfl


theorem dle' {a b : Nat} (h : a ≤ b) : decide (a ≤ b) = true := decide_eq_true h
theorem vals_len (l : List Fd) (name : Bytes) : (vals l name).length ≤ 20 ∧ ∀ x ∈ vals l name, x.length ≤ 190 := by
  unfold vals
  cases h : fdsOk l
  · simp
  · rw [cond_true]
    obtain ⟨h1, h2⟩ := fdsOk_mem h
    refine ⟨?_, fun x hx => ?_⟩
    · unfold valsR; rw [List.length_map]; exact Nat.le_trans (List.length_filter_le _ _) h1
    · unfold valsR at hx
      obtain ⟨f, hf, rfl⟩ := List.mem_map.1 hx
      exact (fdOk_len (h2 f (List.mem_filter.1 hf).1)).2
def sepC : Bytes := [44, 32]
theorem tail_cons (x : Bytes) (r : List Bytes) : Lib.joinTail sepC (x :: r) = sepC ++ x ++ Lib.joinTail sepC r := by simp [Lib.joinTail]
theorem tail_len : ∀ (r : List Bytes), (∀ x ∈ r, x.length ≤ 190) → (Lib.joinTail sepC r).length ≤ 192 * r.length
  | [], _ => by simp [Lib.joinTail]
  | x :: r, h => by
    have h1 := h x (List.mem_cons_self ..)
    have h2 := tail_len r fun y hy => h y (List.mem_cons_of_mem _ hy)
    have h3 : sepC.length = 2 := rfl
    rw [tail_cons]
    simp only [List.length_append, List.length_cons, h3]; omega
theorem join_tail (x : Bytes) (r : List Bytes) : joinP (x :: r) sepC = x ++ Lib.joinTail sepC r := Lib.join_cons x r sepC
def joinedP (l : List Fd) (name : Bytes) : Bytes := joinP (vals l name) sepC
theorem joined_len (l : List Fd) (name : Bytes) : (joinedP l name).length ≤ 4000 := by
  unfold joinedP
  obtain ⟨h1, h2⟩ := vals_len l name
  cases hv : vals l name with
  | nil => simp [joinP, Lib.join_nil]
  | cons x r =>
    rw [hv] at h1 h2
    have := h2 x (List.mem_cons_self ..)
    have := tail_len r fun y hy => h2 y (List.mem_cons_of_mem _ hy)
    rw [join_tail, List.length_append]
    simp only [List.length_cons] at h1; omega
def jo_s (p : List Fd → Bytes → AV) : List AV → List Ob → Br
  | [.sh (.pair .str .str) l, .str name], [] => .ite (isM name) (.ret (p l name) []) .fail
  | _, _ => .fail
theorem iJoined_okQ : Sound Kx 101 (jo_s fun l name => .str (joinedP l name)) := iJoined_ok.of fun args objs r h => by
  unfold jo_s at h
  split at h
  case h_2 => cases h
  rename_i l name
  obtain ⟨h1, h2⟩ := ite_some h
  cases h2
  show (iJoined_br l name).val = _
  unfold iJoined_br
  have g1 := (vals_len l name).1
  have g2 := joined_len l name
  unfold joinedP sepC at g2
  refine (val_t h1).trans ((val_t ?_).trans rfl)
  rw [decide_eq_true (by omega), decide_eq_true (by omega)]; rfl
theorem sJoined_tail (v : List Bytes) (hl : v.length ≤ 20) (k : Bytes → Option Rs) : ∀ (r : List Bytes) (i : Int) (n : Nat) (s : Bytes), At v i r → 1 ≤ i → r.length < n → (∀ x ∈ r, x.length ≤ 190) → s.length + 192 * r.length ≤ 100000 →
    sJoined_F4 n s i v k = k (s ++ Lib.joinTail sepC r) := by
  intro r; induction r with
  | nil => intro i n s h hi hn hf hs; obtain ⟨n, rfl⟩ := fuel hn; unfold sJoined_F4 sJoined_T4; simp only [h.dge, cond_false, Lib.joinTail, List.map_nil, List.flatten_nil, List.append_nil]
  | cons a r ih =>
    intro i n s h hi hn hf hs; obtain ⟨n, rfl⟩ := fuel hn
    have ha := hf a (List.mem_cons_self ..)
    have hr := fun x h => hf x (List.mem_cons_of_mem _ h)
    simp only [List.length_cons] at hn hs
    have hp : decide ((0 : Int) < i) = true := decide_eq_true (by omega)
    unfold sJoined_F4 sJoined_T4
    simp (disch := (first | omega | (simp only [List.length_append, List.length_cons, List.length_nil]; omega))) only [h.dlt, h.dnn, h.get, h.next (by omega), hp, cond_true, dle']
    rw [ih (i + 1) n _ h.step (by omega) (by omega) hr (by simp only [List.length_append, List.length_cons, List.length_nil]; omega), tail_cons]
    simp only [sepC, List.append_assoc]
theorem sJoined_okQ : Sound Kx 97 (jo_s fun l name => .str (joinedP l name)) := by
  refine (sJoined_okOf (φ := fun l name => .ite (isM name) (.ret (.str (joinedP l name)) []) .fail) (fun l name => (vals l name).length + 1) fun l name r h => ?_).of fun args objs r h => ?_
  · obtain ⟨h1, h2⟩ := ite_some h
    cases h2
    unfold sJoined_run joinedP
    rw [h1, cond_true]
    obtain ⟨g1, g2⟩ := vals_len l name
    revert g1 g2
    generalize vals l name = v
    intro g1 g2
    cases v with
    | nil => rfl
    | cons x r =>
      have hx := g2 x (List.mem_cons_self ..)
      have hat : At (x :: r) 0 (x :: r) := At.start _
      simp only [List.length_cons] at g1
      unfold sJoined_F4 sJoined_T4
      have h0 : decide ((0 : Int) < 0) = false := rfl
      simp (disch := (first | omega | (simp only [List.length_append, List.length_cons, List.length_nil]; omega))) only [hat.dlt, hat.dnn, hat.get, hat.next (by simp only [List.length_cons]; omega), h0, cond_true, cond_false, dle']
      rw [List.nil_append, show (0 : Int) + 1 = 1 by rfl, List.length_cons, sJoined_tail (x :: r) (by simp only [List.length_cons]; omega) _ r 1 (r.length + 1) _ hat.step (by omega) (by omega) (fun y hy => g2 y (List.mem_cons_of_mem _ hy)) (by omega), join_tail]
  · unfold jo_s at h; split at h
    · exact h
    · cases h

def bytesLess (a b : Bytes) : Bool := Op.bytesLess a b
def inP (l : List Bytes) (s : Bytes) : Bool := l.any fun x => decide (x = s)

def iWords_C : SC := [⟨101, _, iJoined_okQ⟩, ⟨100, _, iElements_okQ⟩]
def iWords_br (l : List Fd) (name : Bytes) : Br := (Br.ite (isM name) (Br.ret (AV.ref 0 0) ((Ob.arr Ty.str 0 false (elemP (joinedP l name))) :: [])) Br.fail)
def iWords_s : List AV → List Ob → Br
  | [.sh (.pair .str .str) l, .str name], [] => iWords_br l name
  | _, _ => .fail
theorem iWords_ok : Sound Kx 54 iWords_s := sound_br (C := iWords_C) (O := O0) Tryz.func54 (by kernel_rfl) fun args objs => by
  unfold iWords_s; split
  · exact .inr (by kernel_rfl)
  · exact .inl rfl

def sWords_C : SC := [⟨97, _, sJoined_okQ⟩, ⟨96, _, sElements_okQ⟩]
def sWords_br (l : List Fd) (name : Bytes) : Br := (Br.ite (isM name) (Br.ret (AV.ref 0 0) ((Ob.arr Ty.str 0 false (elemP (joinedP l name))) :: [])) Br.fail)
def sWords_s : List AV → List Ob → Br
  | [.sh (.pair .str .str) l, .str name], [] => sWords_br l name
  | _, _ => .fail
theorem sWords_ok : Sound Kx 47 sWords_s := sound_br (C := sWords_C) (O := O0) Tryz.func47 (by kernel_rfl) fun args objs => by
  unfold sWords_s; split
  · exact .inr (by kernel_rfl)
  · exact .inl rfl


def wordsP (l : List Fd) (name : Bytes) : List Bytes := elemP (joinedP l name)
def wo_s : List AV → List Ob → Br
  | [.sh (.pair .str .str) l, .str name], [] => .ite (isM name) (.ret (.ref 0 0) [.arr .str 0 false (wordsP l name)]) .fail
  | _, _ => .fail
theorem iWords_okQ : Sound Kx 54 wo_s := iWords_ok.of fun args objs r h => by
  unfold wo_s at h
  split at h
  · exact h
  · cases h
theorem sWords_okQ : Sound Kx 47 wo_s := sWords_ok.of fun args objs r h => by
  unfold wo_s at h
  split at h
  · exact h
  · cases h


end
end Go.Proofs.YtdknaddanjpdaaaGreatDoor.Ev

namespace Go.Proofs.YtdknaddanjpdaaaGreatDoor.Ev
open Go Go.RowKit
set_option linter.unusedVariables false
set_option linter.unusedSimpArgs false

end Go.Proofs.YtdknaddanjpdaaaGreatDoor.Ev

namespace Go.Proofs.YtdknaddanjpdaaaGreatDoor.Ev
open Go Go.RowKit
set_option linter.unusedVariables false
set_option linter.unusedSimpArgs false
noncomputable section

theorem partE_bd : ∀ (n : Nat) (r cur : Bytes) (q : Bool), r.length ≤ n → (partE cur q r).length ≤ r.length + 1 ∧ ∀ x ∈ partE cur q r, x.length ≤ cur.length + r.length := by
  intro n; induction n with
  | zero =>
    intro r cur q h
    obtain rfl : r = [] := List.length_eq_zero_iff.1 (by omega)
    simp [partE_nil]
  | succ n ih =>
    intro r cur q h
    cases r with
    | nil => simp [partE_nil]
    | cons c r =>
      simp only [List.length_cons] at h
      have step : ∀ (cur' : Bytes) (q' : Bool), cur'.length ≤ cur.length + 1 → (partE cur' q' r).length ≤ (c :: r).length + 1 ∧ ∀ x ∈ partE cur' q' r, x.length ≤ cur.length + (c :: r).length := fun cur' q' hc => by
        obtain ⟨h1, h2⟩ := ih r cur' q' (by omega)
        refine ⟨by simp only [List.length_cons]; omega, fun x hx => ?_⟩
        have := h2 x hx
        simp only [List.length_cons]; omega
      rw [partE_cons]
      cases decide (by8 c = 34)
      · rw [cond_false]
        cases q && decide (by8 c = 92)
        · rw [cond_false]
          cases !q && decide (by8 c = 44)
          · rw [cond_false]; exact step _ _ (by simp)
          · rw [cond_true]
            obtain ⟨h1, h2⟩ := ih r [] q (by omega)
            refine ⟨by simp only [List.length_cons]; omega, fun x hx => ?_⟩
            rcases List.mem_cons.1 hx with e | e
            · subst e; omega
            · have := h2 x e
              simp only [List.length_cons, List.length_nil] at this ⊢; omega
        · rw [cond_true]
          cases r with
          | nil => simp
          | cons d r =>
            simp only [List.length_cons] at h
            obtain ⟨h1, h2⟩ := ih r (cur ++ [c, d]) q (by omega)
            refine ⟨by simp only [List.length_cons]; omega, fun x hx => ?_⟩
            have := h2 x hx
            simp only [List.length_cons, List.length_append, List.length_nil] at this ⊢; omega
      · rw [cond_true]; exact step _ _ (by simp)
theorem dropWhile_len (p : UInt8 → Bool) : ∀ s : Bytes, (s.dropWhile p).length ≤ s.length
  | [] => by simp
  | a :: s => by
    rw [List.dropWhile_cons]
    split
    · have := dropWhile_len p s; simp only [List.length_cons]; omega
    · exact Nat.le_refl _
theorem trimP_le (s : Bytes) : (trimP s).length ≤ s.length := by
  unfold trimP trimR trimL
  rw [List.length_reverse]
  refine Nat.le_trans (dropWhile_len _ _) ?_
  rw [List.length_reverse]
  exact dropWhile_len _ _
theorem keepE_bd : ∀ (l : List Bytes) (n : Nat), (∀ x ∈ l, x.length ≤ n) → (keepE l).length ≤ l.length ∧ ∀ x ∈ keepE l, x.length ≤ n
  | [], _, _ => by simp [keepE]
  | a :: l, n, h => by
    obtain ⟨h1, h2⟩ := keepE_bd l n fun x hx => h x (List.mem_cons_of_mem _ hx)
    have ha := h a (List.mem_cons_self ..)
    have := trimP_le a
    rw [keep_cons]
    cases decide (trimP a = [])
    · rw [cond_false]
      refine ⟨by simp only [List.length_cons]; omega, fun x hx => ?_⟩
      rcases List.mem_cons.1 hx with e | e
      · subst e; omega
      · exact h2 x e
    · rw [cond_true]
      exact ⟨by simp only [List.length_cons]; omega, h2⟩
theorem elem_bd (s : Bytes) : (elemP s).length ≤ 4001 ∧ ∀ x ∈ elemP s, x.length ≤ 4000 := by
  unfold elemP
  cases c : decide (4000 < (s.length : Int))
  · have hl := of_decide_eq_false c
    rw [cond_false]
    obtain ⟨h1, h2⟩ := partE_bd s.length s [] false (Nat.le_refl _)
    obtain ⟨h3, h4⟩ := keepE_bd (partE [] false s) 4000 fun x hx => by have := h2 x hx; simp only [List.length_nil] at this; omega
    exact ⟨by omega, h4⟩
  · simp
theorem words_bd (l : List Fd) (name : Bytes) : (wordsP l name).length ≤ 4001 ∧ ∀ x ∈ wordsP l name, isM x = true :=
  ⟨(elem_bd _).1, fun x hx => isM_of ((elem_bd _).2 x hx)⟩
end
end Go.Proofs.YtdknaddanjpdaaaGreatDoor.Ev
