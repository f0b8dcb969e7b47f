/- The texts Ne, Nf, Ng, Nh, Ni, Nj, Nk, Nl, one behind the other. -/
import Derived.Test.YtmmjaomfonknnaaGreatDoorK18
import Derived.Test.YtmmjaomfonknnaaGreatDoorK16
import Derived.Test.YtmmjaomfonknnaaGreatDoorK12
namespace Go.Proofs.YtmmjaomfonknnaaGreatDoor.Ev
open Go Go.RowKit
set_option linter.unusedVariables false
set_option linter.unusedSimpArgs false
noncomputable section

def iJoined_O : Opt := { cons := [], keepNil := false, mutF := [], live := [], outs := [] }
def iJoined_C : Spec := (add (add noS 93 val_s) 149 join_s)
theorem iJoined_C_ok : ∀ fn, Sound Kx fn (iJoined_C fn) := (sound_add (sound_add (sound_no Kx) iValues_okQ) join_okQ)
def iJoined_br (l : List Fd) (name : Bytes) : Br := (Br.ite (isM name) (Br.ite ((decide ((List.length (vals l name)) ≤ (1000000 : Nat))) && (decide ((List.length (joinP (vals l name) ((44 : UInt8) :: ((32 : UInt8) :: ([] : Bytes))))) ≤ (1000000 : Nat)))) (Br.ret (AV.str (joinP (vals l name) ((44 : UInt8) :: ((32 : UInt8) :: ([] : Bytes))))) ([] : List Ob)) Br.fail) Br.fail)
theorem iJoined_run (l : List Fd) (name : Bytes) : runF Kx iJoined_C iJoined_O 1 Tryz.f104 ([.sh (.pair .str .str) l, .str name]) ([]) = (iJoined_br l name).val := by kernel_rfl
def iJoined_s : List AV → List Ob → Br
  | [.sh (.pair .str .str) l, .str name], [] => iJoined_br l name
  | _, _ => .fail
theorem iJoined_ok : Sound Kx 104 iJoined_s := by
  refine sound_run (C := iJoined_C) (O := iJoined_O) KOk iJoined_C_ok Tryz.func104 (by kernel_rfl) fun args objs res os h => ?_
  unfold iJoined_s at h
  split at h
  · exact ⟨1, (iJoined_run _ _).trans h⟩
  · cases h

end
end Go.Proofs.YtmmjaomfonknnaaGreatDoor.Ev

namespace Go.Proofs.YtmmjaomfonknnaaGreatDoor.Ev
open Go Go.RowKit
set_option linter.unusedVariables false
set_option linter.unusedSimpArgs false
noncomputable section

theorem dle' {a b : Nat} (h : a ≤ b) : decide (a ≤ b) = true := decide_eq_true h
theorem vals_len (l : List Fd) (name : Bytes) : (vals l name).length ≤ 20 ∧ ∀ x ∈ vals l name, x.length ≤ 190 := by
  unfold vals
  cases h : fdsOk l
  · simp
  · rw [cond_true]
    obtain ⟨h1, h2⟩ := fdsOk_mem h
    refine ⟨?_, fun x hx => ?_⟩
    · unfold valsR; rw [List.length_map]; exact Nat.le_trans (List.length_filter_le _ _) h1
    · unfold valsR at hx
      obtain ⟨f, hf, rfl⟩ := List.mem_map.1 hx
      exact (fdOk_len (h2 f (List.mem_filter.1 hf).1)).2
def sepC : Bytes := [44, 32]
theorem tail_cons (x : Bytes) (r : List Bytes) : Lib.joinTail sepC (x :: r) = sepC ++ x ++ Lib.joinTail sepC r := by simp [Lib.joinTail]
theorem tail_len : ∀ (r : List Bytes), (∀ x ∈ r, x.length ≤ 190) → (Lib.joinTail sepC r).length ≤ 192 * r.length
  | [], _ => by simp [Lib.joinTail]
  | x :: r, h => by
    have h1 := h x (List.mem_cons_self ..)
    have h2 := tail_len r fun y hy => h y (List.mem_cons_of_mem _ hy)
    have h3 : sepC.length = 2 := rfl
    rw [tail_cons]
    simp only [List.length_append, List.length_cons, h3]; omega
theorem join_tail (x : Bytes) (r : List Bytes) : joinP (x :: r) sepC = x ++ Lib.joinTail sepC r := Lib.join_cons x r sepC
def joinedP (l : List Fd) (name : Bytes) : Bytes := joinP (vals l name) sepC
theorem joined_len (l : List Fd) (name : Bytes) : (joinedP l name).length ≤ 4000 := by
  unfold joinedP
  obtain ⟨h1, h2⟩ := vals_len l name
  cases hv : vals l name with
  | nil => simp [joinP, Lib.join_nil]
  | cons x r =>
    rw [hv] at h1 h2
    have := h2 x (List.mem_cons_self ..)
    have := tail_len r fun y hy => h2 y (List.mem_cons_of_mem _ hy)
    rw [join_tail, List.length_append]
    simp only [List.length_cons] at h1; omega
def jo_s (p : List Fd → Bytes → AV) : List AV → List Ob → Br
  | [.sh (.pair .str .str) l, .str name], [] => .ite (isM name) (.ret (p l name) []) .fail
  | _, _ => .fail
theorem iJoined_okQ : Sound Kx 104 (jo_s fun l name => .str (joinedP l name)) := iJoined_ok.of fun args objs r h => by
  unfold jo_s at h
  split at h
  case h_2 => cases h
  rename_i l name
  obtain ⟨h1, h2⟩ := ite_some h
  cases h2
  show (iJoined_br l name).val = _
  unfold iJoined_br
  have g1 := (vals_len l name).1
  have g2 := joined_len l name
  unfold joinedP sepC at g2
  refine (val_t h1).trans ((val_t ?_).trans rfl)
  rw [decide_eq_true (by omega), decide_eq_true (by omega)]; rfl
theorem sJoined_tail (v : List Bytes) (hl : v.length ≤ 20) (k : Bytes → Option Rs) : ∀ (r : List Bytes) (i : Int) (n : Nat) (s : Bytes), At v i r → 1 ≤ i → r.length < n → (∀ x ∈ r, x.length ≤ 190) → s.length + 192 * r.length ≤ 100000 →
    sJoined_F4 n s i v k = k (s ++ Lib.joinTail sepC r) := by
  intro r; induction r with
  | nil => intro i n s h hi hn hf hs; obtain ⟨n, rfl⟩ := fuel hn; unfold sJoined_F4 sJoined_T4; simp only [h.dge, cond_false, Lib.joinTail, List.map_nil, List.flatten_nil, List.append_nil]
  | cons a r ih =>
    intro i n s h hi hn hf hs; obtain ⟨n, rfl⟩ := fuel hn
    have ha := hf a (List.mem_cons_self ..)
    have hr := fun x h => hf x (List.mem_cons_of_mem _ h)
    simp only [List.length_cons] at hn hs
    have hp : decide ((0 : Int) < i) = true := decide_eq_true (by omega)
    unfold sJoined_F4 sJoined_T4
    simp (disch := (first | omega | (simp only [List.length_append, List.length_cons, List.length_nil]; omega))) only [h.dlt, h.dnn, h.get, h.next (by omega), hp, cond_true, dle']
    rw [ih (i + 1) n _ h.step (by omega) (by omega) hr (by simp only [List.length_append, List.length_cons, List.length_nil]; omega), tail_cons]
    simp only [sepC, List.append_assoc]
theorem sJoined_okQ : Sound Kx 100 (jo_s fun l name => .str (joinedP l name)) := by
  refine (sJoined_okOf (φ := fun l name => .ite (isM name) (.ret (.str (joinedP l name)) []) .fail) (fun l name => (vals l name).length + 1) fun l name r h => ?_).of fun args objs r h => ?_
  · obtain ⟨h1, h2⟩ := ite_some h
    cases h2
    unfold sJoined_run joinedP
    rw [h1, cond_true]
    obtain ⟨g1, g2⟩ := vals_len l name
    revert g1 g2
    generalize vals l name = v
    intro g1 g2
    cases v with
    | nil => rfl
    | cons x r =>
      have hx := g2 x (List.mem_cons_self ..)
      have hat : At (x :: r) 0 (x :: r) := At.start _
      simp only [List.length_cons] at g1
      unfold sJoined_F4 sJoined_T4
      have h0 : decide ((0 : Int) < 0) = false := rfl
      simp (disch := (first | omega | (simp only [List.length_append, List.length_cons, List.length_nil]; omega))) only [hat.dlt, hat.dnn, hat.get, hat.next (by simp only [List.length_cons]; omega), h0, cond_true, cond_false, dle']
      rw [List.nil_append, show (0 : Int) + 1 = 1 by rfl, List.length_cons, sJoined_tail (x :: r) (by simp only [List.length_cons]; omega) _ r 1 (r.length + 1) _ hat.step (by omega) (by omega) (fun y hy => g2 y (List.mem_cons_of_mem _ hy)) (by omega), join_tail]
  · unfold jo_s at h; split at h
    · exact h
    · cases h
end
end Go.Proofs.YtmmjaomfonknnaaGreatDoor.Ev

namespace Go.Proofs.YtmmjaomfonknnaaGreatDoor.Ev
open Go Go.RowKit
set_option linter.unusedVariables false
set_option linter.unusedSimpArgs false
noncomputable section

def bytesLess (a b : Bytes) : Bool := Op.bytesLess a b
def inP (l : List Bytes) (s : Bytes) : Bool := l.any fun x => decide (x = s)
theorem sl5in_loop (l : List Bytes) (hl : l.length ≤ 4611686018427387904) (s : Bytes) (k0 k1 : Option Rs) : ∀ (r : List Bytes) (i : Int) (n : Nat), At l i r → r.length < n → sl5in_F2 n l s i k0 k1 = bif inP r s then k0 else k1 := by
  intro r; induction r with
  | nil => intro i n h hn; obtain ⟨n, rfl⟩ := fuel hn; unfold sl5in_F2 sl5in_T2; simp only [h.dge, cond_false, inP, List.any_nil]
  | cons a r ih =>
    intro i n h hn; obtain ⟨n, rfl⟩ := fuel hn
    have hs := ih (i + 1) n h.step (by simp at hn; omega)
    unfold sl5in_F2 sl5in_T2
    simp only [h.dlt, h.dnn, h.get, cond_true, h.next hl, hs, inP, List.any_cons]
    cases decide (a = s) <;> rfl
def in_s : List AV → List Ob → Br
  | [.sh .str l, .str s], [] => .ite (decide (l.length ≤ 1000000)) (.ret (.bool (inP l s)) []) .fail
  | _, _ => .fail
theorem sl5in_okQ : Sound Kx 150 in_s := by
  refine (sl5in_okOf (φ := fun l s => .ite (decide (l.length ≤ 1000000)) (.ret (.bool (inP l s)) []) .fail) (fun l _ => l.length + 1) fun l s r h => ?_).of fun args objs r h => ?_
  · obtain ⟨h1, h2⟩ := ite_some h
    cases h2
    rw [decide_eq_true_eq] at h1
    unfold sl5in_run
    rw [sl5in_loop l (by omega) s _ _ l 0 _ (At.start l) (by omega)]
    cases inP l s <;> rfl
  · unfold in_s at h; split at h
    · exact h
    · cases h
end
end Go.Proofs.YtmmjaomfonknnaaGreatDoor.Ev

namespace Go.Proofs.YtmmjaomfonknnaaGreatDoor.Ev
open Go Go.RowKit
set_option linter.unusedVariables false
set_option linter.unusedSimpArgs false
noncomputable section

def iWords_O : Opt := { cons := [], keepNil := false, mutF := [], live := [], outs := [] }
def iWords_C : Spec := (add (add noS 104 (jo_s fun l name => .str (joinedP l name))) 103 (tl_s elemP))
theorem iWords_C_ok : ∀ fn, Sound Kx fn (iWords_C fn) := (sound_add (sound_add (sound_no Kx) iJoined_okQ) iElements_okQ)
def iWords_br (l : List Fd) (name : Bytes) : Br := (Br.ite (isM name) (Br.ret (AV.ref (0 : Nat) (0 : Nat)) ((Ob.arr Ty.str (0 : Nat) false (elemP (joinedP l name))) :: ([] : List Ob))) Br.fail)
theorem iWords_run (l : List Fd) (name : Bytes) : runF Kx iWords_C iWords_O 1 Tryz.f68 ([.sh (.pair .str .str) l, .str name]) ([]) = (iWords_br l name).val := by kernel_rfl
def iWords_s : List AV → List Ob → Br
  | [.sh (.pair .str .str) l, .str name], [] => iWords_br l name
  | _, _ => .fail
theorem iWords_ok : Sound Kx 68 iWords_s := by
  refine sound_run (C := iWords_C) (O := iWords_O) KOk iWords_C_ok Tryz.func68 (by kernel_rfl) fun args objs res os h => ?_
  unfold iWords_s at h
  split at h
  · exact ⟨1, (iWords_run _ _).trans h⟩
  · cases h

def sWords_O : Opt := { cons := [], keepNil := false, mutF := [], live := [], outs := [] }
def sWords_C : Spec := (add (add noS 100 (jo_s fun l name => .str (joinedP l name))) 99 (tl_s elemP))
theorem sWords_C_ok : ∀ fn, Sound Kx fn (sWords_C fn) := (sound_add (sound_add (sound_no Kx) sJoined_okQ) sElements_okQ)
def sWords_br (l : List Fd) (name : Bytes) : Br := (Br.ite (isM name) (Br.ret (AV.ref (0 : Nat) (0 : Nat)) ((Ob.arr Ty.str (0 : Nat) false (elemP (joinedP l name))) :: ([] : List Ob))) Br.fail)
theorem sWords_run (l : List Fd) (name : Bytes) : runF Kx sWords_C sWords_O 1 Tryz.f61 ([.sh (.pair .str .str) l, .str name]) ([]) = (sWords_br l name).val := by kernel_rfl
def sWords_s : List AV → List Ob → Br
  | [.sh (.pair .str .str) l, .str name], [] => sWords_br l name
  | _, _ => .fail
theorem sWords_ok : Sound Kx 61 sWords_s := by
  refine sound_run (C := sWords_C) (O := sWords_O) KOk sWords_C_ok Tryz.func61 (by kernel_rfl) fun args objs res os h => ?_
  unfold sWords_s at h
  split at h
  · exact ⟨1, (sWords_run _ _).trans h⟩
  · cases h

def sl5put_O : Opt := { cons := [], keepNil := false, mutF := [], live := [(6, [0, 1, 5, 6, 7])], outs := [(6, [1, 4, 5, 6])] }
def sl5put_C : Spec := (add noS 150 in_s)
theorem sl5put_C_ok : ∀ fn, Sound Kx fn (sl5put_C fn) := (sound_add (sound_no Kx) sl5in_okQ)
def sl5put_T6 (v6x0 : (List Bytes)) (v6x1 : Bytes) (v6x2 : Bool) (v6x3 : Int) (v6x4 : (List Bytes)) (kR6 : (List Bytes) → Bytes → Bool → Int → (List Bytes) → Option Rs) (k6e0 : Bytes → Bool → (List Bytes) → Option Rs) : Option Rs :=
  (bif (decide (v6x3 < ((List.length v6x0) : Int))) then (bif (!v6x2) then (bif (decide ((0 : Int) ≤ v6x3)) then (bif (decide (v6x3 < ((List.length v6x0) : Int))) then (bif (bytesLess v6x1 (List.getD v6x0 (Int.toNat v6x3) ([] : Bytes))) then (bif (decide ((((List.length v6x4) + (List.length (List.set (List.replicate (1 : Nat) ([] : Bytes)) (0 : Nat) v6x1))) * (16 : Nat)) ≤ (140737488355328 : Nat))) then (bif (decide ((0 : Int) ≤ v6x3)) then (bif (decide (v6x3 < ((List.length v6x0) : Int))) then (bif (decide ((((List.length (v6x4 ++ (List.set (List.replicate (1 : Nat) ([] : Bytes)) (0 : Nat) v6x1))) + (List.length (List.set (List.replicate (1 : Nat) ([] : Bytes)) (0 : Nat) (List.getD v6x0 (Int.toNat v6x3) ([] : Bytes))))) * (16 : Nat)) ≤ (140737488355328 : Nat))) then (kR6 v6x0 v6x1 true (wk64 (v6x3 + (1 : Int))) ((v6x4 ++ (List.set (List.replicate (1 : Nat) ([] : Bytes)) (0 : Nat) v6x1)) ++ (List.set (List.replicate (1 : Nat) ([] : Bytes)) (0 : Nat) (List.getD v6x0 (Int.toNat v6x3) ([] : Bytes))))) else (none)) else (none)) else (none)) else (none)) else (bif (decide ((0 : Int) ≤ v6x3)) then (bif (decide (v6x3 < ((List.length v6x0) : Int))) then (bif (decide ((((List.length v6x4) + (List.length (List.set (List.replicate (1 : Nat) ([] : Bytes)) (0 : Nat) (List.getD v6x0 (Int.toNat v6x3) ([] : Bytes))))) * (16 : Nat)) ≤ (140737488355328 : Nat))) then (kR6 v6x0 v6x1 v6x2 (wk64 (v6x3 + (1 : Int))) (v6x4 ++ (List.set (List.replicate (1 : Nat) ([] : Bytes)) (0 : Nat) (List.getD v6x0 (Int.toNat v6x3) ([] : Bytes))))) else (none)) else (none)) else (none))) else (none)) else (none)) else (bif (decide ((0 : Int) ≤ v6x3)) then (bif (decide (v6x3 < ((List.length v6x0) : Int))) then (bif (decide ((((List.length v6x4) + (List.length (List.set (List.replicate (1 : Nat) ([] : Bytes)) (0 : Nat) (List.getD v6x0 (Int.toNat v6x3) ([] : Bytes))))) * (16 : Nat)) ≤ (140737488355328 : Nat))) then (kR6 v6x0 v6x1 v6x2 (wk64 (v6x3 + (1 : Int))) (v6x4 ++ (List.set (List.replicate (1 : Nat) ([] : Bytes)) (0 : Nat) (List.getD v6x0 (Int.toNat v6x3) ([] : Bytes))))) else (none)) else (none)) else (none))) else (k6e0 v6x1 v6x2 v6x4))
def sl5put_F6 : Nat → (List Bytes) → Bytes → Bool → Int → (List Bytes) → (Bytes → Bool → (List Bytes) → Option Rs) → Option Rs
  | 0, _, _, _, _, _, _ => none
  | n + 1, v6x0, v6x1, v6x2, v6x3, v6x4, k6e0 => sl5put_T6 v6x0 v6x1 v6x2 v6x3 v6x4 (fun v6x0 v6x1 v6x2 v6x3 v6x4 => sl5put_F6 n v6x0 v6x1 v6x2 v6x3 v6x4 k6e0) k6e0
def sl5put_h6 (v6x0 : (List Bytes)) (v6x1 : Bytes) (v6x2 : Bool) (v6x3 : Int) (v6x4 : (List Bytes)) : St := (St.mk (slots 0 46 [(0, (AV.sh Ty.str v6x0)), (1, (AV.str v6x1)), (5, (AV.ref (384 : Nat) (0 : Nat))), (6, (AV.bool v6x2)), (7, (AV.int .i64 v6x3))]) (((384 : Nat), (Ob.arr Ty.str (0 : Nat) false v6x4)) :: ([] : (List (Nat × (Ob))))))
def sl5put_x6e0 (x6x0x0 : Bytes) (x6x0x1 : Bool) (x6x0x2 : (List Bytes)) : St := (St.mk (slots 0 46 [(1, (AV.str x6x0x0)), (5, (AV.ref (384 : Nat) (0 : Nat))), (6, (AV.bool x6x0x1))]) (((384 : Nat), (Ob.arr Ty.str (0 : Nat) false x6x0x2)) :: ([] : (List (Nat × (Ob))))))
noncomputable def sl5put_b6 : Code := codeAt (codeOf Tryz.f105) [1, 1, 1, 1, 0, 1, 0, 0]
def sl5put_L6 (N : Nat) (st : St) (k : Ex → St → Option Rs) : Option Rs := match takeF [0, 1, 5, 6, 7] 0 46 st.env, st.objs with
  | some [.sh Ty.str v6x0, .str v6x1, .ref 384 0, .bool v6x2, .int .i64 v6x3], [(384, .arr Ty.str 0 false v6x4)] => sl5put_F6 N v6x0 v6x1 v6x2 v6x3 v6x4 (fun x6x0x0 x6x0x1 x6x0x2 => k (Ex.exit (0 : Nat)) (sl5put_x6e0 x6x0x0 x6x0x1 x6x0x2))
  | _, _ => none
def sl5put_L (N : Nat) : Lam := fun j st k => match j with
  | 6 => sl5put_L6 N st k
  | _ => none
theorem sl5put_round6 (N : Nat) (again : St → Option Rs) (k : Ex → St → Option Rs) (wv6x0 : (List Bytes)) (wv6x1 : Bytes) (wv6x2 : Bool) (wv6x3 : Int) (wv6x4 : (List Bytes)) (v6x0 : (List Bytes)) (v6x1 : Bytes) (v6x2 : Bool) (v6x3 : Int) (v6x4 : (List Bytes)) :
    roundK 0 (fun st k => evL Kx sl5put_C sl5put_O 0 (sl5put_L N) sl5put_b6 st k) (sl5put_h6 wv6x0 wv6x1 wv6x2 wv6x3 wv6x4).env again (sl5put_h6 v6x0 v6x1 v6x2 v6x3 v6x4) (outK sl5put_O 0 sl5put_b6 k) = sl5put_T6 v6x0 v6x1 v6x2 v6x3 v6x4 (fun v6x0 v6x1 v6x2 v6x3 v6x4 => again (sl5put_h6 v6x0 v6x1 v6x2 v6x3 v6x4)) (fun x6x0x0 x6x0x1 x6x0x2 => k (Ex.exit (0 : Nat)) (sl5put_x6e0 x6x0x0 x6x0x1 x6x0x2)) := by kernel_rfl
theorem sl5put_loop6 (N : Nat) (k : Ex → St → Option Rs) (wv6x0 : (List Bytes)) (wv6x1 : Bytes) (wv6x2 : Bool) (wv6x3 : Int) (wv6x4 : (List Bytes)) : ∀ (n : Nat) (v6x0 : (List Bytes)) (v6x1 : Bytes) (v6x2 : Bool) (v6x3 : Int) (v6x4 : (List Bytes)),
    loopK 0 (fun st k => evL Kx sl5put_C sl5put_O 0 (sl5put_L N) sl5put_b6 st k) (sl5put_h6 wv6x0 wv6x1 wv6x2 wv6x3 wv6x4).env n (sl5put_h6 v6x0 v6x1 v6x2 v6x3 v6x4) (outK sl5put_O 0 sl5put_b6 k) = sl5put_F6 n v6x0 v6x1 v6x2 v6x3 v6x4 (fun x6x0x0 x6x0x1 x6x0x2 => k (Ex.exit (0 : Nat)) (sl5put_x6e0 x6x0x0 x6x0x1 x6x0x2))
  | 0, _, _, _, _, _ => rfl
  | n + 1, v6x0, v6x1, v6x2, v6x3, v6x4 => by
    rw [loopK_succ, sl5put_round6]
    simp only [sl5put_loop6 N k wv6x0 wv6x1 wv6x2 wv6x3 wv6x4 n]
    rfl
theorem sl5put_at6 (N : Nat) {s : St} {k : Ex → St → Option Rs} {r : Rs} (h : sl5put_L6 N s k = some r) : ∃ (v6x0 : (List Bytes)) (v6x1 : Bytes) (v6x2 : Bool) (v6x3 : Int) (v6x4 : (List Bytes)), s = (sl5put_h6 v6x0 v6x1 v6x2 v6x3 v6x4) ∧ sl5put_F6 N v6x0 v6x1 v6x2 v6x3 v6x4 (fun x6x0x0 x6x0x1 x6x0x2 => k (Ex.exit (0 : Nat)) (sl5put_x6e0 x6x0x0 x6x0x1 x6x0x2)) = some r := by
  cases s with | mk env objs =>
  unfold sl5put_L6 at h
  split at h
  · rename_i e1 e2
    have e3 := takeF_slots _ _ _ _ e1
    simp only at e2 e3
    subst e2 e3
    exact ⟨_, _, _, _, _, rfl, h⟩
  · cases h
theorem sl5put_in6 : loops sl5put_b6 = [] := by kernel_rfl
theorem sl5put_lid6 : lid sl5put_b6 = 6 := by kernel_rfl
theorem sl5put_ok6 (N : Nat) : OkL Kx sl5put_C sl5put_O 0 N (sl5put_L N) sl5put_b6 := by
  intro s k k' r hk h
  rw [sl5put_lid6] at h
  obtain ⟨v6x0, v6x1, v6x2, v6x3, v6x4, rfl, h⟩ := sl5put_at6 N h
  refine loopL (Λ := sl5put_L N) sl5put_b6 ?_ N hk ((sl5put_loop6 N k v6x0 v6x1 v6x2 v6x3 v6x4 N v6x0 v6x1 v6x2 v6x3 v6x4).trans h)
  rw [sl5put_in6]
  exact fun _ h => nomatch h
def sl5put_run (N : Nat) (l : List Bytes) (s : Bytes) : Option Rs := (bif (decide ((List.length l) ≤ (1000000 : Nat))) then (bif (inP l s) then (some ((AV.sh Ty.str l), ([] : List Ob))) else (sl5put_F6 N l s false (0 : Int) ([] : (List Bytes)) (fun x6x0x0 => (fun x6x0x1 => (fun x6x0x2 => (bif (!x6x0x1) then (bif (decide ((((List.length x6x0x2) + (List.length (List.set (List.replicate (1 : Nat) ([] : Bytes)) (0 : Nat) x6x0x0))) * (16 : Nat)) ≤ (140737488355328 : Nat))) then (some ((AV.ref (0 : Nat) (0 : Nat)), ((Ob.arr Ty.str (0 : Nat) false (x6x0x2 ++ (List.set (List.replicate (1 : Nat) ([] : Bytes)) (0 : Nat) x6x0x0))) :: ([] : List Ob)))) else (none)) else (some ((AV.ref (0 : Nat) (0 : Nat)), ((Ob.arr Ty.str (0 : Nat) false x6x0x2) :: ([] : List Ob)))))))))) else (none))
theorem sl5put_runL (N : Nat) (l : List Bytes) (s : Bytes) : runL Kx sl5put_C sl5put_O (sl5put_L N) Tryz.f105 ([.sh .str l, .str s]) ([]) = sl5put_run N l s := by kernel_rfl
theorem sl5put_body : Tryz.f105.body = some (codeOf Tryz.f105) := by kernel_rfl
theorem sl5put_loops : loops (codeOf Tryz.f105) = [sl5put_b6] := by kernel_rfl
theorem sl5put_ev (N : Nat) (l : List Bytes) (s : Bytes) {res_ : Rs} (hyp_ : sl5put_run N l s = some res_) : ∃ n_, runF Kx sl5put_C sl5put_O n_ Tryz.f105 ([.sh .str l, .str s]) ([]) = some res_ :=
  ⟨N, runL_runF sl5put_body (by rw [sl5put_loops]; exact List.forall_mem_cons.2 ⟨sl5put_ok6 N, fun _ h => nomatch h⟩) ((sl5put_runL N l s).trans hyp_)⟩
def sl5put_sOf (φ : (List Bytes) → Bytes → Br) : List AV → List Ob → Br
  | [.sh .str l, .str s], [] => φ l s
  | _, _ => .fail
theorem sl5put_okOf {φ : (List Bytes) → Bytes → Br} (fu : (List Bytes) → Bytes → Nat) (hv : ∀ l s res_, (φ l s).val = some res_ → sl5put_run (fu l s) l s = some res_) : Sound Kx 105 (sl5put_sOf φ) := by
  refine sound_run (C := sl5put_C) (O := sl5put_O) KOk sl5put_C_ok Tryz.func105 (by kernel_rfl) fun args objs res os h => ?_
  unfold sl5put_sOf at h
  split at h
  · exact sl5put_ev _ _ _ (hv _ _ _ h)
  · cases h

end
end Go.Proofs.YtmmjaomfonknnaaGreatDoor.Ev

namespace Go.Proofs.YtmmjaomfonknnaaGreatDoor.Ev
open Go Go.RowKit
set_option linter.unusedVariables false
set_option linter.unusedSimpArgs false
noncomputable section

def wordsP (l : List Fd) (name : Bytes) : List Bytes := elemP (joinedP l name)
def wo_s : List AV → List Ob → Br
  | [.sh (.pair .str .str) l, .str name], [] => .ite (isM name) (.ret (.ref 0 0) [.arr .str 0 false (wordsP l name)]) .fail
  | _, _ => .fail
theorem iWords_okQ : Sound Kx 68 wo_s := iWords_ok.of fun args objs r h => by
  unfold wo_s at h
  split at h
  · exact h
  · cases h
theorem sWords_okQ : Sound Kx 61 wo_s := sWords_ok.of fun args objs r h => by
  unfold wo_s at h
  split at h
  · exact h
  · cases h

def insP : List Bytes → Bytes → List Bytes
  | [], s => [s]
  | x :: r, s => bif bytesLess s x then s :: x :: r else x :: insP r s
def putP (l : List Bytes) (s : Bytes) : List Bytes := bif inP l s then l else insP l s
theorem ap1 (out : List Bytes) (x : Bytes) (h : out.length ≤ 5000000) : decide ((out.length + (List.set (List.replicate 1 ([] : Bytes)) 0 x).length) * 16 ≤ 140737488355328) = true := decide_eq_true (by rw [one_set, List.length_singleton]; omega)
theorem sl5put_loop (l : List Bytes) (hl : l.length ≤ 1000000) (s : Bytes) (k : Bytes → Bool → List Bytes → Option Rs) (K : List Bytes → Option Rs) (hk : ∀ d o, o.length ≤ 2000000 → k s d o = K (bif d then o else o ++ [s])) : ∀ (r : List Bytes) (i : Int) (n : Nat) (d : Bool) (out : List Bytes), At l i r → r.length < n → out.length + r.length + 1 ≤ 2000000 - (bif d then 0 else 1) →
    sl5put_F6 n l s d i out k = K (out ++ bif d then r else insP r s) := by
  intro r; induction r with
  | nil =>
    intro i n d out h hn ho; obtain ⟨n, rfl⟩ := fuel hn
    simp only [List.length_nil] at ho
    unfold sl5put_F6 sl5put_T6
    rw [h.dge, cond_false, hk d out (by omega)]
    cases d <;> simp [insP]
  | cons a r ih =>
    intro i n d out h hn ho; obtain ⟨n, rfl⟩ := fuel hn
    simp only [List.length_cons] at hn ho
    unfold sl5put_F6 sl5put_T6
    simp only [h.dlt, h.dnn, h.get, h.next (by omega), cond_true]
    cases d
    · simp only [Bool.not_false, cond_true, cond_false, insP] at ho ⊢
      cases hb : bytesLess s a
      · simp (disch := (first | omega | (simp only [List.length_append, one_set, List.length_cons, List.length_nil]; omega))) only [cond_true, cond_false, ap1]
        simp only [one_set]
        rw [ih (i + 1) n false _ h.step (by omega) (by simp only [List.length_append, List.length_singleton, cond_false]; omega)]
        simp
      · simp (disch := (first | omega | (simp only [List.length_append, one_set, List.length_cons, List.length_nil]; omega))) only [cond_true, cond_false, ap1]
        simp only [one_set]
        rw [ih (i + 1) n true _ h.step (by omega) (by simp only [List.length_append, List.length_singleton, cond_true]; omega)]
        simp
    · simp only [Bool.not_true, cond_true, cond_false] at ho ⊢
      simp (disch := (first | omega | (simp only [List.length_append, one_set, List.length_cons, List.length_nil]; omega))) only [cond_true, cond_false, ap1]
      simp only [one_set]
      rw [ih (i + 1) n true _ h.step (by omega) (by simp only [List.length_append, List.length_singleton, cond_true]; omega)]
      simp
def put_s : List AV → List Ob → Br
  | [.sh .str l, .str s], [] => .ite (decide (l.length ≤ 900000)) (.ret (.sh .str (putP l s)) []) .fail
  | _, _ => .fail
theorem sl5put_okQ : Sound Kx 105 put_s := by
  have h0 : Sound Kx 105 (sl5put_sOf fun l s => .ite (decide (l.length ≤ 900000)) (bif inP l s then .ret (.sh .str l) [] else .ret (.ref 0 0) [.arr .str 0 false (insP l s)]) .fail) := by
    refine sl5put_okOf (fun l _ => l.length + 1) fun l s r h => ?_
    obtain ⟨h1, h2⟩ := ite_some h
    rw [decide_eq_true_eq] at h1
    unfold sl5put_run
    rw [dle' (show l.length ≤ 1000000 by omega), cond_true]
    cases c : inP l s
    · rw [c] at h2
      cases h2
      rw [cond_false, sl5put_loop l (by omega) s _ (fun o => some (.ref 0 0, [.arr .str 0 false o])) ?_ l 0 _ false [] (At.start l) (by omega) (by simp only [List.length_nil, cond_false]; omega)]
      · rfl
      · intro d o ho
        rw [ap1 o s (by omega)]
        cases d
        · rw [Bool.not_false, cond_true, cond_false, cond_true, one_set]
        · rfl
    · rw [c] at h2
      cases h2
      rfl
  refine sound_sh h0 fun args objs res objs' hv => ?_
  unfold put_s at hv
  split at hv
  case h_2 => cases hv
  rename_i l s
  obtain ⟨h1, h2⟩ := ite_some hv
  cases h2
  refine ⟨rfl, rfl, _, _, rfl, ?_⟩
  unfold putP
  cases c : inP l s
  · right
    refine ⟨0, false, ?_⟩
    show (Br.ite _ _ _).val = _
    rw [c]; exact val_t h1
  · left
    show (Br.ite _ _ _).val = _
    rw [c]; exact val_t h1
end
end Go.Proofs.YtmmjaomfonknnaaGreatDoor.Ev

namespace Go.Proofs.YtmmjaomfonknnaaGreatDoor.Ev
open Go Go.RowKit
set_option linter.unusedVariables false
set_option linter.unusedSimpArgs false
noncomputable section

def iVary_O : Opt := { cons := [], keepNil := false, mutF := [108,109], live := [(3, [3, 7, 8, 9])], outs := [(3, [2, 3])] }
def iVary_C : Spec := (add (add (add (add noS 107 (t1_s fun s => .str (foldP s))) 68 wo_s) 108 sort_s) 109 comp_s)
theorem iVary_C_ok : ∀ fn, Sound Kx fn (iVary_C fn) := (sound_add (sound_add (sound_add (sound_add (sound_no Kx) ifold_okQ) iWords_okQ) sort_okQ) comp_okQ)
def iVary_T3 (v3x0 : Int) (v3x1 : Int) (v3x2 : (List Bytes)) (v3x3 : (List Bytes)) (kR3 : Int → Int → (List Bytes) → (List Bytes) → Option Rs) (k3e0 : (List Bytes) → Option Rs) : Option Rs :=
  (bif (decide (v3x1 < v3x0)) then (bif (decide ((0 : Int) ≤ v3x1)) then (bif (decide (v3x1 < ((List.length v3x3) : Int))) then (bif (isM (List.getD v3x3 (Int.toNat v3x1) ([] : Bytes))) then (bif (decide ((((List.length v3x2) + (List.length (List.set (List.replicate (1 : Nat) ([] : Bytes)) (0 : Nat) (foldP (List.getD v3x3 (Int.toNat v3x1) ([] : Bytes)))))) * (16 : Nat)) ≤ (140737488355328 : Nat))) then (kR3 v3x0 (wk64 (v3x1 + (1 : Int))) (v3x2 ++ (List.set (List.replicate (1 : Nat) ([] : Bytes)) (0 : Nat) (foldP (List.getD v3x3 (Int.toNat v3x1) ([] : Bytes))))) v3x3) else (none)) else (none)) else (none)) else (none)) else (k3e0 v3x2))
def iVary_F3 : Nat → Int → Int → (List Bytes) → (List Bytes) → ((List Bytes) → Option Rs) → Option Rs
  | 0, _, _, _, _, _ => none
  | n + 1, v3x0, v3x1, v3x2, v3x3, k3e0 => iVary_T3 v3x0 v3x1 v3x2 v3x3 (fun v3x0 v3x1 v3x2 v3x3 => iVary_F3 n v3x0 v3x1 v3x2 v3x3 k3e0) k3e0
def iVary_h3 (v3x0 : Int) (v3x1 : Int) (v3x2 : (List Bytes)) (v3x3 : (List Bytes)) : St := (St.mk (slots 0 23 [(3, (AV.ref (256 : Nat) (0 : Nat))), (7, (AV.ref (512 : Nat) (0 : Nat))), (8, (AV.int .i64 v3x0)), (9, (AV.int .i64 v3x1))]) (((256 : Nat), (Ob.arr Ty.str (0 : Nat) false v3x2)) :: (((512 : Nat), (Ob.arr Ty.str (0 : Nat) false v3x3)) :: ([] : (List (Nat × (Ob)))))))
def iVary_x3e0 (x3x0x0 : (List Bytes)) : St := (St.mk (slots 0 23 [(3, (AV.ref (256 : Nat) (0 : Nat)))]) (((256 : Nat), (Ob.arr Ty.str (0 : Nat) false x3x0x0)) :: ([] : (List (Nat × (Ob))))))
noncomputable def iVary_b3 : Code := codeAt (codeOf Tryz.f73) [1, 1, 0, 1, 0, 0]
def iVary_L3 (N : Nat) (st : St) (k : Ex → St → Option Rs) : Option Rs := match takeF [3, 7, 8, 9] 0 23 st.env, st.objs with
  | some [.ref 256 0, .ref 512 0, .int .i64 v3x0, .int .i64 v3x1], [(256, .arr Ty.str 0 false v3x2), (512, .arr Ty.str 0 false v3x3)] => iVary_F3 N v3x0 v3x1 v3x2 v3x3 (fun x3x0x0 => k (Ex.exit (0 : Nat)) (iVary_x3e0 x3x0x0))
  | _, _ => none
def iVary_L (N : Nat) : Lam := fun j st k => match j with
  | 3 => iVary_L3 N st k
  | _ => none
theorem iVary_round3 (N : Nat) (again : St → Option Rs) (k : Ex → St → Option Rs) (wv3x0 : Int) (wv3x1 : Int) (wv3x2 : (List Bytes)) (wv3x3 : (List Bytes)) (v3x0 : Int) (v3x1 : Int) (v3x2 : (List Bytes)) (v3x3 : (List Bytes)) :
    roundK 0 (fun st k => evL Kx iVary_C iVary_O 0 (iVary_L N) iVary_b3 st k) (iVary_h3 wv3x0 wv3x1 wv3x2 wv3x3).env again (iVary_h3 v3x0 v3x1 v3x2 v3x3) (outK iVary_O 0 iVary_b3 k) = iVary_T3 v3x0 v3x1 v3x2 v3x3 (fun v3x0 v3x1 v3x2 v3x3 => again (iVary_h3 v3x0 v3x1 v3x2 v3x3)) (fun x3x0x0 => k (Ex.exit (0 : Nat)) (iVary_x3e0 x3x0x0)) := by kernel_rfl
theorem iVary_loop3 (N : Nat) (k : Ex → St → Option Rs) (wv3x0 : Int) (wv3x1 : Int) (wv3x2 : (List Bytes)) (wv3x3 : (List Bytes)) : ∀ (n : Nat) (v3x0 : Int) (v3x1 : Int) (v3x2 : (List Bytes)) (v3x3 : (List Bytes)),
    loopK 0 (fun st k => evL Kx iVary_C iVary_O 0 (iVary_L N) iVary_b3 st k) (iVary_h3 wv3x0 wv3x1 wv3x2 wv3x3).env n (iVary_h3 v3x0 v3x1 v3x2 v3x3) (outK iVary_O 0 iVary_b3 k) = iVary_F3 n v3x0 v3x1 v3x2 v3x3 (fun x3x0x0 => k (Ex.exit (0 : Nat)) (iVary_x3e0 x3x0x0))
  | 0, _, _, _, _ => rfl
  | n + 1, v3x0, v3x1, v3x2, v3x3 => by
    rw [loopK_succ, iVary_round3]
    simp only [iVary_loop3 N k wv3x0 wv3x1 wv3x2 wv3x3 n]
    rfl
theorem iVary_at3 (N : Nat) {s : St} {k : Ex → St → Option Rs} {r : Rs} (h : iVary_L3 N s k = some r) : ∃ (v3x0 : Int) (v3x1 : Int) (v3x2 : (List Bytes)) (v3x3 : (List Bytes)), s = (iVary_h3 v3x0 v3x1 v3x2 v3x3) ∧ iVary_F3 N v3x0 v3x1 v3x2 v3x3 (fun x3x0x0 => k (Ex.exit (0 : Nat)) (iVary_x3e0 x3x0x0)) = some r := by
  cases s with | mk env objs =>
  unfold iVary_L3 at h
  split at h
  · rename_i e1 e2
    have e3 := takeF_slots _ _ _ _ e1
    simp only at e2 e3
    subst e2 e3
    exact ⟨_, _, _, _, rfl, h⟩
  · cases h
theorem iVary_in3 : loops iVary_b3 = [] := by kernel_rfl
theorem iVary_lid3 : lid iVary_b3 = 3 := by kernel_rfl
theorem iVary_ok3 (N : Nat) : OkL Kx iVary_C iVary_O 0 N (iVary_L N) iVary_b3 := by
  intro s k k' r hk h
  rw [iVary_lid3] at h
  obtain ⟨v3x0, v3x1, v3x2, v3x3, rfl, h⟩ := iVary_at3 N h
  refine loopL (Λ := iVary_L N) iVary_b3 ?_ N hk ((iVary_loop3 N k v3x0 v3x1 v3x2 v3x3 N v3x0 v3x1 v3x2 v3x3).trans h)
  rw [iVary_in3]
  exact fun _ h => nomatch h
def iVary_run (N : Nat) (l : List Fd) : Option Rs := (iVary_F3 N ((List.length (wordsP l ((118 : UInt8) :: ((97 : UInt8) :: ((114 : UInt8) :: ((121 : UInt8) :: ([] : Bytes))))))) : Int) (0 : Int) ([] : (List Bytes)) (wordsP l ((118 : UInt8) :: ((97 : UInt8) :: ((114 : UInt8) :: ((121 : UInt8) :: ([] : Bytes)))))) (fun x3x0x0 => (bif (decide ((List.length x3x0x0) ≤ (1000000 : Nat))) then (bif (decide ((List.length (sortP x3x0x0)) ≤ (1000000 : Nat))) then (some ((AV.ref (0 : Nat) (0 : Nat)), ((Ob.arr Ty.str (0 : Nat) false (compP (sortP x3x0x0))) :: ([] : List Ob)))) else (none)) else (none))))
theorem iVary_runL (N : Nat) (l : List Fd) : runL Kx iVary_C iVary_O (iVary_L N) Tryz.f73 ([.sh (.pair .str .str) l]) ([]) = iVary_run N l := by kernel_rfl
theorem iVary_body : Tryz.f73.body = some (codeOf Tryz.f73) := by kernel_rfl
theorem iVary_loops : loops (codeOf Tryz.f73) = [iVary_b3] := by kernel_rfl
theorem iVary_ev (N : Nat) (l : List Fd) {res_ : Rs} (hyp_ : iVary_run N l = some res_) : ∃ n_, runF Kx iVary_C iVary_O n_ Tryz.f73 ([.sh (.pair .str .str) l]) ([]) = some res_ :=
  ⟨N, runL_runF iVary_body (by rw [iVary_loops]; exact List.forall_mem_cons.2 ⟨iVary_ok3 N, fun _ h => nomatch h⟩) ((iVary_runL N l).trans hyp_)⟩
def iVary_sOf (φ : (List Fd) → Br) : List AV → List Ob → Br
  | [.sh (.pair .str .str) l], [] => φ l
  | _, _ => .fail
theorem iVary_okOf {φ : (List Fd) → Br} (fu : (List Fd) → Nat) (hv : ∀ l res_, (φ l).val = some res_ → iVary_run (fu l) l = some res_) : Sound Kx 73 (iVary_sOf φ) := by
  refine sound_run (C := iVary_C) (O := iVary_O) KOk iVary_C_ok Tryz.func73 (by kernel_rfl) fun args objs res os h => ?_
  unfold iVary_sOf at h
  split at h
  · exact iVary_ev _ _ (hv _ _ h)
  · cases h

def sVary_O : Opt := { cons := [], keepNil := false, mutF := [], live := [(4, [3, 4, 5])], outs := [(4, [2, 3])], shn := [3] }
def sVary_C : Spec := (add (add (add noS 106 (t1_s fun s => .str (foldP s))) 61 wo_s) 105 put_s)
theorem sVary_C_ok : ∀ fn, Sound Kx fn (sVary_C fn) := (sound_add (sound_add (sound_add (sound_no Kx) sfold_okQ) sWords_okQ) sl5put_okQ)
def sVary_T4 (v4x0 : (List Bytes)) (v4x1 : Int) (v4x2 : (List Bytes)) (kR4 : (List Bytes) → Int → (List Bytes) → Option Rs) (k4e0 : (List Bytes) → Option Rs) : Option Rs :=
  (bif (decide (v4x1 < ((List.length v4x2) : Int))) then (bif (decide ((0 : Int) ≤ v4x1)) then (bif (decide (v4x1 < ((List.length v4x2) : Int))) then (bif (isM (List.getD v4x2 (Int.toNat v4x1) ([] : Bytes))) then (bif (decide ((List.length v4x0) ≤ (900000 : Nat))) then (kR4 (putP v4x0 (foldP (List.getD v4x2 (Int.toNat v4x1) ([] : Bytes)))) (wk64 (v4x1 + (1 : Int))) v4x2) else (none)) else (none)) else (none)) else (none)) else (k4e0 v4x0))
def sVary_F4 : Nat → (List Bytes) → Int → (List Bytes) → ((List Bytes) → Option Rs) → Option Rs
  | 0, _, _, _, _ => none
  | n + 1, v4x0, v4x1, v4x2, k4e0 => sVary_T4 v4x0 v4x1 v4x2 (fun v4x0 v4x1 v4x2 => sVary_F4 n v4x0 v4x1 v4x2 k4e0) k4e0
def sVary_h4 (v4x0 : (List Bytes)) (v4x1 : Int) (v4x2 : (List Bytes)) : St := (St.mk (slots 0 22 [(3, (AV.sh Ty.str v4x0)), (4, (AV.ref (320 : Nat) (0 : Nat))), (5, (AV.int .i64 v4x1))]) (((320 : Nat), (Ob.arr Ty.str (0 : Nat) false v4x2)) :: ([] : (List (Nat × (Ob))))))
def sVary_x4e0 (x4x0x0 : (List Bytes)) : St := (St.mk (slots 0 22 [(3, (AV.sh Ty.str x4x0x0))]) ([] : (List (Nat × (Ob)))))
noncomputable def sVary_b4 : Code := codeAt (codeOf Tryz.f71) [1, 1, 1, 0, 1, 0, 0]
def sVary_L4 (N : Nat) (st : St) (k : Ex → St → Option Rs) : Option Rs := match takeF [3, 4, 5] 0 22 st.env, st.objs with
  | some [.sh Ty.str v4x0, .ref 320 0, .int .i64 v4x1], [(320, .arr Ty.str 0 false v4x2)] => sVary_F4 N v4x0 v4x1 v4x2 (fun x4x0x0 => k (Ex.exit (0 : Nat)) (sVary_x4e0 x4x0x0))
  | _, _ => none
def sVary_L (N : Nat) : Lam := fun j st k => match j with
  | 4 => sVary_L4 N st k
  | _ => none
theorem sVary_round4 (N : Nat) (again : St → Option Rs) (k : Ex → St → Option Rs) (wv4x0 : (List Bytes)) (wv4x1 : Int) (wv4x2 : (List Bytes)) (v4x0 : (List Bytes)) (v4x1 : Int) (v4x2 : (List Bytes)) :
    roundK 0 (fun st k => evL Kx sVary_C sVary_O 0 (sVary_L N) sVary_b4 st k) (sVary_h4 wv4x0 wv4x1 wv4x2).env again (sVary_h4 v4x0 v4x1 v4x2) (outK sVary_O 0 sVary_b4 k) = sVary_T4 v4x0 v4x1 v4x2 (fun v4x0 v4x1 v4x2 => again (sVary_h4 v4x0 v4x1 v4x2)) (fun x4x0x0 => k (Ex.exit (0 : Nat)) (sVary_x4e0 x4x0x0)) := by kernel_rfl
theorem sVary_loop4 (N : Nat) (k : Ex → St → Option Rs) (wv4x0 : (List Bytes)) (wv4x1 : Int) (wv4x2 : (List Bytes)) : ∀ (n : Nat) (v4x0 : (List Bytes)) (v4x1 : Int) (v4x2 : (List Bytes)),
    loopK 0 (fun st k => evL Kx sVary_C sVary_O 0 (sVary_L N) sVary_b4 st k) (sVary_h4 wv4x0 wv4x1 wv4x2).env n (sVary_h4 v4x0 v4x1 v4x2) (outK sVary_O 0 sVary_b4 k) = sVary_F4 n v4x0 v4x1 v4x2 (fun x4x0x0 => k (Ex.exit (0 : Nat)) (sVary_x4e0 x4x0x0))
  | 0, _, _, _ => rfl
  | n + 1, v4x0, v4x1, v4x2 => by
    rw [loopK_succ, sVary_round4]
    simp only [sVary_loop4 N k wv4x0 wv4x1 wv4x2 n]
    rfl
theorem sVary_at4 (N : Nat) {s : St} {k : Ex → St → Option Rs} {r : Rs} (h : sVary_L4 N s k = some r) : ∃ (v4x0 : (List Bytes)) (v4x1 : Int) (v4x2 : (List Bytes)), s = (sVary_h4 v4x0 v4x1 v4x2) ∧ sVary_F4 N v4x0 v4x1 v4x2 (fun x4x0x0 => k (Ex.exit (0 : Nat)) (sVary_x4e0 x4x0x0)) = some r := by
  cases s with | mk env objs =>
  unfold sVary_L4 at h
  split at h
  · rename_i e1 e2
    have e3 := takeF_slots _ _ _ _ e1
    simp only at e2 e3
    subst e2 e3
    exact ⟨_, _, _, rfl, h⟩
  · cases h
theorem sVary_in4 : loops sVary_b4 = [] := by kernel_rfl
theorem sVary_lid4 : lid sVary_b4 = 4 := by kernel_rfl
theorem sVary_ok4 (N : Nat) : OkL Kx sVary_C sVary_O 0 N (sVary_L N) sVary_b4 := by
  intro s k k' r hk h
  rw [sVary_lid4] at h
  obtain ⟨v4x0, v4x1, v4x2, rfl, h⟩ := sVary_at4 N h
  refine loopL (Λ := sVary_L N) sVary_b4 ?_ N hk ((sVary_loop4 N k v4x0 v4x1 v4x2 N v4x0 v4x1 v4x2).trans h)
  rw [sVary_in4]
  exact fun _ h => nomatch h
def sVary_run (N : Nat) (l : List Fd) : Option Rs := (sVary_F4 N ([] : (List Bytes)) (0 : Int) (wordsP l ((118 : UInt8) :: ((97 : UInt8) :: ((114 : UInt8) :: ((121 : UInt8) :: ([] : Bytes)))))) (fun x4x0x0 => (some ((AV.sh Ty.str x4x0x0), ([] : List Ob)))))
theorem sVary_runL (N : Nat) (l : List Fd) : runL Kx sVary_C sVary_O (sVary_L N) Tryz.f71 ([.sh (.pair .str .str) l]) ([]) = sVary_run N l := by kernel_rfl
theorem sVary_body : Tryz.f71.body = some (codeOf Tryz.f71) := by kernel_rfl
theorem sVary_loops : loops (codeOf Tryz.f71) = [sVary_b4] := by kernel_rfl
theorem sVary_ev (N : Nat) (l : List Fd) {res_ : Rs} (hyp_ : sVary_run N l = some res_) : ∃ n_, runF Kx sVary_C sVary_O n_ Tryz.f71 ([.sh (.pair .str .str) l]) ([]) = some res_ :=
  ⟨N, runL_runF sVary_body (by rw [sVary_loops]; exact List.forall_mem_cons.2 ⟨sVary_ok4 N, fun _ h => nomatch h⟩) ((sVary_runL N l).trans hyp_)⟩
def sVary_sOf (φ : (List Fd) → Br) : List AV → List Ob → Br
  | [.sh (.pair .str .str) l], [] => φ l
  | _, _ => .fail
theorem sVary_okOf {φ : (List Fd) → Br} (fu : (List Fd) → Nat) (hv : ∀ l res_, (φ l).val = some res_ → sVary_run (fu l) l = some res_) : Sound Kx 71 (sVary_sOf φ) := by
  refine sound_run (C := sVary_C) (O := sVary_O) KOk sVary_C_ok Tryz.func71 (by kernel_rfl) fun args objs res os h => ?_
  unfold sVary_sOf at h
  split at h
  · exact sVary_ev _ _ (hv _ _ h)
  · cases h

end
end Go.Proofs.YtmmjaomfonknnaaGreatDoor.Ev

namespace Go.Proofs.YtmmjaomfonknnaaGreatDoor.Ev
open Go Go.RowKit
set_option linter.unusedVariables false
set_option linter.unusedSimpArgs false

abbrev Asc (l : List Bytes) : Prop := l.Pairwise fun a b => a < b
theorem asc_eq : ∀ {l m : List Bytes}, Asc l → Asc m → (∀ x, x ∈ l ↔ x ∈ m) → l = m
  | [], [], _, _, _ => rfl
  | [], b :: m, _, _, h => by have := (h b).2 (List.mem_cons_self ..); cases this
  | a :: l, [], _, _, h => by have := (h a).1 (List.mem_cons_self ..); cases this
  | a :: l, b :: m, h1, h2, h => by
    obtain ⟨g1, g2⟩ := List.pairwise_cons.1 h1
    obtain ⟨k1, k2⟩ := List.pairwise_cons.1 h2
    have hab : a = b := by
      rcases List.mem_cons.1 ((h a).1 (List.mem_cons_self ..)) with e | e
      · exact e
      · rcases List.mem_cons.1 ((h b).2 (List.mem_cons_self ..)) with e' | e'
        · exact e'.symm
        · exact absurd (k1 a e) (List.lt_asymm (g1 b e'))
    subst hab
    congr 1
    refine asc_eq g2 k2 fun x => ⟨fun hx => ?_, fun hx => ?_⟩
    · rcases List.mem_cons.1 ((h x).1 (List.mem_cons_of_mem _ hx)) with e | e
      · subst e; exact absurd (g1 x hx) (List.lt_irrefl x)
      · exact e
    · rcases List.mem_cons.1 ((h x).2 (List.mem_cons_of_mem _ hx)) with e | e
      · subst e; exact absurd (k1 x hx) (List.lt_irrefl x)
      · exact e
theorem less_eq (a b : Bytes) : bytesLess a b = decide (a < b) := bytesLess_eq a b
theorem lt_of_not {a b : Bytes} (h1 : ¬ a < b) (h2 : b ≠ a) : b < a := by
  rcases Classical.em (b < a) with h | h
  · exact h
  · exact absurd (List.le_antisymm (List.not_lt.1 h1) (List.not_lt.1 h)) h2
theorem mem_ins (s x : Bytes) : ∀ l : List Bytes, x ∈ insP l s ↔ x ∈ l ∨ x = s
  | [] => by simp [insP]
  | a :: l => by
    unfold insP
    cases bytesLess s a
    · simp only [cond_false, List.mem_cons, mem_ins s x l, or_assoc]
    · simp only [cond_true, List.mem_cons]
      constructor
      · rintro (h | h | h)
        · exact .inr h
        · exact .inl (.inl h)
        · exact .inl (.inr h)
      · rintro ((h | h) | h)
        · exact .inr (.inl h)
        · exact .inr (.inr h)
        · exact .inl h
theorem asc_ins (s : Bytes) : ∀ {l : List Bytes}, Asc l → s ∉ l → Asc (insP l s)
  | [], _, _ => by simp [insP]
  | a :: l, h, hs => by
    obtain ⟨g1, g2⟩ := List.pairwise_cons.1 h
    unfold insP
    cases hb : bytesLess s a
    · rw [less_eq] at hb
      have hab : a < s := lt_of_not (of_decide_eq_false hb) fun e => hs (by rw [e]; exact List.mem_cons_self ..)
      rw [cond_false]
      refine List.pairwise_cons.2 ⟨fun y hy => ?_, asc_ins s g2 fun e => hs (List.mem_cons_of_mem _ e)⟩
      rcases (mem_ins s y l).1 hy with e | e
      · exact g1 y e
      · subst e; exact hab
    · rw [less_eq] at hb
      have hab := of_decide_eq_true hb
      rw [cond_true]
      refine List.pairwise_cons.2 ⟨fun y hy => ?_, h⟩
      rcases List.mem_cons.1 hy with e | e
      · subst e; exact hab
      · exact List.lt_trans hab (g1 y e)
theorem inP_iff (l : List Bytes) (s : Bytes) : inP l s = true ↔ s ∈ l := by
  unfold inP
  simp
theorem mem_put (l : List Bytes) (s x : Bytes) : x ∈ putP l s ↔ x ∈ l ∨ x = s := by
  unfold putP
  cases h : inP l s
  · exact mem_ins s x l
  · rw [cond_true]
    refine ⟨.inl, fun h2 => ?_⟩
    rcases h2 with e | e
    · exact e
    · subst e; exact (inP_iff l x).1 h
theorem asc_put {l : List Bytes} (hl : Asc l) (s : Bytes) : Asc (putP l s) := by
  unfold putP
  cases h : inP l s
  · exact asc_ins s hl fun e => by rw [(inP_iff l s).2 e] at h; cases h
  · exact hl
theorem foldl_put : ∀ (xs l : List Bytes), Asc l → Asc (xs.foldl putP l) ∧ ∀ x, x ∈ xs.foldl putP l ↔ x ∈ l ∨ x ∈ xs
  | [], l, h => ⟨h, fun x => by simp⟩
  | a :: xs, l, h => by
    obtain ⟨h1, h2⟩ := foldl_put xs (putP l a) (asc_put h a)
    refine ⟨h1, fun x => ?_⟩
    show x ∈ xs.foldl putP (putP l a) ↔ _
    rw [h2, mem_put, List.mem_cons, or_assoc]
theorem le_sorted (xs : List Bytes) : (sortP xs).Pairwise fun a b => a ≤ b := by
  have := List.pairwise_mergeSort (le := fun x y : Bytes => decide (x ≤ y)) (fun a b c h1 h2 => by simp only [decide_eq_true_eq] at *; exact List.le_trans h1 h2) (fun a b => by simp only [Bool.or_eq_true, decide_eq_true_eq]; exact List.le_total a b) xs
  exact this.imp fun h => by simpa using h
theorem mem_sort (xs : List Bytes) (x : Bytes) : x ∈ sortP xs ↔ x ∈ xs := (List.mergeSort_perm xs _).mem_iff
theorem asc_comp {zs : List Bytes} (h : zs.Pairwise fun a b => a ≤ b) : Asc (compP zs) ∧ ∀ x, x ∈ compP zs ↔ x ∈ zs := by
  have hle : ∀ i j, i ≤ j → j < zs.length → zs.toArray[i]! ≤ zs.toArray[j]! := fun i j hij hj => by
    rw [getElem!_pos _ i (by simpa using Nat.lt_of_le_of_lt hij hj), getElem!_pos _ j (by simpa using hj)]
    rcases Nat.lt_or_ge i j with h' | h'
    · simpa using List.pairwise_iff_getElem.1 h i j (by omega) hj h'
    · obtain rfl : i = j := by omega
      exact List.le_refl _
  unfold compP Lib.compact Lib.compactUpTo
  refine ⟨?_, fun x => ⟨fun hx => ?_, fun hx => ?_⟩⟩
  · refine List.pairwise_map.2 ?_
    have h1 : ((List.range zs.length).filter (Lib.keeps zs.toArray)).Pairwise (· < ·) := List.pairwise_lt_range.filter _
    refine h1.imp_of_mem fun {i j} hi hj hij => ?_
    obtain ⟨hj1, hj2⟩ := List.mem_filter.1 hj
    have hj1 := List.mem_range.1 hj1
    have hne : zs.toArray[j]! ≠ zs.toArray[j - 1]! := by
      have := of_decide_eq_true hj2
      rcases this with e | e
      · omega
      · exact e
    have g1 := hle i (j - 1) (by omega) (by omega)
    have g2 := hle (j - 1) j (by omega) hj1
    have g3 : zs.toArray[j - 1]! < zs.toArray[j]! := lt_of_not (fun hlt => hne (List.le_antisymm (List.le_of_lt hlt) g2)) (Ne.symm hne)
    rcases Classical.em (zs.toArray[i]! = zs.toArray[j - 1]!) with e | e
    · rw [e]; exact g3
    · exact List.lt_trans (lt_of_not (fun hlt => e (List.le_antisymm g1 (List.le_of_lt hlt))) e) g3
  · obtain ⟨i, hi, rfl⟩ := List.mem_map.1 hx
    have hi' : i < zs.length := List.mem_range.1 (List.mem_filter.1 hi).1
    simp [getElem!_pos, hi']
  · obtain ⟨i, hi, rfl⟩ := List.mem_iff_getElem.1 hx
    clear hx
    induction i with
    | zero => exact List.mem_map.2 ⟨0, List.mem_filter.2 ⟨List.mem_range.2 hi, by simp [Lib.keeps]⟩, by simp [getElem!_pos, hi]⟩
    | succ i ih =>
      rcases Classical.em (zs[i + 1] = zs[i]) with e | e
      · rw [e]; exact ih (by omega)
      · refine List.mem_map.2 ⟨i + 1, List.mem_filter.2 ⟨List.mem_range.2 hi, ?_⟩, by simp [getElem!_pos, hi]⟩
        refine decide_eq_true (.inr ?_)
        rw [getElem!_pos _ (i + 1) (by simpa using hi), getElem!_pos _ (i + 1 - 1) (by simp; omega)]
        simpa using e
theorem comp_sort (xs : List Bytes) : compP (sortP xs) = xs.foldl putP [] := by
  obtain ⟨h1, h2⟩ := asc_comp (le_sorted xs)
  obtain ⟨h3, h4⟩ := foldl_put xs [] (by simp)
  exact asc_eq h1 h3 fun x => by rw [h2, mem_sort, h4]; simp
end Go.Proofs.YtmmjaomfonknnaaGreatDoor.Ev

namespace Go.Proofs.YtmmjaomfonknnaaGreatDoor.Ev
open Go Go.RowKit
set_option linter.unusedVariables false
set_option linter.unusedSimpArgs false
noncomputable section

theorem partE_bd : ∀ (n : Nat) (r cur : Bytes) (q : Bool), r.length ≤ n → (partE cur q r).length ≤ r.length + 1 ∧ ∀ x ∈ partE cur q r, x.length ≤ cur.length + r.length := by
  intro n; induction n with
  | zero =>
    intro r cur q h
    obtain rfl : r = [] := List.length_eq_zero_iff.1 (by omega)
    simp [partE_nil]
  | succ n ih =>
    intro r cur q h
    cases r with
    | nil => simp [partE_nil]
    | cons c r =>
      simp only [List.length_cons] at h
      have step : ∀ (cur' : Bytes) (q' : Bool), cur'.length ≤ cur.length + 1 → (partE cur' q' r).length ≤ (c :: r).length + 1 ∧ ∀ x ∈ partE cur' q' r, x.length ≤ cur.length + (c :: r).length := fun cur' q' hc => by
        obtain ⟨h1, h2⟩ := ih r cur' q' (by omega)
        refine ⟨by simp only [List.length_cons]; omega, fun x hx => ?_⟩
        have := h2 x hx
        simp only [List.length_cons]; omega
      rw [partE_cons]
      cases decide (by8 c = 34)
      · rw [cond_false]
        cases q && decide (by8 c = 92)
        · rw [cond_false]
          cases !q && decide (by8 c = 44)
          · rw [cond_false]; exact step _ _ (by simp)
          · rw [cond_true]
            obtain ⟨h1, h2⟩ := ih r [] q (by omega)
            refine ⟨by simp only [List.length_cons]; omega, fun x hx => ?_⟩
            rcases List.mem_cons.1 hx with e | e
            · subst e; omega
            · have := h2 x e
              simp only [List.length_cons, List.length_nil] at this ⊢; omega
        · rw [cond_true]
          cases r with
          | nil => simp
          | cons d r =>
            simp only [List.length_cons] at h
            obtain ⟨h1, h2⟩ := ih r (cur ++ [c, d]) q (by omega)
            refine ⟨by simp only [List.length_cons]; omega, fun x hx => ?_⟩
            have := h2 x hx
            simp only [List.length_cons, List.length_append, List.length_nil] at this ⊢; omega
      · rw [cond_true]; exact step _ _ (by simp)
theorem dropWhile_len (p : UInt8 → Bool) : ∀ s : Bytes, (s.dropWhile p).length ≤ s.length
  | [] => by simp
  | a :: s => by
    rw [List.dropWhile_cons]
    split
    · have := dropWhile_len p s; simp only [List.length_cons]; omega
    · exact Nat.le_refl _
theorem trimP_le (s : Bytes) : (trimP s).length ≤ s.length := by
  unfold trimP trimR trimL
  rw [List.length_reverse]
  refine Nat.le_trans (dropWhile_len _ _) ?_
  rw [List.length_reverse]
  exact dropWhile_len _ _
theorem keepE_bd : ∀ (l : List Bytes) (n : Nat), (∀ x ∈ l, x.length ≤ n) → (keepE l).length ≤ l.length ∧ ∀ x ∈ keepE l, x.length ≤ n
  | [], _, _ => by simp [keepE]
  | a :: l, n, h => by
    obtain ⟨h1, h2⟩ := keepE_bd l n fun x hx => h x (List.mem_cons_of_mem _ hx)
    have ha := h a (List.mem_cons_self ..)
    have := trimP_le a
    rw [keep_cons]
    cases decide (trimP a = [])
    · rw [cond_false]
      refine ⟨by simp only [List.length_cons]; omega, fun x hx => ?_⟩
      rcases List.mem_cons.1 hx with e | e
      · subst e; omega
      · exact h2 x e
    · rw [cond_true]
      exact ⟨by simp only [List.length_cons]; omega, h2⟩
theorem elem_bd (s : Bytes) : (elemP s).length ≤ 4001 ∧ ∀ x ∈ elemP s, x.length ≤ 4000 := by
  unfold elemP
  cases c : decide (4000 < (s.length : Int))
  · have hl := of_decide_eq_false c
    rw [cond_false]
    obtain ⟨h1, h2⟩ := partE_bd s.length s [] false (Nat.le_refl _)
    obtain ⟨h3, h4⟩ := keepE_bd (partE [] false s) 4000 fun x hx => by have := h2 x hx; simp only [List.length_nil] at this; omega
    exact ⟨by omega, h4⟩
  · simp
theorem words_bd (l : List Fd) (name : Bytes) : (wordsP l name).length ≤ 4001 ∧ ∀ x ∈ wordsP l name, isM x = true :=
  ⟨(elem_bd _).1, fun x hx => isM_of ((elem_bd _).2 x hx)⟩
def nVary : Bytes := [118, 97, 114, 121]
def varyP (l : List Fd) : List Bytes := (wordsP l nVary).foldl (fun o w => putP o (foldP w)) []
theorem vary_eq (l : List Fd) : compP (sortP ((wordsP l nVary).map foldP)) = varyP l := by
  rw [comp_sort, List.foldl_map]; rfl
theorem iVary_loop (k : List Bytes → Option Rs) (ws : List Bytes) (hl : ws.length ≤ 100000) : ∀ (r : List Bytes) (i : Int) (n : Nat) (out : List Bytes), At ws i r → r.length < n → (∀ x ∈ r, isM x = true) → out.length + r.length ≤ 200000 →
    iVary_F3 n (ws.length : Int) i out ws k = k (out ++ r.map foldP) := by
  intro r; induction r with
  | nil => intro i n out h hn hf ho; obtain ⟨n, rfl⟩ := fuel hn; unfold iVary_F3 iVary_T3; rw [h.dge, cond_false]; simp
  | cons a r ih =>
    intro i n out h hn hf ho; obtain ⟨n, rfl⟩ := fuel hn
    have ha := hf a (List.mem_cons_self ..)
    have hr := fun x h => hf x (List.mem_cons_of_mem _ h)
    simp only [List.length_cons] at hn ho
    unfold iVary_F3 iVary_T3
    simp (disch := omega) only [h.dlt, h.dnn, h.get, h.next (by omega), ha, cond_true, ap1]
    rw [one_set, ih (i + 1) n _ h.step (by omega) hr (by simp only [List.length_append, List.length_singleton]; omega)]
    simp
theorem ins_len (s : Bytes) : ∀ l : List Bytes, (insP l s).length ≤ l.length + 1
  | [] => by simp [insP]
  | a :: l => by
    have := ins_len s l
    unfold insP
    cases bytesLess s a
    · rw [cond_false]; simp only [List.length_cons]; omega
    · rw [cond_true]; simp only [List.length_cons]; omega
theorem put_len (l : List Bytes) (s : Bytes) : (putP l s).length ≤ l.length + 1 := by
  unfold putP
  cases inP l s
  · rw [cond_false]; exact ins_len s l
  · rw [cond_true]; omega
theorem sVary_loop (k : List Bytes → Option Rs) (ws : List Bytes) (hl : ws.length ≤ 100000) : ∀ (r : List Bytes) (i : Int) (n : Nat) (out : List Bytes), At ws i r → r.length < n → (∀ x ∈ r, isM x = true) → out.length + r.length ≤ 200000 →
    sVary_F4 n out i ws k = k (r.foldl (fun o w => putP o (foldP w)) out) := by
  intro r; induction r with
  | nil => intro i n out h hn hf ho; obtain ⟨n, rfl⟩ := fuel hn; unfold sVary_F4 sVary_T4; rw [h.dge, cond_false]; rfl
  | cons a r ih =>
    intro i n out h hn hf ho; obtain ⟨n, rfl⟩ := fuel hn
    have ha := hf a (List.mem_cons_self ..)
    have hr := fun x h => hf x (List.mem_cons_of_mem _ h)
    simp only [List.length_cons] at hn ho
    have hp := put_len out (foldP a)
    unfold sVary_F4 sVary_T4
    simp (disch := omega) only [h.dlt, h.dnn, h.get, h.next (by omega), ha, cond_true, dle']
    rw [ih (i + 1) n _ h.step (by omega) hr (by omega)]
    rfl
def vaR_s : List AV → List Ob → Br
  | [.sh (.pair .str .str) l], [] => .ret (.ref 0 0) [.arr .str 0 false (varyP l)]
  | _, _ => .fail
def vaS_s : List AV → List Ob → Br
  | [.sh (.pair .str .str) l], [] => .ret (.sh .str (varyP l)) []
  | _, _ => .fail
theorem iVary_okQ : Sound Kx 73 vaR_s := by
  refine (iVary_okOf (φ := fun l => .ret (.ref 0 0) [.arr .str 0 false (varyP l)]) (fun l => (wordsP l nVary).length + 1) fun l r h => ?_).of fun args objs r h => ?_
  · cases h
    obtain ⟨h1, h2⟩ := words_bd l nVary
    rw [← vary_eq]
    have hs : (sortP ((wordsP l nVary).map foldP)).length = (wordsP l nVary).length := by simp [sortP]
    unfold iVary_run
    refine (iVary_loop _ (wordsP l nVary) (by omega) _ 0 _ [] (At.start _) (by omega) h2 (by simp only [List.length_nil]; omega)).trans ?_
    simp only [List.nil_append]
    rw [dle' (by rw [List.length_map]; omega), dle' (by rw [hs]; omega)]; rfl
  · unfold vaR_s at h; split at h
    · exact h
    · cases h
theorem sVary_okQ : Sound Kx 71 vaS_s := by
  refine (sVary_okOf (φ := fun l => .ret (.sh .str (varyP l)) []) (fun l => (wordsP l nVary).length + 1) fun l r h => ?_).of fun args objs r h => ?_
  · cases h
    obtain ⟨h1, h2⟩ := words_bd l nVary
    unfold sVary_run
    exact sVary_loop _ (wordsP l nVary) (by omega) _ 0 _ [] (At.start _) (by omega) h2 (by simp only [List.length_nil]; omega)
  · unfold vaS_s at h; split at h
    · exact h
    · cases h
theorem vary_len (l : List Fd) : (varyP l).length ≤ 4001 := by
  rw [← vary_eq]
  refine Nat.le_trans (comp_len _) ?_
  have hs : (sortP ((wordsP l nVary).map foldP)).length = (wordsP l nVary).length := by simp [sortP]
  rw [hs]; exact (words_bd l nVary).1
end
end Go.Proofs.YtmmjaomfonknnaaGreatDoor.Ev
