/- The texts Ne, Nf, Ng, Nh, Ni, Nj, Nk, Nl, one behind the other. -/
import Derived.Test.YtdknaddanjpdaaaGreatDoorK16
import Derived.Test.YtdknaddanjpdaaaGreatDoorK15
import Derived.Test.YtdknaddanjpdaaaGreatDoorK12
namespace Go.Proofs.YtdknaddanjpdaaaGreatDoor.Ev
open Go Go.RowKit
set_option linter.unusedVariables false
set_option linter.unusedSimpArgs false
noncomputable section

def iJoined_C : SC := [⟨90, _, iValues_okQ⟩, ⟨165, _, join_okQ⟩]
def iJoined_br (l : List Fd) (name : Bytes) : Br := (Br.ite (isM name) (Br.ite ((decide ((List.length (vals l name)) ≤ 1000000)) && (decide ((List.length (joinP (vals l name) ([44, 32] : Bytes))) ≤ 1000000))) (Br.ret (AV.str (joinP (vals l name) ([44, 32] : Bytes))) []) Br.fail) Br.fail)
def iJoined_s : List AV → List Ob → Br
  | [.sh (.pair .str .str) l, .str name], [] => iJoined_br l name
  | _, _ => .fail
theorem iJoined_ok : Sound Kx 101 iJoined_s := sound_br (C := iJoined_C) (O := O0) Tryz.func101 (by kernel_rfl) fun args objs => by
  unfold iJoined_s; split
  · exact .inr (by kernel_rfl)
  · exact .inl rfl


theorem dle' {a b : Nat} (h : a ≤ b) : decide (a ≤ b) = true := decide_eq_true h
theorem vals_len (l : List Fd) (name : Bytes) : (vals l name).length ≤ 20 ∧ ∀ x ∈ vals l name, x.length ≤ 190 := by
  unfold vals
  cases h : fdsOk l
  · simp
  · rw [cond_true]
    obtain ⟨h1, h2⟩ := fdsOk_mem h
    refine ⟨?_, fun x hx => ?_⟩
    · unfold valsR; rw [List.length_map]; exact Nat.le_trans (List.length_filter_le _ _) h1
    · unfold valsR at hx
      obtain ⟨f, hf, rfl⟩ := List.mem_map.1 hx
      exact (fdOk_len (h2 f (List.mem_filter.1 hf).1)).2
def sepC : Bytes := [44, 32]
theorem tail_cons (x : Bytes) (r : List Bytes) : Lib.joinTail sepC (x :: r) = sepC ++ x ++ Lib.joinTail sepC r := by simp [Lib.joinTail]
theorem tail_len : ∀ (r : List Bytes), (∀ x ∈ r, x.length ≤ 190) → (Lib.joinTail sepC r).length ≤ 192 * r.length
  | [], _ => by simp [Lib.joinTail]
  | x :: r, h => by
    have h1 := h x (List.mem_cons_self ..)
    have h2 := tail_len r fun y hy => h y (List.mem_cons_of_mem _ hy)
    have h3 : sepC.length = 2 := rfl
    rw [tail_cons]
    simp only [List.length_append, List.length_cons, h3]; omega
theorem join_tail (x : Bytes) (r : List Bytes) : joinP (x :: r) sepC = x ++ Lib.joinTail sepC r := Lib.join_cons x r sepC
def joinedP (l : List Fd) (name : Bytes) : Bytes := joinP (vals l name) sepC
theorem joined_len (l : List Fd) (name : Bytes) : (joinedP l name).length ≤ 4000 := by
  unfold joinedP
  obtain ⟨h1, h2⟩ := vals_len l name
  cases hv : vals l name with
  | nil => simp [joinP, Lib.join_nil]
  | cons x r =>
    rw [hv] at h1 h2
    have := h2 x (List.mem_cons_self ..)
    have := tail_len r fun y hy => h2 y (List.mem_cons_of_mem _ hy)
    rw [join_tail, List.length_append]
    simp only [List.length_cons] at h1; omega
def jo_s (p : List Fd → Bytes → AV) : List AV → List Ob → Br
  | [.sh (.pair .str .str) l, .str name], [] => .ite (isM name) (.ret (p l name) []) .fail
  | _, _ => .fail
theorem iJoined_okQ : Sound Kx 101 (jo_s fun l name => .str (joinedP l name)) := iJoined_ok.of fun args objs r h => by
  unfold jo_s at h
  split at h
  case h_2 => cases h
  rename_i l name
  obtain ⟨h1, h2⟩ := ite_some h
  cases h2
  show (iJoined_br l name).val = _
  unfold iJoined_br
  have g1 := (vals_len l name).1
  have g2 := joined_len l name
  unfold joinedP sepC at g2
  refine (val_t h1).trans ((val_t ?_).trans rfl)
  rw [decide_eq_true (by omega), decide_eq_true (by omega)]; rfl
theorem sJoined_tail (v : List Bytes) (hl : v.length ≤ 20) (k : Bytes → Option Rs) : ∀ (r : List Bytes) (i : Int) (n : Nat) (s : Bytes), At v i r → 1 ≤ i → r.length < n → (∀ x ∈ r, x.length ≤ 190) → s.length + 192 * r.length ≤ 100000 →
    sJoined_F4 n s i v k = k (s ++ Lib.joinTail sepC r) := by
  intro r; induction r with
  | nil => intro i n s h hi hn hf hs; obtain ⟨n, rfl⟩ := fuel hn; unfold sJoined_F4 sJoined_T4; simp only [h.dge, cond_false, Lib.joinTail, List.map_nil, List.flatten_nil, List.append_nil]
  | cons a r ih =>
    intro i n s h hi hn hf hs; obtain ⟨n, rfl⟩ := fuel hn
    have ha := hf a (List.mem_cons_self ..)
    have hr := fun x h => hf x (List.mem_cons_of_mem _ h)
    simp only [List.length_cons] at hn hs
    have hp : decide ((0 : Int) < i) = true := decide_eq_true (by omega)
    unfold sJoined_F4 sJoined_T4
    simp (disch := (first | omega | (simp only [List.length_append, List.length_cons, List.length_nil]; omega))) only [h.dlt, h.dnn, h.get, h.next (by omega), hp, cond_true, dle']
    rw [ih (i + 1) n _ h.step (by omega) (by omega) hr (by simp only [List.length_append, List.length_cons, List.length_nil]; omega), tail_cons]
    simp only [sepC, List.append_assoc]
theorem sJoined_okQ : Sound Kx 97 (jo_s fun l name => .str (joinedP l name)) := by
  refine (sJoined_okOf (φ := fun l name => .ite (isM name) (.ret (.str (joinedP l name)) []) .fail) (fun l name => (vals l name).length + 1) fun l name r h => ?_).of fun args objs r h => ?_
  · obtain ⟨h1, h2⟩ := ite_some h
    cases h2
    unfold sJoined_run joinedP
    rw [h1, cond_true]
    obtain ⟨g1, g2⟩ := vals_len l name
    revert g1 g2
    generalize vals l name = v
    intro g1 g2
    cases v with
    | nil => rfl
    | cons x r =>
      have hx := g2 x (List.mem_cons_self ..)
      have hat : At (x :: r) 0 (x :: r) := At.start _
      simp only [List.length_cons] at g1
      unfold sJoined_F4 sJoined_T4
      have h0 : decide ((0 : Int) < 0) = false := rfl
      simp (disch := (first | omega | (simp only [List.length_append, List.length_cons, List.length_nil]; omega))) only [hat.dlt, hat.dnn, hat.get, hat.next (by simp only [List.length_cons]; omega), h0, cond_true, cond_false, dle']
      rw [List.nil_append, show (0 : Int) + 1 = 1 by rfl, List.length_cons, sJoined_tail (x :: r) (by simp only [List.length_cons]; omega) _ r 1 (r.length + 1) _ hat.step (by omega) (by omega) (fun y hy => g2 y (List.mem_cons_of_mem _ hy)) (by omega), join_tail]
  · unfold jo_s at h; split at h
    · exact h
    · cases h

def bytesLess (a b : Bytes) : Bool := Op.bytesLess a b
def inP (l : List Bytes) (s : Bytes) : Bool := l.any fun x => decide (x = s)
theorem sl5in_loop (l : List Bytes) (hl : l.length ≤ 4611686018427387904) (s : Bytes) (k0 k1 : Option Rs) : ∀ (r : List Bytes) (i : Int) (n : Nat), At l i r → r.length < n → sl5in_F2 n l s i k0 k1 = bif inP r s then k0 else k1 := by
  intro r; induction r with
  | nil => intro i n h hn; obtain ⟨n, rfl⟩ := fuel hn; unfold sl5in_F2 sl5in_T2; simp only [h.dge, cond_false, inP, List.any_nil]
  | cons a r ih =>
    intro i n h hn; obtain ⟨n, rfl⟩ := fuel hn
    have hs := ih (i + 1) n h.step (by simp at hn; omega)
    unfold sl5in_F2 sl5in_T2
    simp only [h.dlt, h.dnn, h.get, cond_true, h.next hl, hs, inP, List.any_cons]
    cases decide (a = s) <;> rfl
def in_s : List AV → List Ob → Br
  | [.sh .str l, .str s], [] => .ite (decide (l.length ≤ 1000000)) (.ret (.bool (inP l s)) []) .fail
  | _, _ => .fail
theorem sl5in_okQ : Sound Kx 59 in_s := by
  refine (sl5in_okOf (φ := fun l s => .ite (decide (l.length ≤ 1000000)) (.ret (.bool (inP l s)) []) .fail) (fun l _ => l.length + 1) fun l s r h => ?_).of fun args objs r h => ?_
  · obtain ⟨h1, h2⟩ := ite_some h
    cases h2
    rw [decide_eq_true_eq] at h1
    unfold sl5in_run
    rw [sl5in_loop l (by omega) s _ _ l 0 _ (At.start l) (by omega)]
    cases inP l s <;> rfl
  · unfold in_s at h; split at h
    · exact h
    · cases h
def mtP (k : Int) : Bytes := 109 :: Lib.decDigits k.toNat
theorem digit_of' (d : Int) (h0 : 0 ≤ d) (h : d < 10) : ofBytes (List.set (List.replicate 1 (0 : Int)) 0 (wk8 (wk64 (48 + d)))) = [UInt8.ofNat (48 + d.toNat)] := by
  rw [w64 (by omega) (by omega), w8 (by omega) (by omega), one_set]
  show [UInt8.ofNat (48 + d).toNat] = _
  rw [show (48 + d).toNat = 48 + d.toNat by omega]
theorem markText_loop (K : Bytes → Option Rs) : ∀ (n : Nat) (k : Int) (out : Bytes), 0 < k → k ≤ 1000000000 → k < (n : Int) → out.length + k.toNat ≤ 2000000000 →
    markText_F4 (n + 1) k out K = K (Lib.decDigits k.toNat ++ out) := by
  intro n; induction n with
  | zero => intro k out h0 h1 h2; omega
  | succ n ih =>
    intro k out h0 h1 h2 h3
    have e1 : wk64 (Int.tdiv k 10) = ((k.toNat / 10 : Nat) : Int) := by
      rw [Int.tdiv_eq_ediv_of_nonneg (by omega), w64 (by omega) (by omega)]; omega
    have e2 : Int.tmod k 10 = ((k.toNat % 10 : Nat) : Int) := by
      rw [Int.tmod_eq_emod_of_nonneg (by omega)]; omega
    have hd : ofBytes (List.set (List.replicate 1 (0 : Int)) 0 (wk8 (wk64 (48 + ((k.toNat % 10 : Nat) : Int))))) = [UInt8.ofNat (48 + k.toNat % 10)] := by
      rw [digit_of' _ (by omega) (by omega)]; simp only [Int.toNat_natCast]
    unfold markText_F4 markText_T4
    have hp : decide ((0 : Int) < k) = true := decide_eq_true h0
    simp only [hp, e1, e2, hd, cond_true, List.length_singleton, dle' (show 1 + out.length ≤ 9223372036854775807 by omega)]
    by_cases c : k.toNat < 10
    · have e3 : k.toNat / 10 = 0 := by omega
      have e4 : k.toNat % 10 = k.toNat := by omega
      rw [e3]
      unfold markText_F4 markText_T4
      simp only [Int.ofNat_eq_natCast, Int.cast_ofNat_Int, Int.lt_irrefl, decide_false, cond_false]
      rw [Lib.decDigits_one c, e4]
    · rw [ih _ _ (by omega) (by omega) (by omega) (by simp only [List.length_append, List.length_singleton]; omega), Int.toNat_natCast, Lib.decDigits.eq_1 k.toNat, dif_neg c, List.append_assoc]
def mt_s : List AV → List Ob → Br
  | [.int .i64 k], [] => .ite (decide (0 < k) && decide (k ≤ 100000000)) (.ret (.str (mtP k)) []) .fail
  | _, _ => .fail
theorem decDigits_le (n : Nat) : (Lib.decDigits n).length ≤ n + 1 := by
  induction n using Nat.strongRecOn with
  | _ n ih =>
    by_cases c : n < 10
    · rw [Lib.decDigits_one c]; simp
    · rw [Lib.decDigits.eq_1, dif_neg c]
      have := ih (n / 10) (by omega)
      simp only [List.length_append, List.length_singleton]; omega
theorem markText_okQ : Sound Kx 43 mt_s := by
  refine (markText_okOf (φ := fun k => .ite (decide (0 < k) && decide (k ≤ 100000000)) (.ret (.str (mtP k)) []) .fail) (fun k => k.toNat + 2) fun k r h => ?_).of fun args objs r h => ?_
  · obtain ⟨h1, h2⟩ := ite_some h
    cases h2
    rw [Bool.and_eq_true, decide_eq_true_eq, decide_eq_true_eq] at h1
    have hl := decDigits_le k.toNat
    unfold markText_run
    rw [decide_eq_false (by omega), cond_false, markText_loop _ (k.toNat + 1) k [] h1.1 (by omega) (by omega) (by simp; omega)]
    simp only [List.append_nil]
    rw [dle' (by omega), cond_true]; rfl
  · unfold mt_s at h; split at h
    · exact h
    · cases h

def iWords_C : SC := [⟨101, _, iJoined_okQ⟩, ⟨100, _, iElements_okQ⟩]
def iWords_br (l : List Fd) (name : Bytes) : Br := (Br.ite (isM name) (Br.ret (AV.ref 0 0) ((Ob.arr Ty.str 0 false (elemP (joinedP l name))) :: [])) Br.fail)
def iWords_s : List AV → List Ob → Br
  | [.sh (.pair .str .str) l, .str name], [] => iWords_br l name
  | _, _ => .fail
theorem iWords_ok : Sound Kx 54 iWords_s := sound_br (C := iWords_C) (O := O0) Tryz.func54 (by kernel_rfl) fun args objs => by
  unfold iWords_s; split
  · exact .inr (by kernel_rfl)
  · exact .inl rfl

def sWords_C : SC := [⟨97, _, sJoined_okQ⟩, ⟨96, _, sElements_okQ⟩]
def sWords_br (l : List Fd) (name : Bytes) : Br := (Br.ite (isM name) (Br.ret (AV.ref 0 0) ((Ob.arr Ty.str 0 false (elemP (joinedP l name))) :: [])) Br.fail)
def sWords_s : List AV → List Ob → Br
  | [.sh (.pair .str .str) l, .str name], [] => sWords_br l name
  | _, _ => .fail
theorem sWords_ok : Sound Kx 47 sWords_s := sound_br (C := sWords_C) (O := O0) Tryz.func47 (by kernel_rfl) fun args objs => by
  unfold sWords_s; split
  · exact .inr (by kernel_rfl)
  · exact .inl rfl

def sl5put_O : Opt := { live := [(6, [0, 1, 5, 6, 7])], outs := [(6, [1, 4, 5, 6])] }
def sl5put_C : SC := [⟨59, _, sl5in_okQ⟩]
def sl5put_T6 (v6x0 : (List Bytes)) (v6x1 : Bytes) (v6x2 : Bool) (v6x3 : Int) (v6x4 : (List Bytes)) (kR6 : (List Bytes) → Bytes → Bool → Int → (List Bytes) → Option Rs) (k6e0 : Bytes → Bool → (List Bytes) → Option Rs) : Option Rs :=
  (bif (decide (v6x3 < (v6x0.length : Int))) then (bif (!v6x2) then (bif (decide (0 ≤ v6x3)) then (bif (decide (v6x3 < (v6x0.length : Int))) then (bif (bytesLess v6x1 (List.getD v6x0 (Int.toNat v6x3) ([] : Bytes))) then (bif (decide (((v6x4.length + (List.length (List.set (List.replicate 1 ([] : Bytes)) 0 v6x1))) * 16) ≤ 140737488355328)) then (bif (decide (0 ≤ v6x3)) then (bif (decide (v6x3 < (v6x0.length : Int))) then (bif (decide ((((List.length (v6x4 ++ (List.set (List.replicate 1 ([] : Bytes)) 0 v6x1))) + (List.length (List.set (List.replicate 1 ([] : Bytes)) 0 (List.getD v6x0 (Int.toNat v6x3) ([] : Bytes))))) * 16) ≤ 140737488355328)) then (kR6 v6x0 v6x1 true (wk64 (v6x3 + 1)) ((v6x4 ++ (List.set (List.replicate 1 ([] : Bytes)) 0 v6x1)) ++ (List.set (List.replicate 1 ([] : Bytes)) 0 (List.getD v6x0 (Int.toNat v6x3) ([] : Bytes))))) else (none)) else (none)) else (none)) else (none)) else (bif (decide (0 ≤ v6x3)) then (bif (decide (v6x3 < (v6x0.length : Int))) then (bif (decide (((v6x4.length + (List.length (List.set (List.replicate 1 ([] : Bytes)) 0 (List.getD v6x0 (Int.toNat v6x3) ([] : Bytes))))) * 16) ≤ 140737488355328)) then (kR6 v6x0 v6x1 v6x2 (wk64 (v6x3 + 1)) (v6x4 ++ (List.set (List.replicate 1 ([] : Bytes)) 0 (List.getD v6x0 (Int.toNat v6x3) ([] : Bytes))))) else (none)) else (none)) else (none))) else (none)) else (none)) else (bif (decide (0 ≤ v6x3)) then (bif (decide (v6x3 < (v6x0.length : Int))) then (bif (decide (((v6x4.length + (List.length (List.set (List.replicate 1 ([] : Bytes)) 0 (List.getD v6x0 (Int.toNat v6x3) ([] : Bytes))))) * 16) ≤ 140737488355328)) then (kR6 v6x0 v6x1 v6x2 (wk64 (v6x3 + 1)) (v6x4 ++ (List.set (List.replicate 1 ([] : Bytes)) 0 (List.getD v6x0 (Int.toNat v6x3) ([] : Bytes))))) else (none)) else (none)) else (none))) else (k6e0 v6x1 v6x2 v6x4))
def sl5put_F6 : Nat → (List Bytes) → Bytes → Bool → Int → (List Bytes) → (Bytes → Bool → (List Bytes) → Option Rs) → Option Rs
  | 0, _, _, _, _, _, _ => none
  | n + 1, v6x0, v6x1, v6x2, v6x3, v6x4, k6e0 => sl5put_T6 v6x0 v6x1 v6x2 v6x3 v6x4 (fun v6x0 v6x1 v6x2 v6x3 v6x4 => sl5put_F6 n v6x0 v6x1 v6x2 v6x3 v6x4 k6e0) k6e0
abbrev sl5put_p6 : SP := ⟨46, [0, 1, 5, 6, 7], [(.v (.sh Ty.str)), (.v .s), (.v (.ref 384 0)), (.v .b), (.v (.i .i64))], [(384, .arr Ty.str 0 false)]⟩
noncomputable def sl5put_b6 : Code := codeAt (codeOf Tryz.f187) [1, 1, 1, 1, 0, 1, 0, 0]
def sl5put_E6 (f : (Bytes → Bool → (List Bytes) → Option Rs) → Option Rs) (k : KT) : Option Rs := f (fun x6x0x0 x6x0x1 x6x0x2 => k (Ex.exit 0) ((St.mk (slots 0 46 [(1, (AV.str x6x0x0)), (5, (AV.ref 384 0)), (6, (AV.bool x6x0x1))]) ((384, (Ob.arr Ty.str 0 false x6x0x2)) :: ([] : (List (Nat × (Ob))))))))
def sl5put_G6 (n : Nat) (d : sl5put_p6.D) : KT → Option Rs := sl5put_E6 (sl5put_F6 n d.1.1 d.1.2.1 d.1.2.2.2.1 d.1.2.2.2.2.1 d.2.1)
def sl5put_L (N : Nat) : Lam := lamOf [⟨6, sl5put_p6, sl5put_G6 N⟩]
theorem sl5put_ok6 (N : Nat) : OkL Kx sl5put_C.s sl5put_O 0 N (sl5put_L N) sl5put_b6 := okL sl5put_p6 (sl5put_G6) (fun d kR => sl5put_E6 (sl5put_T6 d.1.1 d.1.2.1 d.1.2.2.2.1 d.1.2.2.2.2.1 d.2.1 (fun v6x0 v6x1 v6x2 v6x3 v6x4 => kR ((v6x0, v6x1, (), v6x2, v6x3, ()), (v6x4, ()))))) (fun _ _ => by kernel_rfl) (fun _ _ _ => by kernel_rfl) (fun _ _ => by kernel_rfl) (fun _ _ _ _ => by kernel_rfl) (okEach (l' := []) (by kernel_rfl) trivial)
def sl5put_run (N : Nat) (l : List Bytes) (s : Bytes) : Option Rs := (bif (decide (l.length ≤ 1000000)) then (bif (inP l s) then (some ((AV.sh Ty.str l), [])) else (sl5put_F6 N l s false 0 ([] : (List Bytes)) (fun x6x0x0 => (fun x6x0x1 => (fun x6x0x2 => (bif (!x6x0x1) then (bif (decide (((x6x0x2.length + (List.length (List.set (List.replicate 1 ([] : Bytes)) 0 x6x0x0))) * 16) ≤ 140737488355328)) then (some ((AV.ref 0 0), ((Ob.arr Ty.str 0 false (x6x0x2 ++ (List.set (List.replicate 1 ([] : Bytes)) 0 x6x0x0))) :: []))) else (none)) else (some ((AV.ref 0 0), ((Ob.arr Ty.str 0 false x6x0x2) :: []))))))))) else (none))
def sl5put_sOf (φ : (List Bytes) → Bytes → Br) : List AV → List Ob → Br
  | [.sh .str l, .str s], [] => φ l s
  | _, _ => .fail
theorem sl5put_okOf {φ : (List Bytes) → Bytes → Br} (fu : (List Bytes) → Bytes → Nat) (hv : ∀ l s res_, (φ l s).val = some res_ → sl5put_run (fu l s) l s = some res_) : Sound Kx 187 (sl5put_sOf φ) := sound_lp (C := sl5put_C) (O := sl5put_O) Tryz.func187 (by kernel_rfl) fun args objs => by
  unfold sl5put_sOf; split
  · rename_i l s; exact .inr fun _ hyp_ => run_lp (Λ := sl5put_L (fu l s)) (by kernel_rfl) (okEach (l' := [sl5put_b6]) (by kernel_rfl) ⟨sl5put_ok6 _, trivial⟩) (by kernel_rfl) (hv l s _ hyp_)
  · exact .inl rfl

def markFieldS_O : Opt := { live := [(2, [0, 1, 5])], outs := [(2, [1, 4])] }
def markFieldS_C : SC := [⟨43, _, markText_okQ⟩]
def markFieldS_T2 (v2x0 v2x1 : Int) (v2x2 : (List Fd)) (kR2 : Int → Int → (List Fd) → Option Rs) (k2e0 : Int → (List Fd) → Option Rs) : Option Rs :=
  (bif (decide (v2x1 < (v2x2.length : Int))) then (bif ((decide (0 < v2x0)) && (decide (v2x0 ≤ 100000000))) then (bif (decide (0 ≤ v2x1)) then (bif (decide (v2x1 < (v2x2.length : Int))) then (bif ((decide (0 < (wk64 (v2x0 + 1)))) && (decide ((wk64 (v2x0 + 1)) ≤ 100000000))) then (bif (decide (0 ≤ v2x1)) then (bif (decide (v2x1 < ((List.length (List.set v2x2 (Int.toNat v2x1) ((mtP v2x0), (List.getD v2x2 (Int.toNat v2x1) (([] : Bytes), ([] : Bytes))).2))) : Int))) then (kR2 (wk64 ((wk64 (v2x0 + 1)) + 1)) (wk64 (v2x1 + 1)) (List.set (List.set v2x2 (Int.toNat v2x1) ((mtP v2x0), (List.getD v2x2 (Int.toNat v2x1) (([] : Bytes), ([] : Bytes))).2)) (Int.toNat v2x1) ((List.getD (List.set v2x2 (Int.toNat v2x1) ((mtP v2x0), (List.getD v2x2 (Int.toNat v2x1) (([] : Bytes), ([] : Bytes))).2)) (Int.toNat v2x1) (([] : Bytes), ([] : Bytes))).1, (mtP (wk64 (v2x0 + 1)))))) else (none)) else (none)) else (none)) else (none)) else (none)) else (none)) else (k2e0 v2x0 v2x2))
def markFieldS_F2 : Nat → Int → Int → (List Fd) → (Int → (List Fd) → Option Rs) → Option Rs
  | 0, _, _, _, _ => none
  | n + 1, v2x0, v2x1, v2x2, k2e0 => markFieldS_T2 v2x0 v2x1 v2x2 (fun v2x0 v2x1 v2x2 => markFieldS_F2 n v2x0 v2x1 v2x2 k2e0) k2e0
abbrev markFieldS_p2 : SP := ⟨29, [0, 1, 5], [(.v (.ref 0 0)), (.v (.i .i64)), (.v (.i .i64))], [(0, .arr (Ty.pair Ty.str Ty.str) 0 false)]⟩
noncomputable def markFieldS_b2 : Code := codeAt (codeOf Tryz.f14) [1, 0, 1, 0, 0]
def markFieldS_E2 (f : (Int → (List Fd) → Option Rs) → Option Rs) (k : KT) : Option Rs := f (fun x2x0x0 x2x0x1 => k (Ex.exit 0) ((St.mk (slots 0 29 [(1, (AV.int .i64 x2x0x0))]) ((0, (Ob.arr (Ty.pair Ty.str Ty.str) 0 false x2x0x1)) :: ([] : (List (Nat × (Ob))))))))
def markFieldS_G2 (n : Nat) (d : markFieldS_p2.D) : KT → Option Rs := markFieldS_E2 (markFieldS_F2 n d.1.2.1 d.1.2.2.1 d.2.1)
def markFieldS_L (N : Nat) : Lam := lamOf [⟨2, markFieldS_p2, markFieldS_G2 N⟩]
theorem markFieldS_ok2 (N : Nat) : OkL Kx markFieldS_C.s markFieldS_O 1 N (markFieldS_L N) markFieldS_b2 := okL markFieldS_p2 (markFieldS_G2) (fun d kR => markFieldS_E2 (markFieldS_T2 d.1.2.1 d.1.2.2.1 d.2.1 (fun v2x0 v2x1 v2x2 => kR (((), v2x0, v2x1, ()), (v2x2, ()))))) (fun _ _ => by kernel_rfl) (fun _ _ _ => by kernel_rfl) (fun _ _ => by kernel_rfl) (fun _ _ _ _ => by kernel_rfl) (okEach (l' := []) (by kernel_rfl) trivial)
def markFieldS_run (N : Nat) (l : List Fd) (k : Int) : Option Rs := (markFieldS_F2 N k 0 l (fun x2x0x0 => (fun x2x0x1 => (some ((AV.int .i64 x2x0x0), ((Ob.arr (Ty.pair Ty.str Ty.str) 0 false x2x0x1) :: []))))))
def markFieldS_sOf (φ : (List Fd) → Int → Br) : List AV → List Ob → Br
  | [.ref 0 0, .int .i64 k], [.arr (.pair .str .str) 0 false l] => φ l k
  | _, _ => .fail
theorem markFieldS_okOf {φ : (List Fd) → Int → Br} (fu : (List Fd) → Int → Nat) (hv : ∀ l k res_, (φ l k).val = some res_ → markFieldS_run (fu l k) l k = some res_) : Sound Kx 14 (markFieldS_sOf φ) := sound_lp (C := markFieldS_C) (O := markFieldS_O) Tryz.func14 (by kernel_rfl) fun args objs => by
  unfold markFieldS_sOf; split
  · rename_i k l; exact .inr fun _ hyp_ => run_lp (Λ := markFieldS_L (fu l k)) (by kernel_rfl) (okEach (l' := [markFieldS_b2]) (by kernel_rfl) ⟨markFieldS_ok2 _, trivial⟩) (by kernel_rfl) (hv l k _ hyp_)
  · exact .inl rfl


def wordsP (l : List Fd) (name : Bytes) : List Bytes := elemP (joinedP l name)
def wo_s : List AV → List Ob → Br
  | [.sh (.pair .str .str) l, .str name], [] => .ite (isM name) (.ret (.ref 0 0) [.arr .str 0 false (wordsP l name)]) .fail
  | _, _ => .fail
theorem iWords_okQ : Sound Kx 54 wo_s := iWords_ok.of fun args objs r h => by
  unfold wo_s at h
  split at h
  · exact h
  · cases h
theorem sWords_okQ : Sound Kx 47 wo_s := sWords_ok.of fun args objs r h => by
  unfold wo_s at h
  split at h
  · exact h
  · cases h

def insP : List Bytes → Bytes → List Bytes
  | [], s => [s]
  | x :: r, s => bif bytesLess s x then s :: x :: r else x :: insP r s
def putP (l : List Bytes) (s : Bytes) : List Bytes := bif inP l s then l else insP l s
theorem ap1 (out : List Bytes) (x : Bytes) (h : out.length ≤ 5000000) : decide ((out.length + (List.set (List.replicate 1 ([] : Bytes)) 0 x).length) * 16 ≤ 140737488355328) = true := decide_eq_true (by rw [one_set, List.length_singleton]; omega)
theorem sl5put_loop (l : List Bytes) (hl : l.length ≤ 1000000) (s : Bytes) (k : Bytes → Bool → List Bytes → Option Rs) (K : List Bytes → Option Rs) (hk : ∀ d o, o.length ≤ 2000000 → k s d o = K (bif d then o else o ++ [s])) : ∀ (r : List Bytes) (i : Int) (n : Nat) (d : Bool) (out : List Bytes), At l i r → r.length < n → out.length + r.length + 1 ≤ 2000000 - (bif d then 0 else 1) →
    sl5put_F6 n l s d i out k = K (out ++ bif d then r else insP r s) := by
  intro r; induction r with
  | nil =>
    intro i n d out h hn ho; obtain ⟨n, rfl⟩ := fuel hn
    simp only [List.length_nil] at ho
    unfold sl5put_F6 sl5put_T6
    rw [h.dge, cond_false, hk d out (by omega)]
    cases d <;> simp [insP]
  | cons a r ih =>
    intro i n d out h hn ho; obtain ⟨n, rfl⟩ := fuel hn
    simp only [List.length_cons] at hn ho
    unfold sl5put_F6 sl5put_T6
    simp only [h.dlt, h.dnn, h.get, h.next (by omega), cond_true]
    cases d
    · simp only [Bool.not_false, cond_true, cond_false, insP] at ho ⊢
      cases hb : bytesLess s a
      · simp (disch := (first | omega | (simp only [List.length_append, one_set, List.length_cons, List.length_nil]; omega))) only [cond_true, cond_false, ap1]
        simp only [one_set]
        rw [ih (i + 1) n false _ h.step (by omega) (by simp only [List.length_append, List.length_singleton, cond_false]; omega)]
        simp
      · simp (disch := (first | omega | (simp only [List.length_append, one_set, List.length_cons, List.length_nil]; omega))) only [cond_true, cond_false, ap1]
        simp only [one_set]
        rw [ih (i + 1) n true _ h.step (by omega) (by simp only [List.length_append, List.length_singleton, cond_true]; omega)]
        simp
    · simp only [Bool.not_true, cond_true, cond_false] at ho ⊢
      simp (disch := (first | omega | (simp only [List.length_append, one_set, List.length_cons, List.length_nil]; omega))) only [cond_true, cond_false, ap1]
      simp only [one_set]
      rw [ih (i + 1) n true _ h.step (by omega) (by simp only [List.length_append, List.length_singleton, cond_true]; omega)]
      simp
def put_s : List AV → List Ob → Br
  | [.sh .str l, .str s], [] => .ite (decide (l.length ≤ 900000)) (.ret (.sh .str (putP l s)) []) .fail
  | _, _ => .fail
theorem sl5put_okQ : Sound Kx 187 put_s := by
  have h0 : Sound Kx 187 (sl5put_sOf fun l s => .ite (decide (l.length ≤ 900000)) (bif inP l s then .ret (.sh .str l) [] else .ret (.ref 0 0) [.arr .str 0 false (insP l s)]) .fail) := by
    refine sl5put_okOf (fun l _ => l.length + 1) fun l s r h => ?_
    obtain ⟨h1, h2⟩ := ite_some h
    rw [decide_eq_true_eq] at h1
    unfold sl5put_run
    rw [dle' (show l.length ≤ 1000000 by omega), cond_true]
    cases c : inP l s
    · rw [c] at h2
      cases h2
      rw [cond_false, sl5put_loop l (by omega) s _ (fun o => some (.ref 0 0, [.arr .str 0 false o])) ?_ l 0 _ false [] (At.start l) (by omega) (by simp only [List.length_nil, cond_false]; omega)]
      · rfl
      · intro d o ho
        rw [ap1 o s (by omega)]
        cases d
        · rw [Bool.not_false, cond_true, cond_false, cond_true, one_set]
        · rfl
    · rw [c] at h2
      cases h2
      rfl
  refine sound_sh h0 fun args objs res objs' hv => ?_
  unfold put_s at hv
  split at hv
  case h_2 => cases hv
  rename_i l s
  obtain ⟨h1, h2⟩ := ite_some hv
  cases h2
  refine ⟨rfl, rfl, _, _, rfl, ?_⟩
  unfold putP
  cases c : inP l s
  · right
    refine ⟨0, false, ?_⟩
    show (Br.ite _ _ _).val = _
    rw [c]; exact val_t h1
  · left
    show (Br.ite _ _ _).val = _
    rw [c]; exact val_t h1
def marksF : Nat → Int → List Fd
  | 0, _ => []
  | n + 1, k => (mtP k, mtP (k + 1)) :: marksF n (k + 1 + 1)
theorem markFieldS_loop (K : Int → List Fd → Option Rs) : ∀ (r pre : List Fd) (k i : Int) (n : Nat), i = (pre.length : Int) → r.length < n → pre.length + r.length ≤ 100000000 → 0 < k → k + 2 * r.length ≤ 100000000 →
    markFieldS_F2 n k i (pre ++ r) K = K (k + 2 * r.length) (pre ++ marksF r.length k) := by
  intro r; induction r with
  | nil =>
    intro pre k i n hi hn hp h0 h1; obtain ⟨n, rfl⟩ := fuel hn
    have e : decide (i < ((pre ++ ([] : List Fd)).length : Int)) = false := decide_eq_false (by rw [hi]; simp)
    unfold markFieldS_F2 markFieldS_T2
    rw [e, cond_false]; simp [marksF]
  | cons a r ih =>
    intro pre k i n hi hn hp h0 h1; obtain ⟨n, rfl⟩ := fuel hn
    simp only [List.length_cons] at hn hp h1
    have ha : At (pre ++ a :: r) i (a :: r) := ⟨pre, rfl, hi⟩
    have hw : wk64 (k + 1) = k + 1 := w64 (by omega) (by omega)
    have hw2 : wk64 (k + 1 + 1) = k + 1 + 1 := w64 (by omega) (by omega)
    have hg : (decide (0 < k) && decide (k ≤ 100000000)) = true := by rw [decide_eq_true h0, decide_eq_true (by omega)]; rfl
    have hg2 : (decide (0 < k + 1) && decide (k + 1 ≤ 100000000)) = true := by rw [decide_eq_true (by omega), decide_eq_true (by omega)]; rfl
    have hset : ∀ x, (pre ++ a :: r).set i.toNat x = pre ++ x :: r := fun x => by rw [hi, Int.toNat_natCast, set_mid]
    have hset2 : ∀ x y, (pre ++ x :: r).set i.toNat y = (pre ++ [y]) ++ r := fun x y => by rw [hi, Int.toNat_natCast, set_mid, cat_one]
    have hget : ∀ x d, (pre ++ x :: r).getD i.toNat d = x := fun x d => by rw [hi, Int.toNat_natCast, getD_mid]
    have hlt : ∀ x, decide (i < ((pre ++ x :: r).length : Int)) = true := fun x => decide_eq_true (by rw [hi]; simp only [List.length_append, List.length_cons]; omega)
    unfold markFieldS_F2 markFieldS_T2
    simp only [hlt, ha.dnn, hg, hg2, hw, hw2, hset, hset2, hget, ha.next (by simp only [List.length_append, List.length_cons]; omega), cond_true]
    rw [ih (pre ++ [(mtP k, mtP (k + 1))]) (k + 1 + 1) (i + 1) n (by rw [hi]; simp) (by omega) (by simp only [List.length_append, List.length_singleton]; omega) (by omega) (by omega)]
    congr 1
    · simp only [List.length_cons]; omega
    · simp [marksF]
def mkF_s : List AV → List Ob → Br
  | [.ref 0 0, .int .i64 k], [.arr (.pair .str .str) 0 false l] => .ite (decide (0 < k) && decide (k + 2 * l.length ≤ 100000000)) (.ret (.int .i64 (k + 2 * l.length)) [.arr (.pair .str .str) 0 false (marksF l.length k)]) .fail
  | _, _ => .fail
theorem markFieldS_okQ : Sound Kx 14 mkF_s := by
  refine (markFieldS_okOf (φ := fun l k => .ite (decide (0 < k) && decide (k + 2 * l.length ≤ 100000000)) (.ret (.int .i64 (k + 2 * l.length)) [.arr (.pair .str .str) 0 false (marksF l.length k)]) .fail) (fun l _ => l.length + 1) fun l k r h => ?_).of fun args objs r h => ?_
  · obtain ⟨h1, h2⟩ := ite_some h
    cases h2
    rw [Bool.and_eq_true, decide_eq_true_eq, decide_eq_true_eq] at h1
    unfold markFieldS_run
    exact markFieldS_loop _ l [] k 0 _ rfl (by omega) (by simp only [List.length_nil]; omega) h1.1 h1.2
  · unfold mkF_s at h; split at h
    · exact h
    · cases h

end
end Go.Proofs.YtdknaddanjpdaaaGreatDoor.Ev

namespace Go.Proofs.YtdknaddanjpdaaaGreatDoor.Ev
open Go Go.RowKit
set_option linter.unusedVariables false
set_option linter.unusedSimpArgs false

abbrev Asc (l : List Bytes) : Prop := l.Pairwise fun a b => a < b
theorem asc_eq : ∀ {l m : List Bytes}, Asc l → Asc m → (∀ x, x ∈ l ↔ x ∈ m) → l = m
  | [], [], _, _, _ => rfl
  | [], b :: m, _, _, h => by have := (h b).2 (List.mem_cons_self ..); cases this
  | a :: l, [], _, _, h => by have := (h a).1 (List.mem_cons_self ..); cases this
  | a :: l, b :: m, h1, h2, h => by
    obtain ⟨g1, g2⟩ := List.pairwise_cons.1 h1
    obtain ⟨k1, k2⟩ := List.pairwise_cons.1 h2
    have hab : a = b := by
      rcases List.mem_cons.1 ((h a).1 (List.mem_cons_self ..)) with e | e
      · exact e
      · rcases List.mem_cons.1 ((h b).2 (List.mem_cons_self ..)) with e' | e'
        · exact e'.symm
        · exact absurd (k1 a e) (List.lt_asymm (g1 b e'))
    subst hab
    congr 1
    refine asc_eq g2 k2 fun x => ⟨fun hx => ?_, fun hx => ?_⟩
    · rcases List.mem_cons.1 ((h x).1 (List.mem_cons_of_mem _ hx)) with e | e
      · subst e; exact absurd (g1 x hx) (List.lt_irrefl x)
      · exact e
    · rcases List.mem_cons.1 ((h x).2 (List.mem_cons_of_mem _ hx)) with e | e
      · subst e; exact absurd (k1 x hx) (List.lt_irrefl x)
      · exact e
theorem less_eq (a b : Bytes) : bytesLess a b = decide (a < b) := bytesLess_eq a b
theorem lt_of_not {a b : Bytes} (h1 : ¬ a < b) (h2 : b ≠ a) : b < a := by
  rcases Classical.em (b < a) with h | h
  · exact h
  · exact absurd (List.le_antisymm (List.not_lt.1 h1) (List.not_lt.1 h)) h2
theorem mem_ins (s x : Bytes) : ∀ l : List Bytes, x ∈ insP l s ↔ x ∈ l ∨ x = s
  | [] => by simp [insP]
  | a :: l => by
    unfold insP
    cases bytesLess s a
    · simp only [cond_false, List.mem_cons, mem_ins s x l, or_assoc]
    · simp only [cond_true, List.mem_cons]
      constructor
      · rintro (h | h | h)
        · exact .inr h
        · exact .inl (.inl h)
        · exact .inl (.inr h)
      · rintro ((h | h) | h)
        · exact .inr (.inl h)
        · exact .inr (.inr h)
        · exact .inl h
theorem asc_ins (s : Bytes) : ∀ {l : List Bytes}, Asc l → s ∉ l → Asc (insP l s)
  | [], _, _ => by simp [insP]
  | a :: l, h, hs => by
    obtain ⟨g1, g2⟩ := List.pairwise_cons.1 h
    unfold insP
    cases hb : bytesLess s a
    · rw [less_eq] at hb
      have hab : a < s := lt_of_not (of_decide_eq_false hb) fun e => hs (by rw [e]; exact List.mem_cons_self ..)
      rw [cond_false]
      refine List.pairwise_cons.2 ⟨fun y hy => ?_, asc_ins s g2 fun e => hs (List.mem_cons_of_mem _ e)⟩
      rcases (mem_ins s y l).1 hy with e | e
      · exact g1 y e
      · subst e; exact hab
    · rw [less_eq] at hb
      have hab := of_decide_eq_true hb
      rw [cond_true]
      refine List.pairwise_cons.2 ⟨fun y hy => ?_, h⟩
      rcases List.mem_cons.1 hy with e | e
      · subst e; exact hab
      · exact List.lt_trans hab (g1 y e)
theorem inP_iff (l : List Bytes) (s : Bytes) : inP l s = true ↔ s ∈ l := by
  unfold inP
  simp
theorem mem_put (l : List Bytes) (s x : Bytes) : x ∈ putP l s ↔ x ∈ l ∨ x = s := by
  unfold putP
  cases h : inP l s
  · exact mem_ins s x l
  · rw [cond_true]
    refine ⟨.inl, fun h2 => ?_⟩
    rcases h2 with e | e
    · exact e
    · subst e; exact (inP_iff l x).1 h
theorem asc_put {l : List Bytes} (hl : Asc l) (s : Bytes) : Asc (putP l s) := by
  unfold putP
  cases h : inP l s
  · exact asc_ins s hl fun e => by rw [(inP_iff l s).2 e] at h; cases h
  · exact hl
theorem foldl_put : ∀ (xs l : List Bytes), Asc l → Asc (xs.foldl putP l) ∧ ∀ x, x ∈ xs.foldl putP l ↔ x ∈ l ∨ x ∈ xs
  | [], l, h => ⟨h, fun x => by simp⟩
  | a :: xs, l, h => by
    obtain ⟨h1, h2⟩ := foldl_put xs (putP l a) (asc_put h a)
    refine ⟨h1, fun x => ?_⟩
    show x ∈ xs.foldl putP (putP l a) ↔ _
    rw [h2, mem_put, List.mem_cons, or_assoc]
theorem le_sorted (xs : List Bytes) : (sortP xs).Pairwise fun a b => a ≤ b := by
  have := List.pairwise_mergeSort (le := fun x y : Bytes => decide (x ≤ y)) (fun a b c h1 h2 => by simp only [decide_eq_true_eq] at *; exact List.le_trans h1 h2) (fun a b => by simp only [Bool.or_eq_true, decide_eq_true_eq]; exact List.le_total a b) xs
  exact this.imp fun h => by simpa using h
theorem mem_sort (xs : List Bytes) (x : Bytes) : x ∈ sortP xs ↔ x ∈ xs := (List.mergeSort_perm xs _).mem_iff
theorem asc_comp {zs : List Bytes} (h : zs.Pairwise fun a b => a ≤ b) : Asc (compP zs) ∧ ∀ x, x ∈ compP zs ↔ x ∈ zs := by
  have hle : ∀ i j, i ≤ j → j < zs.length → zs.toArray[i]! ≤ zs.toArray[j]! := fun i j hij hj => by
    rw [getElem!_pos _ i (by simpa using Nat.lt_of_le_of_lt hij hj), getElem!_pos _ j (by simpa using hj)]
    rcases Nat.lt_or_ge i j with h' | h'
    · simpa using List.pairwise_iff_getElem.1 h i j (by omega) hj h'
    · obtain rfl : i = j := by omega
      exact List.le_refl _
  unfold compP Lib.compact Lib.compactUpTo
  refine ⟨?_, fun x => ⟨fun hx => ?_, fun hx => ?_⟩⟩
  · refine List.pairwise_map.2 ?_
    have h1 : ((List.range zs.length).filter (Lib.keeps zs.toArray)).Pairwise (· < ·) := List.pairwise_lt_range.filter _
    refine h1.imp_of_mem fun {i j} hi hj hij => ?_
    obtain ⟨hj1, hj2⟩ := List.mem_filter.1 hj
    have hj1 := List.mem_range.1 hj1
    have hne : zs.toArray[j]! ≠ zs.toArray[j - 1]! := by
      have := of_decide_eq_true hj2
      rcases this with e | e
      · omega
      · exact e
    have g1 := hle i (j - 1) (by omega) (by omega)
    have g2 := hle (j - 1) j (by omega) hj1
    have g3 : zs.toArray[j - 1]! < zs.toArray[j]! := lt_of_not (fun hlt => hne (List.le_antisymm (List.le_of_lt hlt) g2)) (Ne.symm hne)
    rcases Classical.em (zs.toArray[i]! = zs.toArray[j - 1]!) with e | e
    · rw [e]; exact g3
    · exact List.lt_trans (lt_of_not (fun hlt => e (List.le_antisymm g1 (List.le_of_lt hlt))) e) g3
  · obtain ⟨i, hi, rfl⟩ := List.mem_map.1 hx
    have hi' : i < zs.length := List.mem_range.1 (List.mem_filter.1 hi).1
    simp [getElem!_pos, hi']
  · obtain ⟨i, hi, rfl⟩ := List.mem_iff_getElem.1 hx
    clear hx
    induction i with
    | zero => exact List.mem_map.2 ⟨0, List.mem_filter.2 ⟨List.mem_range.2 hi, by simp [Lib.keeps]⟩, by simp [getElem!_pos, hi]⟩
    | succ i ih =>
      rcases Classical.em (zs[i + 1] = zs[i]) with e | e
      · rw [e]; exact ih (by omega)
      · refine List.mem_map.2 ⟨i + 1, List.mem_filter.2 ⟨List.mem_range.2 hi, ?_⟩, by simp [getElem!_pos, hi]⟩
        refine decide_eq_true (.inr ?_)
        rw [getElem!_pos _ (i + 1) (by simpa using hi), getElem!_pos _ (i + 1 - 1) (by simp; omega)]
        simpa using e
theorem comp_sort (xs : List Bytes) : compP (sortP xs) = xs.foldl putP [] := by
  obtain ⟨h1, h2⟩ := asc_comp (le_sorted xs)
  obtain ⟨h3, h4⟩ := foldl_put xs [] (by simp)
  exact asc_eq h1 h3 fun x => by rw [h2, mem_sort, h4]; simp
end Go.Proofs.YtdknaddanjpdaaaGreatDoor.Ev

namespace Go.Proofs.YtdknaddanjpdaaaGreatDoor.Ev
open Go Go.RowKit
set_option linter.unusedVariables false
set_option linter.unusedSimpArgs false
noncomputable section

theorem partE_bd : ∀ (n : Nat) (r cur : Bytes) (q : Bool), r.length ≤ n → (partE cur q r).length ≤ r.length + 1 ∧ ∀ x ∈ partE cur q r, x.length ≤ cur.length + r.length := by
  intro n; induction n with
  | zero =>
    intro r cur q h
    obtain rfl : r = [] := List.length_eq_zero_iff.1 (by omega)
    simp [partE_nil]
  | succ n ih =>
    intro r cur q h
    cases r with
    | nil => simp [partE_nil]
    | cons c r =>
      simp only [List.length_cons] at h
      have step : ∀ (cur' : Bytes) (q' : Bool), cur'.length ≤ cur.length + 1 → (partE cur' q' r).length ≤ (c :: r).length + 1 ∧ ∀ x ∈ partE cur' q' r, x.length ≤ cur.length + (c :: r).length := fun cur' q' hc => by
        obtain ⟨h1, h2⟩ := ih r cur' q' (by omega)
        refine ⟨by simp only [List.length_cons]; omega, fun x hx => ?_⟩
        have := h2 x hx
        simp only [List.length_cons]; omega
      rw [partE_cons]
      cases decide (by8 c = 34)
      · rw [cond_false]
        cases q && decide (by8 c = 92)
        · rw [cond_false]
          cases !q && decide (by8 c = 44)
          · rw [cond_false]; exact step _ _ (by simp)
          · rw [cond_true]
            obtain ⟨h1, h2⟩ := ih r [] q (by omega)
            refine ⟨by simp only [List.length_cons]; omega, fun x hx => ?_⟩
            rcases List.mem_cons.1 hx with e | e
            · subst e; omega
            · have := h2 x e
              simp only [List.length_cons, List.length_nil] at this ⊢; omega
        · rw [cond_true]
          cases r with
          | nil => simp
          | cons d r =>
            simp only [List.length_cons] at h
            obtain ⟨h1, h2⟩ := ih r (cur ++ [c, d]) q (by omega)
            refine ⟨by simp only [List.length_cons]; omega, fun x hx => ?_⟩
            have := h2 x hx
            simp only [List.length_cons, List.length_append, List.length_nil] at this ⊢; omega
      · rw [cond_true]; exact step _ _ (by simp)
theorem dropWhile_len (p : UInt8 → Bool) : ∀ s : Bytes, (s.dropWhile p).length ≤ s.length
  | [] => by simp
  | a :: s => by
    rw [List.dropWhile_cons]
    split
    · have := dropWhile_len p s; simp only [List.length_cons]; omega
    · exact Nat.le_refl _
theorem trimP_le (s : Bytes) : (trimP s).length ≤ s.length := by
  unfold trimP trimR trimL
  rw [List.length_reverse]
  refine Nat.le_trans (dropWhile_len _ _) ?_
  rw [List.length_reverse]
  exact dropWhile_len _ _
theorem keepE_bd : ∀ (l : List Bytes) (n : Nat), (∀ x ∈ l, x.length ≤ n) → (keepE l).length ≤ l.length ∧ ∀ x ∈ keepE l, x.length ≤ n
  | [], _, _ => by simp [keepE]
  | a :: l, n, h => by
    obtain ⟨h1, h2⟩ := keepE_bd l n fun x hx => h x (List.mem_cons_of_mem _ hx)
    have ha := h a (List.mem_cons_self ..)
    have := trimP_le a
    rw [keep_cons]
    cases decide (trimP a = [])
    · rw [cond_false]
      refine ⟨by simp only [List.length_cons]; omega, fun x hx => ?_⟩
      rcases List.mem_cons.1 hx with e | e
      · subst e; omega
      · exact h2 x e
    · rw [cond_true]
      exact ⟨by simp only [List.length_cons]; omega, h2⟩
theorem elem_bd (s : Bytes) : (elemP s).length ≤ 4001 ∧ ∀ x ∈ elemP s, x.length ≤ 4000 := by
  unfold elemP
  cases c : decide (4000 < (s.length : Int))
  · have hl := of_decide_eq_false c
    rw [cond_false]
    obtain ⟨h1, h2⟩ := partE_bd s.length s [] false (Nat.le_refl _)
    obtain ⟨h3, h4⟩ := keepE_bd (partE [] false s) 4000 fun x hx => by have := h2 x hx; simp only [List.length_nil] at this; omega
    exact ⟨by omega, h4⟩
  · simp
theorem words_bd (l : List Fd) (name : Bytes) : (wordsP l name).length ≤ 4001 ∧ ∀ x ∈ wordsP l name, isM x = true :=
  ⟨(elem_bd _).1, fun x hx => isM_of ((elem_bd _).2 x hx)⟩
theorem ins_len (s : Bytes) : ∀ l : List Bytes, (insP l s).length ≤ l.length + 1
  | [] => by simp [insP]
  | a :: l => by
    have := ins_len s l
    unfold insP
    cases bytesLess s a
    · rw [cond_false]; simp only [List.length_cons]; omega
    · rw [cond_true]; simp only [List.length_cons]; omega
theorem put_len (l : List Bytes) (s : Bytes) : (putP l s).length ≤ l.length + 1 := by
  unfold putP
  cases inP l s
  · rw [cond_false]; exact ins_len s l
  · rw [cond_true]; omega
end
end Go.Proofs.YtdknaddanjpdaaaGreatDoor.Ev
