/- The texts Ne, Nf, Ng, Nh, Ni, Nj, Nk, Nl, one behind the other. -/
import Derived.Test.YtdknaddanjpdaaaGreatDoorK13
import Derived.Test.YtdknaddanjpdaaaGreatDoorK16
import Derived.Test.YtdknaddanjpdaaaGreatDoorK12
namespace Go.Proofs.YtdknaddanjpdaaaGreatDoor.Ev
open Go Go.RowKit
set_option linter.unusedVariables false
set_option linter.unusedSimpArgs false
noncomputable section

def iJoined_C : SC := [⟨90, _, iValues_okQ⟩, ⟨165, _, join_okQ⟩]
def iJoined_br (l : List Fd) (name : Bytes) : Br := (Br.ite (isM name) (Br.ite ((decide ((List.length (vals l name)) ≤ 1000000)) && (decide ((List.length (joinP (vals l name) ([44, 32] : Bytes))) ≤ 1000000))) (Br.ret (AV.str (joinP (vals l name) ([44, 32] : Bytes))) []) Br.fail) Br.fail)
def iJoined_s : List AV → List Ob → Br
  | [.sh (.pair .str .str) l, .str name], [] => iJoined_br l name
  | _, _ => .fail
theorem iJoined_ok : Sound Kx 101 iJoined_s := sound_br (C := iJoined_C) (O := O0) Tryz.func101 (by kernel_rfl) fun args objs => by
  unfold iJoined_s; split
  · exact .inr (by kernel_rfl)
  · exact .inl rfl


theorem dle' {a b : Nat} (h : a ≤ b) : decide (a ≤ b) = true := decide_eq_true h
theorem vals_len (l : List Fd) (name : Bytes) : (vals l name).length ≤ 20 ∧ ∀ x ∈ vals l name, x.length ≤ 190 := by
  unfold vals
  cases h : fdsOk l
  · simp
  · rw [cond_true]
    obtain ⟨h1, h2⟩ := fdsOk_mem h
    refine ⟨?_, fun x hx => ?_⟩
    · unfold valsR; rw [List.length_map]; exact Nat.le_trans (List.length_filter_le _ _) h1
    · unfold valsR at hx
      obtain ⟨f, hf, rfl⟩ := List.mem_map.1 hx
      exact (fdOk_len (h2 f (List.mem_filter.1 hf).1)).2
def sepC : Bytes := [44, 32]
theorem tail_cons (x : Bytes) (r : List Bytes) : Lib.joinTail sepC (x :: r) = sepC ++ x ++ Lib.joinTail sepC r := by simp [Lib.joinTail]
theorem tail_len : ∀ (r : List Bytes), (∀ x ∈ r, x.length ≤ 190) → (Lib.joinTail sepC r).length ≤ 192 * r.length
  | [], _ => by simp [Lib.joinTail]
  | x :: r, h => by
    have h1 := h x (List.mem_cons_self ..)
    have h2 := tail_len r fun y hy => h y (List.mem_cons_of_mem _ hy)
    have h3 : sepC.length = 2 := rfl
    rw [tail_cons]
    simp only [List.length_append, List.length_cons, h3]; omega
theorem join_tail (x : Bytes) (r : List Bytes) : joinP (x :: r) sepC = x ++ Lib.joinTail sepC r := Lib.join_cons x r sepC
def joinedP (l : List Fd) (name : Bytes) : Bytes := joinP (vals l name) sepC
theorem joined_len (l : List Fd) (name : Bytes) : (joinedP l name).length ≤ 4000 := by
  unfold joinedP
  obtain ⟨h1, h2⟩ := vals_len l name
  cases hv : vals l name with
  | nil => simp [joinP, Lib.join_nil]
  | cons x r =>
    rw [hv] at h1 h2
    have := h2 x (List.mem_cons_self ..)
    have := tail_len r fun y hy => h2 y (List.mem_cons_of_mem _ hy)
    rw [join_tail, List.length_append]
    simp only [List.length_cons] at h1; omega
def jo_s (p : List Fd → Bytes → AV) : List AV → List Ob → Br
  | [.sh (.pair .str .str) l, .str name], [] => .ite (isM name) (.ret (p l name) []) .fail
  | _, _ => .fail
theorem iJoined_okQ : Sound Kx 101 (jo_s fun l name => .str (joinedP l name)) := iJoined_ok.of fun args objs r h => by
  unfold jo_s at h
  split at h
  case h_2 => cases h
  rename_i l name
  obtain ⟨h1, h2⟩ := ite_some h
  cases h2
  show (iJoined_br l name).val = _
  unfold iJoined_br
  have g1 := (vals_len l name).1
  have g2 := joined_len l name
  unfold joinedP sepC at g2
  refine (val_t h1).trans ((val_t ?_).trans rfl)
  rw [decide_eq_true (by omega), decide_eq_true (by omega)]; rfl
theorem sJoined_tail (v : List Bytes) (hl : v.length ≤ 20) (k : Bytes → Option Rs) : ∀ (r : List Bytes) (i : Int) (n : Nat) (s : Bytes), At v i r → 1 ≤ i → r.length < n → (∀ x ∈ r, x.length ≤ 190) → s.length + 192 * r.length ≤ 100000 →
    sJoined_F4 n s i v k = k (s ++ Lib.joinTail sepC r) := by
  intro r; induction r with
  | nil => intro i n s h hi hn hf hs; obtain ⟨n, rfl⟩ := fuel hn; unfold sJoined_F4 sJoined_T4; simp only [h.dge, cond_false, Lib.joinTail, List.map_nil, List.flatten_nil, List.append_nil]
  | cons a r ih =>
    intro i n s h hi hn hf hs; obtain ⟨n, rfl⟩ := fuel hn
    have ha := hf a (List.mem_cons_self ..)
    have hr := fun x h => hf x (List.mem_cons_of_mem _ h)
    simp only [List.length_cons] at hn hs
    have hp : decide ((0 : Int) < i) = true := decide_eq_true (by omega)
    unfold sJoined_F4 sJoined_T4
    simp (disch := (first | omega | (simp only [List.length_append, List.length_cons, List.length_nil]; omega))) only [h.dlt, h.dnn, h.get, h.next (by omega), hp, cond_true, dle']
    rw [ih (i + 1) n _ h.step (by omega) (by omega) hr (by simp only [List.length_append, List.length_cons, List.length_nil]; omega), tail_cons]
    simp only [sepC, List.append_assoc]
theorem sJoined_okQ : Sound Kx 97 (jo_s fun l name => .str (joinedP l name)) := by
  refine (sJoined_okOf (φ := fun l name => .ite (isM name) (.ret (.str (joinedP l name)) []) .fail) (fun l name => (vals l name).length + 1) fun l name r h => ?_).of fun args objs r h => ?_
  · obtain ⟨h1, h2⟩ := ite_some h
    cases h2
    unfold sJoined_run joinedP
    rw [h1, cond_true]
    obtain ⟨g1, g2⟩ := vals_len l name
    revert g1 g2
    generalize vals l name = v
    intro g1 g2
    cases v with
    | nil => rfl
    | cons x r =>
      have hx := g2 x (List.mem_cons_self ..)
      have hat : At (x :: r) 0 (x :: r) := At.start _
      simp only [List.length_cons] at g1
      unfold sJoined_F4 sJoined_T4
      have h0 : decide ((0 : Int) < 0) = false := rfl
      simp (disch := (first | omega | (simp only [List.length_append, List.length_cons, List.length_nil]; omega))) only [hat.dlt, hat.dnn, hat.get, hat.next (by simp only [List.length_cons]; omega), h0, cond_true, cond_false, dle']
      rw [List.nil_append, show (0 : Int) + 1 = 1 by rfl, List.length_cons, sJoined_tail (x :: r) (by simp only [List.length_cons]; omega) _ r 1 (r.length + 1) _ hat.step (by omega) (by omega) (fun y hy => g2 y (List.mem_cons_of_mem _ hy)) (by omega), join_tail]
  · unfold jo_s at h; split at h
    · exact h
    · cases h

def bytesLess (a b : Bytes) : Bool := Op.bytesLess a b
def inP (l : List Bytes) (s : Bytes) : Bool := l.any fun x => decide (x = s)
theorem sl5in_loop (l : List Bytes) (hl : l.length ≤ 4611686018427387904) (s : Bytes) (k0 k1 : Option Rs) : ∀ (r : List Bytes) (i : Int) (n : Nat), At l i r → r.length < n → sl5in_F2 n l s i k0 k1 = bif inP r s then k0 else k1 := by
  intro r; induction r with
  | nil => intro i n h hn; obtain ⟨n, rfl⟩ := fuel hn; unfold sl5in_F2 sl5in_T2; simp only [h.dge, cond_false, inP, List.any_nil]
  | cons a r ih =>
    intro i n h hn; obtain ⟨n, rfl⟩ := fuel hn
    have hs := ih (i + 1) n h.step (by simp at hn; omega)
    unfold sl5in_F2 sl5in_T2
    simp only [h.dlt, h.dnn, h.get, cond_true, h.next hl, hs, inP, List.any_cons]
    cases decide (a = s) <;> rfl
def in_s : List AV → List Ob → Br
  | [.sh .str l, .str s], [] => .ite (decide (l.length ≤ 1000000)) (.ret (.bool (inP l s)) []) .fail
  | _, _ => .fail
theorem sl5in_okQ : Sound Kx 59 in_s := by
  refine (sl5in_okOf (φ := fun l s => .ite (decide (l.length ≤ 1000000)) (.ret (.bool (inP l s)) []) .fail) (fun l _ => l.length + 1) fun l s r h => ?_).of fun args objs r h => ?_
  · obtain ⟨h1, h2⟩ := ite_some h
    cases h2
    rw [decide_eq_true_eq] at h1
    unfold sl5in_run
    rw [sl5in_loop l (by omega) s _ _ l 0 _ (At.start l) (by omega)]
    cases inP l s <;> rfl
  · unfold in_s at h; split at h
    · exact h
    · cases h
theorem eqStringS_loop (l l' : List Bytes) (hl : l.length ≤ 4611686018427387904) (k0 k1 : Option Rs) : ∀ (r r' : List Bytes) (i : Int) (n : Nat), At l i r → At l' i r' → r.length = r'.length → r.length < n →
    eqStringS_F4 n l l' i k0 k1 = bif decide (r = r') then k1 else k0 := by
  intro r; induction r with
  | nil =>
    intro r' i n h h' he hn; obtain ⟨n, rfl⟩ := fuel hn
    have : r' = [] := List.length_eq_zero_iff.1 he.symm
    subst this
    unfold eqStringS_F4 eqStringS_T4; simp only [h.dge, cond_false, decide_true, cond_true]
  | cons a r ih =>
    intro r' i n h h' he hn; obtain ⟨n, rfl⟩ := fuel hn
    cases r' with
    | nil => cases he
    | cons b r' =>
      have hs := ih r' (i + 1) n h.step h'.step (by simpa using he) (by simp at hn; omega)
      unfold eqStringS_F4 eqStringS_T4; simp only [h.dlt, h'.dlt, h.dnn, h.get, h'.get, cond_true, h.next hl, hs]
      by_cases c1 : a = b <;> by_cases c3 : r = r' <;> simp [c1, c3]
def eqS_s : List AV → List Ob → Br
  | [.sh .str a, .sh .str b], [] => .ite (decide (a.length ≤ 1000000)) (.ret (.bool (decide (a = b))) []) .fail
  | _, _ => .fail
theorem eqStringS_okQ : Sound Kx 24 eqS_s := by
  refine (eqStringS_okOf (φ := fun a b => .ite (decide (a.length ≤ 1000000)) (.ret (.bool (decide (a = b))) []) .fail) (fun l _ => l.length + 1) fun l l' r h => ?_).of fun args objs r h => ?_
  · obtain ⟨h1, h2⟩ := ite_some h
    cases h2
    rw [decide_eq_true_eq] at h1
    unfold eqStringS_run
    by_cases c : l.length = l'.length
    · have c' : (l.length : Int) = (l'.length : Int) := by omega
      simp only [c', decide_true, Bool.not_true, cond_false]
      rw [eqStringS_loop l l' (by omega) _ _ l l' 0 _ (At.start l) (At.start l') c (by omega)]
      cases decide (l = l') <;> rfl
    · have c' : ¬ (l.length : Int) = (l'.length : Int) := by omega
      have c2 : ¬ l = l' := fun e => c (by rw [e])
      simp only [c', c2, decide_false, Bool.not_false, cond_true]
  · unfold eqS_s at h; split at h
    · exact h
    · cases h

def mtP (k : Int) : Bytes := 109 :: Lib.decDigits k.toNat
theorem digit_of' (d : Int) (h0 : 0 ≤ d) (h : d < 10) : ofBytes (List.set (List.replicate 1 (0 : Int)) 0 (wk8 (wk64 (48 + d)))) = [UInt8.ofNat (48 + d.toNat)] := by
  rw [w64 (by omega) (by omega), w8 (by omega) (by omega), one_set]
  show [UInt8.ofNat (48 + d).toNat] = _
  rw [show (48 + d).toNat = 48 + d.toNat by omega]
theorem markText_loop (K : Bytes → Option Rs) : ∀ (n : Nat) (k : Int) (out : Bytes), 0 < k → k ≤ 1000000000 → k < (n : Int) → out.length + k.toNat ≤ 2000000000 →
    markText_F4 (n + 1) k out K = K (Lib.decDigits k.toNat ++ out) := by
  intro n; induction n with
  | zero => intro k out h0 h1 h2; omega
  | succ n ih =>
    intro k out h0 h1 h2 h3
    have e1 : wk64 (Int.tdiv k 10) = ((k.toNat / 10 : Nat) : Int) := by
      rw [Int.tdiv_eq_ediv_of_nonneg (by omega), w64 (by omega) (by omega)]; omega
    have e2 : Int.tmod k 10 = ((k.toNat % 10 : Nat) : Int) := by
      rw [Int.tmod_eq_emod_of_nonneg (by omega)]; omega
    have hd : ofBytes (List.set (List.replicate 1 (0 : Int)) 0 (wk8 (wk64 (48 + ((k.toNat % 10 : Nat) : Int))))) = [UInt8.ofNat (48 + k.toNat % 10)] := by
      rw [digit_of' _ (by omega) (by omega)]; simp only [Int.toNat_natCast]
    unfold markText_F4 markText_T4
    have hp : decide ((0 : Int) < k) = true := decide_eq_true h0
    simp only [hp, e1, e2, hd, cond_true, List.length_singleton, dle' (show 1 + out.length ≤ 9223372036854775807 by omega)]
    by_cases c : k.toNat < 10
    · have e3 : k.toNat / 10 = 0 := by omega
      have e4 : k.toNat % 10 = k.toNat := by omega
      rw [e3]
      unfold markText_F4 markText_T4
      simp only [Int.ofNat_eq_natCast, Int.cast_ofNat_Int, Int.lt_irrefl, decide_false, cond_false]
      rw [Lib.decDigits_one c, e4]
    · rw [ih _ _ (by omega) (by omega) (by omega) (by simp only [List.length_append, List.length_singleton]; omega), Int.toNat_natCast, Lib.decDigits.eq_1 k.toNat, dif_neg c, List.append_assoc]
def mt_s : List AV → List Ob → Br
  | [.int .i64 k], [] => .ite (decide (0 < k) && decide (k ≤ 100000000)) (.ret (.str (mtP k)) []) .fail
  | _, _ => .fail
theorem decDigits_le (n : Nat) : (Lib.decDigits n).length ≤ n + 1 := by
  induction n using Nat.strongRecOn with
  | _ n ih =>
    by_cases c : n < 10
    · rw [Lib.decDigits_one c]; simp
    · rw [Lib.decDigits.eq_1, dif_neg c]
      have := ih (n / 10) (by omega)
      simp only [List.length_append, List.length_singleton]; omega
theorem markText_okQ : Sound Kx 43 mt_s := by
  refine (markText_okOf (φ := fun k => .ite (decide (0 < k) && decide (k ≤ 100000000)) (.ret (.str (mtP k)) []) .fail) (fun k => k.toNat + 2) fun k r h => ?_).of fun args objs r h => ?_
  · obtain ⟨h1, h2⟩ := ite_some h
    cases h2
    rw [Bool.and_eq_true, decide_eq_true_eq, decide_eq_true_eq] at h1
    have hl := decDigits_le k.toNat
    unfold markText_run
    rw [decide_eq_false (by omega), cond_false, markText_loop _ (k.toNat + 1) k [] h1.1 (by omega) (by omega) (by simp; omega)]
    simp only [List.append_nil]
    rw [dle' (by omega), cond_true]; rfl
  · unfold mt_s at h; split at h
    · exact h
    · cases h

def iWords_C : SC := [⟨101, _, iJoined_okQ⟩, ⟨100, _, iElements_okQ⟩]
def iWords_br (l : List Fd) (name : Bytes) : Br := (Br.ite (isM name) (Br.ret (AV.ref 0 0) ((Ob.arr Ty.str 0 false (elemP (joinedP l name))) :: [])) Br.fail)
def iWords_s : List AV → List Ob → Br
  | [.sh (.pair .str .str) l, .str name], [] => iWords_br l name
  | _, _ => .fail
theorem iWords_ok : Sound Kx 54 iWords_s := sound_br (C := iWords_C) (O := O0) Tryz.func54 (by kernel_rfl) fun args objs => by
  unfold iWords_s; split
  · exact .inr (by kernel_rfl)
  · exact .inl rfl

def sWords_C : SC := [⟨97, _, sJoined_okQ⟩, ⟨96, _, sElements_okQ⟩]
def sWords_br (l : List Fd) (name : Bytes) : Br := (Br.ite (isM name) (Br.ret (AV.ref 0 0) ((Ob.arr Ty.str 0 false (elemP (joinedP l name))) :: [])) Br.fail)
def sWords_s : List AV → List Ob → Br
  | [.sh (.pair .str .str) l, .str name], [] => sWords_br l name
  | _, _ => .fail
theorem sWords_ok : Sound Kx 47 sWords_s := sound_br (C := sWords_C) (O := O0) Tryz.func47 (by kernel_rfl) fun args objs => by
  unfold sWords_s; split
  · exact .inr (by kernel_rfl)
  · exact .inl rfl

def markStringS_O : Opt := { live := [(2, [0, 1, 5])], outs := [(2, [1, 4])] }
def markStringS_C : SC := [⟨43, _, markText_okQ⟩]
def markStringS_T2 (v2x0 v2x1 : Int) (v2x2 : (List Bytes)) (kR2 : Int → Int → (List Bytes) → Option Rs) (k2e0 : Int → (List Bytes) → Option Rs) : Option Rs :=
  (bif (decide (v2x1 < (v2x2.length : Int))) then (bif ((decide (0 < v2x0)) && (decide (v2x0 ≤ 100000000))) then (bif (decide (0 ≤ v2x1)) then (bif (decide (v2x1 < (v2x2.length : Int))) then (kR2 (wk64 (v2x0 + 1)) (wk64 (v2x1 + 1)) (List.set v2x2 (Int.toNat v2x1) (mtP v2x0))) else (none)) else (none)) else (none)) else (k2e0 v2x0 v2x2))
def markStringS_F2 : Nat → Int → Int → (List Bytes) → (Int → (List Bytes) → Option Rs) → Option Rs
  | 0, _, _, _, _ => none
  | n + 1, v2x0, v2x1, v2x2, k2e0 => markStringS_T2 v2x0 v2x1 v2x2 (fun v2x0 v2x1 v2x2 => markStringS_F2 n v2x0 v2x1 v2x2 k2e0) k2e0
abbrev markStringS_p2 : SP := ⟨20, [0, 1, 5], [(.v (.ref 0 0)), (.v (.i .i64)), (.v (.i .i64))], [(0, .arr Ty.str 0 false)]⟩
noncomputable def markStringS_b2 : Code := codeAt (codeOf Tryz.f25) [1, 0, 1, 0, 0]
def markStringS_E2 (f : (Int → (List Bytes) → Option Rs) → Option Rs) (k : KT) : Option Rs := f (fun x2x0x0 x2x0x1 => k (Ex.exit 0) ((St.mk (slots 0 20 [(1, (AV.int .i64 x2x0x0))]) ((0, (Ob.arr Ty.str 0 false x2x0x1)) :: ([] : (List (Nat × (Ob))))))))
def markStringS_G2 (n : Nat) (d : markStringS_p2.D) : KT → Option Rs := markStringS_E2 (markStringS_F2 n d.1.2.1 d.1.2.2.1 d.2.1)
def markStringS_L (N : Nat) : Lam := lamOf [⟨2, markStringS_p2, markStringS_G2 N⟩]
theorem markStringS_ok2 (N : Nat) : OkL Kx markStringS_C.s markStringS_O 1 N (markStringS_L N) markStringS_b2 := okL markStringS_p2 (markStringS_G2) (fun d kR => markStringS_E2 (markStringS_T2 d.1.2.1 d.1.2.2.1 d.2.1 (fun v2x0 v2x1 v2x2 => kR (((), v2x0, v2x1, ()), (v2x2, ()))))) (fun _ _ => by kernel_rfl) (fun _ _ _ => by kernel_rfl) (fun _ _ => by kernel_rfl) (fun _ _ _ _ => by kernel_rfl) (okEach (l' := []) (by kernel_rfl) trivial)
def markStringS_run (N : Nat) (l : List Bytes) (k : Int) : Option Rs := (markStringS_F2 N k 0 l (fun x2x0x0 => (fun x2x0x1 => (some ((AV.int .i64 x2x0x0), ((Ob.arr Ty.str 0 false x2x0x1) :: []))))))
def markStringS_sOf (φ : (List Bytes) → Int → Br) : List AV → List Ob → Br
  | [.ref 0 0, .int .i64 k], [.arr .str 0 false l] => φ l k
  | _, _ => .fail
theorem markStringS_okOf {φ : (List Bytes) → Int → Br} (fu : (List Bytes) → Int → Nat) (hv : ∀ l k res_, (φ l k).val = some res_ → markStringS_run (fu l k) l k = some res_) : Sound Kx 25 (markStringS_sOf φ) := sound_lp (C := markStringS_C) (O := markStringS_O) Tryz.func25 (by kernel_rfl) fun args objs => by
  unfold markStringS_sOf; split
  · rename_i k l; exact .inr fun _ hyp_ => run_lp (Λ := markStringS_L (fu l k)) (by kernel_rfl) (okEach (l' := [markStringS_b2]) (by kernel_rfl) ⟨markStringS_ok2 _, trivial⟩) (by kernel_rfl) (hv l k _ hyp_)
  · exact .inl rfl

def heldStringS_O : Opt := { live := [(2, [0, 1, 5])], outs := [(2, [1, 4])] }
def heldStringS_C : SC := [⟨43, _, markText_okQ⟩]
def heldStringS_T2 (v2x0 : (List Bytes)) (v2x1 v2x2 : Int) (kR2 : (List Bytes) → Int → Int → Option Rs) (k2e0 k2e1 : Int → Option Rs) : Option Rs :=
  (bif (decide (v2x2 < (v2x0.length : Int))) then (bif (decide (0 ≤ v2x2)) then (bif (decide (v2x2 < (v2x0.length : Int))) then (bif ((decide (0 < v2x1)) && (decide (v2x1 ≤ 100000000))) then (bif (!(decide ((List.getD v2x0 (Int.toNat v2x2) ([] : Bytes)) = (mtP v2x1)))) then (k2e0 v2x1) else (kR2 v2x0 (wk64 (v2x1 + 1)) (wk64 (v2x2 + 1)))) else (none)) else (none)) else (none)) else (k2e1 v2x1))
def heldStringS_F2 : Nat → (List Bytes) → Int → Int → (Int → Option Rs) → (Int → Option Rs) → Option Rs
  | 0, _, _, _, _, _ => none
  | n + 1, v2x0, v2x1, v2x2, k2e0, k2e1 => heldStringS_T2 v2x0 v2x1 v2x2 (fun v2x0 v2x1 v2x2 => heldStringS_F2 n v2x0 v2x1 v2x2 k2e0 k2e1) k2e0 k2e1
abbrev heldStringS_p2 : SP := ⟨22, [0, 1, 5], [(.v (.sh Ty.str)), (.v (.i .i64)), (.v (.i .i64))], []⟩
noncomputable def heldStringS_b2 : Code := codeAt (codeOf Tryz.f26) [1, 0, 1, 0, 0]
def heldStringS_E2 (f : (Int → Option Rs) → (Int → Option Rs) → Option Rs) (k : KT) : Option Rs := f (fun x2x0x0 => k Ex.ret ((St.mk (slots 0 22 [(1, (AV.int .i64 x2x0x0)), (4, (AV.int .i64 (-1)))]) ([] : (List (Nat × (Ob))))))) (fun x2x1x0 => k (Ex.exit 0) ((St.mk (slots 0 22 [(1, (AV.int .i64 x2x1x0))]) ([] : (List (Nat × (Ob)))))))
def heldStringS_G2 (n : Nat) (d : heldStringS_p2.D) : KT → Option Rs := heldStringS_E2 (heldStringS_F2 n d.1.1 d.1.2.1 d.1.2.2.1)
def heldStringS_L (N : Nat) : Lam := lamOf [⟨2, heldStringS_p2, heldStringS_G2 N⟩]
theorem heldStringS_ok2 (N : Nat) : OkL Kx heldStringS_C.s heldStringS_O 0 N (heldStringS_L N) heldStringS_b2 := okL heldStringS_p2 (heldStringS_G2) (fun d kR => heldStringS_E2 (heldStringS_T2 d.1.1 d.1.2.1 d.1.2.2.1 (fun v2x0 v2x1 v2x2 => kR ((v2x0, v2x1, v2x2, ()), ())))) (fun _ _ => by kernel_rfl) (fun _ _ _ => by kernel_rfl) (fun _ _ => by kernel_rfl) (fun _ _ _ _ => by kernel_rfl) (okEach (l' := []) (by kernel_rfl) trivial)
def heldStringS_run (N : Nat) (l : List Bytes) (k : Int) : Option Rs := (heldStringS_F2 N l k 0 (fun x2x0x0 => (some ((AV.int .i64 (-1)), []))) (fun x2x1x0 => (some ((AV.int .i64 x2x1x0), []))))
def heldStringS_sOf (φ : (List Bytes) → Int → Br) : List AV → List Ob → Br
  | [.sh .str l, .int .i64 k], [] => φ l k
  | _, _ => .fail
theorem heldStringS_okOf {φ : (List Bytes) → Int → Br} (fu : (List Bytes) → Int → Nat) (hv : ∀ l k res_, (φ l k).val = some res_ → heldStringS_run (fu l k) l k = some res_) : Sound Kx 26 (heldStringS_sOf φ) := sound_lp (C := heldStringS_C) (O := heldStringS_O) Tryz.func26 (by kernel_rfl) fun args objs => by
  unfold heldStringS_sOf; split
  · rename_i l k; exact .inr fun _ hyp_ => run_lp (Λ := heldStringS_L (fu l k)) (by kernel_rfl) (okEach (l' := [heldStringS_b2]) (by kernel_rfl) ⟨heldStringS_ok2 _, trivial⟩) (by kernel_rfl) (hv l k _ hyp_)
  · exact .inl rfl


def wordsP (l : List Fd) (name : Bytes) : List Bytes := elemP (joinedP l name)
def wo_s : List AV → List Ob → Br
  | [.sh (.pair .str .str) l, .str name], [] => .ite (isM name) (.ret (.ref 0 0) [.arr .str 0 false (wordsP l name)]) .fail
  | _, _ => .fail
theorem iWords_okQ : Sound Kx 54 wo_s := iWords_ok.of fun args objs r h => by
  unfold wo_s at h
  split at h
  · exact h
  · cases h
theorem sWords_okQ : Sound Kx 47 wo_s := sWords_ok.of fun args objs r h => by
  unfold wo_s at h
  split at h
  · exact h
  · cases h

def marksP : Nat → Int → List Bytes
  | 0, _ => []
  | n + 1, k => mtP k :: marksP n (k + 1)
theorem marks_len : ∀ (n : Nat) (k : Int), (marksP n k).length = n
  | 0, _ => rfl
  | n + 1, k => by simp [marksP, marks_len n]
theorem markStringS_loop (K : Int → List Bytes → Option Rs) : ∀ (r pre : List Bytes) (k i : Int) (n : Nat), i = (pre.length : Int) → r.length < n → pre.length + r.length ≤ 100000000 → 0 < k → k + r.length ≤ 100000000 →
    markStringS_F2 n k i (pre ++ r) K = K (k + r.length) (pre ++ marksP r.length k) := by
  intro r; induction r with
  | nil =>
    intro pre k i n hi hn hp h0 h1; obtain ⟨n, rfl⟩ := fuel hn
    have e : decide (i < ((pre ++ ([] : List Bytes)).length : Int)) = false := decide_eq_false (by rw [hi]; simp)
    unfold markStringS_F2 markStringS_T2
    rw [e, cond_false]; simp [marksP]
  | cons a r ih =>
    intro pre k i n hi hn hp h0 h1; obtain ⟨n, rfl⟩ := fuel hn
    simp only [List.length_cons] at hn hp h1
    have ha : At (pre ++ a :: r) i (a :: r) := ⟨pre, rfl, hi⟩
    have hw : wk64 (k + 1) = k + 1 := w64 (by omega) (by omega)
    have hg : (decide (0 < k) && decide (k ≤ 100000000)) = true := by rw [decide_eq_true h0, decide_eq_true (by omega)]; rfl
    unfold markStringS_F2 markStringS_T2
    simp only [ha.dlt, ha.dnn, hg, hw, ha.next (by simp only [List.length_append, List.length_cons]; omega), cond_true]
    have hset : (pre ++ a :: r).set i.toNat (mtP k) = (pre ++ [mtP k]) ++ r := by rw [hi, Int.toNat_natCast, set_mid, cat_one]
    rw [hset, ih (pre ++ [mtP k]) (k + 1) (i + 1) n (by rw [hi]; simp) (by omega) (by simp only [List.length_append, List.length_singleton]; omega) (by omega) (by omega)]
    congr 1
    · simp only [List.length_cons]; omega
    · simp [marksP]
def mkS_s : List AV → List Ob → Br
  | [.ref 0 0, .int .i64 k], [.arr .str 0 false l] => .ite (decide (0 < k) && decide (k + l.length ≤ 100000000)) (.ret (.int .i64 (k + l.length)) [.arr .str 0 false (marksP l.length k)]) .fail
  | _, _ => .fail
theorem markStringS_okQ : Sound Kx 25 mkS_s := by
  refine (markStringS_okOf (φ := fun l k => .ite (decide (0 < k) && decide (k + l.length ≤ 100000000)) (.ret (.int .i64 (k + l.length)) [.arr .str 0 false (marksP l.length k)]) .fail) (fun l _ => l.length + 1) fun l k r h => ?_).of fun args objs r h => ?_
  · obtain ⟨h1, h2⟩ := ite_some h
    cases h2
    rw [Bool.and_eq_true, decide_eq_true_eq, decide_eq_true_eq] at h1
    unfold markStringS_run
    exact markStringS_loop _ l [] k 0 _ rfl (by omega) (by simp only [List.length_nil]; omega) h1.1 h1.2
  · unfold mkS_s at h; split at h
    · exact h
    · cases h
theorem heldStringS_loop (l : List Bytes) (hl : l.length ≤ 100000000) (k0 k1 : Int → Option Rs) : ∀ (r : List Bytes) (k i : Int) (n : Nat), At l i r → r.length < n → 0 < k → k + r.length ≤ 100000000 → r = marksP r.length k →
    heldStringS_F2 n l k i k0 k1 = k1 (k + r.length) := by
  intro r; induction r with
  | nil => intro k i n h hn h0 h1 he; obtain ⟨n, rfl⟩ := fuel hn; unfold heldStringS_F2 heldStringS_T2; rw [h.dge, cond_false]; simp
  | cons a r ih =>
    intro k i n h hn h0 h1 he; obtain ⟨n, rfl⟩ := fuel hn
    simp only [List.length_cons, marksP, List.cons.injEq] at he hn h1
    have hw : wk64 (k + 1) = k + 1 := w64 (by omega) (by omega)
    have hg : (decide (0 < k) && decide (k ≤ 100000000)) = true := by rw [decide_eq_true h0, decide_eq_true (by omega)]; rfl
    unfold heldStringS_F2 heldStringS_T2
    simp only [h.dlt, h.dnn, h.get, hg, hw, h.next (by omega), cond_true]
    rw [decide_eq_true he.1, Bool.not_true, cond_false, ih (k + 1) (i + 1) n h.step (by omega) (by omega) (by omega) he.2]
    congr 1
    simp only [List.length_cons]; omega
def hdS_s : List AV → List Ob → Br
  | [.sh .str l, .int .i64 k], [] => .ite (decide (0 < k) && decide (k + l.length ≤ 100000000) && decide (l = marksP l.length k)) (.ret (.int .i64 (k + l.length)) []) .fail
  | _, _ => .fail
theorem heldStringS_okQ : Sound Kx 26 hdS_s := by
  refine (heldStringS_okOf (φ := fun l k => .ite (decide (0 < k) && decide (k + l.length ≤ 100000000) && decide (l = marksP l.length k)) (.ret (.int .i64 (k + l.length)) []) .fail) (fun l _ => l.length + 1) fun l k r h => ?_).of fun args objs r h => ?_
  · obtain ⟨h1, h2⟩ := ite_some h
    cases h2
    rw [Bool.and_eq_true, Bool.and_eq_true, decide_eq_true_eq, decide_eq_true_eq, decide_eq_true_eq] at h1
    unfold heldStringS_run
    exact heldStringS_loop l (by omega) _ _ l k 0 _ (At.start l) (by omega) h1.1.1 h1.1.2 h1.2
  · unfold hdS_s at h; split at h
    · exact h
    · cases h

end
end Go.Proofs.YtdknaddanjpdaaaGreatDoor.Ev

namespace Go.Proofs.YtdknaddanjpdaaaGreatDoor.Ev
open Go Go.RowKit
set_option linter.unusedVariables false
set_option linter.unusedSimpArgs false

end Go.Proofs.YtdknaddanjpdaaaGreatDoor.Ev

namespace Go.Proofs.YtdknaddanjpdaaaGreatDoor.Ev
open Go Go.RowKit
set_option linter.unusedVariables false
set_option linter.unusedSimpArgs false
noncomputable section

theorem partE_bd : ∀ (n : Nat) (r cur : Bytes) (q : Bool), r.length ≤ n → (partE cur q r).length ≤ r.length + 1 ∧ ∀ x ∈ partE cur q r, x.length ≤ cur.length + r.length := by
  intro n; induction n with
  | zero =>
    intro r cur q h
    obtain rfl : r = [] := List.length_eq_zero_iff.1 (by omega)
    simp [partE_nil]
  | succ n ih =>
    intro r cur q h
    cases r with
    | nil => simp [partE_nil]
    | cons c r =>
      simp only [List.length_cons] at h
      have step : ∀ (cur' : Bytes) (q' : Bool), cur'.length ≤ cur.length + 1 → (partE cur' q' r).length ≤ (c :: r).length + 1 ∧ ∀ x ∈ partE cur' q' r, x.length ≤ cur.length + (c :: r).length := fun cur' q' hc => by
        obtain ⟨h1, h2⟩ := ih r cur' q' (by omega)
        refine ⟨by simp only [List.length_cons]; omega, fun x hx => ?_⟩
        have := h2 x hx
        simp only [List.length_cons]; omega
      rw [partE_cons]
      cases decide (by8 c = 34)
      · rw [cond_false]
        cases q && decide (by8 c = 92)
        · rw [cond_false]
          cases !q && decide (by8 c = 44)
          · rw [cond_false]; exact step _ _ (by simp)
          · rw [cond_true]
            obtain ⟨h1, h2⟩ := ih r [] q (by omega)
            refine ⟨by simp only [List.length_cons]; omega, fun x hx => ?_⟩
            rcases List.mem_cons.1 hx with e | e
            · subst e; omega
            · have := h2 x e
              simp only [List.length_cons, List.length_nil] at this ⊢; omega
        · rw [cond_true]
          cases r with
          | nil => simp
          | cons d r =>
            simp only [List.length_cons] at h
            obtain ⟨h1, h2⟩ := ih r (cur ++ [c, d]) q (by omega)
            refine ⟨by simp only [List.length_cons]; omega, fun x hx => ?_⟩
            have := h2 x hx
            simp only [List.length_cons, List.length_append, List.length_nil] at this ⊢; omega
      · rw [cond_true]; exact step _ _ (by simp)
theorem dropWhile_len (p : UInt8 → Bool) : ∀ s : Bytes, (s.dropWhile p).length ≤ s.length
  | [] => by simp
  | a :: s => by
    rw [List.dropWhile_cons]
    split
    · have := dropWhile_len p s; simp only [List.length_cons]; omega
    · exact Nat.le_refl _
theorem trimP_le (s : Bytes) : (trimP s).length ≤ s.length := by
  unfold trimP trimR trimL
  rw [List.length_reverse]
  refine Nat.le_trans (dropWhile_len _ _) ?_
  rw [List.length_reverse]
  exact dropWhile_len _ _
theorem keepE_bd : ∀ (l : List Bytes) (n : Nat), (∀ x ∈ l, x.length ≤ n) → (keepE l).length ≤ l.length ∧ ∀ x ∈ keepE l, x.length ≤ n
  | [], _, _ => by simp [keepE]
  | a :: l, n, h => by
    obtain ⟨h1, h2⟩ := keepE_bd l n fun x hx => h x (List.mem_cons_of_mem _ hx)
    have ha := h a (List.mem_cons_self ..)
    have := trimP_le a
    rw [keep_cons]
    cases decide (trimP a = [])
    · rw [cond_false]
      refine ⟨by simp only [List.length_cons]; omega, fun x hx => ?_⟩
      rcases List.mem_cons.1 hx with e | e
      · subst e; omega
      · exact h2 x e
    · rw [cond_true]
      exact ⟨by simp only [List.length_cons]; omega, h2⟩
theorem elem_bd (s : Bytes) : (elemP s).length ≤ 4001 ∧ ∀ x ∈ elemP s, x.length ≤ 4000 := by
  unfold elemP
  cases c : decide (4000 < (s.length : Int))
  · have hl := of_decide_eq_false c
    rw [cond_false]
    obtain ⟨h1, h2⟩ := partE_bd s.length s [] false (Nat.le_refl _)
    obtain ⟨h3, h4⟩ := keepE_bd (partE [] false s) 4000 fun x hx => by have := h2 x hx; simp only [List.length_nil] at this; omega
    exact ⟨by omega, h4⟩
  · simp
end
end Go.Proofs.YtdknaddanjpdaaaGreatDoor.Ev
