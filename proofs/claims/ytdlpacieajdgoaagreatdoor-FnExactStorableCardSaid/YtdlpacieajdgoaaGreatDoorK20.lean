/- The texts Pd, Pe, Pf, Pg, Ph, Pi, Pj, Pk, Pl, Pm, Pn, Po, Ps, Pt, Pu, Pv, one behind the other. -/
import Derived.Test.YtdlpacieajdgoaaGreatDoorK19
import Derived.Lib.IndexBytes
namespace Go.Proofs.YtdlpacieajdgoaaGreatDoor.Ev
open Go Go.RowKit
set_option linter.unusedVariables false
set_option linter.unusedSimpArgs false
noncomputable section

theorem clamp_min (n : Int) (c : UInt8) : (if 10 * n + (by8 c - 48) < 2147483648 then 10 * n + (by8 c - 48) else 2147483648) = clampD n c := by
  unfold clampD
  rw [Int.mul_comm 10 n]
  cases h : decide (2147483648 < n * 10 + (by8 c - 48))
  · have := of_decide_eq_false h
    rw [cond_false]
    split <;> omega
  · have := of_decide_eq_true h
    rw [cond_true, if_neg (by omega)]
theorem iDelta_loop (s : Bytes) (hl : s.length ≤ 4611686018427387904) (k0 : Int → Option Rs) : ∀ (r : Bytes) (v i : Int) (n : Nat), At s i r → r.length < n → 0 ≤ v → v ≤ 2147483648 → allP isDig r = true →
    iDelta_F5 n s v i k0 = k0 (deltaN r v) := by
  intro r; induction r with
  | nil => intro v i n h hn h0 h1 ha; obtain ⟨n, rfl⟩ := fuel hn; unfold iDelta_F5 iDelta_T5; simp only [h.dge, cond_false]; rfl
  | cons a r ih =>
    intro v i n h hn h0 h1 ha; obtain ⟨n, rfl⟩ := fuel hn
    simp only [List.length_cons] at hn
    have hall : allP isDig (a :: r) = (isDig (by8 a) && allP isDig r) := rfl
    rw [hall, Bool.and_eq_true] at ha
    have hb := dig_le ha.1
    have hc := clamp_bd h0 h1 ha.1
    have e1 : wk8 (by8 a - 48) = by8 a - 48 := w8 (by omega) (by omega)
    have e2 : wk64 (by8 a - 48) = by8 a - 48 := w64 (by omega) (by omega)
    have e3 : wk64 (10 * v) = 10 * v := w64 (by omega) (by omega)
    have e4 : wk64 (10 * v + (by8 a - 48)) = 10 * v + (by8 a - 48) := w64 (by omega) (by omega)
    unfold iDelta_F5 iDelta_T5
    simp only [h.dlt, h.dnn, h.str, cond_true, h.next hl, e1, e2, e3, e4, clamp_min]
    exact ih _ (i + 1) n h.step (by omega) hc.1 hc.2 ha.2
theorem iDelta_okQ : Sound Kx 86 de_s := by
  refine (iDelta_okOf (φ := fun s => .ite (isM s) (.ret (.tup [.int .i64 (deltaP s).1, .bool (deltaP s).2]) []) .fail) (fun s => s.length + 1) fun s r h => ?_).of fun args objs r h => ?_
  · obtain ⟨h1, h2⟩ := ite_some h
    cases h2
    unfold iDelta_run deltaP
    cases c : decide (s = [])
    · simp only [cond_false, h1, cond_true]
      cases ha : allP isDig s
      · rfl
      · simp only [Bool.not_true, cond_false, cond_true]
        exact iDelta_loop s (isM_le h1) _ s 0 0 _ (At.start s) (by omega) (by omega) (by omega) ha
    · rfl
  · unfold de_s at h; split at h
    · exact h
    · cases h
def inI (l : List Int) (x : Int) : Bool := l.any fun a => decide (a = x)
def coI_s : List AV → List Ob → Br
  | [.sh (.int .i64) l, .int .i64 x], [] => .ite (decide (l.length ≤ 1000000)) (.ret (.bool (inI l x)) []) .fail
  | _, _ => .fail
theorem conI_okQ : Sound Kx 56 coI_s := conI_ok.of fun args objs r h => by
  unfold coI_s at h
  split at h
  · rename_i l x
    obtain ⟨h1, h2⟩ := ite_some h
    cases h2
    show (conI_br l x).val = _
    unfold conI_br
    rw [idx_nn x l 0 (Int.le_refl 0)]
    exact val_t h1
  · cases h
def coS_s : List AV → List Ob → Br
  | [.sh .str l, .str x], [] => .ite (decide (l.length ≤ 1000000)) (.ret (.bool (inP l x)) []) .fail
  | _, _ => .fail
theorem conS_okQ : Sound Kx 19 coS_s := conS_ok.of fun args objs r h => by
  unfold coS_s at h
  split at h
  · rename_i l x
    obtain ⟨h1, h2⟩ := ite_some h
    cases h2
    show (conS_br l x).val = _
    unfold conS_br
    rw [idx_nn x l 0 (Int.le_refl 0)]
    exact val_t h1
  · cases h
/-- What stands ahead of a byte. -/
def uptoP (s : Bytes) (b : Int) : Bytes := s.takeWhile fun x => !decide (by8 x = b)
theorem cut_pre (p r : Bytes) : Ev.cut (p ++ r) 0 ((p.length : Nat) : Int) = p := by unfold Ev.cut; simp
theorem supto_loop (s : Bytes) (hl : s.length ≤ 4611686018427387904) (b : Int) (k0 : Bytes → Bytes → Option Rs) (k1 : Bytes → Option Rs) (K : Bytes → Option Rs) (h0 : ∀ x, k0 s x = K x) (h1 : k1 s = K s) : ∀ (r p : Bytes) (i : Int) (n : Nat), s = p ++ r → i = (p.length : Int) → r.length < n →
    supto_F2 n s b i k0 k1 = K (p ++ uptoP r b) := by
  intro r; induction r with
  | nil =>
    intro p i n hs hi hn; obtain ⟨n, rfl⟩ := fuel hn
    have h : At s i ([] : Bytes) := ⟨p, hs, hi⟩
    unfold supto_F2 supto_T2
    rw [h.dge, cond_false, h1, hs]; rfl
  | cons a r ih =>
    intro p i n hs hi hn; obtain ⟨n, rfl⟩ := fuel hn
    have h : At s i (a :: r) := ⟨p, hs, hi⟩
    simp only [List.length_cons] at hn
    have hle : decide (i ≤ (s.length : Int)) = true := decide_eq_true (by have := h.lt; omega)
    have hcut : Ev.cut s 0 i = p := by rw [hs, hi]; exact cut_pre p _
    have hr := ih (p ++ [a]) (i + 1) n (by rw [hs]; simp) (by rw [hi]; simp) (by omega)
    unfold supto_F2 supto_T2
    simp only [h.dlt, h.dnn, h.str, hle, cond_true, h.next hl, hcut, h0, hr]
    unfold uptoP
    rw [List.takeWhile_cons]
    cases decide (by8 a = b) <;> simp
def up_s : List AV → List Ob → Br
  | [.str s, .int .u8 b], [] => .ite (isM s) (.ret (.str (uptoP s b)) []) .fail
  | _, _ => .fail
theorem supto_okQ : Sound Kx 117 up_s := by
  refine (supto_okOf (φ := fun s b => .ite (isM s) (.ret (.str (uptoP s b)) []) .fail) (fun s _ => s.length + 1) fun s b r h => ?_).of fun args objs r h => ?_
  · obtain ⟨h1, h2⟩ := ite_some h
    cases h2
    unfold supto_run
    exact supto_loop s (isM_le h1) b _ _ (fun x => some (.str x, [])) (fun _ => rfl) rfl s [] 0 _ rfl rfl (by omega)
  · unfold up_s at h; split at h
    · exact h
    · cases h
/-- Cut at one byte, in the words of 'up to'. -/
theorem cut_upto (c : UInt8) : ∀ s : Bytes, cutP s [c] = (uptoP s (by8 c), s.drop ((uptoP s (by8 c)).length + 1), !decide ((uptoP s (by8 c)).length = s.length))
  | [] => by simp [cutP, Lib.cut, Lib.index, uptoP]
  | a :: r => by
    have ih := cut_upto c r
    unfold cutP Lib.cut at ih ⊢
    rw [Lib.index_one] at ih ⊢
    unfold uptoP at ih ⊢
    rw [List.takeWhile_cons]
    unfold Lib.indexByte
    by_cases h : a = c
    · subst h; simp
    · have hb : (a == c) = false := by simpa using h
      have hd : decide (by8 a = by8 c) = false := decide_eq_false fun e => h (by8_inj e)
      have hge := Lib.indexByte_ge r c
      rw [hb, hd]
      simp only [Bool.false_eq_true, if_false, Bool.not_false, if_true]
      by_cases hm : Lib.indexByte r c = -1
      · rw [hm] at ih
        simp only [Prod.mk.injEq, show ¬ (0 : Int) ≤ -1 by decide, if_false] at ih
        have e : (Lib.indexByte r c == -1) = true := by simpa using hm
        rw [e]
        simp only [if_true, show ¬ (0 : Int) ≤ -1 by decide, if_false, Prod.mk.injEq]
        refine ⟨by rw [← ih.1], ?_, ?_⟩
        · rw [← ih.1]; simp
        · rw [← ih.1]; simp
      · have e : (Lib.indexByte r c == -1) = false := by simpa using hm
        rw [e]
        have h0 : 0 ≤ Lib.indexByte r c := by omega
        rw [if_pos h0] at ih
        simp only [Prod.mk.injEq] at ih
        simp only [Bool.false_eq_true, if_false]
        rw [if_pos (by omega)]
        have e1 : (Lib.indexByte r c + 1).toNat = (Lib.indexByte r c).toNat + 1 := by omega
        obtain ⟨i1, i2, i3⟩ := ih
        rw [e1]
        simp only [Prod.mk.injEq, List.take_succ_cons, List.length_cons, List.length_singleton, List.length_nil]
        refine ⟨by rw [i1], ?_, ?_⟩
        · rw [show (Lib.indexByte r c).toNat + 1 + (0 + 1) = ((Lib.indexByte r c).toNat + 1) + 1 by omega, List.drop_succ_cons, List.drop_succ_cons]
          simpa using i2
        · have := i3
          simp only [Bool.true_eq, Bool.not_eq_true', decide_eq_false_iff_not] at this ⊢
          omega
end
end Go.Proofs.YtdlpacieajdgoaaGreatDoor.Ev

namespace Go.Proofs.YtdlpacieajdgoaaGreatDoor.Ev
open Go Go.RowKit
set_option linter.unusedVariables false
set_option linter.unusedSimpArgs false
noncomputable section

/-! impl.deltaOr -/
def deltaOr_O : Opt := { cons := [], keepNil := false, mutF := [], live := [], outs := [] }
def deltaOr_C : Spec := (add noS 86 de_s)
theorem deltaOr_C_ok : ∀ fn, Sound Kx fn (deltaOr_C fn) := (sound_add (sound_no Kx) iDelta_okQ)
def deltaOr_br (s : Bytes) (n : Int) : Br := (Br.ite (isM s) (Br.ite (!(deltaP s).2) (Br.ret (AV.int .i64 n) ([] : (List (Ob)))) (Br.ret (AV.int .i64 (deltaP s).1) ([] : (List (Ob))))) Br.fail)
theorem deltaOr_run (s : Bytes) (n : Int) : runF Kx deltaOr_C deltaOr_O 1 Tryz.f51 ([.str s, .int .i64 n]) ([]) = (deltaOr_br s n).val := by kernel_rfl
def deltaOr_s : List AV → List Ob → Br
  | [.str s, .int .i64 n], [] => deltaOr_br s n
  | _, _ => .fail
theorem deltaOr_ok : Sound Kx 51 deltaOr_s := by
  refine sound_run (C := deltaOr_C) (O := deltaOr_O) KOk deltaOr_C_ok Tryz.func51 (by kernel_rfl) fun args objs res os h => ?_
  unfold deltaOr_s at h
  split at h
  · exact ⟨1, (deltaOr_run _ _).trans h⟩
  · cases h

/-! impl.Guessed -/
def iGuessed_O : Opt := { cons := [], keepNil := false, mutF := [], live := [], outs := [] }
def iGuessed_C : Spec := (add noS 56 coI_s)
theorem iGuessed_C_ok : ∀ fn, Sound Kx fn (iGuessed_C fn) := (sound_add (sound_no Kx) conI_okQ)
def iGuessed_br (n : Int) : Br := (Br.ret (AV.bool (inI (List.set (List.set (List.set (List.set (List.set (List.set (List.set (List.set (List.set (List.set (List.set (List.replicate (11 : Nat) (0 : Int)) (0 : Nat) (200 : Int)) (1 : Nat) (203 : Int)) (2 : Nat) (204 : Int)) (3 : Nat) (300 : Int)) (4 : Nat) (301 : Int)) (5 : Nat) (308 : Int)) (6 : Nat) (404 : Int)) (7 : Nat) (405 : Int)) (8 : Nat) (410 : Int)) (9 : Nat) (414 : Int)) (10 : Nat) (501 : Int)) n)) ([] : (List (Ob))))
theorem iGuessed_run (n : Int) : runF Kx iGuessed_C iGuessed_O 1 Tryz.f22 ([.int .i64 n]) ([]) = (iGuessed_br n).val := by kernel_rfl
def iGuessed_s : List AV → List Ob → Br
  | [.int .i64 n], [] => iGuessed_br n
  | _, _ => .fail
theorem iGuessed_ok : Sound Kx 22 iGuessed_s := by
  refine sound_run (C := iGuessed_C) (O := iGuessed_O) KOk iGuessed_C_ok Tryz.func22 (by kernel_rfl) fun args objs res os h => ?_
  unfold iGuessed_s at h
  split at h
  · exact ⟨1, (iGuessed_run _).trans h⟩
  · cases h

/-! spec.l12part -/
def spart_O : Opt := { cons := [], keepNil := false, mutF := [], live := [], outs := [] }
def spart_C : Spec := (add (add (add (add noS 117 up_s) 34 (t1_s fun s => .str (foldP s))) 91 (t1_s fun s => .str (trimP s))) 118 un_s)
theorem spart_C_ok : ∀ fn, Sound Kx fn (spart_C fn) := (sound_add (sound_add (sound_add (sound_add (sound_no Kx) supto_okQ) sfold_okQ) strim_okQ) sUnquote_okQ)
def spart_br (s : Bytes) : Br := (Br.ite (isM s) (Br.ite (decide (((List.length (uptoP s (61 : Int))) : Int) = ((List.length s) : Int))) (Br.ite (isM (uptoP s (61 : Int))) (Br.ite (isM (trimP (uptoP s (61 : Int)))) (Br.ret (AV.tup ((AV.str (foldP (trimP (uptoP s (61 : Int))))) :: ((AV.str ([] : (List UInt8))) :: ([] : (List (AV)))))) ([] : (List (Ob)))) Br.fail) Br.fail) (Br.ite (decide ((0 : Int) ≤ (wk64 (((List.length (uptoP s (61 : Int))) : Int) + (1 : Int))))) (Br.ite (decide ((wk64 (((List.length (uptoP s (61 : Int))) : Int) + (1 : Int))) ≤ ((List.length s) : Int))) (Br.ite (isM (cut s (wk64 (((List.length (uptoP s (61 : Int))) : Int) + (1 : Int))) ((List.length s) : Int))) (Br.ite (decide ((List.length (trimP (cut s (wk64 (((List.length (uptoP s (61 : Int))) : Int) + (1 : Int))) ((List.length s) : Int)))) ≤ (4000 : Nat))) (Br.ite (unqP (trimP (cut s (wk64 (((List.length (uptoP s (61 : Int))) : Int) + (1 : Int))) ((List.length s) : Int)))).2 (Br.ite (isM (uptoP s (61 : Int))) (Br.ite (isM (trimP (uptoP s (61 : Int)))) (Br.ret (AV.tup ((AV.str (foldP (trimP (uptoP s (61 : Int))))) :: ((AV.str (unqP (trimP (cut s (wk64 (((List.length (uptoP s (61 : Int))) : Int) + (1 : Int))) ((List.length s) : Int)))).1) :: ([] : (List (AV)))))) ([] : (List (Ob)))) Br.fail) Br.fail) (Br.ite (isM (uptoP s (61 : Int))) (Br.ite (isM (trimP (uptoP s (61 : Int)))) (Br.ret (AV.tup ((AV.str (foldP (trimP (uptoP s (61 : Int))))) :: ((AV.str (trimP (cut s (wk64 (((List.length (uptoP s (61 : Int))) : Int) + (1 : Int))) ((List.length s) : Int)))) :: ([] : (List (AV)))))) ([] : (List (Ob)))) Br.fail) Br.fail)) Br.fail) Br.fail) Br.fail) Br.fail)) Br.fail)
theorem spart_run (s : Bytes) : runF Kx spart_C spart_O 1 Tryz.f94 ([.str s]) ([]) = (spart_br s).val := by kernel_rfl
def spart_s : List AV → List Ob → Br
  | [.str s], [] => spart_br s
  | _, _ => .fail
theorem spart_ok : Sound Kx 94 spart_s := by
  refine sound_run (C := spart_C) (O := spart_O) KOk spart_C_ok Tryz.func94 (by kernel_rfl) fun args objs res os h => ?_
  unfold spart_s at h
  split at h
  · exact ⟨1, (spart_run _).trans h⟩
  · cases h

end
end Go.Proofs.YtdlpacieajdgoaaGreatDoor.Ev

namespace Go.Proofs.YtdlpacieajdgoaaGreatDoor.Ev
open Go Go.RowKit
set_option linter.unusedVariables false
set_option linter.unusedSimpArgs false
noncomputable section

def valP (v : Bytes) : Bytes := bif (unqP v).2 then (unqP v).1 else v
def partP (s : Bytes) : Bytes × Bytes := (foldP (trimP (uptoP s 61)), valP (trimP (s.drop ((uptoP s 61).length + 1))))
theorem upto_len (s : Bytes) (b : Int) : (uptoP s b).length ≤ s.length := by
  unfold uptoP
  induction s with
  | nil => simp
  | cons a r ih =>
    rw [List.takeWhile_cons]
    split
    · simp only [List.length_cons]; omega
    · simp
theorem cut_to {α : Type} (l : List α) (n : Nat) : Ev.cut l ((n : Nat) : Int) (l.length : Int) = l.drop n := by unfold Ev.cut; simp
theorem trim_nil : trimP [] = [] := by have := trimP_len []; exact List.length_eq_zero_iff.1 (by simpa using this)
theorem val_nil : valP [] = [] := rfl
def pt_s : List AV → List Ob → Br
  | [.str s], [] => .ite (decide (s.length ≤ 4000)) (.ret (.tup [.str (partP s).1, .str (partP s).2]) []) .fail
  | _, _ => .fail
theorem spart_okQ : Sound Kx 94 pt_s := spart_ok.of fun args objs r h => by
  unfold pt_s at h
  split at h
  case h_2 => cases h
  rename_i s
  obtain ⟨h1, h2⟩ := ite_some h
  cases h2
  rw [decide_eq_true_eq] at h1
  show (spart_br s).val = _
  have hu := upto_len s 61
  have ht := trimP_len (uptoP s 61)
  have m1 : isM s = true := isM_of h1
  have m2 : isM (uptoP s 61) = true := isM_of (n := 4000) (by omega)
  have m3 : isM (trimP (uptoP s 61)) = true := isM_of (n := 4000) (by omega)
  have hw : wk64 (((uptoP s 61).length : Int) + 1) = (((uptoP s 61).length + 1 : Nat) : Int) := by rw [w64 (by omega) (by omega)]; omega
  unfold spart_br partP
  refine (val_t m1).trans ?_
  by_cases c : (uptoP s 61).length = s.length
  · refine (val_t (decide_eq_true (by rw [c]))).trans ((val_t m2).trans ((val_t m3).trans ?_))
    rw [List.drop_of_length_le (by omega), trim_nil, val_nil]; rfl
  · refine (val_f (decide_eq_false (by omega))).trans ?_
    rw [hw, cut_to]
    have hd : (s.drop ((uptoP s 61).length + 1)).length ≤ 4000 := by rw [List.length_drop]; omega
    have hdt := trimP_len (s.drop ((uptoP s 61).length + 1))
    refine (val_t (decide_eq_true (by omega))).trans ((val_t (decide_eq_true (by omega))).trans ((val_t (isM_of hd)).trans ((val_t (decide_eq_true (by omega))).trans ?_)))
    unfold valP
    cases (unqP (trimP (s.drop ((uptoP s 61).length + 1)))).2
    · exact (val_f rfl).trans ((val_t m2).trans ((val_t m3).trans rfl))
    · exact (val_t rfl).trans ((val_t m2).trans ((val_t m3).trans rfl))
def orP (s : Bytes) (n : Int) : Int := bif (deltaP s).2 then (deltaP s).1 else n
def or_s : List AV → List Ob → Br
  | [.str s, .int .i64 n], [] => .ite (isM s) (.ret (.int .i64 (orP s n)) []) .fail
  | _, _ => .fail
theorem deltaOr_okQ : Sound Kx 51 or_s := deltaOr_ok.of fun args objs r h => by
  unfold or_s at h
  split at h
  case h_2 => cases h
  rename_i s n
  obtain ⟨h1, h2⟩ := ite_some h
  cases h2
  show (deltaOr_br s n).val = _
  unfold deltaOr_br orP
  refine (val_t h1).trans ?_
  cases (deltaP s).2 <;> rfl
def gueP (n : Int) : Bool := inI [200, 203, 204, 300, 301, 308, 404, 405, 410, 414, 501] n
theorem iGuessed_okQ : Sound Kx 22 (pn_s gueP) := of_pn iGuessed_ok fun b => rfl
theorem v_or2 {b : Bool} {x : Br} {c : Bool} (h : x.val = some (.bool c, [])) : (Br.ite b (.ret (.bool true) []) x).val = some (.bool (b || c), []) := by
  cases b
  · exact h
  · rfl
theorem dec_comm (a b : Int) : decide (a = b) = decide (b = a) := by
  by_cases h : a = b
  · rw [decide_eq_true h, decide_eq_true h.symm]
  · rw [decide_eq_false h, decide_eq_false fun e => h e.symm]
theorem sGuessed_okQ : Sound Kx 15 (pn_s gueP) := of_pn sGuessed_ok fun b => by
  show (sGuessed_br b).val = _
  unfold sGuessed_br gueP inI
  simp only [List.any_cons, List.any_nil, dec_comm _ b]
  exact v_or2 (v_or2 (v_or2 (v_or2 (v_or2 (v_or2 (v_or2 (v_or2 (v_or2 (v_or2 (v_or2 rfl))))))))))
end
end Go.Proofs.YtdlpacieajdgoaaGreatDoor.Ev

namespace Go.Proofs.YtdlpacieajdgoaaGreatDoor.Ev
open Go Go.RowKit
set_option linter.unusedVariables false
set_option linter.unusedSimpArgs false
noncomputable section

/-! spec.l12first -/
def sfirst_O : Opt := { cons := [], keepNil := false, mutF := [], live := [(2, [0, 1, 6])], outs := [(2, [4, 5])] }
def sfirst_C : Spec := (add noS 94 pt_s)
theorem sfirst_C_ok : ∀ fn, Sound Kx fn (sfirst_C fn) := (sound_add (sound_no Kx) spart_okQ)
def sfirst_T2 (v2x0 : (List (List UInt8))) (v2x1 : (List UInt8)) (v2x2 : Int) (kR2 : (List (List UInt8)) → (List UInt8) → Int → Option Rs) (k2e0 : (List UInt8) → Option Rs) (k2e1 : Option Rs) : Option Rs :=
  (bif (decide (v2x2 < ((List.length v2x0) : Int))) then (bif (decide ((0 : Int) ≤ v2x2)) then (bif (decide (v2x2 < ((List.length v2x0) : Int))) then (bif (decide ((List.length (List.getD v2x0 (Int.toNat v2x2) ([] : (List UInt8)))) ≤ (4000 : Nat))) then (bif (decide ((foldP (trimP (uptoP (List.getD v2x0 (Int.toNat v2x2) ([] : (List UInt8))) (61 : Int)))) = v2x1)) then (k2e0 (valP (trimP (List.drop ((List.length (uptoP (List.getD v2x0 (Int.toNat v2x2) ([] : (List UInt8))) (61 : Int))) + (1 : Nat)) (List.getD v2x0 (Int.toNat v2x2) ([] : (List UInt8))))))) else (kR2 v2x0 v2x1 (wk64 (v2x2 + (1 : Int))))) else (none)) else (none)) else (none)) else k2e1)
def sfirst_F2 : Nat → (List (List UInt8)) → (List UInt8) → Int → ((List UInt8) → Option Rs) → (Option Rs) → Option Rs
  | 0, _, _, _, _, _ => none
  | n + 1, v2x0, v2x1, v2x2, k2e0, k2e1 => sfirst_T2 v2x0 v2x1 v2x2 (fun v2x0 v2x1 v2x2 => sfirst_F2 n v2x0 v2x1 v2x2 k2e0 k2e1) k2e0 k2e1
def sfirst_h2 (v2x0 : (List (List UInt8))) (v2x1 : (List UInt8)) (v2x2 : Int) : St := (St.mk (slots 0 27 [(0, (AV.sh Ty.str v2x0)), (1, (AV.str v2x1)), (6, (AV.int .i64 v2x2))]) ([] : (List (Nat × (Ob)))))
def sfirst_x2e0 (x2x0x0 : (List UInt8)) : St := (St.mk (slots 0 27 [(4, (AV.str x2x0x0)), (5, (AV.bool true))]) ([] : (List (Nat × (Ob)))))
def sfirst_x2e1  : St := (St.mk (slots 0 27 []) ([] : (List (Nat × (Ob)))))
noncomputable def sfirst_b2 : Code := codeAt (codeOf Tryz.f67) [1, 0, 1, 0, 0]
def sfirst_L2 (N : Nat) (st : St) (k : Ex → St → Option Rs) : Option Rs := match takeF [0, 1, 6] 0 27 st.env, st.objs with
  | some [.sh Ty.str v2x0, .str v2x1, .int .i64 v2x2], [] => sfirst_F2 N v2x0 v2x1 v2x2 (fun x2x0x0 => k Ex.ret (sfirst_x2e0 x2x0x0)) (k (Ex.exit (0 : Nat)) (sfirst_x2e1))
  | _, _ => none
def sfirst_L (N : Nat) : Lam := fun j st k => match j with
  | 2 => sfirst_L2 N st k
  | _ => none
theorem sfirst_round2 (N : Nat) (again : St → Option Rs) (k : Ex → St → Option Rs) (wv2x0 : (List (List UInt8))) (wv2x1 : (List UInt8)) (wv2x2 : Int) (v2x0 : (List (List UInt8))) (v2x1 : (List UInt8)) (v2x2 : Int) :
    roundK 0 (fun st k => evL Kx sfirst_C sfirst_O 0 (sfirst_L N) sfirst_b2 st k) (sfirst_h2 wv2x0 wv2x1 wv2x2).env again (sfirst_h2 v2x0 v2x1 v2x2) (outK sfirst_O 0 sfirst_b2 k) = sfirst_T2 v2x0 v2x1 v2x2 (fun v2x0 v2x1 v2x2 => again (sfirst_h2 v2x0 v2x1 v2x2)) (fun x2x0x0 => k Ex.ret (sfirst_x2e0 x2x0x0)) (k (Ex.exit (0 : Nat)) (sfirst_x2e1)) := by kernel_rfl
theorem sfirst_loop2 (N : Nat) (k : Ex → St → Option Rs) (wv2x0 : (List (List UInt8))) (wv2x1 : (List UInt8)) (wv2x2 : Int) : ∀ (n : Nat) (v2x0 : (List (List UInt8))) (v2x1 : (List UInt8)) (v2x2 : Int),
    loopK 0 (fun st k => evL Kx sfirst_C sfirst_O 0 (sfirst_L N) sfirst_b2 st k) (sfirst_h2 wv2x0 wv2x1 wv2x2).env n (sfirst_h2 v2x0 v2x1 v2x2) (outK sfirst_O 0 sfirst_b2 k) = sfirst_F2 n v2x0 v2x1 v2x2 (fun x2x0x0 => k Ex.ret (sfirst_x2e0 x2x0x0)) (k (Ex.exit (0 : Nat)) (sfirst_x2e1))
  | 0, _, _, _ => rfl
  | n + 1, v2x0, v2x1, v2x2 => by
    rw [loopK_succ, sfirst_round2]
    simp only [sfirst_loop2 N k wv2x0 wv2x1 wv2x2 n]
    rfl
theorem sfirst_at2 (N : Nat) {s : St} {k : Ex → St → Option Rs} {r : Rs} (h : sfirst_L2 N s k = some r) : ∃ (v2x0 : (List (List UInt8))) (v2x1 : (List UInt8)) (v2x2 : Int), s = (sfirst_h2 v2x0 v2x1 v2x2) ∧ sfirst_F2 N v2x0 v2x1 v2x2 (fun x2x0x0 => k Ex.ret (sfirst_x2e0 x2x0x0)) (k (Ex.exit (0 : Nat)) (sfirst_x2e1)) = some r := by
  cases s with | mk env objs =>
  unfold sfirst_L2 at h
  split at h
  · rename_i e1 e2
    have e3 := takeF_slots _ _ _ _ e1
    simp only at e2 e3
    subst e2 e3
    exact ⟨_, _, _, rfl, h⟩
  · cases h
theorem sfirst_in2 : loops sfirst_b2 = [] := by kernel_rfl
theorem sfirst_lid2 : lid sfirst_b2 = 2 := by kernel_rfl
theorem sfirst_ok2 (N : Nat) : OkL Kx sfirst_C sfirst_O 0 N (sfirst_L N) sfirst_b2 := by
  intro s k k' r hk h
  rw [sfirst_lid2] at h
  obtain ⟨v2x0, v2x1, v2x2, rfl, h⟩ := sfirst_at2 N h
  refine loopL (Λ := sfirst_L N) sfirst_b2 ?_ N hk ((sfirst_loop2 N k v2x0 v2x1 v2x2 N v2x0 v2x1 v2x2).trans h)
  rw [sfirst_in2]
  exact fun _ h => nomatch h
def sfirst_run (N : Nat) (w : List Bytes) (name : Bytes) : Option Rs := (sfirst_F2 N w name (0 : Int) (fun x2x0x0 => (some ((AV.tup ((AV.str x2x0x0) :: ((AV.bool true) :: ([] : (List (AV)))))), ([] : (List (Ob)))))) (some ((AV.tup ((AV.str ([] : (List UInt8))) :: ((AV.bool false) :: ([] : (List (AV)))))), ([] : (List (Ob))))))
theorem sfirst_runL (N : Nat) (w : List Bytes) (name : Bytes) : runL Kx sfirst_C sfirst_O (sfirst_L N) Tryz.f67 ([.sh .str w, .str name]) ([]) = sfirst_run N w name := by kernel_rfl
theorem sfirst_body : Tryz.f67.body = some (codeOf Tryz.f67) := by kernel_rfl
theorem sfirst_loops : loops (codeOf Tryz.f67) = [sfirst_b2] := by kernel_rfl
theorem sfirst_ev (N : Nat) (w : List Bytes) (name : Bytes) {res_ : Rs} (hyp_ : sfirst_run N w name = some res_) : ∃ n_, runF Kx sfirst_C sfirst_O n_ Tryz.f67 ([.sh .str w, .str name]) ([]) = some res_ :=
  ⟨N, runL_runF sfirst_body (by rw [sfirst_loops]; exact List.forall_mem_cons.2 ⟨sfirst_ok2 N, fun _ h => nomatch h⟩) ((sfirst_runL N w name).trans hyp_)⟩
def sfirst_sOf (φ : (List Bytes) → Bytes → Br) : List AV → List Ob → Br
  | [.sh .str w, .str name], [] => φ w name
  | _, _ => .fail
theorem sfirst_okOf {φ : (List Bytes) → Bytes → Br} (fu : (List Bytes) → Bytes → Nat) (hv : ∀ w name res_, (φ w name).val = some res_ → sfirst_run (fu w name) w name = some res_) : Sound Kx 67 (sfirst_sOf φ) := by
  refine sound_run (C := sfirst_C) (O := sfirst_O) KOk sfirst_C_ok Tryz.func67 (by kernel_rfl) fun args objs res os h => ?_
  unfold sfirst_sOf at h
  split at h
  · exact sfirst_ev _ _ _ (hv _ _ _ h)
  · cases h

/-! impl.ReadDirs -/
def iReadDirs_O : Opt := { cons := [], keepNil := false, mutF := [45], live := [(38, [2, 3, 101, 102, 103]), (4, [0, 2, 3, 4, 16, 17, 18])], outs := [(38, [2, 3]), (4, [0, 2, 3])] }
def iReadDirs_C : Spec := (add (add (add (add (add (add (add (add (add noS 50 (t1_s fun s => .str (foldP s))) 48 (t1_s fun s => .str (trimP s))) 46 wo_s) 49 un_s) 47 cut_s) 45 set_s) 37 (fl_s fun l => .bool (fdsOk l))) 21 has2_s) 51 or_s)
theorem iReadDirs_C_ok : ∀ fn, Sound Kx fn (iReadDirs_C fn) := (sound_add (sound_add (sound_add (sound_add (sound_add (sound_add (sound_add (sound_add (sound_add (sound_no Kx) ifold_okQ) itrim_okQ) iWords_okQ) iUnquote_okQ) cut_okQ) set_okQ) iFieldsOk_okQ) iHas_okQ) deltaOr_okQ)
def iReadDirs_T4 (v4x0 : (List ((List UInt8) × (List UInt8)))) (v4x1 : Int) (v4x2 : Int) (v4x3 : Bool) (v4x4 : Bool) (v4x5 : Bool) (v4x6 : Bool) (v4x7 : Bool) (v4x8 : Bool) (v4x9 : Int) (v4x10 : Int) (v4x11 : Int) (v4x12 : Int) (v4x13 : Bool) (v4x14 : Bool) (v4x15 : Bool) (v4x16 : Bool) (v4x17 : Bool) (v4x18 : Bool) (v4x19 : Int) (v4x20 : Int) (v4x21 : Int) (v4x22 : Int) (v4x23 : (List (List UInt8))) (kR4 : (List ((List UInt8) × (List UInt8))) → Int → Int → Bool → Bool → Bool → Bool → Bool → Bool → Int → Int → Int → Int → Bool → Bool → Bool → Bool → Bool → Bool → Int → Int → Int → Int → (List (List UInt8)) → Option Rs) (k4e0 : (List ((List UInt8) × (List UInt8))) → Bool → Bool → Bool → Bool → Bool → Bool → Int → Int → Int → Int → Bool → Bool → Bool → Bool → Bool → Bool → Int → Int → Int → Int → Option Rs) : Option Rs :=
  (bif (decide (v4x2 < v4x1)) then (bif (decide ((0 : Int) ≤ v4x2)) then (bif (decide (v4x2 < ((List.length v4x23) : Int))) then (bif (decide ((List.length (List.getD v4x23 (Int.toNat v4x2) ([] : (List UInt8)))) ≤ (1000000 : Nat))) then (bif (isM (cutP (List.getD v4x23 (Int.toNat v4x2) ([] : (List UInt8))) ((61 : UInt8) :: ([] : (List UInt8)))).2.1) then (bif (decide ((List.length (trimP (cutP (List.getD v4x23 (Int.toNat v4x2) ([] : (List UInt8))) ((61 : UInt8) :: ([] : (List UInt8)))).2.1)) ≤ (4000 : Nat))) then (bif (unqP (trimP (cutP (List.getD v4x23 (Int.toNat v4x2) ([] : (List UInt8))) ((61 : UInt8) :: ([] : (List UInt8)))).2.1)).2 then (bif (isM (cutP (List.getD v4x23 (Int.toNat v4x2) ([] : (List UInt8))) ((61 : UInt8) :: ([] : (List UInt8)))).1) then (bif (isM (trimP (cutP (List.getD v4x23 (Int.toNat v4x2) ([] : (List UInt8))) ((61 : UInt8) :: ([] : (List UInt8)))).1)) then (bif (decide ((foldP (trimP (cutP (List.getD v4x23 (Int.toNat v4x2) ([] : (List UInt8))) ((61 : UInt8) :: ([] : (List UInt8)))).1)) = ((110 : UInt8) :: ((111 : UInt8) :: ((45 : UInt8) :: ((115 : UInt8) :: ((116 : UInt8) :: ((111 : UInt8) :: ((114 : UInt8) :: ((101 : UInt8) :: ([] : (List UInt8)))))))))))) then (kR4 v4x0 v4x1 (wk64 (v4x2 + (1 : Int))) v4x3 v4x4 v4x5 v4x6 v4x7 v4x8 v4x9 v4x10 v4x11 v4x12 true v4x14 v4x15 v4x16 v4x17 v4x18 v4x19 v4x20 v4x21 v4x22 v4x23) else (bif (decide ((foldP (trimP (cutP (List.getD v4x23 (Int.toNat v4x2) ([] : (List UInt8))) ((61 : UInt8) :: ([] : (List UInt8)))).1)) = ((110 : UInt8) :: ((111 : UInt8) :: ((45 : UInt8) :: ((99 : UInt8) :: ((97 : UInt8) :: ((99 : UInt8) :: ((104 : UInt8) :: ((101 : UInt8) :: ([] : (List UInt8)))))))))))) then (kR4 v4x0 v4x1 (wk64 (v4x2 + (1 : Int))) v4x3 v4x4 v4x5 v4x6 v4x7 v4x8 v4x9 v4x10 v4x11 v4x12 v4x13 true v4x15 v4x16 v4x17 v4x18 v4x19 v4x20 v4x21 v4x22 v4x23) else (bif (decide ((foldP (trimP (cutP (List.getD v4x23 (Int.toNat v4x2) ([] : (List UInt8))) ((61 : UInt8) :: ([] : (List UInt8)))).1)) = ((112 : UInt8) :: ((114 : UInt8) :: ((105 : UInt8) :: ((118 : UInt8) :: ((97 : UInt8) :: ((116 : UInt8) :: ((101 : UInt8) :: ([] : (List UInt8))))))))))) then (kR4 v4x0 v4x1 (wk64 (v4x2 + (1 : Int))) v4x3 v4x4 v4x5 v4x6 v4x7 v4x8 v4x9 v4x10 v4x11 v4x12 v4x13 v4x14 true v4x16 v4x17 v4x18 v4x19 v4x20 v4x21 v4x22 v4x23) else (bif (decide ((foldP (trimP (cutP (List.getD v4x23 (Int.toNat v4x2) ([] : (List UInt8))) ((61 : UInt8) :: ([] : (List UInt8)))).1)) = ((112 : UInt8) :: ((117 : UInt8) :: ((98 : UInt8) :: ((108 : UInt8) :: ((105 : UInt8) :: ((99 : UInt8) :: ([] : (List UInt8)))))))))) then (kR4 v4x0 v4x1 (wk64 (v4x2 + (1 : Int))) v4x3 v4x4 v4x5 v4x6 v4x7 v4x8 v4x9 v4x10 v4x11 v4x12 v4x13 v4x14 v4x15 true v4x17 v4x18 v4x19 v4x20 v4x21 v4x22 v4x23) else (bif (decide ((foldP (trimP (cutP (List.getD v4x23 (Int.toNat v4x2) ([] : (List UInt8))) ((61 : UInt8) :: ([] : (List UInt8)))).1)) = ((111 : UInt8) :: ((110 : UInt8) :: ((108 : UInt8) :: ((121 : UInt8) :: ((45 : UInt8) :: ((105 : UInt8) :: ((102 : UInt8) :: ((45 : UInt8) :: ((99 : UInt8) :: ((97 : UInt8) :: ((99 : UInt8) :: ((104 : UInt8) :: ((101 : UInt8) :: ((100 : UInt8) :: ([] : (List UInt8)))))))))))))))))) then (kR4 v4x0 v4x1 (wk64 (v4x2 + (1 : Int))) v4x3 v4x4 v4x5 v4x6 v4x7 v4x8 v4x9 v4x10 v4x11 v4x12 v4x13 v4x14 v4x15 v4x16 v4x17 true v4x19 v4x20 v4x21 v4x22 v4x23) else (bif (decide ((foldP (trimP (cutP (List.getD v4x23 (Int.toNat v4x2) ([] : (List UInt8))) ((61 : UInt8) :: ([] : (List UInt8)))).1)) = ((109 : UInt8) :: ((117 : UInt8) :: ((115 : UInt8) :: ((116 : UInt8) :: ((45 : UInt8) :: ((114 : UInt8) :: ((101 : UInt8) :: ((118 : UInt8) :: ((97 : UInt8) :: ((108 : UInt8) :: ((105 : UInt8) :: ((100 : UInt8) :: ((97 : UInt8) :: ((116 : UInt8) :: ((101 : UInt8) :: ([] : (List UInt8))))))))))))))))))) then (kR4 v4x0 v4x1 (wk64 (v4x2 + (1 : Int))) v4x3 v4x4 v4x5 v4x6 v4x7 v4x8 v4x9 v4x10 v4x11 v4x12 v4x13 v4x14 v4x15 v4x16 true v4x18 v4x19 v4x20 v4x21 v4x22 v4x23) else (bif (decide ((foldP (trimP (cutP (List.getD v4x23 (Int.toNat v4x2) ([] : (List UInt8))) ((61 : UInt8) :: ([] : (List UInt8)))).1)) = ((112 : UInt8) :: ((114 : UInt8) :: ((111 : UInt8) :: ((120 : UInt8) :: ((121 : UInt8) :: ((45 : UInt8) :: ((114 : UInt8) :: ((101 : UInt8) :: ((118 : UInt8) :: ((97 : UInt8) :: ((108 : UInt8) :: ((105 : UInt8) :: ((100 : UInt8) :: ((97 : UInt8) :: ((116 : UInt8) :: ((101 : UInt8) :: ([] : (List UInt8)))))))))))))))))))) then (kR4 v4x0 v4x1 (wk64 (v4x2 + (1 : Int))) v4x3 v4x4 v4x5 v4x6 v4x7 v4x8 v4x9 v4x10 v4x11 v4x12 v4x13 v4x14 v4x15 v4x16 true v4x18 v4x19 v4x20 v4x21 v4x22 v4x23) else (bif (decide ((foldP (trimP (cutP (List.getD v4x23 (Int.toNat v4x2) ([] : (List UInt8))) ((61 : UInt8) :: ([] : (List UInt8)))).1)) = ((109 : UInt8) :: ((97 : UInt8) :: ((120 : UInt8) :: ((45 : UInt8) :: ((97 : UInt8) :: ((103 : UInt8) :: ((101 : UInt8) :: ([] : (List UInt8))))))))))) then (bif (isM (unqP (trimP (cutP (List.getD v4x23 (Int.toNat v4x2) ([] : (List UInt8))) ((61 : UInt8) :: ([] : (List UInt8)))).2.1)).1) then (kR4 v4x0 v4x1 (wk64 (v4x2 + (1 : Int))) v4x3 v4x4 v4x5 v4x6 v4x7 v4x8 v4x9 v4x10 v4x11 v4x12 v4x13 v4x14 v4x15 v4x16 v4x17 v4x18 (set1 v4x19 (orP (unqP (trimP (cutP (List.getD v4x23 (Int.toNat v4x2) ([] : (List UInt8))) ((61 : UInt8) :: ([] : (List UInt8)))).2.1)).1 (0 : Int))) v4x20 v4x21 v4x22 v4x23) else (none)) else (bif (decide ((foldP (trimP (cutP (List.getD v4x23 (Int.toNat v4x2) ([] : (List UInt8))) ((61 : UInt8) :: ([] : (List UInt8)))).1)) = ((115 : UInt8) :: ((45 : UInt8) :: ((109 : UInt8) :: ((97 : UInt8) :: ((120 : UInt8) :: ((97 : UInt8) :: ((103 : UInt8) :: ((101 : UInt8) :: ([] : (List UInt8)))))))))))) then (bif (isM (unqP (trimP (cutP (List.getD v4x23 (Int.toNat v4x2) ([] : (List UInt8))) ((61 : UInt8) :: ([] : (List UInt8)))).2.1)).1) then (kR4 v4x0 v4x1 (wk64 (v4x2 + (1 : Int))) v4x3 v4x4 v4x5 v4x6 v4x7 v4x8 v4x9 v4x10 v4x11 v4x12 v4x13 v4x14 v4x15 v4x16 v4x17 v4x18 v4x19 (set1 v4x20 (orP (unqP (trimP (cutP (List.getD v4x23 (Int.toNat v4x2) ([] : (List UInt8))) ((61 : UInt8) :: ([] : (List UInt8)))).2.1)).1 (0 : Int))) v4x21 v4x22 v4x23) else (none)) else (bif (decide ((foldP (trimP (cutP (List.getD v4x23 (Int.toNat v4x2) ([] : (List UInt8))) ((61 : UInt8) :: ([] : (List UInt8)))).1)) = ((109 : UInt8) :: ((97 : UInt8) :: ((120 : UInt8) :: ((45 : UInt8) :: ((115 : UInt8) :: ((116 : UInt8) :: ((97 : UInt8) :: ((108 : UInt8) :: ((101 : UInt8) :: ([] : (List UInt8))))))))))))) then (bif (decide ((unqP (trimP (cutP (List.getD v4x23 (Int.toNat v4x2) ([] : (List UInt8))) ((61 : UInt8) :: ([] : (List UInt8)))).2.1)).1 = ([] : (List UInt8)))) then (kR4 v4x0 v4x1 (wk64 (v4x2 + (1 : Int))) v4x3 v4x4 v4x5 v4x6 v4x7 v4x8 v4x9 v4x10 v4x11 v4x12 v4x13 v4x14 v4x15 v4x16 v4x17 v4x18 v4x19 v4x20 (set1 v4x21 (2147483648 : Int)) v4x22 v4x23) else (bif (isM (unqP (trimP (cutP (List.getD v4x23 (Int.toNat v4x2) ([] : (List UInt8))) ((61 : UInt8) :: ([] : (List UInt8)))).2.1)).1) then (kR4 v4x0 v4x1 (wk64 (v4x2 + (1 : Int))) v4x3 v4x4 v4x5 v4x6 v4x7 v4x8 v4x9 v4x10 v4x11 v4x12 v4x13 v4x14 v4x15 v4x16 v4x17 v4x18 v4x19 v4x20 (set1 v4x21 (orP (unqP (trimP (cutP (List.getD v4x23 (Int.toNat v4x2) ([] : (List UInt8))) ((61 : UInt8) :: ([] : (List UInt8)))).2.1)).1 (0 : Int))) v4x22 v4x23) else (none))) else (bif (decide ((foldP (trimP (cutP (List.getD v4x23 (Int.toNat v4x2) ([] : (List UInt8))) ((61 : UInt8) :: ([] : (List UInt8)))).1)) = ((109 : UInt8) :: ((105 : UInt8) :: ((110 : UInt8) :: ((45 : UInt8) :: ((102 : UInt8) :: ((114 : UInt8) :: ((101 : UInt8) :: ((115 : UInt8) :: ((104 : UInt8) :: ([] : (List UInt8))))))))))))) then (bif (isM (unqP (trimP (cutP (List.getD v4x23 (Int.toNat v4x2) ([] : (List UInt8))) ((61 : UInt8) :: ([] : (List UInt8)))).2.1)).1) then (kR4 v4x0 v4x1 (wk64 (v4x2 + (1 : Int))) v4x3 v4x4 v4x5 v4x6 v4x7 v4x8 v4x9 v4x10 v4x11 v4x12 v4x13 v4x14 v4x15 v4x16 v4x17 v4x18 v4x19 v4x20 v4x21 (set1 v4x22 (orP (unqP (trimP (cutP (List.getD v4x23 (Int.toNat v4x2) ([] : (List UInt8))) ((61 : UInt8) :: ([] : (List UInt8)))).2.1)).1 (2147483648 : Int))) v4x23) else (none)) else (kR4 v4x0 v4x1 (wk64 (v4x2 + (1 : Int))) v4x3 v4x4 v4x5 v4x6 v4x7 v4x8 v4x9 v4x10 v4x11 v4x12 v4x13 v4x14 v4x15 v4x16 v4x17 v4x18 v4x19 v4x20 v4x21 v4x22 v4x23)))))))))))) else (none)) else (none)) else (bif (isM (cutP (List.getD v4x23 (Int.toNat v4x2) ([] : (List UInt8))) ((61 : UInt8) :: ([] : (List UInt8)))).1) then (bif (isM (trimP (cutP (List.getD v4x23 (Int.toNat v4x2) ([] : (List UInt8))) ((61 : UInt8) :: ([] : (List UInt8)))).1)) then (bif (decide ((foldP (trimP (cutP (List.getD v4x23 (Int.toNat v4x2) ([] : (List UInt8))) ((61 : UInt8) :: ([] : (List UInt8)))).1)) = ((110 : UInt8) :: ((111 : UInt8) :: ((45 : UInt8) :: ((115 : UInt8) :: ((116 : UInt8) :: ((111 : UInt8) :: ((114 : UInt8) :: ((101 : UInt8) :: ([] : (List UInt8)))))))))))) then (kR4 v4x0 v4x1 (wk64 (v4x2 + (1 : Int))) v4x3 v4x4 v4x5 v4x6 v4x7 v4x8 v4x9 v4x10 v4x11 v4x12 true v4x14 v4x15 v4x16 v4x17 v4x18 v4x19 v4x20 v4x21 v4x22 v4x23) else (bif (decide ((foldP (trimP (cutP (List.getD v4x23 (Int.toNat v4x2) ([] : (List UInt8))) ((61 : UInt8) :: ([] : (List UInt8)))).1)) = ((110 : UInt8) :: ((111 : UInt8) :: ((45 : UInt8) :: ((99 : UInt8) :: ((97 : UInt8) :: ((99 : UInt8) :: ((104 : UInt8) :: ((101 : UInt8) :: ([] : (List UInt8)))))))))))) then (kR4 v4x0 v4x1 (wk64 (v4x2 + (1 : Int))) v4x3 v4x4 v4x5 v4x6 v4x7 v4x8 v4x9 v4x10 v4x11 v4x12 v4x13 true v4x15 v4x16 v4x17 v4x18 v4x19 v4x20 v4x21 v4x22 v4x23) else (bif (decide ((foldP (trimP (cutP (List.getD v4x23 (Int.toNat v4x2) ([] : (List UInt8))) ((61 : UInt8) :: ([] : (List UInt8)))).1)) = ((112 : UInt8) :: ((114 : UInt8) :: ((105 : UInt8) :: ((118 : UInt8) :: ((97 : UInt8) :: ((116 : UInt8) :: ((101 : UInt8) :: ([] : (List UInt8))))))))))) then (kR4 v4x0 v4x1 (wk64 (v4x2 + (1 : Int))) v4x3 v4x4 v4x5 v4x6 v4x7 v4x8 v4x9 v4x10 v4x11 v4x12 v4x13 v4x14 true v4x16 v4x17 v4x18 v4x19 v4x20 v4x21 v4x22 v4x23) else (bif (decide ((foldP (trimP (cutP (List.getD v4x23 (Int.toNat v4x2) ([] : (List UInt8))) ((61 : UInt8) :: ([] : (List UInt8)))).1)) = ((112 : UInt8) :: ((117 : UInt8) :: ((98 : UInt8) :: ((108 : UInt8) :: ((105 : UInt8) :: ((99 : UInt8) :: ([] : (List UInt8)))))))))) then (kR4 v4x0 v4x1 (wk64 (v4x2 + (1 : Int))) v4x3 v4x4 v4x5 v4x6 v4x7 v4x8 v4x9 v4x10 v4x11 v4x12 v4x13 v4x14 v4x15 true v4x17 v4x18 v4x19 v4x20 v4x21 v4x22 v4x23) else (bif (decide ((foldP (trimP (cutP (List.getD v4x23 (Int.toNat v4x2) ([] : (List UInt8))) ((61 : UInt8) :: ([] : (List UInt8)))).1)) = ((111 : UInt8) :: ((110 : UInt8) :: ((108 : UInt8) :: ((121 : UInt8) :: ((45 : UInt8) :: ((105 : UInt8) :: ((102 : UInt8) :: ((45 : UInt8) :: ((99 : UInt8) :: ((97 : UInt8) :: ((99 : UInt8) :: ((104 : UInt8) :: ((101 : UInt8) :: ((100 : UInt8) :: ([] : (List UInt8)))))))))))))))))) then (kR4 v4x0 v4x1 (wk64 (v4x2 + (1 : Int))) v4x3 v4x4 v4x5 v4x6 v4x7 v4x8 v4x9 v4x10 v4x11 v4x12 v4x13 v4x14 v4x15 v4x16 v4x17 true v4x19 v4x20 v4x21 v4x22 v4x23) else (bif (decide ((foldP (trimP (cutP (List.getD v4x23 (Int.toNat v4x2) ([] : (List UInt8))) ((61 : UInt8) :: ([] : (List UInt8)))).1)) = ((109 : UInt8) :: ((117 : UInt8) :: ((115 : UInt8) :: ((116 : UInt8) :: ((45 : UInt8) :: ((114 : UInt8) :: ((101 : UInt8) :: ((118 : UInt8) :: ((97 : UInt8) :: ((108 : UInt8) :: ((105 : UInt8) :: ((100 : UInt8) :: ((97 : UInt8) :: ((116 : UInt8) :: ((101 : UInt8) :: ([] : (List UInt8))))))))))))))))))) then (kR4 v4x0 v4x1 (wk64 (v4x2 + (1 : Int))) v4x3 v4x4 v4x5 v4x6 v4x7 v4x8 v4x9 v4x10 v4x11 v4x12 v4x13 v4x14 v4x15 v4x16 true v4x18 v4x19 v4x20 v4x21 v4x22 v4x23) else (bif (decide ((foldP (trimP (cutP (List.getD v4x23 (Int.toNat v4x2) ([] : (List UInt8))) ((61 : UInt8) :: ([] : (List UInt8)))).1)) = ((112 : UInt8) :: ((114 : UInt8) :: ((111 : UInt8) :: ((120 : UInt8) :: ((121 : UInt8) :: ((45 : UInt8) :: ((114 : UInt8) :: ((101 : UInt8) :: ((118 : UInt8) :: ((97 : UInt8) :: ((108 : UInt8) :: ((105 : UInt8) :: ((100 : UInt8) :: ((97 : UInt8) :: ((116 : UInt8) :: ((101 : UInt8) :: ([] : (List UInt8)))))))))))))))))))) then (kR4 v4x0 v4x1 (wk64 (v4x2 + (1 : Int))) v4x3 v4x4 v4x5 v4x6 v4x7 v4x8 v4x9 v4x10 v4x11 v4x12 v4x13 v4x14 v4x15 v4x16 true v4x18 v4x19 v4x20 v4x21 v4x22 v4x23) else (bif (decide ((foldP (trimP (cutP (List.getD v4x23 (Int.toNat v4x2) ([] : (List UInt8))) ((61 : UInt8) :: ([] : (List UInt8)))).1)) = ((109 : UInt8) :: ((97 : UInt8) :: ((120 : UInt8) :: ((45 : UInt8) :: ((97 : UInt8) :: ((103 : UInt8) :: ((101 : UInt8) :: ([] : (List UInt8))))))))))) then (bif (isM (trimP (cutP (List.getD v4x23 (Int.toNat v4x2) ([] : (List UInt8))) ((61 : UInt8) :: ([] : (List UInt8)))).2.1)) then (kR4 v4x0 v4x1 (wk64 (v4x2 + (1 : Int))) v4x3 v4x4 v4x5 v4x6 v4x7 v4x8 v4x9 v4x10 v4x11 v4x12 v4x13 v4x14 v4x15 v4x16 v4x17 v4x18 (set1 v4x19 (orP (trimP (cutP (List.getD v4x23 (Int.toNat v4x2) ([] : (List UInt8))) ((61 : UInt8) :: ([] : (List UInt8)))).2.1) (0 : Int))) v4x20 v4x21 v4x22 v4x23) else (none)) else (bif (decide ((foldP (trimP (cutP (List.getD v4x23 (Int.toNat v4x2) ([] : (List UInt8))) ((61 : UInt8) :: ([] : (List UInt8)))).1)) = ((115 : UInt8) :: ((45 : UInt8) :: ((109 : UInt8) :: ((97 : UInt8) :: ((120 : UInt8) :: ((97 : UInt8) :: ((103 : UInt8) :: ((101 : UInt8) :: ([] : (List UInt8)))))))))))) then (bif (isM (trimP (cutP (List.getD v4x23 (Int.toNat v4x2) ([] : (List UInt8))) ((61 : UInt8) :: ([] : (List UInt8)))).2.1)) then (kR4 v4x0 v4x1 (wk64 (v4x2 + (1 : Int))) v4x3 v4x4 v4x5 v4x6 v4x7 v4x8 v4x9 v4x10 v4x11 v4x12 v4x13 v4x14 v4x15 v4x16 v4x17 v4x18 v4x19 (set1 v4x20 (orP (trimP (cutP (List.getD v4x23 (Int.toNat v4x2) ([] : (List UInt8))) ((61 : UInt8) :: ([] : (List UInt8)))).2.1) (0 : Int))) v4x21 v4x22 v4x23) else (none)) else (bif (decide ((foldP (trimP (cutP (List.getD v4x23 (Int.toNat v4x2) ([] : (List UInt8))) ((61 : UInt8) :: ([] : (List UInt8)))).1)) = ((109 : UInt8) :: ((97 : UInt8) :: ((120 : UInt8) :: ((45 : UInt8) :: ((115 : UInt8) :: ((116 : UInt8) :: ((97 : UInt8) :: ((108 : UInt8) :: ((101 : UInt8) :: ([] : (List UInt8))))))))))))) then (bif (decide ((trimP (cutP (List.getD v4x23 (Int.toNat v4x2) ([] : (List UInt8))) ((61 : UInt8) :: ([] : (List UInt8)))).2.1) = ([] : (List UInt8)))) then (kR4 v4x0 v4x1 (wk64 (v4x2 + (1 : Int))) v4x3 v4x4 v4x5 v4x6 v4x7 v4x8 v4x9 v4x10 v4x11 v4x12 v4x13 v4x14 v4x15 v4x16 v4x17 v4x18 v4x19 v4x20 (set1 v4x21 (2147483648 : Int)) v4x22 v4x23) else (bif (isM (trimP (cutP (List.getD v4x23 (Int.toNat v4x2) ([] : (List UInt8))) ((61 : UInt8) :: ([] : (List UInt8)))).2.1)) then (kR4 v4x0 v4x1 (wk64 (v4x2 + (1 : Int))) v4x3 v4x4 v4x5 v4x6 v4x7 v4x8 v4x9 v4x10 v4x11 v4x12 v4x13 v4x14 v4x15 v4x16 v4x17 v4x18 v4x19 v4x20 (set1 v4x21 (orP (trimP (cutP (List.getD v4x23 (Int.toNat v4x2) ([] : (List UInt8))) ((61 : UInt8) :: ([] : (List UInt8)))).2.1) (0 : Int))) v4x22 v4x23) else (none))) else (bif (decide ((foldP (trimP (cutP (List.getD v4x23 (Int.toNat v4x2) ([] : (List UInt8))) ((61 : UInt8) :: ([] : (List UInt8)))).1)) = ((109 : UInt8) :: ((105 : UInt8) :: ((110 : UInt8) :: ((45 : UInt8) :: ((102 : UInt8) :: ((114 : UInt8) :: ((101 : UInt8) :: ((115 : UInt8) :: ((104 : UInt8) :: ([] : (List UInt8))))))))))))) then (bif (isM (trimP (cutP (List.getD v4x23 (Int.toNat v4x2) ([] : (List UInt8))) ((61 : UInt8) :: ([] : (List UInt8)))).2.1)) then (kR4 v4x0 v4x1 (wk64 (v4x2 + (1 : Int))) v4x3 v4x4 v4x5 v4x6 v4x7 v4x8 v4x9 v4x10 v4x11 v4x12 v4x13 v4x14 v4x15 v4x16 v4x17 v4x18 v4x19 v4x20 v4x21 (set1 v4x22 (orP (trimP (cutP (List.getD v4x23 (Int.toNat v4x2) ([] : (List UInt8))) ((61 : UInt8) :: ([] : (List UInt8)))).2.1) (2147483648 : Int))) v4x23) else (none)) else (kR4 v4x0 v4x1 (wk64 (v4x2 + (1 : Int))) v4x3 v4x4 v4x5 v4x6 v4x7 v4x8 v4x9 v4x10 v4x11 v4x12 v4x13 v4x14 v4x15 v4x16 v4x17 v4x18 v4x19 v4x20 v4x21 v4x22 v4x23)))))))))))) else (none)) else (none))) else (none)) else (none)) else (none)) else (none)) else (none)) else (k4e0 v4x0 v4x3 v4x4 v4x5 v4x6 v4x7 v4x8 v4x9 v4x10 v4x11 v4x12 v4x13 v4x14 v4x15 v4x16 v4x17 v4x18 v4x19 v4x20 v4x21 v4x22))
def iReadDirs_F4 : Nat → (List ((List UInt8) × (List UInt8))) → Int → Int → Bool → Bool → Bool → Bool → Bool → Bool → Int → Int → Int → Int → Bool → Bool → Bool → Bool → Bool → Bool → Int → Int → Int → Int → (List (List UInt8)) → ((List ((List UInt8) × (List UInt8))) → Bool → Bool → Bool → Bool → Bool → Bool → Int → Int → Int → Int → Bool → Bool → Bool → Bool → Bool → Bool → Int → Int → Int → Int → Option Rs) → Option Rs
  | 0, _, _, _, _, _, _, _, _, _, _, _, _, _, _, _, _, _, _, _, _, _, _, _, _, _ => none
  | n + 1, v4x0, v4x1, v4x2, v4x3, v4x4, v4x5, v4x6, v4x7, v4x8, v4x9, v4x10, v4x11, v4x12, v4x13, v4x14, v4x15, v4x16, v4x17, v4x18, v4x19, v4x20, v4x21, v4x22, v4x23, k4e0 => iReadDirs_T4 v4x0 v4x1 v4x2 v4x3 v4x4 v4x5 v4x6 v4x7 v4x8 v4x9 v4x10 v4x11 v4x12 v4x13 v4x14 v4x15 v4x16 v4x17 v4x18 v4x19 v4x20 v4x21 v4x22 v4x23 (fun v4x0 v4x1 v4x2 v4x3 v4x4 v4x5 v4x6 v4x7 v4x8 v4x9 v4x10 v4x11 v4x12 v4x13 v4x14 v4x15 v4x16 v4x17 v4x18 v4x19 v4x20 v4x21 v4x22 v4x23 => iReadDirs_F4 n v4x0 v4x1 v4x2 v4x3 v4x4 v4x5 v4x6 v4x7 v4x8 v4x9 v4x10 v4x11 v4x12 v4x13 v4x14 v4x15 v4x16 v4x17 v4x18 v4x19 v4x20 v4x21 v4x22 v4x23 k4e0) k4e0
def iReadDirs_h4 (v4x0 : (List ((List UInt8) × (List UInt8)))) (v4x1 : Int) (v4x2 : Int) (v4x3 : Bool) (v4x4 : Bool) (v4x5 : Bool) (v4x6 : Bool) (v4x7 : Bool) (v4x8 : Bool) (v4x9 : Int) (v4x10 : Int) (v4x11 : Int) (v4x12 : Int) (v4x13 : Bool) (v4x14 : Bool) (v4x15 : Bool) (v4x16 : Bool) (v4x17 : Bool) (v4x18 : Bool) (v4x19 : Int) (v4x20 : Int) (v4x21 : Int) (v4x22 : Int) (v4x23 : (List (List UInt8))) : St := (St.mk (slots 0 113 [(0, (AV.sh (Ty.pair Ty.str Ty.str) v4x0)), (2, (AV.ptr (192 : Nat) (0 : Nat))), (3, (AV.ptr (256 : Nat) (0 : Nat))), (4, (AV.fn (45 : Nat) ([] : (List (AV))))), (16, (AV.ref (1088 : Nat) (0 : Nat))), (17, (AV.int .i64 v4x1)), (18, (AV.int .i64 v4x2))]) (((192 : Nat), (Ob.var ((AV.bool v4x3) :: ((AV.bool v4x4) :: ((AV.bool v4x5) :: ((AV.bool v4x6) :: ((AV.bool v4x7) :: ((AV.bool v4x8) :: ((AV.int .i64 v4x9) :: ((AV.int .i64 v4x10) :: ((AV.int .i64 v4x11) :: ((AV.int .i64 v4x12) :: ([] : (List (AV))))))))))))))) :: (((256 : Nat), (Ob.var ((AV.bool v4x13) :: ((AV.bool v4x14) :: ((AV.bool v4x15) :: ((AV.bool v4x16) :: ((AV.bool v4x17) :: ((AV.bool v4x18) :: ((AV.int .i64 v4x19) :: ((AV.int .i64 v4x20) :: ((AV.int .i64 v4x21) :: ((AV.int .i64 v4x22) :: ([] : (List (AV))))))))))))))) :: (((1088 : Nat), (Ob.arr Ty.str (0 : Nat) false v4x23)) :: ([] : (List (Nat × (Ob))))))))
def iReadDirs_x4e0 (x4x0x0 : (List ((List UInt8) × (List UInt8)))) (x4x0x1 : Bool) (x4x0x2 : Bool) (x4x0x3 : Bool) (x4x0x4 : Bool) (x4x0x5 : Bool) (x4x0x6 : Bool) (x4x0x7 : Int) (x4x0x8 : Int) (x4x0x9 : Int) (x4x0x10 : Int) (x4x0x11 : Bool) (x4x0x12 : Bool) (x4x0x13 : Bool) (x4x0x14 : Bool) (x4x0x15 : Bool) (x4x0x16 : Bool) (x4x0x17 : Int) (x4x0x18 : Int) (x4x0x19 : Int) (x4x0x20 : Int) : St := (St.mk (slots 0 113 [(0, (AV.sh (Ty.pair Ty.str Ty.str) x4x0x0)), (2, (AV.ptr (192 : Nat) (0 : Nat))), (3, (AV.ptr (256 : Nat) (0 : Nat)))]) (((192 : Nat), (Ob.var ((AV.bool x4x0x1) :: ((AV.bool x4x0x2) :: ((AV.bool x4x0x3) :: ((AV.bool x4x0x4) :: ((AV.bool x4x0x5) :: ((AV.bool x4x0x6) :: ((AV.int .i64 x4x0x7) :: ((AV.int .i64 x4x0x8) :: ((AV.int .i64 x4x0x9) :: ((AV.int .i64 x4x0x10) :: ([] : (List (AV))))))))))))))) :: (((256 : Nat), (Ob.var ((AV.bool x4x0x11) :: ((AV.bool x4x0x12) :: ((AV.bool x4x0x13) :: ((AV.bool x4x0x14) :: ((AV.bool x4x0x15) :: ((AV.bool x4x0x16) :: ((AV.int .i64 x4x0x17) :: ((AV.int .i64 x4x0x18) :: ((AV.int .i64 x4x0x19) :: ((AV.int .i64 x4x0x20) :: ([] : (List (AV))))))))))))))) :: ([] : (List (Nat × (Ob)))))))
noncomputable def iReadDirs_b4 : Code := codeAt (codeOf Tryz.f18) [1, 1, 1, 0, 1, 0, 0]
def iReadDirs_L4 (N : Nat) (st : St) (k : Ex → St → Option Rs) : Option Rs := match takeF [0, 2, 3, 4, 16, 17, 18] 0 113 st.env, st.objs with
  | some [.sh (Ty.pair Ty.str Ty.str) v4x0, .ptr 192 0, .ptr 256 0, .fn 45 [], .ref 1088 0, .int .i64 v4x1, .int .i64 v4x2], [(192, .var [.bool v4x3, .bool v4x4, .bool v4x5, .bool v4x6, .bool v4x7, .bool v4x8, .int .i64 v4x9, .int .i64 v4x10, .int .i64 v4x11, .int .i64 v4x12]), (256, .var [.bool v4x13, .bool v4x14, .bool v4x15, .bool v4x16, .bool v4x17, .bool v4x18, .int .i64 v4x19, .int .i64 v4x20, .int .i64 v4x21, .int .i64 v4x22]), (1088, .arr Ty.str 0 false v4x23)] => iReadDirs_F4 N v4x0 v4x1 v4x2 v4x3 v4x4 v4x5 v4x6 v4x7 v4x8 v4x9 v4x10 v4x11 v4x12 v4x13 v4x14 v4x15 v4x16 v4x17 v4x18 v4x19 v4x20 v4x21 v4x22 v4x23 (fun x4x0x0 x4x0x1 x4x0x2 x4x0x3 x4x0x4 x4x0x5 x4x0x6 x4x0x7 x4x0x8 x4x0x9 x4x0x10 x4x0x11 x4x0x12 x4x0x13 x4x0x14 x4x0x15 x4x0x16 x4x0x17 x4x0x18 x4x0x19 x4x0x20 => k (Ex.exit (0 : Nat)) (iReadDirs_x4e0 x4x0x0 x4x0x1 x4x0x2 x4x0x3 x4x0x4 x4x0x5 x4x0x6 x4x0x7 x4x0x8 x4x0x9 x4x0x10 x4x0x11 x4x0x12 x4x0x13 x4x0x14 x4x0x15 x4x0x16 x4x0x17 x4x0x18 x4x0x19 x4x0x20))
  | _, _ => none
def iReadDirs_T38 (v38x0 : Int) (v38x1 : Int) (v38x2 : Bool) (v38x3 : Bool) (v38x4 : Bool) (v38x5 : Bool) (v38x6 : Bool) (v38x7 : Bool) (v38x8 : Int) (v38x9 : Int) (v38x10 : Int) (v38x11 : Int) (v38x12 : Bool) (v38x13 : Bool) (v38x14 : Bool) (v38x15 : Bool) (v38x16 : Bool) (v38x17 : Bool) (v38x18 : Int) (v38x19 : Int) (v38x20 : Int) (v38x21 : Int) (v38x22 : (List (List UInt8))) (kR38 : Int → Int → Bool → Bool → Bool → Bool → Bool → Bool → Int → Int → Int → Int → Bool → Bool → Bool → Bool → Bool → Bool → Int → Int → Int → Int → (List (List UInt8)) → Option Rs) (k38e0 : Bool → Bool → Bool → Bool → Bool → Bool → Int → Int → Int → Int → Bool → Bool → Bool → Bool → Bool → Bool → Int → Int → Int → Int → Option Rs) : Option Rs :=
  (bif (decide (v38x1 < v38x0)) then (bif (decide ((0 : Int) ≤ v38x1)) then (bif (decide (v38x1 < ((List.length v38x22) : Int))) then (bif (isM (List.getD v38x22 (Int.toNat v38x1) ([] : (List UInt8)))) then (bif (decide ((foldP (List.getD v38x22 (Int.toNat v38x1) ([] : (List UInt8)))) = ((110 : UInt8) :: ((111 : UInt8) :: ((45 : UInt8) :: ((99 : UInt8) :: ((97 : UInt8) :: ((99 : UInt8) :: ((104 : UInt8) :: ((101 : UInt8) :: ([] : (List UInt8)))))))))))) then (kR38 v38x0 (wk64 (v38x1 + (1 : Int))) v38x2 v38x3 v38x4 v38x5 v38x6 v38x7 v38x8 v38x9 v38x10 v38x11 v38x12 true v38x14 v38x15 v38x16 v38x17 v38x18 v38x19 v38x20 v38x21 v38x22) else (kR38 v38x0 (wk64 (v38x1 + (1 : Int))) v38x2 v38x3 v38x4 v38x5 v38x6 v38x7 v38x8 v38x9 v38x10 v38x11 v38x12 v38x13 v38x14 v38x15 v38x16 v38x17 v38x18 v38x19 v38x20 v38x21 v38x22)) else (none)) else (none)) else (none)) else (k38e0 v38x2 v38x3 v38x4 v38x5 v38x6 v38x7 v38x8 v38x9 v38x10 v38x11 v38x12 v38x13 v38x14 v38x15 v38x16 v38x17 v38x18 v38x19 v38x20 v38x21))
def iReadDirs_F38 : Nat → Int → Int → Bool → Bool → Bool → Bool → Bool → Bool → Int → Int → Int → Int → Bool → Bool → Bool → Bool → Bool → Bool → Int → Int → Int → Int → (List (List UInt8)) → (Bool → Bool → Bool → Bool → Bool → Bool → Int → Int → Int → Int → Bool → Bool → Bool → Bool → Bool → Bool → Int → Int → Int → Int → Option Rs) → Option Rs
  | 0, _, _, _, _, _, _, _, _, _, _, _, _, _, _, _, _, _, _, _, _, _, _, _, _ => none
  | n + 1, v38x0, v38x1, v38x2, v38x3, v38x4, v38x5, v38x6, v38x7, v38x8, v38x9, v38x10, v38x11, v38x12, v38x13, v38x14, v38x15, v38x16, v38x17, v38x18, v38x19, v38x20, v38x21, v38x22, k38e0 => iReadDirs_T38 v38x0 v38x1 v38x2 v38x3 v38x4 v38x5 v38x6 v38x7 v38x8 v38x9 v38x10 v38x11 v38x12 v38x13 v38x14 v38x15 v38x16 v38x17 v38x18 v38x19 v38x20 v38x21 v38x22 (fun v38x0 v38x1 v38x2 v38x3 v38x4 v38x5 v38x6 v38x7 v38x8 v38x9 v38x10 v38x11 v38x12 v38x13 v38x14 v38x15 v38x16 v38x17 v38x18 v38x19 v38x20 v38x21 v38x22 => iReadDirs_F38 n v38x0 v38x1 v38x2 v38x3 v38x4 v38x5 v38x6 v38x7 v38x8 v38x9 v38x10 v38x11 v38x12 v38x13 v38x14 v38x15 v38x16 v38x17 v38x18 v38x19 v38x20 v38x21 v38x22 k38e0) k38e0
def iReadDirs_h38 (v38x0 : Int) (v38x1 : Int) (v38x2 : Bool) (v38x3 : Bool) (v38x4 : Bool) (v38x5 : Bool) (v38x6 : Bool) (v38x7 : Bool) (v38x8 : Int) (v38x9 : Int) (v38x10 : Int) (v38x11 : Int) (v38x12 : Bool) (v38x13 : Bool) (v38x14 : Bool) (v38x15 : Bool) (v38x16 : Bool) (v38x17 : Bool) (v38x18 : Int) (v38x19 : Int) (v38x20 : Int) (v38x21 : Int) (v38x22 : (List (List UInt8))) : St := (St.mk (slots 0 113 [(2, (AV.ptr (192 : Nat) (0 : Nat))), (3, (AV.ptr (256 : Nat) (0 : Nat))), (101, (AV.ref (6528 : Nat) (0 : Nat))), (102, (AV.int .i64 v38x0)), (103, (AV.int .i64 v38x1))]) (((192 : Nat), (Ob.var ((AV.bool v38x2) :: ((AV.bool v38x3) :: ((AV.bool v38x4) :: ((AV.bool v38x5) :: ((AV.bool v38x6) :: ((AV.bool v38x7) :: ((AV.int .i64 v38x8) :: ((AV.int .i64 v38x9) :: ((AV.int .i64 v38x10) :: ((AV.int .i64 v38x11) :: ([] : (List (AV))))))))))))))) :: (((256 : Nat), (Ob.var ((AV.bool v38x12) :: ((AV.bool v38x13) :: ((AV.bool v38x14) :: ((AV.bool v38x15) :: ((AV.bool v38x16) :: ((AV.bool v38x17) :: ((AV.int .i64 v38x18) :: ((AV.int .i64 v38x19) :: ((AV.int .i64 v38x20) :: ((AV.int .i64 v38x21) :: ([] : (List (AV))))))))))))))) :: (((6528 : Nat), (Ob.arr Ty.str (0 : Nat) false v38x22)) :: ([] : (List (Nat × (Ob))))))))
def iReadDirs_x38e0 (x38x0x0 : Bool) (x38x0x1 : Bool) (x38x0x2 : Bool) (x38x0x3 : Bool) (x38x0x4 : Bool) (x38x0x5 : Bool) (x38x0x6 : Int) (x38x0x7 : Int) (x38x0x8 : Int) (x38x0x9 : Int) (x38x0x10 : Bool) (x38x0x11 : Bool) (x38x0x12 : Bool) (x38x0x13 : Bool) (x38x0x14 : Bool) (x38x0x15 : Bool) (x38x0x16 : Int) (x38x0x17 : Int) (x38x0x18 : Int) (x38x0x19 : Int) : St := (St.mk (slots 0 113 [(2, (AV.ptr (192 : Nat) (0 : Nat))), (3, (AV.ptr (256 : Nat) (0 : Nat)))]) (((192 : Nat), (Ob.var ((AV.bool x38x0x0) :: ((AV.bool x38x0x1) :: ((AV.bool x38x0x2) :: ((AV.bool x38x0x3) :: ((AV.bool x38x0x4) :: ((AV.bool x38x0x5) :: ((AV.int .i64 x38x0x6) :: ((AV.int .i64 x38x0x7) :: ((AV.int .i64 x38x0x8) :: ((AV.int .i64 x38x0x9) :: ([] : (List (AV))))))))))))))) :: (((256 : Nat), (Ob.var ((AV.bool x38x0x10) :: ((AV.bool x38x0x11) :: ((AV.bool x38x0x12) :: ((AV.bool x38x0x13) :: ((AV.bool x38x0x14) :: ((AV.bool x38x0x15) :: ((AV.int .i64 x38x0x16) :: ((AV.int .i64 x38x0x17) :: ((AV.int .i64 x38x0x18) :: ((AV.int .i64 x38x0x19) :: ([] : (List (AV))))))))))))))) :: ([] : (List (Nat × (Ob)))))))
noncomputable def iReadDirs_b38 : Code := codeAt (codeOf Tryz.f18) [1, 1, 1, 1, 0, 1, 0, 1, 0, 0]
def iReadDirs_L38 (N : Nat) (st : St) (k : Ex → St → Option Rs) : Option Rs := match takeF [2, 3, 101, 102, 103] 0 113 st.env, st.objs with
  | some [.ptr 192 0, .ptr 256 0, .ref 6528 0, .int .i64 v38x0, .int .i64 v38x1], [(192, .var [.bool v38x2, .bool v38x3, .bool v38x4, .bool v38x5, .bool v38x6, .bool v38x7, .int .i64 v38x8, .int .i64 v38x9, .int .i64 v38x10, .int .i64 v38x11]), (256, .var [.bool v38x12, .bool v38x13, .bool v38x14, .bool v38x15, .bool v38x16, .bool v38x17, .int .i64 v38x18, .int .i64 v38x19, .int .i64 v38x20, .int .i64 v38x21]), (6528, .arr Ty.str 0 false v38x22)] => iReadDirs_F38 N v38x0 v38x1 v38x2 v38x3 v38x4 v38x5 v38x6 v38x7 v38x8 v38x9 v38x10 v38x11 v38x12 v38x13 v38x14 v38x15 v38x16 v38x17 v38x18 v38x19 v38x20 v38x21 v38x22 (fun x38x0x0 x38x0x1 x38x0x2 x38x0x3 x38x0x4 x38x0x5 x38x0x6 x38x0x7 x38x0x8 x38x0x9 x38x0x10 x38x0x11 x38x0x12 x38x0x13 x38x0x14 x38x0x15 x38x0x16 x38x0x17 x38x0x18 x38x0x19 => k (Ex.exit (3 : Nat)) (iReadDirs_x38e0 x38x0x0 x38x0x1 x38x0x2 x38x0x3 x38x0x4 x38x0x5 x38x0x6 x38x0x7 x38x0x8 x38x0x9 x38x0x10 x38x0x11 x38x0x12 x38x0x13 x38x0x14 x38x0x15 x38x0x16 x38x0x17 x38x0x18 x38x0x19))
  | _, _ => none
def iReadDirs_L (N : Nat) : Lam := fun j st k => match j with
  | 4 => iReadDirs_L4 N st k
  | 38 => iReadDirs_L38 N st k
  | _ => none
theorem iReadDirs_round4 (N : Nat) (again : St → Option Rs) (k : Ex → St → Option Rs) (wv4x0 : (List ((List UInt8) × (List UInt8)))) (wv4x1 : Int) (wv4x2 : Int) (wv4x3 : Bool) (wv4x4 : Bool) (wv4x5 : Bool) (wv4x6 : Bool) (wv4x7 : Bool) (wv4x8 : Bool) (wv4x9 : Int) (wv4x10 : Int) (wv4x11 : Int) (wv4x12 : Int) (wv4x13 : Bool) (wv4x14 : Bool) (wv4x15 : Bool) (wv4x16 : Bool) (wv4x17 : Bool) (wv4x18 : Bool) (wv4x19 : Int) (wv4x20 : Int) (wv4x21 : Int) (wv4x22 : Int) (wv4x23 : (List (List UInt8))) (v4x0 : (List ((List UInt8) × (List UInt8)))) (v4x1 : Int) (v4x2 : Int) (v4x3 : Bool) (v4x4 : Bool) (v4x5 : Bool) (v4x6 : Bool) (v4x7 : Bool) (v4x8 : Bool) (v4x9 : Int) (v4x10 : Int) (v4x11 : Int) (v4x12 : Int) (v4x13 : Bool) (v4x14 : Bool) (v4x15 : Bool) (v4x16 : Bool) (v4x17 : Bool) (v4x18 : Bool) (v4x19 : Int) (v4x20 : Int) (v4x21 : Int) (v4x22 : Int) (v4x23 : (List (List UInt8))) :
    roundK 0 (fun st k => evL Kx iReadDirs_C iReadDirs_O 0 (iReadDirs_L N) iReadDirs_b4 st k) (iReadDirs_h4 wv4x0 wv4x1 wv4x2 wv4x3 wv4x4 wv4x5 wv4x6 wv4x7 wv4x8 wv4x9 wv4x10 wv4x11 wv4x12 wv4x13 wv4x14 wv4x15 wv4x16 wv4x17 wv4x18 wv4x19 wv4x20 wv4x21 wv4x22 wv4x23).env again (iReadDirs_h4 v4x0 v4x1 v4x2 v4x3 v4x4 v4x5 v4x6 v4x7 v4x8 v4x9 v4x10 v4x11 v4x12 v4x13 v4x14 v4x15 v4x16 v4x17 v4x18 v4x19 v4x20 v4x21 v4x22 v4x23) (outK iReadDirs_O 0 iReadDirs_b4 k) = iReadDirs_T4 v4x0 v4x1 v4x2 v4x3 v4x4 v4x5 v4x6 v4x7 v4x8 v4x9 v4x10 v4x11 v4x12 v4x13 v4x14 v4x15 v4x16 v4x17 v4x18 v4x19 v4x20 v4x21 v4x22 v4x23 (fun v4x0 v4x1 v4x2 v4x3 v4x4 v4x5 v4x6 v4x7 v4x8 v4x9 v4x10 v4x11 v4x12 v4x13 v4x14 v4x15 v4x16 v4x17 v4x18 v4x19 v4x20 v4x21 v4x22 v4x23 => again (iReadDirs_h4 v4x0 v4x1 v4x2 v4x3 v4x4 v4x5 v4x6 v4x7 v4x8 v4x9 v4x10 v4x11 v4x12 v4x13 v4x14 v4x15 v4x16 v4x17 v4x18 v4x19 v4x20 v4x21 v4x22 v4x23)) (fun x4x0x0 x4x0x1 x4x0x2 x4x0x3 x4x0x4 x4x0x5 x4x0x6 x4x0x7 x4x0x8 x4x0x9 x4x0x10 x4x0x11 x4x0x12 x4x0x13 x4x0x14 x4x0x15 x4x0x16 x4x0x17 x4x0x18 x4x0x19 x4x0x20 => k (Ex.exit (0 : Nat)) (iReadDirs_x4e0 x4x0x0 x4x0x1 x4x0x2 x4x0x3 x4x0x4 x4x0x5 x4x0x6 x4x0x7 x4x0x8 x4x0x9 x4x0x10 x4x0x11 x4x0x12 x4x0x13 x4x0x14 x4x0x15 x4x0x16 x4x0x17 x4x0x18 x4x0x19 x4x0x20)) := by kernel_rfl
theorem iReadDirs_loop4 (N : Nat) (k : Ex → St → Option Rs) (wv4x0 : (List ((List UInt8) × (List UInt8)))) (wv4x1 : Int) (wv4x2 : Int) (wv4x3 : Bool) (wv4x4 : Bool) (wv4x5 : Bool) (wv4x6 : Bool) (wv4x7 : Bool) (wv4x8 : Bool) (wv4x9 : Int) (wv4x10 : Int) (wv4x11 : Int) (wv4x12 : Int) (wv4x13 : Bool) (wv4x14 : Bool) (wv4x15 : Bool) (wv4x16 : Bool) (wv4x17 : Bool) (wv4x18 : Bool) (wv4x19 : Int) (wv4x20 : Int) (wv4x21 : Int) (wv4x22 : Int) (wv4x23 : (List (List UInt8))) : ∀ (n : Nat) (v4x0 : (List ((List UInt8) × (List UInt8)))) (v4x1 : Int) (v4x2 : Int) (v4x3 : Bool) (v4x4 : Bool) (v4x5 : Bool) (v4x6 : Bool) (v4x7 : Bool) (v4x8 : Bool) (v4x9 : Int) (v4x10 : Int) (v4x11 : Int) (v4x12 : Int) (v4x13 : Bool) (v4x14 : Bool) (v4x15 : Bool) (v4x16 : Bool) (v4x17 : Bool) (v4x18 : Bool) (v4x19 : Int) (v4x20 : Int) (v4x21 : Int) (v4x22 : Int) (v4x23 : (List (List UInt8))),
    loopK 0 (fun st k => evL Kx iReadDirs_C iReadDirs_O 0 (iReadDirs_L N) iReadDirs_b4 st k) (iReadDirs_h4 wv4x0 wv4x1 wv4x2 wv4x3 wv4x4 wv4x5 wv4x6 wv4x7 wv4x8 wv4x9 wv4x10 wv4x11 wv4x12 wv4x13 wv4x14 wv4x15 wv4x16 wv4x17 wv4x18 wv4x19 wv4x20 wv4x21 wv4x22 wv4x23).env n (iReadDirs_h4 v4x0 v4x1 v4x2 v4x3 v4x4 v4x5 v4x6 v4x7 v4x8 v4x9 v4x10 v4x11 v4x12 v4x13 v4x14 v4x15 v4x16 v4x17 v4x18 v4x19 v4x20 v4x21 v4x22 v4x23) (outK iReadDirs_O 0 iReadDirs_b4 k) = iReadDirs_F4 n v4x0 v4x1 v4x2 v4x3 v4x4 v4x5 v4x6 v4x7 v4x8 v4x9 v4x10 v4x11 v4x12 v4x13 v4x14 v4x15 v4x16 v4x17 v4x18 v4x19 v4x20 v4x21 v4x22 v4x23 (fun x4x0x0 x4x0x1 x4x0x2 x4x0x3 x4x0x4 x4x0x5 x4x0x6 x4x0x7 x4x0x8 x4x0x9 x4x0x10 x4x0x11 x4x0x12 x4x0x13 x4x0x14 x4x0x15 x4x0x16 x4x0x17 x4x0x18 x4x0x19 x4x0x20 => k (Ex.exit (0 : Nat)) (iReadDirs_x4e0 x4x0x0 x4x0x1 x4x0x2 x4x0x3 x4x0x4 x4x0x5 x4x0x6 x4x0x7 x4x0x8 x4x0x9 x4x0x10 x4x0x11 x4x0x12 x4x0x13 x4x0x14 x4x0x15 x4x0x16 x4x0x17 x4x0x18 x4x0x19 x4x0x20))
  | 0, _, _, _, _, _, _, _, _, _, _, _, _, _, _, _, _, _, _, _, _, _, _, _, _ => rfl
  | n + 1, v4x0, v4x1, v4x2, v4x3, v4x4, v4x5, v4x6, v4x7, v4x8, v4x9, v4x10, v4x11, v4x12, v4x13, v4x14, v4x15, v4x16, v4x17, v4x18, v4x19, v4x20, v4x21, v4x22, v4x23 => by
    rw [loopK_succ, iReadDirs_round4]
    simp only [iReadDirs_loop4 N k wv4x0 wv4x1 wv4x2 wv4x3 wv4x4 wv4x5 wv4x6 wv4x7 wv4x8 wv4x9 wv4x10 wv4x11 wv4x12 wv4x13 wv4x14 wv4x15 wv4x16 wv4x17 wv4x18 wv4x19 wv4x20 wv4x21 wv4x22 wv4x23 n]
    rfl
theorem iReadDirs_at4 (N : Nat) {s : St} {k : Ex → St → Option Rs} {r : Rs} (h : iReadDirs_L4 N s k = some r) : ∃ (v4x0 : (List ((List UInt8) × (List UInt8)))) (v4x1 : Int) (v4x2 : Int) (v4x3 : Bool) (v4x4 : Bool) (v4x5 : Bool) (v4x6 : Bool) (v4x7 : Bool) (v4x8 : Bool) (v4x9 : Int) (v4x10 : Int) (v4x11 : Int) (v4x12 : Int) (v4x13 : Bool) (v4x14 : Bool) (v4x15 : Bool) (v4x16 : Bool) (v4x17 : Bool) (v4x18 : Bool) (v4x19 : Int) (v4x20 : Int) (v4x21 : Int) (v4x22 : Int) (v4x23 : (List (List UInt8))), s = (iReadDirs_h4 v4x0 v4x1 v4x2 v4x3 v4x4 v4x5 v4x6 v4x7 v4x8 v4x9 v4x10 v4x11 v4x12 v4x13 v4x14 v4x15 v4x16 v4x17 v4x18 v4x19 v4x20 v4x21 v4x22 v4x23) ∧ iReadDirs_F4 N v4x0 v4x1 v4x2 v4x3 v4x4 v4x5 v4x6 v4x7 v4x8 v4x9 v4x10 v4x11 v4x12 v4x13 v4x14 v4x15 v4x16 v4x17 v4x18 v4x19 v4x20 v4x21 v4x22 v4x23 (fun x4x0x0 x4x0x1 x4x0x2 x4x0x3 x4x0x4 x4x0x5 x4x0x6 x4x0x7 x4x0x8 x4x0x9 x4x0x10 x4x0x11 x4x0x12 x4x0x13 x4x0x14 x4x0x15 x4x0x16 x4x0x17 x4x0x18 x4x0x19 x4x0x20 => k (Ex.exit (0 : Nat)) (iReadDirs_x4e0 x4x0x0 x4x0x1 x4x0x2 x4x0x3 x4x0x4 x4x0x5 x4x0x6 x4x0x7 x4x0x8 x4x0x9 x4x0x10 x4x0x11 x4x0x12 x4x0x13 x4x0x14 x4x0x15 x4x0x16 x4x0x17 x4x0x18 x4x0x19 x4x0x20)) = some r := by
  cases s with | mk env objs =>
  unfold iReadDirs_L4 at h
  split at h
  · rename_i e1 e2
    have e3 := takeF_slots _ _ _ _ e1
    simp only at e2 e3
    subst e2 e3
    exact ⟨_, _, _, _, _, _, _, _, _, _, _, _, _, _, _, _, _, _, _, _, _, _, _, _, rfl, h⟩
  · cases h
theorem iReadDirs_in4 : loops iReadDirs_b4 = [] := by kernel_rfl
theorem iReadDirs_lid4 : lid iReadDirs_b4 = 4 := by kernel_rfl
theorem iReadDirs_ok4 (N : Nat) : OkL Kx iReadDirs_C iReadDirs_O 0 N (iReadDirs_L N) iReadDirs_b4 := by
  intro s k k' r hk h
  rw [iReadDirs_lid4] at h
  obtain ⟨v4x0, v4x1, v4x2, v4x3, v4x4, v4x5, v4x6, v4x7, v4x8, v4x9, v4x10, v4x11, v4x12, v4x13, v4x14, v4x15, v4x16, v4x17, v4x18, v4x19, v4x20, v4x21, v4x22, v4x23, rfl, h⟩ := iReadDirs_at4 N h
  refine loopL (Λ := iReadDirs_L N) iReadDirs_b4 ?_ N hk ((iReadDirs_loop4 N k v4x0 v4x1 v4x2 v4x3 v4x4 v4x5 v4x6 v4x7 v4x8 v4x9 v4x10 v4x11 v4x12 v4x13 v4x14 v4x15 v4x16 v4x17 v4x18 v4x19 v4x20 v4x21 v4x22 v4x23 N v4x0 v4x1 v4x2 v4x3 v4x4 v4x5 v4x6 v4x7 v4x8 v4x9 v4x10 v4x11 v4x12 v4x13 v4x14 v4x15 v4x16 v4x17 v4x18 v4x19 v4x20 v4x21 v4x22 v4x23).trans h)
  rw [iReadDirs_in4]
  exact fun _ h => nomatch h
theorem iReadDirs_round38 (N : Nat) (again : St → Option Rs) (k : Ex → St → Option Rs) (wv38x0 : Int) (wv38x1 : Int) (wv38x2 : Bool) (wv38x3 : Bool) (wv38x4 : Bool) (wv38x5 : Bool) (wv38x6 : Bool) (wv38x7 : Bool) (wv38x8 : Int) (wv38x9 : Int) (wv38x10 : Int) (wv38x11 : Int) (wv38x12 : Bool) (wv38x13 : Bool) (wv38x14 : Bool) (wv38x15 : Bool) (wv38x16 : Bool) (wv38x17 : Bool) (wv38x18 : Int) (wv38x19 : Int) (wv38x20 : Int) (wv38x21 : Int) (wv38x22 : (List (List UInt8))) (v38x0 : Int) (v38x1 : Int) (v38x2 : Bool) (v38x3 : Bool) (v38x4 : Bool) (v38x5 : Bool) (v38x6 : Bool) (v38x7 : Bool) (v38x8 : Int) (v38x9 : Int) (v38x10 : Int) (v38x11 : Int) (v38x12 : Bool) (v38x13 : Bool) (v38x14 : Bool) (v38x15 : Bool) (v38x16 : Bool) (v38x17 : Bool) (v38x18 : Int) (v38x19 : Int) (v38x20 : Int) (v38x21 : Int) (v38x22 : (List (List UInt8))) :
    roundK 0 (fun st k => evL Kx iReadDirs_C iReadDirs_O 0 (iReadDirs_L N) iReadDirs_b38 st k) (iReadDirs_h38 wv38x0 wv38x1 wv38x2 wv38x3 wv38x4 wv38x5 wv38x6 wv38x7 wv38x8 wv38x9 wv38x10 wv38x11 wv38x12 wv38x13 wv38x14 wv38x15 wv38x16 wv38x17 wv38x18 wv38x19 wv38x20 wv38x21 wv38x22).env again (iReadDirs_h38 v38x0 v38x1 v38x2 v38x3 v38x4 v38x5 v38x6 v38x7 v38x8 v38x9 v38x10 v38x11 v38x12 v38x13 v38x14 v38x15 v38x16 v38x17 v38x18 v38x19 v38x20 v38x21 v38x22) (outK iReadDirs_O 0 iReadDirs_b38 k) = iReadDirs_T38 v38x0 v38x1 v38x2 v38x3 v38x4 v38x5 v38x6 v38x7 v38x8 v38x9 v38x10 v38x11 v38x12 v38x13 v38x14 v38x15 v38x16 v38x17 v38x18 v38x19 v38x20 v38x21 v38x22 (fun v38x0 v38x1 v38x2 v38x3 v38x4 v38x5 v38x6 v38x7 v38x8 v38x9 v38x10 v38x11 v38x12 v38x13 v38x14 v38x15 v38x16 v38x17 v38x18 v38x19 v38x20 v38x21 v38x22 => again (iReadDirs_h38 v38x0 v38x1 v38x2 v38x3 v38x4 v38x5 v38x6 v38x7 v38x8 v38x9 v38x10 v38x11 v38x12 v38x13 v38x14 v38x15 v38x16 v38x17 v38x18 v38x19 v38x20 v38x21 v38x22)) (fun x38x0x0 x38x0x1 x38x0x2 x38x0x3 x38x0x4 x38x0x5 x38x0x6 x38x0x7 x38x0x8 x38x0x9 x38x0x10 x38x0x11 x38x0x12 x38x0x13 x38x0x14 x38x0x15 x38x0x16 x38x0x17 x38x0x18 x38x0x19 => k (Ex.exit (3 : Nat)) (iReadDirs_x38e0 x38x0x0 x38x0x1 x38x0x2 x38x0x3 x38x0x4 x38x0x5 x38x0x6 x38x0x7 x38x0x8 x38x0x9 x38x0x10 x38x0x11 x38x0x12 x38x0x13 x38x0x14 x38x0x15 x38x0x16 x38x0x17 x38x0x18 x38x0x19)) := by kernel_rfl
theorem iReadDirs_loop38 (N : Nat) (k : Ex → St → Option Rs) (wv38x0 : Int) (wv38x1 : Int) (wv38x2 : Bool) (wv38x3 : Bool) (wv38x4 : Bool) (wv38x5 : Bool) (wv38x6 : Bool) (wv38x7 : Bool) (wv38x8 : Int) (wv38x9 : Int) (wv38x10 : Int) (wv38x11 : Int) (wv38x12 : Bool) (wv38x13 : Bool) (wv38x14 : Bool) (wv38x15 : Bool) (wv38x16 : Bool) (wv38x17 : Bool) (wv38x18 : Int) (wv38x19 : Int) (wv38x20 : Int) (wv38x21 : Int) (wv38x22 : (List (List UInt8))) : ∀ (n : Nat) (v38x0 : Int) (v38x1 : Int) (v38x2 : Bool) (v38x3 : Bool) (v38x4 : Bool) (v38x5 : Bool) (v38x6 : Bool) (v38x7 : Bool) (v38x8 : Int) (v38x9 : Int) (v38x10 : Int) (v38x11 : Int) (v38x12 : Bool) (v38x13 : Bool) (v38x14 : Bool) (v38x15 : Bool) (v38x16 : Bool) (v38x17 : Bool) (v38x18 : Int) (v38x19 : Int) (v38x20 : Int) (v38x21 : Int) (v38x22 : (List (List UInt8))),
    loopK 0 (fun st k => evL Kx iReadDirs_C iReadDirs_O 0 (iReadDirs_L N) iReadDirs_b38 st k) (iReadDirs_h38 wv38x0 wv38x1 wv38x2 wv38x3 wv38x4 wv38x5 wv38x6 wv38x7 wv38x8 wv38x9 wv38x10 wv38x11 wv38x12 wv38x13 wv38x14 wv38x15 wv38x16 wv38x17 wv38x18 wv38x19 wv38x20 wv38x21 wv38x22).env n (iReadDirs_h38 v38x0 v38x1 v38x2 v38x3 v38x4 v38x5 v38x6 v38x7 v38x8 v38x9 v38x10 v38x11 v38x12 v38x13 v38x14 v38x15 v38x16 v38x17 v38x18 v38x19 v38x20 v38x21 v38x22) (outK iReadDirs_O 0 iReadDirs_b38 k) = iReadDirs_F38 n v38x0 v38x1 v38x2 v38x3 v38x4 v38x5 v38x6 v38x7 v38x8 v38x9 v38x10 v38x11 v38x12 v38x13 v38x14 v38x15 v38x16 v38x17 v38x18 v38x19 v38x20 v38x21 v38x22 (fun x38x0x0 x38x0x1 x38x0x2 x38x0x3 x38x0x4 x38x0x5 x38x0x6 x38x0x7 x38x0x8 x38x0x9 x38x0x10 x38x0x11 x38x0x12 x38x0x13 x38x0x14 x38x0x15 x38x0x16 x38x0x17 x38x0x18 x38x0x19 => k (Ex.exit (3 : Nat)) (iReadDirs_x38e0 x38x0x0 x38x0x1 x38x0x2 x38x0x3 x38x0x4 x38x0x5 x38x0x6 x38x0x7 x38x0x8 x38x0x9 x38x0x10 x38x0x11 x38x0x12 x38x0x13 x38x0x14 x38x0x15 x38x0x16 x38x0x17 x38x0x18 x38x0x19))
  | 0, _, _, _, _, _, _, _, _, _, _, _, _, _, _, _, _, _, _, _, _, _, _, _ => rfl
  | n + 1, v38x0, v38x1, v38x2, v38x3, v38x4, v38x5, v38x6, v38x7, v38x8, v38x9, v38x10, v38x11, v38x12, v38x13, v38x14, v38x15, v38x16, v38x17, v38x18, v38x19, v38x20, v38x21, v38x22 => by
    rw [loopK_succ, iReadDirs_round38]
    simp only [iReadDirs_loop38 N k wv38x0 wv38x1 wv38x2 wv38x3 wv38x4 wv38x5 wv38x6 wv38x7 wv38x8 wv38x9 wv38x10 wv38x11 wv38x12 wv38x13 wv38x14 wv38x15 wv38x16 wv38x17 wv38x18 wv38x19 wv38x20 wv38x21 wv38x22 n]
    rfl
theorem iReadDirs_at38 (N : Nat) {s : St} {k : Ex → St → Option Rs} {r : Rs} (h : iReadDirs_L38 N s k = some r) : ∃ (v38x0 : Int) (v38x1 : Int) (v38x2 : Bool) (v38x3 : Bool) (v38x4 : Bool) (v38x5 : Bool) (v38x6 : Bool) (v38x7 : Bool) (v38x8 : Int) (v38x9 : Int) (v38x10 : Int) (v38x11 : Int) (v38x12 : Bool) (v38x13 : Bool) (v38x14 : Bool) (v38x15 : Bool) (v38x16 : Bool) (v38x17 : Bool) (v38x18 : Int) (v38x19 : Int) (v38x20 : Int) (v38x21 : Int) (v38x22 : (List (List UInt8))), s = (iReadDirs_h38 v38x0 v38x1 v38x2 v38x3 v38x4 v38x5 v38x6 v38x7 v38x8 v38x9 v38x10 v38x11 v38x12 v38x13 v38x14 v38x15 v38x16 v38x17 v38x18 v38x19 v38x20 v38x21 v38x22) ∧ iReadDirs_F38 N v38x0 v38x1 v38x2 v38x3 v38x4 v38x5 v38x6 v38x7 v38x8 v38x9 v38x10 v38x11 v38x12 v38x13 v38x14 v38x15 v38x16 v38x17 v38x18 v38x19 v38x20 v38x21 v38x22 (fun x38x0x0 x38x0x1 x38x0x2 x38x0x3 x38x0x4 x38x0x5 x38x0x6 x38x0x7 x38x0x8 x38x0x9 x38x0x10 x38x0x11 x38x0x12 x38x0x13 x38x0x14 x38x0x15 x38x0x16 x38x0x17 x38x0x18 x38x0x19 => k (Ex.exit (3 : Nat)) (iReadDirs_x38e0 x38x0x0 x38x0x1 x38x0x2 x38x0x3 x38x0x4 x38x0x5 x38x0x6 x38x0x7 x38x0x8 x38x0x9 x38x0x10 x38x0x11 x38x0x12 x38x0x13 x38x0x14 x38x0x15 x38x0x16 x38x0x17 x38x0x18 x38x0x19)) = some r := by
  cases s with | mk env objs =>
  unfold iReadDirs_L38 at h
  split at h
  · rename_i e1 e2
    have e3 := takeF_slots _ _ _ _ e1
    simp only at e2 e3
    subst e2 e3
    exact ⟨_, _, _, _, _, _, _, _, _, _, _, _, _, _, _, _, _, _, _, _, _, _, _, rfl, h⟩
  · cases h
theorem iReadDirs_in38 : loops iReadDirs_b38 = [] := by kernel_rfl
theorem iReadDirs_lid38 : lid iReadDirs_b38 = 38 := by kernel_rfl
theorem iReadDirs_ok38 (N : Nat) : OkL Kx iReadDirs_C iReadDirs_O 0 N (iReadDirs_L N) iReadDirs_b38 := by
  intro s k k' r hk h
  rw [iReadDirs_lid38] at h
  obtain ⟨v38x0, v38x1, v38x2, v38x3, v38x4, v38x5, v38x6, v38x7, v38x8, v38x9, v38x10, v38x11, v38x12, v38x13, v38x14, v38x15, v38x16, v38x17, v38x18, v38x19, v38x20, v38x21, v38x22, rfl, h⟩ := iReadDirs_at38 N h
  refine loopL (Λ := iReadDirs_L N) iReadDirs_b38 ?_ N hk ((iReadDirs_loop38 N k v38x0 v38x1 v38x2 v38x3 v38x4 v38x5 v38x6 v38x7 v38x8 v38x9 v38x10 v38x11 v38x12 v38x13 v38x14 v38x15 v38x16 v38x17 v38x18 v38x19 v38x20 v38x21 v38x22 N v38x0 v38x1 v38x2 v38x3 v38x4 v38x5 v38x6 v38x7 v38x8 v38x9 v38x10 v38x11 v38x12 v38x13 v38x14 v38x15 v38x16 v38x17 v38x18 v38x19 v38x20 v38x21 v38x22).trans h)
  rw [iReadDirs_in38]
  exact fun _ h => nomatch h
def iReadDirs_run (N : Nat) (l : List Fd) : Option Rs := (iReadDirs_F4 N l ((List.length (wordsP l ((99 : UInt8) :: ((97 : UInt8) :: ((99 : UInt8) :: ((104 : UInt8) :: ((101 : UInt8) :: ((45 : UInt8) :: ((99 : UInt8) :: ((111 : UInt8) :: ((110 : UInt8) :: ((116 : UInt8) :: ((114 : UInt8) :: ((111 : UInt8) :: ((108 : UInt8) :: ([] : (List UInt8))))))))))))))))) : Int) (0 : Int) false false false false false false (0 : Int) (0 : Int) (0 : Int) (0 : Int) false false false false false false (-(1 : Int)) (-(1 : Int)) (-(1 : Int)) (-(1 : Int)) (wordsP l ((99 : UInt8) :: ((97 : UInt8) :: ((99 : UInt8) :: ((104 : UInt8) :: ((101 : UInt8) :: ((45 : UInt8) :: ((99 : UInt8) :: ((111 : UInt8) :: ((110 : UInt8) :: ((116 : UInt8) :: ((114 : UInt8) :: ((111 : UInt8) :: ((108 : UInt8) :: ([] : (List UInt8)))))))))))))))) (fun x4x0x0 => (fun x4x0x1 => (fun x4x0x2 => (fun x4x0x3 => (fun x4x0x4 => (fun x4x0x5 => (fun x4x0x6 => (fun x4x0x7 => (fun x4x0x8 => (fun x4x0x9 => (fun x4x0x10 => (fun x4x0x11 => (fun x4x0x12 => (fun x4x0x13 => (fun x4x0x14 => (fun x4x0x15 => (fun x4x0x16 => (fun x4x0x17 => (fun x4x0x18 => (fun x4x0x19 => (fun x4x0x20 => (bif (fdsOk x4x0x0) then (bif (!(hasP x4x0x0 ((99 : UInt8) :: ((97 : UInt8) :: ((99 : UInt8) :: ((104 : UInt8) :: ((101 : UInt8) :: ((45 : UInt8) :: ((99 : UInt8) :: ((111 : UInt8) :: ((110 : UInt8) :: ((116 : UInt8) :: ((114 : UInt8) :: ((111 : UInt8) :: ((108 : UInt8) :: ([] : (List UInt8))))))))))))))))) then (iReadDirs_F38 N ((List.length (wordsP x4x0x0 ((112 : UInt8) :: ((114 : UInt8) :: ((97 : UInt8) :: ((103 : UInt8) :: ((109 : UInt8) :: ((97 : UInt8) :: ([] : (List UInt8)))))))))) : Int) (0 : Int) x4x0x1 x4x0x2 x4x0x3 x4x0x4 x4x0x5 x4x0x6 x4x0x7 x4x0x8 x4x0x9 x4x0x10 x4x0x11 x4x0x12 x4x0x13 x4x0x14 x4x0x15 x4x0x16 x4x0x17 x4x0x18 x4x0x19 x4x0x20 (wordsP x4x0x0 ((112 : UInt8) :: ((114 : UInt8) :: ((97 : UInt8) :: ((103 : UInt8) :: ((109 : UInt8) :: ((97 : UInt8) :: ([] : (List UInt8))))))))) (fun x38x0x0 => (fun x38x0x1 => (fun x38x0x2 => (fun x38x0x3 => (fun x38x0x4 => (fun x38x0x5 => (fun x38x0x6 => (fun x38x0x7 => (fun x38x0x8 => (fun x38x0x9 => (fun x38x0x10 => (fun x38x0x11 => (fun x38x0x12 => (fun x38x0x13 => (fun x38x0x14 => (fun x38x0x15 => (fun x38x0x16 => (fun x38x0x17 => (fun x38x0x18 => (fun x38x0x19 => (some ((AV.agg ((AV.bool x38x0x10) :: ((AV.bool x38x0x11) :: ((AV.bool x38x0x12) :: ((AV.bool x38x0x13) :: ((AV.bool x38x0x14) :: ((AV.bool x38x0x15) :: ((AV.int .i64 x38x0x16) :: ((AV.int .i64 x38x0x17) :: ((AV.int .i64 x38x0x18) :: ((AV.int .i64 x38x0x19) :: ([] : (List (AV)))))))))))))), ([] : (List (Ob)))))))))))))))))))))))))) else (some ((AV.agg ((AV.bool x4x0x11) :: ((AV.bool x4x0x12) :: ((AV.bool x4x0x13) :: ((AV.bool x4x0x14) :: ((AV.bool x4x0x15) :: ((AV.bool x4x0x16) :: ((AV.int .i64 x4x0x17) :: ((AV.int .i64 x4x0x18) :: ((AV.int .i64 x4x0x19) :: ((AV.int .i64 x4x0x20) :: ([] : (List (AV)))))))))))))), ([] : (List (Ob)))))) else (some ((AV.agg ((AV.bool x4x0x11) :: ((AV.bool x4x0x12) :: ((AV.bool x4x0x13) :: ((AV.bool x4x0x14) :: ((AV.bool x4x0x15) :: ((AV.bool x4x0x16) :: ((AV.int .i64 x4x0x17) :: ((AV.int .i64 x4x0x18) :: ((AV.int .i64 x4x0x19) :: ((AV.int .i64 x4x0x20) :: ([] : (List (AV)))))))))))))), ([] : (List (Ob))))))))))))))))))))))))))))
theorem iReadDirs_runL (N : Nat) (l : List Fd) : runL Kx iReadDirs_C iReadDirs_O (iReadDirs_L N) Tryz.f18 ([.sh (.pair .str .str) l]) ([]) = iReadDirs_run N l := by kernel_rfl
theorem iReadDirs_body : Tryz.f18.body = some (codeOf Tryz.f18) := by kernel_rfl
theorem iReadDirs_loops : loops (codeOf Tryz.f18) = [iReadDirs_b4, iReadDirs_b38] := by kernel_rfl
theorem iReadDirs_ev (N : Nat) (l : List Fd) {res_ : Rs} (hyp_ : iReadDirs_run N l = some res_) : ∃ n_, runF Kx iReadDirs_C iReadDirs_O n_ Tryz.f18 ([.sh (.pair .str .str) l]) ([]) = some res_ :=
  ⟨N, runL_runF iReadDirs_body (by rw [iReadDirs_loops]; exact List.forall_mem_cons.2 ⟨iReadDirs_ok4 N, List.forall_mem_cons.2 ⟨iReadDirs_ok38 N, fun _ h => nomatch h⟩⟩) ((iReadDirs_runL N l).trans hyp_)⟩
def iReadDirs_sOf (φ : (List Fd) → Br) : List AV → List Ob → Br
  | [.sh (.pair .str .str) l], [] => φ l
  | _, _ => .fail
theorem iReadDirs_okOf {φ : (List Fd) → Br} (fu : (List Fd) → Nat) (hv : ∀ l res_, (φ l).val = some res_ → iReadDirs_run (fu l) l = some res_) : Sound Kx 18 (iReadDirs_sOf φ) := by
  refine sound_run (C := iReadDirs_C) (O := iReadDirs_O) KOk iReadDirs_C_ok Tryz.func18 (by kernel_rfl) fun args objs res os h => ?_
  unfold iReadDirs_sOf at h
  split at h
  · exact iReadDirs_ev _ _ (hv _ _ h)
  · cases h

end
end Go.Proofs.YtdlpacieajdgoaaGreatDoor.Ev

namespace Go.Proofs.YtdlpacieajdgoaaGreatDoor.Ev
open Go Go.RowKit
set_option linter.unusedVariables false
set_option linter.unusedSimpArgs false
noncomputable section

/-- Directives: no-store, no-cache, private, public, must-revalidate, only-if-cached; max-age, s-maxage, max-stale, min-fresh. -/
structure Dr where
  ns : Bool
  nc : Bool
  pr : Bool
  pu : Bool
  mr : Bool
  oc : Bool
  ma : Int
  sm : Int
  ms : Int
  mf : Int
def kNs : Bytes := [110, 111, 45, 115, 116, 111, 114, 101]
def kNc : Bytes := [110, 111, 45, 99, 97, 99, 104, 101]
def kPr : Bytes := [112, 114, 105, 118, 97, 116, 101]
def kPu : Bytes := [112, 117, 98, 108, 105, 99]
def kOc : Bytes := [111, 110, 108, 121, 45, 105, 102, 45, 99, 97, 99, 104, 101, 100]
def kMr : Bytes := [109, 117, 115, 116, 45, 114, 101, 118, 97, 108, 105, 100, 97, 116, 101]
def kPx : Bytes := [112, 114, 111, 120, 121, 45, 114, 101, 118, 97, 108, 105, 100, 97, 116, 101]
def kMa : Bytes := [109, 97, 120, 45, 97, 103, 101]
def kSm : Bytes := [115, 45, 109, 97, 120, 97, 103, 101]
def kMs : Bytes := [109, 97, 120, 45, 115, 116, 97, 108, 101]
def kMf : Bytes := [109, 105, 110, 45, 102, 114, 101, 115, 104]
def stepD (d : Dr) (w : Bytes) : Dr :=
  bif decide ((partP w).1 = kNs) then { d with ns := true } else bif decide ((partP w).1 = kNc) then { d with nc := true } else bif decide ((partP w).1 = kPr) then { d with pr := true }
  else bif decide ((partP w).1 = kPu) then { d with pu := true } else bif decide ((partP w).1 = kOc) then { d with oc := true } else bif decide ((partP w).1 = kMr) then { d with mr := true }
  else bif decide ((partP w).1 = kPx) then { d with mr := true } else bif decide ((partP w).1 = kMa) then { d with ma := set1 d.ma (orP (partP w).2 0) } else bif decide ((partP w).1 = kSm) then { d with sm := set1 d.sm (orP (partP w).2 0) }
  else bif decide ((partP w).1 = kMs) then (bif decide ((partP w).2 = []) then { d with ms := set1 d.ms 2147483648 } else { d with ms := set1 d.ms (orP (partP w).2 0) })
  else bif decide ((partP w).1 = kMf) then { d with mf := set1 d.mf (orP (partP w).2 2147483648) } else d
theorem by61 : by8 61 = 61 := rfl
theorem unq_len (v : Bytes) (h : v.length ≤ 4000) : (valP v).length ≤ 4000 := by
  unfold valP unqP
  cases decide ((v.length : Int) < 2)
  · cases decide (strAt v 0 = 34)
    · exact h
    · cases decide (strAt v ((v.length : Int) - 1) = 34)
      · exact h
      · simp only [cond_false, Bool.not_true]
        cases hu : unqL (Ev.cut v 1 ((v.length : Int) - 1)) with
        | none => exact h
        | some t =>
          have h1 := unqL_len _ _ t (Nat.le_refl _) hu
          have h2 := cut_len v 1 ((v.length : Int) - 1)
          show t.length ≤ 4000
          omega
  · exact h
theorem iReadDirs_loop (l : List Fd) (t1 t2 t3 t4 t5 t6 : Bool) (n1 n2 n3 n4 : Int) (ws : List Bytes) (hl : ws.length ≤ 100000) (k : List Fd → Bool → Bool → Bool → Bool → Bool → Bool → Int → Int → Int → Int → Bool → Bool → Bool → Bool → Bool → Bool → Int → Int → Int → Int → Option Rs) (K : Dr → Option Rs)
    (hk : ∀ a b c d e f g h i j, k l t1 t2 t3 t4 t5 t6 n1 n2 n3 n4 a b c d e f g h i j = K ⟨a, b, c, d, e, f, g, h, i, j⟩) : ∀ (r : List Bytes) (i : Int) (n : Nat) (a b c d e f : Bool) (g h u v : Int), At ws i r → r.length < n → (∀ x ∈ r, x.length ≤ 4000) →
    iReadDirs_F4 n l (ws.length : Int) i t1 t2 t3 t4 t5 t6 n1 n2 n3 n4 a b c d e f g h u v ws k = K (r.foldl stepD ⟨a, b, c, d, e, f, g, h, u, v⟩) := by
  intro r; induction r with
  | nil => intro i n a b c d e f g h u v hat hn hf; obtain ⟨n, rfl⟩ := fuel hn; unfold iReadDirs_F4 iReadDirs_T4; simp only [hat.dge, cond_false, hk]; rfl
  | cons w r ih =>
    intro i n a b c d e f g h u v hat hn hf; obtain ⟨n, rfl⟩ := fuel hn
    have hw := hf w (List.mem_cons_self ..)
    simp only [List.length_cons] at hn
    have hG := fun a b c d e f g h u v => ih (i + 1) n a b c d e f g h u v hat.step (by omega) fun x hx => hf x (List.mem_cons_of_mem _ hx)
    have hu := upto_len w 61
    have ht := trimP_len (uptoP w 61)
    have hd : (w.drop ((uptoP w 61).length + 1)).length ≤ 4000 := by rw [List.length_drop]; omega
    have hdt := trimP_len (w.drop ((uptoP w 61).length + 1))
    have hv := unq_len (trimP (w.drop ((uptoP w 61).length + 1))) (by omega)
    have m1 : isM (w.drop ((uptoP w 61).length + 1)) = true := isM_of hd
    have m2 : isM (uptoP w 61) = true := isM_of (n := 4000) (by omega)
    have m3 : isM (trimP (uptoP w 61)) = true := isM_of (n := 4000) (by omega)
    have m4 : decide ((trimP (w.drop ((uptoP w 61).length + 1))).length ≤ 4000) = true := dle' (by omega)
    have m5 : decide (w.length ≤ 1000000) = true := dle' (by omega)
    unfold iReadDirs_F4 iReadDirs_T4
    simp only [hat.dlt, hat.dnn, hat.get, hat.next (by omega), cut_upto, by61, m1, m2, m3, m4, m5, hG, cond_true]
    rw [List.foldl_cons]
    generalize hX : (fun x => K (List.foldl stepD x r)) = G
    have hX' : ∀ x, K (List.foldl stepD x r) = G x := fun x => by rw [← hX]
    simp only [hX']
    have hc : ∀ (b : Bool) x y, G (bif b then x else y) = bif b then G x else G y := fun b x y => by cases b <;> rfl
    unfold stepD partP valP at *
    simp only [hc]
    cases hq : (unqP (trimP (List.drop ((uptoP w 61).length + 1) w))).2
    · rw [hq, cond_false] at hv
      simp only [cond_false, isM_of hv, m4, cond_true]
      rfl
    · rw [hq, cond_true] at hv
      simp only [cond_true, isM_of hv]
      rfl
theorem iReadDirs_loop2 (t1 t2 t3 t4 t5 t6 : Bool) (n1 n2 n3 n4 : Int) (ws : List Bytes) (hl : ws.length ≤ 100000) (k : Bool → Bool → Bool → Bool → Bool → Bool → Int → Int → Int → Int → Bool → Bool → Bool → Bool → Bool → Bool → Int → Int → Int → Int → Option Rs) (K : Dr → Option Rs)
    (hk : ∀ a b c d e f g h i j, k t1 t2 t3 t4 t5 t6 n1 n2 n3 n4 a b c d e f g h i j = K ⟨a, b, c, d, e, f, g, h, i, j⟩) : ∀ (r : List Bytes) (i : Int) (n : Nat) (a b c d e f : Bool) (g h u v : Int), At ws i r → r.length < n → (∀ x ∈ r, isM x = true) →
    iReadDirs_F38 n (ws.length : Int) i t1 t2 t3 t4 t5 t6 n1 n2 n3 n4 a b c d e f g h u v ws k = K ⟨a, b || r.any fun x => decide (foldP x = kNc), c, d, e, f, g, h, u, v⟩ := by
  intro r; induction r with
  | nil => intro i n a b c d e f g h u v hat hn hf; obtain ⟨n, rfl⟩ := fuel hn; unfold iReadDirs_F38 iReadDirs_T38; simp only [hat.dge, cond_false, hk, List.any_nil, Bool.or_false]
  | cons w r ih =>
    intro i n a b c d e f g h u v hat hn hf; obtain ⟨n, rfl⟩ := fuel hn
    simp only [List.length_cons] at hn
    have hG := fun b => ih (i + 1) n a b c d e f g h u v hat.step (by omega) fun x hx => hf x (List.mem_cons_of_mem _ hx)
    unfold iReadDirs_F38 iReadDirs_T38
    simp only [hat.dlt, hat.dnn, hat.get, hat.next (by omega), hf w (List.mem_cons_self ..), hG, cond_true, List.any_cons]
    show (bif decide (foldP w = kNc) then _ else _) = _
    cases decide (foldP w = kNc)
    · rw [cond_false, Bool.false_or]
    · rw [cond_true]; simp only [Bool.true_or, Bool.or_true]
def d0 : Dr := ⟨false, false, false, false, false, false, -1, -1, -1, -1⟩
def nCc : Bytes := [99, 97, 99, 104, 101, 45, 99, 111, 110, 116, 114, 111, 108]
def nPg : Bytes := [112, 114, 97, 103, 109, 97]
/-- The directives of some fields. -/
def dirsP (l : List Fd) : Dr :=
  let d := (wordsP l nCc).foldl stepD d0
  bif fdsOk l && !hasP l nCc then { d with nc := d.nc || (wordsP l nPg).any fun x => decide (foldP x = kNc) } else d
def drA (d : Dr) : AV := .agg [.bool d.ns, .bool d.nc, .bool d.pr, .bool d.pu, .bool d.mr, .bool d.oc, .int .i64 d.ma, .int .i64 d.sm, .int .i64 d.ms, .int .i64 d.mf]
theorem words_4000 (l : List Fd) (name : Bytes) : ∀ x ∈ wordsP l name, x.length ≤ 4000 := (elem_bd _).2
theorem iReadDirs_okQ : Sound Kx 18 (fl_s fun l => drA (dirsP l)) := by
  refine (iReadDirs_okOf (φ := fun l => .ret (drA (dirsP l)) []) (fun l => (wordsP l nCc).length + (wordsP l nPg).length + 1) fun l r h => ?_).of fun args objs r h => ?_
  · cases h
    obtain ⟨h1, _⟩ := words_bd l nCc
    obtain ⟨h2, h3⟩ := words_bd l nPg
    unfold iReadDirs_run
    refine (iReadDirs_loop l _ _ _ _ _ _ _ _ _ _ (wordsP l nCc) (by omega) _ (fun d => bif fdsOk l then (bif !(hasP l nCc) then some (drA { d with nc := d.nc || (wordsP l nPg).any fun x => decide (foldP x = kNc) }, []) else some (drA d, [])) else some (drA d, [])) ?_ (wordsP l nCc) 0 _ _ _ _ _ _ _ _ _ _ _ (At.start _) (by omega) (words_4000 l nCc)).trans ?_
    · intro a b c d e f g h i j
      cases fdsOk l
      · rfl
      · cases hh : hasP l nCc
        · have hh' : hasP l [99, 97, 99, 104, 101, 45, 99, 111, 110, 116, 114, 111, 108] = false := hh
          simp only [cond_true, hh', Bool.not_false]
          exact iReadDirs_loop2 _ _ _ _ _ _ _ _ _ _ (wordsP l nPg) (by omega) _ (fun d => some (drA d, [])) (fun _ _ _ _ _ _ _ _ _ _ => rfl) (wordsP l nPg) 0 _ _ _ _ _ _ _ _ _ _ _ (At.start _) (by omega) h3
        · have hh' : hasP l [99, 97, 99, 104, 101, 45, 99, 111, 110, 116, 114, 111, 108] = true := hh
          simp only [cond_true, hh', Bool.not_true, cond_false]
          rfl
    · unfold dirsP
      cases fdsOk l <;> cases hasP l nCc <;> rfl
  · unfold fl_s at h; split at h
    · exact h
    · cases h
end
end Go.Proofs.YtdlpacieajdgoaaGreatDoor.Ev

namespace Go.Proofs.YtdlpacieajdgoaaGreatDoor.Ev
open Go Go.RowKit
set_option linter.unusedVariables false
set_option linter.unusedSimpArgs false
noncomputable section
def fndP : List Bytes → Bytes → Bytes × Bool
  | [], _ => ([], false)
  | w :: r, n => bif decide ((partP w).1 = n) then ((partP w).2, true) else fndP r n
theorem fnd_cons (w : Bytes) (r : List Bytes) (n : Bytes) : fndP (w :: r) n = bif decide ((partP w).1 = n) then ((partP w).2, true) else fndP r n := rfl
def wsOk (ws : List Bytes) : Bool := decide (ws.length ≤ 100000) && ws.all fun x => decide (x.length ≤ 4000)
theorem sfirst_loop (ws : List Bytes) (hl : ws.length ≤ 100000) (name : Bytes) (k0 : Bytes → Option Rs) (k1 : Option Rs) (K : Bytes × Bool → Option Rs) (h0 : ∀ v, k0 v = K (v, true)) (h1 : k1 = K ([], false)) : ∀ (r : List Bytes) (i : Int) (n : Nat), At ws i r → r.length < n → (∀ x ∈ r, x.length ≤ 4000) →
    sfirst_F2 n ws name i k0 k1 = K (fndP r name) := by
  intro r; induction r with
  | nil => intro i n h hn hf; obtain ⟨n, rfl⟩ := fuel hn; unfold sfirst_F2 sfirst_T2; simp only [h.dge, cond_false, h1]; rfl
  | cons w r ih =>
    intro i n h hn hf; obtain ⟨n, rfl⟩ := fuel hn
    simp only [List.length_cons] at hn
    have hs := ih (i + 1) n h.step (by omega) fun x hx => hf x (List.mem_cons_of_mem _ hx)
    have hw := hf w (List.mem_cons_self ..)
    unfold sfirst_F2 sfirst_T2
    simp only [h.dlt, h.dnn, h.get, h.next (by omega), dle' hw, hs, h0, cond_true]
    rw [fnd_cons]
    show (bif decide (foldP (trimP (uptoP w 61)) = name) then _ else _) = K (bif decide (foldP (trimP (uptoP w 61)) = name) then _ else _)
    cases decide (foldP (trimP (uptoP w 61)) = name) <;> rfl
def fi_s : List AV → List Ob → Br
  | [.sh .str ws, .str name], [] => .ite (wsOk ws) (.ret (.tup [.str (fndP ws name).1, .bool (fndP ws name).2]) []) .fail
  | _, _ => .fail
theorem wsOk_of {ws : List Bytes} (h : wsOk ws = true) : ws.length ≤ 100000 ∧ ∀ x ∈ ws, x.length ≤ 4000 := by
  unfold wsOk at h
  rw [Bool.and_eq_true, decide_eq_true_eq, List.all_eq_true] at h
  exact ⟨h.1, fun x hx => by simpa using h.2 x hx⟩
theorem words_ok (l : List Fd) (name : Bytes) : wsOk (wordsP l name) = true := by
  unfold wsOk
  rw [dle' (by have := (words_bd l name).1; omega), Bool.true_and, List.all_eq_true]
  exact fun x hx => decide_eq_true (words_4000 l name x hx)
theorem sfirst_okQ : Sound Kx 67 fi_s := by
  refine (sfirst_okOf (φ := fun ws name => .ite (wsOk ws) (.ret (.tup [.str (fndP ws name).1, .bool (fndP ws name).2]) []) .fail) (fun ws _ => ws.length + 1) fun ws name r h => ?_).of fun args objs r h => ?_
  · obtain ⟨h1, h2⟩ := ite_some h
    cases h2
    obtain ⟨g1, g2⟩ := wsOk_of h1
    unfold sfirst_run
    exact sfirst_loop ws g1 name _ _ (fun p => some (.tup [.str p.1, .bool p.2], [])) (fun _ => rfl) rfl ws 0 _ (At.start _) (by omega) g2
  · unfold fi_s at h; split at h
    · exact h
    · cases h
end
end Go.Proofs.YtdlpacieajdgoaaGreatDoor.Ev

namespace Go.Proofs.YtdlpacieajdgoaaGreatDoor.Ev
open Go Go.RowKit
set_option linter.unusedVariables false
set_option linter.unusedSimpArgs false
noncomputable section

/-! spec.l12num -/
def snum_O : Opt := { cons := [], keepNil := false, mutF := [], live := [], outs := [] }
def snum_C : Spec := (add (add noS 67 fi_s) 68 de_s)
theorem snum_C_ok : ∀ fn, Sound Kx fn (snum_C fn) := (sound_add (sound_add (sound_no Kx) sfirst_okQ) sDelta_okQ)
def snum_br (w : List Bytes) (name : Bytes) (a b : Int) : Br := (Br.ite (wsOk w) (Br.ite (!(fndP w name).2) (Br.ret (AV.int .i64 (-(1 : Int))) ([] : (List (Ob)))) (Br.ite (isM (fndP w name).1) (Br.ite (deltaP (fndP w name).1).2 (Br.ret (AV.int .i64 (deltaP (fndP w name).1).1) ([] : (List (Ob)))) (Br.ite (decide ((fndP w name).1 = ([] : (List UInt8)))) (Br.ret (AV.int .i64 a) ([] : (List (Ob)))) (Br.ret (AV.int .i64 b) ([] : (List (Ob)))))) Br.fail)) Br.fail)
theorem snum_run (w : List Bytes) (name : Bytes) (a b : Int) : runF Kx snum_C snum_O 1 Tryz.f32 ([.sh .str w, .str name, .int .i64 a, .int .i64 b]) ([]) = (snum_br w name a b).val := by kernel_rfl
def snum_s : List AV → List Ob → Br
  | [.sh .str w, .str name, .int .i64 a, .int .i64 b], [] => snum_br w name a b
  | _, _ => .fail
theorem snum_ok : Sound Kx 32 snum_s := by
  refine sound_run (C := snum_C) (O := snum_O) KOk snum_C_ok Tryz.func32 (by kernel_rfl) fun args objs res os h => ?_
  unfold snum_s at h
  split at h
  · exact ⟨1, (snum_run _ _ _ _).trans h⟩
  · cases h

/-! spec.l12flag -/
def sflag_O : Opt := { cons := [], keepNil := false, mutF := [], live := [], outs := [] }
def sflag_C : Spec := (add noS 67 fi_s)
theorem sflag_C_ok : ∀ fn, Sound Kx fn (sflag_C fn) := (sound_add (sound_no Kx) sfirst_okQ)
def sflag_br (w : List Bytes) (name : Bytes) : Br := (Br.ite (wsOk w) (Br.ret (AV.bool (fndP w name).2) ([] : (List (Ob)))) Br.fail)
theorem sflag_run (w : List Bytes) (name : Bytes) : runF Kx sflag_C sflag_O 1 Tryz.f31 ([.sh .str w, .str name]) ([]) = (sflag_br w name).val := by kernel_rfl
def sflag_s : List AV → List Ob → Br
  | [.sh .str w, .str name], [] => sflag_br w name
  | _, _ => .fail
theorem sflag_ok : Sound Kx 31 sflag_s := by
  refine sound_run (C := sflag_C) (O := sflag_O) KOk sflag_C_ok Tryz.func31 (by kernel_rfl) fun args objs res os h => ?_
  unfold sflag_s at h
  split at h
  · exact ⟨1, (sflag_run _ _).trans h⟩
  · cases h

end
end Go.Proofs.YtdlpacieajdgoaaGreatDoor.Ev

namespace Go.Proofs.YtdlpacieajdgoaaGreatDoor.Ev
open Go Go.RowKit
set_option linter.unusedVariables false
set_option linter.unusedSimpArgs false
noncomputable section
def numP (ws : List Bytes) (n : Bytes) (a b : Int) : Int := bif (fndP ws n).2 then (bif (deltaP (fndP ws n).1).2 then (deltaP (fndP ws n).1).1 else bif decide ((fndP ws n).1 = []) then a else b) else -1
theorem part_len {w : Bytes} (h : w.length ≤ 4000) : (partP w).2.length ≤ 4000 := by
  unfold partP
  refine unq_len _ ?_
  have := trimP_len (w.drop ((uptoP w 61).length + 1))
  rw [List.length_drop] at this
  omega
theorem fnd_len (n : Bytes) : ∀ (ws : List Bytes), (∀ x ∈ ws, x.length ≤ 4000) → (fndP ws n).1.length ≤ 4000
  | [], _ => by simp [fndP]
  | w :: r, h => by
    rw [fnd_cons]
    cases decide ((partP w).1 = n)
    · exact fnd_len n r fun x hx => h x (List.mem_cons_of_mem _ hx)
    · exact part_len (h w (List.mem_cons_self ..))
def nu_s : List AV → List Ob → Br
  | [.sh .str ws, .str name, .int .i64 a, .int .i64 b], [] => .ite (wsOk ws) (.ret (.int .i64 (numP ws name a b)) []) .fail
  | _, _ => .fail
theorem snum_okQ : Sound Kx 32 nu_s := snum_ok.of fun args objs r h => by
  unfold nu_s at h
  split at h
  case h_2 => cases h
  rename_i ws name a b
  obtain ⟨h1, h2⟩ := ite_some h
  cases h2
  show (snum_br ws name a b).val = _
  have hm : isM (fndP ws name).1 = true := isM_of (fnd_len name ws (wsOk_of h1).2)
  unfold snum_br numP
  refine (val_t h1).trans ?_
  cases (fndP ws name).2
  · rfl
  · refine (val_f rfl).trans ((val_t hm).trans ?_)
    cases (deltaP (fndP ws name).1).2 <;> cases decide ((fndP ws name).1 = []) <;> rfl
end
end Go.Proofs.YtdlpacieajdgoaaGreatDoor.Ev

namespace Go.Proofs.YtdlpacieajdgoaaGreatDoor.Ev
open Go Go.RowKit
set_option linter.unusedVariables false
set_option linter.unusedSimpArgs false
noncomputable section

/-! spec.ReadDirs -/
def sReadDirs_O : Opt := { cons := [], keepNil := false, mutF := [], live := [(12, [2, 4, 7, 8])], outs := [(12, [2, 4])], split := true }
def sReadDirs_C : Spec := (add (add (add (add (add noS 30 wo_s) 32 nu_s) 31 sflag_s) 33 sGet2_s) 34 (t1_s fun s => .str (foldP s)))
theorem sReadDirs_C_ok : ∀ fn, Sound Kx fn (sReadDirs_C fn) := (sound_add (sound_add (sound_add (sound_add (sound_add (sound_no Kx) sWords_okQ) snum_okQ) sflag_ok) sGet_okQ) sfold_okQ)
def sReadDirs_T12 (v12x0 : Int) (v12x1 : Bool) (v12x2 : Bool) (v12x3 : Bool) (v12x4 : Bool) (v12x5 : Bool) (v12x6 : Bool) (v12x7 : Int) (v12x8 : Int) (v12x9 : Int) (v12x10 : Int) (v12x11 : Bool) (v12x12 : Bool) (v12x13 : Bool) (v12x14 : Bool) (v12x15 : Bool) (v12x16 : Bool) (v12x17 : Int) (v12x18 : Int) (v12x19 : Int) (v12x20 : Int) (v12x21 : (List (List UInt8))) (kR12 : Int → Bool → Bool → Bool → Bool → Bool → Bool → Int → Int → Int → Int → Bool → Bool → Bool → Bool → Bool → Bool → Int → Int → Int → Int → (List (List UInt8)) → Option Rs) (k12e0 : Bool → Bool → Bool → Bool → Bool → Bool → Int → Int → Int → Int → Bool → Bool → Bool → Bool → Bool → Bool → Int → Int → Int → Int → Option Rs) : Option Rs :=
  (bif (decide (v12x0 < ((List.length v12x21) : Int))) then (bif v12x12 then (kR12 (wk64 (v12x0 + (1 : Int))) v12x1 v12x2 v12x3 v12x4 v12x5 v12x6 v12x7 v12x8 v12x9 v12x10 v12x11 true v12x13 v12x14 v12x15 v12x16 v12x17 v12x18 v12x19 v12x20 v12x21) else (bif (decide ((0 : Int) ≤ v12x0)) then (bif (decide (v12x0 < ((List.length v12x21) : Int))) then (bif (isM (List.getD v12x21 (Int.toNat v12x0) ([] : (List UInt8)))) then (kR12 (wk64 (v12x0 + (1 : Int))) v12x1 v12x2 v12x3 v12x4 v12x5 v12x6 v12x7 v12x8 v12x9 v12x10 v12x11 (decide ((foldP (List.getD v12x21 (Int.toNat v12x0) ([] : (List UInt8)))) = ((110 : UInt8) :: ((111 : UInt8) :: ((45 : UInt8) :: ((99 : UInt8) :: ((97 : UInt8) :: ((99 : UInt8) :: ((104 : UInt8) :: ((101 : UInt8) :: ([] : (List UInt8)))))))))))) v12x13 v12x14 v12x15 v12x16 v12x17 v12x18 v12x19 v12x20 v12x21) else (none)) else (none)) else (none))) else (k12e0 v12x1 v12x2 v12x3 v12x4 v12x5 v12x6 v12x7 v12x8 v12x9 v12x10 v12x11 v12x12 v12x13 v12x14 v12x15 v12x16 v12x17 v12x18 v12x19 v12x20))
def sReadDirs_F12 : Nat → Int → Bool → Bool → Bool → Bool → Bool → Bool → Int → Int → Int → Int → Bool → Bool → Bool → Bool → Bool → Bool → Int → Int → Int → Int → (List (List UInt8)) → (Bool → Bool → Bool → Bool → Bool → Bool → Int → Int → Int → Int → Bool → Bool → Bool → Bool → Bool → Bool → Int → Int → Int → Int → Option Rs) → Option Rs
  | 0, _, _, _, _, _, _, _, _, _, _, _, _, _, _, _, _, _, _, _, _, _, _, _ => none
  | n + 1, v12x0, v12x1, v12x2, v12x3, v12x4, v12x5, v12x6, v12x7, v12x8, v12x9, v12x10, v12x11, v12x12, v12x13, v12x14, v12x15, v12x16, v12x17, v12x18, v12x19, v12x20, v12x21, k12e0 => sReadDirs_T12 v12x0 v12x1 v12x2 v12x3 v12x4 v12x5 v12x6 v12x7 v12x8 v12x9 v12x10 v12x11 v12x12 v12x13 v12x14 v12x15 v12x16 v12x17 v12x18 v12x19 v12x20 v12x21 (fun v12x0 v12x1 v12x2 v12x3 v12x4 v12x5 v12x6 v12x7 v12x8 v12x9 v12x10 v12x11 v12x12 v12x13 v12x14 v12x15 v12x16 v12x17 v12x18 v12x19 v12x20 v12x21 => sReadDirs_F12 n v12x0 v12x1 v12x2 v12x3 v12x4 v12x5 v12x6 v12x7 v12x8 v12x9 v12x10 v12x11 v12x12 v12x13 v12x14 v12x15 v12x16 v12x17 v12x18 v12x19 v12x20 v12x21 k12e0) k12e0
def sReadDirs_h12 (v12x0 : Int) (v12x1 : Bool) (v12x2 : Bool) (v12x3 : Bool) (v12x4 : Bool) (v12x5 : Bool) (v12x6 : Bool) (v12x7 : Int) (v12x8 : Int) (v12x9 : Int) (v12x10 : Int) (v12x11 : Bool) (v12x12 : Bool) (v12x13 : Bool) (v12x14 : Bool) (v12x15 : Bool) (v12x16 : Bool) (v12x17 : Int) (v12x18 : Int) (v12x19 : Int) (v12x20 : Int) (v12x21 : (List (List UInt8))) : St := (St.mk (slots 0 68 [(2, (AV.ptr (192 : Nat) (0 : Nat))), (4, (AV.ptr (320 : Nat) (0 : Nat))), (7, (AV.ref (512 : Nat) (0 : Nat))), (8, (AV.int .i64 v12x0))]) (((192 : Nat), (Ob.var ((AV.bool v12x1) :: ((AV.bool v12x2) :: ((AV.bool v12x3) :: ((AV.bool v12x4) :: ((AV.bool v12x5) :: ((AV.bool v12x6) :: ((AV.int .i64 v12x7) :: ((AV.int .i64 v12x8) :: ((AV.int .i64 v12x9) :: ((AV.int .i64 v12x10) :: ([] : (List (AV))))))))))))))) :: (((320 : Nat), (Ob.var ((AV.bool v12x11) :: ((AV.bool v12x12) :: ((AV.bool v12x13) :: ((AV.bool v12x14) :: ((AV.bool v12x15) :: ((AV.bool v12x16) :: ((AV.int .i64 v12x17) :: ((AV.int .i64 v12x18) :: ((AV.int .i64 v12x19) :: ((AV.int .i64 v12x20) :: ([] : (List (AV))))))))))))))) :: (((512 : Nat), (Ob.arr Ty.str (0 : Nat) false v12x21)) :: ([] : (List (Nat × (Ob))))))))
def sReadDirs_x12e0 (x12x0x0 : Bool) (x12x0x1 : Bool) (x12x0x2 : Bool) (x12x0x3 : Bool) (x12x0x4 : Bool) (x12x0x5 : Bool) (x12x0x6 : Int) (x12x0x7 : Int) (x12x0x8 : Int) (x12x0x9 : Int) (x12x0x10 : Bool) (x12x0x11 : Bool) (x12x0x12 : Bool) (x12x0x13 : Bool) (x12x0x14 : Bool) (x12x0x15 : Bool) (x12x0x16 : Int) (x12x0x17 : Int) (x12x0x18 : Int) (x12x0x19 : Int) : St := (St.mk (slots 0 68 [(2, (AV.ptr (192 : Nat) (0 : Nat))), (4, (AV.ptr (320 : Nat) (0 : Nat)))]) (((192 : Nat), (Ob.var ((AV.bool x12x0x0) :: ((AV.bool x12x0x1) :: ((AV.bool x12x0x2) :: ((AV.bool x12x0x3) :: ((AV.bool x12x0x4) :: ((AV.bool x12x0x5) :: ((AV.int .i64 x12x0x6) :: ((AV.int .i64 x12x0x7) :: ((AV.int .i64 x12x0x8) :: ((AV.int .i64 x12x0x9) :: ([] : (List (AV))))))))))))))) :: (((320 : Nat), (Ob.var ((AV.bool x12x0x10) :: ((AV.bool x12x0x11) :: ((AV.bool x12x0x12) :: ((AV.bool x12x0x13) :: ((AV.bool x12x0x14) :: ((AV.bool x12x0x15) :: ((AV.int .i64 x12x0x16) :: ((AV.int .i64 x12x0x17) :: ((AV.int .i64 x12x0x18) :: ((AV.int .i64 x12x0x19) :: ([] : (List (AV))))))))))))))) :: ([] : (List (Nat × (Ob)))))))
noncomputable def sReadDirs_b12 : Code := codeAt (codeOf Tryz.f11) [1, 1, 1, 1, 1, 1, 1, 1, 0, 1, 1, 0, 1, 1, 0, 0]
def sReadDirs_L12 (N : Nat) (st : St) (k : Ex → St → Option Rs) : Option Rs := match takeF [2, 4, 7, 8] 0 68 st.env, st.objs with
  | some [.ptr 192 0, .ptr 320 0, .ref 512 0, .int .i64 v12x0], [(192, .var [.bool v12x1, .bool v12x2, .bool v12x3, .bool v12x4, .bool v12x5, .bool v12x6, .int .i64 v12x7, .int .i64 v12x8, .int .i64 v12x9, .int .i64 v12x10]), (320, .var [.bool v12x11, .bool v12x12, .bool v12x13, .bool v12x14, .bool v12x15, .bool v12x16, .int .i64 v12x17, .int .i64 v12x18, .int .i64 v12x19, .int .i64 v12x20]), (512, .arr Ty.str 0 false v12x21)] => sReadDirs_F12 N v12x0 v12x1 v12x2 v12x3 v12x4 v12x5 v12x6 v12x7 v12x8 v12x9 v12x10 v12x11 v12x12 v12x13 v12x14 v12x15 v12x16 v12x17 v12x18 v12x19 v12x20 v12x21 (fun x12x0x0 x12x0x1 x12x0x2 x12x0x3 x12x0x4 x12x0x5 x12x0x6 x12x0x7 x12x0x8 x12x0x9 x12x0x10 x12x0x11 x12x0x12 x12x0x13 x12x0x14 x12x0x15 x12x0x16 x12x0x17 x12x0x18 x12x0x19 => k (Ex.exit (0 : Nat)) (sReadDirs_x12e0 x12x0x0 x12x0x1 x12x0x2 x12x0x3 x12x0x4 x12x0x5 x12x0x6 x12x0x7 x12x0x8 x12x0x9 x12x0x10 x12x0x11 x12x0x12 x12x0x13 x12x0x14 x12x0x15 x12x0x16 x12x0x17 x12x0x18 x12x0x19))
  | _, _ => none
def sReadDirs_L (N : Nat) : Lam := fun j st k => match j with
  | 12 => sReadDirs_L12 N st k
  | _ => none
theorem sReadDirs_round12 (N : Nat) (again : St → Option Rs) (k : Ex → St → Option Rs) (wv12x0 : Int) (wv12x1 : Bool) (wv12x2 : Bool) (wv12x3 : Bool) (wv12x4 : Bool) (wv12x5 : Bool) (wv12x6 : Bool) (wv12x7 : Int) (wv12x8 : Int) (wv12x9 : Int) (wv12x10 : Int) (wv12x11 : Bool) (wv12x12 : Bool) (wv12x13 : Bool) (wv12x14 : Bool) (wv12x15 : Bool) (wv12x16 : Bool) (wv12x17 : Int) (wv12x18 : Int) (wv12x19 : Int) (wv12x20 : Int) (wv12x21 : (List (List UInt8))) (v12x0 : Int) (v12x1 : Bool) (v12x2 : Bool) (v12x3 : Bool) (v12x4 : Bool) (v12x5 : Bool) (v12x6 : Bool) (v12x7 : Int) (v12x8 : Int) (v12x9 : Int) (v12x10 : Int) (v12x11 : Bool) (v12x12 : Bool) (v12x13 : Bool) (v12x14 : Bool) (v12x15 : Bool) (v12x16 : Bool) (v12x17 : Int) (v12x18 : Int) (v12x19 : Int) (v12x20 : Int) (v12x21 : (List (List UInt8))) :
    roundK 0 (fun st k => evL Kx sReadDirs_C sReadDirs_O 0 (sReadDirs_L N) sReadDirs_b12 st k) (sReadDirs_h12 wv12x0 wv12x1 wv12x2 wv12x3 wv12x4 wv12x5 wv12x6 wv12x7 wv12x8 wv12x9 wv12x10 wv12x11 wv12x12 wv12x13 wv12x14 wv12x15 wv12x16 wv12x17 wv12x18 wv12x19 wv12x20 wv12x21).env again (sReadDirs_h12 v12x0 v12x1 v12x2 v12x3 v12x4 v12x5 v12x6 v12x7 v12x8 v12x9 v12x10 v12x11 v12x12 v12x13 v12x14 v12x15 v12x16 v12x17 v12x18 v12x19 v12x20 v12x21) (outK sReadDirs_O 0 sReadDirs_b12 k) = sReadDirs_T12 v12x0 v12x1 v12x2 v12x3 v12x4 v12x5 v12x6 v12x7 v12x8 v12x9 v12x10 v12x11 v12x12 v12x13 v12x14 v12x15 v12x16 v12x17 v12x18 v12x19 v12x20 v12x21 (fun v12x0 v12x1 v12x2 v12x3 v12x4 v12x5 v12x6 v12x7 v12x8 v12x9 v12x10 v12x11 v12x12 v12x13 v12x14 v12x15 v12x16 v12x17 v12x18 v12x19 v12x20 v12x21 => again (sReadDirs_h12 v12x0 v12x1 v12x2 v12x3 v12x4 v12x5 v12x6 v12x7 v12x8 v12x9 v12x10 v12x11 v12x12 v12x13 v12x14 v12x15 v12x16 v12x17 v12x18 v12x19 v12x20 v12x21)) (fun x12x0x0 x12x0x1 x12x0x2 x12x0x3 x12x0x4 x12x0x5 x12x0x6 x12x0x7 x12x0x8 x12x0x9 x12x0x10 x12x0x11 x12x0x12 x12x0x13 x12x0x14 x12x0x15 x12x0x16 x12x0x17 x12x0x18 x12x0x19 => k (Ex.exit (0 : Nat)) (sReadDirs_x12e0 x12x0x0 x12x0x1 x12x0x2 x12x0x3 x12x0x4 x12x0x5 x12x0x6 x12x0x7 x12x0x8 x12x0x9 x12x0x10 x12x0x11 x12x0x12 x12x0x13 x12x0x14 x12x0x15 x12x0x16 x12x0x17 x12x0x18 x12x0x19)) := by kernel_rfl
theorem sReadDirs_loop12 (N : Nat) (k : Ex → St → Option Rs) (wv12x0 : Int) (wv12x1 : Bool) (wv12x2 : Bool) (wv12x3 : Bool) (wv12x4 : Bool) (wv12x5 : Bool) (wv12x6 : Bool) (wv12x7 : Int) (wv12x8 : Int) (wv12x9 : Int) (wv12x10 : Int) (wv12x11 : Bool) (wv12x12 : Bool) (wv12x13 : Bool) (wv12x14 : Bool) (wv12x15 : Bool) (wv12x16 : Bool) (wv12x17 : Int) (wv12x18 : Int) (wv12x19 : Int) (wv12x20 : Int) (wv12x21 : (List (List UInt8))) : ∀ (n : Nat) (v12x0 : Int) (v12x1 : Bool) (v12x2 : Bool) (v12x3 : Bool) (v12x4 : Bool) (v12x5 : Bool) (v12x6 : Bool) (v12x7 : Int) (v12x8 : Int) (v12x9 : Int) (v12x10 : Int) (v12x11 : Bool) (v12x12 : Bool) (v12x13 : Bool) (v12x14 : Bool) (v12x15 : Bool) (v12x16 : Bool) (v12x17 : Int) (v12x18 : Int) (v12x19 : Int) (v12x20 : Int) (v12x21 : (List (List UInt8))),
    loopK 0 (fun st k => evL Kx sReadDirs_C sReadDirs_O 0 (sReadDirs_L N) sReadDirs_b12 st k) (sReadDirs_h12 wv12x0 wv12x1 wv12x2 wv12x3 wv12x4 wv12x5 wv12x6 wv12x7 wv12x8 wv12x9 wv12x10 wv12x11 wv12x12 wv12x13 wv12x14 wv12x15 wv12x16 wv12x17 wv12x18 wv12x19 wv12x20 wv12x21).env n (sReadDirs_h12 v12x0 v12x1 v12x2 v12x3 v12x4 v12x5 v12x6 v12x7 v12x8 v12x9 v12x10 v12x11 v12x12 v12x13 v12x14 v12x15 v12x16 v12x17 v12x18 v12x19 v12x20 v12x21) (outK sReadDirs_O 0 sReadDirs_b12 k) = sReadDirs_F12 n v12x0 v12x1 v12x2 v12x3 v12x4 v12x5 v12x6 v12x7 v12x8 v12x9 v12x10 v12x11 v12x12 v12x13 v12x14 v12x15 v12x16 v12x17 v12x18 v12x19 v12x20 v12x21 (fun x12x0x0 x12x0x1 x12x0x2 x12x0x3 x12x0x4 x12x0x5 x12x0x6 x12x0x7 x12x0x8 x12x0x9 x12x0x10 x12x0x11 x12x0x12 x12x0x13 x12x0x14 x12x0x15 x12x0x16 x12x0x17 x12x0x18 x12x0x19 => k (Ex.exit (0 : Nat)) (sReadDirs_x12e0 x12x0x0 x12x0x1 x12x0x2 x12x0x3 x12x0x4 x12x0x5 x12x0x6 x12x0x7 x12x0x8 x12x0x9 x12x0x10 x12x0x11 x12x0x12 x12x0x13 x12x0x14 x12x0x15 x12x0x16 x12x0x17 x12x0x18 x12x0x19))
  | 0, _, _, _, _, _, _, _, _, _, _, _, _, _, _, _, _, _, _, _, _, _, _ => rfl
  | n + 1, v12x0, v12x1, v12x2, v12x3, v12x4, v12x5, v12x6, v12x7, v12x8, v12x9, v12x10, v12x11, v12x12, v12x13, v12x14, v12x15, v12x16, v12x17, v12x18, v12x19, v12x20, v12x21 => by
    rw [loopK_succ, sReadDirs_round12]
    simp only [sReadDirs_loop12 N k wv12x0 wv12x1 wv12x2 wv12x3 wv12x4 wv12x5 wv12x6 wv12x7 wv12x8 wv12x9 wv12x10 wv12x11 wv12x12 wv12x13 wv12x14 wv12x15 wv12x16 wv12x17 wv12x18 wv12x19 wv12x20 wv12x21 n]
    rfl
theorem sReadDirs_at12 (N : Nat) {s : St} {k : Ex → St → Option Rs} {r : Rs} (h : sReadDirs_L12 N s k = some r) : ∃ (v12x0 : Int) (v12x1 : Bool) (v12x2 : Bool) (v12x3 : Bool) (v12x4 : Bool) (v12x5 : Bool) (v12x6 : Bool) (v12x7 : Int) (v12x8 : Int) (v12x9 : Int) (v12x10 : Int) (v12x11 : Bool) (v12x12 : Bool) (v12x13 : Bool) (v12x14 : Bool) (v12x15 : Bool) (v12x16 : Bool) (v12x17 : Int) (v12x18 : Int) (v12x19 : Int) (v12x20 : Int) (v12x21 : (List (List UInt8))), s = (sReadDirs_h12 v12x0 v12x1 v12x2 v12x3 v12x4 v12x5 v12x6 v12x7 v12x8 v12x9 v12x10 v12x11 v12x12 v12x13 v12x14 v12x15 v12x16 v12x17 v12x18 v12x19 v12x20 v12x21) ∧ sReadDirs_F12 N v12x0 v12x1 v12x2 v12x3 v12x4 v12x5 v12x6 v12x7 v12x8 v12x9 v12x10 v12x11 v12x12 v12x13 v12x14 v12x15 v12x16 v12x17 v12x18 v12x19 v12x20 v12x21 (fun x12x0x0 x12x0x1 x12x0x2 x12x0x3 x12x0x4 x12x0x5 x12x0x6 x12x0x7 x12x0x8 x12x0x9 x12x0x10 x12x0x11 x12x0x12 x12x0x13 x12x0x14 x12x0x15 x12x0x16 x12x0x17 x12x0x18 x12x0x19 => k (Ex.exit (0 : Nat)) (sReadDirs_x12e0 x12x0x0 x12x0x1 x12x0x2 x12x0x3 x12x0x4 x12x0x5 x12x0x6 x12x0x7 x12x0x8 x12x0x9 x12x0x10 x12x0x11 x12x0x12 x12x0x13 x12x0x14 x12x0x15 x12x0x16 x12x0x17 x12x0x18 x12x0x19)) = some r := by
  cases s with | mk env objs =>
  unfold sReadDirs_L12 at h
  split at h
  · rename_i e1 e2
    have e3 := takeF_slots _ _ _ _ e1
    simp only at e2 e3
    subst e2 e3
    exact ⟨_, _, _, _, _, _, _, _, _, _, _, _, _, _, _, _, _, _, _, _, _, _, rfl, h⟩
  · cases h
theorem sReadDirs_in12 : loops sReadDirs_b12 = [] := by kernel_rfl
theorem sReadDirs_lid12 : lid sReadDirs_b12 = 12 := by kernel_rfl
theorem sReadDirs_ok12 (N : Nat) : OkL Kx sReadDirs_C sReadDirs_O 0 N (sReadDirs_L N) sReadDirs_b12 := by
  intro s k k' r hk h
  rw [sReadDirs_lid12] at h
  obtain ⟨v12x0, v12x1, v12x2, v12x3, v12x4, v12x5, v12x6, v12x7, v12x8, v12x9, v12x10, v12x11, v12x12, v12x13, v12x14, v12x15, v12x16, v12x17, v12x18, v12x19, v12x20, v12x21, rfl, h⟩ := sReadDirs_at12 N h
  refine loopL (Λ := sReadDirs_L N) sReadDirs_b12 ?_ N hk ((sReadDirs_loop12 N k v12x0 v12x1 v12x2 v12x3 v12x4 v12x5 v12x6 v12x7 v12x8 v12x9 v12x10 v12x11 v12x12 v12x13 v12x14 v12x15 v12x16 v12x17 v12x18 v12x19 v12x20 v12x21 N v12x0 v12x1 v12x2 v12x3 v12x4 v12x5 v12x6 v12x7 v12x8 v12x9 v12x10 v12x11 v12x12 v12x13 v12x14 v12x15 v12x16 v12x17 v12x18 v12x19 v12x20 v12x21).trans h)
  rw [sReadDirs_in12]
  exact fun _ h => nomatch h
def sReadDirs_run (N : Nat) (l : List Fd) : Option Rs := (bif (wsOk (wordsP l ((99 : UInt8) :: ((97 : UInt8) :: ((99 : UInt8) :: ((104 : UInt8) :: ((101 : UInt8) :: ((45 : UInt8) :: ((99 : UInt8) :: ((111 : UInt8) :: ((110 : UInt8) :: ((116 : UInt8) :: ((114 : UInt8) :: ((111 : UInt8) :: ((108 : UInt8) :: ([] : (List UInt8))))))))))))))))) then (bif (wsOk (wordsP l ((99 : UInt8) :: ((97 : UInt8) :: ((99 : UInt8) :: ((104 : UInt8) :: ((101 : UInt8) :: ((45 : UInt8) :: ((99 : UInt8) :: ((111 : UInt8) :: ((110 : UInt8) :: ((116 : UInt8) :: ((114 : UInt8) :: ((111 : UInt8) :: ((108 : UInt8) :: ([] : (List UInt8))))))))))))))))) then (bif (wsOk (wordsP l ((99 : UInt8) :: ((97 : UInt8) :: ((99 : UInt8) :: ((104 : UInt8) :: ((101 : UInt8) :: ((45 : UInt8) :: ((99 : UInt8) :: ((111 : UInt8) :: ((110 : UInt8) :: ((116 : UInt8) :: ((114 : UInt8) :: ((111 : UInt8) :: ((108 : UInt8) :: ([] : (List UInt8))))))))))))))))) then (bif (wsOk (wordsP l ((99 : UInt8) :: ((97 : UInt8) :: ((99 : UInt8) :: ((104 : UInt8) :: ((101 : UInt8) :: ((45 : UInt8) :: ((99 : UInt8) :: ((111 : UInt8) :: ((110 : UInt8) :: ((116 : UInt8) :: ((114 : UInt8) :: ((111 : UInt8) :: ((108 : UInt8) :: ([] : (List UInt8))))))))))))))))) then (bif (wsOk (wordsP l ((99 : UInt8) :: ((97 : UInt8) :: ((99 : UInt8) :: ((104 : UInt8) :: ((101 : UInt8) :: ((45 : UInt8) :: ((99 : UInt8) :: ((111 : UInt8) :: ((110 : UInt8) :: ((116 : UInt8) :: ((114 : UInt8) :: ((111 : UInt8) :: ((108 : UInt8) :: ([] : (List UInt8))))))))))))))))) then (bif (wsOk (wordsP l ((99 : UInt8) :: ((97 : UInt8) :: ((99 : UInt8) :: ((104 : UInt8) :: ((101 : UInt8) :: ((45 : UInt8) :: ((99 : UInt8) :: ((111 : UInt8) :: ((110 : UInt8) :: ((116 : UInt8) :: ((114 : UInt8) :: ((111 : UInt8) :: ((108 : UInt8) :: ([] : (List UInt8))))))))))))))))) then (bif (fndP (wordsP l ((99 : UInt8) :: ((97 : UInt8) :: ((99 : UInt8) :: ((104 : UInt8) :: ((101 : UInt8) :: ((45 : UInt8) :: ((99 : UInt8) :: ((111 : UInt8) :: ((110 : UInt8) :: ((116 : UInt8) :: ((114 : UInt8) :: ((111 : UInt8) :: ((108 : UInt8) :: ([] : (List UInt8)))))))))))))))) ((109 : UInt8) :: ((117 : UInt8) :: ((115 : UInt8) :: ((116 : UInt8) :: ((45 : UInt8) :: ((114 : UInt8) :: ((101 : UInt8) :: ((118 : UInt8) :: ((97 : UInt8) :: ((108 : UInt8) :: ((105 : UInt8) :: ((100 : UInt8) :: ((97 : UInt8) :: ((116 : UInt8) :: ((101 : UInt8) :: ([] : (List UInt8)))))))))))))))))).2 then (bif (wsOk (wordsP l ((99 : UInt8) :: ((97 : UInt8) :: ((99 : UInt8) :: ((104 : UInt8) :: ((101 : UInt8) :: ((45 : UInt8) :: ((99 : UInt8) :: ((111 : UInt8) :: ((110 : UInt8) :: ((116 : UInt8) :: ((114 : UInt8) :: ((111 : UInt8) :: ((108 : UInt8) :: ([] : (List UInt8))))))))))))))))) then (bif (wsOk (wordsP l ((99 : UInt8) :: ((97 : UInt8) :: ((99 : UInt8) :: ((104 : UInt8) :: ((101 : UInt8) :: ((45 : UInt8) :: ((99 : UInt8) :: ((111 : UInt8) :: ((110 : UInt8) :: ((116 : UInt8) :: ((114 : UInt8) :: ((111 : UInt8) :: ((108 : UInt8) :: ([] : (List UInt8))))))))))))))))) then (bif (wsOk (wordsP l ((99 : UInt8) :: ((97 : UInt8) :: ((99 : UInt8) :: ((104 : UInt8) :: ((101 : UInt8) :: ((45 : UInt8) :: ((99 : UInt8) :: ((111 : UInt8) :: ((110 : UInt8) :: ((116 : UInt8) :: ((114 : UInt8) :: ((111 : UInt8) :: ((108 : UInt8) :: ([] : (List UInt8))))))))))))))))) then (bif (wsOk (wordsP l ((99 : UInt8) :: ((97 : UInt8) :: ((99 : UInt8) :: ((104 : UInt8) :: ((101 : UInt8) :: ((45 : UInt8) :: ((99 : UInt8) :: ((111 : UInt8) :: ((110 : UInt8) :: ((116 : UInt8) :: ((114 : UInt8) :: ((111 : UInt8) :: ((108 : UInt8) :: ([] : (List UInt8))))))))))))))))) then (bif (!(hasP l ((99 : UInt8) :: ((97 : UInt8) :: ((99 : UInt8) :: ((104 : UInt8) :: ((101 : UInt8) :: ((45 : UInt8) :: ((99 : UInt8) :: ((111 : UInt8) :: ((110 : UInt8) :: ((116 : UInt8) :: ((114 : UInt8) :: ((111 : UInt8) :: ((108 : UInt8) :: ([] : (List UInt8))))))))))))))))) then (sReadDirs_F12 N (0 : Int) false false false false false false (0 : Int) (0 : Int) (0 : Int) (0 : Int) (fndP (wordsP l ((99 : UInt8) :: ((97 : UInt8) :: ((99 : UInt8) :: ((104 : UInt8) :: ((101 : UInt8) :: ((45 : UInt8) :: ((99 : UInt8) :: ((111 : UInt8) :: ((110 : UInt8) :: ((116 : UInt8) :: ((114 : UInt8) :: ((111 : UInt8) :: ((108 : UInt8) :: ([] : (List UInt8)))))))))))))))) ((110 : UInt8) :: ((111 : UInt8) :: ((45 : UInt8) :: ((115 : UInt8) :: ((116 : UInt8) :: ((111 : UInt8) :: ((114 : UInt8) :: ((101 : UInt8) :: ([] : (List UInt8))))))))))).2 (fndP (wordsP l ((99 : UInt8) :: ((97 : UInt8) :: ((99 : UInt8) :: ((104 : UInt8) :: ((101 : UInt8) :: ((45 : UInt8) :: ((99 : UInt8) :: ((111 : UInt8) :: ((110 : UInt8) :: ((116 : UInt8) :: ((114 : UInt8) :: ((111 : UInt8) :: ((108 : UInt8) :: ([] : (List UInt8)))))))))))))))) ((110 : UInt8) :: ((111 : UInt8) :: ((45 : UInt8) :: ((99 : UInt8) :: ((97 : UInt8) :: ((99 : UInt8) :: ((104 : UInt8) :: ((101 : UInt8) :: ([] : (List UInt8))))))))))).2 (fndP (wordsP l ((99 : UInt8) :: ((97 : UInt8) :: ((99 : UInt8) :: ((104 : UInt8) :: ((101 : UInt8) :: ((45 : UInt8) :: ((99 : UInt8) :: ((111 : UInt8) :: ((110 : UInt8) :: ((116 : UInt8) :: ((114 : UInt8) :: ((111 : UInt8) :: ((108 : UInt8) :: ([] : (List UInt8)))))))))))))))) ((112 : UInt8) :: ((114 : UInt8) :: ((105 : UInt8) :: ((118 : UInt8) :: ((97 : UInt8) :: ((116 : UInt8) :: ((101 : UInt8) :: ([] : (List UInt8)))))))))).2 (fndP (wordsP l ((99 : UInt8) :: ((97 : UInt8) :: ((99 : UInt8) :: ((104 : UInt8) :: ((101 : UInt8) :: ((45 : UInt8) :: ((99 : UInt8) :: ((111 : UInt8) :: ((110 : UInt8) :: ((116 : UInt8) :: ((114 : UInt8) :: ((111 : UInt8) :: ((108 : UInt8) :: ([] : (List UInt8)))))))))))))))) ((112 : UInt8) :: ((117 : UInt8) :: ((98 : UInt8) :: ((108 : UInt8) :: ((105 : UInt8) :: ((99 : UInt8) :: ([] : (List UInt8))))))))).2 true (fndP (wordsP l ((99 : UInt8) :: ((97 : UInt8) :: ((99 : UInt8) :: ((104 : UInt8) :: ((101 : UInt8) :: ((45 : UInt8) :: ((99 : UInt8) :: ((111 : UInt8) :: ((110 : UInt8) :: ((116 : UInt8) :: ((114 : UInt8) :: ((111 : UInt8) :: ((108 : UInt8) :: ([] : (List UInt8)))))))))))))))) ((111 : UInt8) :: ((110 : UInt8) :: ((108 : UInt8) :: ((121 : UInt8) :: ((45 : UInt8) :: ((105 : UInt8) :: ((102 : UInt8) :: ((45 : UInt8) :: ((99 : UInt8) :: ((97 : UInt8) :: ((99 : UInt8) :: ((104 : UInt8) :: ((101 : UInt8) :: ((100 : UInt8) :: ([] : (List UInt8))))))))))))))))).2 (numP (wordsP l ((99 : UInt8) :: ((97 : UInt8) :: ((99 : UInt8) :: ((104 : UInt8) :: ((101 : UInt8) :: ((45 : UInt8) :: ((99 : UInt8) :: ((111 : UInt8) :: ((110 : UInt8) :: ((116 : UInt8) :: ((114 : UInt8) :: ((111 : UInt8) :: ((108 : UInt8) :: ([] : (List UInt8)))))))))))))))) ((109 : UInt8) :: ((97 : UInt8) :: ((120 : UInt8) :: ((45 : UInt8) :: ((97 : UInt8) :: ((103 : UInt8) :: ((101 : UInt8) :: ([] : (List UInt8))))))))) (0 : Int) (0 : Int)) (numP (wordsP l ((99 : UInt8) :: ((97 : UInt8) :: ((99 : UInt8) :: ((104 : UInt8) :: ((101 : UInt8) :: ((45 : UInt8) :: ((99 : UInt8) :: ((111 : UInt8) :: ((110 : UInt8) :: ((116 : UInt8) :: ((114 : UInt8) :: ((111 : UInt8) :: ((108 : UInt8) :: ([] : (List UInt8)))))))))))))))) ((115 : UInt8) :: ((45 : UInt8) :: ((109 : UInt8) :: ((97 : UInt8) :: ((120 : UInt8) :: ((97 : UInt8) :: ((103 : UInt8) :: ((101 : UInt8) :: ([] : (List UInt8)))))))))) (0 : Int) (0 : Int)) (numP (wordsP l ((99 : UInt8) :: ((97 : UInt8) :: ((99 : UInt8) :: ((104 : UInt8) :: ((101 : UInt8) :: ((45 : UInt8) :: ((99 : UInt8) :: ((111 : UInt8) :: ((110 : UInt8) :: ((116 : UInt8) :: ((114 : UInt8) :: ((111 : UInt8) :: ((108 : UInt8) :: ([] : (List UInt8)))))))))))))))) ((109 : UInt8) :: ((97 : UInt8) :: ((120 : UInt8) :: ((45 : UInt8) :: ((115 : UInt8) :: ((116 : UInt8) :: ((97 : UInt8) :: ((108 : UInt8) :: ((101 : UInt8) :: ([] : (List UInt8))))))))))) (2147483648 : Int) (0 : Int)) (numP (wordsP l ((99 : UInt8) :: ((97 : UInt8) :: ((99 : UInt8) :: ((104 : UInt8) :: ((101 : UInt8) :: ((45 : UInt8) :: ((99 : UInt8) :: ((111 : UInt8) :: ((110 : UInt8) :: ((116 : UInt8) :: ((114 : UInt8) :: ((111 : UInt8) :: ((108 : UInt8) :: ([] : (List UInt8)))))))))))))))) ((109 : UInt8) :: ((105 : UInt8) :: ((110 : UInt8) :: ((45 : UInt8) :: ((102 : UInt8) :: ((114 : UInt8) :: ((101 : UInt8) :: ((115 : UInt8) :: ((104 : UInt8) :: ([] : (List UInt8))))))))))) (2147483648 : Int) (2147483648 : Int)) (wordsP l ((112 : UInt8) :: ((114 : UInt8) :: ((97 : UInt8) :: ((103 : UInt8) :: ((109 : UInt8) :: ((97 : UInt8) :: ([] : (List UInt8))))))))) (fun x12x0x0 => (fun x12x0x1 => (fun x12x0x2 => (fun x12x0x3 => (fun x12x0x4 => (fun x12x0x5 => (fun x12x0x6 => (fun x12x0x7 => (fun x12x0x8 => (fun x12x0x9 => (fun x12x0x10 => (fun x12x0x11 => (fun x12x0x12 => (fun x12x0x13 => (fun x12x0x14 => (fun x12x0x15 => (fun x12x0x16 => (fun x12x0x17 => (fun x12x0x18 => (fun x12x0x19 => (some ((AV.agg ((AV.bool x12x0x10) :: ((AV.bool x12x0x11) :: ((AV.bool x12x0x12) :: ((AV.bool x12x0x13) :: ((AV.bool x12x0x14) :: ((AV.bool x12x0x15) :: ((AV.int .i64 x12x0x16) :: ((AV.int .i64 x12x0x17) :: ((AV.int .i64 x12x0x18) :: ((AV.int .i64 x12x0x19) :: ([] : (List (AV)))))))))))))), ([] : (List (Ob)))))))))))))))))))))))))) else (some ((AV.agg ((AV.bool (fndP (wordsP l ((99 : UInt8) :: ((97 : UInt8) :: ((99 : UInt8) :: ((104 : UInt8) :: ((101 : UInt8) :: ((45 : UInt8) :: ((99 : UInt8) :: ((111 : UInt8) :: ((110 : UInt8) :: ((116 : UInt8) :: ((114 : UInt8) :: ((111 : UInt8) :: ((108 : UInt8) :: ([] : (List UInt8)))))))))))))))) ((110 : UInt8) :: ((111 : UInt8) :: ((45 : UInt8) :: ((115 : UInt8) :: ((116 : UInt8) :: ((111 : UInt8) :: ((114 : UInt8) :: ((101 : UInt8) :: ([] : (List UInt8))))))))))).2) :: ((AV.bool (fndP (wordsP l ((99 : UInt8) :: ((97 : UInt8) :: ((99 : UInt8) :: ((104 : UInt8) :: ((101 : UInt8) :: ((45 : UInt8) :: ((99 : UInt8) :: ((111 : UInt8) :: ((110 : UInt8) :: ((116 : UInt8) :: ((114 : UInt8) :: ((111 : UInt8) :: ((108 : UInt8) :: ([] : (List UInt8)))))))))))))))) ((110 : UInt8) :: ((111 : UInt8) :: ((45 : UInt8) :: ((99 : UInt8) :: ((97 : UInt8) :: ((99 : UInt8) :: ((104 : UInt8) :: ((101 : UInt8) :: ([] : (List UInt8))))))))))).2) :: ((AV.bool (fndP (wordsP l ((99 : UInt8) :: ((97 : UInt8) :: ((99 : UInt8) :: ((104 : UInt8) :: ((101 : UInt8) :: ((45 : UInt8) :: ((99 : UInt8) :: ((111 : UInt8) :: ((110 : UInt8) :: ((116 : UInt8) :: ((114 : UInt8) :: ((111 : UInt8) :: ((108 : UInt8) :: ([] : (List UInt8)))))))))))))))) ((112 : UInt8) :: ((114 : UInt8) :: ((105 : UInt8) :: ((118 : UInt8) :: ((97 : UInt8) :: ((116 : UInt8) :: ((101 : UInt8) :: ([] : (List UInt8)))))))))).2) :: ((AV.bool (fndP (wordsP l ((99 : UInt8) :: ((97 : UInt8) :: ((99 : UInt8) :: ((104 : UInt8) :: ((101 : UInt8) :: ((45 : UInt8) :: ((99 : UInt8) :: ((111 : UInt8) :: ((110 : UInt8) :: ((116 : UInt8) :: ((114 : UInt8) :: ((111 : UInt8) :: ((108 : UInt8) :: ([] : (List UInt8)))))))))))))))) ((112 : UInt8) :: ((117 : UInt8) :: ((98 : UInt8) :: ((108 : UInt8) :: ((105 : UInt8) :: ((99 : UInt8) :: ([] : (List UInt8))))))))).2) :: ((AV.bool true) :: ((AV.bool (fndP (wordsP l ((99 : UInt8) :: ((97 : UInt8) :: ((99 : UInt8) :: ((104 : UInt8) :: ((101 : UInt8) :: ((45 : UInt8) :: ((99 : UInt8) :: ((111 : UInt8) :: ((110 : UInt8) :: ((116 : UInt8) :: ((114 : UInt8) :: ((111 : UInt8) :: ((108 : UInt8) :: ([] : (List UInt8)))))))))))))))) ((111 : UInt8) :: ((110 : UInt8) :: ((108 : UInt8) :: ((121 : UInt8) :: ((45 : UInt8) :: ((105 : UInt8) :: ((102 : UInt8) :: ((45 : UInt8) :: ((99 : UInt8) :: ((97 : UInt8) :: ((99 : UInt8) :: ((104 : UInt8) :: ((101 : UInt8) :: ((100 : UInt8) :: ([] : (List UInt8))))))))))))))))).2) :: ((AV.int .i64 (numP (wordsP l ((99 : UInt8) :: ((97 : UInt8) :: ((99 : UInt8) :: ((104 : UInt8) :: ((101 : UInt8) :: ((45 : UInt8) :: ((99 : UInt8) :: ((111 : UInt8) :: ((110 : UInt8) :: ((116 : UInt8) :: ((114 : UInt8) :: ((111 : UInt8) :: ((108 : UInt8) :: ([] : (List UInt8)))))))))))))))) ((109 : UInt8) :: ((97 : UInt8) :: ((120 : UInt8) :: ((45 : UInt8) :: ((97 : UInt8) :: ((103 : UInt8) :: ((101 : UInt8) :: ([] : (List UInt8))))))))) (0 : Int) (0 : Int))) :: ((AV.int .i64 (numP (wordsP l ((99 : UInt8) :: ((97 : UInt8) :: ((99 : UInt8) :: ((104 : UInt8) :: ((101 : UInt8) :: ((45 : UInt8) :: ((99 : UInt8) :: ((111 : UInt8) :: ((110 : UInt8) :: ((116 : UInt8) :: ((114 : UInt8) :: ((111 : UInt8) :: ((108 : UInt8) :: ([] : (List UInt8)))))))))))))))) ((115 : UInt8) :: ((45 : UInt8) :: ((109 : UInt8) :: ((97 : UInt8) :: ((120 : UInt8) :: ((97 : UInt8) :: ((103 : UInt8) :: ((101 : UInt8) :: ([] : (List UInt8)))))))))) (0 : Int) (0 : Int))) :: ((AV.int .i64 (numP (wordsP l ((99 : UInt8) :: ((97 : UInt8) :: ((99 : UInt8) :: ((104 : UInt8) :: ((101 : UInt8) :: ((45 : UInt8) :: ((99 : UInt8) :: ((111 : UInt8) :: ((110 : UInt8) :: ((116 : UInt8) :: ((114 : UInt8) :: ((111 : UInt8) :: ((108 : UInt8) :: ([] : (List UInt8)))))))))))))))) ((109 : UInt8) :: ((97 : UInt8) :: ((120 : UInt8) :: ((45 : UInt8) :: ((115 : UInt8) :: ((116 : UInt8) :: ((97 : UInt8) :: ((108 : UInt8) :: ((101 : UInt8) :: ([] : (List UInt8))))))))))) (2147483648 : Int) (0 : Int))) :: ((AV.int .i64 (numP (wordsP l ((99 : UInt8) :: ((97 : UInt8) :: ((99 : UInt8) :: ((104 : UInt8) :: ((101 : UInt8) :: ((45 : UInt8) :: ((99 : UInt8) :: ((111 : UInt8) :: ((110 : UInt8) :: ((116 : UInt8) :: ((114 : UInt8) :: ((111 : UInt8) :: ((108 : UInt8) :: ([] : (List UInt8)))))))))))))))) ((109 : UInt8) :: ((105 : UInt8) :: ((110 : UInt8) :: ((45 : UInt8) :: ((102 : UInt8) :: ((114 : UInt8) :: ((101 : UInt8) :: ((115 : UInt8) :: ((104 : UInt8) :: ([] : (List UInt8))))))))))) (2147483648 : Int) (2147483648 : Int))) :: ([] : (List (AV)))))))))))))), ([] : (List (Ob)))))) else (none)) else (none)) else (none)) else (none)) else (bif (wsOk (wordsP l ((99 : UInt8) :: ((97 : UInt8) :: ((99 : UInt8) :: ((104 : UInt8) :: ((101 : UInt8) :: ((45 : UInt8) :: ((99 : UInt8) :: ((111 : UInt8) :: ((110 : UInt8) :: ((116 : UInt8) :: ((114 : UInt8) :: ((111 : UInt8) :: ((108 : UInt8) :: ([] : (List UInt8))))))))))))))))) then (bif (wsOk (wordsP l ((99 : UInt8) :: ((97 : UInt8) :: ((99 : UInt8) :: ((104 : UInt8) :: ((101 : UInt8) :: ((45 : UInt8) :: ((99 : UInt8) :: ((111 : UInt8) :: ((110 : UInt8) :: ((116 : UInt8) :: ((114 : UInt8) :: ((111 : UInt8) :: ((108 : UInt8) :: ([] : (List UInt8))))))))))))))))) then (bif (wsOk (wordsP l ((99 : UInt8) :: ((97 : UInt8) :: ((99 : UInt8) :: ((104 : UInt8) :: ((101 : UInt8) :: ((45 : UInt8) :: ((99 : UInt8) :: ((111 : UInt8) :: ((110 : UInt8) :: ((116 : UInt8) :: ((114 : UInt8) :: ((111 : UInt8) :: ((108 : UInt8) :: ([] : (List UInt8))))))))))))))))) then (bif (wsOk (wordsP l ((99 : UInt8) :: ((97 : UInt8) :: ((99 : UInt8) :: ((104 : UInt8) :: ((101 : UInt8) :: ((45 : UInt8) :: ((99 : UInt8) :: ((111 : UInt8) :: ((110 : UInt8) :: ((116 : UInt8) :: ((114 : UInt8) :: ((111 : UInt8) :: ((108 : UInt8) :: ([] : (List UInt8))))))))))))))))) then (bif (wsOk (wordsP l ((99 : UInt8) :: ((97 : UInt8) :: ((99 : UInt8) :: ((104 : UInt8) :: ((101 : UInt8) :: ((45 : UInt8) :: ((99 : UInt8) :: ((111 : UInt8) :: ((110 : UInt8) :: ((116 : UInt8) :: ((114 : UInt8) :: ((111 : UInt8) :: ((108 : UInt8) :: ([] : (List UInt8))))))))))))))))) then (bif (!(hasP l ((99 : UInt8) :: ((97 : UInt8) :: ((99 : UInt8) :: ((104 : UInt8) :: ((101 : UInt8) :: ((45 : UInt8) :: ((99 : UInt8) :: ((111 : UInt8) :: ((110 : UInt8) :: ((116 : UInt8) :: ((114 : UInt8) :: ((111 : UInt8) :: ((108 : UInt8) :: ([] : (List UInt8))))))))))))))))) then (sReadDirs_F12 N (0 : Int) false false false false false false (0 : Int) (0 : Int) (0 : Int) (0 : Int) (fndP (wordsP l ((99 : UInt8) :: ((97 : UInt8) :: ((99 : UInt8) :: ((104 : UInt8) :: ((101 : UInt8) :: ((45 : UInt8) :: ((99 : UInt8) :: ((111 : UInt8) :: ((110 : UInt8) :: ((116 : UInt8) :: ((114 : UInt8) :: ((111 : UInt8) :: ((108 : UInt8) :: ([] : (List UInt8)))))))))))))))) ((110 : UInt8) :: ((111 : UInt8) :: ((45 : UInt8) :: ((115 : UInt8) :: ((116 : UInt8) :: ((111 : UInt8) :: ((114 : UInt8) :: ((101 : UInt8) :: ([] : (List UInt8))))))))))).2 (fndP (wordsP l ((99 : UInt8) :: ((97 : UInt8) :: ((99 : UInt8) :: ((104 : UInt8) :: ((101 : UInt8) :: ((45 : UInt8) :: ((99 : UInt8) :: ((111 : UInt8) :: ((110 : UInt8) :: ((116 : UInt8) :: ((114 : UInt8) :: ((111 : UInt8) :: ((108 : UInt8) :: ([] : (List UInt8)))))))))))))))) ((110 : UInt8) :: ((111 : UInt8) :: ((45 : UInt8) :: ((99 : UInt8) :: ((97 : UInt8) :: ((99 : UInt8) :: ((104 : UInt8) :: ((101 : UInt8) :: ([] : (List UInt8))))))))))).2 (fndP (wordsP l ((99 : UInt8) :: ((97 : UInt8) :: ((99 : UInt8) :: ((104 : UInt8) :: ((101 : UInt8) :: ((45 : UInt8) :: ((99 : UInt8) :: ((111 : UInt8) :: ((110 : UInt8) :: ((116 : UInt8) :: ((114 : UInt8) :: ((111 : UInt8) :: ((108 : UInt8) :: ([] : (List UInt8)))))))))))))))) ((112 : UInt8) :: ((114 : UInt8) :: ((105 : UInt8) :: ((118 : UInt8) :: ((97 : UInt8) :: ((116 : UInt8) :: ((101 : UInt8) :: ([] : (List UInt8)))))))))).2 (fndP (wordsP l ((99 : UInt8) :: ((97 : UInt8) :: ((99 : UInt8) :: ((104 : UInt8) :: ((101 : UInt8) :: ((45 : UInt8) :: ((99 : UInt8) :: ((111 : UInt8) :: ((110 : UInt8) :: ((116 : UInt8) :: ((114 : UInt8) :: ((111 : UInt8) :: ((108 : UInt8) :: ([] : (List UInt8)))))))))))))))) ((112 : UInt8) :: ((117 : UInt8) :: ((98 : UInt8) :: ((108 : UInt8) :: ((105 : UInt8) :: ((99 : UInt8) :: ([] : (List UInt8))))))))).2 (fndP (wordsP l ((99 : UInt8) :: ((97 : UInt8) :: ((99 : UInt8) :: ((104 : UInt8) :: ((101 : UInt8) :: ((45 : UInt8) :: ((99 : UInt8) :: ((111 : UInt8) :: ((110 : UInt8) :: ((116 : UInt8) :: ((114 : UInt8) :: ((111 : UInt8) :: ((108 : UInt8) :: ([] : (List UInt8)))))))))))))))) ((112 : UInt8) :: ((114 : UInt8) :: ((111 : UInt8) :: ((120 : UInt8) :: ((121 : UInt8) :: ((45 : UInt8) :: ((114 : UInt8) :: ((101 : UInt8) :: ((118 : UInt8) :: ((97 : UInt8) :: ((108 : UInt8) :: ((105 : UInt8) :: ((100 : UInt8) :: ((97 : UInt8) :: ((116 : UInt8) :: ((101 : UInt8) :: ([] : (List UInt8))))))))))))))))))).2 (fndP (wordsP l ((99 : UInt8) :: ((97 : UInt8) :: ((99 : UInt8) :: ((104 : UInt8) :: ((101 : UInt8) :: ((45 : UInt8) :: ((99 : UInt8) :: ((111 : UInt8) :: ((110 : UInt8) :: ((116 : UInt8) :: ((114 : UInt8) :: ((111 : UInt8) :: ((108 : UInt8) :: ([] : (List UInt8)))))))))))))))) ((111 : UInt8) :: ((110 : UInt8) :: ((108 : UInt8) :: ((121 : UInt8) :: ((45 : UInt8) :: ((105 : UInt8) :: ((102 : UInt8) :: ((45 : UInt8) :: ((99 : UInt8) :: ((97 : UInt8) :: ((99 : UInt8) :: ((104 : UInt8) :: ((101 : UInt8) :: ((100 : UInt8) :: ([] : (List UInt8))))))))))))))))).2 (numP (wordsP l ((99 : UInt8) :: ((97 : UInt8) :: ((99 : UInt8) :: ((104 : UInt8) :: ((101 : UInt8) :: ((45 : UInt8) :: ((99 : UInt8) :: ((111 : UInt8) :: ((110 : UInt8) :: ((116 : UInt8) :: ((114 : UInt8) :: ((111 : UInt8) :: ((108 : UInt8) :: ([] : (List UInt8)))))))))))))))) ((109 : UInt8) :: ((97 : UInt8) :: ((120 : UInt8) :: ((45 : UInt8) :: ((97 : UInt8) :: ((103 : UInt8) :: ((101 : UInt8) :: ([] : (List UInt8))))))))) (0 : Int) (0 : Int)) (numP (wordsP l ((99 : UInt8) :: ((97 : UInt8) :: ((99 : UInt8) :: ((104 : UInt8) :: ((101 : UInt8) :: ((45 : UInt8) :: ((99 : UInt8) :: ((111 : UInt8) :: ((110 : UInt8) :: ((116 : UInt8) :: ((114 : UInt8) :: ((111 : UInt8) :: ((108 : UInt8) :: ([] : (List UInt8)))))))))))))))) ((115 : UInt8) :: ((45 : UInt8) :: ((109 : UInt8) :: ((97 : UInt8) :: ((120 : UInt8) :: ((97 : UInt8) :: ((103 : UInt8) :: ((101 : UInt8) :: ([] : (List UInt8)))))))))) (0 : Int) (0 : Int)) (numP (wordsP l ((99 : UInt8) :: ((97 : UInt8) :: ((99 : UInt8) :: ((104 : UInt8) :: ((101 : UInt8) :: ((45 : UInt8) :: ((99 : UInt8) :: ((111 : UInt8) :: ((110 : UInt8) :: ((116 : UInt8) :: ((114 : UInt8) :: ((111 : UInt8) :: ((108 : UInt8) :: ([] : (List UInt8)))))))))))))))) ((109 : UInt8) :: ((97 : UInt8) :: ((120 : UInt8) :: ((45 : UInt8) :: ((115 : UInt8) :: ((116 : UInt8) :: ((97 : UInt8) :: ((108 : UInt8) :: ((101 : UInt8) :: ([] : (List UInt8))))))))))) (2147483648 : Int) (0 : Int)) (numP (wordsP l ((99 : UInt8) :: ((97 : UInt8) :: ((99 : UInt8) :: ((104 : UInt8) :: ((101 : UInt8) :: ((45 : UInt8) :: ((99 : UInt8) :: ((111 : UInt8) :: ((110 : UInt8) :: ((116 : UInt8) :: ((114 : UInt8) :: ((111 : UInt8) :: ((108 : UInt8) :: ([] : (List UInt8)))))))))))))))) ((109 : UInt8) :: ((105 : UInt8) :: ((110 : UInt8) :: ((45 : UInt8) :: ((102 : UInt8) :: ((114 : UInt8) :: ((101 : UInt8) :: ((115 : UInt8) :: ((104 : UInt8) :: ([] : (List UInt8))))))))))) (2147483648 : Int) (2147483648 : Int)) (wordsP l ((112 : UInt8) :: ((114 : UInt8) :: ((97 : UInt8) :: ((103 : UInt8) :: ((109 : UInt8) :: ((97 : UInt8) :: ([] : (List UInt8))))))))) (fun x12x0x0 => (fun x12x0x1 => (fun x12x0x2 => (fun x12x0x3 => (fun x12x0x4 => (fun x12x0x5 => (fun x12x0x6 => (fun x12x0x7 => (fun x12x0x8 => (fun x12x0x9 => (fun x12x0x10 => (fun x12x0x11 => (fun x12x0x12 => (fun x12x0x13 => (fun x12x0x14 => (fun x12x0x15 => (fun x12x0x16 => (fun x12x0x17 => (fun x12x0x18 => (fun x12x0x19 => (some ((AV.agg ((AV.bool x12x0x10) :: ((AV.bool x12x0x11) :: ((AV.bool x12x0x12) :: ((AV.bool x12x0x13) :: ((AV.bool x12x0x14) :: ((AV.bool x12x0x15) :: ((AV.int .i64 x12x0x16) :: ((AV.int .i64 x12x0x17) :: ((AV.int .i64 x12x0x18) :: ((AV.int .i64 x12x0x19) :: ([] : (List (AV)))))))))))))), ([] : (List (Ob)))))))))))))))))))))))))) else (some ((AV.agg ((AV.bool (fndP (wordsP l ((99 : UInt8) :: ((97 : UInt8) :: ((99 : UInt8) :: ((104 : UInt8) :: ((101 : UInt8) :: ((45 : UInt8) :: ((99 : UInt8) :: ((111 : UInt8) :: ((110 : UInt8) :: ((116 : UInt8) :: ((114 : UInt8) :: ((111 : UInt8) :: ((108 : UInt8) :: ([] : (List UInt8)))))))))))))))) ((110 : UInt8) :: ((111 : UInt8) :: ((45 : UInt8) :: ((115 : UInt8) :: ((116 : UInt8) :: ((111 : UInt8) :: ((114 : UInt8) :: ((101 : UInt8) :: ([] : (List UInt8))))))))))).2) :: ((AV.bool (fndP (wordsP l ((99 : UInt8) :: ((97 : UInt8) :: ((99 : UInt8) :: ((104 : UInt8) :: ((101 : UInt8) :: ((45 : UInt8) :: ((99 : UInt8) :: ((111 : UInt8) :: ((110 : UInt8) :: ((116 : UInt8) :: ((114 : UInt8) :: ((111 : UInt8) :: ((108 : UInt8) :: ([] : (List UInt8)))))))))))))))) ((110 : UInt8) :: ((111 : UInt8) :: ((45 : UInt8) :: ((99 : UInt8) :: ((97 : UInt8) :: ((99 : UInt8) :: ((104 : UInt8) :: ((101 : UInt8) :: ([] : (List UInt8))))))))))).2) :: ((AV.bool (fndP (wordsP l ((99 : UInt8) :: ((97 : UInt8) :: ((99 : UInt8) :: ((104 : UInt8) :: ((101 : UInt8) :: ((45 : UInt8) :: ((99 : UInt8) :: ((111 : UInt8) :: ((110 : UInt8) :: ((116 : UInt8) :: ((114 : UInt8) :: ((111 : UInt8) :: ((108 : UInt8) :: ([] : (List UInt8)))))))))))))))) ((112 : UInt8) :: ((114 : UInt8) :: ((105 : UInt8) :: ((118 : UInt8) :: ((97 : UInt8) :: ((116 : UInt8) :: ((101 : UInt8) :: ([] : (List UInt8)))))))))).2) :: ((AV.bool (fndP (wordsP l ((99 : UInt8) :: ((97 : UInt8) :: ((99 : UInt8) :: ((104 : UInt8) :: ((101 : UInt8) :: ((45 : UInt8) :: ((99 : UInt8) :: ((111 : UInt8) :: ((110 : UInt8) :: ((116 : UInt8) :: ((114 : UInt8) :: ((111 : UInt8) :: ((108 : UInt8) :: ([] : (List UInt8)))))))))))))))) ((112 : UInt8) :: ((117 : UInt8) :: ((98 : UInt8) :: ((108 : UInt8) :: ((105 : UInt8) :: ((99 : UInt8) :: ([] : (List UInt8))))))))).2) :: ((AV.bool (fndP (wordsP l ((99 : UInt8) :: ((97 : UInt8) :: ((99 : UInt8) :: ((104 : UInt8) :: ((101 : UInt8) :: ((45 : UInt8) :: ((99 : UInt8) :: ((111 : UInt8) :: ((110 : UInt8) :: ((116 : UInt8) :: ((114 : UInt8) :: ((111 : UInt8) :: ((108 : UInt8) :: ([] : (List UInt8)))))))))))))))) ((112 : UInt8) :: ((114 : UInt8) :: ((111 : UInt8) :: ((120 : UInt8) :: ((121 : UInt8) :: ((45 : UInt8) :: ((114 : UInt8) :: ((101 : UInt8) :: ((118 : UInt8) :: ((97 : UInt8) :: ((108 : UInt8) :: ((105 : UInt8) :: ((100 : UInt8) :: ((97 : UInt8) :: ((116 : UInt8) :: ((101 : UInt8) :: ([] : (List UInt8))))))))))))))))))).2) :: ((AV.bool (fndP (wordsP l ((99 : UInt8) :: ((97 : UInt8) :: ((99 : UInt8) :: ((104 : UInt8) :: ((101 : UInt8) :: ((45 : UInt8) :: ((99 : UInt8) :: ((111 : UInt8) :: ((110 : UInt8) :: ((116 : UInt8) :: ((114 : UInt8) :: ((111 : UInt8) :: ((108 : UInt8) :: ([] : (List UInt8)))))))))))))))) ((111 : UInt8) :: ((110 : UInt8) :: ((108 : UInt8) :: ((121 : UInt8) :: ((45 : UInt8) :: ((105 : UInt8) :: ((102 : UInt8) :: ((45 : UInt8) :: ((99 : UInt8) :: ((97 : UInt8) :: ((99 : UInt8) :: ((104 : UInt8) :: ((101 : UInt8) :: ((100 : UInt8) :: ([] : (List UInt8))))))))))))))))).2) :: ((AV.int .i64 (numP (wordsP l ((99 : UInt8) :: ((97 : UInt8) :: ((99 : UInt8) :: ((104 : UInt8) :: ((101 : UInt8) :: ((45 : UInt8) :: ((99 : UInt8) :: ((111 : UInt8) :: ((110 : UInt8) :: ((116 : UInt8) :: ((114 : UInt8) :: ((111 : UInt8) :: ((108 : UInt8) :: ([] : (List UInt8)))))))))))))))) ((109 : UInt8) :: ((97 : UInt8) :: ((120 : UInt8) :: ((45 : UInt8) :: ((97 : UInt8) :: ((103 : UInt8) :: ((101 : UInt8) :: ([] : (List UInt8))))))))) (0 : Int) (0 : Int))) :: ((AV.int .i64 (numP (wordsP l ((99 : UInt8) :: ((97 : UInt8) :: ((99 : UInt8) :: ((104 : UInt8) :: ((101 : UInt8) :: ((45 : UInt8) :: ((99 : UInt8) :: ((111 : UInt8) :: ((110 : UInt8) :: ((116 : UInt8) :: ((114 : UInt8) :: ((111 : UInt8) :: ((108 : UInt8) :: ([] : (List UInt8)))))))))))))))) ((115 : UInt8) :: ((45 : UInt8) :: ((109 : UInt8) :: ((97 : UInt8) :: ((120 : UInt8) :: ((97 : UInt8) :: ((103 : UInt8) :: ((101 : UInt8) :: ([] : (List UInt8)))))))))) (0 : Int) (0 : Int))) :: ((AV.int .i64 (numP (wordsP l ((99 : UInt8) :: ((97 : UInt8) :: ((99 : UInt8) :: ((104 : UInt8) :: ((101 : UInt8) :: ((45 : UInt8) :: ((99 : UInt8) :: ((111 : UInt8) :: ((110 : UInt8) :: ((116 : UInt8) :: ((114 : UInt8) :: ((111 : UInt8) :: ((108 : UInt8) :: ([] : (List UInt8)))))))))))))))) ((109 : UInt8) :: ((97 : UInt8) :: ((120 : UInt8) :: ((45 : UInt8) :: ((115 : UInt8) :: ((116 : UInt8) :: ((97 : UInt8) :: ((108 : UInt8) :: ((101 : UInt8) :: ([] : (List UInt8))))))))))) (2147483648 : Int) (0 : Int))) :: ((AV.int .i64 (numP (wordsP l ((99 : UInt8) :: ((97 : UInt8) :: ((99 : UInt8) :: ((104 : UInt8) :: ((101 : UInt8) :: ((45 : UInt8) :: ((99 : UInt8) :: ((111 : UInt8) :: ((110 : UInt8) :: ((116 : UInt8) :: ((114 : UInt8) :: ((111 : UInt8) :: ((108 : UInt8) :: ([] : (List UInt8)))))))))))))))) ((109 : UInt8) :: ((105 : UInt8) :: ((110 : UInt8) :: ((45 : UInt8) :: ((102 : UInt8) :: ((114 : UInt8) :: ((101 : UInt8) :: ((115 : UInt8) :: ((104 : UInt8) :: ([] : (List UInt8))))))))))) (2147483648 : Int) (2147483648 : Int))) :: ([] : (List (AV)))))))))))))), ([] : (List (Ob)))))) else (none)) else (none)) else (none)) else (none)) else (none))) else (none)) else (none)) else (none)) else (none)) else (none)) else (none))
theorem sReadDirs_runL (N : Nat) (l : List Fd) : runL Kx sReadDirs_C sReadDirs_O (sReadDirs_L N) Tryz.f11 ([.sh (.pair .str .str) l]) ([]) = sReadDirs_run N l := by kernel_rfl
theorem sReadDirs_body : Tryz.f11.body = some (codeOf Tryz.f11) := by kernel_rfl
theorem sReadDirs_loops : loops (codeOf Tryz.f11) = [sReadDirs_b12] := by kernel_rfl
theorem sReadDirs_ev (N : Nat) (l : List Fd) {res_ : Rs} (hyp_ : sReadDirs_run N l = some res_) : ∃ n_, runF Kx sReadDirs_C sReadDirs_O n_ Tryz.f11 ([.sh (.pair .str .str) l]) ([]) = some res_ :=
  ⟨N, runL_runF sReadDirs_body (by rw [sReadDirs_loops]; exact List.forall_mem_cons.2 ⟨sReadDirs_ok12 N, fun _ h => nomatch h⟩) ((sReadDirs_runL N l).trans hyp_)⟩
def sReadDirs_sOf (φ : (List Fd) → Br) : List AV → List Ob → Br
  | [.sh (.pair .str .str) l], [] => φ l
  | _, _ => .fail
theorem sReadDirs_okOf {φ : (List Fd) → Br} (fu : (List Fd) → Nat) (hv : ∀ l res_, (φ l).val = some res_ → sReadDirs_run (fu l) l = some res_) : Sound Kx 11 (sReadDirs_sOf φ) := by
  refine sound_run (C := sReadDirs_C) (O := sReadDirs_O) KOk sReadDirs_C_ok Tryz.func11 (by kernel_rfl) fun args objs res os h => ?_
  unfold sReadDirs_sOf at h
  split at h
  · exact sReadDirs_ev _ _ (hv _ _ h)
  · cases h

end
end Go.Proofs.YtdlpacieajdgoaaGreatDoor.Ev

namespace Go.Proofs.YtdlpacieajdgoaaGreatDoor.Ev
open Go Go.RowKit
set_option linter.unusedVariables false
set_option linter.unusedSimpArgs false
noncomputable section

theorem c_ns (b : Bool) (x y : Dr) : (bif b then x else y).ns = bif b then x.ns else y.ns := by cases b <;> rfl
theorem c_nc (b : Bool) (x y : Dr) : (bif b then x else y).nc = bif b then x.nc else y.nc := by cases b <;> rfl
theorem c_pr (b : Bool) (x y : Dr) : (bif b then x else y).pr = bif b then x.pr else y.pr := by cases b <;> rfl
theorem c_pu (b : Bool) (x y : Dr) : (bif b then x else y).pu = bif b then x.pu else y.pu := by cases b <;> rfl
theorem c_mr (b : Bool) (x y : Dr) : (bif b then x else y).mr = bif b then x.mr else y.mr := by cases b <;> rfl
theorem c_oc (b : Bool) (x y : Dr) : (bif b then x else y).oc = bif b then x.oc else y.oc := by cases b <;> rfl
theorem c_ma (b : Bool) (x y : Dr) : (bif b then x else y).ma = bif b then x.ma else y.ma := by cases b <;> rfl
theorem c_sm (b : Bool) (x y : Dr) : (bif b then x else y).sm = bif b then x.sm else y.sm := by cases b <;> rfl
theorem c_ms (b : Bool) (x y : Dr) : (bif b then x else y).ms = bif b then x.ms else y.ms := by cases b <;> rfl
theorem c_mf (b : Bool) (x y : Dr) : (bif b then x else y).mf = bif b then x.mf else y.mf := by cases b <;> rfl
theorem s_ns (d : Dr) (w : Bytes) : (stepD d w).ns = (d.ns || decide ((partP w).1 = kNs)) := by
  by_cases h : (partP w).1 = kNs
  · unfold stepD; rw [h]; simp only [c_ns, decide_true, cond_true, Bool.or_true, Bool.true_or] <;> rfl
  · unfold stepD; simp only [c_ns, decide_eq_false h, cond_false, cond_self, Bool.or_false]
theorem s_nc (d : Dr) (w : Bytes) : (stepD d w).nc = (d.nc || decide ((partP w).1 = kNc)) := by
  by_cases h : (partP w).1 = kNc
  · unfold stepD; rw [h]; simp only [c_nc, decide_true, cond_true, Bool.or_true, Bool.true_or] <;> rfl
  · unfold stepD; simp only [c_nc, decide_eq_false h, cond_false, cond_self, Bool.or_false]
theorem s_pr (d : Dr) (w : Bytes) : (stepD d w).pr = (d.pr || decide ((partP w).1 = kPr)) := by
  by_cases h : (partP w).1 = kPr
  · unfold stepD; rw [h]; simp only [c_pr, decide_true, cond_true, Bool.or_true, Bool.true_or] <;> rfl
  · unfold stepD; simp only [c_pr, decide_eq_false h, cond_false, cond_self, Bool.or_false]
theorem s_pu (d : Dr) (w : Bytes) : (stepD d w).pu = (d.pu || decide ((partP w).1 = kPu)) := by
  by_cases h : (partP w).1 = kPu
  · unfold stepD; rw [h]; simp only [c_pu, decide_true, cond_true, Bool.or_true, Bool.true_or] <;> rfl
  · unfold stepD; simp only [c_pu, decide_eq_false h, cond_false, cond_self, Bool.or_false]
theorem s_oc (d : Dr) (w : Bytes) : (stepD d w).oc = (d.oc || decide ((partP w).1 = kOc)) := by
  by_cases h : (partP w).1 = kOc
  · unfold stepD; rw [h]; simp only [c_oc, decide_true, cond_true, Bool.or_true, Bool.true_or] <;> rfl
  · unfold stepD; simp only [c_oc, decide_eq_false h, cond_false, cond_self, Bool.or_false]
theorem s_mr (d : Dr) (w : Bytes) : (stepD d w).mr = (d.mr || (decide ((partP w).1 = kMr) || decide ((partP w).1 = kPx))) := by
  by_cases h : (partP w).1 = kMr
  · unfold stepD; rw [h]; simp only [c_mr, decide_true, cond_true, Bool.or_true, Bool.true_or] <;> rfl
  · by_cases h2 : (partP w).1 = kPx
    · unfold stepD; rw [h2]; simp only [c_mr, decide_true, cond_true, Bool.or_true, Bool.true_or] <;> rfl
    · unfold stepD; simp only [c_mr, decide_eq_false h, decide_eq_false h2, cond_false, cond_self, Bool.or_false]
theorem s_ma (d : Dr) (w : Bytes) : (stepD d w).ma = bif decide ((partP w).1 = kMa) then set1 d.ma (orP (partP w).2 0) else d.ma := by
  by_cases h : (partP w).1 = kMa
  · unfold stepD; rw [h]; simp only [c_ma, decide_true, cond_true, Bool.or_true, Bool.true_or] <;> rfl
  · unfold stepD; simp only [c_ma, decide_eq_false h, cond_false, cond_self]
theorem s_sm (d : Dr) (w : Bytes) : (stepD d w).sm = bif decide ((partP w).1 = kSm) then set1 d.sm (orP (partP w).2 0) else d.sm := by
  by_cases h : (partP w).1 = kSm
  · unfold stepD; rw [h]; simp only [c_sm, decide_true, cond_true, Bool.or_true, Bool.true_or] <;> rfl
  · unfold stepD; simp only [c_sm, decide_eq_false h, cond_false, cond_self]
theorem s_ms (d : Dr) (w : Bytes) : (stepD d w).ms = bif decide ((partP w).1 = kMs) then set1 d.ms (bif decide ((partP w).2 = []) then 2147483648 else orP (partP w).2 0) else d.ms := by
  by_cases h : (partP w).1 = kMs
  · unfold stepD; rw [h]; simp only [c_ms, decide_true, cond_true]
    cases decide ((partP w).2 = []) <;> rfl
  · unfold stepD; simp only [c_ms, decide_eq_false h, cond_false, cond_self]
theorem s_mf (d : Dr) (w : Bytes) : (stepD d w).mf = bif decide ((partP w).1 = kMf) then set1 d.mf (orP (partP w).2 2147483648) else d.mf := by
  by_cases h : (partP w).1 = kMf
  · unfold stepD; rw [h]; simp only [c_mf, decide_true, cond_true, Bool.or_true, Bool.true_or] <;> rfl
  · unfold stepD; simp only [c_mf, decide_eq_false h, cond_false, cond_self]
end
end Go.Proofs.YtdlpacieajdgoaaGreatDoor.Ev

namespace Go.Proofs.YtdlpacieajdgoaaGreatDoor.Ev
open Go Go.RowKit
set_option linter.unusedVariables false
set_option linter.unusedSimpArgs false
noncomputable section

theorem f_flag (get : Dr → Bool) (k : Bytes) (h : ∀ d w, get (stepD d w) = (get d || decide ((partP w).1 = k))) : ∀ (ws : List Bytes) (d : Dr), get (ws.foldl stepD d) = (get d || (fndP ws k).2)
  | [], d => by simp [fndP]
  | w :: r, d => by
    rw [List.foldl_cons, f_flag get k h r, h, fnd_cons]
    cases decide ((partP w).1 = k) <;> simp
theorem f_flag2 (get : Dr → Bool) (k k' : Bytes) (h : ∀ d w, get (stepD d w) = (get d || (decide ((partP w).1 = k) || decide ((partP w).1 = k')))) : ∀ (ws : List Bytes) (d : Dr), get (ws.foldl stepD d) = (get d || ((fndP ws k).2 || (fndP ws k').2))
  | [], d => by simp [fndP]
  | w :: r, d => by
    rw [List.foldl_cons, f_flag2 get k k' h r, h, fnd_cons, fnd_cons]
    cases decide ((partP w).1 = k) <;> cases decide ((partP w).1 = k') <;> simp
theorem deltaN_nn : ∀ (r : Bytes) (n : Int), 0 ≤ n → n ≤ 2147483648 → allP isDig r = true → 0 ≤ deltaN r n
  | [], n, h, _, _ => h
  | a :: r, n, h0, h1, ha => by
    have hall : allP isDig (a :: r) = (isDig (by8 a) && allP isDig r) := rfl
    rw [hall, Bool.and_eq_true] at ha
    have := clamp_bd h0 h1 ha.1
    exact deltaN_nn r (clampD n a) this.1 this.2 ha.2
theorem delta_nn (s : Bytes) : 0 ≤ (deltaP s).1 := by
  unfold deltaP
  cases decide (s = [])
  · cases ha : allP isDig s
    · exact Int.le_refl 0
    · exact deltaN_nn s 0 (by decide) (by decide) ha
  · exact Int.le_refl 0
theorem f_num (get : Dr → Int) (k : Bytes) (a b : Int) (v : Bytes → Int) (h : ∀ d w, get (stepD d w) = bif decide ((partP w).1 = k) then set1 (get d) (v w) else get d) (ha : 0 ≤ a) (hb : 0 ≤ b)
    (hv : ∀ w, v w = bif (deltaP (partP w).2).2 then (deltaP (partP w).2).1 else bif decide ((partP w).2 = []) then a else b) : ∀ (ws : List Bytes) (d : Dr), -1 ≤ get d → get (ws.foldl stepD d) = set1 (get d) (numP ws k a b)
  | [], d, hd => by
    have e : numP [] k a b = -1 := rfl
    rw [List.foldl_nil, e]
    unfold set1
    by_cases c : get d < 0
    · rw [decide_eq_true c, cond_true]; omega
    · rw [decide_eq_false c, cond_false]
  | w :: r, d, hd => by
    have hp : 0 ≤ v w := by
      rw [hv]
      cases (deltaP (partP w).2).2
      · cases decide ((partP w).2 = [])
        · exact hb
        · exact ha
      · exact delta_nn _
    have hn : numP (w :: r) k a b = bif decide ((partP w).1 = k) then v w else numP r k a b := by
      unfold numP
      rw [fnd_cons, hv]
      cases decide ((partP w).1 = k) <;> rfl
    have hs : get (stepD d w) = bif decide ((partP w).1 = k) then set1 (get d) (v w) else get d := h d w
    have hd' : -1 ≤ get (stepD d w) := by
      rw [hs]
      cases decide ((partP w).1 = k)
      · exact hd
      · unfold set1
        cases decide (get d < 0)
        · exact hd
        · show -1 ≤ v w; omega
    rw [List.foldl_cons, f_num get k a b v h ha hb hv r _ hd', hs, hn]
    cases decide ((partP w).1 = k)
    · rfl
    · simp only [cond_true]
      unfold set1
      by_cases c : get d < 0
      · simp only [decide_eq_true c, cond_true]
        rw [decide_eq_false (by omega : ¬ v w < 0), cond_false]
      · simp only [decide_eq_false c, cond_false]
theorem or_num (v : Bytes) (n : Int) : orP v n = bif (deltaP v).2 then (deltaP v).1 else bif decide (v = []) then n else n := by unfold orP; rw [cond_self]
theorem ms_num (v : Bytes) : (bif decide (v = []) then 2147483648 else orP v 0) = bif (deltaP v).2 then (deltaP v).1 else bif decide (v = []) then 2147483648 else 0 := by
  by_cases h : v = []
  · subst h; rfl
  · rw [decide_eq_false h]; rfl
/-- Each by its first word. -/
def dirsQ (ws : List Bytes) : Dr := ⟨(fndP ws kNs).2, (fndP ws kNc).2, (fndP ws kPr).2, (fndP ws kPu).2, (fndP ws kMr).2 || (fndP ws kPx).2, (fndP ws kOc).2, numP ws kMa 0 0, numP ws kSm 0 0, numP ws kMs 2147483648 0, numP ws kMf 2147483648 2147483648⟩
theorem dr_eq {x y : Dr} (h1 : x.ns = y.ns) (h2 : x.nc = y.nc) (h3 : x.pr = y.pr) (h4 : x.pu = y.pu) (h5 : x.mr = y.mr) (h6 : x.oc = y.oc) (h7 : x.ma = y.ma) (h8 : x.sm = y.sm) (h9 : x.ms = y.ms) (h10 : x.mf = y.mf) : x = y := by
  cases x; cases y; simp_all
theorem fold_dirs (ws : List Bytes) : ws.foldl stepD d0 = dirsQ ws := by
  refine dr_eq ?_ ?_ ?_ ?_ ?_ ?_ ?_ ?_ ?_ ?_
  · rw [f_flag Dr.ns kNs s_ns]; rfl
  · rw [f_flag Dr.nc kNc s_nc]; rfl
  · rw [f_flag Dr.pr kPr s_pr]; rfl
  · rw [f_flag Dr.pu kPu s_pu]; rfl
  · rw [f_flag2 Dr.mr kMr kPx s_mr]; rfl
  · rw [f_flag Dr.oc kOc s_oc]; rfl
  · rw [f_num Dr.ma kMa 0 0 (fun w => orP (partP w).2 0) s_ma (by decide) (by decide) (fun w => or_num _ _) ws d0 (by decide)]; rfl
  · rw [f_num Dr.sm kSm 0 0 (fun w => orP (partP w).2 0) s_sm (by decide) (by decide) (fun w => or_num _ _) ws d0 (by decide)]; rfl
  · rw [f_num Dr.ms kMs 2147483648 0 (fun w => bif decide ((partP w).2 = []) then 2147483648 else orP (partP w).2 0) s_ms (by decide) (by decide) (fun w => ms_num _) ws d0 (by decide)]; rfl
  · rw [f_num Dr.mf kMf 2147483648 2147483648 (fun w => orP (partP w).2 2147483648) s_mf (by decide) (by decide) (fun w => or_num _ _) ws d0 (by decide)]; rfl
theorem words_no {l : List Fd} (h : fdsOk l = false) (name : Bytes) : wordsP l name = [] := by
  unfold wordsP joinedP vals
  rw [h]; rfl
/-- The directives, as the reference reads them. -/
theorem dirs_eq (l : List Fd) : dirsP l = bif !hasP l nCc then { dirsQ (wordsP l nCc) with nc := (dirsQ (wordsP l nCc)).nc || (wordsP l nPg).any fun x => decide (foldP x = kNc) } else dirsQ (wordsP l nCc) := by
  unfold dirsP
  rw [fold_dirs]
  cases hf : fdsOk l
  · rw [words_no hf nPg]
    simp only [Bool.false_and, cond_false, List.any_nil, Bool.or_false]
    exact (cond_self _ _).symm
  · rfl
end
end Go.Proofs.YtdlpacieajdgoaaGreatDoor.Ev

namespace Go.Proofs.YtdlpacieajdgoaaGreatDoor.Ev
open Go Go.RowKit
set_option linter.unusedVariables false
set_option linter.unusedSimpArgs false
noncomputable section

theorem sReadDirs_loop (t1 t2 t3 t4 t5 t6 : Bool) (n1 n2 n3 n4 : Int) (ws : List Bytes) (hl : ws.length ≤ 100000) (k : Bool → Bool → Bool → Bool → Bool → Bool → Int → Int → Int → Int → Bool → Bool → Bool → Bool → Bool → Bool → Int → Int → Int → Int → Option Rs) (K : Dr → Option Rs)
    (hk : ∀ a b c d e f g h i j, k t1 t2 t3 t4 t5 t6 n1 n2 n3 n4 a b c d e f g h i j = K ⟨a, b, c, d, e, f, g, h, i, j⟩) : ∀ (r : List Bytes) (i : Int) (n : Nat) (a b c d e f : Bool) (g h u v : Int), At ws i r → r.length < n → (∀ x ∈ r, isM x = true) →
    sReadDirs_F12 n i t1 t2 t3 t4 t5 t6 n1 n2 n3 n4 a b c d e f g h u v ws k = K ⟨a, b || r.any fun x => decide (foldP x = kNc), c, d, e, f, g, h, u, v⟩ := by
  intro r; induction r with
  | nil => intro i n a b c d e f g h u v hat hn hf; obtain ⟨n, rfl⟩ := fuel hn; unfold sReadDirs_F12 sReadDirs_T12; simp only [hat.dge, cond_false, hk, List.any_nil, Bool.or_false]
  | cons w r ih =>
    intro i n a b c d e f g h u v hat hn hf; obtain ⟨n, rfl⟩ := fuel hn
    simp only [List.length_cons] at hn
    have hG := fun b => ih (i + 1) n a b c d e f g h u v hat.step (by omega) fun x hx => hf x (List.mem_cons_of_mem _ hx)
    unfold sReadDirs_F12 sReadDirs_T12
    simp only [hat.dlt, hat.dnn, hat.get, hat.next (by omega), hf w (List.mem_cons_self ..), hG, cond_true, List.any_cons]
    show (bif b then _ else K ⟨a, decide (foldP w = kNc) || _, c, d, e, f, g, h, u, v⟩) = _
    cases b
    · rw [cond_false]; simp only [Bool.false_or]
    · rw [cond_true]; simp only [Bool.true_or]
theorem sReadDirs_okQ : Sound Kx 11 (fl_s fun l => drA (dirsP l)) := by
  refine (sReadDirs_okOf (φ := fun l => .ret (drA (dirsP l)) []) (fun l => (wordsP l nPg).length + 1) fun l r h => ?_).of fun args objs r h => ?_
  · cases h
    obtain ⟨h2, h3⟩ := words_bd l nPg
    have hw : wsOk (wordsP l [99, 97, 99, 104, 101, 45, 99, 111, 110, 116, 114, 111, 108]) = true := words_ok l nCc
    have big := fun (a b c d e f : Bool) (g h u v : Int) => sReadDirs_loop false false false false false false 0 0 0 0 (wordsP l nPg) (by omega) (fun _ _ _ _ _ _ _ _ _ _ a b c d e f g h i j => some (drA ⟨a, b, c, d, e, f, g, h, i, j⟩, [])) (fun d => some (drA d, [])) (fun _ _ _ _ _ _ _ _ _ _ => rfl) (wordsP l nPg) 0 ((wordsP l nPg).length + 1) a b c d e f g h u v (At.start _) (by omega) h3
    rw [dirs_eq]
    unfold sReadDirs_run
    simp only [hw, cond_true]
    cases hm : (fndP (wordsP l nCc) kMr).2
    · have hm' : (fndP (wordsP l [99, 97, 99, 104, 101, 45, 99, 111, 110, 116, 114, 111, 108]) [109, 117, 115, 116, 45, 114, 101, 118, 97, 108, 105, 100, 97, 116, 101]).2 = false := hm
      simp only [hm', cond_false]
      cases hh : hasP l nCc
      · have hh' : hasP l [99, 97, 99, 104, 101, 45, 99, 111, 110, 116, 114, 111, 108] = false := hh
        simp only [hh', Bool.not_false, cond_true]
        unfold dirsQ
        rw [hm]
        exact big _ _ _ _ _ _ _ _ _ _
      · have hh' : hasP l [99, 97, 99, 104, 101, 45, 99, 111, 110, 116, 114, 111, 108] = true := hh
        simp only [hh', Bool.not_true, cond_false]
        unfold dirsQ
        rw [hm]
        rfl
    · have hm' : (fndP (wordsP l [99, 97, 99, 104, 101, 45, 99, 111, 110, 116, 114, 111, 108]) [109, 117, 115, 116, 45, 114, 101, 118, 97, 108, 105, 100, 97, 116, 101]).2 = true := hm
      simp only [hm', cond_true]
      cases hh : hasP l nCc
      · have hh' : hasP l [99, 97, 99, 104, 101, 45, 99, 111, 110, 116, 114, 111, 108] = false := hh
        simp only [hh', Bool.not_false, cond_true]
        unfold dirsQ
        rw [hm]
        exact big _ _ _ _ _ _ _ _ _ _
      · have hh' : hasP l [99, 97, 99, 104, 101, 45, 99, 111, 110, 116, 114, 111, 108] = true := hh
        simp only [hh', Bool.not_true, cond_false]
        unfold dirsQ
        rw [hm]
        rfl
  · unfold fl_s at h; split at h
    · exact h
    · cases h
end
end Go.Proofs.YtdlpacieajdgoaaGreatDoor.Ev

namespace Go.Proofs.YtdlpacieajdgoaaGreatDoor.Ev
open Go Go.RowKit
set_option linter.unusedVariables false
set_option linter.unusedSimpArgs false
noncomputable section

/-! impl.Storable -/
def iStorable_O : Opt := { cons := [], keepNil := false, mutF := [], live := [], outs := [], split := true }
def iStorable_C : Spec := (add (add (add (add (add (add noS 17 mgOk_s) 18 (fl_s fun l => drA (dirsP l))) 20 vaR_s) 19 coS_s) 21 has2_s) 22 (pn_s gueP))
theorem iStorable_C_ok : ∀ fn, Sound Kx fn (iStorable_C fn) := (sound_add (sound_add (sound_add (sound_add (sound_add (sound_add (sound_no Kx) iMsgOk_okQ) iReadDirs_okQ) iVary_okQ) conS_okQ) iHas_okQ) iGuessed_okQ)
def iStorable_br (me ta : Bytes) (st : Int) (re : Bytes) (ba : Bool) (fs : List Fd) (bo : Bytes) (me2 ta2 : Bytes) (st2 : Int) (re2 : Bytes) (ba2 : Bool) (fs2 : List Fd) (bo2 : Bytes) : Br := (Br.ite (!(msgOkP me ta st re ba fs bo)) (Br.ret (AV.bool false) ([] : (List (Ob)))) (Br.ite (!(msgOkP me2 ta2 st2 re2 ba2 fs2 bo2)) (Br.ret (AV.bool false) ([] : (List (Ob)))) (Br.ite (!(decide (me = ((71 : UInt8) :: ((69 : UInt8) :: ((84 : UInt8) :: ([] : (List UInt8)))))))) (Br.ret (AV.bool false) ([] : (List (Ob)))) (Br.ite (!(decide (me2 = ([] : (List UInt8))))) (Br.ret (AV.bool false) ([] : (List (Ob)))) (Br.ite ba2 (Br.ret (AV.bool false) ([] : (List (Ob)))) (Br.ite (decide (st2 = (206 : Int))) (Br.ret (AV.bool false) ([] : (List (Ob)))) (Br.ite (dirsP fs2).1 (Br.ret (AV.bool false) ([] : (List (Ob)))) (Br.ite (dirsP fs).1 (Br.ret (AV.bool false) ([] : (List (Ob)))) (Br.ite (dirsP fs2).3 (Br.ret (AV.bool false) ([] : (List (Ob)))) (Br.ite (decide ((List.length (varyP fs2)) ≤ (1000000 : Nat))) (Br.ite (inP (varyP fs2) ((42 : UInt8) :: ([] : (List UInt8)))) (Br.ret (AV.bool false) ([] : (List (Ob)))) (Br.ite (hasP fs ((97 : UInt8) :: ((117 : UInt8) :: ((116 : UInt8) :: ((104 : UInt8) :: ((111 : UInt8) :: ((114 : UInt8) :: ((105 : UInt8) :: ((122 : UInt8) :: ((97 : UInt8) :: ((116 : UInt8) :: ((105 : UInt8) :: ((111 : UInt8) :: ((110 : UInt8) :: ([] : (List UInt8)))))))))))))))) (Br.ite (!(dirsP fs2).4) (Br.ite (!(dirsP fs2).5) (Br.ite (decide ((dirsP fs2).8 < (0 : Int))) (Br.ret (AV.bool false) ([] : (List (Ob)))) (Br.ite (gueP st2) (Br.ret (AV.bool true) ([] : (List (Ob)))) (Br.ite (dirsP fs2).4 (Br.ret (AV.bool true) ([] : (List (Ob)))) (Br.ite (decide ((0 : Int) ≤ (dirsP fs2).7)) (Br.ret (AV.bool true) ([] : (List (Ob)))) (Br.ite (decide ((0 : Int) ≤ (dirsP fs2).8)) (Br.ret (AV.bool true) ([] : (List (Ob)))) (Br.ret (AV.bool (hasP fs2 ((101 : UInt8) :: ((120 : UInt8) :: ((112 : UInt8) :: ((105 : UInt8) :: ((114 : UInt8) :: ((101 : UInt8) :: ((115 : UInt8) :: ([] : (List UInt8))))))))))) ([] : (List (Ob))))))))) (Br.ite (gueP st2) (Br.ret (AV.bool true) ([] : (List (Ob)))) (Br.ite (dirsP fs2).4 (Br.ret (AV.bool true) ([] : (List (Ob)))) (Br.ite (decide ((0 : Int) ≤ (dirsP fs2).7)) (Br.ret (AV.bool true) ([] : (List (Ob)))) (Br.ite (decide ((0 : Int) ≤ (dirsP fs2).8)) (Br.ret (AV.bool true) ([] : (List (Ob)))) (Br.ret (AV.bool (hasP fs2 ((101 : UInt8) :: ((120 : UInt8) :: ((112 : UInt8) :: ((105 : UInt8) :: ((114 : UInt8) :: ((101 : UInt8) :: ((115 : UInt8) :: ([] : (List UInt8))))))))))) ([] : (List (Ob))))))))) (Br.ite (gueP st2) (Br.ret (AV.bool true) ([] : (List (Ob)))) (Br.ite (dirsP fs2).4 (Br.ret (AV.bool true) ([] : (List (Ob)))) (Br.ite (decide ((0 : Int) ≤ (dirsP fs2).7)) (Br.ret (AV.bool true) ([] : (List (Ob)))) (Br.ite (decide ((0 : Int) ≤ (dirsP fs2).8)) (Br.ret (AV.bool true) ([] : (List (Ob)))) (Br.ret (AV.bool (hasP fs2 ((101 : UInt8) :: ((120 : UInt8) :: ((112 : UInt8) :: ((105 : UInt8) :: ((114 : UInt8) :: ((101 : UInt8) :: ((115 : UInt8) :: ([] : (List UInt8))))))))))) ([] : (List (Ob))))))))) (Br.ite (gueP st2) (Br.ret (AV.bool true) ([] : (List (Ob)))) (Br.ite (dirsP fs2).4 (Br.ret (AV.bool true) ([] : (List (Ob)))) (Br.ite (decide ((0 : Int) ≤ (dirsP fs2).7)) (Br.ret (AV.bool true) ([] : (List (Ob)))) (Br.ite (decide ((0 : Int) ≤ (dirsP fs2).8)) (Br.ret (AV.bool true) ([] : (List (Ob)))) (Br.ret (AV.bool (hasP fs2 ((101 : UInt8) :: ((120 : UInt8) :: ((112 : UInt8) :: ((105 : UInt8) :: ((114 : UInt8) :: ((101 : UInt8) :: ((115 : UInt8) :: ([] : (List UInt8))))))))))) ([] : (List (Ob)))))))))) Br.fail))))))))))
theorem iStorable_run (me ta : Bytes) (st : Int) (re : Bytes) (ba : Bool) (fs : List Fd) (bo : Bytes) (me2 ta2 : Bytes) (st2 : Int) (re2 : Bytes) (ba2 : Bool) (fs2 : List Fd) (bo2 : Bytes) : runF Kx iStorable_C iStorable_O 1 Tryz.f7 ([.agg [.str me, .str ta, .int .i64 st, .str re, .bool ba, .sh (.pair .str .str) fs, .str bo], .agg [.str me2, .str ta2, .int .i64 st2, .str re2, .bool ba2, .sh (.pair .str .str) fs2, .str bo2]]) ([]) = (iStorable_br me ta st re ba fs bo me2 ta2 st2 re2 ba2 fs2 bo2).val := by kernel_rfl
def iStorable_s : List AV → List Ob → Br
  | [.agg [.str me, .str ta, .int .i64 st, .str re, .bool ba, .sh (.pair .str .str) fs, .str bo], .agg [.str me2, .str ta2, .int .i64 st2, .str re2, .bool ba2, .sh (.pair .str .str) fs2, .str bo2]], [] => iStorable_br me ta st re ba fs bo me2 ta2 st2 re2 ba2 fs2 bo2
  | _, _ => .fail
theorem iStorable_ok : Sound Kx 7 iStorable_s := by
  refine sound_run (C := iStorable_C) (O := iStorable_O) KOk iStorable_C_ok Tryz.func7 (by kernel_rfl) fun args objs res os h => ?_
  unfold iStorable_s at h
  split at h
  · exact ⟨1, (iStorable_run _ _ _ _ _ _ _ _ _ _ _ _ _ _).trans h⟩
  · cases h

/-! spec.Storable -/
def sStorable_O : Opt := { cons := [], keepNil := false, mutF := [], live := [], outs := [], split := true }
def sStorable_C : Spec := (add (add (add (add (add (add noS 10 mgOk_s) 11 (fl_s fun l => drA (dirsP l))) 13 vaS_s) 12 in_s) 14 sL14has_s) 15 (pn_s gueP))
theorem sStorable_C_ok : ∀ fn, Sound Kx fn (sStorable_C fn) := (sound_add (sound_add (sound_add (sound_add (sound_add (sound_add (sound_no Kx) sMsgOk_okQ) sReadDirs_okQ) sVary_okQ) sl5in_okQ) sL14has_ok) sGuessed_okQ)
def sStorable_br (me ta : Bytes) (st : Int) (re : Bytes) (ba : Bool) (fs : List Fd) (bo : Bytes) (me2 ta2 : Bytes) (st2 : Int) (re2 : Bytes) (ba2 : Bool) (fs2 : List Fd) (bo2 : Bytes) : Br := (Br.ite (!(msgOkP me ta st re ba fs bo)) (Br.ret (AV.bool false) ([] : (List (Ob)))) (Br.ite (!(msgOkP me2 ta2 st2 re2 ba2 fs2 bo2)) (Br.ret (AV.bool false) ([] : (List (Ob)))) (Br.ite (!(decide (me = ((71 : UInt8) :: ((69 : UInt8) :: ((84 : UInt8) :: ([] : (List UInt8)))))))) (Br.ret (AV.bool false) ([] : (List (Ob)))) (Br.ite (!(decide (me2 = ([] : (List UInt8))))) (Br.ret (AV.bool false) ([] : (List (Ob)))) (Br.ite ba2 (Br.ret (AV.bool false) ([] : (List (Ob)))) (Br.ite (decide (st2 = (206 : Int))) (Br.ret (AV.bool false) ([] : (List (Ob)))) (Br.ite (dirsP fs2).1 (Br.ret (AV.bool false) ([] : (List (Ob)))) (Br.ite (dirsP fs2).3 (Br.ret (AV.bool false) ([] : (List (Ob)))) (Br.ite (dirsP fs).1 (Br.ret (AV.bool false) ([] : (List (Ob)))) (Br.ite (decide ((List.length (varyP fs2)) ≤ (1000000 : Nat))) (Br.ite (inP (varyP fs2) ((42 : UInt8) :: ([] : (List UInt8)))) (Br.ret (AV.bool false) ([] : (List (Ob)))) (Br.ite (hasP fs ((97 : UInt8) :: ((117 : UInt8) :: ((116 : UInt8) :: ((104 : UInt8) :: ((111 : UInt8) :: ((114 : UInt8) :: ((105 : UInt8) :: ((122 : UInt8) :: ((97 : UInt8) :: ((116 : UInt8) :: ((105 : UInt8) :: ((111 : UInt8) :: ((110 : UInt8) :: ([] : (List UInt8)))))))))))))))) (Br.ite (!(dirsP fs2).4) (Br.ite (!(dirsP fs2).5) (Br.ite (decide ((dirsP fs2).8 < (0 : Int))) (Br.ret (AV.bool false) ([] : (List (Ob)))) (Br.ite (gueP st2) (Br.ret (AV.bool true) ([] : (List (Ob)))) (Br.ite (dirsP fs2).4 (Br.ret (AV.bool true) ([] : (List (Ob)))) (Br.ite (decide ((0 : Int) ≤ (dirsP fs2).7)) (Br.ret (AV.bool true) ([] : (List (Ob)))) (Br.ite (decide ((0 : Int) ≤ (dirsP fs2).8)) (Br.ret (AV.bool true) ([] : (List (Ob)))) (Br.ret (AV.bool (hasP fs2 ((101 : UInt8) :: ((120 : UInt8) :: ((112 : UInt8) :: ((105 : UInt8) :: ((114 : UInt8) :: ((101 : UInt8) :: ((115 : UInt8) :: ([] : (List UInt8))))))))))) ([] : (List (Ob))))))))) (Br.ite (gueP st2) (Br.ret (AV.bool true) ([] : (List (Ob)))) (Br.ite (dirsP fs2).4 (Br.ret (AV.bool true) ([] : (List (Ob)))) (Br.ite (decide ((0 : Int) ≤ (dirsP fs2).7)) (Br.ret (AV.bool true) ([] : (List (Ob)))) (Br.ite (decide ((0 : Int) ≤ (dirsP fs2).8)) (Br.ret (AV.bool true) ([] : (List (Ob)))) (Br.ret (AV.bool (hasP fs2 ((101 : UInt8) :: ((120 : UInt8) :: ((112 : UInt8) :: ((105 : UInt8) :: ((114 : UInt8) :: ((101 : UInt8) :: ((115 : UInt8) :: ([] : (List UInt8))))))))))) ([] : (List (Ob))))))))) (Br.ite (gueP st2) (Br.ret (AV.bool true) ([] : (List (Ob)))) (Br.ite (dirsP fs2).4 (Br.ret (AV.bool true) ([] : (List (Ob)))) (Br.ite (decide ((0 : Int) ≤ (dirsP fs2).7)) (Br.ret (AV.bool true) ([] : (List (Ob)))) (Br.ite (decide ((0 : Int) ≤ (dirsP fs2).8)) (Br.ret (AV.bool true) ([] : (List (Ob)))) (Br.ret (AV.bool (hasP fs2 ((101 : UInt8) :: ((120 : UInt8) :: ((112 : UInt8) :: ((105 : UInt8) :: ((114 : UInt8) :: ((101 : UInt8) :: ((115 : UInt8) :: ([] : (List UInt8))))))))))) ([] : (List (Ob))))))))) (Br.ite (gueP st2) (Br.ret (AV.bool true) ([] : (List (Ob)))) (Br.ite (dirsP fs2).4 (Br.ret (AV.bool true) ([] : (List (Ob)))) (Br.ite (decide ((0 : Int) ≤ (dirsP fs2).7)) (Br.ret (AV.bool true) ([] : (List (Ob)))) (Br.ite (decide ((0 : Int) ≤ (dirsP fs2).8)) (Br.ret (AV.bool true) ([] : (List (Ob)))) (Br.ret (AV.bool (hasP fs2 ((101 : UInt8) :: ((120 : UInt8) :: ((112 : UInt8) :: ((105 : UInt8) :: ((114 : UInt8) :: ((101 : UInt8) :: ((115 : UInt8) :: ([] : (List UInt8))))))))))) ([] : (List (Ob)))))))))) Br.fail))))))))))
theorem sStorable_run (me ta : Bytes) (st : Int) (re : Bytes) (ba : Bool) (fs : List Fd) (bo : Bytes) (me2 ta2 : Bytes) (st2 : Int) (re2 : Bytes) (ba2 : Bool) (fs2 : List Fd) (bo2 : Bytes) : runF Kx sStorable_C sStorable_O 1 Tryz.f5 ([.agg [.str me, .str ta, .int .i64 st, .str re, .bool ba, .sh (.pair .str .str) fs, .str bo], .agg [.str me2, .str ta2, .int .i64 st2, .str re2, .bool ba2, .sh (.pair .str .str) fs2, .str bo2]]) ([]) = (sStorable_br me ta st re ba fs bo me2 ta2 st2 re2 ba2 fs2 bo2).val := by kernel_rfl
def sStorable_s : List AV → List Ob → Br
  | [.agg [.str me, .str ta, .int .i64 st, .str re, .bool ba, .sh (.pair .str .str) fs, .str bo], .agg [.str me2, .str ta2, .int .i64 st2, .str re2, .bool ba2, .sh (.pair .str .str) fs2, .str bo2]], [] => sStorable_br me ta st re ba fs bo me2 ta2 st2 re2 ba2 fs2 bo2
  | _, _ => .fail
theorem sStorable_ok : Sound Kx 5 sStorable_s := by
  refine sound_run (C := sStorable_C) (O := sStorable_O) KOk sStorable_C_ok Tryz.func5 (by kernel_rfl) fun args objs res os h => ?_
  unfold sStorable_s at h
  split at h
  · exact ⟨1, (sStorable_run _ _ _ _ _ _ _ _ _ _ _ _ _ _).trans h⟩
  · cases h

end
end Go.Proofs.YtdlpacieajdgoaaGreatDoor.Ev

namespace Go.Proofs.YtdlpacieajdgoaaGreatDoor.Ev
open Go Go.RowKit
set_option linter.unusedVariables false
set_option linter.unusedSimpArgs false
noncomputable section

def nAut : Bytes := [97, 117, 116, 104, 111, 114, 105, 122, 97, 116, 105, 111, 110]
def nExp : Bytes := [101, 120, 112, 105, 114, 101, 115]
def stoB (me ta : Bytes) (st : Int) (re : Bytes) (ba : Bool) (fs : List Fd) (bo : Bytes) (me2 ta2 : Bytes) (st2 : Int) (re2 : Bytes) (ba2 : Bool) (fs2 : List Fd) (bo2 : Bytes) : Bool :=
  msgOkP me ta st re ba fs bo && msgOkP me2 ta2 st2 re2 ba2 fs2 bo2 && decide (me = [71, 69, 84]) && decide (me2 = []) && !ba2 && !decide (st2 = 206) && !(dirsP fs2).ns && !(dirsP fs2).pr && !(dirsP fs).ns && !inP (varyP fs2) [42] &&
  !(hasP fs nAut && !(dirsP fs2).pu && !(dirsP fs2).mr && decide ((dirsP fs2).sm < 0)) && (gueP st2 || (dirsP fs2).pu || decide (0 ≤ (dirsP fs2).ma) || decide (0 ≤ (dirsP fs2).sm) || hasP fs2 nExp)
theorem iSto_val (me ta : Bytes) (st : Int) (re : Bytes) (ba : Bool) (fs : List Fd) (bo : Bytes) (me2 ta2 : Bytes) (st2 : Int) (re2 : Bytes) (ba2 : Bool) (fs2 : List Fd) (bo2 : Bytes) :
    (iStorable_br me ta st re ba fs bo me2 ta2 st2 re2 ba2 fs2 bo2).val = some (.bool (stoB me ta st re ba fs bo me2 ta2 st2 re2 ba2 fs2 bo2), []) := by
  have hv : decide ((varyP fs2).length ≤ 1000000) = true := dle' (by have := vary_len fs2; omega)
  unfold iStorable_br stoB
  rw [hv]
  cases msgOkP me ta st re ba fs bo
  · rfl
  cases msgOkP me2 ta2 st2 re2 ba2 fs2 bo2
  · rfl
  cases decide (me = [71, 69, 84])
  · rfl
  cases decide (me2 = [])
  · rfl
  cases ba2
  case true => rfl
  cases decide (st2 = 206)
  case true => rfl
  cases (dirsP fs2).ns
  case true => rfl
  cases (dirsP fs).ns
  case true => cases (dirsP fs2).pr <;> rfl
  cases (dirsP fs2).pr
  case true => rfl
  cases inP (varyP fs2) [42]
  case true => rfl
  unfold nAut nExp
  cases hasP fs [97, 117, 116, 104, 111, 114, 105, 122, 97, 116, 105, 111, 110] <;> cases (dirsP fs2).pu <;> cases (dirsP fs2).mr <;> cases decide ((dirsP fs2).sm < 0) <;> cases gueP st2 <;> cases decide (0 ≤ (dirsP fs2).ma) <;> cases decide (0 ≤ (dirsP fs2).sm) <;> rfl
theorem sSto_val (me ta : Bytes) (st : Int) (re : Bytes) (ba : Bool) (fs : List Fd) (bo : Bytes) (me2 ta2 : Bytes) (st2 : Int) (re2 : Bytes) (ba2 : Bool) (fs2 : List Fd) (bo2 : Bytes) :
    (sStorable_br me ta st re ba fs bo me2 ta2 st2 re2 ba2 fs2 bo2).val = some (.bool (stoB me ta st re ba fs bo me2 ta2 st2 re2 ba2 fs2 bo2), []) := by
  have hv : decide ((varyP fs2).length ≤ 1000000) = true := dle' (by have := vary_len fs2; omega)
  unfold sStorable_br stoB
  rw [hv]
  cases msgOkP me ta st re ba fs bo
  · rfl
  cases msgOkP me2 ta2 st2 re2 ba2 fs2 bo2
  · rfl
  cases decide (me = [71, 69, 84])
  · rfl
  cases decide (me2 = [])
  · rfl
  cases ba2
  case true => rfl
  cases decide (st2 = 206)
  case true => rfl
  cases (dirsP fs2).ns
  case true => rfl
  cases (dirsP fs2).pr
  case true => rfl
  cases (dirsP fs).ns
  case true => rfl
  cases inP (varyP fs2) [42]
  case true => rfl
  unfold nAut nExp
  cases hasP fs [97, 117, 116, 104, 111, 114, 105, 122, 97, 116, 105, 111, 110] <;> cases (dirsP fs2).pu <;> cases (dirsP fs2).mr <;> cases decide ((dirsP fs2).sm < 0) <;> cases gueP st2 <;> cases decide (0 ≤ (dirsP fs2).ma) <;> cases decide (0 ≤ (dirsP fs2).sm) <;> rfl
def m2_s (p : Bytes → Bytes → Int → Bytes → Bool → List Fd → Bytes → Bytes → Bytes → Int → Bytes → Bool → List Fd → Bytes → AV) : List AV → List Ob → Br
  | [.agg [.str me, .str ta, .int .i64 st, .str re, .bool ba, .sh (.pair .str .str) fs, .str bo], .agg [.str me2, .str ta2, .int .i64 st2, .str re2, .bool ba2, .sh (.pair .str .str) fs2, .str bo2]], [] => .ret (p me ta st re ba fs bo me2 ta2 st2 re2 ba2 fs2 bo2) []
  | _, _ => .fail
def stA (me ta : Bytes) (st : Int) (re : Bytes) (ba : Bool) (fs : List Fd) (bo : Bytes) (me2 ta2 : Bytes) (st2 : Int) (re2 : Bytes) (ba2 : Bool) (fs2 : List Fd) (bo2 : Bytes) : AV := .bool (stoB me ta st re ba fs bo me2 ta2 st2 re2 ba2 fs2 bo2)
theorem iStorable_okQ : Sound Kx 7 (m2_s stA) := iStorable_ok.of fun args objs r h => by
  unfold m2_s at h
  split at h
  · exact (iSto_val _ _ _ _ _ _ _ _ _ _ _ _ _ _).trans h
  · cases h
theorem sStorable_okQ : Sound Kx 5 (m2_s stA) := sStorable_ok.of fun args objs r h => by
  unfold m2_s at h
  split at h
  · exact (sSto_val _ _ _ _ _ _ _ _ _ _ _ _ _ _).trans h
  · cases h
end
end Go.Proofs.YtdlpacieajdgoaaGreatDoor.Ev

namespace Go.Proofs.YtdlpacieajdgoaaGreatDoor.Ev
open Go Go.RowKit
set_option linter.unusedVariables false
set_option linter.unusedSimpArgs false
noncomputable section

/-! laws.FnExactStorable -/
def lStorable_O : Opt := { cons := [], keepNil := false, mutF := [], live := [], outs := [] }
def lStorable_C : Spec := (add (add (add (add (add noS 4 szM_s) 6 toMsg_s) 8 eqm_s) 7 (m2_s stA)) 5 (m2_s stA))
theorem lStorable_C_ok : ∀ fn, Sound Kx fn (lStorable_C fn) := (sound_add (sound_add (sound_add (sound_add (sound_add (sound_no Kx) szMsg_okQ) toMsg_ok) eqMsg_okQ) iStorable_okQ) sStorable_okQ)
def lStorable_br (me ta : Bytes) (st : Int) (re : Bytes) (ba : Bool) (fs : List Fd) (bo : Bytes) (me2 ta2 : Bytes) (st2 : Int) (re2 : Bytes) (ba2 : Bool) (fs2 : List Fd) (bo2 : Bytes) : Br := (Br.ite ((smM me ta re fs bo) && true) (Br.ite (decide ((szM (msgW me ta re fs bo) (1048576 : Int)) < (0 : Int))) (Br.ret (AV.bool true) ([] : (List (Ob)))) (Br.ite ((smM me2 ta2 re2 fs2 bo2) && (okLeft (szM (msgW me ta re fs bo) (1048576 : Int)))) (Br.ite (decide ((szM (msgW me2 ta2 re2 fs2 bo2) (szM (msgW me ta re fs bo) (1048576 : Int))) < (0 : Int))) (Br.ret (AV.bool true) ([] : (List (Ob)))) (Br.ite (decide ((List.length fs) ≤ (1048576 : Nat))) (Br.ite (decide ((List.length fs2) ≤ (1048576 : Nat))) (Br.ite (decide ((List.length fs) ≤ (1048576 : Nat))) (Br.ite (decide ((List.length fs2) ≤ (1048576 : Nat))) (Br.ite (!((stoB me ta st re ba fs bo me2 ta2 st2 re2 ba2 fs2 bo2) == (stoB me ta st re ba fs bo me2 ta2 st2 re2 ba2 fs2 bo2))) (Br.ret (AV.bool false) ([] : (List (Ob)))) (Br.ite (decide ((List.length fs) ≤ (1048576 : Nat))) (Br.ite ((((((((decide (me = me)) && (decide (ta = ta))) && (decide (st = st))) && (decide (re = re))) && (decide (ba = ba))) && (decide (fs = fs))) && (decide (bo = bo))) && (decide ((List.length fs) ≤ (1048576 : Nat)))) (Br.ite (decide ((List.length fs2) ≤ (1048576 : Nat))) (Br.ite ((((((((decide (me2 = me2)) && (decide (ta2 = ta2))) && (decide (st2 = st2))) && (decide (re2 = re2))) && (decide (ba2 = ba2))) && (decide (fs2 = fs2))) && (decide (bo2 = bo2))) && (decide ((List.length fs2) ≤ (1048576 : Nat)))) (Br.ret (AV.bool true) ([] : (List (Ob)))) Br.fail) Br.fail) Br.fail) Br.fail)) Br.fail) Br.fail) Br.fail) Br.fail)) Br.fail)) Br.fail)
theorem lStorable_run (me ta : Bytes) (st : Int) (re : Bytes) (ba : Bool) (fs : List Fd) (bo : Bytes) (me2 ta2 : Bytes) (st2 : Int) (re2 : Bytes) (ba2 : Bool) (fs2 : List Fd) (bo2 : Bytes) : runF Kx lStorable_C lStorable_O 1 Tryz.f3 ([.agg [.str me, .str ta, .int .i64 st, .str re, .bool ba, .sh (.pair .str .str) fs, .str bo], .agg [.str me2, .str ta2, .int .i64 st2, .str re2, .bool ba2, .sh (.pair .str .str) fs2, .str bo2]]) ([]) = (lStorable_br me ta st re ba fs bo me2 ta2 st2 re2 ba2 fs2 bo2).val := by kernel_rfl
def lStorable_s : List AV → List Ob → Br
  | [.agg [.str me, .str ta, .int .i64 st, .str re, .bool ba, .sh (.pair .str .str) fs, .str bo], .agg [.str me2, .str ta2, .int .i64 st2, .str re2, .bool ba2, .sh (.pair .str .str) fs2, .str bo2]], [] => lStorable_br me ta st re ba fs bo me2 ta2 st2 re2 ba2 fs2 bo2
  | _, _ => .fail
theorem lStorable_ok : Sound Kx 3 lStorable_s := by
  refine sound_run (C := lStorable_C) (O := lStorable_O) KOk lStorable_C_ok Tryz.func3 (by kernel_rfl) fun args objs res os h => ?_
  unfold lStorable_s at h
  split at h
  · exact ⟨1, (lStorable_run _ _ _ _ _ _ _ _ _ _ _ _ _ _).trans h⟩
  · cases h

end
end Go.Proofs.YtdlpacieajdgoaaGreatDoor.Ev

namespace Go.Proofs.YtdlpacieajdgoaaGreatDoor.Ev
open Go Go.RowKit
set_option linter.unusedVariables false
set_option linter.unusedSimpArgs false

/-- A message as an argument. -/
abbrev tyMsg : Ty := .pair .str (.pair .str (.pair (.int .i64) (.pair .str (.pair .bool (.pair (.slice (.pair .str .str)) .str)))))
theorem reach_M {s : Bytes} (h : s.length ≤ reachBytes) : isM s = true := isM_of h (by decide)
theorem good_smF {fs : List Fd} (h : Good (.slice (.pair .str .str)) fs) : smF fs = true := by
  simp only [Good] at h
  unfold smF
  rw [decide_eq_true (Nat.le_trans h.1 (by decide)), Bool.true_and, List.all_eq_true]
  intro f hf
  obtain ⟨h1, h2⟩ := h.2 f hf
  unfold isMF
  rw [reach_M h1, reach_M h2]; rfl
theorem good_smM {me ta re bo : Bytes} {st : Int} {ba : Bool} {fs : List Fd} (h : Good tyMsg (me, ta, st, re, ba, fs, bo)) : smM me ta re fs bo = true := by
  simp only [tyMsg, Good] at h
  obtain ⟨h1, h2, _, h4, _, h6, h7⟩ := h
  unfold smM
  rw [reach_M h1, reach_M h2, reach_M h4, reach_M h7, good_smF (by simp only [Good]; exact h6)]; rfl
theorem szM_small {me ta re bo : Bytes} {fs : List Fd} {left : Int} (h : ¬ szM (msgW me ta re fs bo) left < 0) : (fs.length : Int) ≤ left := by
  have := totF_nn fs
  unfold szM at h
  cases hc : decide (msgW me ta re fs bo ≤ left)
  · rw [hc, cond_false] at h; omega
  · have := of_decide_eq_true hc
    unfold msgW at this; omega
theorem szM_le {me ta re bo : Bytes} {fs : List Fd} {left : Int} (h0 : 0 ≤ left) : szM (msgW me ta re fs bo) left ≤ left := by
  have := totF_nn fs
  unfold szM
  cases hc : decide (msgW me ta re fs bo ≤ left)
  · rw [cond_false]; omega
  · rw [cond_true]; unfold msgW; omega
theorem lStorable_val (me ta re bo : Bytes) (st : Int) (ba : Bool) (fs : List Fd) (me2 ta2 re2 bo2 : Bytes) (st2 : Int) (ba2 : Bool) (fs2 : List Fd) (h : smM me ta re fs bo = true) (h2 : smM me2 ta2 re2 fs2 bo2 = true) : (lStorable_br me ta st re ba fs bo me2 ta2 st2 re2 ba2 fs2 bo2).val = some (.bool true, []) := by
  unfold lStorable_br
  refine (val_t (by rw [h]; rfl)).trans ?_
  by_cases c : szM (msgW me ta re fs bo) 1048576 < 0
  · exact val_t (decide_eq_true c)
  have hl := szM_small c
  have hle := szM_le (me := me) (ta := ta) (re := re) (bo := bo) (fs := fs) (left := 1048576) (by decide)
  have ho : okLeft (szM (msgW me ta re fs bo) 1048576) = true := by
    unfold okLeft; rw [decide_eq_true (by omega), decide_eq_true hle]; rfl
  refine (val_f (decide_eq_false c)).trans ((val_t (by rw [h2, ho]; rfl)).trans ?_)
  by_cases c2 : szM (msgW me2 ta2 re2 fs2 bo2) (szM (msgW me ta re fs bo) 1048576) < 0
  · exact val_t (decide_eq_true c2)
  have hl2 := szM_small c2
  have e1 : decide (fs.length ≤ 1048576) = true := decide_eq_true (by omega)
  have e2 : decide (fs2.length ≤ 1048576) = true := decide_eq_true (by omega)
  refine (val_f (decide_eq_false c2)).trans ((val_t e1).trans ((val_t e2).trans ((val_t e1).trans ((val_t e2).trans ((val_f ?_).trans ((val_t e1).trans ((val_t ?_).trans ((val_t e2).trans ((val_t ?_).trans rfl)))))))))
  · rw [beq_self_eq_true]; rfl
  · rw [e1]; simp
  · rw [e2]; simp
theorem fnExactStorable_true (xs : List AV) (h : Args [(tyMsg, true), (tyMsg, true)] xs) : (lStorable_s xs []).val = some (.bool true, []) := by
  obtain ⟨⟨me, ta, st, re, ba, fs, bo⟩, a', g, rfl, ⟨me2, ta2, st2, re2, ba2, fs2, bo2⟩, a2, g2, rfl, rfl⟩ := h
  exact lStorable_val me ta re bo st ba fs me2 ta2 re2 bo2 st2 ba2 fs2 (good_smM g) (good_smM g2)
end Go.Proofs.YtdlpacieajdgoaaGreatDoor.Ev
