/- The texts Un, Uo, Va, Vb, Vc, Vd, Ve, Vf, Vg, Vh, Xa, Xb, Xc, Xd, Vi, Vj, Vk, Vl, Vm, Vn, Wa, Wb, Vo, Xe, Xf, Xg, Xh, Xi, Xj, one behind the other. -/
import Derived.Test.YtmmjaomfonknnaaGreatDoorK23
import Derived.Test.YtmmjaomfonknnaaGreatDoorK22
import Derived.Test.YtmmjaomfonknnaaGreatDoorK19
import Derived.Test.YtmmjaomfonknnaaGreatDoorK21
namespace Go.Proofs.YtmmjaomfonknnaaGreatDoor.Ev
open Go Go.RowKit
set_option linter.unusedVariables false
set_option linter.unusedSimpArgs false
noncomputable section

def iCanon_O : Opt := { cons := [], keepNil := false, mutF := [], live := [], outs := [] }
def iCanon_C : Spec := (add (add noS 160 ru_s) 161 ut_s)
theorem iCanon_C_ok : ∀ fn, Sound Kx fn (iCanon_C fn) := (sound_add (sound_add (sound_no Kx) iReadUrl_okQ) iUrlT_okQ)
def iCanon_br (s : Bytes) : Br := (Br.ite (isM s) (Br.ite (!(readUP s).2) (Br.ret (AV.tup ((AV.str ([] : Bytes)) :: ((AV.bool false) :: ([] : List AV)))) ([] : List Ob)) (Br.ite (smU (readUP s).1.1 (readUP s).1.2 (readUP s).1.3 (readUP s).1.4) (Br.ret (AV.tup ((AV.str (urlT (readUP s).1.1 (readUP s).1.2 (readUP s).1.3 (readUP s).1.4 (readUP s).1.5)) :: ((AV.bool true) :: ([] : List AV)))) ([] : List Ob)) Br.fail)) Br.fail)
theorem iCanon_run (s : Bytes) : runF Kx iCanon_C iCanon_O 1 Tryz.f115 ([.str s]) ([]) = (iCanon_br s).val := by kernel_rfl
def iCanon_s : List AV → List Ob → Br
  | [.str s], [] => iCanon_br s
  | _, _ => .fail
theorem iCanon_ok : Sound Kx 115 iCanon_s := by
  refine sound_run (C := iCanon_C) (O := iCanon_O) KOk iCanon_C_ok Tryz.func115 (by kernel_rfl) fun args objs res os h => ?_
  unfold iCanon_s at h
  split at h
  · exact ⟨1, (iCanon_run _).trans h⟩
  · cases h

def sCanon_O : Opt := { cons := [], keepNil := false, mutF := [], live := [], outs := [] }
def sCanon_C : Spec := (add (add noS 155 ru_s) 156 (ur_s (fun h po pa q _ => isM h && isM pa && isM q) (fun h po pa q hq => .str (bif urlOkP h po pa q hq then urlT h po pa q hq else []))))
theorem sCanon_C_ok : ∀ fn, Sound Kx fn (sCanon_C fn) := (sound_add (sound_add (sound_no Kx) sReadUrl_okQ) sUrlText_okQ)
def sCanon_br (s : Bytes) : Br := (Br.ite (isM s) (Br.ite (!(readUP s).2) (Br.ret (AV.tup ((AV.str ([] : Bytes)) :: ((AV.bool false) :: ([] : List AV)))) ([] : List Ob)) (Br.ite (((isM (readUP s).1.1) && (isM (readUP s).1.3)) && (isM (readUP s).1.4)) (Br.ret (AV.tup ((AV.str (bif (urlOkP (readUP s).1.1 (readUP s).1.2 (readUP s).1.3 (readUP s).1.4 (readUP s).1.5) then (urlT (readUP s).1.1 (readUP s).1.2 (readUP s).1.3 (readUP s).1.4 (readUP s).1.5) else ([] : Bytes))) :: ((AV.bool true) :: ([] : List AV)))) ([] : List Ob)) Br.fail)) Br.fail)
theorem sCanon_run (s : Bytes) : runF Kx sCanon_C sCanon_O 1 Tryz.f110 ([.str s]) ([]) = (sCanon_br s).val := by kernel_rfl
def sCanon_s : List AV → List Ob → Br
  | [.str s], [] => sCanon_br s
  | _, _ => .fail
theorem sCanon_ok : Sound Kx 110 sCanon_s := by
  refine sound_run (C := sCanon_C) (O := sCanon_O) KOk sCanon_C_ok Tryz.func110 (by kernel_rfl) fun args objs res os h => ?_
  unfold sCanon_s at h
  split at h
  · exact ⟨1, (sCanon_run _).trans h⟩
  · cases h

end
end Go.Proofs.YtmmjaomfonknnaaGreatDoor.Ev

namespace Go.Proofs.YtmmjaomfonknnaaGreatDoor.Ev
open Go Go.RowKit
set_option linter.unusedVariables false
set_option linter.unusedSimpArgs false
noncomputable section

theorem readU_ok {s : Bytes} (h : (readUP s).2 = true) : (readUP s).1.ok = true := by
  unfold readUP at h ⊢
  cases c : readOk s && (portR (authP (s.drop 7))).2 && (urlR (s.drop 7)).ok
  · rw [c] at h; cases h
  · rw [cond_true]
    simp only [Bool.and_eq_true] at c
    exact c.2
theorem ok_parts {h : Bytes} {po : Int} {pa q : Bytes} {hq : Bool} (ho : urlOkP h po pa q hq = true) : hostP h = true ∧ decide (1 ≤ po) = true ∧ decide (po ≤ 65535) = true ∧ decide (pa = []) = false ∧ decide (cleanP pa = pa) = true ∧ (urlT h po pa q hq).length ≤ 200 := by
  unfold urlOkP at ho
  simp only [Bool.and_eq_true, Bool.not_eq_true', decide_eq_false_iff_not] at ho
  obtain ⟨⟨⟨⟨⟨⟨⟨h1, h2, h3⟩, h4⟩, h5⟩, _⟩, _⟩, _⟩, h8⟩ := ho
  exact ⟨h1, h2, h3, decide_eq_false h4, h5, of_decide_eq_true h8⟩
theorem q_len {h : Bytes} {po : Int} {pa q : Bytes} {hq : Bool} (ho : urlOkP h po pa q hq = true) : q.length ≤ 200 := by
  have hl := (ok_parts ho).2.2.2.2.2
  unfold urlOkP at ho
  simp only [Bool.and_eq_true, Bool.or_eq_true, decide_eq_true_eq] at ho
  rcases ho.1.2 with h' | h'
  · subst h'
    have := urlT_q h po pa q; omega
  · rw [h']; exact Nat.zero_le _
theorem ur_sizes {u : Ur} (ho : u.ok = true) : smU u.h u.po u.pa u.q = true ∧ (isM u.h && isM u.pa && isM u.q) = true := by
  unfold Ur.ok at ho
  obtain ⟨h1, h2, h3, h4, h5, _⟩ := ok_parts ho
  have hq : isM u.q = true := isM_of (n := 200) (q_len ho)
  have a := host_len h1
  have b := clean_fix (of_decide_eq_true h5) (of_decide_eq_false h4)
  exact ⟨smU_mk h1 h2 h3 h4 h5 hq, by rw [hq, isM_of (n := 60) a, isM_of (n := 200) b]; rfl⟩
def ca_s : List AV → List Ob → Br := t1_s fun s => .tup [.str (canonP s).1, .bool (canonP s).2]
theorem iCanon_okQ : Sound Kx 115 ca_s := iCanon_ok.of fun args objs r h => by
  unfold ca_s t1_s at h
  split at h
  case h_2 => cases h
  rename_i s
  obtain ⟨hM, h2⟩ := ite_some h
  cases h2
  show (iCanon_br s).val = some (.tup [.str (canonP s).1, .bool (canonP s).2], [])
  unfold iCanon_br canonP
  refine (val_t hM).trans ?_
  cases c : (readUP s).2
  · rfl
  · exact (val_f rfl).trans ((val_t (ur_sizes (readU_ok c)).1).trans rfl)
theorem sCanon_okQ : Sound Kx 110 ca_s := sCanon_ok.of fun args objs r h => by
  unfold ca_s t1_s at h
  split at h
  case h_2 => cases h
  rename_i s
  obtain ⟨hM, h2⟩ := ite_some h
  cases h2
  show (sCanon_br s).val = some (.tup [.str (canonP s).1, .bool (canonP s).2], [])
  unfold sCanon_br canonP
  refine (val_t hM).trans ?_
  cases c : (readUP s).2
  · rfl
  · have ho := readU_ok c
    have ho' : urlOkP (readUP s).1.h (readUP s).1.po (readUP s).1.pa (readUP s).1.q (readUP s).1.hq = true := ho
    refine (val_f rfl).trans ((val_t (ur_sizes ho).2).trans ?_)
    rw [ho']; rfl
end
end Go.Proofs.YtmmjaomfonknnaaGreatDoor.Ev

namespace Go.Proofs.YtmmjaomfonknnaaGreatDoor.Ev
open Go Go.RowKit
set_option linter.unusedVariables false
set_option linter.unusedSimpArgs false
noncomputable section

def iIsCan_O : Opt := { cons := [], keepNil := false, mutF := [], live := [], outs := [] }
def iIsCan_C : Spec := (add noS 115 ca_s)
theorem iIsCan_C_ok : ∀ fn, Sound Kx fn (iIsCan_C fn) := (sound_add (sound_no Kx) iCanon_okQ)
def iIsCan_br (s : Bytes) : Br := (Br.ite (isM s) (Br.ite (canonP s).2 (Br.ret (AV.bool (decide ((canonP s).1 = s))) ([] : List Ob)) (Br.ret (AV.bool false) ([] : List Ob))) Br.fail)
theorem iIsCan_run (s : Bytes) : runF Kx iIsCan_C iIsCan_O 1 Tryz.f80 ([.str s]) ([]) = (iIsCan_br s).val := by kernel_rfl
def iIsCan_s : List AV → List Ob → Br
  | [.str s], [] => iIsCan_br s
  | _, _ => .fail
theorem iIsCan_ok : Sound Kx 80 iIsCan_s := by
  refine sound_run (C := iIsCan_C) (O := iIsCan_O) KOk iIsCan_C_ok Tryz.func80 (by kernel_rfl) fun args objs res os h => ?_
  unfold iIsCan_s at h
  split at h
  · exact ⟨1, (iIsCan_run _).trans h⟩
  · cases h

def sIsCan_O : Opt := { cons := [], keepNil := false, mutF := [], live := [], outs := [] }
def sIsCan_C : Spec := (add noS 110 ca_s)
theorem sIsCan_C_ok : ∀ fn, Sound Kx fn (sIsCan_C fn) := (sound_add (sound_no Kx) sCanon_okQ)
def sIsCan_br (s : Bytes) : Br := (Br.ite (isM s) (Br.ite (canonP s).2 (Br.ret (AV.bool (decide ((canonP s).1 = s))) ([] : List Ob)) (Br.ret (AV.bool false) ([] : List Ob))) Br.fail)
theorem sIsCan_run (s : Bytes) : runF Kx sIsCan_C sIsCan_O 1 Tryz.f76 ([.str s]) ([]) = (sIsCan_br s).val := by kernel_rfl
def sIsCan_s : List AV → List Ob → Br
  | [.str s], [] => sIsCan_br s
  | _, _ => .fail
theorem sIsCan_ok : Sound Kx 76 sIsCan_s := by
  refine sound_run (C := sIsCan_C) (O := sIsCan_O) KOk sIsCan_C_ok Tryz.func76 (by kernel_rfl) fun args objs res os h => ?_
  unfold sIsCan_s at h
  split at h
  · exact ⟨1, (sIsCan_run _).trans h⟩
  · cases h

def iTime_O : Opt := { cons := [], keepNil := false, mutF := [], live := [], outs := [] }
def iTime_C : Spec := (add noS 84 iwithin_s)
theorem iTime_C_ok : ∀ fn, Sound Kx fn (iTime_C fn) := (sound_add (sound_no Kx) iwithin_ok)
def iTime_br (n : Int) : Br := (Br.ite (decide ((0 : Int) ≤ n)) (Br.ret (AV.bool (decide (n ≤ (253402300799 : Int)))) ([] : List Ob)) (Br.ret (AV.bool false) ([] : List Ob)))
theorem iTime_run (n : Int) : runF Kx iTime_C iTime_O 1 Tryz.f81 ([.int .i64 n]) ([]) = (iTime_br n).val := by kernel_rfl
def iTime_s : List AV → List Ob → Br
  | [.int .i64 n], [] => iTime_br n
  | _, _ => .fail
theorem iTime_ok : Sound Kx 81 iTime_s := by
  refine sound_run (C := iTime_C) (O := iTime_O) KOk iTime_C_ok Tryz.func81 (by kernel_rfl) fun args objs res os h => ?_
  unfold iTime_s at h
  split at h
  · exact ⟨1, (iTime_run _).trans h⟩
  · cases h

def sTime_O : Opt := { cons := [], keepNil := false, mutF := [], live := [], outs := [] }
def sTime_br (n : Int) : Br := (Br.ite (decide ((0 : Int) ≤ n)) (Br.ret (AV.bool (decide (n ≤ (253402300799 : Int)))) ([] : List Ob)) (Br.ret (AV.bool false) ([] : List Ob)))
theorem sTime_run (n : Int) : runF Kx noS sTime_O 1 Tryz.f77 ([.int .i64 n]) ([]) = (sTime_br n).val := by kernel_rfl
def sTime_s : List AV → List Ob → Br
  | [.int .i64 n], [] => sTime_br n
  | _, _ => .fail
theorem sTime_ok : Sound Kx 77 sTime_s := by
  refine sound_run (C := noS) (O := sTime_O) KOk (sound_no Kx) Tryz.func77 (by kernel_rfl) fun args objs res os h => ?_
  unfold sTime_s at h
  split at h
  · exact ⟨1, (sTime_run _).trans h⟩
  · cases h

def iWrite_O : Opt := { cons := [], keepNil := false, mutF := [], live := [], outs := [] }
def iWrite_C : Spec := (add (add noS 82 mgOk_s) 122 head_s)
theorem iWrite_C_ok : ∀ fn, Sound Kx fn (iWrite_C fn) := (sound_add (sound_add (sound_no Kx) iMsgOk_okQ) head_okQ)
def iWrite_br (me ta : Bytes) (st : Int) (re : Bytes) (ba : Bool) (fs : List Fd) (bo : Bytes) : Br := (Br.ite (!(msgOkP me ta st re ba fs bo)) (Br.ret (AV.str ([] : Bytes)) ([] : List Ob)) (Br.ite (hdG me ta st re fs bo) (Br.ite (decide (((List.length (headP me ta st re ba fs bo)) + (List.length bo)) ≤ (9223372036854775807 : Nat))) (Br.ret (AV.str ((headP me ta st re ba fs bo) ++ bo)) ([] : List Ob)) Br.fail) Br.fail))
theorem iWrite_run (me ta : Bytes) (st : Int) (re : Bytes) (ba : Bool) (fs : List Fd) (bo : Bytes) : runF Kx iWrite_C iWrite_O 1 Tryz.f83 ([.agg [.str me, .str ta, .int .i64 st, .str re, .bool ba, .sh (.pair .str .str) fs, .str bo]]) ([]) = (iWrite_br me ta st re ba fs bo).val := by kernel_rfl
def iWrite_s : List AV → List Ob → Br
  | [.agg [.str me, .str ta, .int .i64 st, .str re, .bool ba, .sh (.pair .str .str) fs, .str bo]], [] => iWrite_br me ta st re ba fs bo
  | _, _ => .fail
theorem iWrite_ok : Sound Kx 83 iWrite_s := by
  refine sound_run (C := iWrite_C) (O := iWrite_O) KOk iWrite_C_ok Tryz.func83 (by kernel_rfl) fun args objs res os h => ?_
  unfold iWrite_s at h
  split at h
  · exact ⟨1, (iWrite_run _ _ _ _ _ _ _).trans h⟩
  · cases h

def sWrite_O : Opt := { cons := [], keepNil := false, mutF := [], live := [], outs := [] }
def sWrite_C : Spec := (add (add noS 78 mgOk_s) 114 head_s)
theorem sWrite_C_ok : ∀ fn, Sound Kx fn (sWrite_C fn) := (sound_add (sound_add (sound_no Kx) sMsgOk_okQ) sHead_okQ)
def sWrite_br (me ta : Bytes) (st : Int) (re : Bytes) (ba : Bool) (fs : List Fd) (bo : Bytes) : Br := (Br.ite (!(msgOkP me ta st re ba fs bo)) (Br.ret (AV.str ([] : Bytes)) ([] : List Ob)) (Br.ite (hdG me ta st re fs bo) (Br.ite (decide (((List.length (headP me ta st re ba fs bo)) + (List.length bo)) ≤ (9223372036854775807 : Nat))) (Br.ret (AV.str ((headP me ta st re ba fs bo) ++ bo)) ([] : List Ob)) Br.fail) Br.fail))
theorem sWrite_run (me ta : Bytes) (st : Int) (re : Bytes) (ba : Bool) (fs : List Fd) (bo : Bytes) : runF Kx sWrite_C sWrite_O 1 Tryz.f79 ([.agg [.str me, .str ta, .int .i64 st, .str re, .bool ba, .sh (.pair .str .str) fs, .str bo]]) ([]) = (sWrite_br me ta st re ba fs bo).val := by kernel_rfl
def sWrite_s : List AV → List Ob → Br
  | [.agg [.str me, .str ta, .int .i64 st, .str re, .bool ba, .sh (.pair .str .str) fs, .str bo]], [] => sWrite_br me ta st re ba fs bo
  | _, _ => .fail
theorem sWrite_ok : Sound Kx 79 sWrite_s := by
  refine sound_run (C := sWrite_C) (O := sWrite_O) KOk sWrite_C_ok Tryz.func79 (by kernel_rfl) fun args objs res os h => ?_
  unfold sWrite_s at h
  split at h
  · exact ⟨1, (sWrite_run _ _ _ _ _ _ _).trans h⟩
  · cases h

def szEntry_O : Opt := { cons := [], keepNil := false, mutF := [], live := [], outs := [] }
def szEntry_C : Spec := (add (add noS 28 (szFieldS_sOf fun l left => .ite (smF l && okLeft left) (.ret (.int .i64 (szFl l left)) []) .fail)) 36 szM_s)
theorem szEntry_C_ok : ∀ fn, Sound Kx fn (szEntry_C fn) := (sound_add (sound_add (sound_no Kx) szFieldS_okQ) szMsg_okQ)
def szEntry_br (ur : Bytes) (t1 t2 : Int) (ak : List Fd) (me ta : Bytes) (st : Int) (re : Bytes) (ba : Bool) (fs : List Fd) (bo : Bytes) (left : Int) : Br := (Br.ite (decide ((wk64 (left - ((List.length ur) : Int))) < (0 : Int))) (Br.ret (AV.int .i64 (-(1 : Int))) ([] : List Ob)) (Br.ite ((smF ak) && (okLeft (wk64 (left - ((List.length ur) : Int))))) (Br.ite (decide ((szFl ak (wk64 (left - ((List.length ur) : Int)))) < (0 : Int))) (Br.ret (AV.int .i64 (-(1 : Int))) ([] : List Ob)) (Br.ite ((smM me ta re fs bo) && (okLeft (szFl ak (wk64 (left - ((List.length ur) : Int)))))) (Br.ite (decide ((szM (msgW me ta re fs bo) (szFl ak (wk64 (left - ((List.length ur) : Int))))) < (0 : Int))) (Br.ret (AV.int .i64 (-(1 : Int))) ([] : List Ob)) (Br.ret (AV.int .i64 (szM (msgW me ta re fs bo) (szFl ak (wk64 (left - ((List.length ur) : Int)))))) ([] : List Ob))) Br.fail)) Br.fail))
theorem szEntry_run (ur : Bytes) (t1 t2 : Int) (ak : List Fd) (me ta : Bytes) (st : Int) (re : Bytes) (ba : Bool) (fs : List Fd) (bo : Bytes) (left : Int) : runF Kx szEntry_C szEntry_O 1 Tryz.f10 ([.agg [.str ur, .int .i64 t1, .int .i64 t2, .sh (.pair .str .str) ak, .str me, .str ta, .int .i64 st, .str re, .bool ba, .sh (.pair .str .str) fs, .str bo], .int .i64 left]) ([]) = (szEntry_br ur t1 t2 ak me ta st re ba fs bo left).val := by kernel_rfl
def szEntry_s : List AV → List Ob → Br
  | [.agg [.str ur, .int .i64 t1, .int .i64 t2, .sh (.pair .str .str) ak, .str me, .str ta, .int .i64 st, .str re, .bool ba, .sh (.pair .str .str) fs, .str bo], .int .i64 left], [] => szEntry_br ur t1 t2 ak me ta st re ba fs bo left
  | _, _ => .fail
theorem szEntry_ok : Sound Kx 10 szEntry_s := by
  refine sound_run (C := szEntry_C) (O := szEntry_O) KOk szEntry_C_ok Tryz.func10 (by kernel_rfl) fun args objs res os h => ?_
  unfold szEntry_s at h
  split at h
  · exact ⟨1, (szEntry_run _ _ _ _ _ _ _ _ _ _ _ _).trans h⟩
  · cases h

def toEntry_O : Opt := { cons := [], keepNil := false, mutF := [], live := [], outs := [] }
def toEntry_C : Spec := (add (add noS 30 (toFieldS_sOf fun l => .ite (decide (l.length ≤ 1048576)) (.ret (.ref 0 0) [.arr (.pair .str .str) 0 false l]) .fail)) 39 toMsg_s)
theorem toEntry_C_ok : ∀ fn, Sound Kx fn (toEntry_C fn) := (sound_add (sound_add (sound_no Kx) toFieldS_okQ) toMsg_ok)
def toEntry_br (ur : Bytes) (t1 t2 : Int) (ak : List Fd) (me ta : Bytes) (st : Int) (re : Bytes) (ba : Bool) (fs : List Fd) (bo : Bytes) : Br := (Br.ite (decide ((List.length ak) ≤ (1048576 : Nat))) (Br.ite (decide ((List.length fs) ≤ (1048576 : Nat))) (Br.ret (AV.agg ((AV.str ur) :: ((AV.int .i64 t1) :: ((AV.int .i64 t2) :: ((AV.ref (0 : Nat) (0 : Nat)) :: ((AV.str me) :: ((AV.str ta) :: ((AV.int .i64 st) :: ((AV.str re) :: ((AV.bool ba) :: ((AV.ref (1 : Nat) (0 : Nat)) :: ((AV.str bo) :: ([] : List AV))))))))))))) ((Ob.arr (Ty.pair Ty.str Ty.str) (0 : Nat) false ak) :: ((Ob.arr (Ty.pair Ty.str Ty.str) (0 : Nat) false fs) :: ([] : List Ob)))) Br.fail) Br.fail)
theorem toEntry_run (ur : Bytes) (t1 t2 : Int) (ak : List Fd) (me ta : Bytes) (st : Int) (re : Bytes) (ba : Bool) (fs : List Fd) (bo : Bytes) : runF Kx toEntry_C toEntry_O 1 Tryz.f12 ([.agg [.str ur, .int .i64 t1, .int .i64 t2, .sh (.pair .str .str) ak, .str me, .str ta, .int .i64 st, .str re, .bool ba, .sh (.pair .str .str) fs, .str bo]]) ([]) = (toEntry_br ur t1 t2 ak me ta st re ba fs bo).val := by kernel_rfl
def toEntry_s : List AV → List Ob → Br
  | [.agg [.str ur, .int .i64 t1, .int .i64 t2, .sh (.pair .str .str) ak, .str me, .str ta, .int .i64 st, .str re, .bool ba, .sh (.pair .str .str) fs, .str bo]], [] => toEntry_br ur t1 t2 ak me ta st re ba fs bo
  | _, _ => .fail
theorem toEntry_ok : Sound Kx 12 toEntry_s := by
  refine sound_run (C := toEntry_C) (O := toEntry_O) KOk toEntry_C_ok Tryz.func12 (by kernel_rfl) fun args objs res os h => ?_
  unfold toEntry_s at h
  split at h
  · exact ⟨1, (toEntry_run _ _ _ _ _ _ _ _ _ _ _).trans h⟩
  · cases h

def eqEntry_O : Opt := { cons := [], keepNil := false, mutF := [], live := [], outs := [] }
def eqEntry_C : Spec := (add (add noS 24 (eqFieldS_sOf fun l l' => .ite (decide (l.length ≤ 4611686018427387904)) (.ret (.bool (decide (l = l'))) []) .fail)) 42 eqm_s)
theorem eqEntry_C_ok : ∀ fn, Sound Kx fn (eqEntry_C fn) := (sound_add (sound_add (sound_no Kx) eqFieldS_okQ) eqMsg_okQ)
def eqEntry_br (ur : Bytes) (t1 t2 : Int) (ak : List Fd) (me ta : Bytes) (st : Int) (re : Bytes) (ba : Bool) (fs : List Fd) (bo : Bytes) (ur' : Bytes) (t1' t2' : Int) (ak' : List Fd) (me' ta' : Bytes) (st' : Int) (re' : Bytes) (ba' : Bool) (fs' : List Fd) (bo' : Bytes) : Br := (Br.ite (!(decide (ur = ur'))) (Br.ret (AV.bool false) ([] : List Ob)) (Br.ite (!(decide (t1 = t1'))) (Br.ret (AV.bool false) ([] : List Ob)) (Br.ite (!(decide (t2 = t2'))) (Br.ret (AV.bool false) ([] : List Ob)) (Br.ite (decide ((List.length ak) ≤ (4611686018427387904 : Nat))) (Br.ite (!(decide (ak = ak'))) (Br.ret (AV.bool false) ([] : List Ob)) (Br.ite ((((((((decide (me = me')) && (decide (ta = ta'))) && (decide (st = st'))) && (decide (re = re'))) && (decide (ba = ba'))) && (decide (fs = fs'))) && (decide (bo = bo'))) && (decide ((List.length fs) ≤ (1048576 : Nat)))) (Br.ret (AV.bool true) ([] : List Ob)) Br.fail)) Br.fail))))
theorem eqEntry_run (ur : Bytes) (t1 t2 : Int) (ak : List Fd) (me ta : Bytes) (st : Int) (re : Bytes) (ba : Bool) (fs : List Fd) (bo : Bytes) (ur' : Bytes) (t1' t2' : Int) (ak' : List Fd) (me' ta' : Bytes) (st' : Int) (re' : Bytes) (ba' : Bool) (fs' : List Fd) (bo' : Bytes) : runF Kx eqEntry_C eqEntry_O 1 Tryz.f14 ([.agg [.str ur, .int .i64 t1, .int .i64 t2, .sh (.pair .str .str) ak, .str me, .str ta, .int .i64 st, .str re, .bool ba, .sh (.pair .str .str) fs, .str bo], .agg [.str ur', .int .i64 t1', .int .i64 t2', .sh (.pair .str .str) ak', .str me', .str ta', .int .i64 st', .str re', .bool ba', .sh (.pair .str .str) fs', .str bo']]) ([]) = (eqEntry_br ur t1 t2 ak me ta st re ba fs bo ur' t1' t2' ak' me' ta' st' re' ba' fs' bo').val := by kernel_rfl
def eqEntry_s : List AV → List Ob → Br
  | [.agg [.str ur, .int .i64 t1, .int .i64 t2, .sh (.pair .str .str) ak, .str me, .str ta, .int .i64 st, .str re, .bool ba, .sh (.pair .str .str) fs, .str bo], .agg [.str ur', .int .i64 t1', .int .i64 t2', .sh (.pair .str .str) ak', .str me', .str ta', .int .i64 st', .str re', .bool ba', .sh (.pair .str .str) fs', .str bo']], [] => eqEntry_br ur t1 t2 ak me ta st re ba fs bo ur' t1' t2' ak' me' ta' st' re' ba' fs' bo'
  | _, _ => .fail
theorem eqEntry_ok : Sound Kx 14 eqEntry_s := by
  refine sound_run (C := eqEntry_C) (O := eqEntry_O) KOk eqEntry_C_ok Tryz.func14 (by kernel_rfl) fun args objs res os h => ?_
  unfold eqEntry_s at h
  split at h
  · exact ⟨1, (eqEntry_run _ _ _ _ _ _ _ _ _ _ _ _ _ _ _ _ _ _ _ _ _ _).trans h⟩
  · cases h

end
end Go.Proofs.YtmmjaomfonknnaaGreatDoor.Ev

namespace Go.Proofs.YtmmjaomfonknnaaGreatDoor.Ev
open Go Go.RowKit
set_option linter.unusedVariables false
set_option linter.unusedSimpArgs false
noncomputable section

theorem iIsCan_okQ : Sound Kx 80 (t1_s fun s => .bool (isCanP s)) := iIsCan_ok.of fun args objs r h => by
  unfold t1_s at h
  split at h
  case h_2 => cases h
  rename_i s
  obtain ⟨hM, h2⟩ := ite_some h
  cases h2
  show (iIsCan_br s).val = some (.bool (isCanP s), [])
  unfold iIsCan_br isCanP
  refine (val_t hM).trans ?_
  cases (canonP s).2 <;> rfl
theorem sIsCan_okQ : Sound Kx 76 (t1_s fun s => .bool (isCanP s)) := sIsCan_ok.of fun args objs r h => by
  unfold t1_s at h
  split at h
  case h_2 => cases h
  rename_i s
  obtain ⟨hM, h2⟩ := ite_some h
  cases h2
  show (sIsCan_br s).val = some (.bool (isCanP s), [])
  unfold sIsCan_br isCanP
  refine (val_t hM).trans ?_
  cases (canonP s).2 <;> rfl
theorem iTime_okQ : Sound Kx 81 (pn_s timB) := of_pn iTime_ok fun b => v_and _ _
theorem sTime_okQ : Sound Kx 77 (pn_s timB) := of_pn sTime_ok fun b => v_and _ _
def writeP (m : Mg) : Bytes := bif msgOkP m.1 m.2.1 m.2.2.1 m.2.2.2.1 m.2.2.2.2.1 m.2.2.2.2.2.1 m.2.2.2.2.2.2 then headP m.1 m.2.1 m.2.2.1 m.2.2.2.1 m.2.2.2.2.1 m.2.2.2.2.2.1 m.2.2.2.2.2.2 ++ m.2.2.2.2.2.2 else []
theorem msgOk_more {me ta re bo : Bytes} {st : Int} {ba : Bool} {fs : List Fd} (h : msgOkP me ta st re ba fs bo = true) : hdG me ta st re fs bo = true ∧ (headP me ta st re ba fs bo).length ≤ 1500 ∧ bo.length ≤ 600 := by
  unfold msgOkP at h
  simp only [Bool.and_eq_true, Bool.not_eq_true', decide_eq_true_eq, decide_eq_false_iff_not] at h
  obtain ⟨⟨⟨⟨⟨h1, h2⟩, h3⟩, h4⟩, h5⟩, h6⟩ := h
  exact ⟨hdG_ok h1 h3 h5, by omega, by omega⟩
def wr_s : List AV → List Ob → Br := mg_s fun m => .str (writeP m)
theorem iWrite_okQ : Sound Kx 83 wr_s := of_mg iWrite_ok fun me ta st re ba fs bo => by
  show (iWrite_br me ta st re ba fs bo).val = some (.str (writeP (me, ta, st, re, ba, fs, bo)), [])
  unfold iWrite_br writeP
  simp only
  cases h : msgOkP me ta st re ba fs bo
  · rfl
  · obtain ⟨h1, h2, h3⟩ := msgOk_more h
    exact (val_f rfl).trans ((val_t h1).trans ((val_t (decide_eq_true (by omega))).trans rfl))
theorem sWrite_okQ : Sound Kx 79 wr_s := of_mg sWrite_ok fun me ta st re ba fs bo => by
  show (sWrite_br me ta st re ba fs bo).val = some (.str (writeP (me, ta, st, re, ba, fs, bo)), [])
  unfold sWrite_br writeP
  simp only
  cases h : msgOkP me ta st re ba fs bo
  · rfl
  · obtain ⟨h1, h2, h3⟩ := msgOk_more h
    exact (val_f rfl).trans ((val_t h1).trans ((val_t (decide_eq_true (by omega))).trans rfl))
theorem write_len (m : Mg) : (writeP m).length ≤ 2100 := by
  unfold writeP
  cases h : msgOkP m.1 m.2.1 m.2.2.1 m.2.2.2.1 m.2.2.2.2.1 m.2.2.2.2.2.1 m.2.2.2.2.2.2
  · exact Nat.zero_le _
  · obtain ⟨_, h2, h3⟩ := msgOk_more h
    rw [cond_true, List.length_append]; omega

abbrev En := Bytes × Int × Int × List Fd × Mg
@[match_pattern] abbrev EnT : Ty := (.pair .str (.pair (.int .i64) (.pair (.int .i64) (.pair (.slice (.pair .str .str)) (.pair .str (.pair .str (.pair (.int .i64) (.pair .str (.pair .bool (.pair (.slice (.pair .str .str)) .str))))))))))
abbrev en0 : En := (([] : List UInt8), ((0 : Int), ((0 : Int), (([] : List (List UInt8 × List UInt8)), (([] : List UInt8), (([] : List UInt8), ((0 : Int), (([] : List UInt8), (false, (([] : List (List UInt8 × List UInt8)), ([] : List UInt8)))))))))))
def en_s (g : En → Bool) (p : En → AV) : List AV → List Ob → Br
  | [.agg [.str ur, .int .i64 t1, .int .i64 t2, .sh (.pair .str .str) ak, .str me, .str ta, .int .i64 st, .str re, .bool ba, .sh (.pair .str .str) fs, .str bo]], [] =>
    .ite (g (ur, t1, t2, ak, me, ta, st, re, ba, fs, bo)) (.ret (p (ur, t1, t2, ak, me, ta, st, re, ba, fs, bo)) []) .fail
  | _, _ => .fail
theorem of_en {n : Nat} {s : List AV → List Ob → Br} (hs : Sound Kx n s) {g : En → Bool} {p : En → AV}
    (h : ∀ ur t1 t2 ak me ta st re ba fs bo, g (ur, t1, t2, ak, me, ta, st, re, ba, fs, bo) = true → (s [.agg [.str ur, .int .i64 t1, .int .i64 t2, .sh (.pair .str .str) ak, .str me, .str ta, .int .i64 st, .str re, .bool ba, .sh (.pair .str .str) fs, .str bo]] []).val = some (p (ur, t1, t2, ak, me, ta, st, re, ba, fs, bo), [])) : Sound Kx n (en_s g p) := hs.of fun args objs r hv => by
  unfold en_s at hv
  split at hv
  case h_2 => cases hv
  obtain ⟨h1, h2⟩ := ite_some hv
  cases h2
  exact h _ _ _ _ _ _ _ _ _ _ _ h1
def smE (e : En) : Bool := isM e.1 && smF e.2.2.2.1 && smM e.2.2.2.2.1 e.2.2.2.2.2.1 e.2.2.2.2.2.2.2.1 e.2.2.2.2.2.2.2.2.2.1 e.2.2.2.2.2.2.2.2.2.2
def enW (e : En) : Int := (e.1.length : Int) + ((e.2.2.2.1.length : Int) + totF e.2.2.2.1) + msgW e.2.2.2.2.1 e.2.2.2.2.2.1 e.2.2.2.2.2.2.2.1 e.2.2.2.2.2.2.2.2.2.1 e.2.2.2.2.2.2.2.2.2.2
theorem msgW_nn (me ta re : Bytes) (fs : List Fd) (bo : Bytes) : 0 ≤ msgW me ta re fs bo := by
  have := totF_nn fs
  unfold msgW; omega
def szE_s : List AV → List Ob → Br
  | [.agg [.str ur, .int .i64 t1, .int .i64 t2, .sh (.pair .str .str) ak, .str me, .str ta, .int .i64 st, .str re, .bool ba, .sh (.pair .str .str) fs, .str bo], .int .i64 left], [] =>
    .ite (smE (ur, t1, t2, ak, me, ta, st, re, ba, fs, bo) && okLeft left) (.ret (.int .i64 (szM (enW (ur, t1, t2, ak, me, ta, st, re, ba, fs, bo)) left)) []) .fail
  | _, _ => .fail
theorem szEntry_okQ : Sound Kx 10 szE_s := szEntry_ok.of fun args objs r h => by
  unfold szE_s at h
  split at h
  case h_2 => cases h
  rename_i ur t1 t2 ak me ta st re ba fs bo left
  obtain ⟨h1, h2⟩ := ite_some h
  cases h2
  show (szEntry_br ur t1 t2 ak me ta st re ba fs bo left).val = some (.int .i64 (szM (enW (ur, t1, t2, ak, me, ta, st, re, ba, fs, bo)) left), [])
  simp only [smE, Bool.and_eq_true] at h1
  obtain ⟨⟨⟨m1, m2⟩, m3⟩, h0⟩ := h1
  have g1 := isM_le m1
  simp only [okLeft, Bool.and_eq_true, decide_eq_true_eq] at h0
  have ha := totF_nn ak
  have hm := msgW_nn me ta re fs bo
  unfold szEntry_br enW
  simp only
  rw [w64 (n := left - _) (by omega) (by omega)]
  by_cases c1 : left - (ur.length : Int) < 0
  · rw [val_t (decide_eq_true c1)]
    unfold szM
    rw [decide_eq_false (by omega)]; rfl
  rw [val_f (decide_eq_false c1)]
  have hk : okLeft (left - (ur.length : Int)) = true := by simp only [okLeft, Bool.and_eq_true, decide_eq_true_eq]; omega
  refine (val_t (by rw [m2, hk]; rfl)).trans ?_
  unfold szFl
  by_cases c4 : (ak.length : Int) + totF ak ≤ left - (ur.length : Int)
  · simp only [decide_eq_true c4, cond_true]
    refine (val_f (decide_eq_false (by omega))).trans ?_
    have hk2 : okLeft (left - (ur.length : Int) - ((ak.length : Int) + totF ak)) = true := by simp only [okLeft, Bool.and_eq_true, decide_eq_true_eq]; omega
    refine (val_t (by rw [m3, hk2]; rfl)).trans ?_
    unfold szM
    by_cases c5 : msgW me ta re fs bo ≤ left - (ur.length : Int) - ((ak.length : Int) + totF ak)
    · simp only [decide_eq_true c5, cond_true]
      refine (val_f (decide_eq_false (by omega))).trans ?_
      rw [decide_eq_true (by omega), cond_true, val_ret]
      rw [show left - (ur.length : Int) - ((ak.length : Int) + totF ak) - msgW me ta re fs bo = left - ((ur.length : Int) + ((ak.length : Int) + totF ak) + msgW me ta re fs bo) by omega]
    · simp only [decide_eq_false c5, cond_false]
      refine (val_t (by decide)).trans ?_
      rw [decide_eq_false (by omega)]; rfl
  · simp only [decide_eq_false c4, cond_false]
    refine (val_t (by decide)).trans ?_
    unfold szM
    rw [decide_eq_false (by omega)]; rfl
def eqEb (a b : En) : Bool := decide (a.1 = b.1) && decide (a.2.1 = b.2.1) && decide (a.2.2.1 = b.2.2.1) && decide (a.2.2.2.1 = b.2.2.2.1) && decide (a.2.2.2.2.1 = b.2.2.2.2.1) && decide (a.2.2.2.2.2.1 = b.2.2.2.2.2.1) && decide (a.2.2.2.2.2.2.1 = b.2.2.2.2.2.2.1) && decide (a.2.2.2.2.2.2.2.1 = b.2.2.2.2.2.2.2.1) && decide (a.2.2.2.2.2.2.2.2.1 = b.2.2.2.2.2.2.2.2.1) && decide (a.2.2.2.2.2.2.2.2.2.1 = b.2.2.2.2.2.2.2.2.2.1) && decide (a.2.2.2.2.2.2.2.2.2.2 = b.2.2.2.2.2.2.2.2.2.2)
theorem eqEb_self (a : En) : eqEb a a = true := by unfold eqEb; simp only [decide_true, Bool.and_self]
def eqE_s : List AV → List Ob → Br
  | [.agg [.str ur, .int .i64 t1, .int .i64 t2, .sh (.pair .str .str) ak, .str me, .str ta, .int .i64 st, .str re, .bool ba, .sh (.pair .str .str) fs, .str bo], .agg [.str ur', .int .i64 t1', .int .i64 t2', .sh (.pair .str .str) ak', .str me', .str ta', .int .i64 st', .str re', .bool ba', .sh (.pair .str .str) fs', .str bo']], [] =>
    .ite (eqEb (ur, t1, t2, ak, me, ta, st, re, ba, fs, bo) (ur', t1', t2', ak', me', ta', st', re', ba', fs', bo') && decide (ak.length ≤ 1048576) && decide (fs.length ≤ 1048576)) (.ret (.bool true) []) .fail
  | _, _ => .fail
theorem eqEntry_okQ : Sound Kx 14 eqE_s := eqEntry_ok.of fun args objs r h => by
  unfold eqE_s at h
  split at h
  case h_2 => cases h
  obtain ⟨h1, h2⟩ := ite_some h
  cases h2
  simp only [eqEb, Bool.and_eq_true, decide_eq_true_eq] at h1
  obtain ⟨⟨⟨⟨⟨⟨⟨⟨⟨⟨⟨⟨rfl, rfl⟩, rfl⟩, rfl⟩, rfl⟩, rfl⟩, rfl⟩, rfl⟩, rfl⟩, rfl⟩, rfl⟩, ha⟩, hl⟩ := h1
  rename_i ur t1 t2 ak me ta st re ba fs bo
  show (eqEntry_br ur t1 t2 ak me ta st re ba fs bo ur t1 t2 ak me ta st re ba fs bo).val = _
  unfold eqEntry_br
  simp only [decide_true, Bool.not_true, Bool.true_and]
  exact (val_f rfl).trans ((val_f rfl).trans ((val_f rfl).trans ((val_t (decide_eq_true (by omega))).trans ((val_f rfl).trans ((val_t (decide_eq_true hl)).trans rfl)))))
def entP (e : En) : Bool :=
  isCanP e.1 && timB e.2.1 && timB e.2.2.1 && decide (e.2.1 ≤ e.2.2.1) && fdsOk e.2.2.2.1 && msgOkP e.2.2.2.2.1 e.2.2.2.2.2.1 e.2.2.2.2.2.2.1 e.2.2.2.2.2.2.2.1 e.2.2.2.2.2.2.2.2.1 e.2.2.2.2.2.2.2.2.2.1 e.2.2.2.2.2.2.2.2.2.2 && decide (e.2.2.2.2.1 = []) && !e.2.2.2.2.2.2.2.2.1
end
end Go.Proofs.YtmmjaomfonknnaaGreatDoor.Ev

namespace Go.Proofs.YtmmjaomfonknnaaGreatDoor.Ev
open Go Go.RowKit
set_option linter.unusedVariables false
set_option linter.unusedSimpArgs false
noncomputable section

def iEntryOk_O : Opt := { cons := [], keepNil := false, mutF := [], live := [], outs := [], split := true }
def iEntryOk_C : Spec := (add (add (add (add noS 80 (t1_s fun s => .bool (isCanP s))) 81 (pn_s timB)) 65 (fl_s fun l => .bool (fdsOk l))) 82 mgOk_s)
theorem iEntryOk_C_ok : ∀ fn, Sound Kx fn (iEntryOk_C fn) := (sound_add (sound_add (sound_add (sound_add (sound_no Kx) iIsCan_okQ) iTime_okQ) iFieldsOk_okQ) iMsgOk_okQ)
def iEntryOk_br (ur : Bytes) (t1 t2 : Int) (ak : List Fd) (me ta : Bytes) (st : Int) (re : Bytes) (ba : Bool) (fs : List Fd) (bo : Bytes) : Br := (Br.ite (isM ur) (Br.ite (isCanP ur) (Br.ite (timB t1) (Br.ite (timB t2) (Br.ite (decide (t1 ≤ t2)) (Br.ite (fdsOk ak) (Br.ite (msgOkP me ta st re ba fs bo) (Br.ite (decide (me = ([] : Bytes))) (Br.ret (AV.bool (!ba)) ([] : List Ob)) (Br.ret (AV.bool false) ([] : List Ob))) (Br.ret (AV.bool false) ([] : List Ob))) (Br.ret (AV.bool false) ([] : List Ob))) (Br.ret (AV.bool false) ([] : List Ob))) (Br.ret (AV.bool false) ([] : List Ob))) (Br.ret (AV.bool false) ([] : List Ob))) (Br.ret (AV.bool false) ([] : List Ob))) Br.fail)
theorem iEntryOk_run (ur : Bytes) (t1 t2 : Int) (ak : List Fd) (me ta : Bytes) (st : Int) (re : Bytes) (ba : Bool) (fs : List Fd) (bo : Bytes) : runF Kx iEntryOk_C iEntryOk_O 1 Tryz.f40 ([.agg [.str ur, .int .i64 t1, .int .i64 t2, .sh (.pair .str .str) ak, .str me, .str ta, .int .i64 st, .str re, .bool ba, .sh (.pair .str .str) fs, .str bo]]) ([]) = (iEntryOk_br ur t1 t2 ak me ta st re ba fs bo).val := by kernel_rfl
def iEntryOk_s : List AV → List Ob → Br
  | [.agg [.str ur, .int .i64 t1, .int .i64 t2, .sh (.pair .str .str) ak, .str me, .str ta, .int .i64 st, .str re, .bool ba, .sh (.pair .str .str) fs, .str bo]], [] => iEntryOk_br ur t1 t2 ak me ta st re ba fs bo
  | _, _ => .fail
theorem iEntryOk_ok : Sound Kx 40 iEntryOk_s := by
  refine sound_run (C := iEntryOk_C) (O := iEntryOk_O) KOk iEntryOk_C_ok Tryz.func40 (by kernel_rfl) fun args objs res os h => ?_
  unfold iEntryOk_s at h
  split at h
  · exact ⟨1, (iEntryOk_run _ _ _ _ _ _ _ _ _ _ _).trans h⟩
  · cases h

def sEntryOk_O : Opt := { cons := [], keepNil := false, mutF := [], live := [], outs := [], split := true }
def sEntryOk_C : Spec := (add (add (add (add noS 76 (t1_s fun s => .bool (isCanP s))) 77 (pn_s timB)) 59 (fl_s fun l => .bool (fdsOk l))) 78 mgOk_s)
theorem sEntryOk_C_ok : ∀ fn, Sound Kx fn (sEntryOk_C fn) := (sound_add (sound_add (sound_add (sound_add (sound_no Kx) sIsCan_okQ) sTime_okQ) sFieldsOk_okQ) sMsgOk_okQ)
def sEntryOk_br (ur : Bytes) (t1 t2 : Int) (ak : List Fd) (me ta : Bytes) (st : Int) (re : Bytes) (ba : Bool) (fs : List Fd) (bo : Bytes) : Br := (Br.ite (isM ur) (Br.ite (isCanP ur) (Br.ite (timB t1) (Br.ite (timB t2) (Br.ite (decide (t1 ≤ t2)) (Br.ite (fdsOk ak) (Br.ite (msgOkP me ta st re ba fs bo) (Br.ite (decide (me = ([] : Bytes))) (Br.ret (AV.bool (!ba)) ([] : List Ob)) (Br.ret (AV.bool false) ([] : List Ob))) (Br.ret (AV.bool false) ([] : List Ob))) (Br.ret (AV.bool false) ([] : List Ob))) (Br.ret (AV.bool false) ([] : List Ob))) (Br.ret (AV.bool false) ([] : List Ob))) (Br.ret (AV.bool false) ([] : List Ob))) (Br.ret (AV.bool false) ([] : List Ob))) Br.fail)
theorem sEntryOk_run (ur : Bytes) (t1 t2 : Int) (ak : List Fd) (me ta : Bytes) (st : Int) (re : Bytes) (ba : Bool) (fs : List Fd) (bo : Bytes) : runF Kx sEntryOk_C sEntryOk_O 1 Tryz.f37 ([.agg [.str ur, .int .i64 t1, .int .i64 t2, .sh (.pair .str .str) ak, .str me, .str ta, .int .i64 st, .str re, .bool ba, .sh (.pair .str .str) fs, .str bo]]) ([]) = (sEntryOk_br ur t1 t2 ak me ta st re ba fs bo).val := by kernel_rfl
def sEntryOk_s : List AV → List Ob → Br
  | [.agg [.str ur, .int .i64 t1, .int .i64 t2, .sh (.pair .str .str) ak, .str me, .str ta, .int .i64 st, .str re, .bool ba, .sh (.pair .str .str) fs, .str bo]], [] => sEntryOk_br ur t1 t2 ak me ta st re ba fs bo
  | _, _ => .fail
theorem sEntryOk_ok : Sound Kx 37 sEntryOk_s := by
  refine sound_run (C := sEntryOk_C) (O := sEntryOk_O) KOk sEntryOk_C_ok Tryz.func37 (by kernel_rfl) fun args objs res os h => ?_
  unfold sEntryOk_s at h
  split at h
  · exact ⟨1, (sEntryOk_run _ _ _ _ _ _ _ _ _ _ _).trans h⟩
  · cases h

end
end Go.Proofs.YtmmjaomfonknnaaGreatDoor.Ev

namespace Go.Proofs.YtmmjaomfonknnaaGreatDoor.Ev
open Go Go.RowKit
set_option linter.unusedVariables false
set_option linter.unusedSimpArgs false
noncomputable section
def ek_s : List AV → List Ob → Br := en_s (fun e => isM e.1) (fun e => .bool (entP e))
theorem iEntryOk_okQ : Sound Kx 40 ek_s := of_en iEntryOk_ok fun ur t1 t2 ak me ta st re ba fs bo h => by
  show (iEntryOk_br ur t1 t2 ak me ta st re ba fs bo).val = some (.bool (entP (ur, t1, t2, ak, me, ta, st, re, ba, fs, bo)), [])
  unfold iEntryOk_br entP
  refine (val_t h).trans ?_
  simp only
  cases isCanP ur <;> cases timB t1 <;> cases timB t2 <;> cases decide (t1 ≤ t2) <;> cases fdsOk ak <;> cases msgOkP me ta st re ba fs bo <;> cases decide (me = []) <;> rfl
theorem sEntryOk_okQ : Sound Kx 37 ek_s := of_en sEntryOk_ok fun ur t1 t2 ak me ta st re ba fs bo h => by
  show (sEntryOk_br ur t1 t2 ak me ta st re ba fs bo).val = some (.bool (entP (ur, t1, t2, ak, me, ta, st, re, ba, fs, bo)), [])
  unfold sEntryOk_br entP
  refine (val_t h).trans ?_
  simp only
  cases isCanP ur <;> cases timB t1 <;> cases timB t2 <;> cases decide (t1 ≤ t2) <;> cases fdsOk ak <;> cases msgOkP me ta st re ba fs bo <;> cases decide (me = []) <;> rfl
end
end Go.Proofs.YtmmjaomfonknnaaGreatDoor.Ev

namespace Go.Proofs.YtmmjaomfonknnaaGreatDoor.Ev
open Go Go.RowKit
set_option linter.unusedVariables false
set_option linter.unusedSimpArgs false
noncomputable section

def iSz_O : Opt := { cons := [], keepNil := false, mutF := [], live := [], outs := [] }
def iSz_C : Spec := (add noS 83 wr_s)
theorem iSz_C_ok : ∀ fn, Sound Kx fn (iSz_C fn) := (sound_add (sound_no Kx) iWrite_okQ)
def iSz_br (ur : Bytes) (t1 t2 : Int) (ak : List Fd) (me ta : Bytes) (st : Int) (re : Bytes) (ba : Bool) (fs : List Fd) (bo : Bytes) : Br := (Br.ret (AV.int .i64 (wk64 (((List.length ur) : Int) + ((List.length (writeP (me, (ta, (st, (re, (ba, (fs, bo)))))))) : Int)))) ([] : List Ob))
theorem iSz_run (ur : Bytes) (t1 t2 : Int) (ak : List Fd) (me ta : Bytes) (st : Int) (re : Bytes) (ba : Bool) (fs : List Fd) (bo : Bytes) : runF Kx iSz_C iSz_O 1 Tryz.f41 ([.agg [.str ur, .int .i64 t1, .int .i64 t2, .sh (.pair .str .str) ak, .str me, .str ta, .int .i64 st, .str re, .bool ba, .sh (.pair .str .str) fs, .str bo]]) ([]) = (iSz_br ur t1 t2 ak me ta st re ba fs bo).val := by kernel_rfl
def iSz_s : List AV → List Ob → Br
  | [.agg [.str ur, .int .i64 t1, .int .i64 t2, .sh (.pair .str .str) ak, .str me, .str ta, .int .i64 st, .str re, .bool ba, .sh (.pair .str .str) fs, .str bo]], [] => iSz_br ur t1 t2 ak me ta st re ba fs bo
  | _, _ => .fail
theorem iSz_ok : Sound Kx 41 iSz_s := by
  refine sound_run (C := iSz_C) (O := iSz_O) KOk iSz_C_ok Tryz.func41 (by kernel_rfl) fun args objs res os h => ?_
  unfold iSz_s at h
  split at h
  · exact ⟨1, (iSz_run _ _ _ _ _ _ _ _ _ _ _).trans h⟩
  · cases h

def sSz_O : Opt := { cons := [], keepNil := false, mutF := [], live := [], outs := [] }
def sSz_C : Spec := (add noS 79 wr_s)
theorem sSz_C_ok : ∀ fn, Sound Kx fn (sSz_C fn) := (sound_add (sound_no Kx) sWrite_okQ)
def sSz_br (ur : Bytes) (t1 t2 : Int) (ak : List Fd) (me ta : Bytes) (st : Int) (re : Bytes) (ba : Bool) (fs : List Fd) (bo : Bytes) : Br := (Br.ret (AV.int .i64 (wk64 (((List.length ur) : Int) + ((List.length (writeP (me, (ta, (st, (re, (ba, (fs, bo)))))))) : Int)))) ([] : List Ob))
theorem sSz_run (ur : Bytes) (t1 t2 : Int) (ak : List Fd) (me ta : Bytes) (st : Int) (re : Bytes) (ba : Bool) (fs : List Fd) (bo : Bytes) : runF Kx sSz_C sSz_O 1 Tryz.f38 ([.agg [.str ur, .int .i64 t1, .int .i64 t2, .sh (.pair .str .str) ak, .str me, .str ta, .int .i64 st, .str re, .bool ba, .sh (.pair .str .str) fs, .str bo]]) ([]) = (sSz_br ur t1 t2 ak me ta st re ba fs bo).val := by kernel_rfl
def sSz_s : List AV → List Ob → Br
  | [.agg [.str ur, .int .i64 t1, .int .i64 t2, .sh (.pair .str .str) ak, .str me, .str ta, .int .i64 st, .str re, .bool ba, .sh (.pair .str .str) fs, .str bo]], [] => sSz_br ur t1 t2 ak me ta st re ba fs bo
  | _, _ => .fail
theorem sSz_ok : Sound Kx 38 sSz_s := by
  refine sound_run (C := sSz_C) (O := sSz_O) KOk sSz_C_ok Tryz.func38 (by kernel_rfl) fun args objs res os h => ?_
  unfold sSz_s at h
  split at h
  · exact ⟨1, (sSz_run _ _ _ _ _ _ _ _ _ _ _).trans h⟩
  · cases h

end
end Go.Proofs.YtmmjaomfonknnaaGreatDoor.Ev

namespace Go.Proofs.YtmmjaomfonknnaaGreatDoor.Ev
open Go Go.RowKit
set_option linter.unusedVariables false
set_option linter.unusedSimpArgs false
noncomputable section
def entSz (e : En) : Int := (e.1.length : Int) + ((writeP e.2.2.2.2).length : Int)
def es_s : List AV → List Ob → Br := en_s (fun e => isM e.1) (fun e => .int .i64 (entSz e))
theorem iSz_okQ : Sound Kx 41 es_s := of_en iSz_ok fun ur t1 t2 ak me ta st re ba fs bo h => by
  show (iSz_br ur t1 t2 ak me ta st re ba fs bo).val = some (.int .i64 (entSz (ur, t1, t2, ak, me, ta, st, re, ba, fs, bo)), [])
  have h1 := isM_le h
  have h2 := write_len (me, ta, st, re, ba, fs, bo)
  unfold iSz_br entSz
  simp only at h1 ⊢
  rw [w64 (by omega) (by omega)]; rfl
theorem sSz_okQ : Sound Kx 38 es_s := of_en sSz_ok fun ur t1 t2 ak me ta st re ba fs bo h => by
  show (sSz_br ur t1 t2 ak me ta st re ba fs bo).val = some (.int .i64 (entSz (ur, t1, t2, ak, me, ta, st, re, ba, fs, bo)), [])
  have h1 := isM_le h
  have h2 := write_len (me, ta, st, re, ba, fs, bo)
  unfold sSz_br entSz
  simp only at h1 ⊢
  rw [w64 (by omega) (by omega)]; rfl
end
end Go.Proofs.YtmmjaomfonknnaaGreatDoor.Ev

namespace Go.Proofs.YtmmjaomfonknnaaGreatDoor.Ev
open Go Go.RowKit
set_option linter.unusedVariables false
set_option linter.unusedSimpArgs false
noncomputable section

def iCSz_O : Opt := { cons := [], keepNil := false, mutF := [], live := [(3, [3, 7, 8, 9])], outs := [(3, [2, 3])] }
def iCSz_C : Spec := (add noS 41 es_s)
theorem iCSz_C_ok : ∀ fn, Sound Kx fn (iCSz_C fn) := (sound_add (sound_no Kx) iSz_okQ)
def iCSz_T3 (v3x0 : Int) (v3x1 : (List En)) (v3x2 : Int) (v3x3 : Int) (kR3 : Int → (List En) → Int → Int → Option Rs) (k3e0 : Int → Option Rs) : Option Rs :=
  (bif (decide (v3x3 < v3x2)) then (bif (decide ((0 : Int) ≤ v3x3)) then (bif (decide (v3x3 < ((List.length v3x1) : Int))) then (bif (isM (List.getD v3x1 (Int.toNat v3x3) en0).1) then (kR3 (wk64 (v3x0 + (entSz ((List.getD v3x1 (Int.toNat v3x3) en0).1, ((List.getD v3x1 (Int.toNat v3x3) en0).2.1, ((List.getD v3x1 (Int.toNat v3x3) en0).2.2.1, ((List.getD v3x1 (Int.toNat v3x3) en0).2.2.2.1, ((List.getD v3x1 (Int.toNat v3x3) en0).2.2.2.2.1, ((List.getD v3x1 (Int.toNat v3x3) en0).2.2.2.2.2.1, ((List.getD v3x1 (Int.toNat v3x3) en0).2.2.2.2.2.2.1, ((List.getD v3x1 (Int.toNat v3x3) en0).2.2.2.2.2.2.2.1, ((List.getD v3x1 (Int.toNat v3x3) en0).2.2.2.2.2.2.2.2.1, ((List.getD v3x1 (Int.toNat v3x3) en0).2.2.2.2.2.2.2.2.2.1, (List.getD v3x1 (Int.toNat v3x3) en0).2.2.2.2.2.2.2.2.2.2))))))))))))) v3x1 v3x2 (wk64 (v3x3 + (1 : Int)))) else (none)) else (none)) else (none)) else (k3e0 v3x0))
def iCSz_F3 : Nat → Int → (List En) → Int → Int → (Int → Option Rs) → Option Rs
  | 0, _, _, _, _, _ => none
  | n + 1, v3x0, v3x1, v3x2, v3x3, k3e0 => iCSz_T3 v3x0 v3x1 v3x2 v3x3 (fun v3x0 v3x1 v3x2 v3x3 => iCSz_F3 n v3x0 v3x1 v3x2 v3x3 k3e0) k3e0
def iCSz_h3 (v3x0 : Int) (v3x1 : (List En)) (v3x2 : Int) (v3x3 : Int) : St := (St.mk (slots 0 19 [(3, (AV.int .i64 v3x0)), (7, (AV.sh EnT v3x1)), (8, (AV.int .i64 v3x2)), (9, (AV.int .i64 v3x3))]) ([] : (List (Nat × (Ob)))))
def iCSz_x3e0 (x3x0x0 : Int) : St := (St.mk (slots 0 19 [(3, (AV.int .i64 x3x0x0))]) ([] : (List (Nat × (Ob)))))
noncomputable def iCSz_b3 : Code := codeAt (codeOf Tryz.f47) [1, 1, 0, 1, 0, 0]
def iCSz_L3 (N : Nat) (st : St) (k : Ex → St → Option Rs) : Option Rs := match takeF [3, 7, 8, 9] 0 19 st.env, st.objs with
  | some [.int .i64 v3x0, .sh EnT v3x1, .int .i64 v3x2, .int .i64 v3x3], [] => iCSz_F3 N v3x0 v3x1 v3x2 v3x3 (fun x3x0x0 => k (Ex.exit (0 : Nat)) (iCSz_x3e0 x3x0x0))
  | _, _ => none
def iCSz_L (N : Nat) : Lam := fun j st k => match j with
  | 3 => iCSz_L3 N st k
  | _ => none
theorem iCSz_round3 (N : Nat) (again : St → Option Rs) (k : Ex → St → Option Rs) (wv3x0 : Int) (wv3x1 : (List En)) (wv3x2 : Int) (wv3x3 : Int) (v3x0 : Int) (v3x1 : (List En)) (v3x2 : Int) (v3x3 : Int) :
    roundK 0 (fun st k => evL Kx iCSz_C iCSz_O 0 (iCSz_L N) iCSz_b3 st k) (iCSz_h3 wv3x0 wv3x1 wv3x2 wv3x3).env again (iCSz_h3 v3x0 v3x1 v3x2 v3x3) (outK iCSz_O 0 iCSz_b3 k) = iCSz_T3 v3x0 v3x1 v3x2 v3x3 (fun v3x0 v3x1 v3x2 v3x3 => again (iCSz_h3 v3x0 v3x1 v3x2 v3x3)) (fun x3x0x0 => k (Ex.exit (0 : Nat)) (iCSz_x3e0 x3x0x0)) := by kernel_rfl
theorem iCSz_loop3 (N : Nat) (k : Ex → St → Option Rs) (wv3x0 : Int) (wv3x1 : (List En)) (wv3x2 : Int) (wv3x3 : Int) : ∀ (n : Nat) (v3x0 : Int) (v3x1 : (List En)) (v3x2 : Int) (v3x3 : Int),
    loopK 0 (fun st k => evL Kx iCSz_C iCSz_O 0 (iCSz_L N) iCSz_b3 st k) (iCSz_h3 wv3x0 wv3x1 wv3x2 wv3x3).env n (iCSz_h3 v3x0 v3x1 v3x2 v3x3) (outK iCSz_O 0 iCSz_b3 k) = iCSz_F3 n v3x0 v3x1 v3x2 v3x3 (fun x3x0x0 => k (Ex.exit (0 : Nat)) (iCSz_x3e0 x3x0x0))
  | 0, _, _, _, _ => rfl
  | n + 1, v3x0, v3x1, v3x2, v3x3 => by
    rw [loopK_succ, iCSz_round3]
    simp only [iCSz_loop3 N k wv3x0 wv3x1 wv3x2 wv3x3 n]
    rfl
theorem iCSz_at3 (N : Nat) {s : St} {k : Ex → St → Option Rs} {r : Rs} (h : iCSz_L3 N s k = some r) : ∃ (v3x0 : Int) (v3x1 : (List En)) (v3x2 : Int) (v3x3 : Int), s = (iCSz_h3 v3x0 v3x1 v3x2 v3x3) ∧ iCSz_F3 N v3x0 v3x1 v3x2 v3x3 (fun x3x0x0 => k (Ex.exit (0 : Nat)) (iCSz_x3e0 x3x0x0)) = some r := by
  cases s with | mk env objs =>
  unfold iCSz_L3 at h
  split at h
  · rename_i e1 e2
    have e3 := takeF_slots _ _ _ _ e1
    simp only at e2 e3
    subst e2 e3
    exact ⟨_, _, _, _, rfl, h⟩
  · cases h
theorem iCSz_in3 : loops iCSz_b3 = [] := by kernel_rfl
theorem iCSz_lid3 : lid iCSz_b3 = 3 := by kernel_rfl
theorem iCSz_ok3 (N : Nat) : OkL Kx iCSz_C iCSz_O 0 N (iCSz_L N) iCSz_b3 := by
  intro s k k' r hk h
  rw [iCSz_lid3] at h
  obtain ⟨v3x0, v3x1, v3x2, v3x3, rfl, h⟩ := iCSz_at3 N h
  refine loopL (Λ := iCSz_L N) iCSz_b3 ?_ N hk ((iCSz_loop3 N k v3x0 v3x1 v3x2 v3x3 N v3x0 v3x1 v3x2 v3x3).trans h)
  rw [iCSz_in3]
  exact fun _ h => nomatch h
def iCSz_run (N : Nat) (bu : Int) (l : List En) : Option Rs := (iCSz_F3 N (0 : Int) l ((List.length l) : Int) (0 : Int) (fun x3x0x0 => (some ((AV.int .i64 x3x0x0), ([] : List Ob)))))
theorem iCSz_runL (N : Nat) (bu : Int) (l : List En) : runL Kx iCSz_C iCSz_O (iCSz_L N) Tryz.f47 ([.agg [.int .i64 bu, .sh EnT l]]) ([]) = iCSz_run N bu l := by kernel_rfl
theorem iCSz_body : Tryz.f47.body = some (codeOf Tryz.f47) := by kernel_rfl
theorem iCSz_loops : loops (codeOf Tryz.f47) = [iCSz_b3] := by kernel_rfl
theorem iCSz_ev (N : Nat) (bu : Int) (l : List En) {res_ : Rs} (hyp_ : iCSz_run N bu l = some res_) : ∃ n_, runF Kx iCSz_C iCSz_O n_ Tryz.f47 ([.agg [.int .i64 bu, .sh EnT l]]) ([]) = some res_ :=
  ⟨N, runL_runF iCSz_body (by rw [iCSz_loops]; exact List.forall_mem_cons.2 ⟨iCSz_ok3 N, fun _ h => nomatch h⟩) ((iCSz_runL N bu l).trans hyp_)⟩
def iCSz_sOf (φ : Int → (List En) → Br) : List AV → List Ob → Br
  | [.agg [.int .i64 bu, .sh EnT l]], [] => φ bu l
  | _, _ => .fail
theorem iCSz_okOf {φ : Int → (List En) → Br} (fu : Int → (List En) → Nat) (hv : ∀ bu l res_, (φ bu l).val = some res_ → iCSz_run (fu bu l) bu l = some res_) : Sound Kx 47 (iCSz_sOf φ) := by
  refine sound_run (C := iCSz_C) (O := iCSz_O) KOk iCSz_C_ok Tryz.func47 (by kernel_rfl) fun args objs res os h => ?_
  unfold iCSz_sOf at h
  split at h
  · exact iCSz_ev _ _ _ (hv _ _ _ h)
  · cases h

def sCSz_O : Opt := { cons := [], keepNil := false, mutF := [], live := [(3, [0, 3, 4])], outs := [(3, [2, 3])] }
def sCSz_C : Spec := (add noS 38 es_s)
theorem sCSz_C_ok : ∀ fn, Sound Kx fn (sCSz_C fn) := (sound_add (sound_no Kx) sSz_okQ)
def sCSz_T3 (v3x0 : (List En)) (v3x1 : Int) (v3x2 : Int) (kR3 : (List En) → Int → Int → Option Rs) (k3e0 : Int → Option Rs) : Option Rs :=
  (bif (decide (v3x2 < ((List.length v3x0) : Int))) then (bif (decide ((0 : Int) ≤ v3x2)) then (bif (decide (v3x2 < ((List.length v3x0) : Int))) then (bif (isM (List.getD v3x0 (Int.toNat v3x2) en0).1) then (kR3 v3x0 (wk64 (v3x1 + (entSz ((List.getD v3x0 (Int.toNat v3x2) en0).1, ((List.getD v3x0 (Int.toNat v3x2) en0).2.1, ((List.getD v3x0 (Int.toNat v3x2) en0).2.2.1, ((List.getD v3x0 (Int.toNat v3x2) en0).2.2.2.1, ((List.getD v3x0 (Int.toNat v3x2) en0).2.2.2.2.1, ((List.getD v3x0 (Int.toNat v3x2) en0).2.2.2.2.2.1, ((List.getD v3x0 (Int.toNat v3x2) en0).2.2.2.2.2.2.1, ((List.getD v3x0 (Int.toNat v3x2) en0).2.2.2.2.2.2.2.1, ((List.getD v3x0 (Int.toNat v3x2) en0).2.2.2.2.2.2.2.2.1, ((List.getD v3x0 (Int.toNat v3x2) en0).2.2.2.2.2.2.2.2.2.1, (List.getD v3x0 (Int.toNat v3x2) en0).2.2.2.2.2.2.2.2.2.2))))))))))))) (wk64 (v3x2 + (1 : Int)))) else (none)) else (none)) else (none)) else (k3e0 v3x1))
def sCSz_F3 : Nat → (List En) → Int → Int → (Int → Option Rs) → Option Rs
  | 0, _, _, _, _ => none
  | n + 1, v3x0, v3x1, v3x2, k3e0 => sCSz_T3 v3x0 v3x1 v3x2 (fun v3x0 v3x1 v3x2 => sCSz_F3 n v3x0 v3x1 v3x2 k3e0) k3e0
def sCSz_h3 (v3x0 : (List En)) (v3x1 : Int) (v3x2 : Int) : St := (St.mk (slots 0 19 [(0, (AV.sh EnT v3x0)), (3, (AV.int .i64 v3x1)), (4, (AV.int .i64 v3x2))]) ([] : (List (Nat × (Ob)))))
def sCSz_x3e0 (x3x0x0 : Int) : St := (St.mk (slots 0 19 [(3, (AV.int .i64 x3x0x0))]) ([] : (List (Nat × (Ob)))))
noncomputable def sCSz_b3 : Code := codeAt (codeOf Tryz.f44) [1, 1, 0, 1, 0, 0]
def sCSz_L3 (N : Nat) (st : St) (k : Ex → St → Option Rs) : Option Rs := match takeF [0, 3, 4] 0 19 st.env, st.objs with
  | some [.sh EnT v3x0, .int .i64 v3x1, .int .i64 v3x2], [] => sCSz_F3 N v3x0 v3x1 v3x2 (fun x3x0x0 => k (Ex.exit (0 : Nat)) (sCSz_x3e0 x3x0x0))
  | _, _ => none
def sCSz_L (N : Nat) : Lam := fun j st k => match j with
  | 3 => sCSz_L3 N st k
  | _ => none
theorem sCSz_round3 (N : Nat) (again : St → Option Rs) (k : Ex → St → Option Rs) (wv3x0 : (List En)) (wv3x1 : Int) (wv3x2 : Int) (v3x0 : (List En)) (v3x1 : Int) (v3x2 : Int) :
    roundK 0 (fun st k => evL Kx sCSz_C sCSz_O 0 (sCSz_L N) sCSz_b3 st k) (sCSz_h3 wv3x0 wv3x1 wv3x2).env again (sCSz_h3 v3x0 v3x1 v3x2) (outK sCSz_O 0 sCSz_b3 k) = sCSz_T3 v3x0 v3x1 v3x2 (fun v3x0 v3x1 v3x2 => again (sCSz_h3 v3x0 v3x1 v3x2)) (fun x3x0x0 => k (Ex.exit (0 : Nat)) (sCSz_x3e0 x3x0x0)) := by kernel_rfl
theorem sCSz_loop3 (N : Nat) (k : Ex → St → Option Rs) (wv3x0 : (List En)) (wv3x1 : Int) (wv3x2 : Int) : ∀ (n : Nat) (v3x0 : (List En)) (v3x1 : Int) (v3x2 : Int),
    loopK 0 (fun st k => evL Kx sCSz_C sCSz_O 0 (sCSz_L N) sCSz_b3 st k) (sCSz_h3 wv3x0 wv3x1 wv3x2).env n (sCSz_h3 v3x0 v3x1 v3x2) (outK sCSz_O 0 sCSz_b3 k) = sCSz_F3 n v3x0 v3x1 v3x2 (fun x3x0x0 => k (Ex.exit (0 : Nat)) (sCSz_x3e0 x3x0x0))
  | 0, _, _, _ => rfl
  | n + 1, v3x0, v3x1, v3x2 => by
    rw [loopK_succ, sCSz_round3]
    simp only [sCSz_loop3 N k wv3x0 wv3x1 wv3x2 n]
    rfl
theorem sCSz_at3 (N : Nat) {s : St} {k : Ex → St → Option Rs} {r : Rs} (h : sCSz_L3 N s k = some r) : ∃ (v3x0 : (List En)) (v3x1 : Int) (v3x2 : Int), s = (sCSz_h3 v3x0 v3x1 v3x2) ∧ sCSz_F3 N v3x0 v3x1 v3x2 (fun x3x0x0 => k (Ex.exit (0 : Nat)) (sCSz_x3e0 x3x0x0)) = some r := by
  cases s with | mk env objs =>
  unfold sCSz_L3 at h
  split at h
  · rename_i e1 e2
    have e3 := takeF_slots _ _ _ _ e1
    simp only at e2 e3
    subst e2 e3
    exact ⟨_, _, _, rfl, h⟩
  · cases h
theorem sCSz_in3 : loops sCSz_b3 = [] := by kernel_rfl
theorem sCSz_lid3 : lid sCSz_b3 = 3 := by kernel_rfl
theorem sCSz_ok3 (N : Nat) : OkL Kx sCSz_C sCSz_O 0 N (sCSz_L N) sCSz_b3 := by
  intro s k k' r hk h
  rw [sCSz_lid3] at h
  obtain ⟨v3x0, v3x1, v3x2, rfl, h⟩ := sCSz_at3 N h
  refine loopL (Λ := sCSz_L N) sCSz_b3 ?_ N hk ((sCSz_loop3 N k v3x0 v3x1 v3x2 N v3x0 v3x1 v3x2).trans h)
  rw [sCSz_in3]
  exact fun _ h => nomatch h
def sCSz_run (N : Nat) (l : List En) : Option Rs := (sCSz_F3 N l (0 : Int) (0 : Int) (fun x3x0x0 => (some ((AV.int .i64 x3x0x0), ([] : List Ob)))))
theorem sCSz_runL (N : Nat) (l : List En) : runL Kx sCSz_C sCSz_O (sCSz_L N) Tryz.f44 ([.sh EnT l]) ([]) = sCSz_run N l := by kernel_rfl
theorem sCSz_body : Tryz.f44.body = some (codeOf Tryz.f44) := by kernel_rfl
theorem sCSz_loops : loops (codeOf Tryz.f44) = [sCSz_b3] := by kernel_rfl
theorem sCSz_ev (N : Nat) (l : List En) {res_ : Rs} (hyp_ : sCSz_run N l = some res_) : ∃ n_, runF Kx sCSz_C sCSz_O n_ Tryz.f44 ([.sh EnT l]) ([]) = some res_ :=
  ⟨N, runL_runF sCSz_body (by rw [sCSz_loops]; exact List.forall_mem_cons.2 ⟨sCSz_ok3 N, fun _ h => nomatch h⟩) ((sCSz_runL N l).trans hyp_)⟩
def sCSz_sOf (φ : (List En) → Br) : List AV → List Ob → Br
  | [.sh EnT l], [] => φ l
  | _, _ => .fail
theorem sCSz_okOf {φ : (List En) → Br} (fu : (List En) → Nat) (hv : ∀ l res_, (φ l).val = some res_ → sCSz_run (fu l) l = some res_) : Sound Kx 44 (sCSz_sOf φ) := by
  refine sound_run (C := sCSz_C) (O := sCSz_O) KOk sCSz_C_ok Tryz.func44 (by kernel_rfl) fun args objs res os h => ?_
  unfold sCSz_sOf at h
  split at h
  · exact sCSz_ev _ _ (hv _ _ h)
  · cases h

def szEntryS_O : Opt := { cons := [], keepNil := false, mutF := [], live := [(5, [0, 1, 5])], outs := [(5, [1, 4])] }
def szEntryS_C : Spec := (add noS 10 szE_s)
theorem szEntryS_C_ok : ∀ fn, Sound Kx fn (szEntryS_C fn) := (sound_add (sound_no Kx) szEntry_okQ)
def szEntryS_T5 (v5x0 : (List En)) (v5x1 : Int) (v5x2 : Int) (kR5 : (List En) → Int → Int → Option Rs) (k5e0 : Int → Option Rs) (k5e1 : Int → Option Rs) : Option Rs :=
  (bif (decide (v5x2 < ((List.length v5x0) : Int))) then (bif (decide ((0 : Int) ≤ v5x2)) then (bif (decide (v5x2 < ((List.length v5x0) : Int))) then (bif ((smE ((List.getD v5x0 (Int.toNat v5x2) en0).1, ((List.getD v5x0 (Int.toNat v5x2) en0).2.1, ((List.getD v5x0 (Int.toNat v5x2) en0).2.2.1, ((List.getD v5x0 (Int.toNat v5x2) en0).2.2.2.1, ((List.getD v5x0 (Int.toNat v5x2) en0).2.2.2.2.1, ((List.getD v5x0 (Int.toNat v5x2) en0).2.2.2.2.2.1, ((List.getD v5x0 (Int.toNat v5x2) en0).2.2.2.2.2.2.1, ((List.getD v5x0 (Int.toNat v5x2) en0).2.2.2.2.2.2.2.1, ((List.getD v5x0 (Int.toNat v5x2) en0).2.2.2.2.2.2.2.2.1, ((List.getD v5x0 (Int.toNat v5x2) en0).2.2.2.2.2.2.2.2.2.1, (List.getD v5x0 (Int.toNat v5x2) en0).2.2.2.2.2.2.2.2.2.2))))))))))) && (okLeft v5x1)) then (bif (decide ((szM (enW ((List.getD v5x0 (Int.toNat v5x2) en0).1, ((List.getD v5x0 (Int.toNat v5x2) en0).2.1, ((List.getD v5x0 (Int.toNat v5x2) en0).2.2.1, ((List.getD v5x0 (Int.toNat v5x2) en0).2.2.2.1, ((List.getD v5x0 (Int.toNat v5x2) en0).2.2.2.2.1, ((List.getD v5x0 (Int.toNat v5x2) en0).2.2.2.2.2.1, ((List.getD v5x0 (Int.toNat v5x2) en0).2.2.2.2.2.2.1, ((List.getD v5x0 (Int.toNat v5x2) en0).2.2.2.2.2.2.2.1, ((List.getD v5x0 (Int.toNat v5x2) en0).2.2.2.2.2.2.2.2.1, ((List.getD v5x0 (Int.toNat v5x2) en0).2.2.2.2.2.2.2.2.2.1, (List.getD v5x0 (Int.toNat v5x2) en0).2.2.2.2.2.2.2.2.2.2))))))))))) v5x1) < (0 : Int))) then (k5e0 (szM (enW ((List.getD v5x0 (Int.toNat v5x2) en0).1, ((List.getD v5x0 (Int.toNat v5x2) en0).2.1, ((List.getD v5x0 (Int.toNat v5x2) en0).2.2.1, ((List.getD v5x0 (Int.toNat v5x2) en0).2.2.2.1, ((List.getD v5x0 (Int.toNat v5x2) en0).2.2.2.2.1, ((List.getD v5x0 (Int.toNat v5x2) en0).2.2.2.2.2.1, ((List.getD v5x0 (Int.toNat v5x2) en0).2.2.2.2.2.2.1, ((List.getD v5x0 (Int.toNat v5x2) en0).2.2.2.2.2.2.2.1, ((List.getD v5x0 (Int.toNat v5x2) en0).2.2.2.2.2.2.2.2.1, ((List.getD v5x0 (Int.toNat v5x2) en0).2.2.2.2.2.2.2.2.2.1, (List.getD v5x0 (Int.toNat v5x2) en0).2.2.2.2.2.2.2.2.2.2))))))))))) v5x1)) else (kR5 v5x0 (szM (enW ((List.getD v5x0 (Int.toNat v5x2) en0).1, ((List.getD v5x0 (Int.toNat v5x2) en0).2.1, ((List.getD v5x0 (Int.toNat v5x2) en0).2.2.1, ((List.getD v5x0 (Int.toNat v5x2) en0).2.2.2.1, ((List.getD v5x0 (Int.toNat v5x2) en0).2.2.2.2.1, ((List.getD v5x0 (Int.toNat v5x2) en0).2.2.2.2.2.1, ((List.getD v5x0 (Int.toNat v5x2) en0).2.2.2.2.2.2.1, ((List.getD v5x0 (Int.toNat v5x2) en0).2.2.2.2.2.2.2.1, ((List.getD v5x0 (Int.toNat v5x2) en0).2.2.2.2.2.2.2.2.1, ((List.getD v5x0 (Int.toNat v5x2) en0).2.2.2.2.2.2.2.2.2.1, (List.getD v5x0 (Int.toNat v5x2) en0).2.2.2.2.2.2.2.2.2.2))))))))))) v5x1) (wk64 (v5x2 + (1 : Int))))) else (none)) else (none)) else (none)) else (k5e1 v5x1))
def szEntryS_F5 : Nat → (List En) → Int → Int → (Int → Option Rs) → (Int → Option Rs) → Option Rs
  | 0, _, _, _, _, _ => none
  | n + 1, v5x0, v5x1, v5x2, k5e0, k5e1 => szEntryS_T5 v5x0 v5x1 v5x2 (fun v5x0 v5x1 v5x2 => szEntryS_F5 n v5x0 v5x1 v5x2 k5e0 k5e1) k5e0 k5e1
def szEntryS_h5 (v5x0 : (List En)) (v5x1 : Int) (v5x2 : Int) : St := (St.mk (slots 0 27 [(0, (AV.sh EnT v5x0)), (1, (AV.int .i64 v5x1)), (5, (AV.int .i64 v5x2))]) ([] : (List (Nat × (Ob)))))
def szEntryS_x5e0 (x5x0x0 : Int) : St := (St.mk (slots 0 27 [(1, (AV.int .i64 x5x0x0)), (4, (AV.int .i64 (-(1 : Int))))]) ([] : (List (Nat × (Ob)))))
def szEntryS_x5e1 (x5x1x0 : Int) : St := (St.mk (slots 0 27 [(1, (AV.int .i64 x5x1x0))]) ([] : (List (Nat × (Ob)))))
noncomputable def szEntryS_b5 : Code := codeAt (codeOf Tryz.f43) [1, 1, 1, 0, 1, 0, 0]
def szEntryS_L5 (N : Nat) (st : St) (k : Ex → St → Option Rs) : Option Rs := match takeF [0, 1, 5] 0 27 st.env, st.objs with
  | some [.sh EnT v5x0, .int .i64 v5x1, .int .i64 v5x2], [] => szEntryS_F5 N v5x0 v5x1 v5x2 (fun x5x0x0 => k Ex.ret (szEntryS_x5e0 x5x0x0)) (fun x5x1x0 => k (Ex.exit (0 : Nat)) (szEntryS_x5e1 x5x1x0))
  | _, _ => none
def szEntryS_L (N : Nat) : Lam := fun j st k => match j with
  | 5 => szEntryS_L5 N st k
  | _ => none
theorem szEntryS_round5 (N : Nat) (again : St → Option Rs) (k : Ex → St → Option Rs) (wv5x0 : (List En)) (wv5x1 : Int) (wv5x2 : Int) (v5x0 : (List En)) (v5x1 : Int) (v5x2 : Int) :
    roundK 0 (fun st k => evL Kx szEntryS_C szEntryS_O 0 (szEntryS_L N) szEntryS_b5 st k) (szEntryS_h5 wv5x0 wv5x1 wv5x2).env again (szEntryS_h5 v5x0 v5x1 v5x2) (outK szEntryS_O 0 szEntryS_b5 k) = szEntryS_T5 v5x0 v5x1 v5x2 (fun v5x0 v5x1 v5x2 => again (szEntryS_h5 v5x0 v5x1 v5x2)) (fun x5x0x0 => k Ex.ret (szEntryS_x5e0 x5x0x0)) (fun x5x1x0 => k (Ex.exit (0 : Nat)) (szEntryS_x5e1 x5x1x0)) := by kernel_rfl
theorem szEntryS_loop5 (N : Nat) (k : Ex → St → Option Rs) (wv5x0 : (List En)) (wv5x1 : Int) (wv5x2 : Int) : ∀ (n : Nat) (v5x0 : (List En)) (v5x1 : Int) (v5x2 : Int),
    loopK 0 (fun st k => evL Kx szEntryS_C szEntryS_O 0 (szEntryS_L N) szEntryS_b5 st k) (szEntryS_h5 wv5x0 wv5x1 wv5x2).env n (szEntryS_h5 v5x0 v5x1 v5x2) (outK szEntryS_O 0 szEntryS_b5 k) = szEntryS_F5 n v5x0 v5x1 v5x2 (fun x5x0x0 => k Ex.ret (szEntryS_x5e0 x5x0x0)) (fun x5x1x0 => k (Ex.exit (0 : Nat)) (szEntryS_x5e1 x5x1x0))
  | 0, _, _, _ => rfl
  | n + 1, v5x0, v5x1, v5x2 => by
    rw [loopK_succ, szEntryS_round5]
    simp only [szEntryS_loop5 N k wv5x0 wv5x1 wv5x2 n]
    rfl
theorem szEntryS_at5 (N : Nat) {s : St} {k : Ex → St → Option Rs} {r : Rs} (h : szEntryS_L5 N s k = some r) : ∃ (v5x0 : (List En)) (v5x1 : Int) (v5x2 : Int), s = (szEntryS_h5 v5x0 v5x1 v5x2) ∧ szEntryS_F5 N v5x0 v5x1 v5x2 (fun x5x0x0 => k Ex.ret (szEntryS_x5e0 x5x0x0)) (fun x5x1x0 => k (Ex.exit (0 : Nat)) (szEntryS_x5e1 x5x1x0)) = some r := by
  cases s with | mk env objs =>
  unfold szEntryS_L5 at h
  split at h
  · rename_i e1 e2
    have e3 := takeF_slots _ _ _ _ e1
    simp only at e2 e3
    subst e2 e3
    exact ⟨_, _, _, rfl, h⟩
  · cases h
theorem szEntryS_in5 : loops szEntryS_b5 = [] := by kernel_rfl
theorem szEntryS_lid5 : lid szEntryS_b5 = 5 := by kernel_rfl
theorem szEntryS_ok5 (N : Nat) : OkL Kx szEntryS_C szEntryS_O 0 N (szEntryS_L N) szEntryS_b5 := by
  intro s k k' r hk h
  rw [szEntryS_lid5] at h
  obtain ⟨v5x0, v5x1, v5x2, rfl, h⟩ := szEntryS_at5 N h
  refine loopL (Λ := szEntryS_L N) szEntryS_b5 ?_ N hk ((szEntryS_loop5 N k v5x0 v5x1 v5x2 N v5x0 v5x1 v5x2).trans h)
  rw [szEntryS_in5]
  exact fun _ h => nomatch h
def szEntryS_run (N : Nat) (l : List En) (left : Int) : Option Rs := (bif (decide ((wk64 (left - ((List.length l) : Int))) < (0 : Int))) then (some ((AV.int .i64 (-(1 : Int))), ([] : List Ob))) else (szEntryS_F5 N l (wk64 (left - ((List.length l) : Int))) (0 : Int) (fun x5x0x0 => (some ((AV.int .i64 (-(1 : Int))), ([] : List Ob)))) (fun x5x1x0 => (some ((AV.int .i64 x5x1x0), ([] : List Ob))))))
theorem szEntryS_runL (N : Nat) (l : List En) (left : Int) : runL Kx szEntryS_C szEntryS_O (szEntryS_L N) Tryz.f43 ([.sh EnT l, .int .i64 left]) ([]) = szEntryS_run N l left := by kernel_rfl
theorem szEntryS_body : Tryz.f43.body = some (codeOf Tryz.f43) := by kernel_rfl
theorem szEntryS_loops : loops (codeOf Tryz.f43) = [szEntryS_b5] := by kernel_rfl
theorem szEntryS_ev (N : Nat) (l : List En) (left : Int) {res_ : Rs} (hyp_ : szEntryS_run N l left = some res_) : ∃ n_, runF Kx szEntryS_C szEntryS_O n_ Tryz.f43 ([.sh EnT l, .int .i64 left]) ([]) = some res_ :=
  ⟨N, runL_runF szEntryS_body (by rw [szEntryS_loops]; exact List.forall_mem_cons.2 ⟨szEntryS_ok5 N, fun _ h => nomatch h⟩) ((szEntryS_runL N l left).trans hyp_)⟩
def szEntryS_sOf (φ : (List En) → Int → Br) : List AV → List Ob → Br
  | [.sh EnT l, .int .i64 left], [] => φ l left
  | _, _ => .fail
theorem szEntryS_okOf {φ : (List En) → Int → Br} (fu : (List En) → Int → Nat) (hv : ∀ l left res_, (φ l left).val = some res_ → szEntryS_run (fu l left) l left = some res_) : Sound Kx 43 (szEntryS_sOf φ) := by
  refine sound_run (C := szEntryS_C) (O := szEntryS_O) KOk szEntryS_C_ok Tryz.func43 (by kernel_rfl) fun args objs res os h => ?_
  unfold szEntryS_sOf at h
  split at h
  · exact szEntryS_ev _ _ _ (hv _ _ _ h)
  · cases h

def toEntryS_O : Opt := { cons := [], keepNil := false, mutF := [], live := [(3, [0, 3, 4])], outs := [(3, [2, 3])] }
def toEntryS_C : Spec := (add noS 12 toEntry_s)
theorem toEntryS_C_ok : ∀ fn, Sound Kx fn (toEntryS_C fn) := (sound_add (sound_no Kx) toEntry_ok)
def toEntryS_T3 (v3x0 : (List En)) (v3x1 : Int) (v3x2 : (List En)) (kR3 : (List En) → Int → (List En) → Option Rs) (k3e0 : (List En) → Option Rs) : Option Rs :=
  (bif (decide (v3x1 < ((List.length v3x0) : Int))) then (bif (decide ((0 : Int) ≤ v3x1)) then (bif (decide (v3x1 < ((List.length v3x0) : Int))) then (bif (decide ((List.length (List.getD v3x0 (Int.toNat v3x1) en0).2.2.2.1) ≤ (1048576 : Nat))) then (bif (decide ((List.length (List.getD v3x0 (Int.toNat v3x1) en0).2.2.2.2.2.2.2.2.2.1) ≤ (1048576 : Nat))) then (bif (decide ((0 : Int) ≤ v3x1)) then (bif (decide (v3x1 < ((List.length v3x2) : Int))) then (kR3 v3x0 (wk64 (v3x1 + (1 : Int))) (List.set v3x2 (Int.toNat v3x1) ((List.getD v3x0 (Int.toNat v3x1) en0).1, ((List.getD v3x0 (Int.toNat v3x1) en0).2.1, ((List.getD v3x0 (Int.toNat v3x1) en0).2.2.1, ((List.getD v3x0 (Int.toNat v3x1) en0).2.2.2.1, ((List.getD v3x0 (Int.toNat v3x1) en0).2.2.2.2.1, ((List.getD v3x0 (Int.toNat v3x1) en0).2.2.2.2.2.1, ((List.getD v3x0 (Int.toNat v3x1) en0).2.2.2.2.2.2.1, ((List.getD v3x0 (Int.toNat v3x1) en0).2.2.2.2.2.2.2.1, ((List.getD v3x0 (Int.toNat v3x1) en0).2.2.2.2.2.2.2.2.1, ((List.getD v3x0 (Int.toNat v3x1) en0).2.2.2.2.2.2.2.2.2.1, (List.getD v3x0 (Int.toNat v3x1) en0).2.2.2.2.2.2.2.2.2.2)))))))))))) else (none)) else (none)) else (none)) else (none)) else (none)) else (none)) else (k3e0 v3x2))
def toEntryS_F3 : Nat → (List En) → Int → (List En) → ((List En) → Option Rs) → Option Rs
  | 0, _, _, _, _ => none
  | n + 1, v3x0, v3x1, v3x2, k3e0 => toEntryS_T3 v3x0 v3x1 v3x2 (fun v3x0 v3x1 v3x2 => toEntryS_F3 n v3x0 v3x1 v3x2 k3e0) k3e0
def toEntryS_h3 (v3x0 : (List En)) (v3x1 : Int) (v3x2 : (List En)) : St := (St.mk (slots 0 23 [(0, (AV.sh EnT v3x0)), (3, (AV.ref (256 : Nat) (0 : Nat))), (4, (AV.int .i64 v3x1))]) (((256 : Nat), (Ob.arr EnT (0 : Nat) false v3x2)) :: ([] : (List (Nat × (Ob))))))
def toEntryS_x3e0 (x3x0x0 : (List En)) : St := (St.mk (slots 0 23 [(3, (AV.ref (256 : Nat) (0 : Nat)))]) (((256 : Nat), (Ob.arr EnT (0 : Nat) false x3x0x0)) :: ([] : (List (Nat × (Ob))))))
noncomputable def toEntryS_b3 : Code := codeAt (codeOf Tryz.f45) [1, 1, 0, 1, 0, 0]
def toEntryS_L3 (N : Nat) (st : St) (k : Ex → St → Option Rs) : Option Rs := match takeF [0, 3, 4] 0 23 st.env, st.objs with
  | some [.sh EnT v3x0, .ref 256 0, .int .i64 v3x1], [(256, .arr EnT 0 false v3x2)] => toEntryS_F3 N v3x0 v3x1 v3x2 (fun x3x0x0 => k (Ex.exit (0 : Nat)) (toEntryS_x3e0 x3x0x0))
  | _, _ => none
def toEntryS_L (N : Nat) : Lam := fun j st k => match j with
  | 3 => toEntryS_L3 N st k
  | _ => none
theorem toEntryS_round3 (N : Nat) (again : St → Option Rs) (k : Ex → St → Option Rs) (wv3x0 : (List En)) (wv3x1 : Int) (wv3x2 : (List En)) (v3x0 : (List En)) (v3x1 : Int) (v3x2 : (List En)) :
    roundK 0 (fun st k => evL Kx toEntryS_C toEntryS_O 0 (toEntryS_L N) toEntryS_b3 st k) (toEntryS_h3 wv3x0 wv3x1 wv3x2).env again (toEntryS_h3 v3x0 v3x1 v3x2) (outK toEntryS_O 0 toEntryS_b3 k) = toEntryS_T3 v3x0 v3x1 v3x2 (fun v3x0 v3x1 v3x2 => again (toEntryS_h3 v3x0 v3x1 v3x2)) (fun x3x0x0 => k (Ex.exit (0 : Nat)) (toEntryS_x3e0 x3x0x0)) := by kernel_rfl
theorem toEntryS_loop3 (N : Nat) (k : Ex → St → Option Rs) (wv3x0 : (List En)) (wv3x1 : Int) (wv3x2 : (List En)) : ∀ (n : Nat) (v3x0 : (List En)) (v3x1 : Int) (v3x2 : (List En)),
    loopK 0 (fun st k => evL Kx toEntryS_C toEntryS_O 0 (toEntryS_L N) toEntryS_b3 st k) (toEntryS_h3 wv3x0 wv3x1 wv3x2).env n (toEntryS_h3 v3x0 v3x1 v3x2) (outK toEntryS_O 0 toEntryS_b3 k) = toEntryS_F3 n v3x0 v3x1 v3x2 (fun x3x0x0 => k (Ex.exit (0 : Nat)) (toEntryS_x3e0 x3x0x0))
  | 0, _, _, _ => rfl
  | n + 1, v3x0, v3x1, v3x2 => by
    rw [loopK_succ, toEntryS_round3]
    simp only [toEntryS_loop3 N k wv3x0 wv3x1 wv3x2 n]
    rfl
theorem toEntryS_at3 (N : Nat) {s : St} {k : Ex → St → Option Rs} {r : Rs} (h : toEntryS_L3 N s k = some r) : ∃ (v3x0 : (List En)) (v3x1 : Int) (v3x2 : (List En)), s = (toEntryS_h3 v3x0 v3x1 v3x2) ∧ toEntryS_F3 N v3x0 v3x1 v3x2 (fun x3x0x0 => k (Ex.exit (0 : Nat)) (toEntryS_x3e0 x3x0x0)) = some r := by
  cases s with | mk env objs =>
  unfold toEntryS_L3 at h
  split at h
  · rename_i e1 e2
    have e3 := takeF_slots _ _ _ _ e1
    simp only at e2 e3
    subst e2 e3
    exact ⟨_, _, _, rfl, h⟩
  · cases h
theorem toEntryS_in3 : loops toEntryS_b3 = [] := by kernel_rfl
theorem toEntryS_lid3 : lid toEntryS_b3 = 3 := by kernel_rfl
theorem toEntryS_ok3 (N : Nat) : OkL Kx toEntryS_C toEntryS_O 0 N (toEntryS_L N) toEntryS_b3 := by
  intro s k k' r hk h
  rw [toEntryS_lid3] at h
  obtain ⟨v3x0, v3x1, v3x2, rfl, h⟩ := toEntryS_at3 N h
  refine loopL (Λ := toEntryS_L N) toEntryS_b3 ?_ N hk ((toEntryS_loop3 N k v3x0 v3x1 v3x2 N v3x0 v3x1 v3x2).trans h)
  rw [toEntryS_in3]
  exact fun _ h => nomatch h
def toEntryS_run (N : Nat) (l : List En) : Option Rs := (bif (decide ((0 : Int) ≤ ((List.length l) : Int))) then (bif (decide (((List.length l) : Int) = ((List.length l) : Int))) then (bif (decide ((((List.length l) : Int) * (160 : Int)) ≤ (140737488355328 : Int))) then (toEntryS_F3 N l (0 : Int) (List.replicate (Int.toNat ((List.length l) : Int)) en0) (fun x3x0x0 => (some ((AV.ref (0 : Nat) (0 : Nat)), ((Ob.arr EnT (0 : Nat) false x3x0x0) :: ([] : List Ob)))))) else (none)) else (none)) else (none))
theorem toEntryS_runL (N : Nat) (l : List En) : runL Kx toEntryS_C toEntryS_O (toEntryS_L N) Tryz.f45 ([.sh EnT l]) ([]) = toEntryS_run N l := by kernel_rfl
theorem toEntryS_body : Tryz.f45.body = some (codeOf Tryz.f45) := by kernel_rfl
theorem toEntryS_loops : loops (codeOf Tryz.f45) = [toEntryS_b3] := by kernel_rfl
theorem toEntryS_ev (N : Nat) (l : List En) {res_ : Rs} (hyp_ : toEntryS_run N l = some res_) : ∃ n_, runF Kx toEntryS_C toEntryS_O n_ Tryz.f45 ([.sh EnT l]) ([]) = some res_ :=
  ⟨N, runL_runF toEntryS_body (by rw [toEntryS_loops]; exact List.forall_mem_cons.2 ⟨toEntryS_ok3 N, fun _ h => nomatch h⟩) ((toEntryS_runL N l).trans hyp_)⟩
def toEntryS_sOf (φ : (List En) → Br) : List AV → List Ob → Br
  | [.sh EnT l], [] => φ l
  | _, _ => .fail
theorem toEntryS_okOf {φ : (List En) → Br} (fu : (List En) → Nat) (hv : ∀ l res_, (φ l).val = some res_ → toEntryS_run (fu l) l = some res_) : Sound Kx 45 (toEntryS_sOf φ) := by
  refine sound_run (C := toEntryS_C) (O := toEntryS_O) KOk toEntryS_C_ok Tryz.func45 (by kernel_rfl) fun args objs res os h => ?_
  unfold toEntryS_sOf at h
  split at h
  · exact toEntryS_ev _ _ (hv _ _ h)
  · cases h

def eqEntryS_O : Opt := { cons := [], keepNil := false, mutF := [], live := [(4, [0, 1, 5])], outs := [(4, [4])] }
def eqEntryS_C : Spec := (add noS 14 eqE_s)
theorem eqEntryS_C_ok : ∀ fn, Sound Kx fn (eqEntryS_C fn) := (sound_add (sound_no Kx) eqEntry_okQ)
def eqEntryS_T4 (v4x0 : (List En)) (v4x1 : (List En)) (v4x2 : Int) (kR4 : (List En) → (List En) → Int → Option Rs) (k4e0 : Option Rs) : Option Rs :=
  (bif (decide (v4x2 < ((List.length v4x0) : Int))) then (bif (decide ((0 : Int) ≤ v4x2)) then (bif (decide (v4x2 < ((List.length v4x0) : Int))) then (bif (decide ((0 : Int) ≤ v4x2)) then (bif (decide (v4x2 < ((List.length v4x1) : Int))) then (bif (((eqEb ((List.getD v4x0 (Int.toNat v4x2) en0).1, ((List.getD v4x0 (Int.toNat v4x2) en0).2.1, ((List.getD v4x0 (Int.toNat v4x2) en0).2.2.1, ((List.getD v4x0 (Int.toNat v4x2) en0).2.2.2.1, ((List.getD v4x0 (Int.toNat v4x2) en0).2.2.2.2.1, ((List.getD v4x0 (Int.toNat v4x2) en0).2.2.2.2.2.1, ((List.getD v4x0 (Int.toNat v4x2) en0).2.2.2.2.2.2.1, ((List.getD v4x0 (Int.toNat v4x2) en0).2.2.2.2.2.2.2.1, ((List.getD v4x0 (Int.toNat v4x2) en0).2.2.2.2.2.2.2.2.1, ((List.getD v4x0 (Int.toNat v4x2) en0).2.2.2.2.2.2.2.2.2.1, (List.getD v4x0 (Int.toNat v4x2) en0).2.2.2.2.2.2.2.2.2.2)))))))))) ((List.getD v4x1 (Int.toNat v4x2) en0).1, ((List.getD v4x1 (Int.toNat v4x2) en0).2.1, ((List.getD v4x1 (Int.toNat v4x2) en0).2.2.1, ((List.getD v4x1 (Int.toNat v4x2) en0).2.2.2.1, ((List.getD v4x1 (Int.toNat v4x2) en0).2.2.2.2.1, ((List.getD v4x1 (Int.toNat v4x2) en0).2.2.2.2.2.1, ((List.getD v4x1 (Int.toNat v4x2) en0).2.2.2.2.2.2.1, ((List.getD v4x1 (Int.toNat v4x2) en0).2.2.2.2.2.2.2.1, ((List.getD v4x1 (Int.toNat v4x2) en0).2.2.2.2.2.2.2.2.1, ((List.getD v4x1 (Int.toNat v4x2) en0).2.2.2.2.2.2.2.2.2.1, (List.getD v4x1 (Int.toNat v4x2) en0).2.2.2.2.2.2.2.2.2.2))))))))))) && (decide ((List.length (List.getD v4x0 (Int.toNat v4x2) en0).2.2.2.1) ≤ (1048576 : Nat)))) && (decide ((List.length (List.getD v4x0 (Int.toNat v4x2) en0).2.2.2.2.2.2.2.2.2.1) ≤ (1048576 : Nat)))) then (kR4 v4x0 v4x1 (wk64 (v4x2 + (1 : Int)))) else (none)) else (none)) else (none)) else (none)) else (none)) else k4e0)
def eqEntryS_F4 : Nat → (List En) → (List En) → Int → (Option Rs) → Option Rs
  | 0, _, _, _, _ => none
  | n + 1, v4x0, v4x1, v4x2, k4e0 => eqEntryS_T4 v4x0 v4x1 v4x2 (fun v4x0 v4x1 v4x2 => eqEntryS_F4 n v4x0 v4x1 v4x2 k4e0) k4e0
def eqEntryS_h4 (v4x0 : (List En)) (v4x1 : (List En)) (v4x2 : Int) : St := (St.mk (slots 0 27 [(0, (AV.sh EnT v4x0)), (1, (AV.sh EnT v4x1)), (5, (AV.int .i64 v4x2))]) ([] : (List (Nat × (Ob)))))
def eqEntryS_x4e0  : St := (St.mk (slots 0 27 []) ([] : (List (Nat × (Ob)))))
noncomputable def eqEntryS_b4 : Code := codeAt (codeOf Tryz.f48) [1, 1, 0, 1, 0, 0]
def eqEntryS_L4 (N : Nat) (st : St) (k : Ex → St → Option Rs) : Option Rs := match takeF [0, 1, 5] 0 27 st.env, st.objs with
  | some [.sh EnT v4x0, .sh EnT v4x1, .int .i64 v4x2], [] => eqEntryS_F4 N v4x0 v4x1 v4x2 (k (Ex.exit (0 : Nat)) (eqEntryS_x4e0))
  | _, _ => none
def eqEntryS_L (N : Nat) : Lam := fun j st k => match j with
  | 4 => eqEntryS_L4 N st k
  | _ => none
theorem eqEntryS_round4 (N : Nat) (again : St → Option Rs) (k : Ex → St → Option Rs) (wv4x0 : (List En)) (wv4x1 : (List En)) (wv4x2 : Int) (v4x0 : (List En)) (v4x1 : (List En)) (v4x2 : Int) :
    roundK 0 (fun st k => evL Kx eqEntryS_C eqEntryS_O 0 (eqEntryS_L N) eqEntryS_b4 st k) (eqEntryS_h4 wv4x0 wv4x1 wv4x2).env again (eqEntryS_h4 v4x0 v4x1 v4x2) (outK eqEntryS_O 0 eqEntryS_b4 k) = eqEntryS_T4 v4x0 v4x1 v4x2 (fun v4x0 v4x1 v4x2 => again (eqEntryS_h4 v4x0 v4x1 v4x2)) (k (Ex.exit (0 : Nat)) (eqEntryS_x4e0)) := by kernel_rfl
theorem eqEntryS_loop4 (N : Nat) (k : Ex → St → Option Rs) (wv4x0 : (List En)) (wv4x1 : (List En)) (wv4x2 : Int) : ∀ (n : Nat) (v4x0 : (List En)) (v4x1 : (List En)) (v4x2 : Int),
    loopK 0 (fun st k => evL Kx eqEntryS_C eqEntryS_O 0 (eqEntryS_L N) eqEntryS_b4 st k) (eqEntryS_h4 wv4x0 wv4x1 wv4x2).env n (eqEntryS_h4 v4x0 v4x1 v4x2) (outK eqEntryS_O 0 eqEntryS_b4 k) = eqEntryS_F4 n v4x0 v4x1 v4x2 (k (Ex.exit (0 : Nat)) (eqEntryS_x4e0))
  | 0, _, _, _ => rfl
  | n + 1, v4x0, v4x1, v4x2 => by
    rw [loopK_succ, eqEntryS_round4]
    simp only [eqEntryS_loop4 N k wv4x0 wv4x1 wv4x2 n]
    rfl
theorem eqEntryS_at4 (N : Nat) {s : St} {k : Ex → St → Option Rs} {r : Rs} (h : eqEntryS_L4 N s k = some r) : ∃ (v4x0 : (List En)) (v4x1 : (List En)) (v4x2 : Int), s = (eqEntryS_h4 v4x0 v4x1 v4x2) ∧ eqEntryS_F4 N v4x0 v4x1 v4x2 (k (Ex.exit (0 : Nat)) (eqEntryS_x4e0)) = some r := by
  cases s with | mk env objs =>
  unfold eqEntryS_L4 at h
  split at h
  · rename_i e1 e2
    have e3 := takeF_slots _ _ _ _ e1
    simp only at e2 e3
    subst e2 e3
    exact ⟨_, _, _, rfl, h⟩
  · cases h
theorem eqEntryS_in4 : loops eqEntryS_b4 = [] := by kernel_rfl
theorem eqEntryS_lid4 : lid eqEntryS_b4 = 4 := by kernel_rfl
theorem eqEntryS_ok4 (N : Nat) : OkL Kx eqEntryS_C eqEntryS_O 0 N (eqEntryS_L N) eqEntryS_b4 := by
  intro s k k' r hk h
  rw [eqEntryS_lid4] at h
  obtain ⟨v4x0, v4x1, v4x2, rfl, h⟩ := eqEntryS_at4 N h
  refine loopL (Λ := eqEntryS_L N) eqEntryS_b4 ?_ N hk ((eqEntryS_loop4 N k v4x0 v4x1 v4x2 N v4x0 v4x1 v4x2).trans h)
  rw [eqEntryS_in4]
  exact fun _ h => nomatch h
def eqEntryS_run (N : Nat) (a b : List En) : Option Rs := (bif (!(decide (((List.length a) : Int) = ((List.length b) : Int)))) then (some ((AV.bool false), ([] : List Ob))) else (eqEntryS_F4 N a b (0 : Int) (some ((AV.bool true), ([] : List Ob)))))
theorem eqEntryS_runL (N : Nat) (a b : List En) : runL Kx eqEntryS_C eqEntryS_O (eqEntryS_L N) Tryz.f48 ([.sh EnT a, .sh EnT b]) ([]) = eqEntryS_run N a b := by kernel_rfl
theorem eqEntryS_body : Tryz.f48.body = some (codeOf Tryz.f48) := by kernel_rfl
theorem eqEntryS_loops : loops (codeOf Tryz.f48) = [eqEntryS_b4] := by kernel_rfl
theorem eqEntryS_ev (N : Nat) (a b : List En) {res_ : Rs} (hyp_ : eqEntryS_run N a b = some res_) : ∃ n_, runF Kx eqEntryS_C eqEntryS_O n_ Tryz.f48 ([.sh EnT a, .sh EnT b]) ([]) = some res_ :=
  ⟨N, runL_runF eqEntryS_body (by rw [eqEntryS_loops]; exact List.forall_mem_cons.2 ⟨eqEntryS_ok4 N, fun _ h => nomatch h⟩) ((eqEntryS_runL N a b).trans hyp_)⟩
def eqEntryS_sOf (φ : (List En) → (List En) → Br) : List AV → List Ob → Br
  | [.sh EnT a, .sh EnT b], [] => φ a b
  | _, _ => .fail
theorem eqEntryS_okOf {φ : (List En) → (List En) → Br} (fu : (List En) → (List En) → Nat) (hv : ∀ a b res_, (φ a b).val = some res_ → eqEntryS_run (fu a b) a b = some res_) : Sound Kx 48 (eqEntryS_sOf φ) := by
  refine sound_run (C := eqEntryS_C) (O := eqEntryS_O) KOk eqEntryS_C_ok Tryz.func48 (by kernel_rfl) fun args objs res os h => ?_
  unfold eqEntryS_sOf at h
  split at h
  · exact eqEntryS_ev _ _ _ (hv _ _ _ h)
  · cases h

end
end Go.Proofs.YtmmjaomfonknnaaGreatDoor.Ev

namespace Go.Proofs.YtmmjaomfonknnaaGreatDoor.Ev
open Go Go.RowKit
set_option linter.unusedVariables false
set_option linter.unusedSimpArgs false
noncomputable section
end
end Go.Proofs.YtmmjaomfonknnaaGreatDoor.Ev

namespace Go.Proofs.YtmmjaomfonknnaaGreatDoor.Ev
open Go Go.RowKit
set_option linter.unusedVariables false
set_option linter.unusedSimpArgs false
noncomputable section

def eqSl_O : Opt := { cons := [], keepNil := false, mutF := [], live := [(4, [0, 1, 12, 13])], outs := [(4, [4])] }
def eqSl_T4 (v4x0 : (List Bytes)) (v4x1 : (List Bytes)) (v4x2 : Int) (v4x3 : Int) (kR4 : (List Bytes) → (List Bytes) → Int → Int → Option Rs) (k4e0 : Option Rs) (k4e1 : Option Rs) : Option Rs :=
  (bif (decide (v4x3 < v4x2)) then (bif (decide ((0 : Int) ≤ v4x3)) then (bif (decide (v4x3 < ((List.length v4x0) : Int))) then (bif (decide ((0 : Int) ≤ v4x3)) then (bif (decide (v4x3 < ((List.length v4x1) : Int))) then (bif (!(decide ((List.getD v4x0 (Int.toNat v4x3) ([] : Bytes)) = (List.getD v4x1 (Int.toNat v4x3) ([] : Bytes))))) then k4e0 else (kR4 v4x0 v4x1 v4x2 (wk64 (v4x3 + (1 : Int))))) else (none)) else (none)) else (none)) else (none)) else k4e1)
def eqSl_F4 : Nat → (List Bytes) → (List Bytes) → Int → Int → (Option Rs) → (Option Rs) → Option Rs
  | 0, _, _, _, _, _, _ => none
  | n + 1, v4x0, v4x1, v4x2, v4x3, k4e0, k4e1 => eqSl_T4 v4x0 v4x1 v4x2 v4x3 (fun v4x0 v4x1 v4x2 v4x3 => eqSl_F4 n v4x0 v4x1 v4x2 v4x3 k4e0 k4e1) k4e0 k4e1
def eqSl_h4 (v4x0 : (List Bytes)) (v4x1 : (List Bytes)) (v4x2 : Int) (v4x3 : Int) : St := (St.mk (slots 0 26 [(0, (AV.sh Ty.str v4x0)), (1, (AV.sh Ty.str v4x1)), (12, (AV.int .i64 v4x2)), (13, (AV.int .i64 v4x3))]) ([] : (List (Nat × (Ob)))))
def eqSl_x4e0  : St := (St.mk (slots 0 26 [(4, (AV.bool false))]) ([] : (List (Nat × (Ob)))))
def eqSl_x4e1  : St := (St.mk (slots 0 26 []) ([] : (List (Nat × (Ob)))))
noncomputable def eqSl_b4 : Code := codeAt (codeOf Tryz.f74) [1, 1, 0, 1, 0, 0]
def eqSl_L4 (N : Nat) (st : St) (k : Ex → St → Option Rs) : Option Rs := match takeF [0, 1, 12, 13] 0 26 st.env, st.objs with
  | some [.sh Ty.str v4x0, .sh Ty.str v4x1, .int .i64 v4x2, .int .i64 v4x3], [] => eqSl_F4 N v4x0 v4x1 v4x2 v4x3 (k Ex.ret (eqSl_x4e0)) (k (Ex.exit (0 : Nat)) (eqSl_x4e1))
  | _, _ => none
def eqSl_L (N : Nat) : Lam := fun j st k => match j with
  | 4 => eqSl_L4 N st k
  | _ => none
theorem eqSl_round4 (N : Nat) (again : St → Option Rs) (k : Ex → St → Option Rs) (wv4x0 : (List Bytes)) (wv4x1 : (List Bytes)) (wv4x2 : Int) (wv4x3 : Int) (v4x0 : (List Bytes)) (v4x1 : (List Bytes)) (v4x2 : Int) (v4x3 : Int) :
    roundK 0 (fun st k => evL Kx noS eqSl_O 0 (eqSl_L N) eqSl_b4 st k) (eqSl_h4 wv4x0 wv4x1 wv4x2 wv4x3).env again (eqSl_h4 v4x0 v4x1 v4x2 v4x3) (outK eqSl_O 0 eqSl_b4 k) = eqSl_T4 v4x0 v4x1 v4x2 v4x3 (fun v4x0 v4x1 v4x2 v4x3 => again (eqSl_h4 v4x0 v4x1 v4x2 v4x3)) (k Ex.ret (eqSl_x4e0)) (k (Ex.exit (0 : Nat)) (eqSl_x4e1)) := by kernel_rfl
theorem eqSl_loop4 (N : Nat) (k : Ex → St → Option Rs) (wv4x0 : (List Bytes)) (wv4x1 : (List Bytes)) (wv4x2 : Int) (wv4x3 : Int) : ∀ (n : Nat) (v4x0 : (List Bytes)) (v4x1 : (List Bytes)) (v4x2 : Int) (v4x3 : Int),
    loopK 0 (fun st k => evL Kx noS eqSl_O 0 (eqSl_L N) eqSl_b4 st k) (eqSl_h4 wv4x0 wv4x1 wv4x2 wv4x3).env n (eqSl_h4 v4x0 v4x1 v4x2 v4x3) (outK eqSl_O 0 eqSl_b4 k) = eqSl_F4 n v4x0 v4x1 v4x2 v4x3 (k Ex.ret (eqSl_x4e0)) (k (Ex.exit (0 : Nat)) (eqSl_x4e1))
  | 0, _, _, _, _ => rfl
  | n + 1, v4x0, v4x1, v4x2, v4x3 => by
    rw [loopK_succ, eqSl_round4]
    simp only [eqSl_loop4 N k wv4x0 wv4x1 wv4x2 wv4x3 n]
    rfl
theorem eqSl_at4 (N : Nat) {s : St} {k : Ex → St → Option Rs} {r : Rs} (h : eqSl_L4 N s k = some r) : ∃ (v4x0 : (List Bytes)) (v4x1 : (List Bytes)) (v4x2 : Int) (v4x3 : Int), s = (eqSl_h4 v4x0 v4x1 v4x2 v4x3) ∧ eqSl_F4 N v4x0 v4x1 v4x2 v4x3 (k Ex.ret (eqSl_x4e0)) (k (Ex.exit (0 : Nat)) (eqSl_x4e1)) = some r := by
  cases s with | mk env objs =>
  unfold eqSl_L4 at h
  split at h
  · rename_i e1 e2
    have e3 := takeF_slots _ _ _ _ e1
    simp only at e2 e3
    subst e2 e3
    exact ⟨_, _, _, _, rfl, h⟩
  · cases h
theorem eqSl_in4 : loops eqSl_b4 = [] := by kernel_rfl
theorem eqSl_lid4 : lid eqSl_b4 = 4 := by kernel_rfl
theorem eqSl_ok4 (N : Nat) : OkL Kx noS eqSl_O 0 N (eqSl_L N) eqSl_b4 := by
  intro s k k' r hk h
  rw [eqSl_lid4] at h
  obtain ⟨v4x0, v4x1, v4x2, v4x3, rfl, h⟩ := eqSl_at4 N h
  refine loopL (Λ := eqSl_L N) eqSl_b4 ?_ N hk ((eqSl_loop4 N k v4x0 v4x1 v4x2 v4x3 N v4x0 v4x1 v4x2 v4x3).trans h)
  rw [eqSl_in4]
  exact fun _ h => nomatch h
def eqSl_run (N : Nat) (a b : List Bytes) : Option Rs := (bif (!(decide (((List.length a) : Int) = ((List.length b) : Int)))) then (some ((AV.bool false), ([] : List Ob))) else (eqSl_F4 N a b ((List.length a) : Int) (0 : Int) (some ((AV.bool false), ([] : List Ob))) (some ((AV.bool true), ([] : List Ob)))))
theorem eqSl_runL (N : Nat) (a b : List Bytes) : runL Kx noS eqSl_O (eqSl_L N) Tryz.f74 ([.sh .str a, .sh .str b]) ([]) = eqSl_run N a b := by kernel_rfl
theorem eqSl_body : Tryz.f74.body = some (codeOf Tryz.f74) := by kernel_rfl
theorem eqSl_loops : loops (codeOf Tryz.f74) = [eqSl_b4] := by kernel_rfl
theorem eqSl_ev (N : Nat) (a b : List Bytes) {res_ : Rs} (hyp_ : eqSl_run N a b = some res_) : ∃ n_, runF Kx noS eqSl_O n_ Tryz.f74 ([.sh .str a, .sh .str b]) ([]) = some res_ :=
  ⟨N, runL_runF eqSl_body (by rw [eqSl_loops]; exact List.forall_mem_cons.2 ⟨eqSl_ok4 N, fun _ h => nomatch h⟩) ((eqSl_runL N a b).trans hyp_)⟩
def eqSl_sOf (φ : (List Bytes) → (List Bytes) → Br) : List AV → List Ob → Br
  | [.sh .str a, .sh .str b], [] => φ a b
  | _, _ => .fail
theorem eqSl_okOf {φ : (List Bytes) → (List Bytes) → Br} (fu : (List Bytes) → (List Bytes) → Nat) (hv : ∀ a b res_, (φ a b).val = some res_ → eqSl_run (fu a b) a b = some res_) : Sound Kx 74 (eqSl_sOf φ) := by
  refine sound_run (C := noS) (O := eqSl_O) KOk (sound_no Kx) Tryz.func74 (by kernel_rfl) fun args objs res os h => ?_
  unfold eqSl_sOf at h
  split at h
  · exact eqSl_ev _ _ _ (hv _ _ _ h)
  · cases h

def sSame_O : Opt := { cons := [], keepNil := false, mutF := [], live := [(4, [0, 1, 5])], outs := [(4, [4])] }
def sSame_T4 (v4x0 : (List Bytes)) (v4x1 : (List Bytes)) (v4x2 : Int) (kR4 : (List Bytes) → (List Bytes) → Int → Option Rs) (k4e0 : Option Rs) (k4e1 : Option Rs) : Option Rs :=
  (bif (decide (v4x2 < ((List.length v4x0) : Int))) then (bif (decide ((0 : Int) ≤ v4x2)) then (bif (decide (v4x2 < ((List.length v4x0) : Int))) then (bif (decide ((0 : Int) ≤ v4x2)) then (bif (decide (v4x2 < ((List.length v4x1) : Int))) then (bif (!(decide ((List.getD v4x0 (Int.toNat v4x2) ([] : Bytes)) = (List.getD v4x1 (Int.toNat v4x2) ([] : Bytes))))) then k4e0 else (kR4 v4x0 v4x1 (wk64 (v4x2 + (1 : Int))))) else (none)) else (none)) else (none)) else (none)) else k4e1)
def sSame_F4 : Nat → (List Bytes) → (List Bytes) → Int → (Option Rs) → (Option Rs) → Option Rs
  | 0, _, _, _, _, _ => none
  | n + 1, v4x0, v4x1, v4x2, k4e0, k4e1 => sSame_T4 v4x0 v4x1 v4x2 (fun v4x0 v4x1 v4x2 => sSame_F4 n v4x0 v4x1 v4x2 k4e0 k4e1) k4e0 k4e1
def sSame_h4 (v4x0 : (List Bytes)) (v4x1 : (List Bytes)) (v4x2 : Int) : St := (St.mk (slots 0 26 [(0, (AV.sh Ty.str v4x0)), (1, (AV.sh Ty.str v4x1)), (5, (AV.int .i64 v4x2))]) ([] : (List (Nat × (Ob)))))
def sSame_x4e0  : St := (St.mk (slots 0 26 [(4, (AV.bool false))]) ([] : (List (Nat × (Ob)))))
def sSame_x4e1  : St := (St.mk (slots 0 26 []) ([] : (List (Nat × (Ob)))))
noncomputable def sSame_b4 : Code := codeAt (codeOf Tryz.f72) [1, 1, 0, 1, 0, 0]
def sSame_L4 (N : Nat) (st : St) (k : Ex → St → Option Rs) : Option Rs := match takeF [0, 1, 5] 0 26 st.env, st.objs with
  | some [.sh Ty.str v4x0, .sh Ty.str v4x1, .int .i64 v4x2], [] => sSame_F4 N v4x0 v4x1 v4x2 (k Ex.ret (sSame_x4e0)) (k (Ex.exit (0 : Nat)) (sSame_x4e1))
  | _, _ => none
def sSame_L (N : Nat) : Lam := fun j st k => match j with
  | 4 => sSame_L4 N st k
  | _ => none
theorem sSame_round4 (N : Nat) (again : St → Option Rs) (k : Ex → St → Option Rs) (wv4x0 : (List Bytes)) (wv4x1 : (List Bytes)) (wv4x2 : Int) (v4x0 : (List Bytes)) (v4x1 : (List Bytes)) (v4x2 : Int) :
    roundK 0 (fun st k => evL Kx noS sSame_O 0 (sSame_L N) sSame_b4 st k) (sSame_h4 wv4x0 wv4x1 wv4x2).env again (sSame_h4 v4x0 v4x1 v4x2) (outK sSame_O 0 sSame_b4 k) = sSame_T4 v4x0 v4x1 v4x2 (fun v4x0 v4x1 v4x2 => again (sSame_h4 v4x0 v4x1 v4x2)) (k Ex.ret (sSame_x4e0)) (k (Ex.exit (0 : Nat)) (sSame_x4e1)) := by kernel_rfl
theorem sSame_loop4 (N : Nat) (k : Ex → St → Option Rs) (wv4x0 : (List Bytes)) (wv4x1 : (List Bytes)) (wv4x2 : Int) : ∀ (n : Nat) (v4x0 : (List Bytes)) (v4x1 : (List Bytes)) (v4x2 : Int),
    loopK 0 (fun st k => evL Kx noS sSame_O 0 (sSame_L N) sSame_b4 st k) (sSame_h4 wv4x0 wv4x1 wv4x2).env n (sSame_h4 v4x0 v4x1 v4x2) (outK sSame_O 0 sSame_b4 k) = sSame_F4 n v4x0 v4x1 v4x2 (k Ex.ret (sSame_x4e0)) (k (Ex.exit (0 : Nat)) (sSame_x4e1))
  | 0, _, _, _ => rfl
  | n + 1, v4x0, v4x1, v4x2 => by
    rw [loopK_succ, sSame_round4]
    simp only [sSame_loop4 N k wv4x0 wv4x1 wv4x2 n]
    rfl
theorem sSame_at4 (N : Nat) {s : St} {k : Ex → St → Option Rs} {r : Rs} (h : sSame_L4 N s k = some r) : ∃ (v4x0 : (List Bytes)) (v4x1 : (List Bytes)) (v4x2 : Int), s = (sSame_h4 v4x0 v4x1 v4x2) ∧ sSame_F4 N v4x0 v4x1 v4x2 (k Ex.ret (sSame_x4e0)) (k (Ex.exit (0 : Nat)) (sSame_x4e1)) = some r := by
  cases s with | mk env objs =>
  unfold sSame_L4 at h
  split at h
  · rename_i e1 e2
    have e3 := takeF_slots _ _ _ _ e1
    simp only at e2 e3
    subst e2 e3
    exact ⟨_, _, _, rfl, h⟩
  · cases h
theorem sSame_in4 : loops sSame_b4 = [] := by kernel_rfl
theorem sSame_lid4 : lid sSame_b4 = 4 := by kernel_rfl
theorem sSame_ok4 (N : Nat) : OkL Kx noS sSame_O 0 N (sSame_L N) sSame_b4 := by
  intro s k k' r hk h
  rw [sSame_lid4] at h
  obtain ⟨v4x0, v4x1, v4x2, rfl, h⟩ := sSame_at4 N h
  refine loopL (Λ := sSame_L N) sSame_b4 ?_ N hk ((sSame_loop4 N k v4x0 v4x1 v4x2 N v4x0 v4x1 v4x2).trans h)
  rw [sSame_in4]
  exact fun _ h => nomatch h
def sSame_run (N : Nat) (a b : List Bytes) : Option Rs := (bif (!(decide (((List.length a) : Int) = ((List.length b) : Int)))) then (some ((AV.bool false), ([] : List Ob))) else (sSame_F4 N a b (0 : Int) (some ((AV.bool false), ([] : List Ob))) (some ((AV.bool true), ([] : List Ob)))))
theorem sSame_runL (N : Nat) (a b : List Bytes) : runL Kx noS sSame_O (sSame_L N) Tryz.f72 ([.sh .str a, .sh .str b]) ([]) = sSame_run N a b := by kernel_rfl
theorem sSame_body : Tryz.f72.body = some (codeOf Tryz.f72) := by kernel_rfl
theorem sSame_loops : loops (codeOf Tryz.f72) = [sSame_b4] := by kernel_rfl
theorem sSame_ev (N : Nat) (a b : List Bytes) {res_ : Rs} (hyp_ : sSame_run N a b = some res_) : ∃ n_, runF Kx noS sSame_O n_ Tryz.f72 ([.sh .str a, .sh .str b]) ([]) = some res_ :=
  ⟨N, runL_runF sSame_body (by rw [sSame_loops]; exact List.forall_mem_cons.2 ⟨sSame_ok4 N, fun _ h => nomatch h⟩) ((sSame_runL N a b).trans hyp_)⟩
def sSame_sOf (φ : (List Bytes) → (List Bytes) → Br) : List AV → List Ob → Br
  | [.sh .str a, .sh .str b], [] => φ a b
  | _, _ => .fail
theorem sSame_okOf {φ : (List Bytes) → (List Bytes) → Br} (fu : (List Bytes) → (List Bytes) → Nat) (hv : ∀ a b res_, (φ a b).val = some res_ → sSame_run (fu a b) a b = some res_) : Sound Kx 72 (sSame_sOf φ) := by
  refine sound_run (C := noS) (O := sSame_O) KOk (sound_no Kx) Tryz.func72 (by kernel_rfl) fun args objs res os h => ?_
  unfold sSame_sOf at h
  split at h
  · exact sSame_ev _ _ _ (hv _ _ _ h)
  · cases h

end
end Go.Proofs.YtmmjaomfonknnaaGreatDoor.Ev

namespace Go.Proofs.YtmmjaomfonknnaaGreatDoor.Ev
open Go Go.RowKit
set_option linter.unusedVariables false
set_option linter.unusedSimpArgs false
noncomputable section
def tt_s : List AV → List Ob → Br
  | [.sh .str a, .sh .str b], [] => .ite (decide (a.length ≤ 1000000)) (.ret (.bool (decide (a = b))) []) .fail
  | _, _ => .fail
theorem eqSl_loop (a b : List Bytes) (hl : a.length ≤ 4611686018427387904) (k0 k1 : Option Rs) : ∀ (r r' : List Bytes) (i : Int) (n : Nat), At a i r → At b i r' → r.length = r'.length → r.length < n →
    eqSl_F4 n a b (a.length : Int) i k0 k1 = bif decide (r = r') then k1 else k0 := by
  intro r; induction r with
  | nil =>
    intro r' i n h h' he hn; obtain ⟨n, rfl⟩ := fuel hn
    obtain rfl : r' = [] := List.length_eq_zero_iff.1 he.symm
    unfold eqSl_F4 eqSl_T4; simp only [h.dge, cond_false, decide_true, cond_true]
  | cons x r ih =>
    intro r' i n h h' he hn; obtain ⟨n, rfl⟩ := fuel hn
    cases r' with
    | nil => cases he
    | cons y r' =>
      have hs := ih r' (i + 1) n h.step h'.step (by simpa using he) (by simp at hn; omega)
      unfold eqSl_F4 eqSl_T4; simp only [h.dlt, h'.dlt, h.dnn, h.get, h'.get, cond_true, h.next hl, hs]
      by_cases c1 : x = y <;> by_cases c2 : r = r' <;> simp [c1, c2]
theorem sSame_loop (a b : List Bytes) (hl : a.length ≤ 4611686018427387904) (k0 k1 : Option Rs) : ∀ (r r' : List Bytes) (i : Int) (n : Nat), At a i r → At b i r' → r.length = r'.length → r.length < n →
    sSame_F4 n a b i k0 k1 = bif decide (r = r') then k1 else k0 := by
  intro r; induction r with
  | nil =>
    intro r' i n h h' he hn; obtain ⟨n, rfl⟩ := fuel hn
    obtain rfl : r' = [] := List.length_eq_zero_iff.1 he.symm
    unfold sSame_F4 sSame_T4; simp only [h.dge, cond_false, decide_true, cond_true]
  | cons x r ih =>
    intro r' i n h h' he hn; obtain ⟨n, rfl⟩ := fuel hn
    cases r' with
    | nil => cases he
    | cons y r' =>
      have hs := ih r' (i + 1) n h.step h'.step (by simpa using he) (by simp at hn; omega)
      unfold sSame_F4 sSame_T4; simp only [h.dlt, h'.dlt, h.dnn, h.get, h'.get, cond_true, h.next hl, hs]
      by_cases c1 : x = y <;> by_cases c2 : r = r' <;> simp [c1, c2]
theorem eqSl_okQ : Sound Kx 74 tt_s := by
  refine (eqSl_okOf (φ := fun a b => .ite (decide (a.length ≤ 1000000)) (.ret (.bool (decide (a = b))) []) .fail) (fun a _ => a.length + 1) fun a b r h => ?_).of fun args objs r h => ?_
  · obtain ⟨h1, h2⟩ := ite_some h
    cases h2
    rw [decide_eq_true_eq] at h1
    unfold eqSl_run
    by_cases c : a.length = b.length
    · rw [decide_eq_true (show (a.length : Int) = (b.length : Int) by omega)]
      refine (eqSl_loop a b (by omega) _ _ a b 0 _ (At.start a) (At.start b) c (by omega)).trans ?_
      cases decide (a = b) <;> rfl
    · rw [decide_eq_false (show ¬ (a.length : Int) = (b.length : Int) by omega), decide_eq_false (show ¬ a = b from fun e => c (by rw [e]))]
      rfl
  · unfold tt_s at h; split at h
    · exact h
    · cases h
theorem sSame_okQ : Sound Kx 72 tt_s := by
  refine (sSame_okOf (φ := fun a b => .ite (decide (a.length ≤ 1000000)) (.ret (.bool (decide (a = b))) []) .fail) (fun a _ => a.length + 1) fun a b r h => ?_).of fun args objs r h => ?_
  · obtain ⟨h1, h2⟩ := ite_some h
    cases h2
    rw [decide_eq_true_eq] at h1
    unfold sSame_run
    by_cases c : a.length = b.length
    · rw [decide_eq_true (show (a.length : Int) = (b.length : Int) by omega)]
      refine (sSame_loop a b (by omega) _ _ a b 0 _ (At.start a) (At.start b) c (by omega)).trans ?_
      cases decide (a = b) <;> rfl
    · rw [decide_eq_false (show ¬ (a.length : Int) = (b.length : Int) by omega), decide_eq_false (show ¬ a = b from fun e => c (by rw [e]))]
      rfl
  · unfold tt_s at h; split at h
    · exact h
    · cases h
theorem ins_mem (s : Bytes) : ∀ (l : List Bytes) (x : Bytes), x ∈ insP l s → x = s ∨ x ∈ l
  | [], x, h => by simp [insP] at h; exact .inl h
  | a :: l, x, h => by
    unfold insP at h
    cases c : bytesLess s a
    · rw [c, cond_false] at h
      rcases List.mem_cons.1 h with rfl | h
      · exact .inr (List.mem_cons_self ..)
      · rcases ins_mem s l x h with h | h
        · exact .inl h
        · exact .inr (List.mem_cons_of_mem _ h)
    · rw [c, cond_true] at h
      rcases List.mem_cons.1 h with h | h
      · exact .inl h
      · exact .inr h
theorem put_mem (l : List Bytes) (s x : Bytes) (h : x ∈ putP l s) : x = s ∨ x ∈ l := by
  unfold putP at h
  cases c : inP l s
  · rw [c, cond_false] at h; exact ins_mem s l x h
  · rw [c, cond_true] at h; exact .inr h
theorem fold_put : ∀ (ws out : List Bytes), (∀ x ∈ out, x.length ≤ 4000) → (∀ x ∈ ws, x.length ≤ 4000) → ∀ x ∈ ws.foldl (fun o w => putP o (foldP w)) out, x.length ≤ 4000
  | [], out, h, _ => h
  | w :: ws, out, h, hw => by
    rw [List.foldl_cons]
    refine fold_put ws _ (fun x hx => ?_) fun x hx => hw x (List.mem_cons_of_mem _ hx)
    rcases put_mem _ _ _ hx with rfl | hx
    · rw [foldP_len]; exact hw w (List.mem_cons_self ..)
    · exact h x hx
theorem vary_mem (l : List Fd) : ∀ x ∈ varyP l, x.length ≤ 4000 := fold_put _ [] (fun x h => by cases h) fun x hx => (elem_bd _).2 x hx
end
end Go.Proofs.YtmmjaomfonknnaaGreatDoor.Ev

namespace Go.Proofs.YtmmjaomfonknnaaGreatDoor.Ev
open Go Go.RowKit
set_option linter.unusedVariables false
set_option linter.unusedSimpArgs false
noncomputable section

def iChosen_O : Opt := { cons := [], keepNil := false, mutF := [], live := [(4, [1, 2, 18, 19, 20])], outs := [(4, [4])] }
def iChosen_C : Spec := (add (add (add (add (add noS 40 ek_s) 65 (fl_s fun l => .bool (fdsOk l))) 73 vaR_s) 68 wo_s) 74 tt_s)
theorem iChosen_C_ok : ∀ fn, Sound Kx fn (iChosen_C fn) := (sound_add (sound_add (sound_add (sound_add (sound_add (sound_no Kx) iEntryOk_okQ) iFieldsOk_okQ) iVary_okQ) iWords_okQ) eqSl_okQ)
def iChosen_T4 (v4x0 : (List Fd)) (v4x1 : Int) (v4x2 : Int) (v4x3 : Bytes) (v4x4 : Int) (v4x5 : Int) (v4x6 : (List Fd)) (v4x7 : Bytes) (v4x8 : Bytes) (v4x9 : Int) (v4x10 : Bytes) (v4x11 : Bool) (v4x12 : (List Fd)) (v4x13 : Bytes) (v4x14 : (List Bytes)) (kR4 : (List Fd) → Int → Int → Bytes → Int → Int → (List Fd) → Bytes → Bytes → Int → Bytes → Bool → (List Fd) → Bytes → (List Bytes) → Option Rs) (k4e0 : Option Rs) (k4e1 : Option Rs) : Option Rs :=
  (bif (decide (v4x2 < v4x1)) then (bif (decide ((0 : Int) ≤ v4x2)) then (bif (decide (v4x2 < ((List.length v4x14) : Int))) then (bif (decide ((List.getD v4x14 (Int.toNat v4x2) ([] : Bytes)) = ((42 : UInt8) :: ([] : Bytes)))) then k4e0 else (bif (isM (List.getD v4x14 (Int.toNat v4x2) ([] : Bytes))) then (bif (isM (List.getD v4x14 (Int.toNat v4x2) ([] : Bytes))) then (bif (decide ((List.length (wordsP v4x6 (List.getD v4x14 (Int.toNat v4x2) ([] : Bytes)))) ≤ (1000000 : Nat))) then (bif (!(decide ((wordsP v4x6 (List.getD v4x14 (Int.toNat v4x2) ([] : Bytes))) = (wordsP v4x0 (List.getD v4x14 (Int.toNat v4x2) ([] : Bytes)))))) then k4e0 else (kR4 v4x0 v4x1 (wk64 (v4x2 + (1 : Int))) v4x3 v4x4 v4x5 v4x6 v4x7 v4x8 v4x9 v4x10 v4x11 v4x12 v4x13 v4x14)) else (none)) else (none)) else (none))) else (none)) else (none)) else k4e1)
def iChosen_F4 : Nat → (List Fd) → Int → Int → Bytes → Int → Int → (List Fd) → Bytes → Bytes → Int → Bytes → Bool → (List Fd) → Bytes → (List Bytes) → (Option Rs) → (Option Rs) → Option Rs
  | 0, _, _, _, _, _, _, _, _, _, _, _, _, _, _, _, _, _ => none
  | n + 1, v4x0, v4x1, v4x2, v4x3, v4x4, v4x5, v4x6, v4x7, v4x8, v4x9, v4x10, v4x11, v4x12, v4x13, v4x14, k4e0, k4e1 => iChosen_T4 v4x0 v4x1 v4x2 v4x3 v4x4 v4x5 v4x6 v4x7 v4x8 v4x9 v4x10 v4x11 v4x12 v4x13 v4x14 (fun v4x0 v4x1 v4x2 v4x3 v4x4 v4x5 v4x6 v4x7 v4x8 v4x9 v4x10 v4x11 v4x12 v4x13 v4x14 => iChosen_F4 n v4x0 v4x1 v4x2 v4x3 v4x4 v4x5 v4x6 v4x7 v4x8 v4x9 v4x10 v4x11 v4x12 v4x13 v4x14 k4e0 k4e1) k4e0 k4e1
def iChosen_h4 (v4x0 : (List Fd)) (v4x1 : Int) (v4x2 : Int) (v4x3 : Bytes) (v4x4 : Int) (v4x5 : Int) (v4x6 : (List Fd)) (v4x7 : Bytes) (v4x8 : Bytes) (v4x9 : Int) (v4x10 : Bytes) (v4x11 : Bool) (v4x12 : (List Fd)) (v4x13 : Bytes) (v4x14 : (List Bytes)) : St := (St.mk (slots 0 38 [(1, (AV.sh (Ty.pair Ty.str Ty.str) v4x0)), (2, (AV.ptr (192 : Nat) (0 : Nat))), (18, (AV.ref (1216 : Nat) (0 : Nat))), (19, (AV.int .i64 v4x1)), (20, (AV.int .i64 v4x2))]) (((192 : Nat), (Ob.var ((AV.str v4x3) :: ((AV.int .i64 v4x4) :: ((AV.int .i64 v4x5) :: ((AV.sh (Ty.pair Ty.str Ty.str) v4x6) :: ((AV.str v4x7) :: ((AV.str v4x8) :: ((AV.int .i64 v4x9) :: ((AV.str v4x10) :: ((AV.bool v4x11) :: ((AV.sh (Ty.pair Ty.str Ty.str) v4x12) :: ((AV.str v4x13) :: ([] : List AV)))))))))))))) :: (((1216 : Nat), (Ob.arr Ty.str (0 : Nat) false v4x14)) :: ([] : (List (Nat × (Ob)))))))
def iChosen_x4e0  : St := (St.mk (slots 0 38 [(4, (AV.bool false))]) ([] : (List (Nat × (Ob)))))
def iChosen_x4e1  : St := (St.mk (slots 0 38 []) ([] : (List (Nat × (Ob)))))
noncomputable def iChosen_b4 : Code := codeAt (codeOf Tryz.f33) [1, 1, 0, 1, 0, 0]
def iChosen_L4 (N : Nat) (st : St) (k : Ex → St → Option Rs) : Option Rs := match takeF [1, 2, 18, 19, 20] 0 38 st.env, st.objs with
  | some [.sh (Ty.pair Ty.str Ty.str) v4x0, .ptr 192 0, .ref 1216 0, .int .i64 v4x1, .int .i64 v4x2], [(192, .var [.str v4x3, .int .i64 v4x4, .int .i64 v4x5, .sh (Ty.pair Ty.str Ty.str) v4x6, .str v4x7, .str v4x8, .int .i64 v4x9, .str v4x10, .bool v4x11, .sh (Ty.pair Ty.str Ty.str) v4x12, .str v4x13]), (1216, .arr Ty.str 0 false v4x14)] => iChosen_F4 N v4x0 v4x1 v4x2 v4x3 v4x4 v4x5 v4x6 v4x7 v4x8 v4x9 v4x10 v4x11 v4x12 v4x13 v4x14 (k Ex.ret (iChosen_x4e0)) (k (Ex.exit (0 : Nat)) (iChosen_x4e1))
  | _, _ => none
def iChosen_L (N : Nat) : Lam := fun j st k => match j with
  | 4 => iChosen_L4 N st k
  | _ => none
theorem iChosen_round4 (N : Nat) (again : St → Option Rs) (k : Ex → St → Option Rs) (wv4x0 : (List Fd)) (wv4x1 : Int) (wv4x2 : Int) (wv4x3 : Bytes) (wv4x4 : Int) (wv4x5 : Int) (wv4x6 : (List Fd)) (wv4x7 : Bytes) (wv4x8 : Bytes) (wv4x9 : Int) (wv4x10 : Bytes) (wv4x11 : Bool) (wv4x12 : (List Fd)) (wv4x13 : Bytes) (wv4x14 : (List Bytes)) (v4x0 : (List Fd)) (v4x1 : Int) (v4x2 : Int) (v4x3 : Bytes) (v4x4 : Int) (v4x5 : Int) (v4x6 : (List Fd)) (v4x7 : Bytes) (v4x8 : Bytes) (v4x9 : Int) (v4x10 : Bytes) (v4x11 : Bool) (v4x12 : (List Fd)) (v4x13 : Bytes) (v4x14 : (List Bytes)) :
    roundK 0 (fun st k => evL Kx iChosen_C iChosen_O 0 (iChosen_L N) iChosen_b4 st k) (iChosen_h4 wv4x0 wv4x1 wv4x2 wv4x3 wv4x4 wv4x5 wv4x6 wv4x7 wv4x8 wv4x9 wv4x10 wv4x11 wv4x12 wv4x13 wv4x14).env again (iChosen_h4 v4x0 v4x1 v4x2 v4x3 v4x4 v4x5 v4x6 v4x7 v4x8 v4x9 v4x10 v4x11 v4x12 v4x13 v4x14) (outK iChosen_O 0 iChosen_b4 k) = iChosen_T4 v4x0 v4x1 v4x2 v4x3 v4x4 v4x5 v4x6 v4x7 v4x8 v4x9 v4x10 v4x11 v4x12 v4x13 v4x14 (fun v4x0 v4x1 v4x2 v4x3 v4x4 v4x5 v4x6 v4x7 v4x8 v4x9 v4x10 v4x11 v4x12 v4x13 v4x14 => again (iChosen_h4 v4x0 v4x1 v4x2 v4x3 v4x4 v4x5 v4x6 v4x7 v4x8 v4x9 v4x10 v4x11 v4x12 v4x13 v4x14)) (k Ex.ret (iChosen_x4e0)) (k (Ex.exit (0 : Nat)) (iChosen_x4e1)) := by kernel_rfl
theorem iChosen_loop4 (N : Nat) (k : Ex → St → Option Rs) (wv4x0 : (List Fd)) (wv4x1 : Int) (wv4x2 : Int) (wv4x3 : Bytes) (wv4x4 : Int) (wv4x5 : Int) (wv4x6 : (List Fd)) (wv4x7 : Bytes) (wv4x8 : Bytes) (wv4x9 : Int) (wv4x10 : Bytes) (wv4x11 : Bool) (wv4x12 : (List Fd)) (wv4x13 : Bytes) (wv4x14 : (List Bytes)) : ∀ (n : Nat) (v4x0 : (List Fd)) (v4x1 : Int) (v4x2 : Int) (v4x3 : Bytes) (v4x4 : Int) (v4x5 : Int) (v4x6 : (List Fd)) (v4x7 : Bytes) (v4x8 : Bytes) (v4x9 : Int) (v4x10 : Bytes) (v4x11 : Bool) (v4x12 : (List Fd)) (v4x13 : Bytes) (v4x14 : (List Bytes)),
    loopK 0 (fun st k => evL Kx iChosen_C iChosen_O 0 (iChosen_L N) iChosen_b4 st k) (iChosen_h4 wv4x0 wv4x1 wv4x2 wv4x3 wv4x4 wv4x5 wv4x6 wv4x7 wv4x8 wv4x9 wv4x10 wv4x11 wv4x12 wv4x13 wv4x14).env n (iChosen_h4 v4x0 v4x1 v4x2 v4x3 v4x4 v4x5 v4x6 v4x7 v4x8 v4x9 v4x10 v4x11 v4x12 v4x13 v4x14) (outK iChosen_O 0 iChosen_b4 k) = iChosen_F4 n v4x0 v4x1 v4x2 v4x3 v4x4 v4x5 v4x6 v4x7 v4x8 v4x9 v4x10 v4x11 v4x12 v4x13 v4x14 (k Ex.ret (iChosen_x4e0)) (k (Ex.exit (0 : Nat)) (iChosen_x4e1))
  | 0, _, _, _, _, _, _, _, _, _, _, _, _, _, _, _ => rfl
  | n + 1, v4x0, v4x1, v4x2, v4x3, v4x4, v4x5, v4x6, v4x7, v4x8, v4x9, v4x10, v4x11, v4x12, v4x13, v4x14 => by
    rw [loopK_succ, iChosen_round4]
    simp only [iChosen_loop4 N k wv4x0 wv4x1 wv4x2 wv4x3 wv4x4 wv4x5 wv4x6 wv4x7 wv4x8 wv4x9 wv4x10 wv4x11 wv4x12 wv4x13 wv4x14 n]
    rfl
theorem iChosen_at4 (N : Nat) {s : St} {k : Ex → St → Option Rs} {r : Rs} (h : iChosen_L4 N s k = some r) : ∃ (v4x0 : (List Fd)) (v4x1 : Int) (v4x2 : Int) (v4x3 : Bytes) (v4x4 : Int) (v4x5 : Int) (v4x6 : (List Fd)) (v4x7 : Bytes) (v4x8 : Bytes) (v4x9 : Int) (v4x10 : Bytes) (v4x11 : Bool) (v4x12 : (List Fd)) (v4x13 : Bytes) (v4x14 : (List Bytes)), s = (iChosen_h4 v4x0 v4x1 v4x2 v4x3 v4x4 v4x5 v4x6 v4x7 v4x8 v4x9 v4x10 v4x11 v4x12 v4x13 v4x14) ∧ iChosen_F4 N v4x0 v4x1 v4x2 v4x3 v4x4 v4x5 v4x6 v4x7 v4x8 v4x9 v4x10 v4x11 v4x12 v4x13 v4x14 (k Ex.ret (iChosen_x4e0)) (k (Ex.exit (0 : Nat)) (iChosen_x4e1)) = some r := by
  cases s with | mk env objs =>
  unfold iChosen_L4 at h
  split at h
  · rename_i e1 e2
    have e3 := takeF_slots _ _ _ _ e1
    simp only at e2 e3
    subst e2 e3
    exact ⟨_, _, _, _, _, _, _, _, _, _, _, _, _, _, _, rfl, h⟩
  · cases h
theorem iChosen_in4 : loops iChosen_b4 = [] := by kernel_rfl
theorem iChosen_lid4 : lid iChosen_b4 = 4 := by kernel_rfl
theorem iChosen_ok4 (N : Nat) : OkL Kx iChosen_C iChosen_O 0 N (iChosen_L N) iChosen_b4 := by
  intro s k k' r hk h
  rw [iChosen_lid4] at h
  obtain ⟨v4x0, v4x1, v4x2, v4x3, v4x4, v4x5, v4x6, v4x7, v4x8, v4x9, v4x10, v4x11, v4x12, v4x13, v4x14, rfl, h⟩ := iChosen_at4 N h
  refine loopL (Λ := iChosen_L N) iChosen_b4 ?_ N hk ((iChosen_loop4 N k v4x0 v4x1 v4x2 v4x3 v4x4 v4x5 v4x6 v4x7 v4x8 v4x9 v4x10 v4x11 v4x12 v4x13 v4x14 N v4x0 v4x1 v4x2 v4x3 v4x4 v4x5 v4x6 v4x7 v4x8 v4x9 v4x10 v4x11 v4x12 v4x13 v4x14).trans h)
  rw [iChosen_in4]
  exact fun _ h => nomatch h
def iChosen_run (N : Nat) (ur : Bytes) (t1 t2 : Int) (ak : List Fd) (me ta : Bytes) (st : Int) (re : Bytes) (ba : Bool) (fs : List Fd) (bo : Bytes) (l : List Fd) : Option Rs := (bif (isM ur) then (bif (!(entP (ur, (t1, (t2, (ak, (me, (ta, (st, (re, (ba, (fs, bo)))))))))))) then (some ((AV.bool false), ([] : List Ob))) else (bif (!(fdsOk l)) then (some ((AV.bool false), ([] : List Ob))) else (iChosen_F4 N l ((List.length (varyP fs)) : Int) (0 : Int) ur t1 t2 ak me ta st re ba fs bo (varyP fs) (some ((AV.bool false), ([] : List Ob))) (some ((AV.bool true), ([] : List Ob)))))) else (none))
theorem iChosen_runL (N : Nat) (ur : Bytes) (t1 t2 : Int) (ak : List Fd) (me ta : Bytes) (st : Int) (re : Bytes) (ba : Bool) (fs : List Fd) (bo : Bytes) (l : List Fd) : runL Kx iChosen_C iChosen_O (iChosen_L N) Tryz.f33 ([.agg [.str ur, .int .i64 t1, .int .i64 t2, .sh (.pair .str .str) ak, .str me, .str ta, .int .i64 st, .str re, .bool ba, .sh (.pair .str .str) fs, .str bo], .sh (.pair .str .str) l]) ([]) = iChosen_run N ur t1 t2 ak me ta st re ba fs bo l := by kernel_rfl
theorem iChosen_body : Tryz.f33.body = some (codeOf Tryz.f33) := by kernel_rfl
theorem iChosen_loops : loops (codeOf Tryz.f33) = [iChosen_b4] := by kernel_rfl
theorem iChosen_ev (N : Nat) (ur : Bytes) (t1 t2 : Int) (ak : List Fd) (me ta : Bytes) (st : Int) (re : Bytes) (ba : Bool) (fs : List Fd) (bo : Bytes) (l : List Fd) {res_ : Rs} (hyp_ : iChosen_run N ur t1 t2 ak me ta st re ba fs bo l = some res_) : ∃ n_, runF Kx iChosen_C iChosen_O n_ Tryz.f33 ([.agg [.str ur, .int .i64 t1, .int .i64 t2, .sh (.pair .str .str) ak, .str me, .str ta, .int .i64 st, .str re, .bool ba, .sh (.pair .str .str) fs, .str bo], .sh (.pair .str .str) l]) ([]) = some res_ :=
  ⟨N, runL_runF iChosen_body (by rw [iChosen_loops]; exact List.forall_mem_cons.2 ⟨iChosen_ok4 N, fun _ h => nomatch h⟩) ((iChosen_runL N ur t1 t2 ak me ta st re ba fs bo l).trans hyp_)⟩
def iChosen_sOf (φ : Bytes → Int → Int → (List Fd) → Bytes → Bytes → Int → Bytes → Bool → (List Fd) → Bytes → (List Fd) → Br) : List AV → List Ob → Br
  | [.agg [.str ur, .int .i64 t1, .int .i64 t2, .sh (.pair .str .str) ak, .str me, .str ta, .int .i64 st, .str re, .bool ba, .sh (.pair .str .str) fs, .str bo], .sh (.pair .str .str) l], [] => φ ur t1 t2 ak me ta st re ba fs bo l
  | _, _ => .fail
theorem iChosen_okOf {φ : Bytes → Int → Int → (List Fd) → Bytes → Bytes → Int → Bytes → Bool → (List Fd) → Bytes → (List Fd) → Br} (fu : Bytes → Int → Int → (List Fd) → Bytes → Bytes → Int → Bytes → Bool → (List Fd) → Bytes → (List Fd) → Nat) (hv : ∀ ur t1 t2 ak me ta st re ba fs bo l res_, (φ ur t1 t2 ak me ta st re ba fs bo l).val = some res_ → iChosen_run (fu ur t1 t2 ak me ta st re ba fs bo l) ur t1 t2 ak me ta st re ba fs bo l = some res_) : Sound Kx 33 (iChosen_sOf φ) := by
  refine sound_run (C := iChosen_C) (O := iChosen_O) KOk iChosen_C_ok Tryz.func33 (by kernel_rfl) fun args objs res os h => ?_
  unfold iChosen_sOf at h
  split at h
  · exact iChosen_ev _ _ _ _ _ _ _ _ _ _ _ _ _ (hv _ _ _ _ _ _ _ _ _ _ _ _ _ h)
  · cases h

def sChosen_O : Opt := { cons := [], keepNil := false, mutF := [], live := [(5, [1, 2, 5, 6])], outs := [(5, [4])], split := true }
def sChosen_C : Spec := (add (add (add (add (add noS 37 ek_s) 59 (fl_s fun l => .bool (fdsOk l))) 71 vaS_s) 61 wo_s) 72 tt_s)
theorem sChosen_C_ok : ∀ fn, Sound Kx fn (sChosen_C fn) := (sound_add (sound_add (sound_add (sound_add (sound_add (sound_no Kx) sEntryOk_okQ) sFieldsOk_okQ) sVary_okQ) sWords_okQ) sSame_okQ)
def sChosen_T5 (v5x0 : (List Fd)) (v5x1 : (List Bytes)) (v5x2 : Int) (v5x3 : Bytes) (v5x4 : Int) (v5x5 : Int) (v5x6 : (List Fd)) (v5x7 : Bytes) (v5x8 : Bytes) (v5x9 : Int) (v5x10 : Bytes) (v5x11 : Bool) (v5x12 : (List Fd)) (v5x13 : Bytes) (kR5 : (List Fd) → (List Bytes) → Int → Bytes → Int → Int → (List Fd) → Bytes → Bytes → Int → Bytes → Bool → (List Fd) → Bytes → Option Rs) (k5e0 : Option Rs) (k5e1 : Option Rs) : Option Rs :=
  (bif (decide (v5x2 < ((List.length v5x1) : Int))) then (bif (decide ((0 : Int) ≤ v5x2)) then (bif (decide (v5x2 < ((List.length v5x1) : Int))) then (bif (decide ((List.getD v5x1 (Int.toNat v5x2) ([] : Bytes)) = ((42 : UInt8) :: ([] : Bytes)))) then k5e0 else (bif (decide ((0 : Int) ≤ v5x2)) then (bif (decide (v5x2 < ((List.length v5x1) : Int))) then (bif (isM (List.getD v5x1 (Int.toNat v5x2) ([] : Bytes))) then (bif (decide ((0 : Int) ≤ v5x2)) then (bif (decide (v5x2 < ((List.length v5x1) : Int))) then (bif (isM (List.getD v5x1 (Int.toNat v5x2) ([] : Bytes))) then (bif (decide ((List.length (wordsP v5x6 (List.getD v5x1 (Int.toNat v5x2) ([] : Bytes)))) ≤ (1000000 : Nat))) then (bif (decide ((wordsP v5x6 (List.getD v5x1 (Int.toNat v5x2) ([] : Bytes))) = (wordsP v5x0 (List.getD v5x1 (Int.toNat v5x2) ([] : Bytes))))) then (kR5 v5x0 v5x1 (wk64 (v5x2 + (1 : Int))) v5x3 v5x4 v5x5 v5x6 v5x7 v5x8 v5x9 v5x10 v5x11 v5x12 v5x13) else k5e0) else (none)) else (none)) else (none)) else (none)) else (none)) else (none)) else (none))) else (none)) else (none)) else k5e1)
def sChosen_F5 : Nat → (List Fd) → (List Bytes) → Int → Bytes → Int → Int → (List Fd) → Bytes → Bytes → Int → Bytes → Bool → (List Fd) → Bytes → (Option Rs) → (Option Rs) → Option Rs
  | 0, _, _, _, _, _, _, _, _, _, _, _, _, _, _, _, _ => none
  | n + 1, v5x0, v5x1, v5x2, v5x3, v5x4, v5x5, v5x6, v5x7, v5x8, v5x9, v5x10, v5x11, v5x12, v5x13, k5e0, k5e1 => sChosen_T5 v5x0 v5x1 v5x2 v5x3 v5x4 v5x5 v5x6 v5x7 v5x8 v5x9 v5x10 v5x11 v5x12 v5x13 (fun v5x0 v5x1 v5x2 v5x3 v5x4 v5x5 v5x6 v5x7 v5x8 v5x9 v5x10 v5x11 v5x12 v5x13 => sChosen_F5 n v5x0 v5x1 v5x2 v5x3 v5x4 v5x5 v5x6 v5x7 v5x8 v5x9 v5x10 v5x11 v5x12 v5x13 k5e0 k5e1) k5e0 k5e1
def sChosen_h5 (v5x0 : (List Fd)) (v5x1 : (List Bytes)) (v5x2 : Int) (v5x3 : Bytes) (v5x4 : Int) (v5x5 : Int) (v5x6 : (List Fd)) (v5x7 : Bytes) (v5x8 : Bytes) (v5x9 : Int) (v5x10 : Bytes) (v5x11 : Bool) (v5x12 : (List Fd)) (v5x13 : Bytes) : St := (St.mk (slots 0 47 [(1, (AV.sh (Ty.pair Ty.str Ty.str) v5x0)), (2, (AV.ptr (192 : Nat) (0 : Nat))), (5, (AV.sh Ty.str v5x1)), (6, (AV.int .i64 v5x2))]) (((192 : Nat), (Ob.var ((AV.str v5x3) :: ((AV.int .i64 v5x4) :: ((AV.int .i64 v5x5) :: ((AV.sh (Ty.pair Ty.str Ty.str) v5x6) :: ((AV.str v5x7) :: ((AV.str v5x8) :: ((AV.int .i64 v5x9) :: ((AV.str v5x10) :: ((AV.bool v5x11) :: ((AV.sh (Ty.pair Ty.str Ty.str) v5x12) :: ((AV.str v5x13) :: ([] : List AV)))))))))))))) :: ([] : (List (Nat × (Ob))))))
def sChosen_x5e0  : St := (St.mk (slots 0 47 [(4, (AV.bool false))]) ([] : (List (Nat × (Ob)))))
def sChosen_x5e1  : St := (St.mk (slots 0 47 []) ([] : (List (Nat × (Ob)))))
noncomputable def sChosen_b5 : Code := codeAt (codeOf Tryz.f32) [1, 1, 1, 0, 1, 0, 0]
def sChosen_L5 (N : Nat) (st : St) (k : Ex → St → Option Rs) : Option Rs := match takeF [1, 2, 5, 6] 0 47 st.env, st.objs with
  | some [.sh (Ty.pair Ty.str Ty.str) v5x0, .ptr 192 0, .sh Ty.str v5x1, .int .i64 v5x2], [(192, .var [.str v5x3, .int .i64 v5x4, .int .i64 v5x5, .sh (Ty.pair Ty.str Ty.str) v5x6, .str v5x7, .str v5x8, .int .i64 v5x9, .str v5x10, .bool v5x11, .sh (Ty.pair Ty.str Ty.str) v5x12, .str v5x13])] => sChosen_F5 N v5x0 v5x1 v5x2 v5x3 v5x4 v5x5 v5x6 v5x7 v5x8 v5x9 v5x10 v5x11 v5x12 v5x13 (k Ex.ret (sChosen_x5e0)) (k (Ex.exit (0 : Nat)) (sChosen_x5e1))
  | _, _ => none
def sChosen_L (N : Nat) : Lam := fun j st k => match j with
  | 5 => sChosen_L5 N st k
  | _ => none
theorem sChosen_round5 (N : Nat) (again : St → Option Rs) (k : Ex → St → Option Rs) (wv5x0 : (List Fd)) (wv5x1 : (List Bytes)) (wv5x2 : Int) (wv5x3 : Bytes) (wv5x4 : Int) (wv5x5 : Int) (wv5x6 : (List Fd)) (wv5x7 : Bytes) (wv5x8 : Bytes) (wv5x9 : Int) (wv5x10 : Bytes) (wv5x11 : Bool) (wv5x12 : (List Fd)) (wv5x13 : Bytes) (v5x0 : (List Fd)) (v5x1 : (List Bytes)) (v5x2 : Int) (v5x3 : Bytes) (v5x4 : Int) (v5x5 : Int) (v5x6 : (List Fd)) (v5x7 : Bytes) (v5x8 : Bytes) (v5x9 : Int) (v5x10 : Bytes) (v5x11 : Bool) (v5x12 : (List Fd)) (v5x13 : Bytes) :
    roundK 0 (fun st k => evL Kx sChosen_C sChosen_O 0 (sChosen_L N) sChosen_b5 st k) (sChosen_h5 wv5x0 wv5x1 wv5x2 wv5x3 wv5x4 wv5x5 wv5x6 wv5x7 wv5x8 wv5x9 wv5x10 wv5x11 wv5x12 wv5x13).env again (sChosen_h5 v5x0 v5x1 v5x2 v5x3 v5x4 v5x5 v5x6 v5x7 v5x8 v5x9 v5x10 v5x11 v5x12 v5x13) (outK sChosen_O 0 sChosen_b5 k) = sChosen_T5 v5x0 v5x1 v5x2 v5x3 v5x4 v5x5 v5x6 v5x7 v5x8 v5x9 v5x10 v5x11 v5x12 v5x13 (fun v5x0 v5x1 v5x2 v5x3 v5x4 v5x5 v5x6 v5x7 v5x8 v5x9 v5x10 v5x11 v5x12 v5x13 => again (sChosen_h5 v5x0 v5x1 v5x2 v5x3 v5x4 v5x5 v5x6 v5x7 v5x8 v5x9 v5x10 v5x11 v5x12 v5x13)) (k Ex.ret (sChosen_x5e0)) (k (Ex.exit (0 : Nat)) (sChosen_x5e1)) := by kernel_rfl
theorem sChosen_loop5 (N : Nat) (k : Ex → St → Option Rs) (wv5x0 : (List Fd)) (wv5x1 : (List Bytes)) (wv5x2 : Int) (wv5x3 : Bytes) (wv5x4 : Int) (wv5x5 : Int) (wv5x6 : (List Fd)) (wv5x7 : Bytes) (wv5x8 : Bytes) (wv5x9 : Int) (wv5x10 : Bytes) (wv5x11 : Bool) (wv5x12 : (List Fd)) (wv5x13 : Bytes) : ∀ (n : Nat) (v5x0 : (List Fd)) (v5x1 : (List Bytes)) (v5x2 : Int) (v5x3 : Bytes) (v5x4 : Int) (v5x5 : Int) (v5x6 : (List Fd)) (v5x7 : Bytes) (v5x8 : Bytes) (v5x9 : Int) (v5x10 : Bytes) (v5x11 : Bool) (v5x12 : (List Fd)) (v5x13 : Bytes),
    loopK 0 (fun st k => evL Kx sChosen_C sChosen_O 0 (sChosen_L N) sChosen_b5 st k) (sChosen_h5 wv5x0 wv5x1 wv5x2 wv5x3 wv5x4 wv5x5 wv5x6 wv5x7 wv5x8 wv5x9 wv5x10 wv5x11 wv5x12 wv5x13).env n (sChosen_h5 v5x0 v5x1 v5x2 v5x3 v5x4 v5x5 v5x6 v5x7 v5x8 v5x9 v5x10 v5x11 v5x12 v5x13) (outK sChosen_O 0 sChosen_b5 k) = sChosen_F5 n v5x0 v5x1 v5x2 v5x3 v5x4 v5x5 v5x6 v5x7 v5x8 v5x9 v5x10 v5x11 v5x12 v5x13 (k Ex.ret (sChosen_x5e0)) (k (Ex.exit (0 : Nat)) (sChosen_x5e1))
  | 0, _, _, _, _, _, _, _, _, _, _, _, _, _, _ => rfl
  | n + 1, v5x0, v5x1, v5x2, v5x3, v5x4, v5x5, v5x6, v5x7, v5x8, v5x9, v5x10, v5x11, v5x12, v5x13 => by
    rw [loopK_succ, sChosen_round5]
    simp only [sChosen_loop5 N k wv5x0 wv5x1 wv5x2 wv5x3 wv5x4 wv5x5 wv5x6 wv5x7 wv5x8 wv5x9 wv5x10 wv5x11 wv5x12 wv5x13 n]
    rfl
theorem sChosen_at5 (N : Nat) {s : St} {k : Ex → St → Option Rs} {r : Rs} (h : sChosen_L5 N s k = some r) : ∃ (v5x0 : (List Fd)) (v5x1 : (List Bytes)) (v5x2 : Int) (v5x3 : Bytes) (v5x4 : Int) (v5x5 : Int) (v5x6 : (List Fd)) (v5x7 : Bytes) (v5x8 : Bytes) (v5x9 : Int) (v5x10 : Bytes) (v5x11 : Bool) (v5x12 : (List Fd)) (v5x13 : Bytes), s = (sChosen_h5 v5x0 v5x1 v5x2 v5x3 v5x4 v5x5 v5x6 v5x7 v5x8 v5x9 v5x10 v5x11 v5x12 v5x13) ∧ sChosen_F5 N v5x0 v5x1 v5x2 v5x3 v5x4 v5x5 v5x6 v5x7 v5x8 v5x9 v5x10 v5x11 v5x12 v5x13 (k Ex.ret (sChosen_x5e0)) (k (Ex.exit (0 : Nat)) (sChosen_x5e1)) = some r := by
  cases s with | mk env objs =>
  unfold sChosen_L5 at h
  split at h
  · rename_i e1 e2
    have e3 := takeF_slots _ _ _ _ e1
    simp only at e2 e3
    subst e2 e3
    exact ⟨_, _, _, _, _, _, _, _, _, _, _, _, _, _, rfl, h⟩
  · cases h
theorem sChosen_in5 : loops sChosen_b5 = [] := by kernel_rfl
theorem sChosen_lid5 : lid sChosen_b5 = 5 := by kernel_rfl
theorem sChosen_ok5 (N : Nat) : OkL Kx sChosen_C sChosen_O 0 N (sChosen_L N) sChosen_b5 := by
  intro s k k' r hk h
  rw [sChosen_lid5] at h
  obtain ⟨v5x0, v5x1, v5x2, v5x3, v5x4, v5x5, v5x6, v5x7, v5x8, v5x9, v5x10, v5x11, v5x12, v5x13, rfl, h⟩ := sChosen_at5 N h
  refine loopL (Λ := sChosen_L N) sChosen_b5 ?_ N hk ((sChosen_loop5 N k v5x0 v5x1 v5x2 v5x3 v5x4 v5x5 v5x6 v5x7 v5x8 v5x9 v5x10 v5x11 v5x12 v5x13 N v5x0 v5x1 v5x2 v5x3 v5x4 v5x5 v5x6 v5x7 v5x8 v5x9 v5x10 v5x11 v5x12 v5x13).trans h)
  rw [sChosen_in5]
  exact fun _ h => nomatch h
def sChosen_run (N : Nat) (ur : Bytes) (t1 t2 : Int) (ak : List Fd) (me ta : Bytes) (st : Int) (re : Bytes) (ba : Bool) (fs : List Fd) (bo : Bytes) (l : List Fd) : Option Rs := (bif (isM ur) then (bif (!(entP (ur, (t1, (t2, (ak, (me, (ta, (st, (re, (ba, (fs, bo)))))))))))) then (some ((AV.bool false), ([] : List Ob))) else (bif (!(fdsOk l)) then (some ((AV.bool false), ([] : List Ob))) else (sChosen_F5 N l (varyP fs) (0 : Int) ur t1 t2 ak me ta st re ba fs bo (some ((AV.bool false), ([] : List Ob))) (some ((AV.bool true), ([] : List Ob)))))) else (none))
theorem sChosen_runL (N : Nat) (ur : Bytes) (t1 t2 : Int) (ak : List Fd) (me ta : Bytes) (st : Int) (re : Bytes) (ba : Bool) (fs : List Fd) (bo : Bytes) (l : List Fd) : runL Kx sChosen_C sChosen_O (sChosen_L N) Tryz.f32 ([.agg [.str ur, .int .i64 t1, .int .i64 t2, .sh (.pair .str .str) ak, .str me, .str ta, .int .i64 st, .str re, .bool ba, .sh (.pair .str .str) fs, .str bo], .sh (.pair .str .str) l]) ([]) = sChosen_run N ur t1 t2 ak me ta st re ba fs bo l := by kernel_rfl
theorem sChosen_body : Tryz.f32.body = some (codeOf Tryz.f32) := by kernel_rfl
theorem sChosen_loops : loops (codeOf Tryz.f32) = [sChosen_b5] := by kernel_rfl
theorem sChosen_ev (N : Nat) (ur : Bytes) (t1 t2 : Int) (ak : List Fd) (me ta : Bytes) (st : Int) (re : Bytes) (ba : Bool) (fs : List Fd) (bo : Bytes) (l : List Fd) {res_ : Rs} (hyp_ : sChosen_run N ur t1 t2 ak me ta st re ba fs bo l = some res_) : ∃ n_, runF Kx sChosen_C sChosen_O n_ Tryz.f32 ([.agg [.str ur, .int .i64 t1, .int .i64 t2, .sh (.pair .str .str) ak, .str me, .str ta, .int .i64 st, .str re, .bool ba, .sh (.pair .str .str) fs, .str bo], .sh (.pair .str .str) l]) ([]) = some res_ :=
  ⟨N, runL_runF sChosen_body (by rw [sChosen_loops]; exact List.forall_mem_cons.2 ⟨sChosen_ok5 N, fun _ h => nomatch h⟩) ((sChosen_runL N ur t1 t2 ak me ta st re ba fs bo l).trans hyp_)⟩
def sChosen_sOf (φ : Bytes → Int → Int → (List Fd) → Bytes → Bytes → Int → Bytes → Bool → (List Fd) → Bytes → (List Fd) → Br) : List AV → List Ob → Br
  | [.agg [.str ur, .int .i64 t1, .int .i64 t2, .sh (.pair .str .str) ak, .str me, .str ta, .int .i64 st, .str re, .bool ba, .sh (.pair .str .str) fs, .str bo], .sh (.pair .str .str) l], [] => φ ur t1 t2 ak me ta st re ba fs bo l
  | _, _ => .fail
theorem sChosen_okOf {φ : Bytes → Int → Int → (List Fd) → Bytes → Bytes → Int → Bytes → Bool → (List Fd) → Bytes → (List Fd) → Br} (fu : Bytes → Int → Int → (List Fd) → Bytes → Bytes → Int → Bytes → Bool → (List Fd) → Bytes → (List Fd) → Nat) (hv : ∀ ur t1 t2 ak me ta st re ba fs bo l res_, (φ ur t1 t2 ak me ta st re ba fs bo l).val = some res_ → sChosen_run (fu ur t1 t2 ak me ta st re ba fs bo l) ur t1 t2 ak me ta st re ba fs bo l = some res_) : Sound Kx 32 (sChosen_sOf φ) := by
  refine sound_run (C := sChosen_C) (O := sChosen_O) KOk sChosen_C_ok Tryz.func32 (by kernel_rfl) fun args objs res os h => ?_
  unfold sChosen_sOf at h
  split at h
  · exact sChosen_ev _ _ _ _ _ _ _ _ _ _ _ _ _ (hv _ _ _ _ _ _ _ _ _ _ _ _ _ h)
  · cases h

end
end Go.Proofs.YtmmjaomfonknnaaGreatDoor.Ev

namespace Go.Proofs.YtmmjaomfonknnaaGreatDoor.Ev
open Go Go.RowKit
set_option linter.unusedVariables false
set_option linter.unusedSimpArgs false
noncomputable section
def sameW (ak l : List Fd) (n : Bytes) : Bool := bif decide (n = [42]) then false else decide (wordsP ak n = wordsP l n)
def chosenP (e : En) (l : List Fd) : Bool := entP e && fdsOk l && (varyP e.2.2.2.2.2.2.2.2.2.1).all (sameW e.2.2.2.1 l)
theorem words_dec (ak : List Fd) (n : Bytes) : decide ((wordsP ak n).length ≤ 1000000) = true := decide_eq_true (by have := (words_bd ak n).1; omega)
theorem iChosen_loop (ws : List Bytes) (hl : ws.length ≤ 100000) (ur : Bytes) (t1 t2 : Int) (ak : List Fd) (me ta : Bytes) (st : Int) (re : Bytes) (ba : Bool) (fs : List Fd) (bo : Bytes) (l : List Fd) (k0 k1 : Option Rs) :
    ∀ (r : List Bytes) (i : Int) (n : Nat), At ws i r → r.length < n → (∀ x ∈ r, x.length ≤ 4000) →
    iChosen_F4 n l (ws.length : Int) i ur t1 t2 ak me ta st re ba fs bo ws k0 k1 = bif r.all (sameW ak l) then k1 else k0 := by
  intro r; induction r with
  | nil => intro i n h hn hm; obtain ⟨n, rfl⟩ := fuel hn; unfold iChosen_F4 iChosen_T4; simp only [h.dge, cond_false, List.all_nil, cond_true]
  | cons e r ih =>
    intro i n h hn hm; obtain ⟨n, rfl⟩ := fuel hn
    simp only [List.length_cons] at hn
    have hM : isM e = true := isM_of (n := 4000) (hm e (List.mem_cons_self ..))
    have hr := ih (i + 1) n h.step (by omega) (fun x hx => hm x (List.mem_cons_of_mem _ hx))
    unfold iChosen_F4 iChosen_T4
    simp only [h.dlt, h.dnn, h.get, cond_true, h.next (show ws.length ≤ 4611686018427387904 by omega), hM, hr, List.all_cons, words_dec]
    unfold sameW
    cases decide (e = [42]) <;> cases decide (wordsP ak e = wordsP l e) <;> rfl
theorem sChosen_loop (ws : List Bytes) (hl : ws.length ≤ 100000) (ur : Bytes) (t1 t2 : Int) (ak : List Fd) (me ta : Bytes) (st : Int) (re : Bytes) (ba : Bool) (fs : List Fd) (bo : Bytes) (l : List Fd) (k0 k1 : Option Rs) :
    ∀ (r : List Bytes) (i : Int) (n : Nat), At ws i r → r.length < n → (∀ x ∈ r, x.length ≤ 4000) →
    sChosen_F5 n l ws i ur t1 t2 ak me ta st re ba fs bo k0 k1 = bif r.all (sameW ak l) then k1 else k0 := by
  intro r; induction r with
  | nil => intro i n h hn hm; obtain ⟨n, rfl⟩ := fuel hn; unfold sChosen_F5 sChosen_T5; simp only [h.dge, cond_false, List.all_nil, cond_true]
  | cons e r ih =>
    intro i n h hn hm; obtain ⟨n, rfl⟩ := fuel hn
    simp only [List.length_cons] at hn
    have hM : isM e = true := isM_of (n := 4000) (hm e (List.mem_cons_self ..))
    have hr := ih (i + 1) n h.step (by omega) (fun x hx => hm x (List.mem_cons_of_mem _ hx))
    unfold sChosen_F5 sChosen_T5
    simp only [h.dlt, h.dnn, h.get, cond_true, h.next (show ws.length ≤ 4611686018427387904 by omega), hM, hr, List.all_cons, words_dec]
    unfold sameW
    cases decide (e = [42]) <;> cases decide (wordsP ak e = wordsP l e) <;> rfl
def ch_s : List AV → List Ob → Br
  | [.agg [.str ur, .int .i64 t1, .int .i64 t2, .sh (.pair .str .str) ak, .str me, .str ta, .int .i64 st, .str re, .bool ba, .sh (.pair .str .str) fs, .str bo], .sh (.pair .str .str) l], [] => .ite (isM ur) (.ret (.bool (chosenP (ur, t1, t2, ak, me, ta, st, re, ba, fs, bo) l)) []) .fail
  | _, _ => .fail
theorem iChosen_okQ : Sound Kx 33 ch_s := by
  refine (iChosen_okOf (φ := fun ur t1 t2 ak me ta st re ba fs bo l => .ite (isM ur) (.ret (.bool (chosenP (ur, t1, t2, ak, me, ta, st, re, ba, fs, bo) l)) []) .fail) (fun _ _ _ _ _ _ _ _ _ fs _ _ => (varyP fs).length + 1)
    fun ur t1 t2 ak me ta st re ba fs bo l r h => ?_).of fun args objs r h => ?_
  · obtain ⟨h1, h2⟩ := ite_some h
    cases h2
    unfold iChosen_run chosenP
    rw [h1, cond_true, iChosen_loop (varyP fs) (by have := vary_len fs; omega) ur t1 t2 ak me ta st re ba fs bo l _ _ (varyP fs) 0 ((varyP fs).length + 1) (At.start _) (by omega) (vary_mem fs)]
    cases entP (ur, t1, t2, ak, me, ta, st, re, ba, fs, bo) <;> cases fdsOk l <;> cases (varyP fs).all (sameW ak l) <;> rfl
  · unfold ch_s at h; split at h
    · exact h
    · cases h
theorem sChosen_okQ : Sound Kx 32 ch_s := by
  refine (sChosen_okOf (φ := fun ur t1 t2 ak me ta st re ba fs bo l => .ite (isM ur) (.ret (.bool (chosenP (ur, t1, t2, ak, me, ta, st, re, ba, fs, bo) l)) []) .fail) (fun _ _ _ _ _ _ _ _ _ fs _ _ => (varyP fs).length + 1)
    fun ur t1 t2 ak me ta st re ba fs bo l r h => ?_).of fun args objs r h => ?_
  · obtain ⟨h1, h2⟩ := ite_some h
    cases h2
    unfold sChosen_run chosenP
    rw [h1, cond_true, sChosen_loop (varyP fs) (by have := vary_len fs; omega) ur t1 t2 ak me ta st re ba fs bo l _ _ (varyP fs) 0 ((varyP fs).length + 1) (At.start _) (by omega) (vary_mem fs)]
    cases entP (ur, t1, t2, ak, me, ta, st, re, ba, fs, bo) <;> cases fdsOk l <;> cases (varyP fs).all (sameW ak l) <;> rfl
  · unfold ch_s at h; split at h
    · exact h
    · cases h
end
end Go.Proofs.YtmmjaomfonknnaaGreatDoor.Ev

namespace Go.Proofs.YtmmjaomfonknnaaGreatDoor.Ev
open Go Go.RowKit
set_option linter.unusedVariables false
set_option linter.unusedSimpArgs false
noncomputable section

theorem en_eta (a : En) : (a.1, a.2.1, a.2.2.1, a.2.2.2.1, a.2.2.2.2.1, a.2.2.2.2.2.1, a.2.2.2.2.2.2.1, a.2.2.2.2.2.2.2.1, a.2.2.2.2.2.2.2.2.1, a.2.2.2.2.2.2.2.2.2.1, a.2.2.2.2.2.2.2.2.2.2) = a := rfl
def totE : List En → Int
  | [] => 0
  | e :: r => entSz e + totE r
def okEs (l : List En) : Bool := decide (l.length ≤ 1048576) && l.all fun e => decide (e.1.length ≤ 1048576)
theorem entSz_bd (e : En) (h : e.1.length ≤ 1048576) : 0 ≤ entSz e ∧ entSz e ≤ 1050676 := by
  have := write_len e.2.2.2.2
  unfold entSz; omega
theorem okEs_mem {l : List En} (h : okEs l = true) : l.length ≤ 1048576 ∧ ∀ e ∈ l, e.1.length ≤ 1048576 := by
  unfold okEs at h
  simp only [Bool.and_eq_true, decide_eq_true_eq, List.all_eq_true] at h
  exact h
theorem iCSz_loop (l : List En) (hl : l.length ≤ 1048576) (k : Int → Option Rs) : ∀ (r : List En) (acc i : Int) (n : Nat), At l i r → r.length < n → (∀ e ∈ r, e.1.length ≤ 1048576) → 0 ≤ acc → acc + 1050676 * r.length ≤ 2000000000000 →
    iCSz_F3 n acc l (l.length : Int) i k = k (acc + totE r) := by
  intro r; induction r with
  | nil => intro acc i n h hn hm ha hb; obtain ⟨n, rfl⟩ := fuel hn; unfold iCSz_F3 iCSz_T3; simp only [h.dge, cond_false, totE, Int.add_zero]
  | cons e r ih =>
    intro acc i n h hn hm ha hb; obtain ⟨n, rfl⟩ := fuel hn
    simp only [List.length_cons] at hn hb
    have he := hm e (List.mem_cons_self ..)
    have hs := entSz_bd e he
    have hM : isM e.1 = true := isM_of (n := 1048576) he
    have hr := ih (acc + entSz e) (i + 1) n h.step (by omega) (fun x hx => hm x (List.mem_cons_of_mem _ hx)) (by omega) (by omega)
    unfold iCSz_F3 iCSz_T3
    simp only [h.dlt, h.dnn, h.get, cond_true, h.next (show l.length ≤ 4611686018427387904 by omega), hM, en_eta]
    rw [w64 (by omega) (by omega), hr]
    simp only [totE]
    rw [Int.add_assoc]
theorem sCSz_loop (l : List En) (hl : l.length ≤ 1048576) (k : Int → Option Rs) : ∀ (r : List En) (acc i : Int) (n : Nat), At l i r → r.length < n → (∀ e ∈ r, e.1.length ≤ 1048576) → 0 ≤ acc → acc + 1050676 * r.length ≤ 2000000000000 →
    sCSz_F3 n l acc i k = k (acc + totE r) := by
  intro r; induction r with
  | nil => intro acc i n h hn hm ha hb; obtain ⟨n, rfl⟩ := fuel hn; unfold sCSz_F3 sCSz_T3; simp only [h.dge, cond_false, totE, Int.add_zero]
  | cons e r ih =>
    intro acc i n h hn hm ha hb; obtain ⟨n, rfl⟩ := fuel hn
    simp only [List.length_cons] at hn hb
    have he := hm e (List.mem_cons_self ..)
    have hs := entSz_bd e he
    have hM : isM e.1 = true := isM_of (n := 1048576) he
    have hr := ih (acc + entSz e) (i + 1) n h.step (by omega) (fun x hx => hm x (List.mem_cons_of_mem _ hx)) (by omega) (by omega)
    unfold sCSz_F3 sCSz_T3
    simp only [h.dlt, h.dnn, h.get, cond_true, h.next (show l.length ≤ 4611686018427387904 by omega), hM, en_eta]
    rw [w64 (by omega) (by omega), hr]
    simp only [totE]
    rw [Int.add_assoc]
def cz_s (p : Int → List En → AV) : List AV → List Ob → Br
  | [.agg [.int .i64 bu, .sh (.pair .str (.pair (.int .i64) (.pair (.int .i64) (.pair (.slice (.pair .str .str)) (.pair .str (.pair .str (.pair (.int .i64) (.pair .str (.pair .bool (.pair (.slice (.pair .str .str)) .str)))))))))) l]], [] => .ite (okEs l) (.ret (p bu l) []) .fail
  | _, _ => .fail
def el_s (p : List En → AV) : List AV → List Ob → Br
  | [.sh (.pair .str (.pair (.int .i64) (.pair (.int .i64) (.pair (.slice (.pair .str .str)) (.pair .str (.pair .str (.pair (.int .i64) (.pair .str (.pair .bool (.pair (.slice (.pair .str .str)) .str)))))))))) l], [] => .ite (okEs l) (.ret (p l) []) .fail
  | _, _ => .fail
theorem iCSz_okQ : Sound Kx 47 (cz_s fun _ l => .int .i64 (totE l)) := by
  refine (iCSz_okOf (φ := fun bu l => .ite (okEs l) (.ret (.int .i64 (totE l)) []) .fail) (fun _ l => l.length + 1) fun bu l r h => ?_).of fun args objs r h => ?_
  · obtain ⟨h1, h2⟩ := ite_some h
    cases h2
    obtain ⟨g1, g2⟩ := okEs_mem h1
    unfold iCSz_run
    rw [iCSz_loop l g1 _ l 0 0 (l.length + 1) (At.start l) (by omega) g2 (by omega) (by omega), Int.zero_add]
  · unfold cz_s at h; split at h
    · exact h
    · cases h
theorem sCSz_okQ : Sound Kx 44 (el_s fun l => .int .i64 (totE l)) := by
  refine (sCSz_okOf (φ := fun l => .ite (okEs l) (.ret (.int .i64 (totE l)) []) .fail) (fun l => l.length + 1) fun l r h => ?_).of fun args objs r h => ?_
  · obtain ⟨h1, h2⟩ := ite_some h
    cases h2
    obtain ⟨g1, g2⟩ := okEs_mem h1
    unfold sCSz_run
    rw [sCSz_loop l g1 _ l 0 0 (l.length + 1) (At.start l) (by omega) g2 (by omega) (by omega), Int.zero_add]
  · unfold el_s at h; split at h
    · exact h
    · cases h

def totW : List En → Int
  | [] => 0
  | e :: r => enW e + totW r
theorem enW_nn (e : En) : 0 ≤ enW e := by
  have h1 := totF_nn e.2.2.2.1
  have h2 := msgW_nn e.2.2.2.2.1 e.2.2.2.2.2.1 e.2.2.2.2.2.2.2.1 e.2.2.2.2.2.2.2.2.2.1 e.2.2.2.2.2.2.2.2.2.2
  unfold enW; omega
theorem totW_nn : ∀ l, 0 ≤ totW l
  | [] => Int.le_refl 0
  | e :: r => by have := totW_nn r; have := enW_nn e; simp only [totW]; omega
def smEs (l : List En) : Bool := decide (l.length ≤ 4611686018427387904) && l.all smE
def szEs (l : List En) (left : Int) : Int := bif decide ((l.length : Int) + totW l ≤ left) then left - ((l.length : Int) + totW l) else -1
theorem szEntryS_loop (l : List En) (hl : l.length ≤ 4611686018427387904) (ka kb : Int → Option Rs) : ∀ (r : List En) (i left : Int) (n : Nat), At l i r → r.length < n → (∀ e ∈ r, smE e = true) → 0 ≤ left → left ≤ 1048576 →
    szEntryS_F5 n l left i ka kb = bif decide (totW r ≤ left) then kb (left - totW r) else ka (-1) := by
  intro r; induction r with
  | nil =>
    intro i left n h hn hf h0 h1; obtain ⟨n, rfl⟩ := fuel hn; unfold szEntryS_F5 szEntryS_T5
    have e : decide (totW [] ≤ left) = true := decide_eq_true h0
    simp only [h.dge, cond_false, e, cond_true]; simp only [totW, Int.sub_zero]
  | cons e r ih =>
    intro i left n h hn hf h0 h1; obtain ⟨n, rfl⟩ := fuel hn
    have hs := hf e (List.mem_cons_self ..)
    have hk : okLeft left = true := by simp only [okLeft, Bool.and_eq_true, decide_eq_true_eq]; omega
    have hw := enW_nn e
    have ht := totW_nn r
    simp only [List.length_cons] at hn
    unfold szEntryS_F5 szEntryS_T5
    simp only [h.dlt, h.dnn, h.get, cond_true, h.next hl, en_eta, hs, hk, Bool.and_self]
    unfold szM
    by_cases c : enW e ≤ left
    · simp only [decide_eq_true c, cond_true]
      rw [decide_eq_false (show ¬ left - enW e < 0 by omega), cond_false, ih (i + 1) _ n h.step (by omega) (fun x hx => hf x (List.mem_cons_of_mem _ hx)) (by omega) (by omega)]
      simp only [totW]
      have e1 : decide (totW r ≤ left - enW e) = decide (enW e + totW r ≤ left) := by rw [Bool.eq_iff_iff, decide_eq_true_eq, decide_eq_true_eq]; omega
      rw [e1, show left - enW e - totW r = left - (enW e + totW r) by omega]
      rfl
    · simp only [decide_eq_false c, cond_false]
      rw [show decide ((-1 : Int) < 0) = true from rfl, cond_true, decide_eq_false (show ¬ totW (e :: r) ≤ left by simp only [totW]; omega), cond_false]
def sz2_s : List AV → List Ob → Br
  | [.sh (.pair .str (.pair (.int .i64) (.pair (.int .i64) (.pair (.slice (.pair .str .str)) (.pair .str (.pair .str (.pair (.int .i64) (.pair .str (.pair .bool (.pair (.slice (.pair .str .str)) .str)))))))))) l, .int .i64 left], [] => .ite (smEs l && okLeft left) (.ret (.int .i64 (szEs l left)) []) .fail
  | _, _ => .fail
theorem smEs_mem {l : List En} (h : smEs l = true) : l.length ≤ 4611686018427387904 ∧ ∀ e ∈ l, smE e = true := by
  unfold smEs at h
  simp only [Bool.and_eq_true, decide_eq_true_eq, List.all_eq_true] at h
  exact h
theorem szEntryS_okQ : Sound Kx 43 sz2_s := by
  refine (szEntryS_okOf (φ := fun l left => .ite (smEs l && okLeft left) (.ret (.int .i64 (szEs l left)) []) .fail) (fun l _ => l.length + 1) fun l left r h => ?_).of fun args objs r h => ?_
  · obtain ⟨h1, h2⟩ := ite_some h
    cases h2
    rw [Bool.and_eq_true] at h1
    obtain ⟨g1, g2⟩ := smEs_mem h1.1
    have h0 := h1.2
    simp only [okLeft, Bool.and_eq_true, decide_eq_true_eq] at h0
    have ht := totW_nn l
    unfold szEntryS_run szEs
    rw [w64 (by omega) (by omega)]
    by_cases c : left - (l.length : Int) < 0
    · rw [decide_eq_true c, decide_eq_false (by omega)]; rfl
    · rw [decide_eq_false c, cond_false, szEntryS_loop l g1 _ _ l 0 _ _ (At.start l) (by omega) g2 (by omega) (by omega)]
      have e1 : decide (totW l ≤ left - (l.length : Int)) = decide ((l.length : Int) + totW l ≤ left) := by rw [Bool.eq_iff_iff, decide_eq_true_eq, decide_eq_true_eq]; omega
      rw [e1, show left - (l.length : Int) - totW l = left - ((l.length : Int) + totW l) by omega]
      cases decide ((l.length : Int) + totW l ≤ left) <;> rfl
  · unfold sz2_s at h; split at h
    · exact h
    · cases h
def eqEsb : List En → List En → Bool
  | [], [] => true
  | a :: r, b :: s => eqEb a b && eqEsb r s
  | _, _ => false
theorem eqEsb_self : ∀ l : List En, eqEsb l l = true
  | [] => rfl
  | a :: r => by unfold eqEsb; rw [eqEb_self, eqEsb_self r]; rfl
theorem eqEb_eq {a b : En} (h : eqEb a b = true) : a = b := by
  obtain ⟨ur, t1, t2, ak, me, ta, st, re, ba, fs, bo⟩ := a
  obtain ⟨ur', t1', t2', ak', me', ta', st', re', ba', fs', bo'⟩ := b
  simp only [eqEb, Bool.and_eq_true, decide_eq_true_eq] at h
  obtain ⟨⟨⟨⟨⟨⟨⟨⟨⟨⟨rfl, rfl⟩, rfl⟩, rfl⟩, rfl⟩, rfl⟩, rfl⟩, rfl⟩, rfl⟩, rfl⟩, rfl⟩ := h
  rfl
theorem eqEsb_eq : ∀ (a b : List En), eqEsb a b = true → a = b
  | [], [], _ => rfl
  | [], _ :: _, h => by cases h
  | _ :: _, [], h => by cases h
  | a :: r, b :: s, h => by
    unfold eqEsb at h
    rw [Bool.and_eq_true] at h
    rw [eqEb_eq h.1, eqEsb_eq r s h.2]
def shE (e : En) : Bool := decide (e.2.2.2.1.length ≤ 1048576) && decide (e.2.2.2.2.2.2.2.2.2.1.length ≤ 1048576)
def shEs (l : List En) : Bool := decide (l.length ≤ 1048576) && l.all shE
theorem shEs_mem {l : List En} (h : shEs l = true) : l.length ≤ 1048576 ∧ ∀ e ∈ l, shE e = true := by
  unfold shEs at h
  simp only [Bool.and_eq_true, decide_eq_true_eq, List.all_eq_true] at h
  exact h
theorem eqEntryS_loop (l : List En) (hl : l.length ≤ 1048576) (k : Option Rs) : ∀ (r : List En) (i : Int) (n : Nat), At l i r → r.length < n → (∀ e ∈ r, shE e = true) →
    eqEntryS_F4 n l l i k = k := by
  intro r; induction r with
  | nil => intro i n h hn hf; obtain ⟨n, rfl⟩ := fuel hn; unfold eqEntryS_F4 eqEntryS_T4; simp only [h.dge, cond_false]
  | cons e r ih =>
    intro i n h hn hf; obtain ⟨n, rfl⟩ := fuel hn
    have he := hf e (List.mem_cons_self ..)
    unfold shE at he
    rw [Bool.and_eq_true] at he
    simp only [List.length_cons] at hn
    have hr := ih (i + 1) n h.step (by omega) (fun x hx => hf x (List.mem_cons_of_mem _ hx))
    unfold eqEntryS_F4 eqEntryS_T4
    simp only [h.dlt, h.dnn, h.get, cond_true, h.next (show l.length ≤ 4611686018427387904 by omega), en_eta, eqEb_self, he.1, he.2, Bool.and_self, Bool.not_true, cond_false, hr]
def eq2_s : List AV → List Ob → Br
  | [.sh (.pair .str (.pair (.int .i64) (.pair (.int .i64) (.pair (.slice (.pair .str .str)) (.pair .str (.pair .str (.pair (.int .i64) (.pair .str (.pair .bool (.pair (.slice (.pair .str .str)) .str)))))))))) a, .sh (.pair .str (.pair (.int .i64) (.pair (.int .i64) (.pair (.slice (.pair .str .str)) (.pair .str (.pair .str (.pair (.int .i64) (.pair .str (.pair .bool (.pair (.slice (.pair .str .str)) .str)))))))))) b], [] => .ite (eqEsb a b && shEs a) (.ret (.bool true) []) .fail
  | _, _ => .fail
theorem eqEntryS_okQ : Sound Kx 48 eq2_s := by
  refine (eqEntryS_okOf (φ := fun a b => .ite (eqEsb a b && shEs a) (.ret (.bool true) []) .fail) (fun a _ => a.length + 1) fun a b r h => ?_).of fun args objs r h => ?_
  · obtain ⟨h1, h2⟩ := ite_some h
    cases h2
    rw [Bool.and_eq_true] at h1
    obtain rfl := eqEsb_eq a b h1.1
    obtain ⟨g1, g2⟩ := shEs_mem h1.2
    unfold eqEntryS_run
    rw [decide_eq_true rfl]
    simp only [Bool.not_true, cond_false]
    exact eqEntryS_loop a g1 _ a 0 _ (At.start a) (by omega) g2
  · unfold eq2_s at h; split at h
    · exact h
    · cases h
theorem toEntryS_loop (l : List En) (hl : l.length ≤ 4611686018427387904) (k : List En → Option Rs) : ∀ (r pre : List En) (i : Int) (n : Nat), l = pre ++ r → i = pre.length → r.length < n → (∀ e ∈ r, shE e = true) →
    toEntryS_F3 n l i (pre ++ List.replicate r.length ([], 0, 0, [], [], [], 0, [], false, [], [])) k = k l := by
  intro r; induction r with
  | nil =>
    intro pre i n h hi hn hf; obtain ⟨n, rfl⟩ := fuel hn; subst h; subst hi
    have e : decide ((pre.length : Int) < ((pre ++ ([] : List En)).length : Int)) = false := by simp
    unfold toEntryS_F3 toEntryS_T3; simp only [e, cond_false]; rfl
  | cons a r ih =>
    intro pre i n h hi hn hf; obtain ⟨n, rfl⟩ := fuel hn
    have ha : At l i (a :: r) := ⟨pre, h, hi⟩
    have he := hf a (List.mem_cons_self ..)
    unfold shE at he
    rw [Bool.and_eq_true] at he
    have e1 : decide (i < ((pre ++ List.replicate (a :: r).length (([], 0, 0, [], [], [], 0, [], false, [], []) : En)).length : Int)) = true := decide_eq_true (by rw [hi]; simp; omega)
    unfold toEntryS_F3 toEntryS_T3; simp only [ha.dlt, ha.dnn, ha.get, cond_true, ha.next hl, e1, he.1, he.2, en_eta, Bool.and_self]
    have := ih (pre ++ [a]) (i + 1) n (by rw [h]; simp) (by rw [hi]; simp) (by simp at hn; omega) (fun x hx => hf x (List.mem_cons_of_mem _ hx))
    rw [← this]
    congr 1
    rw [hi]
    simp only [List.length_cons, List.replicate_succ, Int.toNat_natCast, set_mid]
    simp
def to2_s : List AV → List Ob → Br
  | [.sh (.pair .str (.pair (.int .i64) (.pair (.int .i64) (.pair (.slice (.pair .str .str)) (.pair .str (.pair .str (.pair (.int .i64) (.pair .str (.pair .bool (.pair (.slice (.pair .str .str)) .str)))))))))) l], [] => .ite (shEs l) (.ret (.ref 0 0) [.arr (.pair .str (.pair (.int .i64) (.pair (.int .i64) (.pair (.slice (.pair .str .str)) (.pair .str (.pair .str (.pair (.int .i64) (.pair .str (.pair .bool (.pair (.slice (.pair .str .str)) .str)))))))))) 0 false l]) .fail
  | _, _ => .fail
theorem toEntryS_okQ : Sound Kx 45 to2_s := by
  refine (toEntryS_okOf (φ := fun l => .ite (shEs l) (.ret (.ref 0 0) [.arr (.pair .str (.pair (.int .i64) (.pair (.int .i64) (.pair (.slice (.pair .str .str)) (.pair .str (.pair .str (.pair (.int .i64) (.pair .str (.pair .bool (.pair (.slice (.pair .str .str)) .str)))))))))) 0 false l]) .fail) (fun l => l.length + 1) fun l r h => ?_).of fun args objs r h => ?_
  · obtain ⟨h1, h2⟩ := ite_some h
    cases h2
    obtain ⟨g1, g2⟩ := shEs_mem h1
    unfold toEntryS_run
    have e1 : decide ((0 : Int) ≤ (l.length : Int)) = true := by simp
    have e2 : decide ((l.length : Int) * 160 ≤ 140737488355328) = true := decide_eq_true (by omega)
    simp only [e1, e2, decide_true, cond_true, Int.toNat_natCast]
    exact toEntryS_loop l (by omega) _ l [] 0 _ rfl rfl (by omega) g2
  · unfold to2_s at h; split at h
    · exact h
    · cases h
end
end Go.Proofs.YtmmjaomfonknnaaGreatDoor.Ev

namespace Go.Proofs.YtmmjaomfonknnaaGreatDoor.Ev
open Go Go.RowKit
set_option linter.unusedVariables false
set_option linter.unusedSimpArgs false
noncomputable section

def iBudget_O : Opt := { cons := [], keepNil := false, mutF := [], live := [], outs := [] }
def iBudget_C : Spec := (add noS 84 iwithin_s)
theorem iBudget_C_ok : ∀ fn, Sound Kx fn (iBudget_C fn) := (sound_add (sound_no Kx) iwithin_ok)
def iBudget_br (n : Int) : Br := (Br.ite (decide ((0 : Int) ≤ n)) (Br.ret (AV.bool (decide (n ≤ (20000 : Int)))) ([] : List Ob)) (Br.ret (AV.bool false) ([] : List Ob)))
theorem iBudget_run (n : Int) : runF Kx iBudget_C iBudget_O 1 Tryz.f46 ([.int .i64 n]) ([]) = (iBudget_br n).val := by kernel_rfl
def iBudget_s : List AV → List Ob → Br
  | [.int .i64 n], [] => iBudget_br n
  | _, _ => .fail
theorem iBudget_ok : Sound Kx 46 iBudget_s := by
  refine sound_run (C := iBudget_C) (O := iBudget_O) KOk iBudget_C_ok Tryz.func46 (by kernel_rfl) fun args objs res os h => ?_
  unfold iBudget_s at h
  split at h
  · exact ⟨1, (iBudget_run _).trans h⟩
  · cases h

def iCOk_O : Opt := { cons := [], keepNil := false, mutF := [], live := [(4, [1, 16, 17, 18])], outs := [(4, [1, 2])] }
def iCOk_C : Spec := (add (add (add noS 46 iBudget_s) 40 ek_s) 47 (cz_s fun _ l => .int .i64 (totE l)))
theorem iCOk_C_ok : ∀ fn, Sound Kx fn (iCOk_C fn) := (sound_add (sound_add (sound_add (sound_no Kx) iBudget_ok) iEntryOk_okQ) iCSz_okQ)
def iCOk_T4 (v4x0 : (List En)) (v4x1 : Int) (v4x2 : Int) (v4x3 : Int) (v4x4 : (List En)) (kR4 : (List En) → Int → Int → Int → (List En) → Option Rs) (k4e0 : Int → (List En) → Option Rs) (k4e1 : Int → (List En) → Option Rs) : Option Rs :=
  (bif (decide (v4x2 < v4x1)) then (bif (decide ((0 : Int) ≤ v4x2)) then (bif (decide (v4x2 < ((List.length v4x0) : Int))) then (bif (isM (List.getD v4x0 (Int.toNat v4x2) en0).1) then (bif (!(entP ((List.getD v4x0 (Int.toNat v4x2) en0).1, ((List.getD v4x0 (Int.toNat v4x2) en0).2.1, ((List.getD v4x0 (Int.toNat v4x2) en0).2.2.1, ((List.getD v4x0 (Int.toNat v4x2) en0).2.2.2.1, ((List.getD v4x0 (Int.toNat v4x2) en0).2.2.2.2.1, ((List.getD v4x0 (Int.toNat v4x2) en0).2.2.2.2.2.1, ((List.getD v4x0 (Int.toNat v4x2) en0).2.2.2.2.2.2.1, ((List.getD v4x0 (Int.toNat v4x2) en0).2.2.2.2.2.2.2.1, ((List.getD v4x0 (Int.toNat v4x2) en0).2.2.2.2.2.2.2.2.1, ((List.getD v4x0 (Int.toNat v4x2) en0).2.2.2.2.2.2.2.2.2.1, (List.getD v4x0 (Int.toNat v4x2) en0).2.2.2.2.2.2.2.2.2.2)))))))))))) then (k4e0 v4x3 v4x4) else (kR4 v4x0 v4x1 (wk64 (v4x2 + (1 : Int))) v4x3 v4x4)) else (none)) else (none)) else (none)) else (k4e1 v4x3 v4x4))
def iCOk_F4 : Nat → (List En) → Int → Int → Int → (List En) → (Int → (List En) → Option Rs) → (Int → (List En) → Option Rs) → Option Rs
  | 0, _, _, _, _, _, _, _ => none
  | n + 1, v4x0, v4x1, v4x2, v4x3, v4x4, k4e0, k4e1 => iCOk_T4 v4x0 v4x1 v4x2 v4x3 v4x4 (fun v4x0 v4x1 v4x2 v4x3 v4x4 => iCOk_F4 n v4x0 v4x1 v4x2 v4x3 v4x4 k4e0 k4e1) k4e0 k4e1
def iCOk_h4 (v4x0 : (List En)) (v4x1 : Int) (v4x2 : Int) (v4x3 : Int) (v4x4 : (List En)) : St := (St.mk (slots 0 31 [(1, (AV.ptr (128 : Nat) (0 : Nat))), (16, (AV.sh EnT v4x0)), (17, (AV.int .i64 v4x1)), (18, (AV.int .i64 v4x2))]) (((128 : Nat), (Ob.var ((AV.int .i64 v4x3) :: ((AV.sh EnT v4x4) :: ([] : List AV))))) :: ([] : (List (Nat × (Ob))))))
def iCOk_x4e0 (x4x0x0 : Int) (x4x0x1 : (List En)) : St := (St.mk (slots 0 31 [(1, (AV.ptr (128 : Nat) (0 : Nat))), (2, (AV.bool false))]) (((128 : Nat), (Ob.var ((AV.int .i64 x4x0x0) :: ((AV.sh EnT x4x0x1) :: ([] : List AV))))) :: ([] : (List (Nat × (Ob))))))
def iCOk_x4e1 (x4x1x0 : Int) (x4x1x1 : (List En)) : St := (St.mk (slots 0 31 [(1, (AV.ptr (128 : Nat) (0 : Nat)))]) (((128 : Nat), (Ob.var ((AV.int .i64 x4x1x0) :: ((AV.sh EnT x4x1x1) :: ([] : List AV))))) :: ([] : (List (Nat × (Ob))))))
noncomputable def iCOk_b4 : Code := codeAt (codeOf Tryz.f18) [1, 1, 0, 1, 0, 0]
def iCOk_L4 (N : Nat) (st : St) (k : Ex → St → Option Rs) : Option Rs := match takeF [1, 16, 17, 18] 0 31 st.env, st.objs with
  | some [.ptr 128 0, .sh EnT v4x0, .int .i64 v4x1, .int .i64 v4x2], [(128, .var [.int .i64 v4x3, .sh EnT v4x4])] => iCOk_F4 N v4x0 v4x1 v4x2 v4x3 v4x4 (fun x4x0x0 x4x0x1 => k Ex.ret (iCOk_x4e0 x4x0x0 x4x0x1)) (fun x4x1x0 x4x1x1 => k (Ex.exit (0 : Nat)) (iCOk_x4e1 x4x1x0 x4x1x1))
  | _, _ => none
def iCOk_L (N : Nat) : Lam := fun j st k => match j with
  | 4 => iCOk_L4 N st k
  | _ => none
theorem iCOk_round4 (N : Nat) (again : St → Option Rs) (k : Ex → St → Option Rs) (wv4x0 : (List En)) (wv4x1 : Int) (wv4x2 : Int) (wv4x3 : Int) (wv4x4 : (List En)) (v4x0 : (List En)) (v4x1 : Int) (v4x2 : Int) (v4x3 : Int) (v4x4 : (List En)) :
    roundK 0 (fun st k => evL Kx iCOk_C iCOk_O 0 (iCOk_L N) iCOk_b4 st k) (iCOk_h4 wv4x0 wv4x1 wv4x2 wv4x3 wv4x4).env again (iCOk_h4 v4x0 v4x1 v4x2 v4x3 v4x4) (outK iCOk_O 0 iCOk_b4 k) = iCOk_T4 v4x0 v4x1 v4x2 v4x3 v4x4 (fun v4x0 v4x1 v4x2 v4x3 v4x4 => again (iCOk_h4 v4x0 v4x1 v4x2 v4x3 v4x4)) (fun x4x0x0 x4x0x1 => k Ex.ret (iCOk_x4e0 x4x0x0 x4x0x1)) (fun x4x1x0 x4x1x1 => k (Ex.exit (0 : Nat)) (iCOk_x4e1 x4x1x0 x4x1x1)) := by kernel_rfl
theorem iCOk_loop4 (N : Nat) (k : Ex → St → Option Rs) (wv4x0 : (List En)) (wv4x1 : Int) (wv4x2 : Int) (wv4x3 : Int) (wv4x4 : (List En)) : ∀ (n : Nat) (v4x0 : (List En)) (v4x1 : Int) (v4x2 : Int) (v4x3 : Int) (v4x4 : (List En)),
    loopK 0 (fun st k => evL Kx iCOk_C iCOk_O 0 (iCOk_L N) iCOk_b4 st k) (iCOk_h4 wv4x0 wv4x1 wv4x2 wv4x3 wv4x4).env n (iCOk_h4 v4x0 v4x1 v4x2 v4x3 v4x4) (outK iCOk_O 0 iCOk_b4 k) = iCOk_F4 n v4x0 v4x1 v4x2 v4x3 v4x4 (fun x4x0x0 x4x0x1 => k Ex.ret (iCOk_x4e0 x4x0x0 x4x0x1)) (fun x4x1x0 x4x1x1 => k (Ex.exit (0 : Nat)) (iCOk_x4e1 x4x1x0 x4x1x1))
  | 0, _, _, _, _, _ => rfl
  | n + 1, v4x0, v4x1, v4x2, v4x3, v4x4 => by
    rw [loopK_succ, iCOk_round4]
    simp only [iCOk_loop4 N k wv4x0 wv4x1 wv4x2 wv4x3 wv4x4 n]
    rfl
theorem iCOk_at4 (N : Nat) {s : St} {k : Ex → St → Option Rs} {r : Rs} (h : iCOk_L4 N s k = some r) : ∃ (v4x0 : (List En)) (v4x1 : Int) (v4x2 : Int) (v4x3 : Int) (v4x4 : (List En)), s = (iCOk_h4 v4x0 v4x1 v4x2 v4x3 v4x4) ∧ iCOk_F4 N v4x0 v4x1 v4x2 v4x3 v4x4 (fun x4x0x0 x4x0x1 => k Ex.ret (iCOk_x4e0 x4x0x0 x4x0x1)) (fun x4x1x0 x4x1x1 => k (Ex.exit (0 : Nat)) (iCOk_x4e1 x4x1x0 x4x1x1)) = some r := by
  cases s with | mk env objs =>
  unfold iCOk_L4 at h
  split at h
  · rename_i e1 e2
    have e3 := takeF_slots _ _ _ _ e1
    simp only at e2 e3
    subst e2 e3
    exact ⟨_, _, _, _, _, rfl, h⟩
  · cases h
theorem iCOk_in4 : loops iCOk_b4 = [] := by kernel_rfl
theorem iCOk_lid4 : lid iCOk_b4 = 4 := by kernel_rfl
theorem iCOk_ok4 (N : Nat) : OkL Kx iCOk_C iCOk_O 0 N (iCOk_L N) iCOk_b4 := by
  intro s k k' r hk h
  rw [iCOk_lid4] at h
  obtain ⟨v4x0, v4x1, v4x2, v4x3, v4x4, rfl, h⟩ := iCOk_at4 N h
  refine loopL (Λ := iCOk_L N) iCOk_b4 ?_ N hk ((iCOk_loop4 N k v4x0 v4x1 v4x2 v4x3 v4x4 N v4x0 v4x1 v4x2 v4x3 v4x4).trans h)
  rw [iCOk_in4]
  exact fun _ h => nomatch h
def iCOk_run (N : Nat) (bu : Int) (l : List En) : Option Rs := (bif (decide ((0 : Int) ≤ bu)) then (bif (!(decide (bu ≤ (20000 : Int)))) then (some ((AV.bool false), ([] : List Ob))) else (bif (decide ((30 : Int) < ((List.length l) : Int))) then (some ((AV.bool false), ([] : List Ob))) else (iCOk_F4 N l ((List.length l) : Int) (0 : Int) bu l (fun x4x0x0 => (fun x4x0x1 => (some ((AV.bool false), ([] : List Ob))))) (fun x4x1x0 => (fun x4x1x1 => (bif (okEs x4x1x1) then (some ((AV.bool (decide ((totE x4x1x1) ≤ x4x1x0))), ([] : List Ob))) else (none))))))) else (some ((AV.bool false), ([] : List Ob))))
theorem iCOk_runL (N : Nat) (bu : Int) (l : List En) : runL Kx iCOk_C iCOk_O (iCOk_L N) Tryz.f18 ([.agg [.int .i64 bu, .sh EnT l]]) ([]) = iCOk_run N bu l := by kernel_rfl
theorem iCOk_body : Tryz.f18.body = some (codeOf Tryz.f18) := by kernel_rfl
theorem iCOk_loops : loops (codeOf Tryz.f18) = [iCOk_b4] := by kernel_rfl
theorem iCOk_ev (N : Nat) (bu : Int) (l : List En) {res_ : Rs} (hyp_ : iCOk_run N bu l = some res_) : ∃ n_, runF Kx iCOk_C iCOk_O n_ Tryz.f18 ([.agg [.int .i64 bu, .sh EnT l]]) ([]) = some res_ :=
  ⟨N, runL_runF iCOk_body (by rw [iCOk_loops]; exact List.forall_mem_cons.2 ⟨iCOk_ok4 N, fun _ h => nomatch h⟩) ((iCOk_runL N bu l).trans hyp_)⟩
def iCOk_sOf (φ : Int → (List En) → Br) : List AV → List Ob → Br
  | [.agg [.int .i64 bu, .sh EnT l]], [] => φ bu l
  | _, _ => .fail
theorem iCOk_okOf {φ : Int → (List En) → Br} (fu : Int → (List En) → Nat) (hv : ∀ bu l res_, (φ bu l).val = some res_ → iCOk_run (fu bu l) bu l = some res_) : Sound Kx 18 (iCOk_sOf φ) := by
  refine sound_run (C := iCOk_C) (O := iCOk_O) KOk iCOk_C_ok Tryz.func18 (by kernel_rfl) fun args objs res os h => ?_
  unfold iCOk_sOf at h
  split at h
  · exact iCOk_ev _ _ _ (hv _ _ _ h)
  · cases h

def sCOk_O : Opt := { cons := [], keepNil := false, mutF := [], live := [(4, [1, 3])], outs := [(4, [1, 2])] }
def sCOk_C : Spec := (add (add noS 37 ek_s) 44 (el_s fun l => .int .i64 (totE l)))
theorem sCOk_C_ok : ∀ fn, Sound Kx fn (sCOk_C fn) := (sound_add (sound_add (sound_no Kx) sEntryOk_okQ) sCSz_okQ)
def sCOk_T4 (v4x0 : Int) (v4x1 : Int) (v4x2 : (List En)) (kR4 : Int → Int → (List En) → Option Rs) (k4e0 : Int → (List En) → Option Rs) (k4e1 : Int → (List En) → Option Rs) : Option Rs :=
  (bif (decide (v4x0 < ((List.length v4x2) : Int))) then (bif (decide ((0 : Int) ≤ v4x0)) then (bif (decide (v4x0 < ((List.length v4x2) : Int))) then (bif (isM (List.getD v4x2 (Int.toNat v4x0) en0).1) then (bif (!(entP ((List.getD v4x2 (Int.toNat v4x0) en0).1, ((List.getD v4x2 (Int.toNat v4x0) en0).2.1, ((List.getD v4x2 (Int.toNat v4x0) en0).2.2.1, ((List.getD v4x2 (Int.toNat v4x0) en0).2.2.2.1, ((List.getD v4x2 (Int.toNat v4x0) en0).2.2.2.2.1, ((List.getD v4x2 (Int.toNat v4x0) en0).2.2.2.2.2.1, ((List.getD v4x2 (Int.toNat v4x0) en0).2.2.2.2.2.2.1, ((List.getD v4x2 (Int.toNat v4x0) en0).2.2.2.2.2.2.2.1, ((List.getD v4x2 (Int.toNat v4x0) en0).2.2.2.2.2.2.2.2.1, ((List.getD v4x2 (Int.toNat v4x0) en0).2.2.2.2.2.2.2.2.2.1, (List.getD v4x2 (Int.toNat v4x0) en0).2.2.2.2.2.2.2.2.2.2)))))))))))) then (k4e0 v4x1 v4x2) else (kR4 (wk64 (v4x0 + (1 : Int))) v4x1 v4x2)) else (none)) else (none)) else (none)) else (k4e1 v4x1 v4x2))
def sCOk_F4 : Nat → Int → Int → (List En) → (Int → (List En) → Option Rs) → (Int → (List En) → Option Rs) → Option Rs
  | 0, _, _, _, _, _ => none
  | n + 1, v4x0, v4x1, v4x2, k4e0, k4e1 => sCOk_T4 v4x0 v4x1 v4x2 (fun v4x0 v4x1 v4x2 => sCOk_F4 n v4x0 v4x1 v4x2 k4e0 k4e1) k4e0 k4e1
def sCOk_h4 (v4x0 : Int) (v4x1 : Int) (v4x2 : (List En)) : St := (St.mk (slots 0 38 [(1, (AV.ptr (128 : Nat) (0 : Nat))), (3, (AV.int .i64 v4x0))]) (((128 : Nat), (Ob.var ((AV.int .i64 v4x1) :: ((AV.sh EnT v4x2) :: ([] : List AV))))) :: ([] : (List (Nat × (Ob))))))
def sCOk_x4e0 (x4x0x0 : Int) (x4x0x1 : (List En)) : St := (St.mk (slots 0 38 [(1, (AV.ptr (128 : Nat) (0 : Nat))), (2, (AV.bool false))]) (((128 : Nat), (Ob.var ((AV.int .i64 x4x0x0) :: ((AV.sh EnT x4x0x1) :: ([] : List AV))))) :: ([] : (List (Nat × (Ob))))))
def sCOk_x4e1 (x4x1x0 : Int) (x4x1x1 : (List En)) : St := (St.mk (slots 0 38 [(1, (AV.ptr (128 : Nat) (0 : Nat)))]) (((128 : Nat), (Ob.var ((AV.int .i64 x4x1x0) :: ((AV.sh EnT x4x1x1) :: ([] : List AV))))) :: ([] : (List (Nat × (Ob))))))
noncomputable def sCOk_b4 : Code := codeAt (codeOf Tryz.f16) [1, 1, 0, 1, 0, 0]
def sCOk_L4 (N : Nat) (st : St) (k : Ex → St → Option Rs) : Option Rs := match takeF [1, 3] 0 38 st.env, st.objs with
  | some [.ptr 128 0, .int .i64 v4x0], [(128, .var [.int .i64 v4x1, .sh EnT v4x2])] => sCOk_F4 N v4x0 v4x1 v4x2 (fun x4x0x0 x4x0x1 => k Ex.ret (sCOk_x4e0 x4x0x0 x4x0x1)) (fun x4x1x0 x4x1x1 => k (Ex.exit (0 : Nat)) (sCOk_x4e1 x4x1x0 x4x1x1))
  | _, _ => none
def sCOk_L (N : Nat) : Lam := fun j st k => match j with
  | 4 => sCOk_L4 N st k
  | _ => none
theorem sCOk_round4 (N : Nat) (again : St → Option Rs) (k : Ex → St → Option Rs) (wv4x0 : Int) (wv4x1 : Int) (wv4x2 : (List En)) (v4x0 : Int) (v4x1 : Int) (v4x2 : (List En)) :
    roundK 0 (fun st k => evL Kx sCOk_C sCOk_O 0 (sCOk_L N) sCOk_b4 st k) (sCOk_h4 wv4x0 wv4x1 wv4x2).env again (sCOk_h4 v4x0 v4x1 v4x2) (outK sCOk_O 0 sCOk_b4 k) = sCOk_T4 v4x0 v4x1 v4x2 (fun v4x0 v4x1 v4x2 => again (sCOk_h4 v4x0 v4x1 v4x2)) (fun x4x0x0 x4x0x1 => k Ex.ret (sCOk_x4e0 x4x0x0 x4x0x1)) (fun x4x1x0 x4x1x1 => k (Ex.exit (0 : Nat)) (sCOk_x4e1 x4x1x0 x4x1x1)) := by kernel_rfl
theorem sCOk_loop4 (N : Nat) (k : Ex → St → Option Rs) (wv4x0 : Int) (wv4x1 : Int) (wv4x2 : (List En)) : ∀ (n : Nat) (v4x0 : Int) (v4x1 : Int) (v4x2 : (List En)),
    loopK 0 (fun st k => evL Kx sCOk_C sCOk_O 0 (sCOk_L N) sCOk_b4 st k) (sCOk_h4 wv4x0 wv4x1 wv4x2).env n (sCOk_h4 v4x0 v4x1 v4x2) (outK sCOk_O 0 sCOk_b4 k) = sCOk_F4 n v4x0 v4x1 v4x2 (fun x4x0x0 x4x0x1 => k Ex.ret (sCOk_x4e0 x4x0x0 x4x0x1)) (fun x4x1x0 x4x1x1 => k (Ex.exit (0 : Nat)) (sCOk_x4e1 x4x1x0 x4x1x1))
  | 0, _, _, _ => rfl
  | n + 1, v4x0, v4x1, v4x2 => by
    rw [loopK_succ, sCOk_round4]
    simp only [sCOk_loop4 N k wv4x0 wv4x1 wv4x2 n]
    rfl
theorem sCOk_at4 (N : Nat) {s : St} {k : Ex → St → Option Rs} {r : Rs} (h : sCOk_L4 N s k = some r) : ∃ (v4x0 : Int) (v4x1 : Int) (v4x2 : (List En)), s = (sCOk_h4 v4x0 v4x1 v4x2) ∧ sCOk_F4 N v4x0 v4x1 v4x2 (fun x4x0x0 x4x0x1 => k Ex.ret (sCOk_x4e0 x4x0x0 x4x0x1)) (fun x4x1x0 x4x1x1 => k (Ex.exit (0 : Nat)) (sCOk_x4e1 x4x1x0 x4x1x1)) = some r := by
  cases s with | mk env objs =>
  unfold sCOk_L4 at h
  split at h
  · rename_i e1 e2
    have e3 := takeF_slots _ _ _ _ e1
    simp only at e2 e3
    subst e2 e3
    exact ⟨_, _, _, rfl, h⟩
  · cases h
theorem sCOk_in4 : loops sCOk_b4 = [] := by kernel_rfl
theorem sCOk_lid4 : lid sCOk_b4 = 4 := by kernel_rfl
theorem sCOk_ok4 (N : Nat) : OkL Kx sCOk_C sCOk_O 0 N (sCOk_L N) sCOk_b4 := by
  intro s k k' r hk h
  rw [sCOk_lid4] at h
  obtain ⟨v4x0, v4x1, v4x2, rfl, h⟩ := sCOk_at4 N h
  refine loopL (Λ := sCOk_L N) sCOk_b4 ?_ N hk ((sCOk_loop4 N k v4x0 v4x1 v4x2 N v4x0 v4x1 v4x2).trans h)
  rw [sCOk_in4]
  exact fun _ h => nomatch h
def sCOk_run (N : Nat) (bu : Int) (l : List En) : Option Rs := (bif (decide (bu < (0 : Int))) then (some ((AV.bool false), ([] : List Ob))) else (bif (decide ((20000 : Int) < bu)) then (some ((AV.bool false), ([] : List Ob))) else (bif (decide ((30 : Int) < ((List.length l) : Int))) then (some ((AV.bool false), ([] : List Ob))) else (sCOk_F4 N (0 : Int) bu l (fun x4x0x0 => (fun x4x0x1 => (some ((AV.bool false), ([] : List Ob))))) (fun x4x1x0 => (fun x4x1x1 => (bif (okEs x4x1x1) then (some ((AV.bool (decide ((totE x4x1x1) ≤ x4x1x0))), ([] : List Ob))) else (none))))))))
theorem sCOk_runL (N : Nat) (bu : Int) (l : List En) : runL Kx sCOk_C sCOk_O (sCOk_L N) Tryz.f16 ([.agg [.int .i64 bu, .sh EnT l]]) ([]) = sCOk_run N bu l := by kernel_rfl
theorem sCOk_body : Tryz.f16.body = some (codeOf Tryz.f16) := by kernel_rfl
theorem sCOk_loops : loops (codeOf Tryz.f16) = [sCOk_b4] := by kernel_rfl
theorem sCOk_ev (N : Nat) (bu : Int) (l : List En) {res_ : Rs} (hyp_ : sCOk_run N bu l = some res_) : ∃ n_, runF Kx sCOk_C sCOk_O n_ Tryz.f16 ([.agg [.int .i64 bu, .sh EnT l]]) ([]) = some res_ :=
  ⟨N, runL_runF sCOk_body (by rw [sCOk_loops]; exact List.forall_mem_cons.2 ⟨sCOk_ok4 N, fun _ h => nomatch h⟩) ((sCOk_runL N bu l).trans hyp_)⟩
def sCOk_sOf (φ : Int → (List En) → Br) : List AV → List Ob → Br
  | [.agg [.int .i64 bu, .sh EnT l]], [] => φ bu l
  | _, _ => .fail
theorem sCOk_okOf {φ : Int → (List En) → Br} (fu : Int → (List En) → Nat) (hv : ∀ bu l res_, (φ bu l).val = some res_ → sCOk_run (fu bu l) bu l = some res_) : Sound Kx 16 (sCOk_sOf φ) := by
  refine sound_run (C := sCOk_C) (O := sCOk_O) KOk sCOk_C_ok Tryz.func16 (by kernel_rfl) fun args objs res os h => ?_
  unfold sCOk_sOf at h
  split at h
  · exact sCOk_ev _ _ _ (hv _ _ _ h)
  · cases h

def szCache_O : Opt := { cons := [], keepNil := false, mutF := [], live := [], outs := [] }
def szCache_C : Spec := (add noS 43 sz2_s)
theorem szCache_C_ok : ∀ fn, Sound Kx fn (szCache_C fn) := (sound_add (sound_no Kx) szEntryS_okQ)
def szCache_br (bu : Int) (l : List En) (left : Int) : Br := (Br.ite ((smEs l) && (okLeft left)) (Br.ite (decide ((szEs l left) < (0 : Int))) (Br.ret (AV.int .i64 (-(1 : Int))) ([] : List Ob)) (Br.ret (AV.int .i64 (szEs l left)) ([] : List Ob))) Br.fail)
theorem szCache_run (bu : Int) (l : List En) (left : Int) : runF Kx szCache_C szCache_O 1 Tryz.f15 ([.agg [.int .i64 bu, .sh EnT l], .int .i64 left]) ([]) = (szCache_br bu l left).val := by kernel_rfl
def szCache_s : List AV → List Ob → Br
  | [.agg [.int .i64 bu, .sh EnT l], .int .i64 left], [] => szCache_br bu l left
  | _, _ => .fail
theorem szCache_ok : Sound Kx 15 szCache_s := by
  refine sound_run (C := szCache_C) (O := szCache_O) KOk szCache_C_ok Tryz.func15 (by kernel_rfl) fun args objs res os h => ?_
  unfold szCache_s at h
  split at h
  · exact ⟨1, (szCache_run _ _ _).trans h⟩
  · cases h

def toCache_O : Opt := { cons := [], keepNil := false, mutF := [], live := [], outs := [] }
def toCache_C : Spec := (add noS 45 to2_s)
theorem toCache_C_ok : ∀ fn, Sound Kx fn (toCache_C fn) := (sound_add (sound_no Kx) toEntryS_okQ)
def toCache_br (bu : Int) (l : List En) : Br := (Br.ite (shEs l) (Br.ret (AV.agg ((AV.int .i64 bu) :: ((AV.ref (0 : Nat) (0 : Nat)) :: ([] : List AV)))) ((Ob.arr EnT (0 : Nat) false l) :: ([] : List Ob))) Br.fail)
theorem toCache_run (bu : Int) (l : List En) : runF Kx toCache_C toCache_O 1 Tryz.f17 ([.agg [.int .i64 bu, .sh EnT l]]) ([]) = (toCache_br bu l).val := by kernel_rfl
def toCache_s : List AV → List Ob → Br
  | [.agg [.int .i64 bu, .sh EnT l]], [] => toCache_br bu l
  | _, _ => .fail
theorem toCache_ok : Sound Kx 17 toCache_s := by
  refine sound_run (C := toCache_C) (O := toCache_O) KOk toCache_C_ok Tryz.func17 (by kernel_rfl) fun args objs res os h => ?_
  unfold toCache_s at h
  split at h
  · exact ⟨1, (toCache_run _ _).trans h⟩
  · cases h

def eqCache_O : Opt := { cons := [], keepNil := false, mutF := [], live := [], outs := [] }
def eqCache_C : Spec := (add noS 48 eq2_s)
theorem eqCache_C_ok : ∀ fn, Sound Kx fn (eqCache_C fn) := (sound_add (sound_no Kx) eqEntryS_okQ)
def eqCache_br (bu : Int) (l : List En) (bu' : Int) (l' : List En) : Br := (Br.ite (!(decide (bu = bu'))) (Br.ret (AV.bool false) ([] : List Ob)) (Br.ite ((eqEsb l l') && (shEs l)) (Br.ret (AV.bool true) ([] : List Ob)) Br.fail))
theorem eqCache_run (bu : Int) (l : List En) (bu' : Int) (l' : List En) : runF Kx eqCache_C eqCache_O 1 Tryz.f19 ([.agg [.int .i64 bu, .sh EnT l], .agg [.int .i64 bu', .sh EnT l']]) ([]) = (eqCache_br bu l bu' l').val := by kernel_rfl
def eqCache_s : List AV → List Ob → Br
  | [.agg [.int .i64 bu, .sh EnT l], .agg [.int .i64 bu', .sh EnT l']], [] => eqCache_br bu l bu' l'
  | _, _ => .fail
theorem eqCache_ok : Sound Kx 19 eqCache_s := by
  refine sound_run (C := eqCache_C) (O := eqCache_O) KOk eqCache_C_ok Tryz.func19 (by kernel_rfl) fun args objs res os h => ?_
  unfold eqCache_s at h
  split at h
  · exact ⟨1, (eqCache_run _ _ _ _).trans h⟩
  · cases h

end
end Go.Proofs.YtmmjaomfonknnaaGreatDoor.Ev

namespace Go.Proofs.YtmmjaomfonknnaaGreatDoor.Ev
open Go Go.RowKit
set_option linter.unusedVariables false
set_option linter.unusedSimpArgs false
noncomputable section
def cacheP (bu : Int) (l : List En) : Bool := decide (0 ≤ bu) && decide (bu ≤ 20000) && decide (l.length ≤ 30) && l.all entP && decide (totE l ≤ bu)
theorem iCOk_loop (l : List En) (hl : l.length ≤ 1048576) (bu : Int) (k0 k1 : Int → List En → Option Rs) : ∀ (r : List En) (i : Int) (n : Nat), At l i r → r.length < n → (∀ e ∈ r, e.1.length ≤ 1048576) →
    iCOk_F4 n l (l.length : Int) i bu l k0 k1 = bif r.all entP then k1 bu l else k0 bu l := by
  intro r; induction r with
  | nil => intro i n h hn hm; obtain ⟨n, rfl⟩ := fuel hn; unfold iCOk_F4 iCOk_T4; simp only [h.dge, cond_false, List.all_nil, cond_true]
  | cons e r ih =>
    intro i n h hn hm; obtain ⟨n, rfl⟩ := fuel hn
    simp only [List.length_cons] at hn
    have hM : isM e.1 = true := isM_of (n := 1048576) (hm e (List.mem_cons_self ..))
    have hr := ih (i + 1) n h.step (by omega) (fun x hx => hm x (List.mem_cons_of_mem _ hx))
    unfold iCOk_F4 iCOk_T4
    simp only [h.dlt, h.dnn, h.get, cond_true, h.next (show l.length ≤ 4611686018427387904 by omega), hM, en_eta, hr, List.all_cons]
    cases entP e <;> rfl
theorem sCOk_loop (l : List En) (hl : l.length ≤ 1048576) (bu : Int) (k0 k1 : Int → List En → Option Rs) : ∀ (r : List En) (i : Int) (n : Nat), At l i r → r.length < n → (∀ e ∈ r, e.1.length ≤ 1048576) →
    sCOk_F4 n i bu l k0 k1 = bif r.all entP then k1 bu l else k0 bu l := by
  intro r; induction r with
  | nil => intro i n h hn hm; obtain ⟨n, rfl⟩ := fuel hn; unfold sCOk_F4 sCOk_T4; simp only [h.dge, cond_false, List.all_nil, cond_true]
  | cons e r ih =>
    intro i n h hn hm; obtain ⟨n, rfl⟩ := fuel hn
    simp only [List.length_cons] at hn
    have hM : isM e.1 = true := isM_of (n := 1048576) (hm e (List.mem_cons_self ..))
    have hr := ih (i + 1) n h.step (by omega) (fun x hx => hm x (List.mem_cons_of_mem _ hx))
    unfold sCOk_F4 sCOk_T4
    simp only [h.dlt, h.dnn, h.get, cond_true, h.next (show l.length ≤ 4611686018427387904 by omega), hM, en_eta, hr, List.all_cons]
    cases entP e <;> rfl
theorem iCOk_okQ : Sound Kx 18 (cz_s fun bu l => .bool (cacheP bu l)) := by
  refine (iCOk_okOf (φ := fun bu l => .ite (okEs l) (.ret (.bool (cacheP bu l)) []) .fail) (fun _ l => l.length + 1) fun bu l r h => ?_).of fun args objs r h => ?_
  · obtain ⟨h1, h2⟩ := ite_some h
    cases h2
    obtain ⟨g1, g2⟩ := okEs_mem h1
    unfold iCOk_run cacheP
    rw [iCOk_loop l g1 bu _ _ l 0 (l.length + 1) (At.start l) (by omega) g2]
    by_cases c1 : 0 ≤ bu
    · rw [decide_eq_true c1]
      by_cases c2 : bu ≤ 20000
      · rw [decide_eq_true c2]
        by_cases c3 : l.length ≤ 30
        · rw [decide_eq_true c3, decide_eq_false (show ¬ (30 : Int) < (l.length : Int) by omega)]
          simp only [h1]
          cases l.all entP <;> rfl
        · rw [decide_eq_false c3, decide_eq_true (show (30 : Int) < (l.length : Int) by omega)]; rfl
      · rw [decide_eq_false c2]; rfl
    · rw [decide_eq_false c1]; rfl
  · unfold cz_s at h; split at h
    · exact h
    · cases h
theorem sCOk_okQ : Sound Kx 16 (cz_s fun bu l => .bool (cacheP bu l)) := by
  refine (sCOk_okOf (φ := fun bu l => .ite (okEs l) (.ret (.bool (cacheP bu l)) []) .fail) (fun _ l => l.length + 1) fun bu l r h => ?_).of fun args objs r h => ?_
  · obtain ⟨h1, h2⟩ := ite_some h
    cases h2
    obtain ⟨g1, g2⟩ := okEs_mem h1
    unfold sCOk_run cacheP
    rw [sCOk_loop l g1 bu _ _ l 0 (l.length + 1) (At.start l) (by omega) g2]
    by_cases c1 : 0 ≤ bu
    · rw [decide_eq_true c1, decide_eq_false (show ¬ bu < 0 by omega)]
      by_cases c2 : bu ≤ 20000
      · rw [decide_eq_true c2, decide_eq_false (show ¬ 20000 < bu by omega)]
        by_cases c3 : l.length ≤ 30
        · rw [decide_eq_true c3, decide_eq_false (show ¬ (30 : Int) < (l.length : Int) by omega)]
          simp only [h1]
          cases l.all entP <;> rfl
        · rw [decide_eq_false c3, decide_eq_true (show (30 : Int) < (l.length : Int) by omega)]; rfl
      · rw [decide_eq_false c2, decide_eq_true (show 20000 < bu by omega)]; rfl
    · rw [decide_eq_false c1, decide_eq_true (show bu < 0 by omega)]; rfl
  · unfold cz_s at h; split at h
    · exact h
    · cases h
end
end Go.Proofs.YtmmjaomfonknnaaGreatDoor.Ev

namespace Go.Proofs.YtmmjaomfonknnaaGreatDoor.Ev
open Go Go.RowKit
set_option linter.unusedVariables false
set_option linter.unusedSimpArgs false
noncomputable section

end
end Go.Proofs.YtmmjaomfonknnaaGreatDoor.Ev

namespace Go.Proofs.YtmmjaomfonknnaaGreatDoor.Ev
open Go Go.RowKit
set_option linter.unusedVariables false
set_option linter.unusedSimpArgs false
noncomputable section
end
end Go.Proofs.YtmmjaomfonknnaaGreatDoor.Ev

namespace Go.Proofs.YtmmjaomfonknnaaGreatDoor.Ev
open Go Go.RowKit
set_option linter.unusedVariables false
set_option linter.unusedSimpArgs false
noncomputable section

end
end Go.Proofs.YtmmjaomfonknnaaGreatDoor.Ev

namespace Go.Proofs.YtmmjaomfonknnaaGreatDoor.Ev
open Go Go.RowKit
set_option linter.unusedVariables false
set_option linter.unusedSimpArgs false
noncomputable section

end
end Go.Proofs.YtmmjaomfonknnaaGreatDoor.Ev

namespace Go.Proofs.YtmmjaomfonknnaaGreatDoor.Ev
open Go Go.RowKit
set_option linter.unusedVariables false
set_option linter.unusedSimpArgs false

abbrev tyMsgE : Ty := .pair .str (.pair .str (.pair (.int .i64) (.pair .str (.pair .bool (.pair (.slice (.pair .str .str)) .str)))))
abbrev tyEnt : Ty := .pair .str (.pair (.int .i64) (.pair (.int .i64) (.pair (.slice (.pair .str .str)) tyMsgE)))
theorem reach_E {s : Bytes} (h : s.length ≤ reachBytes) : isM s = true := isM_of h (by decide)
theorem good_smFE {fs : List Fd} (h : Good (.slice (.pair .str .str)) fs) : smF fs = true := by
  simp only [Good] at h
  unfold smF
  rw [decide_eq_true (Nat.le_trans h.1 (by decide)), Bool.true_and, List.all_eq_true]
  intro f hf
  obtain ⟨h1, h2⟩ := h.2 f hf
  unfold isMF
  rw [reach_E h1, reach_E h2]; rfl
theorem good_smME {me ta re bo : Bytes} {st : Int} {ba : Bool} {fs : List Fd} (h : Good tyMsgE (me, ta, st, re, ba, fs, bo)) : smM me ta re fs bo = true := by
  simp only [tyMsgE, Good] at h
  obtain ⟨h1, h2, _, h4, _, h6, h7⟩ := h
  unfold smM
  rw [reach_E h1, reach_E h2, reach_E h4, reach_E h7, good_smFE (by simp only [Good]; exact h6)]; rfl
theorem good_smE {e : En} (h : Good tyEnt e) : smE e = true := by
  obtain ⟨ur, t1, t2, ak, me, ta, st, re, ba, fs, bo⟩ := e
  obtain ⟨h1, _, _, h4, h5⟩ := h
  unfold smE
  rw [reach_E h1, good_smFE h4, good_smME h5]; rfl
end Go.Proofs.YtmmjaomfonknnaaGreatDoor.Ev

namespace Go.Proofs.YtmmjaomfonknnaaGreatDoor.Ev
open Go Go.RowKit
set_option linter.unusedVariables false
set_option linter.unusedSimpArgs false

abbrev tyCache : Ty := .pair (.int .i64) (.slice tyEnt)
theorem good_smEs {l : List En} (h : Good (.slice tyEnt) l) : smEs l = true := by
  obtain ⟨h1, h2⟩ := h
  unfold smEs
  rw [decide_eq_true (Nat.le_trans h1 (by decide)), Bool.true_and, List.all_eq_true]
  exact fun e he => good_smE (h2 e he)
theorem totW_mem : ∀ (l : List En) (e : En), e ∈ l → enW e ≤ totW l
  | [], e, h => by cases h
  | a :: r, e, h => by
    have h1 := enW_nn a
    have h2 := totW_nn r
    rcases List.mem_cons.1 h with rfl | h
    · simp only [totW]; omega
    · have := totW_mem r e h
      simp only [totW]; omega
theorem enW_parts (e : En) : (e.1.length : Int) ≤ enW e ∧ (e.2.2.2.1.length : Int) ≤ enW e ∧ (e.2.2.2.2.2.2.2.2.2.1.length : Int) ≤ enW e := by
  have h1 := totF_nn e.2.2.2.1
  have h2 := totF_nn e.2.2.2.2.2.2.2.2.2.1
  unfold enW msgW
  omega
theorem szEs_small {l : List En} (h : ¬ szEs l 1048576 < 0) : shEs l = true ∧ okEs l = true := by
  unfold szEs at h
  cases hc : decide ((l.length : Int) + totW l ≤ 1048576)
  · rw [hc, cond_false] at h; omega
  · have hc := of_decide_eq_true hc
    have ht := totW_nn l
    have hl : l.length ≤ 1048576 := by omega
    have hw : ∀ e ∈ l, enW e ≤ 1048576 := fun e he => by have := totW_mem l e he; omega
    constructor
    · unfold shEs
      rw [decide_eq_true hl, Bool.true_and, List.all_eq_true]
      intro e he
      obtain ⟨_, h2, h3⟩ := enW_parts e
      have h0 := hw e he
      unfold shE
      rw [decide_eq_true (by omega), decide_eq_true (by omega)]; rfl
    · unfold okEs
      rw [decide_eq_true hl, Bool.true_and, List.all_eq_true]
      intro e he
      obtain ⟨h1, _, _⟩ := enW_parts e
      have h0 := hw e he
      exact decide_eq_true (by omega)
end Go.Proofs.YtmmjaomfonknnaaGreatDoor.Ev

namespace Go.Proofs.YtmmjaomfonknnaaGreatDoor.Ev
open Go Go.RowKit
set_option linter.unusedVariables false
set_option linter.unusedSimpArgs false
noncomputable section

def icho_O : Opt := { cons := [], keepNil := false, mutF := [], live := [(2, [1, 2, 3, 7])], outs := [(2, [6])] }
def icho_C : Spec := (add noS 33 ch_s)
theorem icho_C_ok : ∀ fn, Sound Kx fn (icho_C fn) := (sound_add (sound_no Kx) iChosen_okQ)
def icho_T2 (v2x0 : Bytes) (v2x1 : (List Fd)) (v2x2 : Int) (v2x3 : Int) (v2x4 : (List En)) (kR2 : Bytes → (List Fd) → Int → Int → (List En) → Option Rs) (k2e0 : Int → Option Rs) (k2e1 : Option Rs) : Option Rs :=
  (bif (decide ((0 : Int) ≤ v2x2)) then (bif (decide ((0 : Int) ≤ v2x2)) then (bif (decide (v2x2 < ((List.length v2x4) : Int))) then (bif (decide ((List.getD v2x4 (Int.toNat v2x2) en0).1 = v2x0)) then (bif (decide ((0 : Int) ≤ v2x2)) then (bif (decide (v2x2 < ((List.length v2x4) : Int))) then (bif (isM (List.getD v2x4 (Int.toNat v2x2) en0).1) then (bif (chosenP ((List.getD v2x4 (Int.toNat v2x2) en0).1, ((List.getD v2x4 (Int.toNat v2x2) en0).2.1, ((List.getD v2x4 (Int.toNat v2x2) en0).2.2.1, ((List.getD v2x4 (Int.toNat v2x2) en0).2.2.2.1, ((List.getD v2x4 (Int.toNat v2x2) en0).2.2.2.2.1, ((List.getD v2x4 (Int.toNat v2x2) en0).2.2.2.2.2.1, ((List.getD v2x4 (Int.toNat v2x2) en0).2.2.2.2.2.2.1, ((List.getD v2x4 (Int.toNat v2x2) en0).2.2.2.2.2.2.2.1, ((List.getD v2x4 (Int.toNat v2x2) en0).2.2.2.2.2.2.2.2.1, ((List.getD v2x4 (Int.toNat v2x2) en0).2.2.2.2.2.2.2.2.2.1, (List.getD v2x4 (Int.toNat v2x2) en0).2.2.2.2.2.2.2.2.2.2)))))))))) v2x1) then (k2e0 v2x2) else (kR2 v2x0 v2x1 (wk64 (v2x2 - (1 : Int))) v2x3 v2x4)) else (none)) else (none)) else (none)) else (kR2 v2x0 v2x1 (wk64 (v2x2 - (1 : Int))) v2x3 v2x4)) else (none)) else (none)) else k2e1)
def icho_F2 : Nat → Bytes → (List Fd) → Int → Int → (List En) → (Int → Option Rs) → (Option Rs) → Option Rs
  | 0, _, _, _, _, _, _, _ => none
  | n + 1, v2x0, v2x1, v2x2, v2x3, v2x4, k2e0, k2e1 => icho_T2 v2x0 v2x1 v2x2 v2x3 v2x4 (fun v2x0 v2x1 v2x2 v2x3 v2x4 => icho_F2 n v2x0 v2x1 v2x2 v2x3 v2x4 k2e0 k2e1) k2e0 k2e1
def icho_h2 (v2x0 : Bytes) (v2x1 : (List Fd)) (v2x2 : Int) (v2x3 : Int) (v2x4 : (List En)) : St := (St.mk (slots 0 34 [(1, (AV.str v2x0)), (2, (AV.sh (Ty.pair Ty.str Ty.str) v2x1)), (3, (AV.ptr (256 : Nat) (0 : Nat))), (7, (AV.int .i64 v2x2))]) (((256 : Nat), (Ob.var ((AV.int .i64 v2x3) :: ((AV.sh EnT v2x4) :: ([] : List AV))))) :: ([] : (List (Nat × (Ob))))))
def icho_x2e0 (x2x0x0 : Int) : St := (St.mk (slots 0 34 [(6, (AV.int .i64 x2x0x0))]) ([] : (List (Nat × (Ob)))))
def icho_x2e1  : St := (St.mk (slots 0 34 []) ([] : (List (Nat × (Ob)))))
noncomputable def icho_b2 : Code := codeAt (codeOf Tryz.f75) [1, 0, 1, 0, 0]
def icho_L2 (N : Nat) (st : St) (k : Ex → St → Option Rs) : Option Rs := match takeF [1, 2, 3, 7] 0 34 st.env, st.objs with
  | some [.str v2x0, .sh (Ty.pair Ty.str Ty.str) v2x1, .ptr 256 0, .int .i64 v2x2], [(256, .var [.int .i64 v2x3, .sh EnT v2x4])] => icho_F2 N v2x0 v2x1 v2x2 v2x3 v2x4 (fun x2x0x0 => k Ex.ret (icho_x2e0 x2x0x0)) (k (Ex.exit (0 : Nat)) (icho_x2e1))
  | _, _ => none
def icho_L (N : Nat) : Lam := fun j st k => match j with
  | 2 => icho_L2 N st k
  | _ => none
theorem icho_round2 (N : Nat) (again : St → Option Rs) (k : Ex → St → Option Rs) (wv2x0 : Bytes) (wv2x1 : (List Fd)) (wv2x2 : Int) (wv2x3 : Int) (wv2x4 : (List En)) (v2x0 : Bytes) (v2x1 : (List Fd)) (v2x2 : Int) (v2x3 : Int) (v2x4 : (List En)) :
    roundK 0 (fun st k => evL Kx icho_C icho_O 0 (icho_L N) icho_b2 st k) (icho_h2 wv2x0 wv2x1 wv2x2 wv2x3 wv2x4).env again (icho_h2 v2x0 v2x1 v2x2 v2x3 v2x4) (outK icho_O 0 icho_b2 k) = icho_T2 v2x0 v2x1 v2x2 v2x3 v2x4 (fun v2x0 v2x1 v2x2 v2x3 v2x4 => again (icho_h2 v2x0 v2x1 v2x2 v2x3 v2x4)) (fun x2x0x0 => k Ex.ret (icho_x2e0 x2x0x0)) (k (Ex.exit (0 : Nat)) (icho_x2e1)) := by kernel_rfl
theorem icho_loop2 (N : Nat) (k : Ex → St → Option Rs) (wv2x0 : Bytes) (wv2x1 : (List Fd)) (wv2x2 : Int) (wv2x3 : Int) (wv2x4 : (List En)) : ∀ (n : Nat) (v2x0 : Bytes) (v2x1 : (List Fd)) (v2x2 : Int) (v2x3 : Int) (v2x4 : (List En)),
    loopK 0 (fun st k => evL Kx icho_C icho_O 0 (icho_L N) icho_b2 st k) (icho_h2 wv2x0 wv2x1 wv2x2 wv2x3 wv2x4).env n (icho_h2 v2x0 v2x1 v2x2 v2x3 v2x4) (outK icho_O 0 icho_b2 k) = icho_F2 n v2x0 v2x1 v2x2 v2x3 v2x4 (fun x2x0x0 => k Ex.ret (icho_x2e0 x2x0x0)) (k (Ex.exit (0 : Nat)) (icho_x2e1))
  | 0, _, _, _, _, _ => rfl
  | n + 1, v2x0, v2x1, v2x2, v2x3, v2x4 => by
    rw [loopK_succ, icho_round2]
    simp only [icho_loop2 N k wv2x0 wv2x1 wv2x2 wv2x3 wv2x4 n]
    rfl
theorem icho_at2 (N : Nat) {s : St} {k : Ex → St → Option Rs} {r : Rs} (h : icho_L2 N s k = some r) : ∃ (v2x0 : Bytes) (v2x1 : (List Fd)) (v2x2 : Int) (v2x3 : Int) (v2x4 : (List En)), s = (icho_h2 v2x0 v2x1 v2x2 v2x3 v2x4) ∧ icho_F2 N v2x0 v2x1 v2x2 v2x3 v2x4 (fun x2x0x0 => k Ex.ret (icho_x2e0 x2x0x0)) (k (Ex.exit (0 : Nat)) (icho_x2e1)) = some r := by
  cases s with | mk env objs =>
  unfold icho_L2 at h
  split at h
  · rename_i e1 e2
    have e3 := takeF_slots _ _ _ _ e1
    simp only at e2 e3
    subst e2 e3
    exact ⟨_, _, _, _, _, rfl, h⟩
  · cases h
theorem icho_in2 : loops icho_b2 = [] := by kernel_rfl
theorem icho_lid2 : lid icho_b2 = 2 := by kernel_rfl
theorem icho_ok2 (N : Nat) : OkL Kx icho_C icho_O 0 N (icho_L N) icho_b2 := by
  intro s k k' r hk h
  rw [icho_lid2] at h
  obtain ⟨v2x0, v2x1, v2x2, v2x3, v2x4, rfl, h⟩ := icho_at2 N h
  refine loopL (Λ := icho_L N) icho_b2 ?_ N hk ((icho_loop2 N k v2x0 v2x1 v2x2 v2x3 v2x4 N v2x0 v2x1 v2x2 v2x3 v2x4).trans h)
  rw [icho_in2]
  exact fun _ h => nomatch h
def icho_run (N : Nat) (bu : Int) (l : List En) (url : Bytes) (fl : List Fd) : Option Rs := (icho_F2 N url fl (wk64 (((List.length l) : Int) - (1 : Int))) bu l (fun x2x0x0 => (some ((AV.int .i64 x2x0x0), ([] : List Ob)))) (some ((AV.int .i64 (-(1 : Int))), ([] : List Ob))))
theorem icho_runL (N : Nat) (bu : Int) (l : List En) (url : Bytes) (fl : List Fd) : runL Kx icho_C icho_O (icho_L N) Tryz.f75 ([.agg [.int .i64 bu, .sh EnT l], .str url, .sh (.pair .str .str) fl]) ([]) = icho_run N bu l url fl := by kernel_rfl
theorem icho_body : Tryz.f75.body = some (codeOf Tryz.f75) := by kernel_rfl
theorem icho_loops : loops (codeOf Tryz.f75) = [icho_b2] := by kernel_rfl
theorem icho_ev (N : Nat) (bu : Int) (l : List En) (url : Bytes) (fl : List Fd) {res_ : Rs} (hyp_ : icho_run N bu l url fl = some res_) : ∃ n_, runF Kx icho_C icho_O n_ Tryz.f75 ([.agg [.int .i64 bu, .sh EnT l], .str url, .sh (.pair .str .str) fl]) ([]) = some res_ :=
  ⟨N, runL_runF icho_body (by rw [icho_loops]; exact List.forall_mem_cons.2 ⟨icho_ok2 N, fun _ h => nomatch h⟩) ((icho_runL N bu l url fl).trans hyp_)⟩
def icho_sOf (φ : Int → (List En) → Bytes → (List Fd) → Br) : List AV → List Ob → Br
  | [.agg [.int .i64 bu, .sh EnT l], .str url, .sh (.pair .str .str) fl], [] => φ bu l url fl
  | _, _ => .fail
theorem icho_okOf {φ : Int → (List En) → Bytes → (List Fd) → Br} (fu : Int → (List En) → Bytes → (List Fd) → Nat) (hv : ∀ bu l url fl res_, (φ bu l url fl).val = some res_ → icho_run (fu bu l url fl) bu l url fl = some res_) : Sound Kx 75 (icho_sOf φ) := by
  refine sound_run (C := icho_C) (O := icho_O) KOk icho_C_ok Tryz.func75 (by kernel_rfl) fun args objs res os h => ?_
  unfold icho_sOf at h
  split at h
  · exact icho_ev _ _ _ _ _ (hv _ _ _ _ _ h)
  · cases h

def sSel_O : Opt := { cons := [], keepNil := false, mutF := [], live := [(5, [1, 2, 3, 7, 8])], outs := [(5, [6, 7])], split := true }
def sSel_C : Spec := (add (add noS 16 (cz_s fun bu l => .bool (cacheP bu l))) 32 ch_s)
theorem sSel_C_ok : ∀ fn, Sound Kx fn (sSel_C fn) := (sound_add (sound_add (sound_no Kx) sCOk_okQ) sChosen_okQ)
def sSel_T5 (v5x0 : Bytes) (v5x1 : (List Fd)) (v5x2 : Int) (v5x3 : Int) (v5x4 : Int) (v5x5 : (List En)) (kR5 : Bytes → (List Fd) → Int → Int → Int → (List En) → Option Rs) (k5e0 : Int → Option Rs) : Option Rs :=
  (bif (decide (v5x3 < ((List.length v5x5) : Int))) then (bif (decide ((0 : Int) ≤ v5x3)) then (bif (decide (v5x3 < ((List.length v5x5) : Int))) then (bif (decide ((List.getD v5x5 (Int.toNat v5x3) en0).1 = v5x0)) then (bif (decide ((0 : Int) ≤ v5x3)) then (bif (decide (v5x3 < ((List.length v5x5) : Int))) then (bif (isM (List.getD v5x5 (Int.toNat v5x3) en0).1) then (bif (chosenP ((List.getD v5x5 (Int.toNat v5x3) en0).1, ((List.getD v5x5 (Int.toNat v5x3) en0).2.1, ((List.getD v5x5 (Int.toNat v5x3) en0).2.2.1, ((List.getD v5x5 (Int.toNat v5x3) en0).2.2.2.1, ((List.getD v5x5 (Int.toNat v5x3) en0).2.2.2.2.1, ((List.getD v5x5 (Int.toNat v5x3) en0).2.2.2.2.2.1, ((List.getD v5x5 (Int.toNat v5x3) en0).2.2.2.2.2.2.1, ((List.getD v5x5 (Int.toNat v5x3) en0).2.2.2.2.2.2.2.1, ((List.getD v5x5 (Int.toNat v5x3) en0).2.2.2.2.2.2.2.2.1, ((List.getD v5x5 (Int.toNat v5x3) en0).2.2.2.2.2.2.2.2.2.1, (List.getD v5x5 (Int.toNat v5x3) en0).2.2.2.2.2.2.2.2.2.2)))))))))) v5x1) then (kR5 v5x0 v5x1 v5x3 (wk64 (v5x3 + (1 : Int))) v5x4 v5x5) else (kR5 v5x0 v5x1 v5x2 (wk64 (v5x3 + (1 : Int))) v5x4 v5x5)) else (none)) else (none)) else (none)) else (kR5 v5x0 v5x1 v5x2 (wk64 (v5x3 + (1 : Int))) v5x4 v5x5)) else (none)) else (none)) else (k5e0 v5x2))
def sSel_F5 : Nat → Bytes → (List Fd) → Int → Int → Int → (List En) → (Int → Option Rs) → Option Rs
  | 0, _, _, _, _, _, _, _ => none
  | n + 1, v5x0, v5x1, v5x2, v5x3, v5x4, v5x5, k5e0 => sSel_T5 v5x0 v5x1 v5x2 v5x3 v5x4 v5x5 (fun v5x0 v5x1 v5x2 v5x3 v5x4 v5x5 => sSel_F5 n v5x0 v5x1 v5x2 v5x3 v5x4 v5x5 k5e0) k5e0
def sSel_h5 (v5x0 : Bytes) (v5x1 : (List Fd)) (v5x2 : Int) (v5x3 : Int) (v5x4 : Int) (v5x5 : (List En)) : St := (St.mk (slots 0 38 [(1, (AV.str v5x0)), (2, (AV.sh (Ty.pair Ty.str Ty.str) v5x1)), (3, (AV.ptr (256 : Nat) (0 : Nat))), (7, (AV.int .i64 v5x2)), (8, (AV.int .i64 v5x3))]) (((256 : Nat), (Ob.var ((AV.int .i64 v5x4) :: ((AV.sh EnT v5x5) :: ([] : List AV))))) :: ([] : (List (Nat × (Ob))))))
def sSel_x5e0 (x5x0x0 : Int) : St := (St.mk (slots 0 38 [(7, (AV.int .i64 x5x0x0))]) ([] : (List (Nat × (Ob)))))
noncomputable def sSel_b5 : Code := codeAt (codeOf Tryz.f34) [1, 1, 1, 0, 1, 0, 0]
def sSel_L5 (N : Nat) (st : St) (k : Ex → St → Option Rs) : Option Rs := match takeF [1, 2, 3, 7, 8] 0 38 st.env, st.objs with
  | some [.str v5x0, .sh (Ty.pair Ty.str Ty.str) v5x1, .ptr 256 0, .int .i64 v5x2, .int .i64 v5x3], [(256, .var [.int .i64 v5x4, .sh EnT v5x5])] => sSel_F5 N v5x0 v5x1 v5x2 v5x3 v5x4 v5x5 (fun x5x0x0 => k (Ex.exit (0 : Nat)) (sSel_x5e0 x5x0x0))
  | _, _ => none
def sSel_L (N : Nat) : Lam := fun j st k => match j with
  | 5 => sSel_L5 N st k
  | _ => none
theorem sSel_round5 (N : Nat) (again : St → Option Rs) (k : Ex → St → Option Rs) (wv5x0 : Bytes) (wv5x1 : (List Fd)) (wv5x2 : Int) (wv5x3 : Int) (wv5x4 : Int) (wv5x5 : (List En)) (v5x0 : Bytes) (v5x1 : (List Fd)) (v5x2 : Int) (v5x3 : Int) (v5x4 : Int) (v5x5 : (List En)) :
    roundK 0 (fun st k => evL Kx sSel_C sSel_O 0 (sSel_L N) sSel_b5 st k) (sSel_h5 wv5x0 wv5x1 wv5x2 wv5x3 wv5x4 wv5x5).env again (sSel_h5 v5x0 v5x1 v5x2 v5x3 v5x4 v5x5) (outK sSel_O 0 sSel_b5 k) = sSel_T5 v5x0 v5x1 v5x2 v5x3 v5x4 v5x5 (fun v5x0 v5x1 v5x2 v5x3 v5x4 v5x5 => again (sSel_h5 v5x0 v5x1 v5x2 v5x3 v5x4 v5x5)) (fun x5x0x0 => k (Ex.exit (0 : Nat)) (sSel_x5e0 x5x0x0)) := by kernel_rfl
theorem sSel_loop5 (N : Nat) (k : Ex → St → Option Rs) (wv5x0 : Bytes) (wv5x1 : (List Fd)) (wv5x2 : Int) (wv5x3 : Int) (wv5x4 : Int) (wv5x5 : (List En)) : ∀ (n : Nat) (v5x0 : Bytes) (v5x1 : (List Fd)) (v5x2 : Int) (v5x3 : Int) (v5x4 : Int) (v5x5 : (List En)),
    loopK 0 (fun st k => evL Kx sSel_C sSel_O 0 (sSel_L N) sSel_b5 st k) (sSel_h5 wv5x0 wv5x1 wv5x2 wv5x3 wv5x4 wv5x5).env n (sSel_h5 v5x0 v5x1 v5x2 v5x3 v5x4 v5x5) (outK sSel_O 0 sSel_b5 k) = sSel_F5 n v5x0 v5x1 v5x2 v5x3 v5x4 v5x5 (fun x5x0x0 => k (Ex.exit (0 : Nat)) (sSel_x5e0 x5x0x0))
  | 0, _, _, _, _, _, _ => rfl
  | n + 1, v5x0, v5x1, v5x2, v5x3, v5x4, v5x5 => by
    rw [loopK_succ, sSel_round5]
    simp only [sSel_loop5 N k wv5x0 wv5x1 wv5x2 wv5x3 wv5x4 wv5x5 n]
    rfl
theorem sSel_at5 (N : Nat) {s : St} {k : Ex → St → Option Rs} {r : Rs} (h : sSel_L5 N s k = some r) : ∃ (v5x0 : Bytes) (v5x1 : (List Fd)) (v5x2 : Int) (v5x3 : Int) (v5x4 : Int) (v5x5 : (List En)), s = (sSel_h5 v5x0 v5x1 v5x2 v5x3 v5x4 v5x5) ∧ sSel_F5 N v5x0 v5x1 v5x2 v5x3 v5x4 v5x5 (fun x5x0x0 => k (Ex.exit (0 : Nat)) (sSel_x5e0 x5x0x0)) = some r := by
  cases s with | mk env objs =>
  unfold sSel_L5 at h
  split at h
  · rename_i e1 e2
    have e3 := takeF_slots _ _ _ _ e1
    simp only at e2 e3
    subst e2 e3
    exact ⟨_, _, _, _, _, _, rfl, h⟩
  · cases h
theorem sSel_in5 : loops sSel_b5 = [] := by kernel_rfl
theorem sSel_lid5 : lid sSel_b5 = 5 := by kernel_rfl
theorem sSel_ok5 (N : Nat) : OkL Kx sSel_C sSel_O 0 N (sSel_L N) sSel_b5 := by
  intro s k k' r hk h
  rw [sSel_lid5] at h
  obtain ⟨v5x0, v5x1, v5x2, v5x3, v5x4, v5x5, rfl, h⟩ := sSel_at5 N h
  refine loopL (Λ := sSel_L N) sSel_b5 ?_ N hk ((sSel_loop5 N k v5x0 v5x1 v5x2 v5x3 v5x4 v5x5 N v5x0 v5x1 v5x2 v5x3 v5x4 v5x5).trans h)
  rw [sSel_in5]
  exact fun _ h => nomatch h
def sSel_run (N : Nat) (bu : Int) (l : List En) (url : Bytes) (fl : List Fd) : Option Rs := (bif (okEs l) then (bif (!(cacheP bu l)) then (some ((AV.int .i64 (-(1 : Int))), ([] : List Ob))) else (sSel_F5 N url fl (-(1 : Int)) (0 : Int) bu l (fun x5x0x0 => (some ((AV.int .i64 x5x0x0), ([] : List Ob)))))) else (none))
theorem sSel_runL (N : Nat) (bu : Int) (l : List En) (url : Bytes) (fl : List Fd) : runL Kx sSel_C sSel_O (sSel_L N) Tryz.f34 ([.agg [.int .i64 bu, .sh EnT l], .str url, .sh (.pair .str .str) fl]) ([]) = sSel_run N bu l url fl := by kernel_rfl
theorem sSel_body : Tryz.f34.body = some (codeOf Tryz.f34) := by kernel_rfl
theorem sSel_loops : loops (codeOf Tryz.f34) = [sSel_b5] := by kernel_rfl
theorem sSel_ev (N : Nat) (bu : Int) (l : List En) (url : Bytes) (fl : List Fd) {res_ : Rs} (hyp_ : sSel_run N bu l url fl = some res_) : ∃ n_, runF Kx sSel_C sSel_O n_ Tryz.f34 ([.agg [.int .i64 bu, .sh EnT l], .str url, .sh (.pair .str .str) fl]) ([]) = some res_ :=
  ⟨N, runL_runF sSel_body (by rw [sSel_loops]; exact List.forall_mem_cons.2 ⟨sSel_ok5 N, fun _ h => nomatch h⟩) ((sSel_runL N bu l url fl).trans hyp_)⟩
def sSel_sOf (φ : Int → (List En) → Bytes → (List Fd) → Br) : List AV → List Ob → Br
  | [.agg [.int .i64 bu, .sh EnT l], .str url, .sh (.pair .str .str) fl], [] => φ bu l url fl
  | _, _ => .fail
theorem sSel_okOf {φ : Int → (List En) → Bytes → (List Fd) → Br} (fu : Int → (List En) → Bytes → (List Fd) → Nat) (hv : ∀ bu l url fl res_, (φ bu l url fl).val = some res_ → sSel_run (fu bu l url fl) bu l url fl = some res_) : Sound Kx 34 (sSel_sOf φ) := by
  refine sound_run (C := sSel_C) (O := sSel_O) KOk sSel_C_ok Tryz.func34 (by kernel_rfl) fun args objs res os h => ?_
  unfold sSel_sOf at h
  split at h
  · exact sSel_ev _ _ _ _ _ (hv _ _ _ _ _ h)
  · cases h

end
end Go.Proofs.YtmmjaomfonknnaaGreatDoor.Ev

namespace Go.Proofs.YtmmjaomfonknnaaGreatDoor.Ev
open Go Go.RowKit
set_option linter.unusedVariables false
set_option linter.unusedSimpArgs false
noncomputable section
def hitP (url : Bytes) (fl : List Fd) (e : En) : Bool := bif decide (e.1 = url) then chosenP e fl else false
def selF (hit : En → Bool) : List En → Int → Int → Int
  | [], _, b => b
  | e :: r, i, b => selF hit r (i + 1) (bif hit e then i else b)
def selR (hit : En → Bool) : List En → Int
  | [] => -1
  | e :: r => bif hit e then r.length else selR hit r
theorem selF_snoc (hit : En → Bool) (e : En) : ∀ (l : List En) (i b : Int), selF hit (l ++ [e]) i b = bif hit e then i + l.length else selF hit l i b
  | [], i, b => by simp [selF]
  | a :: l, i, b => by
    rw [List.cons_append]
    simp only [selF]
    rw [selF_snoc hit e l]
    simp only [List.length_cons]
    rw [show i + 1 + (l.length : Int) = i + ((l.length + 1 : Nat) : Int) by push_cast; omega]
theorem selF_rev (hit : En → Bool) : ∀ r : List En, selF hit r.reverse 0 (-1) = selR hit r
  | [] => rfl
  | e :: r => by
    rw [List.reverse_cons, selF_snoc, selF_rev hit r, List.length_reverse, Int.zero_add]
    rfl
theorem selR_ge (hit : En → Bool) : ∀ r : List En, -1 ≤ selR hit r
  | [] => by simp [selR]
  | e :: r => by
    have := selR_ge hit r
    unfold selR
    cases hit e
    · rw [cond_false]; exact this
    · rw [cond_true]; omega
theorem sSel_loop (l : List En) (hl : l.length ≤ 1048576) (bu : Int) (url : Bytes) (fl : List Fd) (k : Int → Option Rs) : ∀ (r : List En) (i b : Int) (n : Nat), At l i r → r.length < n → (∀ e ∈ r, e.1.length ≤ 1048576) →
    sSel_F5 n url fl b i bu l k = k (selF (hitP url fl) r i b) := by
  intro r; induction r with
  | nil => intro i b n h hn hm; obtain ⟨n, rfl⟩ := fuel hn; unfold sSel_F5 sSel_T5; simp only [h.dge, cond_false, selF]
  | cons e r ih =>
    intro i b n h hn hm; obtain ⟨n, rfl⟩ := fuel hn
    simp only [List.length_cons] at hn
    have hM : isM e.1 = true := isM_of (n := 1048576) (hm e (List.mem_cons_self ..))
    have hr := fun b => ih (i + 1) b n h.step (by omega) (fun x hx => hm x (List.mem_cons_of_mem _ hx))
    unfold sSel_F5 sSel_T5
    simp only [h.dlt, h.dnn, h.get, cond_true, h.next (show l.length ≤ 4611686018427387904 by omega), hM, en_eta, hr, selF]
    unfold hitP
    cases decide (e.1 = url) <;> cases chosenP e fl <;> rfl
theorem rev_get (r suf : List En) (e d : En) : ((e :: r).reverse ++ suf).getD r.length d = e := by
  rw [List.reverse_cons, List.append_assoc]
  have := getD_mid r.reverse e suf d
  rw [List.length_reverse] at this
  exact this
theorem icho_loop (l : List En) (hl : l.length ≤ 1048576) (bu : Int) (url : Bytes) (fl : List Fd) (k0 : Int → Option Rs) (k1 : Option Rs) : ∀ (r suf : List En) (n : Nat), l = r.reverse ++ suf → r.length < n → (∀ e ∈ r, e.1.length ≤ 1048576) →
    icho_F2 n url fl ((r.length : Int) - 1) bu l k0 k1 = bif decide (selR (hitP url fl) r < 0) then k1 else k0 (selR (hitP url fl) r) := by
  intro r; induction r with
  | nil =>
    intro suf n h hn hm; obtain ⟨n, rfl⟩ := fuel hn; unfold icho_F2 icho_T2
    rw [decide_eq_false (by simp)]; rfl
  | cons e r ih =>
    intro suf n h hn hm; obtain ⟨n, rfl⟩ := fuel hn
    simp only [List.length_cons] at hn
    have hM : isM e.1 = true := isM_of (n := 1048576) (hm e (List.mem_cons_self ..))
    have hr := ih (e :: suf) n (by rw [h]; simp) (by omega) (fun x hx => hm x (List.mem_cons_of_mem _ hx))
    have hlen : r.length + 1 ≤ l.length := by rw [h]; simp
    have e0 : ((e :: r).length : Int) - 1 = (r.length : Int) := by simp
    have e1 : decide ((0 : Int) ≤ (r.length : Int)) = true := decide_eq_true (by omega)
    have e2 : decide ((r.length : Int) < (l.length : Int)) = true := decide_eq_true (by omega)
    have e3 : ∀ d, l.getD r.length d = e := fun d => by rw [h]; exact rev_get r suf e d
    have e4 : wk64 ((r.length : Int) - 1) = (r.length : Int) - 1 := w64 (by omega) (by omega)
    have e5 : decide (((r.length : Nat) : Int) < 0) = false := decide_eq_false (by omega)
    have tw : ∀ (a b : Bool) (x y : Option Rs), (bif a then bif b then x else y else y) = bif (bif a then b else false) then x else y := by intros a b x y; cases a <;> cases b <;> rfl
    have hs : selR (hitP url fl) (e :: r) = bif hitP url fl e then (r.length : Int) else selR (hitP url fl) r := rfl
    have hh : (bif decide (e.1 = url) then chosenP e fl else false) = hitP url fl e := rfl
    unfold icho_F2 icho_T2
    rw [e0]
    simp only [e1, e2, Int.toNat_natCast, e3, cond_true, hM, en_eta, e4, hr]
    rw [tw, hh, hs]
    cases hitP url fl e
    · rfl
    · rw [cond_true, cond_true, e5]; rfl
def sel_s (p : Int → List En → Bytes → List Fd → Int) : List AV → List Ob → Br
  | [.agg [.int .i64 bu, .sh (.pair .str (.pair (.int .i64) (.pair (.int .i64) (.pair (.slice (.pair .str .str)) (.pair .str (.pair .str (.pair (.int .i64) (.pair .str (.pair .bool (.pair (.slice (.pair .str .str)) .str)))))))))) l], .str url, .sh (.pair .str .str) fl], [] => .ite (okEs l) (.ret (.int .i64 (p bu l url fl)) []) .fail
  | _, _ => .fail
def selP (bu : Int) (l : List En) (url : Bytes) (fl : List Fd) : Int := bif cacheP bu l then selF (hitP url fl) l 0 (-1) else -1
theorem icho_okQ : Sound Kx 75 (sel_s fun _ l url fl => selF (hitP url fl) l 0 (-1)) := by
  refine (icho_okOf (φ := fun bu l url fl => .ite (okEs l) (.ret (.int .i64 (selF (hitP url fl) l 0 (-1))) []) .fail) (fun _ l _ _ => l.length + 1) fun bu l url fl r h => ?_).of fun args objs r h => ?_
  · obtain ⟨h1, h2⟩ := ite_some h
    cases h2
    obtain ⟨g1, g2⟩ := okEs_mem h1
    unfold icho_run
    have hw : wk64 ((l.length : Int) - 1) = ((l.reverse.length : Nat) : Int) - 1 := by rw [List.length_reverse]; exact w64 (by omega) (by omega)
    rw [hw, icho_loop l g1 bu url fl _ _ l.reverse [] (l.length + 1) (by simp) (by simp) (fun e he => g2 e (List.mem_reverse.1 he))]
    have hs := selF_rev (hitP url fl) l.reverse
    rw [List.reverse_reverse] at hs
    have hg := selR_ge (hitP url fl) l.reverse
    rw [hs]
    by_cases c : selR (hitP url fl) l.reverse < 0
    · rw [decide_eq_true c, cond_true, show selR (hitP url fl) l.reverse = -1 by omega]
    · rw [decide_eq_false c, cond_false]
  · unfold sel_s at h; split at h
    · exact h
    · cases h
theorem sSel_okQ : Sound Kx 34 (sel_s selP) := by
  refine (sSel_okOf (φ := fun bu l url fl => .ite (okEs l) (.ret (.int .i64 (selP bu l url fl)) []) .fail) (fun _ l _ _ => l.length + 1) fun bu l url fl r h => ?_).of fun args objs r h => ?_
  · obtain ⟨h1, h2⟩ := ite_some h
    cases h2
    obtain ⟨g1, g2⟩ := okEs_mem h1
    unfold sSel_run selP
    rw [sSel_loop l g1 bu url fl _ l 0 (-1) (l.length + 1) (At.start l) (by omega) g2, h1]
    cases cacheP bu l <;> rfl
  · unfold sel_s at h; split at h
    · exact h
    · cases h
end
end Go.Proofs.YtmmjaomfonknnaaGreatDoor.Ev

namespace Go.Proofs.YtmmjaomfonknnaaGreatDoor.Ev
open Go Go.RowKit
set_option linter.unusedVariables false
set_option linter.unusedSimpArgs false
noncomputable section

def iSel_O : Opt := { cons := [], keepNil := false, mutF := [], live := [], outs := [] }
def iSel_C : Spec := (add (add noS 18 (cz_s fun bu l => .bool (cacheP bu l))) 75 (sel_s fun _ l url fl => selF (hitP url fl) l 0 (-1)))
theorem iSel_C_ok : ∀ fn, Sound Kx fn (iSel_C fn) := (sound_add (sound_add (sound_no Kx) iCOk_okQ) icho_okQ)
def iSel_br (bu : Int) (l : List En) (url : Bytes) (fl : List Fd) : Br := (Br.ite (okEs l) (Br.ite (!(cacheP bu l)) (Br.ret (AV.int .i64 (-(1 : Int))) ([] : List Ob)) (Br.ite (okEs l) (Br.ret (AV.int .i64 (selF (hitP url fl) l (0 : Int) (-(1 : Int)))) ([] : List Ob)) Br.fail)) Br.fail)
theorem iSel_run (bu : Int) (l : List En) (url : Bytes) (fl : List Fd) : runF Kx iSel_C iSel_O 1 Tryz.f35 ([.agg [.int .i64 bu, .sh EnT l], .str url, .sh (.pair .str .str) fl]) ([]) = (iSel_br bu l url fl).val := by kernel_rfl
def iSel_s : List AV → List Ob → Br
  | [.agg [.int .i64 bu, .sh EnT l], .str url, .sh (.pair .str .str) fl], [] => iSel_br bu l url fl
  | _, _ => .fail
theorem iSel_ok : Sound Kx 35 iSel_s := by
  refine sound_run (C := iSel_C) (O := iSel_O) KOk iSel_C_ok Tryz.func35 (by kernel_rfl) fun args objs res os h => ?_
  unfold iSel_s at h
  split at h
  · exact ⟨1, (iSel_run _ _ _ _).trans h⟩
  · cases h

end
end Go.Proofs.YtmmjaomfonknnaaGreatDoor.Ev

namespace Go.Proofs.YtmmjaomfonknnaaGreatDoor.Ev
open Go Go.RowKit
set_option linter.unusedVariables false
set_option linter.unusedSimpArgs false
noncomputable section
theorem iSel_okQ : Sound Kx 35 (sel_s selP) := iSel_ok.of fun args objs r h => by
  unfold sel_s at h; split at h
  · rename_i bu l url fl
    obtain ⟨h1, h2⟩ := ite_some h
    cases h2
    show (iSel_br bu l url fl).val = some (.int .i64 (selP bu l url fl), [])
    unfold iSel_br selP
    cases c : cacheP bu l <;> simp only [Br.val, h1, cond_true, cond_false, Bool.not_true, Bool.not_false]
  · cases h
end
end Go.Proofs.YtmmjaomfonknnaaGreatDoor.Ev

namespace Go.Proofs.YtmmjaomfonknnaaGreatDoor.Ev
open Go Go.RowKit
set_option linter.unusedVariables false
set_option linter.unusedSimpArgs false
noncomputable section

def lSelect_O : Opt := { cons := [], keepNil := false, mutF := [], live := [], outs := [] }
def lSelect_C : Spec := (add (add (add (add (add (add (add (add noS 15 szCache_s) 28 (szFieldS_sOf fun l left => .ite (smF l && okLeft left) (.ret (.int .i64 (szFl l left)) []) .fail)) 17 toCache_s) 30 (toFieldS_sOf fun l => .ite (decide (l.length ≤ 1048576)) (.ret (.ref 0 0) [.arr (.pair .str .str) 0 false l]) .fail)) 19 eqCache_s) 24 (eqFieldS_sOf fun l l' => .ite (decide (l.length ≤ 4611686018427387904)) (.ret (.bool (decide (l = l'))) []) .fail)) 35 (sel_s selP)) 34 (sel_s selP))
theorem lSelect_C_ok : ∀ fn, Sound Kx fn (lSelect_C fn) := (sound_add (sound_add (sound_add (sound_add (sound_add (sound_add (sound_add (sound_add (sound_no Kx) szCache_ok) szFieldS_okQ) toCache_ok) toFieldS_okQ) eqCache_ok) eqFieldS_okQ) iSel_okQ) sSel_okQ)
def lSelect_br (bu : Int) (l : List En) (url : Bytes) (fl : List Fd) : Br := (Br.ite (decide ((1048576 : Int) < ((List.length url) : Int))) (Br.ret (AV.bool true) ([] : List Ob)) (Br.ite ((smEs l) && true) (Br.ite (decide ((szEs l (1048576 : Int)) < (0 : Int))) (Br.ret (AV.bool true) ([] : List Ob)) (Br.ite (decide ((szEs l (1048576 : Int)) < (0 : Int))) (Br.ret (AV.bool true) ([] : List Ob)) (Br.ite ((smF fl) && (okLeft (szEs l (1048576 : Int)))) (Br.ite (decide ((szFl fl (szEs l (1048576 : Int))) < (0 : Int))) (Br.ret (AV.bool true) ([] : List Ob)) (Br.ite (shEs l) (Br.ite (decide ((List.length fl) ≤ (1048576 : Nat))) (Br.ite (okEs l) (Br.ite (shEs l) (Br.ite (decide ((List.length fl) ≤ (1048576 : Nat))) (Br.ite (okEs l) (Br.ite (!(decide ((selP bu l url fl) = (selP bu l url fl)))) (Br.ret (AV.bool false) ([] : List Ob)) (Br.ite (shEs l) (Br.ite (!(decide (bu = bu))) (Br.ret (AV.bool false) ([] : List Ob)) (Br.ite ((eqEsb l l) && (shEs l)) (Br.ite (decide ((List.length fl) ≤ (1048576 : Nat))) (Br.ite (decide ((List.length fl) ≤ (4611686018427387904 : Nat))) (Br.ite (!(decide (fl = fl))) (Br.ret (AV.bool false) ([] : List Ob)) (Br.ret (AV.bool true) ([] : List Ob))) Br.fail) Br.fail) Br.fail)) Br.fail)) Br.fail) Br.fail) Br.fail) Br.fail) Br.fail) Br.fail)) Br.fail))) Br.fail))
theorem lSelect_run (bu : Int) (l : List En) (url : Bytes) (fl : List Fd) : runF Kx lSelect_C lSelect_O 1 Tryz.f9 ([.agg [.int .i64 bu, .sh EnT l], .str url, .sh (.pair .str .str) fl]) ([]) = (lSelect_br bu l url fl).val := by kernel_rfl
def lSelect_s : List AV → List Ob → Br
  | [.agg [.int .i64 bu, .sh EnT l], .str url, .sh (.pair .str .str) fl], [] => lSelect_br bu l url fl
  | _, _ => .fail
theorem lSelect_ok : Sound Kx 9 lSelect_s := by
  refine sound_run (C := lSelect_C) (O := lSelect_O) KOk lSelect_C_ok Tryz.func9 (by kernel_rfl) fun args objs res os h => ?_
  unfold lSelect_s at h
  split at h
  · exact ⟨1, (lSelect_run _ _ _ _).trans h⟩
  · cases h

end
end Go.Proofs.YtmmjaomfonknnaaGreatDoor.Ev

namespace Go.Proofs.YtmmjaomfonknnaaGreatDoor.Ev
open Go Go.RowKit
set_option linter.unusedVariables false
set_option linter.unusedSimpArgs false
theorem okLeft_of {x : Int} (h : 0 ≤ x) (h1 : x ≤ 1048576) : okLeft x = true := by
  unfold okLeft; rw [decide_eq_true h, decide_eq_true h1]; rfl
theorem szFl_small {l : List Fd} {left : Int} (hl : left ≤ 1048576) (h : ¬ szFl l left < 0) : l.length ≤ 1048576 := by
  unfold szFl at h
  have ht := totF_nn l
  cases hc : decide ((l.length : Int) + totF l ≤ left)
  · rw [hc, cond_false] at h; omega
  · have hc := of_decide_eq_true hc; omega
theorem szEs_le {l : List En} (h : ¬ szEs l 1048576 < 0) : szEs l 1048576 ≤ 1048576 := by
  unfold szEs at h ⊢
  have ht := totW_nn l
  cases hc : decide ((l.length : Int) + totW l ≤ 1048576)
  · rw [cond_false]; omega
  · rw [cond_true]; omega
theorem lSelect_val (bu : Int) (l : List En) (url : Bytes) (fl : List Fd) (h : smEs l = true) (h' : smF fl = true) : (lSelect_br bu l url fl).val = some (.bool true, []) := by
  unfold lSelect_br
  by_cases c0 : 1048576 < (url.length : Int)
  · exact val_t (decide_eq_true c0)
  refine (val_f (decide_eq_false c0)).trans ?_
  refine (val_t (by rw [h]; rfl)).trans ?_
  by_cases c : szEs l 1048576 < 0
  · exact val_t (decide_eq_true c)
  obtain ⟨h1, h2⟩ := szEs_small c
  have hle := szEs_le c
  refine (val_f (decide_eq_false c)).trans ?_
  refine (val_f (decide_eq_false c)).trans ?_
  refine (val_t (by rw [h', okLeft_of (by omega) hle]; rfl)).trans ?_
  by_cases c2 : szFl fl (szEs l 1048576) < 0
  · exact val_t (decide_eq_true c2)
  refine (val_f (decide_eq_false c2)).trans ?_
  have hs := szFl_small hle c2
  have e3 : decide (fl.length ≤ 1048576) = true := decide_eq_true hs
  have e4 : decide (fl.length ≤ 4611686018427387904) = true := decide_eq_true (by omega)
  simp only [Br.val, e3, e4, h1, h2, eqEsb_self, decide_true, Bool.not_true, Bool.and_self, cond_true, cond_false]
theorem fnExactSelect_true (xs : List AV) (h : Args [(tyCache, true), (.str, false), (.slice (.pair .str .str), false)] xs) : (lSelect_s xs []).val = some (.bool true, []) := by
  obtain ⟨⟨bu, l⟩, a', g, rfl, ⟨url, b', g1, rfl, ⟨fl, c', g2, rfl, rfl⟩⟩⟩ := h
  exact lSelect_val bu l url fl (good_smEs g.2) (good_smFE g2)
end Go.Proofs.YtmmjaomfonknnaaGreatDoor.Ev
