/- The texts Ya, Yb, Yc, Yd, Ye, Yf, Yg, ContS, Yh, Yi, Yj, Yk, Qi, Qj, Qk, Ql, Qm, Qn, Qo, Yl, Ym, Yn, Yo, Za, Zb, Zc, Zd, Ze, Zf, Zg, Zh, Zi, Zj, Zk, Zl, Zm, Zn, Zo, Zp, Zq, Zr, Sa, Sb, Kp, Tg, one behind the other. -/
import Derived.Test.YtgknmoadpgpdeaaGreatDoorK25
import Derived.Test.YtgknmoadpgpdeaaGreatDoorK29
import Derived.Test.YtgknmoadpgpdeaaGreatDoorK13
import Derived.Test.YtgknmoadpgpdeaaGreatDoorK24
import Derived.Test.YtgknmoadpgpdeaaGreatDoorK19
import Derived.Test.YtgknmoadpgpdeaaGreatDoorK20
namespace Go.Proofs.YtgknmoadpgpdeaaGreatDoor.Ev
open Go Go.RowKit
set_option linter.unusedVariables false
set_option linter.unusedSimpArgs false
noncomputable section

def iDB_br (y : Int) : Br := (Br.ret (AV.int .i64 (wk64 ((wk64 ((wk64 ((wk64 ((wk64 (365 * (wk64 (y - 1970)))) + (wk64 (Int.tdiv (wk64 (y - 1)) 4)))) - (wk64 (Int.tdiv (wk64 (y - 1)) 100)))) + (wk64 (Int.tdiv (wk64 (y - 1)) 400)))) - 477))) [])
def iDB_s : List AV → List Ob → Br
  | [.int .i64 y], [] => iDB_br y
  | _, _ => .fail
theorem iDB_ok : Sound Kx 249 iDB_s := sound_br (C := []) (O := O0) Tryz.func249 (by kernel_rfl) fun args objs => by
  unfold iDB_s; split
  · exact .inr (by kernel_rfl)
  · exact .inl rfl

def iDO_br (y m : Int) : Br := (Br.ite (decide (m = 2)) (Br.ite (decide ((Int.tmod y 4) = 0)) (Br.ite (!(decide ((Int.tmod y 100) = 0))) (Br.ret (AV.int .i64 29) []) (Br.ite (decide ((Int.tmod y 400) = 0)) (Br.ret (AV.int .i64 29) []) (Br.ite (decide (m = 2)) (Br.ret (AV.int .i64 28) []) (Br.ite (decide (m = 4)) (Br.ret (AV.int .i64 30) []) (Br.ite (decide (m = 6)) (Br.ret (AV.int .i64 30) []) (Br.ite (decide (m = 9)) (Br.ret (AV.int .i64 30) []) (Br.ite (decide (m = 11)) (Br.ret (AV.int .i64 30) []) (Br.ret (AV.int .i64 31) [])))))))) (Br.ite (decide ((Int.tmod y 400) = 0)) (Br.ret (AV.int .i64 29) []) (Br.ite (decide (m = 2)) (Br.ret (AV.int .i64 28) []) (Br.ite (decide (m = 4)) (Br.ret (AV.int .i64 30) []) (Br.ite (decide (m = 6)) (Br.ret (AV.int .i64 30) []) (Br.ite (decide (m = 9)) (Br.ret (AV.int .i64 30) []) (Br.ite (decide (m = 11)) (Br.ret (AV.int .i64 30) []) (Br.ret (AV.int .i64 31) [])))))))) (Br.ite (decide (m = 2)) (Br.ret (AV.int .i64 28) []) (Br.ite (decide (m = 4)) (Br.ret (AV.int .i64 30) []) (Br.ite (decide (m = 6)) (Br.ret (AV.int .i64 30) []) (Br.ite (decide (m = 9)) (Br.ret (AV.int .i64 30) []) (Br.ite (decide (m = 11)) (Br.ret (AV.int .i64 30) []) (Br.ret (AV.int .i64 31) [])))))))
def iDO_s : List AV → List Ob → Br
  | [.int .i64 y, .int .i64 m], [] => iDO_br y m
  | _, _ => .fail
theorem iDO_ok : Sound Kx 250 iDO_s := sound_br (C := []) (O := O0) Tryz.func250 (by kernel_rfl) fun args objs => by
  unfold iDO_s; split
  · exact .inr (by kernel_rfl)
  · exact .inl rfl

def iDig_O : Opt := { live := [(2, [0, 1, 5])], outs := [(2, [4, 5])] }
def iDig_C : SC := [⟨232, _, itoa_ok⟩]
def iDig_T2 (v2x0 v2x1 : Int) (v2x2 : Bytes) (kR2 : Int → Int → Bytes → Option Rs) (k2e0 : Bytes → Option Rs) : Option Rs :=
  (bif (decide (0 < v2x1)) then (bif (num15 (Int.tmod v2x0 10)) then (bif (decide (((List.length (decD (Int.tmod v2x0 10))) + v2x2.length) ≤ 9223372036854775807)) then (kR2 (wk64 (Int.tdiv v2x0 10)) (wk64 (v2x1 - 1)) ((decD (Int.tmod v2x0 10)) ++ v2x2)) else (none)) else (none)) else (k2e0 v2x2))
def iDig_F2 : Nat → Int → Int → Bytes → (Bytes → Option Rs) → Option Rs
  | 0, _, _, _, _ => none
  | n + 1, v2x0, v2x1, v2x2, k2e0 => iDig_T2 v2x0 v2x1 v2x2 (fun v2x0 v2x1 v2x2 => iDig_F2 n v2x0 v2x1 v2x2 k2e0) k2e0
abbrev iDig_p2 : SP := ⟨18, [0, 1, 5], [(.v (.i .i64)), (.v (.i .i64)), (.v .s)], []⟩
noncomputable def iDig_b2 : Code := codeAt (codeOf Tryz.f254) [1, 1, 0, 0, 0]
def iDig_E2 (f : (Bytes → Option Rs) → Option Rs) (k : KT) : Option Rs := f (fun x2x0x0 => k (Ex.exit 0) ((St.mk (slots 0 18 [(5, (AV.str x2x0x0))]) ([] : (List (Nat × (Ob)))))))
def iDig_G2 (n : Nat) (d : iDig_p2.D) : KT → Option Rs := iDig_E2 (iDig_F2 n d.1.1 d.1.2.1 d.1.2.2.1)
def iDig_L (N : Nat) : Lam := lamOf [⟨2, iDig_p2, iDig_G2 N⟩]
theorem iDig_ok2 (N : Nat) : OkL Kx iDig_C.s iDig_O 0 N (iDig_L N) iDig_b2 := okL iDig_p2 (iDig_G2) (fun d kR => iDig_E2 (iDig_T2 d.1.1 d.1.2.1 d.1.2.2.1 (fun v2x0 v2x1 v2x2 => kR ((v2x0, v2x1, v2x2, ()), ())))) (fun _ _ => by kernel_rfl) (fun _ _ _ => by kernel_rfl) (fun _ _ => by kernel_rfl) (fun _ _ _ _ => by kernel_rfl) (okEach (l' := []) (by kernel_rfl) trivial)
def iDig_run (N : Nat) (n k : Int) : Option Rs := (iDig_F2 N n k ([] : Bytes) (fun x2x0x0 => (some ((AV.str x2x0x0), []))))
def iDig_sOf (φ : Int → Int → Br) : List AV → List Ob → Br
  | [.int .i64 n, .int .i64 k], [] => φ n k
  | _, _ => .fail
theorem iDig_okOf {φ : Int → Int → Br} (fu : Int → Int → Nat) (hv : ∀ n k res_, (φ n k).val = some res_ → iDig_run (fu n k) n k = some res_) : Sound Kx 254 (iDig_sOf φ) := sound_lp (C := iDig_C) (O := iDig_O) Tryz.func254 (by kernel_rfl) fun args objs => by
  unfold iDig_sOf; split
  · rename_i n k; exact .inr fun _ hyp_ => run_lp (Λ := iDig_L (fu n k)) (by kernel_rfl) (okEach (l' := [iDig_b2]) (by kernel_rfl) ⟨iDig_ok2 _, trivial⟩) (by kernel_rfl) (hv n k _ hyp_)
  · exact .inl rfl

def iDays_br  : Br := (Br.ret (AV.ref 0 0) ((Ob.arr Ty.str 0 false (List.set (List.set (List.set (List.set (List.set (List.set (List.set (List.replicate 7 ([] : Bytes)) 0 ([77, 111, 110, 100, 97, 121] : Bytes)) 1 ([84, 117, 101, 115, 100, 97, 121] : Bytes)) 2 ([87, 101, 100, 110, 101, 115, 100, 97, 121] : Bytes)) 3 ([84, 104, 117, 114, 115, 100, 97, 121] : Bytes)) 4 ([70, 114, 105, 100, 97, 121] : Bytes)) 5 ([83, 97, 116, 117, 114, 100, 97, 121] : Bytes)) 6 ([83, 117, 110, 100, 97, 121] : Bytes))) :: []))
def iDays_s : List AV → List Ob → Br
  | [], [] => iDays_br 
  | _, _ => .fail
theorem iDays_ok : Sound Kx 252 iDays_s := sound_br (C := []) (O := O0) Tryz.func252 (by kernel_rfl) fun args objs => by
  unfold iDays_s; split
  · exact .inr (by kernel_rfl)
  · exact .inl rfl

def iMons_br  : Br := (Br.ret (AV.ref 0 0) ((Ob.arr Ty.str 0 false (List.set (List.set (List.set (List.set (List.set (List.set (List.set (List.set (List.set (List.set (List.set (List.set (List.replicate 12 ([] : Bytes)) 0 ([74, 97, 110] : Bytes)) 1 ([70, 101, 98] : Bytes)) 2 ([77, 97, 114] : Bytes)) 3 ([65, 112, 114] : Bytes)) 4 ([77, 97, 121] : Bytes)) 5 ([74, 117, 110] : Bytes)) 6 ([74, 117, 108] : Bytes)) 7 ([65, 117, 103] : Bytes)) 8 ([83, 101, 112] : Bytes)) 9 ([79, 99, 116] : Bytes)) 10 ([78, 111, 118] : Bytes)) 11 ([68, 101, 99] : Bytes))) :: []))
def iMons_s : List AV → List Ob → Br
  | [], [] => iMons_br 
  | _, _ => .fail
theorem iMons_ok : Sound Kx 245 iMons_s := sound_br (C := []) (O := O0) Tryz.func245 (by kernel_rfl) fun args objs => by
  unfold iMons_s; split
  · exact .inr (by kernel_rfl)
  · exact .inl rfl

def iNums_O : Opt := { live := [(7, [0, 3, 4, 5, 6]), (3, [0, 3, 4])], outs := [(7, [0, 2, 3, 4, 5, 6]), (3, [2, 3])] }
def iNums_C : SC := [⟨244, _, isDigit_okQ⟩]
def iNums_T7 (v7x0 : Bytes) (v7x1 v7x2 v7x3 : Int) (v7x4 : (List Int)) (kR7 k7e0 : Bytes → Int → Int → Int → (List Int) → Option Rs) : Option Rs :=
  (bif (decide (v7x2 < (v7x0.length : Int))) then (bif (decide (0 ≤ v7x2)) then (bif (decide (v7x2 < (v7x0.length : Int))) then (bif (isDig (strAt v7x0 v7x2)) then (bif (decide ((wk64 (v7x2 - v7x1)) < 9)) then (bif (decide (0 ≤ v7x2)) then (bif (decide (v7x2 < (v7x0.length : Int))) then (kR7 v7x0 v7x1 (wk64 (v7x2 + 1)) (wk64 ((wk64 (10 * v7x3)) + (wk64 (wk8 ((strAt v7x0 v7x2) - 48))))) v7x4) else (none)) else (none)) else (k7e0 v7x0 v7x1 v7x2 v7x3 v7x4)) else (k7e0 v7x0 v7x1 v7x2 v7x3 v7x4)) else (none)) else (none)) else (k7e0 v7x0 v7x1 v7x2 v7x3 v7x4))
def iNums_F7 : Nat → Bytes → Int → Int → Int → (List Int) → (Bytes → Int → Int → Int → (List Int) → Option Rs) → Option Rs
  | 0, _, _, _, _, _, _ => none
  | n + 1, v7x0, v7x1, v7x2, v7x3, v7x4, k7e0 => iNums_T7 v7x0 v7x1 v7x2 v7x3 v7x4 (fun v7x0 v7x1 v7x2 v7x3 v7x4 => iNums_F7 n v7x0 v7x1 v7x2 v7x3 v7x4 k7e0) k7e0
abbrev iNums_p7 : SP := ⟨50, [0, 3, 4, 5, 6], [(.v .s), (.v (.ref 256 0)), (.v (.i .i64)), (.v (.i .i64)), (.v (.i .i64))], [(256, .arr (Ty.int .i64) 0 false)]⟩
noncomputable def iNums_b7 : Code := codeAt (codeOf Tryz.f205) [1, 1, 0, 1, 0, 0, 1, 0, 0, 1, 1, 0, 0, 0]
def iNums_E7 (f : (Bytes → Int → Int → Int → (List Int) → Option Rs) → Option Rs) (k : KT) : Option Rs := f (fun x7x0x0 x7x0x1 x7x0x2 x7x0x3 x7x0x4 => k (Ex.exit 2) ((St.mk (slots 0 50 [(0, (AV.str x7x0x0)), (3, (AV.ref 256 0)), (4, (AV.int .i64 x7x0x1)), (5, (AV.int .i64 x7x0x2)), (6, (AV.int .i64 x7x0x3))]) ((256, (Ob.arr (Ty.int .i64) 0 false x7x0x4)) :: ([] : (List (Nat × (Ob))))))))
def iNums_G7 (n : Nat) (d : iNums_p7.D) : KT → Option Rs := iNums_E7 (iNums_F7 n d.1.1 d.1.2.2.1 d.1.2.2.2.1 d.1.2.2.2.2.1 d.2.1)
def iNums_T3 (N : Nat) (v3x0 : Bytes) (v3x1 : Int) (v3x2 : (List Int)) (kR3 : Bytes → Int → (List Int) → Option Rs) (k3e0 : (List Int) → Option Rs) : Option Rs :=
  (bif (decide (v3x1 < (v3x0.length : Int))) then (iNums_F7 N v3x0 v3x1 v3x1 0 v3x2 (fun x7x0x0 => (fun x7x0x1 => (fun x7x0x2 => (fun x7x0x3 => (fun x7x0x4 => (bif (decide (x7x0x1 < x7x0x2)) then (bif (decide (((x7x0x4.length + (List.length (List.set (List.replicate 1 0) 0 x7x0x3))) * 8) ≤ 140737488355328)) then (kR3 x7x0x0 (wk64 ((wk64 (x7x0x2 - 1)) + 1)) (x7x0x4 ++ (List.set (List.replicate 1 0) 0 x7x0x3))) else (none)) else (kR3 x7x0x0 (wk64 (x7x0x1 + 1)) x7x0x4)))))))) else (k3e0 v3x2))
def iNums_F3 (N : Nat) : Nat → Bytes → Int → (List Int) → ((List Int) → Option Rs) → Option Rs
  | 0, _, _, _, _ => none
  | n + 1, v3x0, v3x1, v3x2, k3e0 => iNums_T3 N v3x0 v3x1 v3x2 (fun v3x0 v3x1 v3x2 => iNums_F3 N n v3x0 v3x1 v3x2 k3e0) k3e0
abbrev iNums_p3 : SP := ⟨50, [0, 3, 4], [(.v .s), (.v (.ref 256 0)), (.v (.i .i64))], [(256, .arr (Ty.int .i64) 0 false)]⟩
noncomputable def iNums_b3 : Code := codeAt (codeOf Tryz.f205) [1, 1, 0, 1, 0, 0]
def iNums_E3 (f : ((List Int) → Option Rs) → Option Rs) (k : KT) : Option Rs := f (fun x3x0x0 => k (Ex.exit 0) ((St.mk (slots 0 50 [(3, (AV.ref 256 0))]) ((256, (Ob.arr (Ty.int .i64) 0 false x3x0x0)) :: ([] : (List (Nat × (Ob))))))))
def iNums_G3 (N n : Nat) (d : iNums_p3.D) : KT → Option Rs := iNums_E3 (iNums_F3 N n d.1.1 d.1.2.2.1 d.2.1)
def iNums_L (N : Nat) : Lam := lamOf [⟨7, iNums_p7, iNums_G7 N⟩, ⟨3, iNums_p3, iNums_G3 N N⟩]
theorem iNums_ok7 (N : Nat) : OkL Kx iNums_C.s iNums_O 0 N (iNums_L N) iNums_b7 := okL iNums_p7 (iNums_G7) (fun d kR => iNums_E7 (iNums_T7 d.1.1 d.1.2.2.1 d.1.2.2.2.1 d.1.2.2.2.2.1 d.2.1 (fun v7x0 v7x1 v7x2 v7x3 v7x4 => kR ((v7x0, (), v7x1, v7x2, v7x3, ()), (v7x4, ()))))) (fun _ _ => by kernel_rfl) (fun _ _ _ => by kernel_rfl) (fun _ _ => by kernel_rfl) (fun _ _ _ _ => by kernel_rfl) (okEach (l' := []) (by kernel_rfl) trivial)
theorem iNums_ok3 (N : Nat) : OkL Kx iNums_C.s iNums_O 0 N (iNums_L N) iNums_b3 := okL iNums_p3 (iNums_G3 N) (fun d kR => iNums_E3 (iNums_T3 N d.1.1 d.1.2.2.1 d.2.1 (fun v3x0 v3x1 v3x2 => kR ((v3x0, (), v3x1, ()), (v3x2, ()))))) (fun _ _ => by kernel_rfl) (fun _ _ _ => by kernel_rfl) (fun _ _ => by kernel_rfl) (fun _ _ _ _ => by kernel_rfl) (okEach (l' := [iNums_b7]) (by kernel_rfl) ⟨iNums_ok7 _, trivial⟩)
def iNums_run (N : Nat) (s : Bytes) : Option Rs := (iNums_F3 N N s 0 ([] : (List Int)) (fun x3x0x0 => (some ((AV.ref 0 0), ((Ob.arr (Ty.int .i64) 0 false x3x0x0) :: [])))))
def iNums_sOf (φ : Bytes → Br) : List AV → List Ob → Br
  | [.str s], [] => φ s
  | _, _ => .fail
theorem iNums_okOf {φ : Bytes → Br} (fu : Bytes → Nat) (hv : ∀ s res_, (φ s).val = some res_ → iNums_run (fu s) s = some res_) : Sound Kx 205 (iNums_sOf φ) := sound_lp (C := iNums_C) (O := iNums_O) Tryz.func205 (by kernel_rfl) fun args objs => by
  unfold iNums_sOf; split
  · rename_i s; exact .inr fun _ hyp_ => run_lp (Λ := iNums_L (fu s)) (by kernel_rfl) (okEach (l' := [iNums_b3, iNums_b7]) (by kernel_rfl) ⟨iNums_ok3 _, iNums_ok7 _, trivial⟩) (by kernel_rfl) (hv s _ hyp_)
  · exact .inl rfl

def j1_s (g : Int → Bool) (p : Int → AV) : List AV → List Ob → Br
  | [.int .i64 n], [] => .ite (g n) (.ret (p n) []) .fail
  | _, _ => .fail
theorem of_j1 {n : Nat} {s : List AV → List Ob → Br} (hs : Sound Kx n s) {g : Int → Bool} {p : Int → AV} (h : ∀ a, g a = true → (s [.int .i64 a] []).val = some (p a, [])) : Sound Kx n (j1_s g p) := hs.of fun args objs r hv => by
  unfold j1_s at hv
  split at hv
  case h_2 => cases hv
  obtain ⟨h1, h2⟩ := ite_some hv
  cases h2
  exact h _ h1
def j2_s (g : Int → Int → Bool) (p : Int → Int → AV) : List AV → List Ob → Br
  | [.int .i64 n, .int .i64 k], [] => .ite (g n k) (.ret (p n k) []) .fail
  | _, _ => .fail
theorem of_j2 {n : Nat} {s : List AV → List Ob → Br} (hs : Sound Kx n s) {g : Int → Int → Bool} {p : Int → Int → AV} (h : ∀ a b, g a b = true → (s [.int .i64 a, .int .i64 b] []).val = some (p a b, [])) : Sound Kx n (j2_s g p) := hs.of fun args objs r hv => by
  unfold j2_s at hv
  split at hv
  case h_2 => cases hv
  obtain ⟨h1, h2⟩ := ite_some hv
  cases h2
  exact h _ _ h1
def yrB (y : Int) : Bool := decide (1 ≤ y) && decide (y ≤ 100000)
theorem yrB_le {y : Int} (h : yrB y = true) : 1 ≤ y ∧ y ≤ 100000 := by unfold yrB at h; rw [Bool.and_eq_true, decide_eq_true_eq, decide_eq_true_eq] at h; exact h
theorem iDB_okQ : Sound Kx 249 (j1_s yrB fun y => .int .i64 (dB y)) := of_j1 iDB_ok fun y h => by
  obtain ⟨h1, h2⟩ := yrB_le h
  show (iDB_br y).val = some (.int .i64 (dB y), [])
  have t : ∀ k : Int, Int.tdiv (y - 1) k = (y - 1) / k := fun k => Int.tdiv_eq_ediv_of_nonneg (by omega)
  unfold iDB_br dB
  rw [w64 (n := y - 1) (by omega) (by omega), w64 (n := y - 1970) (by omega) (by omega), t 4, t 100, t 400]
  simp (disch := omega) only [w64, Br.val]
theorem leap_t {y : Int} (h : 0 ≤ y) (k : Int) : Int.tmod y k = y % k := Int.tmod_eq_emod_of_nonneg h
theorem iDO_okQ : Sound Kx 250 (j2_s (fun y _ => yrB y) fun y m => .int .i64 (mLen y m)) := of_j2 iDO_ok fun y m h => by
  obtain ⟨h1, h2⟩ := yrB_le h
  show (iDO_br y m).val = some (.int .i64 (mLen y m), [])
  unfold iDO_br mLen leapB
  rw [leap_t (by omega), leap_t (by omega), leap_t (by omega)]
  generalize decide (m = 2) = b1
  generalize decide (m = 4) = b2
  generalize decide (m = 6) = b3
  generalize decide (m = 9) = b4
  generalize decide (m = 11) = b5
  by_cases c8 : y % 400 = 0
  · rw [decide_eq_true c8, decide_eq_true (show y % 4 = 0 by omega)]
    generalize decide (y % 100 = 0) = b7
    cases b1 <;> cases b2 <;> cases b3 <;> cases b4 <;> cases b5 <;> cases b7 <;> rfl
  · rw [decide_eq_false c8]
    generalize decide (y % 4 = 0) = b6
    generalize decide (y % 100 = 0) = b7
    cases b1 <;> cases b2 <;> cases b3 <;> cases b4 <;> cases b5 <;> cases b6 <;> cases b7 <;> rfl
theorem dec_one {n : Int} : decD (n % 10) = [dg n] := by
  rw [decD_eq, Lib.decDigits, dif_pos (by omega)]; rfl
theorem iDig_loop (k : Bytes → Option Rs) : ∀ (j : Nat) (N : Int) (out : Bytes) (n : Nat), j < n → 0 ≤ N → N ≤ 999999999999999 → out.length + j ≤ 1000 → iDig_F2 n N (j : Int) out k = k (padP j N ++ out) := by
  intro j; induction j with
  | zero => intro N out n hn h0 h1 h2; obtain ⟨n, rfl⟩ := fuel hn; unfold iDig_F2 iDig_T2; rw [decide_eq_false (by simp)]; rfl
  | succ j ih =>
    intro N out n hn h0 h1 h2; obtain ⟨n, rfl⟩ := fuel hn
    have e0 : decide ((0 : Int) < ((j + 1 : Nat) : Int)) = true := decide_eq_true (by omega)
    have e1 : num15 (N % 10) = true := by unfold num15; rw [decide_eq_true (by omega), decide_eq_true (by omega)]; rfl
    have e2 : Int.tdiv N 10 = N / 10 := Int.tdiv_eq_ediv_of_nonneg h0
    have e3 : decide (([dg N].length + out.length) ≤ 9223372036854775807) = true := decide_eq_true (by simp only [List.length_singleton]; omega)
    have e4 : wk64 (((j + 1 : Nat) : Int) - 1) = (j : Int) := by rw [w64 (by omega) (by omega)]; omega
    unfold iDig_F2 iDig_T2
    rw [leap_t h0, dec_one, e2, w64 (n := N / 10) (by omega) (by omega), e4]
    simp only [e0, e1, e3, cond_true]
    rw [ih (N / 10) ([dg N] ++ out) n (by omega) (by omega) (by omega) (by simp only [List.length_append, List.length_singleton]; omega)]
    rw [show padP (j + 1) N = padP j (N / 10) ++ [dg N] from rfl, List.append_assoc]
def dgB (n k : Int) : Bool := num15 n && (decide (0 ≤ k) && decide (k ≤ 100))
theorem num15_le {n : Int} (h : num15 n = true) : 0 ≤ n ∧ n ≤ 999999999999999 := by unfold num15 at h; rw [Bool.and_eq_true, decide_eq_true_eq, decide_eq_true_eq] at h; exact h
theorem iDig_okQ : Sound Kx 254 (j2_s dgB fun n k => .str (padP k.toNat n)) := by
  refine (iDig_okOf (φ := fun n k => .ite (dgB n k) (.ret (.str (padP k.toNat n)) []) .fail) (fun _ k => k.toNat + 1) fun n k r h => ?_).of fun args objs r h => ?_
  · obtain ⟨h1, h2⟩ := ite_some h
    cases h2
    unfold dgB at h1
    rw [Bool.and_eq_true, Bool.and_eq_true, decide_eq_true_eq, decide_eq_true_eq] at h1
    obtain ⟨g1, g2⟩ := num15_le h1.1
    unfold iDig_run
    have e : k = ((k.toNat : Nat) : Int) := by omega
    have := iDig_loop (fun x => some (.str x, [])) k.toNat n [] (k.toNat + 1) (by omega) g1 g2 (by simp only [List.length_nil]; omega)
    rw [← e, List.append_nil] at this
    exact this
  · unfold j2_s at h; split at h
    · exact h
    · cases h
def dayT : List Bytes := [[77, 111, 110, 100, 97, 121], [84, 117, 101, 115, 100, 97, 121], [87, 101, 100, 110, 101, 115, 100, 97, 121], [84, 104, 117, 114, 115, 100, 97, 121], [70, 114, 105, 100, 97, 121], [83, 97, 116, 117, 114, 100, 97, 121], [83, 117, 110, 100, 97, 121]]
def monL : List Bytes := [[74, 97, 110], [70, 101, 98], [77, 97, 114], [65, 112, 114], [77, 97, 121], [74, 117, 110], [74, 117, 108], [65, 117, 103], [83, 101, 112], [79, 99, 116], [78, 111, 118], [68, 101, 99]]
def l0_s (l : List Bytes) : List AV → List Ob → Br
  | [], [] => .ret (.ref 0 0) [.arr .str 0 false l]
  | _, _ => .fail
theorem iDays_okQ : Sound Kx 252 (l0_s dayT) := iDays_ok.of fun args objs r h => by
  unfold l0_s at h; split at h
  · rw [← h]; rfl
  · cases h
theorem iMons_okQ : Sound Kx 245 (l0_s monL) := iMons_ok.of fun args objs r h => by
  unfold l0_s at h; split at h
  · rw [← h]; rfl
  · cases h
def moB (m : Int) : Bool := decide (1 ≤ m) && decide (m ≤ 12)
def pdB (n k : Int) : Bool := bif decide (k = 2) then decide (0 ≤ n) && decide (n ≤ 99) else bif decide (k = 4) then decide (0 ≤ n) && decide (n ≤ 9999) else false
def runR : Nat → Int → Bytes → Int × Bytes
  | _, n, [] => (n, [])
  | j, n, c :: r => bif isDig (by8 c) then (bif decide (j < 9) then runR (j + 1) (10 * n + (by8 c - 48)) r else (n, c :: r)) else (n, c :: r)
theorem numG_run : ∀ (r : Bytes) (j : Nat) (n : Int), numG (some (n, j)) r = (runR j n r).1 :: numG none (runR j n r).2
  | [], j, n => rfl
  | c :: r, j, n => by
    unfold runR
    cases hd : isDig (by8 c)
    · simp only [numG, hd, cond_false]
    · by_cases h9 : j < 9
      · simp only [numG, hd, cond_true, decide_eq_true h9]
        exact numG_run r (j + 1) _
      · simp only [numG, hd, cond_true, decide_eq_false h9, cond_false]
theorem run_suf : ∀ (r : Bytes) (j : Nat) (n : Int), ∃ p, r = p ++ (runR j n r).2
  | [], j, n => ⟨[], rfl⟩
  | c :: r, j, n => by
    unfold runR
    cases hd : isDig (by8 c)
    · exact ⟨[], rfl⟩
    · by_cases h9 : j < 9
      · rw [decide_eq_true h9]
        obtain ⟨p, hp⟩ := run_suf r (j + 1) (10 * n + (by8 c - 48))
        exact ⟨c :: p, by rw [cond_true, cond_true, List.cons_append, ← hp]⟩
      · rw [decide_eq_false h9]; exact ⟨[], rfl⟩
theorem dig_bd {c : UInt8} (h : isDig (by8 c) = true) : 48 ≤ by8 c ∧ by8 c ≤ 57 := by
  unfold isDig at h; rw [Bool.and_eq_true, decide_eq_true_eq, decide_eq_true_eq] at h; exact h
theorem pow9 {j : Nat} (h : j ≤ 9) : (10 : Int) ^ j ≤ 1000000000 := by
  have : j = 0 ∨ j = 1 ∨ j = 2 ∨ j = 3 ∨ j = 4 ∨ j = 5 ∨ j = 6 ∨ j = 7 ∨ j = 8 ∨ j = 9 := by omega
  rcases this with rfl | rfl | rfl | rfl | rfl | rfl | rfl | rfl | rfl | rfl <;> decide
theorem w8d {n : Int} (h0 : 0 ≤ n) (h1 : n ≤ 255) : wk8 n = n := w8 (by omega) (by omega)
theorem iNums7_loop (s : Bytes) (hl : s.length ≤ 4611686018427387904) (i : Int) (out : List Int) (K : Bytes → Int → Int → Int → List Int → Option Rs) : ∀ (r : Bytes) (j : Nat) (n k : Int) (m : Nat), At s k r → k = i + j → 0 ≤ i → r.length < m → j ≤ 9 → 0 ≤ n → n < 10 ^ j →
    iNums_F7 m s i k n out K = K s i ((s.length : Int) - (runR j n r).2.length) (runR j n r).1 out := by
  intro r; induction r with
  | nil =>
    intro j n k m h hk hi hm hj h0 h1; obtain ⟨m, rfl⟩ := fuel hm; unfold iNums_F7 iNums_T7
    rw [h.dge, cond_false]
    have := h.ge
    show K s i k n out = K s i ((s.length : Int) - (([] : Bytes).length : Int)) n out
    rw [this]; simp
  | cons c r ih =>
    intro j n k m h hk hi hm hj h0 h1; obtain ⟨m, rfl⟩ := fuel hm
    simp only [List.length_cons] at hm
    have hle := h.le
    simp only [List.length_cons] at hle
    have hp := pow9 hj
    unfold iNums_F7 iNums_T7 runR
    simp only [h.dlt, h.dnn, h.str, cond_true]
    cases hd : isDig (by8 c)
    · simp only [cond_false]
      congr 1
      simp only [List.length_cons]; omega
    · obtain ⟨d0, d1⟩ := dig_bd hd
      rw [w64 (n := k - i) (by omega) (by omega), w8d (by omega) (by omega), w64 (n := by8 c - 48) (by omega) (by omega), w64 (n := 10 * n) (by omega) (by omega), w64 (n := 10 * n + (by8 c - 48)) (by omega) (by omega), h.next hl]
      by_cases h9 : j < 9
      · rw [decide_eq_true h9, decide_eq_true (show k - i < 9 by omega)]
        simp only [cond_true]
        exact ih (j + 1) _ (k + 1) m h.step (by omega) hi (by omega) (by omega) (by omega) (by rw [Int.pow_succ]; omega)
      · rw [decide_eq_false h9, decide_eq_false (show ¬ k - i < 9 by omega)]
        simp only [cond_true, cond_false]
        congr 1
        simp only [List.length_cons]; omega
theorem iNums3_loop (M : Nat) (s : Bytes) (hl : s.length ≤ 1000000) (K : List Int → Option Rs) : ∀ (u : Nat) (r : Bytes) (i : Int) (out : List Int) (n : Nat), r.length ≤ u → At s i r → u < n → s.length < M → out.length + r.length ≤ 1000000 →
    iNums_F3 M n s i out K = K (out ++ numG none r) := by
  intro u; induction u with
  | zero =>
    intro r i out n hu h hn hN ho; obtain ⟨n, rfl⟩ := fuel hn
    obtain rfl : r = [] := List.length_eq_zero_iff.1 (by omega)
    unfold iNums_F3 iNums_T3
    rw [h.dge, cond_false]; simp [numG]
  | succ u ih =>
    intro r i out n hu h hn hN ho; obtain ⟨n, rfl⟩ := fuel hn
    cases r with
    | nil => unfold iNums_F3 iNums_T3; rw [h.dge, cond_false]; simp [numG]
    | cons c r =>
      have hle := h.le
      have hnn := h.nn
      unfold iNums_F3 iNums_T3
      rw [h.dlt, cond_true, iNums7_loop s (by omega) i out _ (c :: r) 0 0 i M h (by simp) hnn (by simp only [List.length_cons] at hle ⊢; omega) (by omega) (by omega) (by decide)]
      simp only [List.length_cons] at hle hu ho
      cases hd : isDig (by8 c)
      · have e : runR 0 0 (c :: r) = (0, c :: r) := by unfold runR; rw [hd]; rfl
        have e2 : numG none (c :: r) = numG none r := by simp only [numG, hd, cond_false]
        rw [e, e2]
        simp only [List.length_cons]
        rw [decide_eq_false (show ¬ i < (s.length : Int) - ((r.length + 1 : Nat) : Int) by omega), cond_false, h.next (by omega)]
        exact ih r (i + 1) out n (by omega) h.step (by omega) hN (by omega)
      · have e : runR 0 0 (c :: r) = runR 1 (10 * 0 + (by8 c - 48)) r := by
          rw [runR]; rw [hd]; rfl
        have e2 : numG none (c :: r) = (runR 0 0 (c :: r)).1 :: numG none (runR 0 0 (c :: r)).2 := by
          rw [e, ← numG_run]
          simp only [numG, hd, cond_true]
          rw [show 10 * 0 + (by8 c - 48) = by8 c - 48 by omega]
        obtain ⟨p, hp⟩ := run_suf r 1 (10 * 0 + (by8 c - 48))
        rw [← e] at hp
        have hpl : r.length = p.length + (runR 0 0 (c :: r)).2.length := by rw [← List.length_append, ← hp]
        rw [e2]
        generalize (runR 0 0 (c :: r)).1 = v at *
        generalize hq : (runR 0 0 (c :: r)).2 = q at *
        have hs : At s ((s.length : Int) - (q.length : Int)) q := by
          obtain ⟨z, hz, hzi⟩ := h
          refine ⟨z ++ c :: p, ?_, ?_⟩
          · rw [hz, hp]; simp
          · rw [hz, hp]; simp; omega
        have e4 : List.set (List.replicate (1 : Nat) (0 : Int)) 0 v = [v] := rfl
        have e5 : decide ((out.length + [v].length) * 8 ≤ 140737488355328) = true := decide_eq_true (by simp only [List.length_singleton]; omega)
        simp only [e4, e5]
        rw [decide_eq_true (show i < (s.length : Int) - (q.length : Int) by omega), cond_true, cond_true, w64 (n := (s.length : Int) - (q.length : Int) - 1) (by omega) (by omega),
          show (s.length : Int) - (q.length : Int) - 1 + 1 = (s.length : Int) - (q.length : Int) by omega, w64 (n := (s.length : Int) - (q.length : Int)) (by omega) (by omega)]
        refine (ih q _ (out ++ [v]) n (by omega) hs (by omega) hN (by simp only [List.length_append, List.length_singleton]; omega)).trans ?_
        rw [List.append_assoc]; rfl
def nums_s : List AV → List Ob → Br
  | [.str s], [] => .ite (decide (s.length ≤ 100000)) (.ret (.ref 0 0) [.arr (.int .i64) 0 false (numsP s)]) .fail
  | _, _ => .fail
theorem iNums_okQ : Sound Kx 205 nums_s := by
  refine (iNums_okOf (φ := fun s => .ite (decide (s.length ≤ 100000)) (.ret (.ref 0 0) [.arr (.int .i64) 0 false (numsP s)]) .fail) (fun s => s.length + 1) fun s r h => ?_).of fun args objs r h => ?_
  · obtain ⟨h1, h2⟩ := ite_some h
    cases h2
    rw [decide_eq_true_eq] at h1
    unfold iNums_run
    exact iNums3_loop (s.length + 1) s (by omega) _ s.length s 0 [] (s.length + 1) (Nat.le_refl _) (At.start s) (by omega) (by omega) (by simp only [List.length_nil]; omega)
  · unfold nums_s at h; split at h
    · exact h
    · cases h
theorem run_bd : ∀ (r : Bytes) (j : Nat) (n : Int), j ≤ 9 → 0 ≤ n → n < 10 ^ j → 0 ≤ (runR j n r).1 ∧ (runR j n r).1 < 1000000000
  | [], j, n, hj, h0, h1 => by have := pow9 hj; exact ⟨h0, by show n < _; omega⟩
  | c :: r, j, n, hj, h0, h1 => by
    have hp := pow9 hj
    unfold runR
    cases hd : isDig (by8 c)
    · exact ⟨h0, by show n < _; omega⟩
    · obtain ⟨d0, d1⟩ := dig_bd hd
      by_cases h9 : j < 9
      · rw [decide_eq_true h9]
        exact run_bd r (j + 1) _ (by omega) (by omega) (by rw [Int.pow_succ]; omega)
      · rw [decide_eq_false h9]; exact ⟨h0, by show n < _; omega⟩
theorem nums_bd : ∀ (u : Nat) (r : Bytes), r.length ≤ u → ∀ x ∈ numG none r, 0 ≤ x ∧ x < 1000000000
  | 0, r, hu, x, hx => by
    obtain rfl : r = [] := List.length_eq_zero_iff.1 (by omega)
    simp [numG] at hx
  | u + 1, [], hu, x, hx => by simp [numG] at hx
  | u + 1, c :: r, hu, x, hx => by
    simp only [List.length_cons] at hu
    cases hd : isDig (by8 c)
    · have e2 : numG none (c :: r) = numG none r := by simp only [numG, hd, cond_false]
      rw [e2] at hx
      exact nums_bd u r (by omega) x hx
    · obtain ⟨d0, d1⟩ := dig_bd hd
      have e2 : numG none (c :: r) = (runR 1 (by8 c - 48) r).1 :: numG none (runR 1 (by8 c - 48) r).2 := by
        rw [← numG_run]; simp only [numG, hd, cond_true]
      rw [e2] at hx
      rcases List.mem_cons.1 hx with rfl | hx
      · exact run_bd r 1 _ (by omega) (by omega) (by omega)
      · obtain ⟨p, hp⟩ := run_suf r 1 (by8 c - 48)
        have hpl : r.length = p.length + (runR 1 (by8 c - 48) r).2.length := by rw [← List.length_append, ← hp]
        exact nums_bd u _ (by omega) x hx
theorem numsP_bd (s : Bytes) (i : Nat) : 0 ≤ (numsP s).getD i 0 ∧ (numsP s).getD i 0 < 1000000000 := by
  by_cases h : i < (numsP s).length
  · rw [List.getD_eq_getElem?_getD, List.getElem?_eq_getElem h]
    exact nums_bd _ s (Nat.le_refl _) _ (List.getElem_mem h)
  · rw [List.getD_eq_getElem?_getD, List.getElem?_eq_none (by omega)]; decide

def iCivOk_O : Opt := { split := true }
def iCivOk_C : SC := [⟨201, _, iwithin_ok⟩, ⟨250, _, iDO_okQ⟩]
def iCivOk_br (y m d h i s : Int) : Br := (Br.ite (decide (1970 ≤ y)) (Br.ite (decide (y ≤ 9999)) (Br.ite (decide (1 ≤ m)) (Br.ite (decide (m ≤ 12)) (Br.ite (yrB y) (Br.ite (decide (1 ≤ d)) (Br.ite (decide (d ≤ (mLen y m))) (Br.ite (decide (0 ≤ h)) (Br.ite (decide (h ≤ 23)) (Br.ite (decide (0 ≤ i)) (Br.ite (decide (i ≤ 59)) (Br.ite (decide (0 ≤ s)) (Br.ite (decide (s ≤ 59)) (Br.ret (AV.bool true) []) (Br.ret (AV.bool false) [])) (Br.ret (AV.bool false) [])) (Br.ret (AV.bool false) [])) (Br.ret (AV.bool false) [])) (Br.ret (AV.bool false) [])) (Br.ret (AV.bool false) [])) (Br.ret (AV.bool false) [])) (Br.ret (AV.bool false) [])) Br.fail) (Br.ret (AV.bool false) [])) (Br.ret (AV.bool false) [])) (Br.ret (AV.bool false) [])) (Br.ret (AV.bool false) []))
def iCivOk_s : List AV → List Ob → Br
  | [.agg [.int .i64 y, .int .i64 m, .int .i64 d, .int .i64 h, .int .i64 i, .int .i64 s]], [] => iCivOk_br y m d h i s
  | _, _ => .fail
theorem iCivOk_ok : Sound Kx 248 iCivOk_s := sound_br (C := iCivOk_C) (O := iCivOk_O) Tryz.func248 (by kernel_rfl) fun args objs => by
  unfold iCivOk_s; split
  · exact .inr (by kernel_rfl)
  · exact .inl rfl

def iWk_C : SC := [⟨130, _, iTime_okQ⟩]
def iWk_br (t : Int) : Br := (Br.ite (!(timB t)) (Br.ret (AV.int .i64 (-1)) []) (Br.ret (AV.int .i64 (Int.tmod (wk64 ((wk64 (Int.tdiv t 86400)) + 3)) 7)) []))
def iWk_s : List AV → List Ob → Br
  | [.int .i64 t], [] => iWk_br t
  | _, _ => .fail
theorem iWk_ok : Sound Kx 253 iWk_s := sound_br (C := iWk_C) (O := O0) Tryz.func253 (by kernel_rfl) fun args objs => by
  unfold iWk_s; split
  · exact .inr (by kernel_rfl)
  · exact .inl rfl

def iClk_C : SC := [⟨254, _, iDig_okQ⟩]
def iClk_br (y m d h i s : Int) : Br := (Br.ite (dgB h 2) (Br.ite (decide (((List.length (padP 2 h)) + 1) ≤ 9223372036854775807)) (Br.ite (dgB i 2) (Br.ite (decide (((List.length ((padP 2 h) ++ ([58] : Bytes))) + (List.length (padP 2 i))) ≤ 9223372036854775807)) (Br.ite (decide (((List.length (((padP 2 h) ++ ([58] : Bytes)) ++ (padP 2 i))) + 1) ≤ 9223372036854775807)) (Br.ite (dgB s 2) (Br.ite (decide (((List.length ((((padP 2 h) ++ ([58] : Bytes)) ++ (padP 2 i)) ++ ([58] : Bytes))) + (List.length (padP 2 s))) ≤ 9223372036854775807)) (Br.ret (AV.str (((((padP 2 h) ++ ([58] : Bytes)) ++ (padP 2 i)) ++ ([58] : Bytes)) ++ (padP 2 s))) []) Br.fail) Br.fail) Br.fail) Br.fail) Br.fail) Br.fail) Br.fail)
def iClk_s : List AV → List Ob → Br
  | [.agg [.int .i64 y, .int .i64 m, .int .i64 d, .int .i64 h, .int .i64 i, .int .i64 s]], [] => iClk_br y m d h i s
  | _, _ => .fail
theorem iClk_ok : Sound Kx 255 iClk_s := sound_br (C := iClk_C) (O := O0) Tryz.func255 (by kernel_rfl) fun args objs => by
  unfold iClk_s; split
  · exact .inr (by kernel_rfl)
  · exact .inl rfl

def cvM (y m d h i s : Int) : Cv := ⟨y, m, d, h, i, s⟩
def cv_s (g : Cv → Bool) (p : Cv → AV) : List AV → List Ob → Br
  | [.agg [.int .i64 y, .int .i64 m, .int .i64 d, .int .i64 h, .int .i64 i, .int .i64 s]], [] => .ite (g (cvM y m d h i s)) (.ret (p (cvM y m d h i s)) []) .fail
  | _, _ => .fail
theorem of_cv {n : Nat} {f : List AV → List Ob → Br} (hs : Sound Kx n f) {g : Cv → Bool} {p : Cv → AV} (h : ∀ y m d h i s, g ⟨y, m, d, h, i, s⟩ = true → (f [.agg [.int .i64 y, .int .i64 m, .int .i64 d, .int .i64 h, .int .i64 i, .int .i64 s]] []).val = some (p ⟨y, m, d, h, i, s⟩, [])) : Sound Kx n (cv_s g p) := hs.of fun args objs r hv => by
  unfold cv_s at hv
  split at hv
  case h_2 => cases hv
  obtain ⟨h1, h2⟩ := ite_some hv
  cases h2
  exact h _ _ _ _ _ _ h1
theorem iCivOk_okQ : Sound Kx 248 (cv_s (fun _ => true) fun c => .bool (civOk c)) := of_cv iCivOk_ok fun y m d h i s _ => by
  show (iCivOk_br y m d h i s).val = some (.bool (civOk ⟨y, m, d, h, i, s⟩), [])
  unfold iCivOk_br civOk
  by_cases c1 : 1970 ≤ y
  · by_cases c2 : y ≤ 9999
    · have e : yrB y = true := by unfold yrB; rw [decide_eq_true (by omega), decide_eq_true (by omega)]; rfl
      rw [e, decide_eq_true c1, decide_eq_true c2]
      simp only
      generalize decide (1 ≤ m) = b1
      generalize decide (m ≤ 12) = b2
      generalize decide (1 ≤ d) = b3
      generalize decide (d ≤ mLen y m) = b4
      generalize decide (0 ≤ h) = b5
      generalize decide (h ≤ 23) = b6
      generalize decide (0 ≤ i) = b7
      generalize decide (i ≤ 59) = b8
      generalize decide (0 ≤ s) = b9
      generalize decide (s ≤ 59) = b10
      cases b1; · rfl
      cases b2; · rfl
      cases b3; · rfl
      cases b4; · rfl
      cases b5; · rfl
      cases b6; · rfl
      cases b7; · rfl
      cases b8; · rfl
      cases b9; · rfl
      cases b10 <;> rfl
    · rw [decide_eq_true c1, decide_eq_false c2]; rfl
  · rw [decide_eq_false c1]; rfl
def wkP (t : Int) : Int := bif timB t then wdP t else -1
theorem timB_le {t : Int} (h : timB t = true) : 0 ≤ t ∧ t ≤ 253402300799 := by unfold timB at h; rw [Bool.and_eq_true, decide_eq_true_eq, decide_eq_true_eq] at h; exact h
theorem wk_eq {t : Int} (h : timB t = true) : Int.tmod (wk64 ((wk64 (Int.tdiv t 86400)) + 3)) 7 = wdP t := by
  obtain ⟨h0, h1⟩ := timB_le h
  have e : Int.tdiv t 86400 = t / 86400 := Int.tdiv_eq_ediv_of_nonneg h0
  rw [e, w64 (n := t / 86400) (by omega) (by omega), w64 (by omega) (by omega), Int.tmod_eq_emod_of_nonneg (by omega)]
  rfl
theorem iWk_okQ : Sound Kx 253 (j1_s (fun _ => true) fun t => .int .i64 (wkP t)) := of_j1 iWk_ok fun t _ => by
  show (iWk_br t).val = some (.int .i64 (wkP t), [])
  unfold iWk_br wkP
  cases h : timB t
  · rfl
  · rw [wk_eq h]; rfl
theorem civ_nums {c : Cv} (h : civOk c = true) : (dgB c.h 2 = true ∧ dgB c.i 2 = true ∧ dgB c.s 2 = true ∧ dgB c.d 2 = true ∧ dgB c.y 4 = true ∧ dgB c.y 2 = true) ∧ (pdB c.h 2 = true ∧ pdB c.i 2 = true ∧ pdB c.s 2 = true ∧ pdB c.d 2 = true ∧ pdB c.y 4 = true ∧ pdB (c.y % 100) 2 = true) := by
  obtain ⟨h1, h2, h3, h4, h5, h6⟩ := civ_parts h
  have dd : ∀ n k : Int, 0 ≤ n → n ≤ 9999 → 0 ≤ k → k ≤ 4 → dgB n k = true := fun n k a b c d => by
    unfold dgB num15; rw [decide_eq_true a, decide_eq_true (by omega), decide_eq_true c, decide_eq_true (by omega)]; rfl
  have p2 : ∀ n : Int, 0 ≤ n → n ≤ 99 → pdB n 2 = true := fun n a b => by unfold pdB; rw [decide_eq_true a, decide_eq_true b]; rfl
  have p4 : ∀ n : Int, 0 ≤ n → n ≤ 9999 → pdB n 4 = true := fun n a b => by unfold pdB; rw [decide_eq_true a, decide_eq_true b]; rfl
  refine ⟨⟨dd _ _ ?_ ?_ ?_ ?_, dd _ _ ?_ ?_ ?_ ?_, dd _ _ ?_ ?_ ?_ ?_, dd _ _ ?_ ?_ ?_ ?_, dd _ _ ?_ ?_ ?_ ?_, dd _ _ ?_ ?_ ?_ ?_⟩, p2 _ ?_ ?_, p2 _ ?_ ?_, p2 _ ?_ ?_, p2 _ ?_ ?_, p4 _ ?_ ?_, p2 _ ?_ ?_⟩ <;> omega
theorem iClk_okQ : Sound Kx 255 (cv_s civOk fun c => .str (clockP c)) := of_cv iClk_ok fun y m d h i s hc => by
  show (iClk_br y m d h i s).val = some (.str (clockP ⟨y, m, d, h, i, s⟩), [])
  obtain ⟨⟨h1, h2, h3, _⟩, _⟩ := civ_nums hc
  simp only at h1 h2 h3
  unfold iClk_br
  simp only [h1, h2, h3, List.length_append, padP_len, List.length_cons, List.length_nil, Br.val]
  unfold clockP
  simp [List.append_assoc]

def iSec_O : Opt := { live := [(5, [1, 4, 5])], outs := [(5, [1, 2, 3, 4])] }
def iSec_C : SC := [⟨248, _, iCivOk_okQ⟩, ⟨249, _, iDB_okQ⟩, ⟨250, _, iDO_okQ⟩]
def iSec_T5 (v5x0 v5x1 v5x2 v5x3 v5x4 v5x5 v5x6 v5x7 : Int) (kR5 : Int → Int → Int → Int → Int → Int → Int → Int → Option Rs) (k5e0 : Int → Int → Int → Int → Int → Int → Int → Option Rs) : Option Rs :=
  (bif (decide (v5x1 < v5x3)) then (bif (yrB v5x2) then (kR5 (wk64 (v5x0 + (mLen v5x2 v5x1))) (wk64 (v5x1 + 1)) v5x2 v5x3 v5x4 v5x5 v5x6 v5x7) else (none)) else (k5e0 v5x0 v5x2 v5x3 v5x4 v5x5 v5x6 v5x7))
def iSec_F5 : Nat → Int → Int → Int → Int → Int → Int → Int → Int → (Int → Int → Int → Int → Int → Int → Int → Option Rs) → Option Rs
  | 0, _, _, _, _, _, _, _, _, _ => none
  | n + 1, v5x0, v5x1, v5x2, v5x3, v5x4, v5x5, v5x6, v5x7, k5e0 => iSec_T5 v5x0 v5x1 v5x2 v5x3 v5x4 v5x5 v5x6 v5x7 (fun v5x0 v5x1 v5x2 v5x3 v5x4 v5x5 v5x6 v5x7 => iSec_F5 n v5x0 v5x1 v5x2 v5x3 v5x4 v5x5 v5x6 v5x7 k5e0) k5e0
abbrev iSec_p5 : SP := ⟨41, [1, 4, 5], [(.v (.ptr 128 0)), (.v (.i .i64)), (.v (.i .i64))], [(128, .var [(.i .i64), (.i .i64), (.i .i64), (.i .i64), (.i .i64), (.i .i64)])]⟩
noncomputable def iSec_b5 : Code := codeAt (codeOf Tryz.f208) [1, 1, 1, 0, 1, 0, 0]
def iSec_E5 (f : (Int → Int → Int → Int → Int → Int → Int → Option Rs) → Option Rs) (k : KT) : Option Rs := f (fun x5x0x0 x5x0x1 x5x0x2 x5x0x3 x5x0x4 x5x0x5 x5x0x6 => k (Ex.exit 0) ((St.mk (slots 0 41 [(1, (AV.ptr 128 0)), (4, (AV.int .i64 x5x0x0))]) ((128, (Ob.var ((AV.int .i64 x5x0x1) :: ((AV.int .i64 x5x0x2) :: ((AV.int .i64 x5x0x3) :: ((AV.int .i64 x5x0x4) :: ((AV.int .i64 x5x0x5) :: ((AV.int .i64 x5x0x6) :: [])))))))) :: ([] : (List (Nat × (Ob))))))))
def iSec_G5 (n : Nat) (d : iSec_p5.D) : KT → Option Rs := iSec_E5 (iSec_F5 n d.1.2.1 d.1.2.2.1 d.2.1.1 d.2.1.2.1 d.2.1.2.2.1 d.2.1.2.2.2.1 d.2.1.2.2.2.2.1 d.2.1.2.2.2.2.2.1)
def iSec_L (N : Nat) : Lam := lamOf [⟨5, iSec_p5, iSec_G5 N⟩]
theorem iSec_ok5 (N : Nat) : OkL Kx iSec_C.s iSec_O 0 N (iSec_L N) iSec_b5 := okL iSec_p5 (iSec_G5) (fun d kR => iSec_E5 (iSec_T5 d.1.2.1 d.1.2.2.1 d.2.1.1 d.2.1.2.1 d.2.1.2.2.1 d.2.1.2.2.2.1 d.2.1.2.2.2.2.1 d.2.1.2.2.2.2.2.1 (fun v5x0 v5x1 v5x2 v5x3 v5x4 v5x5 v5x6 v5x7 => kR (((), v5x0, v5x1, ()), ((v5x2, v5x3, v5x4, v5x5, v5x6, v5x7, ()), ()))))) (fun _ _ => by kernel_rfl) (fun _ _ _ => by kernel_rfl) (fun _ _ => by kernel_rfl) (fun _ _ _ _ => by kernel_rfl) (okEach (l' := []) (by kernel_rfl) trivial)
def iSec_run (N : Nat) (y m d h i s : Int) : Option Rs := (bif (!(civOk (cvM y m d h i s))) then (some ((AV.tup ((AV.int .i64 0) :: ((AV.bool false) :: []))), [])) else (bif (yrB y) then (iSec_F5 N (wk64 ((wk64 ((dB y) + d)) - 1)) 1 y m d h i s (fun x5x0x0 => (fun x5x0x1 => (fun x5x0x2 => (fun x5x0x3 => (fun x5x0x4 => (fun x5x0x5 => (fun x5x0x6 => (some ((AV.tup ((AV.int .i64 (wk64 ((wk64 ((wk64 ((wk64 (86400 * x5x0x0)) + (wk64 (3600 * x5x0x4)))) + (wk64 (60 * x5x0x5)))) + x5x0x6))) :: ((AV.bool true) :: []))), [])))))))))) else (none)))
def iSec_sOf (φ : Int → Int → Int → Int → Int → Int → Br) : List AV → List Ob → Br
  | [.agg [.int .i64 y, .int .i64 m, .int .i64 d, .int .i64 h, .int .i64 i, .int .i64 s]], [] => φ y m d h i s
  | _, _ => .fail
theorem iSec_okOf {φ : Int → Int → Int → Int → Int → Int → Br} (fu : Int → Int → Int → Int → Int → Int → Nat) (hv : ∀ y m d h i s res_, (φ y m d h i s).val = some res_ → iSec_run (fu y m d h i s) y m d h i s = some res_) : Sound Kx 208 (iSec_sOf φ) := sound_lp (C := iSec_C) (O := iSec_O) Tryz.func208 (by kernel_rfl) fun args objs => by
  unfold iSec_sOf; split
  · rename_i y m d h i s; exact .inr fun _ hyp_ => run_lp (Λ := iSec_L (fu y m d h i s)) (by kernel_rfl) (okEach (l' := [iSec_b5]) (by kernel_rfl) ⟨iSec_ok5 _, trivial⟩) (by kernel_rfl) (hv y m d h i s _ hyp_)
  · exact .inl rfl

def iCiv_O : Opt := { live := [(6, [2, 3, 5]), (3, [2, 3, 5])], outs := [(6, [2, 3, 5]), (3, [2, 3, 5])] }
def iCiv_C : SC := [⟨249, _, iDB_okQ⟩, ⟨250, _, iDO_okQ⟩]
def iCiv_T3 (v3x0 v3x1 v3x2 v3x3 v3x4 v3x5 v3x6 v3x7 v3x8 v3x9 v3x10 v3x11 v3x12 : Int) (kR3 k3e0 : Int → Int → Int → Int → Int → Int → Int → Int → Int → Int → Int → Int → Int → Option Rs) : Option Rs :=
  (bif (yrB (wk64 (v3x7 + 1))) then (bif (decide ((dB (wk64 (v3x7 + 1))) ≤ v3x0)) then (kR3 v3x0 v3x1 v3x2 v3x3 v3x4 v3x5 v3x6 (wk64 (v3x7 + 1)) v3x8 v3x9 v3x10 v3x11 v3x12) else (k3e0 v3x0 v3x1 v3x2 v3x3 v3x4 v3x5 v3x6 v3x7 v3x8 v3x9 v3x10 v3x11 v3x12)) else (none))
def iCiv_F3 : Nat → Int → Int → Int → Int → Int → Int → Int → Int → Int → Int → Int → Int → Int → (Int → Int → Int → Int → Int → Int → Int → Int → Int → Int → Int → Int → Int → Option Rs) → Option Rs
  | 0, _, _, _, _, _, _, _, _, _, _, _, _, _, _ => none
  | n + 1, v3x0, v3x1, v3x2, v3x3, v3x4, v3x5, v3x6, v3x7, v3x8, v3x9, v3x10, v3x11, v3x12, k3e0 => iCiv_T3 v3x0 v3x1 v3x2 v3x3 v3x4 v3x5 v3x6 v3x7 v3x8 v3x9 v3x10 v3x11 v3x12 (fun v3x0 v3x1 v3x2 v3x3 v3x4 v3x5 v3x6 v3x7 v3x8 v3x9 v3x10 v3x11 v3x12 => iCiv_F3 n v3x0 v3x1 v3x2 v3x3 v3x4 v3x5 v3x6 v3x7 v3x8 v3x9 v3x10 v3x11 v3x12 k3e0) k3e0
abbrev iCiv_p3 : SP := ⟨58, [2, 3, 5], [(.v (.ptr 192 0)), (.v (.i .i64)), (.v (.ptr 384 0))], [(192, .var [(.i .i64), (.i .i64), (.i .i64), (.i .i64), (.i .i64), (.i .i64)]), (384, .var [(.i .i64), (.i .i64), (.i .i64), (.i .i64), (.i .i64), (.i .i64)])]⟩
noncomputable def iCiv_b3 : Code := codeAt (codeOf Tryz.f251) [1, 1, 1, 0, 0, 0]
def iCiv_E3 (f : (Int → Int → Int → Int → Int → Int → Int → Int → Int → Int → Int → Int → Int → Option Rs) → Option Rs) (k : KT) : Option Rs := f (fun x3x0x0 x3x0x1 x3x0x2 x3x0x3 x3x0x4 x3x0x5 x3x0x6 x3x0x7 x3x0x8 x3x0x9 x3x0x10 x3x0x11 x3x0x12 => k (Ex.exit 0) ((St.mk (slots 0 58 [(2, (AV.ptr 192 0)), (3, (AV.int .i64 x3x0x0)), (5, (AV.ptr 384 0))]) ((192, (Ob.var ((AV.int .i64 x3x0x1) :: ((AV.int .i64 x3x0x2) :: ((AV.int .i64 x3x0x3) :: ((AV.int .i64 x3x0x4) :: ((AV.int .i64 x3x0x5) :: ((AV.int .i64 x3x0x6) :: [])))))))) :: ((384, (Ob.var ((AV.int .i64 x3x0x7) :: ((AV.int .i64 x3x0x8) :: ((AV.int .i64 x3x0x9) :: ((AV.int .i64 x3x0x10) :: ((AV.int .i64 x3x0x11) :: ((AV.int .i64 x3x0x12) :: [])))))))) :: ([] : (List (Nat × (Ob)))))))))
def iCiv_G3 (n : Nat) (d : iCiv_p3.D) : KT → Option Rs := iCiv_E3 (iCiv_F3 n d.1.2.1 d.2.1.1 d.2.1.2.1 d.2.1.2.2.1 d.2.1.2.2.2.1 d.2.1.2.2.2.2.1 d.2.1.2.2.2.2.2.1 d.2.2.1.1 d.2.2.1.2.1 d.2.2.1.2.2.1 d.2.2.1.2.2.2.1 d.2.2.1.2.2.2.2.1 d.2.2.1.2.2.2.2.2.1)
def iCiv_T6 (v6x0 v6x1 v6x2 v6x3 v6x4 v6x5 v6x6 v6x7 v6x8 v6x9 v6x10 v6x11 v6x12 : Int) (kR6 k6e0 : Int → Int → Int → Int → Int → Int → Int → Int → Int → Int → Int → Int → Int → Option Rs) : Option Rs :=
  (bif (yrB v6x7) then (bif (decide ((mLen v6x7 v6x8) ≤ v6x0)) then (bif (yrB v6x7) then (kR6 (wk64 (v6x0 - (mLen v6x7 v6x8))) v6x1 v6x2 v6x3 v6x4 v6x5 v6x6 v6x7 (wk64 (v6x8 + 1)) v6x9 v6x10 v6x11 v6x12) else (none)) else (k6e0 v6x0 v6x1 v6x2 v6x3 v6x4 v6x5 v6x6 v6x7 v6x8 v6x9 v6x10 v6x11 v6x12)) else (none))
def iCiv_F6 : Nat → Int → Int → Int → Int → Int → Int → Int → Int → Int → Int → Int → Int → Int → (Int → Int → Int → Int → Int → Int → Int → Int → Int → Int → Int → Int → Int → Option Rs) → Option Rs
  | 0, _, _, _, _, _, _, _, _, _, _, _, _, _, _ => none
  | n + 1, v6x0, v6x1, v6x2, v6x3, v6x4, v6x5, v6x6, v6x7, v6x8, v6x9, v6x10, v6x11, v6x12, k6e0 => iCiv_T6 v6x0 v6x1 v6x2 v6x3 v6x4 v6x5 v6x6 v6x7 v6x8 v6x9 v6x10 v6x11 v6x12 (fun v6x0 v6x1 v6x2 v6x3 v6x4 v6x5 v6x6 v6x7 v6x8 v6x9 v6x10 v6x11 v6x12 => iCiv_F6 n v6x0 v6x1 v6x2 v6x3 v6x4 v6x5 v6x6 v6x7 v6x8 v6x9 v6x10 v6x11 v6x12 k6e0) k6e0
abbrev iCiv_p6 : SP := ⟨58, [2, 3, 5], [(.v (.ptr 192 0)), (.v (.i .i64)), (.v (.ptr 384 0))], [(192, .var [(.i .i64), (.i .i64), (.i .i64), (.i .i64), (.i .i64), (.i .i64)]), (384, .var [(.i .i64), (.i .i64), (.i .i64), (.i .i64), (.i .i64), (.i .i64)])]⟩
noncomputable def iCiv_b6 : Code := codeAt (codeOf Tryz.f251) [1, 1, 1, 1, 1, 0, 0, 0]
def iCiv_E6 (f : (Int → Int → Int → Int → Int → Int → Int → Int → Int → Int → Int → Int → Int → Option Rs) → Option Rs) (k : KT) : Option Rs := f (fun x6x0x0 x6x0x1 x6x0x2 x6x0x3 x6x0x4 x6x0x5 x6x0x6 x6x0x7 x6x0x8 x6x0x9 x6x0x10 x6x0x11 x6x0x12 => k (Ex.exit 2) ((St.mk (slots 0 58 [(2, (AV.ptr 192 0)), (3, (AV.int .i64 x6x0x0)), (5, (AV.ptr 384 0))]) ((192, (Ob.var ((AV.int .i64 x6x0x1) :: ((AV.int .i64 x6x0x2) :: ((AV.int .i64 x6x0x3) :: ((AV.int .i64 x6x0x4) :: ((AV.int .i64 x6x0x5) :: ((AV.int .i64 x6x0x6) :: [])))))))) :: ((384, (Ob.var ((AV.int .i64 x6x0x7) :: ((AV.int .i64 x6x0x8) :: ((AV.int .i64 x6x0x9) :: ((AV.int .i64 x6x0x10) :: ((AV.int .i64 x6x0x11) :: ((AV.int .i64 x6x0x12) :: [])))))))) :: ([] : (List (Nat × (Ob)))))))))
def iCiv_G6 (n : Nat) (d : iCiv_p6.D) : KT → Option Rs := iCiv_E6 (iCiv_F6 n d.1.2.1 d.2.1.1 d.2.1.2.1 d.2.1.2.2.1 d.2.1.2.2.2.1 d.2.1.2.2.2.2.1 d.2.1.2.2.2.2.2.1 d.2.2.1.1 d.2.2.1.2.1 d.2.2.1.2.2.1 d.2.2.1.2.2.2.1 d.2.2.1.2.2.2.2.1 d.2.2.1.2.2.2.2.2.1)
def iCiv_L (N : Nat) : Lam := lamOf [⟨3, iCiv_p3, iCiv_G3 N⟩, ⟨6, iCiv_p6, iCiv_G6 N⟩]
theorem iCiv_ok3 (N : Nat) : OkL Kx iCiv_C.s iCiv_O 0 N (iCiv_L N) iCiv_b3 := okL iCiv_p3 (iCiv_G3) (fun d kR => iCiv_E3 (iCiv_T3 d.1.2.1 d.2.1.1 d.2.1.2.1 d.2.1.2.2.1 d.2.1.2.2.2.1 d.2.1.2.2.2.2.1 d.2.1.2.2.2.2.2.1 d.2.2.1.1 d.2.2.1.2.1 d.2.2.1.2.2.1 d.2.2.1.2.2.2.1 d.2.2.1.2.2.2.2.1 d.2.2.1.2.2.2.2.2.1 (fun v3x0 v3x1 v3x2 v3x3 v3x4 v3x5 v3x6 v3x7 v3x8 v3x9 v3x10 v3x11 v3x12 => kR (((), v3x0, (), ()), ((v3x1, v3x2, v3x3, v3x4, v3x5, v3x6, ()), (v3x7, v3x8, v3x9, v3x10, v3x11, v3x12, ()), ()))))) (fun _ _ => by kernel_rfl) (fun _ _ _ => by kernel_rfl) (fun _ _ => by kernel_rfl) (fun _ _ _ _ => by kernel_rfl) (okEach (l' := []) (by kernel_rfl) trivial)
theorem iCiv_ok6 (N : Nat) : OkL Kx iCiv_C.s iCiv_O 0 N (iCiv_L N) iCiv_b6 := okL iCiv_p6 (iCiv_G6) (fun d kR => iCiv_E6 (iCiv_T6 d.1.2.1 d.2.1.1 d.2.1.2.1 d.2.1.2.2.1 d.2.1.2.2.2.1 d.2.1.2.2.2.2.1 d.2.1.2.2.2.2.2.1 d.2.2.1.1 d.2.2.1.2.1 d.2.2.1.2.2.1 d.2.2.1.2.2.2.1 d.2.2.1.2.2.2.2.1 d.2.2.1.2.2.2.2.2.1 (fun v6x0 v6x1 v6x2 v6x3 v6x4 v6x5 v6x6 v6x7 v6x8 v6x9 v6x10 v6x11 v6x12 => kR (((), v6x0, (), ()), ((v6x1, v6x2, v6x3, v6x4, v6x5, v6x6, ()), (v6x7, v6x8, v6x9, v6x10, v6x11, v6x12, ()), ()))))) (fun _ _ => by kernel_rfl) (fun _ _ _ => by kernel_rfl) (fun _ _ => by kernel_rfl) (fun _ _ _ _ => by kernel_rfl) (okEach (l' := []) (by kernel_rfl) trivial)
def iCiv_run (N : Nat) (t : Int) : Option Rs := (iCiv_F3 N (wk64 (Int.tdiv t 86400)) 0 0 0 0 0 0 (wk64 (1970 + (wk64 (Int.tdiv (wk64 (Int.tdiv t 86400)) 366)))) 1 0 (wk64 (Int.tdiv (Int.tmod t 86400) 3600)) (Int.tmod (wk64 (Int.tdiv (Int.tmod t 86400) 60)) 60) (Int.tmod (Int.tmod t 86400) 60) (fun x3x0x0 => (fun x3x0x1 => (fun x3x0x2 => (fun x3x0x3 => (fun x3x0x4 => (fun x3x0x5 => (fun x3x0x6 => (fun x3x0x7 => (fun x3x0x8 => (fun x3x0x9 => (fun x3x0x10 => (fun x3x0x11 => (fun x3x0x12 => (bif (yrB x3x0x7) then (iCiv_F6 N (wk64 (x3x0x0 - (dB x3x0x7))) x3x0x1 x3x0x2 x3x0x3 x3x0x4 x3x0x5 x3x0x6 x3x0x7 x3x0x8 x3x0x9 x3x0x10 x3x0x11 x3x0x12 (fun x6x0x0 => (fun x6x0x1 => (fun x6x0x2 => (fun x6x0x3 => (fun x6x0x4 => (fun x6x0x5 => (fun x6x0x6 => (fun x6x0x7 => (fun x6x0x8 => (fun x6x0x9 => (fun x6x0x10 => (fun x6x0x11 => (fun x6x0x12 => (some ((AV.agg ((AV.int .i64 x6x0x7) :: ((AV.int .i64 x6x0x8) :: ((AV.int .i64 (wk64 (x6x0x0 + 1))) :: ((AV.int .i64 x6x0x10) :: ((AV.int .i64 x6x0x11) :: ((AV.int .i64 x6x0x12) :: []))))))), [])))))))))))))))) else (none))))))))))))))))
def iCiv_sOf (φ : Int → Br) : List AV → List Ob → Br
  | [.int .i64 t], [] => φ t
  | _, _ => .fail
theorem iCiv_okOf {φ : Int → Br} (fu : Int → Nat) (hv : ∀ t res_, (φ t).val = some res_ → iCiv_run (fu t) t = some res_) : Sound Kx 251 (iCiv_sOf φ) := sound_lp (C := iCiv_C) (O := iCiv_O) Tryz.func251 (by kernel_rfl) fun args objs => by
  unfold iCiv_sOf; split
  · rename_i t; exact .inr fun _ hyp_ => run_lp (Λ := iCiv_L (fu t)) (by kernel_rfl) (okEach (l' := [iCiv_b3, iCiv_b6]) (by kernel_rfl) ⟨iCiv_ok3 _, iCiv_ok6 _, trivial⟩) (by kernel_rfl) (hv t _ hyp_)
  · exact .inl rfl

theorem yrB_of {y : Int} (h1 : 1 ≤ y) (h2 : y ≤ 100000) : yrB y = true := by unfold yrB; rw [decide_eq_true h1, decide_eq_true h2]; rfl
theorem mB_bd (y : Int) : ∀ k : Nat, 0 ≤ mB y k ∧ mB y k ≤ 31 * k
  | 0 => by simp [mB]
  | k + 1 => by
    have := mB_bd y k
    have := mLen_bd y (k + 1)
    show 0 ≤ mB y k + mLen y (k + 1) ∧ mB y k + mLen y (k + 1) ≤ _
    push_cast
    omega
theorem iSec_loop (y M d h i s : Int) (hy : 1970 ≤ y) (hy2 : y ≤ 9999) (hM : M ≤ 12) (K : Int → Int → Int → Int → Int → Int → Int → Option Rs) : ∀ (j : Nat) (acc mo : Int) (n : Nat), M - mo = j → 1 ≤ mo → j < n → -10000000 ≤ acc - mB y (mo - 1).toNat → acc - mB y (mo - 1).toNat ≤ 10000000 →
    iSec_F5 n acc mo y M d h i s K = K (acc - mB y (mo - 1).toNat + mB y (M - 1).toNat) y M d h i s := by
  intro j; induction j with
  | zero =>
    intro acc mo n hj h1 hn b0 b1; obtain ⟨n, rfl⟩ := fuel hn; unfold iSec_F5 iSec_T5
    obtain rfl : mo = M := by omega
    rw [decide_eq_false (by omega), cond_false, show acc - mB y (mo - 1).toNat + mB y (mo - 1).toNat = acc by omega]
  | succ j ih =>
    intro acc mo n hj h1 hn b0 b1; obtain ⟨n, rfl⟩ := fuel hn
    have hs := mB_step y mo h1
    have hb := mLen_bd y mo
    have hc := mB_bd y (mo - 1).toNat
    unfold iSec_F5 iSec_T5
    rw [decide_eq_true (show mo < M by omega), yrB_of (by omega) (by omega), cond_true, cond_true, w64 (n := acc + mLen y mo) (by omega) (by omega), w64 (n := mo + 1) (by omega) (by omega)]
    have e : (mo + 1 - 1).toNat = mo.toNat := by congr 1; omega
    refine (ih (acc + mLen y mo) (mo + 1) n (by omega) (by omega) (by omega) (by rw [e, hs]; omega) (by rw [e, hs]; omega)).trans ?_
    rw [e, hs]
    congr 1
    omega
def tB_s (p : Cv → Int × Bool) : Cv → AV := fun c => .tup [.int .i64 (p c).1, .bool (p c).2]
theorem dB_bd {y : Int} (h1 : 1970 ≤ y) (h2 : y ≤ 9999) : 0 ≤ dB y ∧ dB y ≤ 2932897 := by
  have a := dB_mono h1
  have b := dB_mono (show y ≤ 10000 by omega)
  rw [dB_1970] at a
  rw [dB_10000] at b
  exact ⟨a, b⟩
theorem secB_nums {y m d h i s : Int} (hk : civOk ⟨y, m, d, h, i, s⟩ = true) : wk64 ((wk64 ((wk64 ((wk64 (86400 * (dB y + d - 1 + mB y (m - 1).toNat))) + (wk64 (3600 * h)))) + (wk64 (60 * i)))) + s) = secB ⟨y, m, d, h, i, s⟩ := by
  obtain ⟨⟨h1, h2⟩, ⟨h3, h4⟩, ⟨h5, h6⟩, ⟨h7, h8⟩, ⟨h9, h10⟩, ⟨h11, h12⟩⟩ := civ_parts hk
  simp only at h1 h2 h3 h4 h5 h6 h7 h8 h9 h10 h11 h12
  have hd := dB_bd h1 h2
  have hm := mB_bd y (m - 1).toNat
  have hm2 : ((m - 1).toNat : Int) ≤ 11 := by omega
  unfold secB
  simp only
  generalize dB y = a at *
  generalize mB y (m - 1).toNat = b at *
  rw [w64 (n := 86400 * (a + d - 1 + b)) (by omega) (by omega), w64 (n := 3600 * h) (by omega) (by omega), w64 (n := 60 * i) (by omega) (by omega), w64 (n := 86400 * (a + d - 1 + b) + 3600 * h) (by omega) (by omega),
    w64 (n := 86400 * (a + d - 1 + b) + 3600 * h + 60 * i) (by omega) (by omega), w64 (by omega) (by omega)]
  omega
theorem iSec_okQ : Sound Kx 208 (cv_s (fun _ => true) (tB_s secP)) := by
  refine (iSec_okOf (φ := fun y m d h i s => .ret (tB_s secP ⟨y, m, d, h, i, s⟩) []) (fun _ m _ _ _ _ => m.toNat + 1) fun y m d h i s r hv => ?_).of fun args objs r hv => ?_
  · cases hv
    unfold iSec_run
    show (bif !civOk ⟨y, m, d, h, i, s⟩ then _ else _) = _
    unfold tB_s secP
    cases hk : civOk ⟨y, m, d, h, i, s⟩
    · rfl
    · obtain ⟨⟨h1, h2⟩, ⟨h3, h4⟩, ⟨h5, h6⟩, _⟩ := civ_parts hk
      simp only at h1 h2 h3 h4 h5 h6
      have hd := dB_bd h1 h2
      simp only [Bool.not_true, cond_false]
      rw [yrB_of (by omega) (by omega), cond_true, w64 (n := dB y + d) (by omega) (by omega), w64 (n := dB y + d - 1) (by omega) (by omega)]
      have e0 : mB y (1 - 1 : Int).toNat = 0 := rfl
      rw [iSec_loop y m d h i s h1 h2 h4 _ (m - 1).toNat (dB y + d - 1) 1 (m.toNat + 1) (by omega) (by omega) (by omega) (by rw [e0]; omega) (by rw [e0]; omega), e0, Int.sub_zero]
      rw [secB_nums hk]
      rfl
  · unfold cv_s at hv; split at hv
    · obtain ⟨_, h2⟩ := ite_some hv
      exact h2
    · cases hv
theorem yr_start (day : Int) (h0 : 0 ≤ day) (h1 : day < 2932897) : 1970 ≤ 1970 + day / 366 ∧ 1970 + day / 366 ≤ yrP day := by
  obtain ⟨g1, g2, g3, g4⟩ := yr_spec day h0 h1
  refine ⟨by omega, ?_⟩
  by_cases c : 1970 + day / 366 ≤ yrP day
  · exact c
  · have hm := dB_mono (show yrP day + 1 ≤ 1970 + day / 366 by omega)
    have hb : dB (1970 + day / 366) ≤ day := by
      unfold dB; omega
    omega
theorem iCiv3_loop (day a1 a2 a3 a4 a5 a6 m d h i s : Int) (h0 : 0 ≤ day) (h1 : day < 2932897) (K : Int → Int → Int → Int → Int → Int → Int → Int → Int → Int → Int → Int → Int → Option Rs) : ∀ (j : Nat) (y : Int) (n : Nat), yrP day - y = j → 1970 ≤ y → j < n →
    iCiv_F3 n day a1 a2 a3 a4 a5 a6 y m d h i s K = K day a1 a2 a3 a4 a5 a6 (yrP day) m d h i s := by
  obtain ⟨g1, g2, g3, g4⟩ := yr_spec day h0 h1
  intro j; induction j with
  | zero =>
    intro y n hj hy hn; obtain ⟨n, rfl⟩ := fuel hn; unfold iCiv_F3 iCiv_T3
    obtain rfl : y = yrP day := by omega
    rw [w64 (n := yrP day + 1) (by omega) (by omega), yrB_of (by omega) (by omega), cond_true, decide_eq_false (by omega), cond_false]
  | succ j ih =>
    intro y n hj hy hn; obtain ⟨n, rfl⟩ := fuel hn; unfold iCiv_F3 iCiv_T3
    have := dB_mono (show y + 1 ≤ yrP day by omega)
    rw [w64 (n := y + 1) (by omega) (by omega), yrB_of (by omega) (by omega), cond_true, decide_eq_true (by omega), cond_true]
    exact ih (y + 1) n (by omega) (by omega) (by omega)
theorem iCiv6_loop (y D a1 a2 a3 a4 a5 a6 d h i s : Int) (hy : 1970 ≤ y) (hy2 : y ≤ 9999) (h0 : 0 ≤ D) (h1 : D < yLen y) (K : Int → Int → Int → Int → Int → Int → Int → Int → Int → Int → Int → Int → Int → Option Rs) : ∀ (j : Nat) (m : Int) (n : Nat), moP y D - m = j → 1 ≤ m → j < n →
    iCiv_F6 n (D - mB y (m - 1).toNat) a1 a2 a3 a4 a5 a6 y m d h i s K = K (D - mB y (moP y D - 1).toNat) a1 a2 a3 a4 a5 a6 y (moP y D) d h i s := by
  obtain ⟨g1, g2, g3, g4⟩ := mo_spec h0 h1
  have hyl := yLen_bd y
  intro j; induction j with
  | zero =>
    intro m n hj hm hn; obtain ⟨n, rfl⟩ := fuel hn; unfold iCiv_F6 iCiv_T6
    obtain rfl : m = moP y D := by omega
    have hs := mB_step y (moP y D) hm
    rw [yrB_of (by omega) (by omega), cond_true, decide_eq_false (by omega), cond_false]
  | succ j ih =>
    intro m n hj hm hn; obtain ⟨n, rfl⟩ := fuel hn; unfold iCiv_F6 iCiv_T6
    have hs := mB_step y m hm
    have hmono := mB_mono y (moP y D - 1).toNat m.toNat (by omega)
    have hb := mB_bd y (m - 1).toNat
    have hlb := mLen_bd y m
    rw [yrB_of (by omega) (by omega), cond_true, decide_eq_true (by omega), cond_true, cond_true, w64 (n := m + 1) (by omega) (by omega), w64 (n := D - mB y (m - 1).toNat - mLen y m) (by omega) (by omega)]
    have e : (m + 1 - 1).toNat = m.toNat := by congr 1; omega
    have := ih (m + 1) n (by omega) (by omega) (by omega)
    rw [e, hs] at this
    rw [show D - mB y (m - 1).toNat - mLen y m = D - (mB y (m - 1).toNat + mLen y m) by omega]
    exact this
def cvY (t : Int) : Int := (civP t).y
def cvMo (t : Int) : Int := (civP t).m
def cvD (t : Int) : Int := (civP t).d
def cvH (t : Int) : Int := (civP t).h
def cvMi (t : Int) : Int := (civP t).i
def cvSe (t : Int) : Int := (civP t).s
theorem cvM_civ (t : Int) : cvM (cvY t) (cvMo t) (cvD t) (cvH t) (cvMi t) (cvSe t) = civP t := rfl
def civA (t : Int) : AV := .agg [.int .i64 (cvY t), .int .i64 (cvMo t), .int .i64 (cvD t), .int .i64 (cvH t), .int .i64 (cvMi t), .int .i64 (cvSe t)]
theorem tdv {a : Int} (h : 0 ≤ a) (k : Int) : Int.tdiv a k = a / k := Int.tdiv_eq_ediv_of_nonneg h
theorem iCiv_okQ : Sound Kx 251 (j1_s timB civA) := by
  refine (iCiv_okOf (φ := fun t => .ite (timB t) (.ret (civA t) []) .fail) (fun _ => 10020) fun t r hv => ?_).of fun args objs r hv => ?_
  · obtain ⟨h1, h2⟩ := ite_some hv
    cases h2
    obtain ⟨t0, t1⟩ := timB_le h1
    obtain ⟨g0, g1, g2, g3⟩ := yDay_bd h1
    have d0 : 0 ≤ t / 86400 := by omega
    have d1 : t / 86400 < 2932897 := by omega
    obtain ⟨s1, s2⟩ := yr_start (t / 86400) d0 d1
    have hm := mo_spec g0 g1
    have hdb := dB_bd g2 g3
    unfold iCiv_run
    rw [Int.tmod_eq_emod_of_nonneg t0, tdv t0, w64 (n := t / 86400) (by omega) (by omega), tdv d0, w64 (n := t / 86400 / 366) (by omega) (by omega), w64 (n := 1970 + t / 86400 / 366) (by omega) (by omega),
      iCiv3_loop (t / 86400) 0 0 0 0 0 0 1 0 _ _ _ d0 d1 _ (yrP (t / 86400) - (1970 + t / 86400 / 366)).toNat (1970 + t / 86400 / 366) 10020 (by omega) s1 (by omega)]
    rw [yrB_of (by omega) (by omega), cond_true, w64 (n := t / 86400 - dB (yrP (t / 86400))) (by omega) (by omega)]
    have e0 : t / 86400 - dB (yrP (t / 86400)) = yDay (t / 86400) - mB (yrP (t / 86400)) (1 - 1 : Int).toNat := by
      rw [show mB (yrP (t / 86400)) (1 - 1 : Int).toNat = 0 from rfl, Int.sub_zero]; rfl
    rw [e0, iCiv6_loop (yrP (t / 86400)) (yDay (t / 86400)) 0 0 0 0 0 0 0 _ _ _ g2 g3 g0 g1 _ (moP (yrP (t / 86400)) (yDay (t / 86400)) - 1).toNat 1 10020 (by omega) (by omega) (by omega)]
    have r0 : 0 ≤ t % 86400 := by omega
    have hb := mB_bd (yrP (t / 86400)) (moP (yrP (t / 86400)) (yDay (t / 86400)) - 1).toNat
    have hy := yLen_bd (yrP (t / 86400))
    rw [tdv r0, tdv r0, Int.tmod_eq_emod_of_nonneg r0, w64 (n := t % 86400 / 3600) (by omega) (by omega), w64 (n := t % 86400 / 60) (by omega) (by omega), Int.tmod_eq_emod_of_nonneg (show 0 ≤ t % 86400 / 60 by omega), w64 (n := yDay (t / 86400) - mB (yrP (t / 86400)) (moP (yrP (t / 86400)) (yDay (t / 86400)) - 1).toNat + 1) (by omega) (by omega),
      show t % 86400 / 3600 = t / 3600 % 24 by omega, show t % 86400 / 60 % 60 = t / 60 % 60 by omega, show t % 86400 % 60 = t % 60 by omega]
    rfl
  · unfold j1_s at hv; split at hv
    · exact hv
    · cases hv
def con_s : List AV → List Ob → Br
  | [.str s, .str sep], [] => .ite (decide (s.length ≤ 1000000)) (.ret (.bool (conP s sep)) []) .fail
  | _, _ => .fail
theorem con_okQ : Sound Kx 246 con_s := by
  refine sound_calls Tryz.func246 (by kernel_rfl) rfl fun args objs res objs' hv w L vs hR hr => ?_
  unfold con_s at hv
  split at hv
  case h_2 => cases hv
  rename_i s sep
  obtain ⟨h1, h2⟩ := ite_some hv
  cases h2
  rw [decide_eq_true_eq] at h1
  refine ⟨rfl, ?_⟩
  simp only [rels, rel] at hr
  obtain ⟨v, vs', rfl, rfl, v2, vs2, rfl, rfl, rfl⟩ := hr
  obtain ⟨m, hm⟩ := hR.g.2.1 0 (by kernel_rfl)
  refine (Tryz.strings_Contains ⟨s.toArray⟩ ⟨sep.toArray⟩ m w (by show s.toArray.size < _; simp; omega) hm).mono ?_
  rintro e w' ⟨rfl, rfl⟩
  refine ⟨_, rfl, Below.refl _ _, ?_⟩
  simp only [rel]
  rfl

def iHttp_O : Opt := { split := true }
def iHttp_C : SC := [⟨130, _, iTime_okQ⟩, ⟨251, _, iCiv_okQ⟩, ⟨252, _, iDays_okQ⟩, ⟨253, _, iWk_okQ⟩, ⟨254, _, iDig_okQ⟩, ⟨245, _, iMons_okQ⟩, ⟨255, _, iClk_okQ⟩]
abbrev iHttp_c1 (t : Int) := (((((cut (List.getD dayT (Int.toNat (wkP t)) ([] : Bytes)) 0 3) ++ ([44, 32] : Bytes)) ++ (padP 2 (cvD t))) ++ ([32] : Bytes)) ++ (List.getD monL (Int.toNat (wk64 ((cvMo t) - 1))) ([] : Bytes)))
def iHttp_br (t : Int) : Br := (Br.ite (!(timB t)) (Br.ret (AV.str ([] : Bytes)) []) (Br.ite (timB t) (Br.ite (decide (0 ≤ (wkP t))) (Br.ite (decide ((wkP t) < 7)) (Br.ite (decide (3 ≤ ((List.length (List.getD dayT (Int.toNat (wkP t)) ([] : Bytes))) : Int))) (Br.ite (decide (((List.length (cut (List.getD dayT (Int.toNat (wkP t)) ([] : Bytes)) 0 3)) + 2) ≤ 9223372036854775807)) (Br.ite (dgB (cvD t) 2) (Br.ite (decide (((List.length ((cut (List.getD dayT (Int.toNat (wkP t)) ([] : Bytes)) 0 3) ++ ([44, 32] : Bytes))) + (List.length (padP 2 (cvD t)))) ≤ 9223372036854775807)) (Br.ite (decide (((List.length (((cut (List.getD dayT (Int.toNat (wkP t)) ([] : Bytes)) 0 3) ++ ([44, 32] : Bytes)) ++ (padP 2 (cvD t)))) + 1) ≤ 9223372036854775807)) (Br.ite (decide (0 ≤ (wk64 ((cvMo t) - 1)))) (Br.ite (decide ((wk64 ((cvMo t) - 1)) < 12)) (Br.ite (decide (((List.length ((((cut (List.getD dayT (Int.toNat (wkP t)) ([] : Bytes)) 0 3) ++ ([44, 32] : Bytes)) ++ (padP 2 (cvD t))) ++ ([32] : Bytes))) + (List.length (List.getD monL (Int.toNat (wk64 ((cvMo t) - 1))) ([] : Bytes)))) ≤ 9223372036854775807)) (Br.ite (decide (((List.length (iHttp_c1 t)) + 1) ≤ 9223372036854775807)) (Br.ite (dgB (cvY t) 4) (Br.ite (decide (((List.length ((iHttp_c1 t) ++ ([32] : Bytes))) + (List.length (padP 4 (cvY t)))) ≤ 9223372036854775807)) (Br.ite (decide (((List.length (((iHttp_c1 t) ++ ([32] : Bytes)) ++ (padP 4 (cvY t)))) + 1) ≤ 9223372036854775807)) (Br.ite (civOk (cvM (cvY t) (cvMo t) (cvD t) (cvH t) (cvMi t) (cvSe t))) (Br.ite (decide (((List.length ((((iHttp_c1 t) ++ ([32] : Bytes)) ++ (padP 4 (cvY t))) ++ ([32] : Bytes))) + (List.length (clockP (cvM (cvY t) (cvMo t) (cvD t) (cvH t) (cvMi t) (cvSe t))))) ≤ 9223372036854775807)) (Br.ite (decide (((List.length (((((iHttp_c1 t) ++ ([32] : Bytes)) ++ (padP 4 (cvY t))) ++ ([32] : Bytes)) ++ (clockP (cvM (cvY t) (cvMo t) (cvD t) (cvH t) (cvMi t) (cvSe t))))) + 4) ≤ 9223372036854775807)) (Br.ret (AV.str ((((((iHttp_c1 t) ++ ([32] : Bytes)) ++ (padP 4 (cvY t))) ++ ([32] : Bytes)) ++ (clockP (cvM (cvY t) (cvMo t) (cvD t) (cvH t) (cvMi t) (cvSe t)))) ++ ([32, 71, 77, 84] : Bytes))) []) Br.fail) Br.fail) Br.fail) Br.fail) Br.fail) Br.fail) Br.fail) Br.fail) Br.fail) Br.fail) Br.fail) Br.fail) Br.fail) Br.fail) Br.fail) Br.fail) Br.fail) Br.fail))
def iHttp_s : List AV → List Ob → Br
  | [.int .i64 t], [] => iHttp_br t
  | _, _ => .fail
theorem iHttp_ok : Sound Kx 209 iHttp_s := sound_br (C := iHttp_C) (O := iHttp_O) Tryz.func209 (by kernel_rfl) fun args objs => by
  unfold iHttp_s; split
  · exact .inr (by kernel_rfl)
  · exact .inl rfl

def iLong_O : Opt := { split := true }
def iLong_C : SC := [⟨130, _, iTime_okQ⟩, ⟨251, _, iCiv_okQ⟩, ⟨252, _, iDays_okQ⟩, ⟨253, _, iWk_okQ⟩, ⟨254, _, iDig_okQ⟩, ⟨245, _, iMons_okQ⟩, ⟨255, _, iClk_okQ⟩]
abbrev iLong_c1 (t : Int) := (((((List.getD dayT (Int.toNat (wkP t)) ([] : Bytes)) ++ ([44, 32] : Bytes)) ++ (padP 2 (cvD t))) ++ ([45] : Bytes)) ++ (List.getD monL (Int.toNat (wk64 ((cvMo t) - 1))) ([] : Bytes)))
def iLong_br (t : Int) : Br := (Br.ite (!(timB t)) (Br.ret (AV.str ([] : Bytes)) []) (Br.ite (timB t) (Br.ite (decide (2069 < (cvY t))) (Br.ret (AV.str ([] : Bytes)) []) (Br.ite (timB t) (Br.ite (decide (0 ≤ (wkP t))) (Br.ite (decide ((wkP t) < 7)) (Br.ite (decide (((List.length (List.getD dayT (Int.toNat (wkP t)) ([] : Bytes))) + 2) ≤ 9223372036854775807)) (Br.ite (dgB (cvD t) 2) (Br.ite (decide (((List.length ((List.getD dayT (Int.toNat (wkP t)) ([] : Bytes)) ++ ([44, 32] : Bytes))) + (List.length (padP 2 (cvD t)))) ≤ 9223372036854775807)) (Br.ite (decide (((List.length (((List.getD dayT (Int.toNat (wkP t)) ([] : Bytes)) ++ ([44, 32] : Bytes)) ++ (padP 2 (cvD t)))) + 1) ≤ 9223372036854775807)) (Br.ite (decide (0 ≤ (wk64 ((cvMo t) - 1)))) (Br.ite (decide ((wk64 ((cvMo t) - 1)) < 12)) (Br.ite (decide (((List.length ((((List.getD dayT (Int.toNat (wkP t)) ([] : Bytes)) ++ ([44, 32] : Bytes)) ++ (padP 2 (cvD t))) ++ ([45] : Bytes))) + (List.length (List.getD monL (Int.toNat (wk64 ((cvMo t) - 1))) ([] : Bytes)))) ≤ 9223372036854775807)) (Br.ite (decide (((List.length (iLong_c1 t)) + 1) ≤ 9223372036854775807)) (Br.ite (dgB (cvY t) 2) (Br.ite (decide (((List.length ((iLong_c1 t) ++ ([45] : Bytes))) + (List.length (padP 2 (cvY t)))) ≤ 9223372036854775807)) (Br.ite (decide (((List.length (((iLong_c1 t) ++ ([45] : Bytes)) ++ (padP 2 (cvY t)))) + 1) ≤ 9223372036854775807)) (Br.ite (civOk (cvM (cvY t) (cvMo t) (cvD t) (cvH t) (cvMi t) (cvSe t))) (Br.ite (decide (((List.length ((((iLong_c1 t) ++ ([45] : Bytes)) ++ (padP 2 (cvY t))) ++ ([32] : Bytes))) + (List.length (clockP (cvM (cvY t) (cvMo t) (cvD t) (cvH t) (cvMi t) (cvSe t))))) ≤ 9223372036854775807)) (Br.ite (decide (((List.length (((((iLong_c1 t) ++ ([45] : Bytes)) ++ (padP 2 (cvY t))) ++ ([32] : Bytes)) ++ (clockP (cvM (cvY t) (cvMo t) (cvD t) (cvH t) (cvMi t) (cvSe t))))) + 4) ≤ 9223372036854775807)) (Br.ret (AV.str ((((((iLong_c1 t) ++ ([45] : Bytes)) ++ (padP 2 (cvY t))) ++ ([32] : Bytes)) ++ (clockP (cvM (cvY t) (cvMo t) (cvD t) (cvH t) (cvMi t) (cvSe t)))) ++ ([32, 71, 77, 84] : Bytes))) []) Br.fail) Br.fail) Br.fail) Br.fail) Br.fail) Br.fail) Br.fail) Br.fail) Br.fail) Br.fail) Br.fail) Br.fail) Br.fail) Br.fail) Br.fail) Br.fail) Br.fail)) Br.fail))
def iLong_s : List AV → List Ob → Br
  | [.int .i64 t], [] => iLong_br t
  | _, _ => .fail
theorem iLong_ok : Sound Kx 210 iLong_s := sound_br (C := iLong_C) (O := iLong_O) Tryz.func210 (by kernel_rfl) fun args objs => by
  unfold iLong_s; split
  · exact .inr (by kernel_rfl)
  · exact .inl rfl

def iLine_O : Opt := { split := true }
def iLine_C : SC := [⟨130, _, iTime_okQ⟩, ⟨251, _, iCiv_okQ⟩, ⟨252, _, iDays_okQ⟩, ⟨253, _, iWk_okQ⟩, ⟨254, _, iDig_okQ⟩, ⟨245, _, iMons_okQ⟩, ⟨255, _, iClk_okQ⟩]
abbrev iLine_c1 (t : Int) := (((cut (List.getD dayT (Int.toNat (wkP t)) ([] : Bytes)) 0 3) ++ ([32] : Bytes)) ++ (List.getD monL (Int.toNat (wk64 ((cvMo t) - 1))) ([] : Bytes)))
abbrev iLine_c2 (t : Int) := (((iLine_c1 t) ++ ([32] : Bytes)) ++ (([32] : Bytes) ++ (cut (padP 2 (cvD t)) 1 ((List.length (padP 2 (cvD t))) : Int))))
abbrev iLine_c3 (t : Int) := (cvM (cvY t) (cvMo t) (cvD t) (cvH t) (cvMi t) (cvSe t))
abbrev iLine_c4 (t : Int) := (decide (((List.length ((cut (List.getD dayT (Int.toNat (wkP t)) ([] : Bytes)) 0 3) ++ ([32] : Bytes))) + (List.length (List.getD monL (Int.toNat (wk64 ((cvMo t) - 1))) ([] : Bytes)))) ≤ 9223372036854775807))
abbrev iLine_c5 (t : Int) := ((((iLine_c1 t) ++ ([32] : Bytes)) ++ (padP 2 (cvD t))) ++ ([32] : Bytes))
def iLine_br (t : Int) : Br := (Br.ite (!(timB t)) (Br.ret (AV.str ([] : Bytes)) []) (Br.ite (timB t) (Br.ite (dgB (cvD t) 2) (Br.ite (decide ((cvD t) < 10)) (Br.ite (decide (1 ≤ ((List.length (padP 2 (cvD t))) : Int))) (Br.ite (decide ((1 + (List.length (cut (padP 2 (cvD t)) 1 ((List.length (padP 2 (cvD t))) : Int)))) ≤ 9223372036854775807)) (Br.ite (decide (0 ≤ (wkP t))) (Br.ite (decide ((wkP t) < 7)) (Br.ite (decide (3 ≤ ((List.length (List.getD dayT (Int.toNat (wkP t)) ([] : Bytes))) : Int))) (Br.ite (decide (((List.length (cut (List.getD dayT (Int.toNat (wkP t)) ([] : Bytes)) 0 3)) + 1) ≤ 9223372036854775807)) (Br.ite (decide (0 ≤ (wk64 ((cvMo t) - 1)))) (Br.ite (decide ((wk64 ((cvMo t) - 1)) < 12)) (Br.ite (iLine_c4 t) (Br.ite (decide (((List.length (iLine_c1 t)) + 1) ≤ 9223372036854775807)) (Br.ite (decide (((List.length ((iLine_c1 t) ++ ([32] : Bytes))) + (List.length (([32] : Bytes) ++ (cut (padP 2 (cvD t)) 1 ((List.length (padP 2 (cvD t))) : Int))))) ≤ 9223372036854775807)) (Br.ite (decide (((List.length (iLine_c2 t)) + 1) ≤ 9223372036854775807)) (Br.ite (civOk (iLine_c3 t)) (Br.ite (decide (((List.length ((iLine_c2 t) ++ ([32] : Bytes))) + (List.length (clockP (iLine_c3 t)))) ≤ 9223372036854775807)) (Br.ite (decide (((List.length (((iLine_c2 t) ++ ([32] : Bytes)) ++ (clockP (iLine_c3 t)))) + 1) ≤ 9223372036854775807)) (Br.ite (dgB (cvY t) 4) (Br.ite (decide (((List.length ((((iLine_c2 t) ++ ([32] : Bytes)) ++ (clockP (iLine_c3 t))) ++ ([32] : Bytes))) + (List.length (padP 4 (cvY t)))) ≤ 9223372036854775807)) (Br.ret (AV.str (((((iLine_c2 t) ++ ([32] : Bytes)) ++ (clockP (iLine_c3 t))) ++ ([32] : Bytes)) ++ (padP 4 (cvY t)))) []) Br.fail) Br.fail) Br.fail) Br.fail) Br.fail) Br.fail) Br.fail) Br.fail) Br.fail) Br.fail) Br.fail) Br.fail) Br.fail) Br.fail) Br.fail) Br.fail) Br.fail) (Br.ite (decide (0 ≤ (wkP t))) (Br.ite (decide ((wkP t) < 7)) (Br.ite (decide (3 ≤ ((List.length (List.getD dayT (Int.toNat (wkP t)) ([] : Bytes))) : Int))) (Br.ite (decide (((List.length (cut (List.getD dayT (Int.toNat (wkP t)) ([] : Bytes)) 0 3)) + 1) ≤ 9223372036854775807)) (Br.ite (decide (0 ≤ (wk64 ((cvMo t) - 1)))) (Br.ite (decide ((wk64 ((cvMo t) - 1)) < 12)) (Br.ite (iLine_c4 t) (Br.ite (decide (((List.length (iLine_c1 t)) + 1) ≤ 9223372036854775807)) (Br.ite (decide (((List.length ((iLine_c1 t) ++ ([32] : Bytes))) + (List.length (padP 2 (cvD t)))) ≤ 9223372036854775807)) (Br.ite (decide (((List.length (((iLine_c1 t) ++ ([32] : Bytes)) ++ (padP 2 (cvD t)))) + 1) ≤ 9223372036854775807)) (Br.ite (civOk (iLine_c3 t)) (Br.ite (decide (((List.length (iLine_c5 t)) + (List.length (clockP (iLine_c3 t)))) ≤ 9223372036854775807)) (Br.ite (decide (((List.length ((iLine_c5 t) ++ (clockP (iLine_c3 t)))) + 1) ≤ 9223372036854775807)) (Br.ite (dgB (cvY t) 4) (Br.ite (decide (((List.length (((iLine_c5 t) ++ (clockP (iLine_c3 t))) ++ ([32] : Bytes))) + (List.length (padP 4 (cvY t)))) ≤ 9223372036854775807)) (Br.ret (AV.str ((((iLine_c5 t) ++ (clockP (iLine_c3 t))) ++ ([32] : Bytes)) ++ (padP 4 (cvY t)))) []) Br.fail) Br.fail) Br.fail) Br.fail) Br.fail) Br.fail) Br.fail) Br.fail) Br.fail) Br.fail) Br.fail) Br.fail) Br.fail) Br.fail) Br.fail)) Br.fail) Br.fail))
def iLine_s : List AV → List Ob → Br
  | [.int .i64 t], [] => iLine_br t
  | _, _ => .fail
theorem iLine_ok : Sound Kx 211 iLine_s := sound_br (C := iLine_C) (O := iLine_O) Tryz.func211 (by kernel_rfl) fun args objs => by
  unfold iLine_s; split
  · exact .inr (by kernel_rfl)
  · exact .inl rfl

def iMonIn_O : Opt := { live := [(2, [0, 5, 6, 7])], outs := [(2, [2])] }
def iMonIn_C : SC := [⟨245, _, iMons_okQ⟩, ⟨246, _, con_okQ⟩]
def iMonIn_T2 (v2x0 : Bytes) (v2x1 v2x2 : Int) (v2x3 : (List Bytes)) (kR2 : Bytes → Int → Int → (List Bytes) → Option Rs) (k2e0 : Int → Option Rs) (k2e1 : Option Rs) : Option Rs :=
  (bif (decide (v2x2 < v2x1)) then (bif (decide (0 ≤ v2x2)) then (bif (decide (v2x2 < (v2x3.length : Int))) then (bif (decide (v2x0.length ≤ 1000000)) then (bif (conP v2x0 (List.getD v2x3 (Int.toNat v2x2) ([] : Bytes))) then (k2e0 (wk64 (v2x2 + 1))) else (kR2 v2x0 v2x1 (wk64 (v2x2 + 1)) v2x3)) else (none)) else (none)) else (none)) else k2e1)
def iMonIn_F2 : Nat → Bytes → Int → Int → (List Bytes) → (Int → Option Rs) → (Option Rs) → Option Rs
  | 0, _, _, _, _, _, _ => none
  | n + 1, v2x0, v2x1, v2x2, v2x3, k2e0, k2e1 => iMonIn_T2 v2x0 v2x1 v2x2 v2x3 (fun v2x0 v2x1 v2x2 v2x3 => iMonIn_F2 n v2x0 v2x1 v2x2 v2x3 k2e0 k2e1) k2e0 k2e1
abbrev iMonIn_p2 : SP := ⟨18, [0, 5, 6, 7], [(.v .s), (.v (.ref 384 0)), (.v (.i .i64)), (.v (.i .i64))], [(384, .arr Ty.str 0 false)]⟩
noncomputable def iMonIn_b2 : Code := codeAt (codeOf Tryz.f206) [1, 0, 1, 0, 0]
def iMonIn_E2 (f : (Int → Option Rs) → (Option Rs) → Option Rs) (k : KT) : Option Rs := f (fun x2x0x0 => k Ex.ret ((St.mk (slots 0 18 [(2, (AV.int .i64 x2x0x0))]) ([] : (List (Nat × (Ob))))))) (k (Ex.exit 0) ((St.mk (slots 0 18 []) ([] : (List (Nat × (Ob)))))))
def iMonIn_G2 (n : Nat) (d : iMonIn_p2.D) : KT → Option Rs := iMonIn_E2 (iMonIn_F2 n d.1.1 d.1.2.2.1 d.1.2.2.2.1 d.2.1)
def iMonIn_L (N : Nat) : Lam := lamOf [⟨2, iMonIn_p2, iMonIn_G2 N⟩]
theorem iMonIn_ok2 (N : Nat) : OkL Kx iMonIn_C.s iMonIn_O 0 N (iMonIn_L N) iMonIn_b2 := okL iMonIn_p2 (iMonIn_G2) (fun d kR => iMonIn_E2 (iMonIn_T2 d.1.1 d.1.2.2.1 d.1.2.2.2.1 d.2.1 (fun v2x0 v2x1 v2x2 v2x3 => kR ((v2x0, (), v2x1, v2x2, ()), (v2x3, ()))))) (fun _ _ => by kernel_rfl) (fun _ _ _ => by kernel_rfl) (fun _ _ => by kernel_rfl) (fun _ _ _ _ => by kernel_rfl) (okEach (l' := []) (by kernel_rfl) trivial)
def iMonIn_run (N : Nat) (s : Bytes) : Option Rs := (iMonIn_F2 N s 12 0 monL (fun x2x0x0 => (some ((AV.int .i64 x2x0x0), []))) (some ((AV.int .i64 0), [])))
def iMonIn_sOf (φ : Bytes → Br) : List AV → List Ob → Br
  | [.str s], [] => φ s
  | _, _ => .fail
theorem iMonIn_okOf {φ : Bytes → Br} (fu : Bytes → Nat) (hv : ∀ s res_, (φ s).val = some res_ → iMonIn_run (fu s) s = some res_) : Sound Kx 206 (iMonIn_sOf φ) := sound_lp (C := iMonIn_C) (O := iMonIn_O) Tryz.func206 (by kernel_rfl) fun args objs => by
  unfold iMonIn_sOf; split
  · rename_i s; exact .inr fun _ hyp_ => run_lp (Λ := iMonIn_L (fu s)) (by kernel_rfl) (okEach (l' := [iMonIn_b2]) (by kernel_rfl) ⟨iMonIn_ok2 _, trivial⟩) (by kernel_rfl) (hv s _ hyp_)
  · exact .inl rfl

theorem wdP_bd {t : Int} (h : timB t = true) : 0 ≤ wdP t ∧ wdP t < 7 := by
  unfold wdP; omega
theorem day_get {w : Int} (h0 : 0 ≤ w) (h1 : w < 7) : List.getD dayT w.toNat [] = dayN w := by
  have : w = 0 ∨ w = 1 ∨ w = 2 ∨ w = 3 ∨ w = 4 ∨ w = 5 ∨ w = 6 := by omega
  rcases this with rfl | rfl | rfl | rfl | rfl | rfl | rfl <;> rfl
theorem mon_get {m : Int} (h0 : 1 ≤ m) (h1 : m ≤ 12) : List.getD monL (m - 1).toNat [] = monN m := by
  rcases mon_cases h0 h1 with rfl | rfl | rfl | rfl | rfl | rfl | rfl | rfl | rfl | rfl | rfl | rfl <;> rfl
theorem cut03 (s : Bytes) : Ev.cut s 0 3 = s.take 3 := by unfold Ev.cut; simp
structure CivF (t : Int) : Prop where
  wk : wkP t = wdP t
  d0 : decide ((0 : Int) ≤ wdP t) = true
  d1 : decide (wdP t < (7 : Int)) = true
  dg : List.getD dayT (wdP t).toNat ([] : Bytes) = dayN (wdP t)
  m0 : decide ((0 : Int) ≤ cvMo t - 1) = true
  m1 : decide (cvMo t - 1 < (12 : Int)) = true
  mw : wk64 (cvMo t - 1) = cvMo t - 1
  mg : List.getD monL (cvMo t - 1).toNat ([] : Bytes) = monN (cvMo t)
  ml : (monN (cvMo t)).length = 3
  mb : moB (cvMo t) = true
  cl : (clockP (cvM (cvY t) (cvMo t) (cvD t) (cvH t) (cvMi t) (cvSe t))).length = 8
  ok : civOk (cvM (cvY t) (cvMo t) (cvD t) (cvH t) (cvMi t) (cvSe t)) = true
  g1 : dgB (cvD t) 2 = true
  g2 : dgB (cvY t) 4 = true
  g3 : dgB (cvY t) 2 = true
  p1 : pdB (cvD t) 2 = true
  p2 : pdB (cvY t) 4 = true
  p3 : pdB (cvY t % 100) 2 = true
theorem civF {t : Int} (h : timB t = true) : CivF t := by
  obtain ⟨hk, _⟩ := civ_ok h
  obtain ⟨⟨h1, h2⟩, ⟨h3, h4⟩, _⟩ := civ_parts hk
  obtain ⟨w0, w1⟩ := wdP_bd h
  obtain ⟨⟨_, _, _, g1, g2, g3⟩, ⟨_, _, _, p1, p2, p3⟩⟩ := civ_nums hk
  have h3' : 1 ≤ cvMo t := h3
  have h4' : cvMo t ≤ 12 := h4
  exact ⟨by unfold wkP; rw [h]; rfl, decide_eq_true w0, decide_eq_true w1, day_get w0 w1, decide_eq_true (by omega), decide_eq_true (by omega), w64 (by omega) (by omega), mon_get h3' h4', mon_len h3' h4',
    by unfold moB; rw [decide_eq_true h3', decide_eq_true h4']; rfl, clock_len _, hk, g1, g2, g3, p1, p2, p3⟩
theorem iHttp_okQ : Sound Kx 209 (j1_s (fun _ => true) fun t => .str (httpP t)) := of_j1 iHttp_ok fun t _ => by
  show (iHttp_br t).val = some (.str (httpP t), [])
  unfold iHttp_br httpP iHttp_c1
  cases h : timB t
  · rfl
  have F := civF h
  have dl := day3_len (wdP t)
  have dl2 := day_len (wdP t)
  have e3 : decide ((3 : Int) ≤ ((dayN (wdP t)).length : Int)) = true := decide_eq_true (by omega)
  simp only [F.wk, F.d0, F.d1, F.dg, F.mw, F.m0, F.m1, F.mg, F.ml, F.cl, F.ok, F.g1, F.g2, F.g3, e3, cut03, dl, List.length_append, padP_len, List.length_cons, List.length_nil, Br.val, Bool.not_true]
  simp [httpC, gmtB, List.append_assoc, cvM_civ, Br.val, cvD, cvMo, cvY]
  rfl
theorem iLong_okQ : Sound Kx 210 (j1_s (fun _ => true) fun t => .str (longP t)) := of_j1 iLong_ok fun t _ => by
  show (iLong_br t).val = some (.str (longP t), [])
  unfold iLong_br longP iLong_c1
  cases h : timB t
  · rfl
  have F := civF h
  have dl2 := day_len (wdP t)
  by_cases c : cvY t ≤ 2069
  · have e1 : decide (2069 < cvY t) = false := decide_eq_false (by omega)
    have e2 : decide ((civP t).y ≤ 2069) = true := decide_eq_true c
    have e3 : ∀ k : Nat, 9 ≤ k → decide ((dayN (wdP t)).length ≤ k) = true := fun k hk => decide_eq_true (by omega)
    rw [e2]
    simp only [F.wk, F.d0, F.d1, F.dg, F.mw, F.m0, F.m1, F.mg, F.ml, F.cl, F.ok, F.g1, F.g2, F.g3, e1, List.length_append, padP_len, List.length_cons, List.length_nil, Br.val, Bool.not_true, Nat.add_assoc]
    simp (disch := omega) [e3, longC, gmtB, List.append_assoc, cvM_civ, Br.val, cvD, cvMo, cvY]
    rfl
  · have e1 : decide (2069 < cvY t) = true := decide_eq_true (by omega)
    have e2 : decide ((civP t).y ≤ 2069) = false := decide_eq_false c
    rw [e1, e2]; rfl
theorem cut12 (n : Int) : Ev.cut (padP 2 n) 1 2 = [dg n] := rfl
theorem cut_dg (n : Int) : Ev.cut (padP 2 n) 1 ((padP 2 n).length : Int) = [dg n] := by
  rw [padP_len]; rfl
theorem iLine_okQ : Sound Kx 211 (j1_s (fun _ => true) fun t => .str (lineD t)) := of_j1 iLine_ok fun t _ => by
  show (iLine_br t).val = some (.str (lineD t), [])
  unfold iLine_br lineD iLine_c5 iLine_c4 iLine_c3 iLine_c2 iLine_c1
  cases h : timB t
  · rfl
  have F := civF h
  have dl := day3_len (wdP t)
  have dl2 := day_len (wdP t)
  have e3 : decide ((3 : Int) ≤ ((dayN (wdP t)).length : Int)) = true := decide_eq_true (by omega)
  have hd : lineC (wdP t) (civP t) = (dayN (wdP t)).take 3 ++ 32 :: monN (cvMo t) ++ 32 :: dayL (cvD t) ++ 32 :: clockP (civP t) ++ 32 :: padP 4 (cvY t) := rfl
  rw [hd]
  by_cases c : cvD t < 10
  · have e1 : decide (cvD t < 10) = true := decide_eq_true c
    have e2 : dayL (cvD t) = [32, dg (cvD t)] := by unfold dayL; rw [e1]; rfl
    have e4 : decide ((1 : Int) ≤ (((padP 2 (cvD t)).length : Nat) : Int)) = true := by rw [padP_len]; rfl
    rw [e2]
    simp only [F.wk, F.d0, F.d1, F.dg, F.mw, F.m0, F.m1, F.mg, F.ml, F.cl, F.ok, F.g1, F.g2, F.g3, e1, e3, e4, cut03, cut_dg, dl, List.length_append, padP_len, List.length_cons, List.length_nil, Br.val, Bool.not_true]
    simp [List.append_assoc, cvM_civ, Br.val, cut12]
  · have e1 : decide (cvD t < 10) = false := decide_eq_false c
    have e2 : dayL (cvD t) = padP 2 (cvD t) := by unfold dayL; rw [e1]; rfl
    rw [e2]
    simp only [F.wk, F.d0, F.d1, F.dg, F.mw, F.m0, F.m1, F.mg, F.ml, F.cl, F.ok, F.g1, F.g2, F.g3, e1, e3, cut03, dl, List.length_append, padP_len, List.length_cons, List.length_nil, Br.val, Bool.not_true]
    simp [List.append_assoc, cvM_civ, Br.val]

def s1_s (g : Bytes → Bool) (p : Bytes → AV) : List AV → List Ob → Br
  | [.str s], [] => .ite (g s) (.ret (p s) []) .fail
  | _, _ => .fail
def monF (s : Bytes) : Nat → Int → Int
  | 0, _ => 0
  | j + 1, m => bif conP s (monN m) then m else monF s j (m + 1)
theorem monI_F (s : Bytes) : monI s = monF s 12 1 := rfl
theorem iMonIn_loop (s : Bytes) (hl : s.length ≤ 1000000) (K : Int → Option Rs) : ∀ (j : Nat) (m : Int) (n : Nat), m + j = 13 → 1 ≤ m → j < n → iMonIn_F2 n s 12 (m - 1) monL K (K 0) = K (monF s j m) := by
  intro j; induction j with
  | zero =>
    intro m n hj h1 hn; obtain ⟨n, rfl⟩ := fuel hn; unfold iMonIn_F2 iMonIn_T2
    rw [decide_eq_false (by omega)]; rfl
  | succ j ih =>
    intro m n hj h1 hn; obtain ⟨n, rfl⟩ := fuel hn
    have e1 : decide (m - 1 < ((monL.length : Nat) : Int)) = true := decide_eq_true (by show m - 1 < 12; omega)
    unfold iMonIn_F2 iMonIn_T2
    rw [decide_eq_true (show m - 1 < 12 by omega), decide_eq_true (show 0 ≤ m - 1 by omega), e1, decide_eq_true hl, mon_get h1 (by omega), w64 (n := m - 1 + 1) (by omega) (by omega)]
    simp only [cond_true]
    have hr := ih (m + 1) n (by omega) (by omega) (by omega)
    rw [show m + 1 - 1 = m - 1 + 1 by omega] at hr
    rw [hr, monF, show m - 1 + 1 = m by omega]
    cases conP s (monN m) <;> rfl
theorem iMonIn_okQ : Sound Kx 206 (s1_s (fun s => decide (s.length ≤ 1000000)) fun s => .int .i64 (monI s)) := by
  refine (iMonIn_okOf (φ := fun s => .ite (decide (s.length ≤ 1000000)) (.ret (.int .i64 (monI s)) []) .fail) (fun _ => 20) fun s r hv => ?_).of fun args objs r hv => ?_
  · obtain ⟨h1, h2⟩ := ite_some hv
    cases h2
    unfold iMonIn_run
    rw [monI_F]
    exact iMonIn_loop s (of_decide_eq_true h1) (fun x => some (.int .i64 x, [])) 12 1 20 (by omega) (by omega) (by omega)
  · unfold s1_s at hv; split at hv
    · exact hv
    · cases hv

def dTag_C : SC := [⟨69, _, l1New_ok⟩, ⟨146, _, l1PickT_okQ⟩, ⟨71, _, l1Below_okQ⟩, ⟨72, _, l1of_ok⟩, ⟨147, _, l1bend_okQ⟩, ⟨98, _, l1Once_okQ⟩]
abbrev dTag_c1 (code : List Int) := (ofI (belV 5 code (belI 3 code 0) (belH 3 (newH code))) ([97, 98, 44, 33] : Bytes) code (belI 5 code (belI 3 code 0)) (belH 5 (belH 3 (newH code))))
abbrev dTag_c2 (code : List Int) := (ofH (belV 5 code (belI 3 code 0) (belH 3 (newH code))) ([97, 98, 44, 33] : Bytes) code (belI 5 code (belI 3 code 0)) (belH 5 (belH 3 (newH code))))
abbrev dTag_c3 (code : List Int) := (List.getD (List.set (List.set (List.set (List.replicate 3 ([] : Bytes)) 0 ([] : Bytes)) 1 ([87, 47] : Bytes)) 2 ([119, 47] : Bytes)) (Int.toNat (belV 3 code 0 (newH code))) ([] : Bytes))
abbrev dTag_c4 (code : List Int) := (ofS (belV 5 code (belI 3 code 0) (belH 3 (newH code))) ([97, 98, 44, 33] : Bytes) code (belI 5 code (belI 3 code 0)) (belH 5 (belH 3 (newH code))))
abbrev dTag_c5 (code : List Int) := (ofS (wk64 (188 + (belV 2 code (belI 9 code (belI 3 code (dTag_c1 code))) (belH 9 (belH 3 (dTag_c2 code)))))) ([116] : Bytes) code (belI 2 code (belI 9 code (belI 3 code (dTag_c1 code)))) (belH 2 (belH 9 (belH 3 (dTag_c2 code)))))
def dTag_br (code : List Int) : Br := (Br.ite (decide (code.length ≤ 281474976710656)) (Br.ite ((okC code 0) && true) (Br.ite (decide (((List.length (dTag_c3 code)) + 1) ≤ 9223372036854775807)) (Br.ite (okC code (belI 3 code 0)) (Br.ite (((okC code (belI 5 code (belI 3 code 0))) && (decide ((belV 5 code (belI 3 code 0) (belH 3 (newH code))) ≤ 1000000))) && true) (Br.ite (decide (((List.length ((dTag_c3 code) ++ ([34] : Bytes))) + (List.length (dTag_c4 code))) ≤ 9223372036854775807)) (Br.ite (decide (((List.length (((dTag_c3 code) ++ ([34] : Bytes)) ++ (dTag_c4 code))) + 1) ≤ 9223372036854775807)) (Br.ite (okC code (dTag_c1 code)) (Br.ite (decide ((belV 3 code (dTag_c1 code) (dTag_c2 code)) = 0)) (Br.ite ((okC code (belI 3 code (dTag_c1 code))) && (decide ((List.length ((((dTag_c3 code) ++ ([34] : Bytes)) ++ (dTag_c4 code)) ++ ([34] : Bytes))) ≤ 1000000))) (Br.ret (AV.str (bendD ((((dTag_c3 code) ++ ([34] : Bytes)) ++ (dTag_c4 code)) ++ ([34] : Bytes)) code (belI 3 code (dTag_c1 code)) (belH 3 (dTag_c2 code))).1) []) Br.fail) (Br.ite (okC code (belI 3 code (dTag_c1 code))) (Br.ite (decide ((belV 9 code (belI 3 code (dTag_c1 code)) (belH 3 (dTag_c2 code))) = 0)) (Br.ite (okC code (belI 9 code (belI 3 code (dTag_c1 code)))) (Br.ite (((okC code (belI 2 code (belI 9 code (belI 3 code (dTag_c1 code))))) && (decide ((wk64 (188 + (belV 2 code (belI 9 code (belI 3 code (dTag_c1 code))) (belH 9 (belH 3 (dTag_c2 code)))))) ≤ 1000000))) && true) (Br.ite (decide ((1 + (List.length (dTag_c5 code))) ≤ 9223372036854775807)) (Br.ite (decide (((List.length (([34] : Bytes) ++ (dTag_c5 code))) + 1) ≤ 9223372036854775807)) (Br.ret (AV.str ((([34] : Bytes) ++ (dTag_c5 code)) ++ ([34] : Bytes))) []) Br.fail) Br.fail) Br.fail) Br.fail) (Br.ret (AV.str ((((dTag_c3 code) ++ ([34] : Bytes)) ++ (dTag_c4 code)) ++ ([34] : Bytes))) [])) Br.fail)) Br.fail) Br.fail) Br.fail) Br.fail) Br.fail) Br.fail) Br.fail) Br.fail)
def dTag_s : List AV → List Ob → Br
  | [.sh (.int .u8) code], [] => dTag_br code
  | _, _ => .fail
theorem dTag_ok : Sound Kx 70 dTag_s := sound_br (C := dTag_C) (O := O0) Tryz.func70 (by kernel_rfl) fun args objs => by
  unfold dTag_s; split
  · exact .inr (by kernel_rfl)
  · exact .inl rfl

end
end Go.Proofs.YtgknmoadpgpdeaaGreatDoor.Ev

namespace Go.Proofs.YtgknmoadpgpdeaaGreatDoor.Ev
open Go Go.RowKit
set_option linter.unusedVariables false
set_option linter.unusedSimpArgs false
set_option linter.defProp false
set_option maxRecDepth 20000
noncomputable section

theorem getD_all {α : Type} {p : α → Prop} {d : α} (hd : p d) : ∀ (l : List α), (∀ x ∈ l, p x) → ∀ k, p (l.getD k d)
  | [], _, k => by simpa using hd
  | a :: l, h, 0 => by simpa using h a (List.mem_cons_self ..)
  | a :: l, h, k + 1 => by simpa using getD_all hd l (fun x hx => h x (List.mem_cons_of_mem _ hx)) k


end
end Go.Proofs.YtgknmoadpgpdeaaGreatDoor.Ev

namespace Go.Proofs.YtgknmoadpgpdeaaGreatDoor.Ev
open Go Go.RowKit
set_option linter.unusedVariables false
set_option linter.unusedSimpArgs false
set_option linter.defProp false
set_option maxRecDepth 20000
noncomputable section

theorem getD_len {k : Nat} {l : List Bytes} (h : ∀ x ∈ l, x.length ≤ k) (j : Nat) : (l.getD j []).length ≤ k := getD_all (p := fun v : Bytes => v.length ≤ k) (Nat.zero_le _) l h j
theorem bel_nat {n : Int} (hn : 0 ≤ n) (code : List Int) (i h : Int) : (belV n code i h).toNat ≤ n.toNat := by
  have h1 := belV_in n code i h
  by_cases h0 : 0 < n
  · have := h1.2 h0; omega
  · have e : belV n code i h = 0 := by unfold belV; rw [decide_eq_true (by omega), cond_true]
    rw [e]; omega
theorem of_bel {n : Int} (hn : 0 ≤ n) (set : Bytes) (code code' : List Int) (i h i' h' : Int) : (ofS (belV n code i h) set code' i' h').length ≤ n.toNat := by rw [ofS_len]; exact bel_nat hn ..


end
end Go.Proofs.YtgknmoadpgpdeaaGreatDoor.Ev

namespace Go.Proofs.YtgknmoadpgpdeaaGreatDoor.Ev
open Go Go.RowKit
set_option linter.unusedVariables false
set_option linter.unusedSimpArgs false
set_option linter.defProp false
set_option maxRecDepth 20000
noncomputable section

theorem okC0 {code : List Int} (h : code.length ≤ 281474976710656) : okC code 0 = true := by
  unfold okC; simp only [Bool.and_eq_true, decide_eq_true_eq]; exact ⟨by omega, h⟩
def Vq (Q : Option Rs → Prop) (b : Br) : Prop := Q b.val
theorem vq_chk {Q : Option Rs → Prop} {c : Bool} {x : Br} (h0 : c = true) (h1 : Vq Q x) : Vq Q (.ite c x .fail) := by subst h0; exact h1
theorem vq_ite {Q : Option Rs → Prop} {c : Bool} {x y : Br} (h1 : c = true → Vq Q x) (h2 : c = false → Vq Q y) : Vq Q (.ite c x y) := by
  cases c
  · exact h2 rfl
  · exact h1 rfl
theorem tag_ex (code : List Int) (hl : code.length ≤ 281474976710656) : Vq (fun o => ∃ v : Bytes, o = some (.str v, []) ∧ v.length ≤ 1000) (dTag_br code) := by
  have hc := okC0 hl
  have hs : ∀ (l : List Bytes) (k : Nat) (n : Int) (set : Bytes) (c' : List Int) (i' h' i2 h2 : Int), (∀ x ∈ l, x.length ≤ 2) → n = 5 → (l.getD k [] ++ [34] ++ ofS (belV n code i' h') set c' i2 h2 ++ [34]).length ≤ 10 := by
    intro l k n set c' i' h' i2 h2 h hn
    subst hn
    have h1 := getD_len (k := 2) h k
    have h3 := of_bel (n := 5) (by omega) set code c' i' h' i2 h2
    simp only [List.length_append, List.length_cons, List.length_nil]
    have e5 : Int.toNat 5 = 5 := rfl
    omega
  unfold dTag_br dTag_c5 dTag_c4 dTag_c3 dTag_c2 dTag_c1
  have hS1 := hs ((((List.replicate 3 []).set 0 []).set 1 [87, 47]).set 2 [119, 47]) (belV 3 code 0 (newH code)).toNat 5 [97, 98, 44, 33] code (belI 3 code 0) (belH 3 (newH code)) (belI 5 code (belI 3 code 0)) (belH 5 (belH 3 (newH code))) (by decide) rfl
  have g1 := getD_len (k := 2) (l := (((List.replicate 3 []).set 0 []).set 1 [87, 47]).set 2 [119, 47]) (by decide) (belV 3 code 0 (newH code)).toNat
  have o1 := of_bel (n := 5) (by omega) [97, 98, 44, 33] code code (belI 3 code 0) (belH 3 (newH code)) (belI 5 code (belI 3 code 0)) (belH 5 (belH 3 (newH code)))
  have c2 : okC code (ofI (belV 5 code (belI 3 code 0) (belH 3 (newH code))) [97, 98, 44, 33] code (belI 5 code (belI 3 code 0)) (belH 5 (belH 3 (newH code)))) = true := by (repeat (first | exact hc | exact c2 | exact b1 | with_reducible apply okC_bel | with_reducible apply okC_of | with_reducible apply okC_next))
  generalize (ofI (belV 5 code (belI 3 code 0) (belH 3 (newH code))) [97, 98, 44, 33] code (belI 5 code (belI 3 code 0)) (belH 5 (belH 3 (newH code)))) = I2 at *
  generalize (ofH (belV 5 code (belI 3 code 0) (belH 3 (newH code))) [97, 98, 44, 33] code (belI 5 code (belI 3 code 0)) (belH 5 (belH 3 (newH code)))) = H2 at *
  generalize (ofS (belV 5 code (belI 3 code 0) (belH 3 (newH code))) [97, 98, 44, 33] code (belI 5 code (belI 3 code 0)) (belH 5 (belH 3 (newH code)))) = S2 at *
  generalize ((((List.replicate 3 []).set 0 []).set 1 [87, 47]).set 2 [119, 47] : List Bytes).getD (belV 3 code 0 (newH code)).toNat [] = G at *
  have e5 : Int.toNat 5 = 5 := rfl
  rw [e5] at o1
  obtain ⟨b1, b2⟩ := bend_in (code := code) (i := belI 3 code I2) (G ++ [34] ++ S2 ++ [34]) (belH 3 H2) (okC_bel c2) (by omega)
  have v2 := belV_in 2 code (belI 9 code (belI 3 code I2)) (belH 9 (belH 3 H2))
  have v3 := v2.2 (by omega)
  rw [w64 (n := 188 + belV 2 code (belI 9 code (belI 3 code I2)) (belH 9 (belH 3 H2))) (by omega) (by omega)]
  repeat' (first | with_reducible refine vq_chk ?_ ?_ | with_reducible refine vq_ite (fun _ => ?_) (fun _ => ?_))
  all_goals first
    | ((repeat (first | exact hc | exact c2 | exact b1 | with_reducible apply okC_bel | with_reducible apply okC_of | with_reducible apply okC_next)); done)
    | exact decide_eq_true hl
    | (simp only [Bool.and_true, List.length_cons, List.length_nil, List.length_set, List.length_replicate]; (repeat (first | exact hc | exact c2 | exact b1 | with_reducible apply okC_bel | with_reducible apply okC_of | with_reducible apply okC_next)); done)
    | (simp (disch := omega) only [Bool.and_true, bel_le, decide_true]; (repeat (first | exact hc | exact c2 | exact b1 | with_reducible apply okC_bel | with_reducible apply okC_of | with_reducible apply okC_next)); done)
    | (simp only [Bool.and_eq_true, decide_eq_true_eq, and_true]; refine ⟨?_, by omega⟩; (repeat (first | exact hc | exact c2 | exact b1 | with_reducible apply okC_bel | with_reducible apply okC_of | with_reducible apply okC_next)); done)
    | (rw [decide_eq_true_eq]; simp only [List.length_append, List.length_cons, List.length_nil] at *; omega)
    | (rw [decide_eq_true_eq, ofS_len]; omega)
    | (rw [decide_eq_true_eq]; simp only [List.length_append, List.length_cons, List.length_nil, ofS_len]; omega)
    | (refine (show ∃ _, _ from ⟨_, rfl, ?_⟩); omega)
    | (refine (show ∃ _, _ from ⟨_, rfl, ?_⟩); simp only [List.length_append, List.length_cons, List.length_nil, ofS_len]; omega)
    | skip
  all_goals trace_state
open Classical in
noncomputable def tagV (code : List Int) : Bytes := if h : code.length ≤ 281474976710656 then (tag_ex code h).choose else []
theorem tagV_len (code : List Int) : (tagV code).length ≤ 1000 := by
  unfold tagV; split
  · rename_i h; exact (tag_ex code h).choose_spec.2
  · simp
noncomputable def dtag_s : List AV → List Ob → Br
  | [.sh (.int .u8) code], [] => .ite (decide (code.length ≤ 281474976710656)) (.ret (.str (tagV code)) []) .fail
  | _, _ => .fail
theorem dTag_okQ : Sound Kx 70 dtag_s := dTag_ok.of fun args objs r hv => by
  unfold dtag_s at hv
  split at hv
  · rename_i code
    obtain ⟨h1, h2⟩ := ite_some hv
    have h3 := of_decide_eq_true h1
    rw [← h2]
    refine (tag_ex code h3).choose_spec.1.trans ?_
    unfold tagV; rw [dif_pos h3]; rfl
  · cases hv

def dWeak_C : SC := [⟨69, _, l1New_ok⟩, ⟨70, _, dTag_okQ⟩, ⟨71, _, l1Below_okQ⟩, ⟨72, _, l1of_ok⟩]
def dWeak_br (code : List Int) : Br := (Br.ite (decide (code.length ≤ 281474976710656)) (Br.ite (decide (code.length ≤ 281474976710656)) (Br.ite (okC code 0) (Br.ite (decide ((belV 3 code 0 (newH code)) = 0)) (Br.ret (AV.tup ((AV.str (tagV code)) :: ((AV.str (tagV code)) :: []))) []) (Br.ite (decide ((belV 3 code 0 (newH code)) = 1)) (Br.ite (decide ((2 + (List.length (tagV code))) ≤ 9223372036854775807)) (Br.ret (AV.tup ((AV.str (tagV code)) :: ((AV.str (([87, 47] : Bytes) ++ (tagV code))) :: []))) []) Br.fail) (Br.ite (((okC code (belI 3 code 0)) && true) && true) (Br.ite (decide ((3 + (List.length (ofS 1 ([97, 98] : Bytes) code (belI 3 code 0) (belH 3 (newH code))))) ≤ 9223372036854775807)) (Br.ite (decide (((List.length (([87, 47, 34] : Bytes) ++ (ofS 1 ([97, 98] : Bytes) code (belI 3 code 0) (belH 3 (newH code))))) + 1) ≤ 9223372036854775807)) (Br.ret (AV.tup ((AV.str (tagV code)) :: ((AV.str ((([87, 47, 34] : Bytes) ++ (ofS 1 ([97, 98] : Bytes) code (belI 3 code 0) (belH 3 (newH code)))) ++ ([34] : Bytes))) :: []))) []) Br.fail) Br.fail) Br.fail))) Br.fail) Br.fail) Br.fail)
def dWeak_s : List AV → List Ob → Br
  | [.sh (.int .u8) code], [] => dWeak_br code
  | _, _ => .fail
theorem dWeak_ok : Sound Kx 22 dWeak_s := sound_br (C := dWeak_C) (O := O0) Tryz.func22 (by kernel_rfl) fun args objs => by
  unfold dWeak_s; split
  · exact .inr (by kernel_rfl)
  · exact .inl rfl


def iRead_O : Opt := { split := true }
def iRead_C : SC := [⟨205, _, iNums_okQ⟩, ⟨206, _, iMonIn_okQ⟩, ⟨207, _, ixB_ok⟩, ⟨208, _, iSec_okQ⟩, ⟨209, _, iHttp_okQ⟩, ⟨210, _, iLong_okQ⟩, ⟨211, _, iLine_okQ⟩]
abbrev iRead_c1 (s : Bytes) := (secP (cvM (wk64 ((wk64 ((List.getD (numsP s) 1 0) + 1900)) + 100)) (monI (cut s (ixOf s 44) (s.length : Int))) (List.getD (numsP s) 0 0) (List.getD (numsP s) 2 0) (List.getD (numsP s) 3 0) (List.getD (numsP s) 4 0)))
abbrev iRead_c2 (s : Bytes) := (secP (cvM (wk64 ((List.getD (numsP s) 1 0) + 1900)) (monI (cut s (ixOf s 44) (s.length : Int))) (List.getD (numsP s) 0 0) (List.getD (numsP s) 2 0) (List.getD (numsP s) 3 0) (List.getD (numsP s) 4 0)))
abbrev iRead_c3 (s : Bytes) := (secP (cvM (List.getD (numsP s) 1 0) (monI (cut s (ixOf s 44) (s.length : Int))) (List.getD (numsP s) 0 0) (List.getD (numsP s) 2 0) (List.getD (numsP s) 3 0) (List.getD (numsP s) 4 0)))
abbrev iRead_c4 (s : Bytes) := (secP (cvM (List.getD (numsP s) 4 0) (monI (cut s 3 (s.length : Int))) (List.getD (numsP s) 0 0) (List.getD (numsP s) 1 0) (List.getD (numsP s) 2 0) (List.getD (numsP s) 3 0)))
abbrev iRead_c5 (s : Bytes) := (Br.ret (AV.tup ((AV.int .i64 0) :: ((AV.bool false) :: []))) [])
abbrev iRead_c6 (s : Bytes) := ((List.length (numsP s)) : Int)
def iRead_br (s : Bytes) : Br := (Br.ite (decide ((s.length : Int) < 6)) (iRead_c5 s) (Br.ite (decide (40 < (s.length : Int))) (iRead_c5 s) (Br.ite (decide (s.length ≤ 100000)) (Br.ite (!(decide ((iRead_c6 s) = 5))) (iRead_c5 s) (Br.ite (decide (3 ≤ (s.length : Int))) (Br.ite (decide ((List.length (cut s 3 (s.length : Int))) ≤ 1000000)) (Br.ite (decide (0 ≤ (ixOf s 44))) (Br.ite (decide (0 ≤ (ixOf s 44))) (Br.ite (decide ((ixOf s 44) ≤ (s.length : Int))) (Br.ite (decide ((List.length (cut s (ixOf s 44) (s.length : Int))) ≤ 1000000)) (Br.ite (decide (1 < (iRead_c6 s))) (Br.ite (decide (0 < (iRead_c6 s))) (Br.ite (decide (2 < (iRead_c6 s))) (Br.ite (decide (3 < (iRead_c6 s))) (Br.ite (decide (4 < (iRead_c6 s))) (Br.ite (decide (0 ≤ (ixOf s 45))) (Br.ite (decide ((wk64 ((List.getD (numsP s) 1 0) + 1900)) < 1970)) (Br.ite (!(iRead_c1 s).2) (iRead_c5 s) (Br.ite (!(decide ((httpP (iRead_c1 s).1) = s))) (Br.ite (!(decide ((longP (iRead_c1 s).1) = s))) (Br.ite (!(decide ((lineD (iRead_c1 s).1) = s))) (iRead_c5 s) (Br.ret (AV.tup ((AV.int .i64 (iRead_c1 s).1) :: ((AV.bool true) :: []))) [])) (Br.ret (AV.tup ((AV.int .i64 (iRead_c1 s).1) :: ((AV.bool true) :: []))) [])) (Br.ret (AV.tup ((AV.int .i64 (iRead_c1 s).1) :: ((AV.bool true) :: []))) []))) (Br.ite (!(iRead_c2 s).2) (iRead_c5 s) (Br.ite (!(decide ((httpP (iRead_c2 s).1) = s))) (Br.ite (!(decide ((longP (iRead_c2 s).1) = s))) (Br.ite (!(decide ((lineD (iRead_c2 s).1) = s))) (iRead_c5 s) (Br.ret (AV.tup ((AV.int .i64 (iRead_c2 s).1) :: ((AV.bool true) :: []))) [])) (Br.ret (AV.tup ((AV.int .i64 (iRead_c2 s).1) :: ((AV.bool true) :: []))) [])) (Br.ret (AV.tup ((AV.int .i64 (iRead_c2 s).1) :: ((AV.bool true) :: []))) [])))) (Br.ite (!(iRead_c3 s).2) (iRead_c5 s) (Br.ite (!(decide ((httpP (iRead_c3 s).1) = s))) (Br.ite (!(decide ((longP (iRead_c3 s).1) = s))) (Br.ite (!(decide ((lineD (iRead_c3 s).1) = s))) (iRead_c5 s) (Br.ret (AV.tup ((AV.int .i64 (iRead_c3 s).1) :: ((AV.bool true) :: []))) [])) (Br.ret (AV.tup ((AV.int .i64 (iRead_c3 s).1) :: ((AV.bool true) :: []))) [])) (Br.ret (AV.tup ((AV.int .i64 (iRead_c3 s).1) :: ((AV.bool true) :: []))) [])))) Br.fail) Br.fail) Br.fail) Br.fail) Br.fail) Br.fail) Br.fail) Br.fail) (Br.ite (decide (4 < (iRead_c6 s))) (Br.ite (decide (0 < (iRead_c6 s))) (Br.ite (decide (1 < (iRead_c6 s))) (Br.ite (decide (2 < (iRead_c6 s))) (Br.ite (decide (3 < (iRead_c6 s))) (Br.ite (!(iRead_c4 s).2) (iRead_c5 s) (Br.ite (!(decide ((httpP (iRead_c4 s).1) = s))) (Br.ite (!(decide ((longP (iRead_c4 s).1) = s))) (Br.ite (!(decide ((lineD (iRead_c4 s).1) = s))) (iRead_c5 s) (Br.ret (AV.tup ((AV.int .i64 (iRead_c4 s).1) :: ((AV.bool true) :: []))) [])) (Br.ret (AV.tup ((AV.int .i64 (iRead_c4 s).1) :: ((AV.bool true) :: []))) [])) (Br.ret (AV.tup ((AV.int .i64 (iRead_c4 s).1) :: ((AV.bool true) :: []))) []))) Br.fail) Br.fail) Br.fail) Br.fail) Br.fail)) Br.fail) Br.fail)) Br.fail)))
def iRead_s : List AV → List Ob → Br
  | [.str s], [] => iRead_br s
  | _, _ => .fail
theorem iRead_ok : Sound Kx 151 iRead_s := sound_br (C := iRead_C) (O := iRead_O) Tryz.func151 (by kernel_rfl) fun args objs => by
  unfold iRead_s; split
  · exact .inr (by kernel_rfl)
  · exact .inl rfl

theorem cutTo (l : Bytes) (n : Nat) : Ev.cut l ((n : Nat) : Int) (l.length : Int) = l.drop n := by unfold Ev.cut; simp
theorem ixOf_upto (b : UInt8) : ∀ s : Bytes, hasB s (by8 b) = true → ixOf s (by8 b) = ((uptoP s (by8 b)).length : Int)
  | [], h => by cases h
  | a :: r, h => by
    have e : (by8 b).toNat.toUInt8 = b := by simp [by8]
    have hd : hasB (a :: r) (by8 b) = (decide (by8 a = by8 b) || hasB r (by8 b)) := rfl
    have hu : uptoP (a :: r) (by8 b) = bif !decide (by8 a = by8 b) then a :: uptoP r (by8 b) else [] := by
      unfold uptoP; rw [List.takeWhile_cons]; cases decide (by8 a = by8 b) <;> rfl
    unfold ixOf
    rw [e, hu]
    by_cases c : a = b
    · subst c
      unfold Lib.indexByte
      simp
    · have cb : ¬ by8 a = by8 b := fun h => c (by unfold by8 at h; exact UInt8.toNat_inj.1 (by omega))
      rw [hd, decide_eq_false cb, Bool.false_or] at h
      have ih := ixOf_upto b r h
      unfold ixOf at ih
      rw [e] at ih
      unfold Lib.indexByte
      rw [if_neg (by simpa using c), ih, if_neg (by simp), decide_eq_false cb]
      rfl
def finBr (s : Bytes) (c : Cv) : Br :=
  (Br.ite (!(secP c).2) (Br.ret (AV.tup ((AV.int .i64 (0 : Int)) :: ((AV.bool false) :: ([] : (List (AV)))))) ([] : (List (Ob)))) (Br.ite (!(decide ((httpP (secP c).1) = s))) (Br.ite (!(decide ((longP (secP c).1) = s))) (Br.ite (!(decide ((lineD (secP c).1) = s))) (Br.ret (AV.tup ((AV.int .i64 (0 : Int)) :: ((AV.bool false) :: ([] : (List (AV)))))) ([] : (List (Ob)))) (Br.ret (AV.tup ((AV.int .i64 (secP c).1) :: ((AV.bool true) :: ([] : (List (AV)))))) ([] : (List (Ob))))) (Br.ret (AV.tup ((AV.int .i64 (secP c).1) :: ((AV.bool true) :: ([] : (List (AV)))))) ([] : (List (Ob))))) (Br.ret (AV.tup ((AV.int .i64 (secP c).1) :: ((AV.bool true) :: ([] : (List (AV)))))) ([] : (List (Ob))))))
theorem finBr_val (s : Bytes) (c : Cv) : (finBr s c).val = some (.tup [.int .i64 (finI s c).1, .bool (finI s c).2], []) := by
  unfold finBr finI
  generalize (secP c).2 = b0
  generalize decide (httpP (secP c).1 = s) = b1
  generalize decide (longP (secP c).1 = s) = b2
  generalize decide (lineD (secP c).1 = s) = b3
  generalize (secP c).1 = v
  cases b0 <;> cases b1 <;> cases b2 <;> cases b3 <;> rfl
def date_s : List AV → List Ob → Br
  | [.str s], [] => .ret (.tup [.int .i64 (dateR s).1, .bool (dateR s).2]) []
  | _, _ => .fail
theorem iRead_val (s : Bytes) : (iRead_br s).val = some (.tup [.int .i64 (rdI s).1, .bool (rdI s).2], []) := by
  unfold iRead_br rdI iRead_c6 iRead_c5 iRead_c4 iRead_c3 iRead_c2 iRead_c1
  by_cases c1 : s.length < 6
  · rw [decide_eq_true (show (s.length : Int) < 6 by omega), decide_eq_false (show ¬ 6 ≤ s.length by omega)]; rfl
  rw [decide_eq_false (show ¬ (s.length : Int) < 6 by omega), decide_eq_true (show 6 ≤ s.length by omega)]
  by_cases c2 : 40 < s.length
  · rw [decide_eq_true (show (40 : Int) < (s.length : Int) by omega), decide_eq_false (show ¬ s.length ≤ 40 by omega)]; rfl
  rw [decide_eq_false (show ¬ (40 : Int) < (s.length : Int) by omega), decide_eq_true (show s.length ≤ 40 by omega), decide_eq_true (show s.length ≤ 100000 by omega)]
  by_cases c3 : (numsP s).length = 5
  case neg => rw [decide_eq_false (show ¬ ((numsP s).length : Int) = 5 by omega), decide_eq_false c3]; rfl
  have lc : ∀ a b : Int, decide ((Ev.cut s a b).length ≤ 1000000) = true := fun a b => decide_eq_true (by have := cut_len s a b; omega)
  rw [decide_eq_true (show ((numsP s).length : Int) = 5 by omega), decide_eq_true c3, decide_eq_true (show (3 : Int) ≤ (s.length : Int) by omega), lc, lc, ixOf_nn s 44 (by omega) (by omega), ixOf_nn s 45 (by omega) (by omega),
    decide_eq_true (show (1 : Int) < ((numsP s).length : Int) by omega), decide_eq_true (show (0 : Int) < ((numsP s).length : Int) by omega), decide_eq_true (show (2 : Int) < ((numsP s).length : Int) by omega),
    decide_eq_true (show (3 : Int) < ((numsP s).length : Int) by omega), decide_eq_true (show (4 : Int) < ((numsP s).length : Int) by omega)]
  have hn := numsP_bd s 1
  have cd : Ev.cut s 3 (s.length : Int) = s.drop 3 := cutTo s 3
  rw [w64 (n := (numsP s).getD 1 0 + 1900) (by omega) (by omega), w64 (n := (numsP s).getD 1 0 + 1900 + 100) (by omega) (by omega), cd]
  unfold cvI
  cases h44 : hasB s 44
  · exact finBr_val s _
  · have ix : ixOf s 44 = ((uptoP s 44).length : Int) := ixOf_upto 44 s h44
    have hul : (uptoP s 44).length ≤ s.length := by unfold uptoP; exact (List.takeWhile_sublist _).length_le
    rw [ix, cutTo, decide_eq_true (show ((uptoP s 44).length : Int) ≤ (s.length : Int) by omega)]
    cases h45 : hasB s 45
    · exact finBr_val s _
    · unfold cen
      cases hc : decide ((numsP s).getD 1 0 + 1900 < 1970)
      · exact finBr_val s _
      · exact finBr_val s _
theorem iRead_okQ : Sound Kx 151 date_s := iRead_ok.of fun args objs r h => by
  unfold date_s at h; split at h
  · rename_i s
    rw [← h]
    refine (iRead_val s).trans ?_
    rw [rdI_eq]; rfl
  · cases h

end
end Go.Proofs.YtgknmoadpgpdeaaGreatDoor.Ev

namespace Go.Proofs.YtgknmoadpgpdeaaGreatDoor.Ev
open Go Go.RowKit
set_option linter.unusedVariables false
set_option linter.unusedSimpArgs false
noncomputable section

def hpx_br (s p : Bytes) : Br := (Br.ite (decide ((p.length : Int) ≤ (s.length : Int))) (Br.ite (decide (0 ≤ (p.length : Int))) (Br.ite (decide ((p.length : Int) ≤ (s.length : Int))) (Br.ret (AV.bool (decide ((cut s 0 (p.length : Int)) = p))) []) Br.fail) Br.fail) (Br.ret (AV.bool false) []))
def hpx_s : List AV → List Ob → Br
  | [.str s, .str p], [] => hpx_br s p
  | _, _ => .fail
theorem hpx_ok : Sound Kx 196 hpx_s := sound_br (C := []) (O := O0) Tryz.func196 (by kernel_rfl) fun args objs => by
  unfold hpx_s; split
  · exact .inr (by kernel_rfl)
  · exact .inl rfl

def tpx0_O : Opt := { split := true }
def tpx0_C : SC := [⟨196, _, hpx_ok⟩]
def tpx0_br (s p : Bytes) : Br := (Br.ite (decide ((p.length : Int) ≤ (s.length : Int))) (Br.ite (decide (0 ≤ (p.length : Int))) (Br.ite (decide ((p.length : Int) ≤ (s.length : Int))) (Br.ite (decide ((cut s 0 (p.length : Int)) = p)) (Br.ite (decide (0 ≤ (p.length : Int))) (Br.ite (decide ((p.length : Int) ≤ (s.length : Int))) (Br.ret (AV.str (cut s (p.length : Int) (s.length : Int))) []) Br.fail) Br.fail) (Br.ret (AV.str s) [])) Br.fail) Br.fail) (Br.ret (AV.str s) []))
def tpx0_s : List AV → List Ob → Br
  | [.str s, .str p], [] => tpx0_br s p
  | _, _ => .fail
theorem tpx0_ok : Sound Kx 149 tpx0_s := sound_br (C := tpx0_C) (O := tpx0_O) Tryz.func149 (by kernel_rfl) fun args objs => by
  unfold tpx0_s; split
  · exact .inr (by kernel_rfl)
  · exact .inl rfl

def tpx_C : SC := [⟨149, _, tpx0_ok⟩]
def tpx_br (s p : Bytes) : Br := (Br.ite (decide ((p.length : Int) ≤ (s.length : Int))) (Br.ite (decide (0 ≤ (p.length : Int))) (Br.ite (decide ((p.length : Int) ≤ (s.length : Int))) (Br.ite (decide ((cut s 0 (p.length : Int)) = p)) (Br.ite (decide (0 ≤ (p.length : Int))) (Br.ite (decide ((p.length : Int) ≤ (s.length : Int))) (Br.ret (AV.str (cut s (p.length : Int) (s.length : Int))) []) Br.fail) Br.fail) (Br.ret (AV.str s) [])) Br.fail) Br.fail) (Br.ret (AV.str s) []))
def tpx_s : List AV → List Ob → Br
  | [.str s, .str p], [] => tpx_br s p
  | _, _ => .fail
theorem tpx_ok : Sound Kx 73 tpx_s := sound_br (C := tpx_C) (O := O0) Tryz.func73 (by kernel_rfl) fun args objs => by
  unfold tpx_s; split
  · exact .inr (by kernel_rfl)
  · exact .inl rfl

def iGet_C : SC := [⟨47, _, iValues_okQ⟩]
def iGet_br (l : List Fd) (name : Bytes) : Br := (Br.ite (isM name) (Br.ite (decide (((List.length (vals l name)) : Int) = 0)) (Br.ret (AV.tup ((AV.str ([] : Bytes)) :: ((AV.bool false) :: []))) []) (Br.ite (decide (0 < ((List.length (vals l name)) : Int))) (Br.ret (AV.tup ((AV.str (List.getD (vals l name) 0 ([] : Bytes))) :: ((AV.bool true) :: []))) []) Br.fail)) Br.fail)
def iGet_s : List AV → List Ob → Br
  | [.sh (.pair .str .str) l, .str name], [] => iGet_br l name
  | _, _ => .fail
theorem iGet_ok : Sound Kx 80 iGet_s := sound_br (C := iGet_C) (O := O0) Tryz.func80 (by kernel_rfl) fun args objs => by
  unfold iGet_s; split
  · exact .inr (by kernel_rfl)
  · exact .inl rfl

def sStrong_O : Opt := { split := true }
def sStrong_br (s : Bytes) : Br := (Br.ite (decide (2 ≤ (s.length : Int))) (Br.ite (decide (2 ≤ (s.length : Int))) (Br.ite (decide ((cut s 0 2) = ([87, 47] : Bytes))) (Br.ite (decide (2 ≤ (s.length : Int))) (Br.ret (AV.str (cut s 2 (s.length : Int))) []) Br.fail) (Br.ret (AV.str s) [])) Br.fail) (Br.ret (AV.str s) []))
def sStrong_s : List AV → List Ob → Br
  | [.str s], [] => sStrong_br s
  | _, _ => .fail
theorem sStrong_ok : Sound Kx 76 sStrong_s := sound_br (C := []) (O := sStrong_O) Tryz.func76 (by kernel_rfl) fun args objs => by
  unfold sStrong_s; split
  · exact .inr (by kernel_rfl)
  · exact .inl rfl

def tagB_br (b : Int) : Br := (Br.ite (decide (32 < b)) (Br.ite (!(decide (b = 34))) (Br.ret (AV.bool (!(decide (b = 127)))) []) (Br.ret (AV.bool false) [])) (Br.ret (AV.bool false) []))
def tagB_s : List AV → List Ob → Br
  | [.int .u8 b], [] => tagB_br b
  | _, _ => .fail
theorem tagB_ok : Sound Kx 75 tagB_s := sound_br (C := []) (O := O0) Tryz.func75 (by kernel_rfl) fun args objs => by
  unfold tagB_s; split
  · exact .inr (by kernel_rfl)
  · exact .inl rfl

def tpP (s p : Bytes) : Bytes := bif decide (p.length ≤ s.length) && decide (s.take p.length = p) then s.drop p.length else s
def strongP (s : Bytes) : Bytes := tpP s [87, 47]
theorem strong_len (s : Bytes) : (strongP s).length ≤ s.length := by
  unfold strongP tpP
  cases decide (([87, 47] : Bytes).length ≤ s.length) && decide (s.take ([87, 47] : Bytes).length = [87, 47])
  · exact Nat.le_refl _
  · rw [cond_true, List.length_drop]; omega
def tp_s : List AV → List Ob → Br
  | [.str s, .str p], [] => .ret (.str (tpP s p)) []
  | _, _ => .fail
theorem cutHead (s : Bytes) (n : Nat) : Ev.cut s 0 ((n : Nat) : Int) = s.take n := by unfold Ev.cut; simp
theorem tpx_okQ : Sound Kx 73 tp_s := tpx_ok.of fun args objs r h => by
  unfold tp_s at h; split at h
  · rename_i s p
    rw [← h]
    show (tpx_br s p).val = some (.str (tpP s p), [])
    unfold tpx_br tpP
    rw [cutHead, cutTo]
    by_cases c : p.length ≤ s.length
    · rw [decide_eq_true (show (p.length : Int) ≤ (s.length : Int) by omega), decide_eq_true (show (0 : Int) ≤ (p.length : Int) by omega), decide_eq_true c]
      cases decide (s.take p.length = p) <;> rfl
    · rw [decide_eq_false (show ¬ (p.length : Int) ≤ (s.length : Int) by omega), decide_eq_false c]; rfl
  · cases h
def so_s : List AV → List Ob → Br
  | [.str s], [] => .ret (.str (strongP s)) []
  | _, _ => .fail
theorem sStrong_okQ : Sound Kx 76 so_s := sStrong_ok.of fun args objs r h => by
  unfold so_s at h; split at h
  · rename_i s
    rw [← h]
    show (sStrong_br s).val = some (.str (strongP s), [])
    have e1 : Ev.cut s 0 2 = s.take 2 := cutHead s 2
    have e2 : Ev.cut s 2 (s.length : Int) = s.drop 2 := cutTo s 2
    unfold sStrong_br strongP tpP
    rw [e1, e2]
    show _ = some (AV.str (bif decide (2 ≤ s.length) && decide (s.take 2 = [87, 47]) then s.drop 2 else s), [])
    by_cases c : 2 ≤ s.length
    · rw [decide_eq_true (show (2 : Int) ≤ (s.length : Int) by omega), decide_eq_true c]
      cases decide (s.take 2 = [87, 47]) <;> rfl
    · rw [decide_eq_false (show ¬ (2 : Int) ≤ (s.length : Int) by omega), decide_eq_false c]; rfl
  · cases h
def tagBy (b : Int) : Bool := decide (32 < b) && !decide (b = 34) && !decide (b = 127)
theorem tagB_okQ : Sound Kx 75 (pr_s tagBy) := of_pr tagB_ok fun b => by
  show (tagB_br b).val = some (.bool (tagBy b), [])
  unfold tagB_br tagBy
  generalize decide (32 < b) = b1
  generalize decide (b = 34) = b2
  generalize decide (b = 127) = b3
  cases b1 <;> cases b2 <;> cases b3 <;> rfl
theorem iGet_okQ : Sound Kx 80 sGet2_s := iGet_ok.of fun args objs r h => by
  unfold sGet2_s at h; split at h
  · rename_i l name
    obtain ⟨h1, h2⟩ := ite_some h
    cases h2
    show (iGet_br l name).val = some (.tup [.str ((vals l name).getD 0 []), .bool (hasP l name)], [])
    unfold iGet_br hasP
    rw [h1]
    cases hv : vals l name with
    | nil => rfl
    | cons a v =>
      rw [decide_eq_false (show ¬ ((a :: v).length : Int) = 0 by simp only [List.length_cons]; omega), decide_eq_true (show (0 : Int) < ((a :: v).length : Int) by simp only [List.length_cons]; omega), decide_eq_true (show 0 < (a :: v).length by simp)]
      rfl
  · cases h
def dtP (l : List Fd) (name : Bytes) : Int × Bool := bif hasP l name then dateR ((vals l name).getD 0 []) else (0, false)
theorem dateR_nil : dateR [] = (0, false) := by rw [← rdI_eq]; rfl
theorem dtP_eq (l : List Fd) (name : Bytes) : dateR ((vals l name).getD 0 []) = dtP l name := by
  unfold dtP hasP
  cases hv : vals l name with
  | nil => exact dateR_nil
  | cons a v => rw [decide_eq_true (show 0 < (a :: v).length by simp)]; rfl
def dt2_s : List AV → List Ob → Br
  | [.sh (.pair .str .str) l, .str name], [] => .ite (isM name) (.ret (.tup [.int .i64 (dtP l name).1, .bool (dtP l name).2]) []) .fail
  | _, _ => .fail

def allTag_O : Opt := { live := [(2, [0, 1, 5])], outs := [(2, [4])] }
def allTag_C : SC := [⟨75, _, tagB_okQ⟩]
def allTag_T2 (v2x0 : Bytes) (v2x1 : Int) (kR2 : Bytes → Int → Option Rs) (k2e0 k2e1 : Option Rs) : Option Rs :=
  (bif (decide (v2x1 < (v2x0.length : Int))) then (bif (decide (0 ≤ v2x1)) then (bif (decide (v2x1 < (v2x0.length : Int))) then (bif (!(tagBy (strAt v2x0 v2x1))) then k2e0 else (kR2 v2x0 (wk64 (v2x1 + 1)))) else (none)) else (none)) else k2e1)
def allTag_F2 : Nat → Bytes → Int → (Option Rs) → (Option Rs) → Option Rs
  | 0, _, _, _, _ => none
  | n + 1, v2x0, v2x1, k2e0, k2e1 => allTag_T2 v2x0 v2x1 (fun v2x0 v2x1 => allTag_F2 n v2x0 v2x1 k2e0 k2e1) k2e0 k2e1
abbrev allTag_p2 : SP := ⟨18, [0, 1, 5], [(.v .s), (.v (.fn 75 [])), (.v (.i .i64))], []⟩
noncomputable def allTag_b2 : Code := codeAt (codeOf Tryz.f74) [1, 0, 1, 0, 0]
def allTag_E2 (f : (Option Rs) → (Option Rs) → Option Rs) (k : KT) : Option Rs := f (k Ex.ret ((St.mk (slots 0 18 [(4, (AV.bool false))]) ([] : (List (Nat × (Ob))))))) (k (Ex.exit 0) ((St.mk (slots 0 18 []) ([] : (List (Nat × (Ob)))))))
def allTag_G2 (n : Nat) (d : allTag_p2.D) : KT → Option Rs := allTag_E2 (allTag_F2 n d.1.1 d.1.2.2.1)
def allTag_L (N : Nat) : Lam := lamOf [⟨2, allTag_p2, allTag_G2 N⟩]
theorem allTag_ok2 (N : Nat) : OkL Kx allTag_C.s allTag_O 0 N (allTag_L N) allTag_b2 := okL allTag_p2 (allTag_G2) (fun d kR => allTag_E2 (allTag_T2 d.1.1 d.1.2.2.1 (fun v2x0 v2x1 => kR ((v2x0, (), v2x1, ()), ())))) (fun _ _ => by kernel_rfl) (fun _ _ _ => by kernel_rfl) (fun _ _ => by kernel_rfl) (fun _ _ _ _ => by kernel_rfl) (okEach (l' := []) (by kernel_rfl) trivial)
def allTag_run (N : Nat) (s : Bytes) : Option Rs := (allTag_F2 N s 0 (some ((AV.bool false), [])) (some ((AV.bool true), [])))
def allTag_sOf (φ : Bytes → Br) : List AV → List Ob → Br
  | [.str s, .fn 75 []], [] => φ s
  | _, _ => .fail
theorem allTag_okOf {φ : Bytes → Br} (fu : Bytes → Nat) (hv : ∀ s res_, (φ s).val = some res_ → allTag_run (fu s) s = some res_) : Sound Kx 74 (allTag_sOf φ) := sound_lp (C := allTag_C) (O := allTag_O) Tryz.func74 (by kernel_rfl) fun args objs => by
  unfold allTag_sOf; split
  · rename_i s; exact .inr fun _ hyp_ => run_lp (Λ := allTag_L (fu s)) (by kernel_rfl) (okEach (l' := [allTag_b2]) (by kernel_rfl) ⟨allTag_ok2 _, trivial⟩) (by kernel_rfl) (hv s _ hyp_)
  · exact .inl rfl

def iDateIn_C : SC := [⟨80, _, iGet_okQ⟩, ⟨151, _, iRead_okQ⟩]
def iDateIn_br (l : List Fd) (name : Bytes) : Br := (Br.ite (isM name) (Br.ret (AV.tup ((AV.int .i64 (dateR (List.getD (vals l name) 0 ([] : Bytes))).1) :: ((AV.bool (dateR (List.getD (vals l name) 0 ([] : Bytes))).2) :: []))) []) Br.fail)
def iDateIn_s : List AV → List Ob → Br
  | [.sh (.pair .str .str) l, .str name], [] => iDateIn_br l name
  | _, _ => .fail
theorem iDateIn_ok : Sound Kx 81 iDateIn_s := sound_br (C := iDateIn_C) (O := O0) Tryz.func81 (by kernel_rfl) fun args objs => by
  unfold iDateIn_s; split
  · exact .inr (by kernel_rfl)
  · exact .inl rfl

def sTag_O : Opt := { live := [(5, [3, 4])], outs := [(5, [2])] }
def sTag_C : SC := [⟨76, _, sStrong_okQ⟩]
def sTag_T5 (v5x0 : Bytes) (v5x1 : Int) (kR5 : Bytes → Int → Option Rs) (k5e0 k5e1 : Option Rs) : Option Rs :=
  (bif (decide (v5x1 < (wk64 ((v5x0.length : Int) - 1)))) then (bif (decide (0 ≤ v5x1)) then (bif (decide (v5x1 < (v5x0.length : Int))) then (bif (decide ((strAt v5x0 v5x1) ≤ 32)) then k5e0 else (bif (decide (0 ≤ v5x1)) then (bif (decide (v5x1 < (v5x0.length : Int))) then (bif (decide ((strAt v5x0 v5x1) = 127)) then k5e0 else (bif (decide (0 ≤ v5x1)) then (bif (decide (v5x1 < (v5x0.length : Int))) then (bif (decide ((strAt v5x0 v5x1) = 34)) then k5e0 else (kR5 v5x0 (wk64 (v5x1 + 1)))) else (none)) else (none))) else (none)) else (none))) else (none)) else (none)) else k5e1)
def sTag_F5 : Nat → Bytes → Int → (Option Rs) → (Option Rs) → Option Rs
  | 0, _, _, _, _ => none
  | n + 1, v5x0, v5x1, k5e0, k5e1 => sTag_T5 v5x0 v5x1 (fun v5x0 v5x1 => sTag_F5 n v5x0 v5x1 k5e0 k5e1) k5e0 k5e1
abbrev sTag_p5 : SP := ⟨51, [3, 4], [(.v .s), (.v (.i .i64))], []⟩
noncomputable def sTag_b5 : Code := codeAt (codeOf Tryz.f24) [1, 1, 1, 0, 1, 0, 0]
def sTag_E5 (f : (Option Rs) → (Option Rs) → Option Rs) (k : KT) : Option Rs := f (k Ex.ret ((St.mk (slots 0 51 [(2, (AV.bool false))]) ([] : (List (Nat × (Ob))))))) (k (Ex.exit 0) ((St.mk (slots 0 51 []) ([] : (List (Nat × (Ob)))))))
def sTag_G5 (n : Nat) (d : sTag_p5.D) : KT → Option Rs := sTag_E5 (sTag_F5 n d.1.1 d.1.2.1)
def sTag_L (N : Nat) : Lam := lamOf [⟨5, sTag_p5, sTag_G5 N⟩]
theorem sTag_ok5 (N : Nat) : OkL Kx sTag_C.s sTag_O 0 N (sTag_L N) sTag_b5 := okL sTag_p5 (sTag_G5) (fun d kR => sTag_E5 (sTag_T5 d.1.1 d.1.2.1 (fun v5x0 v5x1 => kR ((v5x0, v5x1, ()), ())))) (fun _ _ => by kernel_rfl) (fun _ _ _ => by kernel_rfl) (fun _ _ => by kernel_rfl) (fun _ _ _ _ => by kernel_rfl) (okEach (l' := []) (by kernel_rfl) trivial)
def sTag_run (N : Nat) (s : Bytes) : Option Rs := (bif (decide (190 < (s.length : Int))) then (some ((AV.bool false), [])) else (bif (decide (((List.length (strongP s)) : Int) < 2)) then (some ((AV.bool false), [])) else (bif (decide (0 < ((List.length (strongP s)) : Int))) then (bif (!(decide ((strAt (strongP s) 0) = 34))) then (some ((AV.bool false), [])) else (bif (decide (0 ≤ (wk64 (((List.length (strongP s)) : Int) - 1)))) then (bif (decide ((wk64 (((List.length (strongP s)) : Int) - 1)) < ((List.length (strongP s)) : Int))) then (bif (!(decide ((strAt (strongP s) (wk64 (((List.length (strongP s)) : Int) - 1))) = 34))) then (some ((AV.bool false), [])) else (sTag_F5 N (strongP s) 1 (some ((AV.bool false), [])) (some ((AV.bool true), [])))) else (none)) else (none))) else (none))))
def sTag_sOf (φ : Bytes → Br) : List AV → List Ob → Br
  | [.str s], [] => φ s
  | _, _ => .fail
theorem sTag_okOf {φ : Bytes → Br} (fu : Bytes → Nat) (hv : ∀ s res_, (φ s).val = some res_ → sTag_run (fu s) s = some res_) : Sound Kx 24 (sTag_sOf φ) := sound_lp (C := sTag_C) (O := sTag_O) Tryz.func24 (by kernel_rfl) fun args objs => by
  unfold sTag_sOf; split
  · rename_i s; exact .inr fun _ hyp_ => run_lp (Λ := sTag_L (fu s)) (by kernel_rfl) (okEach (l' := [sTag_b5]) (by kernel_rfl) ⟨sTag_ok5 _, trivial⟩) (by kernel_rfl) (hv s _ hyp_)
  · exact .inl rfl

theorem allTag_loop (l : Bytes) (hl : l.length ≤ 4611686018427387904) (k0 k1 : Option Rs) : ∀ (r : Bytes) (i : Int) (n : Nat), At l i r → r.length < n → allTag_F2 n l i k0 k1 = bif allP tagBy r then k1 else k0 := by
  intro r; induction r with
  | nil => intro i n h hn; obtain ⟨n, rfl⟩ := fuel hn; unfold allTag_F2 allTag_T2; simp only [h.dge, cond_false, allP, List.all_nil, cond_true]
  | cons a r ih =>
    intro i n h hn; obtain ⟨n, rfl⟩ := fuel hn
    have hs := ih (i + 1) n h.step (by simp at hn; omega)
    unfold allTag_F2 allTag_T2; simp only [h.dlt, h.dnn, h.str, cond_true, h.next hl, hs, allP, List.all_cons]
    cases tagBy (by8 a) <;> rfl
def allTag_s := allTag_sOf fun s => .ite (isM s) (.ret (.bool (allP tagBy s)) []) .fail
theorem allTag_okQ : Sound Kx 74 allTag_s := by
  refine allTag_okOf (fun s => s.length + 1) fun s r h => ?_
  obtain ⟨h1, h2⟩ := ite_some h
  unfold allTag_run
  rw [allTag_loop s (isM_le h1) _ _ s 0 _ (At.start s) (by omega), ← h2]
  cases allP tagBy s <;> rfl
theorem iDateIn_okQ : Sound Kx 81 dt2_s := iDateIn_ok.of fun args objs r h => by
  unfold dt2_s at h; split at h
  · rename_i l name
    obtain ⟨h1, h2⟩ := ite_some h
    cases h2
    show (iDateIn_br l name).val = some (.tup [.int .i64 (dtP l name).1, .bool (dtP l name).2], [])
    unfold iDateIn_br
    rw [h1, dtP_eq]; rfl
  · cases h
def tagP (s : Bytes) : Bool :=
  bif decide (190 < (s.length : Int)) then false else bif decide (((strongP s).length : Int) < 2) then false else bif !decide (strAt (strongP s) 0 = 34) then false
  else bif !decide (strAt (strongP s) (((strongP s).length : Int) - 1) = 34) then false else allP tagBy (Ev.cut (strongP s) 1 (((strongP s).length : Int) - 1))
theorem sTag_loop (t : Bytes) (hl : t.length ≤ 1000000) (z : UInt8) (k0 k1 : Option Rs) : ∀ (r : Bytes) (i : Int) (n : Nat), At t i (r ++ [z]) → r.length < n → sTag_F5 n t i k0 k1 = bif allP tagBy r then k1 else k0 := by
  intro r; induction r with
  | nil =>
    intro i n h hn; obtain ⟨n, rfl⟩ := fuel hn
    have hle := h.le
    simp only [List.nil_append, List.length_singleton] at hle
    have hnn := h.nn
    unfold sTag_F5 sTag_T5
    rw [w64 (n := (t.length : Int) - 1) (by omega) (by omega), decide_eq_false (by omega)]; rfl
  | cons c r ih =>
    intro i n h hn; obtain ⟨n, rfl⟩ := fuel hn
    rw [List.cons_append] at h
    have hle := h.le
    simp only [List.length_cons, List.length_append, List.length_nil] at hle hn
    have hnn := h.nn
    have hr := ih (i + 1) n h.step (by omega)
    unfold sTag_F5 sTag_T5
    rw [w64 (n := (t.length : Int) - 1) (by omega) (by omega), decide_eq_true (show i < (t.length : Int) - 1 by omega)]
    simp only [h.dlt, h.dnn, h.str, cond_true, h.next (show t.length ≤ 4611686018427387904 by omega), hr]
    have ea : allP tagBy (c :: r) = (tagBy (by8 c) && allP tagBy r) := rfl
    rw [ea]
    unfold tagBy
    by_cases c1 : by8 c ≤ 32
    · rw [decide_eq_true c1, decide_eq_false (show ¬ 32 < by8 c by omega)]; rfl
    · rw [decide_eq_false c1, decide_eq_true (show 32 < by8 c by omega)]
      cases decide (by8 c = 127) <;> cases decide (by8 c = 34) <;> cases allP (fun b => decide (32 < b) && !decide (b = 34) && !decide (b = 127)) r <;> rfl
theorem ends_of (t : Bytes) (h : 2 ≤ t.length) : ∃ c mid z, t = c :: (mid ++ [z]) := by
  match t, h with
  | c :: t', h =>
    have hn : t' ≠ [] := fun e => by subst e; simp at h
    exact ⟨c, t'.dropLast, t'.getLast hn, by rw [List.dropLast_concat_getLast]⟩
theorem cut_mid1 (c z : UInt8) (mid : Bytes) : Ev.cut (c :: (mid ++ [z])) 1 (((c :: (mid ++ [z])).length : Int) - 1) = mid := by
  unfold Ev.cut
  have e : (((c :: (mid ++ [z])).length : Int) - 1).toNat = mid.length + 1 := by simp only [List.length_cons, List.length_append, List.length_nil]; omega
  rw [e]
  simp
def tg_s : List AV → List Ob → Br
  | [.str s], [] => .ret (.bool (tagP s)) []
  | _, _ => .fail
theorem sTag_okQ : Sound Kx 24 tg_s := by
  refine (sTag_okOf (φ := fun s => .ret (.bool (tagP s)) []) (fun s => s.length + 5) fun s r h => ?_).of fun args objs r h => ?_
  · cases h
    unfold sTag_run tagP
    by_cases c1 : 190 < (s.length : Int)
    · rw [decide_eq_true c1]; rfl
    rw [decide_eq_false c1]
    have hsl := strong_len s
    generalize strongP s = t at *
    by_cases c2 : (t.length : Int) < 2
    · rw [decide_eq_true c2]; rfl
    rw [decide_eq_false c2, decide_eq_true (show (0 : Int) < (t.length : Int) by omega), w64 (n := (t.length : Int) - 1) (by omega) (by omega), decide_eq_true (show (0 : Int) ≤ (t.length : Int) - 1 by omega), decide_eq_true (show (t.length : Int) - 1 < (t.length : Int) by omega)]
    obtain ⟨c, mid, z, rfl⟩ := ends_of t (by omega)
    have hat : At (c :: (mid ++ [z])) 1 (mid ++ [z]) := (At.start (c :: (mid ++ [z]))).step
    rw [sTag_loop (c :: (mid ++ [z])) (by omega) z _ _ mid 1 (s.length + 5) hat (by simp only [List.length_cons, List.length_append, List.length_nil] at hsl; omega), cut_mid1]
    cases decide (strAt (c :: (mid ++ [z])) 0 = 34) <;> cases decide (strAt (c :: (mid ++ [z])) (((c :: (mid ++ [z])).length : Int) - 1) = 34) <;> cases allP tagBy mid <;> rfl
  · unfold tg_s at h; split at h
    · exact h
    · cases h

def iTag_C : SC := [⟨73, _, tpx_okQ⟩, ⟨74, _, allTag_okQ⟩]
def iTag_br (s : Bytes) : Br := (Br.ite (decide (190 < (s.length : Int))) (Br.ret (AV.bool false) []) (Br.ite (decide (((List.length (tpP s ([87, 47] : Bytes))) : Int) < 2)) (Br.ret (AV.bool false) []) (Br.ite (decide (0 < ((List.length (tpP s ([87, 47] : Bytes))) : Int))) (Br.ite (!(decide ((strAt (tpP s ([87, 47] : Bytes)) 0) = 34))) (Br.ret (AV.bool false) []) (Br.ite (decide (0 ≤ (wk64 (((List.length (tpP s ([87, 47] : Bytes))) : Int) - 1)))) (Br.ite (decide ((wk64 (((List.length (tpP s ([87, 47] : Bytes))) : Int) - 1)) < ((List.length (tpP s ([87, 47] : Bytes))) : Int))) (Br.ite (!(decide ((strAt (tpP s ([87, 47] : Bytes)) (wk64 (((List.length (tpP s ([87, 47] : Bytes))) : Int) - 1))) = 34))) (Br.ret (AV.bool false) []) (Br.ite (decide (1 ≤ (wk64 (((List.length (tpP s ([87, 47] : Bytes))) : Int) - 1)))) (Br.ite (decide ((wk64 (((List.length (tpP s ([87, 47] : Bytes))) : Int) - 1)) ≤ ((List.length (tpP s ([87, 47] : Bytes))) : Int))) (Br.ite (isM (cut (tpP s ([87, 47] : Bytes)) 1 (wk64 (((List.length (tpP s ([87, 47] : Bytes))) : Int) - 1)))) (Br.ret (AV.bool (allP tagBy (cut (tpP s ([87, 47] : Bytes)) 1 (wk64 (((List.length (tpP s ([87, 47] : Bytes))) : Int) - 1))))) []) Br.fail) Br.fail) Br.fail)) Br.fail) Br.fail)) Br.fail)))
def iTag_s : List AV → List Ob → Br
  | [.str s], [] => iTag_br s
  | _, _ => .fail
theorem iTag_ok : Sound Kx 23 iTag_s := sound_br (C := iTag_C) (O := O0) Tryz.func23 (by kernel_rfl) fun args objs => by
  unfold iTag_s; split
  · exact .inr (by kernel_rfl)
  · exact .inl rfl

def sWeak_O : Opt := { split := true }
def sWeak_C : SC := [⟨24, _, sTag_okQ⟩, ⟨76, _, sStrong_okQ⟩]
def sWeak_br (a b : Bytes) : Br := (Br.ite (tagP a) (Br.ite (tagP b) (Br.ret (AV.bool (decide ((strongP a) = (strongP b)))) []) (Br.ret (AV.bool false) [])) (Br.ret (AV.bool false) []))
def sWeak_s : List AV → List Ob → Br
  | [.str a, .str b], [] => sWeak_br a b
  | _, _ => .fail
theorem sWeak_ok : Sound Kx 27 sWeak_s := sound_br (C := sWeak_C) (O := sWeak_O) Tryz.func27 (by kernel_rfl) fun args objs => by
  unfold sWeak_s; split
  · exact .inr (by kernel_rfl)
  · exact .inl rfl

theorem cut_lenB (l : Bytes) (a b : Int) : (Ev.cut l a b).length ≤ l.length := by
  unfold Ev.cut; rw [List.length_drop, List.length_take]; omega
theorem iTag_okQ : Sound Kx 23 tg_s := iTag_ok.of fun args objs r h => by
  unfold tg_s at h; split at h
  · rename_i s
    cases h
    show (iTag_br s).val = some (.bool (tagP s), [])
    unfold iTag_br tagP
    have e : tpP s [87, 47] = strongP s := rfl
    rw [e]
    by_cases c1 : 190 < (s.length : Int)
    · rw [decide_eq_true c1]; rfl
    rw [decide_eq_false c1]
    have hsl := strong_len s
    generalize strongP s = t at *
    by_cases c2 : (t.length : Int) < 2
    · rw [decide_eq_true c2]; rfl
    have hM : isM (Ev.cut t 1 ((t.length : Int) - 1)) = true := isM_of (n := 1000) (by have := cut_lenB t 1 ((t.length : Int) - 1); omega)
    rw [decide_eq_false c2, decide_eq_true (show (0 : Int) < (t.length : Int) by omega), w64 (n := (t.length : Int) - 1) (by omega) (by omega), decide_eq_true (show (0 : Int) ≤ (t.length : Int) - 1 by omega), decide_eq_true (show (t.length : Int) - 1 < (t.length : Int) by omega),
      decide_eq_true (show (1 : Int) ≤ (t.length : Int) - 1 by omega), decide_eq_true (show (t.length : Int) - 1 ≤ (t.length : Int) by omega), hM]
    cases decide (strAt t 0 = 34) <;> cases decide (strAt t ((t.length : Int) - 1) = 34) <;> rfl
  · cases h
def weakP (a b : Bytes) : Bool := bif tagP a then bif tagP b then decide (strongP a = strongP b) else false else false
def we_s : List AV → List Ob → Br
  | [.str a, .str b], [] => .ret (.bool (weakP a b)) []
  | _, _ => .fail
theorem sWeak_okQ : Sound Kx 27 we_s := sWeak_ok.of fun args objs r h => by
  unfold we_s at h; split at h
  · rename_i a b
    cases h
    show (sWeak_br a b).val = some (.bool (weakP a b), [])
    unfold sWeak_br weakP
    cases tagP a <;> cases tagP b <;> rfl
  · cases h

def iWeak_O : Opt := { split := true }
def iWeak_C : SC := [⟨23, _, iTag_okQ⟩, ⟨73, _, tpx_okQ⟩]
def iWeak_br (a b : Bytes) : Br := (Br.ite (tagP a) (Br.ite (tagP b) (Br.ret (AV.bool (decide ((tpP a ([87, 47] : Bytes)) = (tpP b ([87, 47] : Bytes))))) []) (Br.ret (AV.bool false) [])) (Br.ret (AV.bool false) []))
def iWeak_s : List AV → List Ob → Br
  | [.str a, .str b], [] => iWeak_br a b
  | _, _ => .fail
theorem iWeak_ok : Sound Kx 25 iWeak_s := sound_br (C := iWeak_C) (O := iWeak_O) Tryz.func25 (by kernel_rfl) fun args objs => by
  unfold iWeak_s; split
  · exact .inr (by kernel_rfl)
  · exact .inl rfl

def iVali_O : Opt := { split := true }
def iVali_C : SC := [⟨49, _, iEntryOk_okQ⟩, ⟨80, _, iGet_okQ⟩, ⟨23, _, iTag_okQ⟩, ⟨81, _, iDateIn_okQ⟩]
abbrev iVali_c1 (ur : Bytes) (t1 t2 : Int) (ak : List Fd) (me ta : Bytes) (st : Int) (re : Bytes) (ba : Bool) (fs : List Fd) (bo : Bytes) := (List.set (List.replicate 1 (([] : Bytes), ([] : Bytes))) 0 (([73, 102, 45, 77, 111, 100, 105, 102, 105, 101, 100, 45, 83, 105, 110, 99, 101] : Bytes), (List.getD (vals fs ([108, 97, 115, 116, 45, 109, 111, 100, 105, 102, 105, 101, 100] : Bytes)) 0 ([] : Bytes))))
abbrev iVali_c2 (ur : Bytes) (t1 t2 : Int) (ak : List Fd) (me ta : Bytes) (st : Int) (re : Bytes) (ba : Bool) (fs : List Fd) (bo : Bytes) := (List.set (List.replicate 1 (([] : Bytes), ([] : Bytes))) 0 (([73, 102, 45, 78, 111, 110, 101, 45, 77, 97, 116, 99, 104] : Bytes), (List.getD (vals fs ([101, 116, 97, 103] : Bytes)) 0 ([] : Bytes))))
abbrev iVali_c3 (ur : Bytes) (t1 t2 : Int) (ak : List Fd) (me ta : Bytes) (st : Int) (re : Bytes) (ba : Bool) (fs : List Fd) (bo : Bytes) := (Br.ite (dtP fs ([108, 97, 115, 116, 45, 109, 111, 100, 105, 102, 105, 101, 100] : Bytes)).2 (Br.ite (decide (((List.length (iVali_c1 ur t1 t2 ak me ta st re ba fs bo)) * 32) ≤ 140737488355328)) (Br.ret (AV.ref 0 0) ((Ob.arr (Ty.pair Ty.str Ty.str) 0 false (iVali_c1 ur t1 t2 ak me ta st re ba fs bo)) :: [])) Br.fail) (Br.ret (AV.ref 0 0) ((Ob.arr (Ty.pair Ty.str Ty.str) 0 false ([] : (List Fd))) :: [])))
def iVali_br (ur : Bytes) (t1 t2 : Int) (ak : List Fd) (me ta : Bytes) (st : Int) (re : Bytes) (ba : Bool) (fs : List Fd) (bo : Bytes) : Br := (Br.ite (isM ur) (Br.ite (!(entP (ur, (t1, (t2, (ak, (me, (ta, (st, (re, (ba, (fs, bo)))))))))))) (Br.ret (AV.ref 0 0) ((Ob.arr (Ty.pair Ty.str Ty.str) 0 false ([] : (List Fd))) :: [])) (Br.ite (hasP fs ([101, 116, 97, 103] : Bytes)) (Br.ite (tagP (List.getD (vals fs ([101, 116, 97, 103] : Bytes)) 0 ([] : Bytes))) (Br.ite (decide (((List.length (iVali_c2 ur t1 t2 ak me ta st re ba fs bo)) * 32) ≤ 140737488355328)) (Br.ite (dtP fs ([108, 97, 115, 116, 45, 109, 111, 100, 105, 102, 105, 101, 100] : Bytes)).2 (Br.ite (decide ((((List.length (iVali_c2 ur t1 t2 ak me ta st re ba fs bo)) + (List.length (iVali_c1 ur t1 t2 ak me ta st re ba fs bo))) * 32) ≤ 140737488355328)) (Br.ret (AV.ref 0 0) ((Ob.arr (Ty.pair Ty.str Ty.str) 0 false ((iVali_c2 ur t1 t2 ak me ta st re ba fs bo) ++ (iVali_c1 ur t1 t2 ak me ta st re ba fs bo))) :: [])) Br.fail) (Br.ret (AV.ref 0 0) ((Ob.arr (Ty.pair Ty.str Ty.str) 0 false (iVali_c2 ur t1 t2 ak me ta st re ba fs bo)) :: []))) Br.fail) (iVali_c3 ur t1 t2 ak me ta st re ba fs bo)) (iVali_c3 ur t1 t2 ak me ta st re ba fs bo))) Br.fail)
def iVali_s : List AV → List Ob → Br
  | [.agg [.str ur, .int .i64 t1, .int .i64 t2, .sh (.pair .str .str) ak, .str me, .str ta, .int .i64 st, .str re, .bool ba, .sh (.pair .str .str) fs, .str bo]], [] => iVali_br ur t1 t2 ak me ta st re ba fs bo
  | _, _ => .fail
theorem iVali_ok : Sound Kx 30 iVali_s := sound_br (C := iVali_C) (O := iVali_O) Tryz.func30 (by kernel_rfl) fun args objs => by
  unfold iVali_s; split
  · exact .inr (by kernel_rfl)
  · exact .inl rfl

theorem iWeak_okQ : Sound Kx 25 we_s := iWeak_ok.of fun args objs r h => by
  unfold we_s at h; split at h
  · rename_i a b
    cases h
    show (iWeak_br a b).val = some (.bool (weakP a b), [])
    unfold iWeak_br weakP strongP
    cases tagP a <;> cases tagP b <;> rfl
  · cases h
def nINM : Bytes := [105, 102, 45, 110, 111, 110, 101, 45, 109, 97, 116, 99, 104]
def nIMS : Bytes := [105, 102, 45, 109, 111, 100, 105, 102, 105, 101, 100, 45, 115, 105, 110, 99, 101]
def nLM : Bytes := [108, 97, 115, 116, 45, 109, 111, 100, 105, 102, 105, 101, 100]
def nET : Bytes := [101, 116, 97, 103]
def hitW (tag w : Bytes) : Bool := bif decide (w = [42]) then true else weakP w tag
def unmP (l : List Fd) (e : En) : Bool :=
  bif !entP e then false else bif !fdsOk l then false
  else bif hasP l nINM then (wordsP l nINM).any (hitW ((vals e.2.2.2.2.2.2.2.2.2.1 nET).getD 0 []))
  else bif (dtP l nIMS).2 then bif (dtP e.2.2.2.2.2.2.2.2.2.1 nLM).2 then decide ((dtP e.2.2.2.2.2.2.2.2.2.1 nLM).1 ≤ (dtP l nIMS).1) else false else false
def um_s : List AV → List Ob → Br
  | [.sh (.pair .str .str) l, .agg [.str ur, .int .i64 t1, .int .i64 t2, .sh (.pair .str .str) ak, .str me, .str ta, .int .i64 st, .str re, .bool ba, .sh (.pair .str .str) fs, .str bo]], [] => .ite (isM ur) (.ret (.bool (unmP l (ur, t1, t2, ak, me, ta, st, re, ba, fs, bo))) []) .fail
  | _, _ => .fail

def uC_C : SC := [⟨25, _, iWeak_okQ⟩]
def uC_br (w tag : Bytes) : Br := (Br.ite (decide (w = ([42] : Bytes))) (Br.ret (AV.bool true) ((Ob.var ((AV.str tag) :: [])) :: [])) (Br.ret (AV.bool (weakP w tag)) ((Ob.var ((AV.str tag) :: [])) :: [])))
def uC_s : List AV → List Ob → Br
  | [.str w, .ptr 0 0], [.var [.str tag]] => uC_br w tag
  | _, _ => .fail
theorem uC_ok : Sound Kx 88 uC_s := sound_br (C := uC_C) (O := O0) Tryz.func88 (by kernel_rfl) fun args objs => by
  unfold uC_s; split
  · exact .inr (by kernel_rfl)
  · exact .inl rfl

def ixF_O : Opt := { live := [(2, [0, 1, 7, 8])], outs := [(2, [4])] }
def ixF_C : SC := [⟨88, _, uC_ok⟩]
def ixF_T2 (v2x0 : (List Bytes)) (v2x1 v2x2 : Int) (v2x3 : Bytes) (kR2 : (List Bytes) → Int → Int → Bytes → Option Rs) (k2e0 : Int → Bytes → Option Rs) (k2e1 : Bytes → Option Rs) : Option Rs :=
  (bif (decide (v2x2 < v2x1)) then (bif (decide (0 ≤ v2x2)) then (bif (decide (v2x2 < (v2x0.length : Int))) then (bif (decide ((List.getD v2x0 (Int.toNat v2x2) ([] : Bytes)) = ([42] : Bytes))) then (k2e0 v2x2 v2x3) else (bif (weakP (List.getD v2x0 (Int.toNat v2x2) ([] : Bytes)) v2x3) then (k2e0 v2x2 v2x3) else (kR2 v2x0 v2x1 (wk64 (v2x2 + 1)) v2x3))) else (none)) else (none)) else (k2e1 v2x3))
def ixF_F2 : Nat → (List Bytes) → Int → Int → Bytes → (Int → Bytes → Option Rs) → (Bytes → Option Rs) → Option Rs
  | 0, _, _, _, _, _, _ => none
  | n + 1, v2x0, v2x1, v2x2, v2x3, k2e0, k2e1 => ixF_T2 v2x0 v2x1 v2x2 v2x3 (fun v2x0 v2x1 v2x2 v2x3 => ixF_F2 n v2x0 v2x1 v2x2 v2x3 k2e0 k2e1) k2e0 k2e1
abbrev ixF_p2 : SP := ⟨19, [0, 1, 7, 8], [(.v (.sh Ty.str)), (.v (.fn 88 [(0, 0)])), (.v (.i .i64)), (.v (.i .i64))], [(0, .var [.s])]⟩
noncomputable def ixF_b2 : Code := codeAt (codeOf Tryz.f159) [1, 0, 1, 0, 0]
def ixF_E2 (f : (Int → Bytes → Option Rs) → (Bytes → Option Rs) → Option Rs) (k : KT) : Option Rs := f (fun x2x0x0 x2x0x1 => k Ex.ret ((St.mk (slots 0 19 [(4, (AV.int .i64 x2x0x0))]) ((0, (Ob.var ((AV.str x2x0x1) :: []))) :: ([] : (List (Nat × (Ob)))))))) (fun x2x1x0 => k (Ex.exit 0) ((St.mk (slots 0 19 []) ((0, (Ob.var ((AV.str x2x1x0) :: []))) :: ([] : (List (Nat × (Ob))))))))
def ixF_G2 (n : Nat) (d : ixF_p2.D) : KT → Option Rs := ixF_E2 (ixF_F2 n d.1.1 d.1.2.2.1 d.1.2.2.2.1 d.2.1.1)
def ixF_L (N : Nat) : Lam := lamOf [⟨2, ixF_p2, ixF_G2 N⟩]
theorem ixF_ok2 (N : Nat) : OkL Kx ixF_C.s ixF_O 1 N (ixF_L N) ixF_b2 := okL ixF_p2 (ixF_G2) (fun d kR => ixF_E2 (ixF_T2 d.1.1 d.1.2.2.1 d.1.2.2.2.1 d.2.1.1 (fun v2x0 v2x1 v2x2 v2x3 => kR ((v2x0, (), v2x1, v2x2, ()), ((v2x3, ()), ()))))) (fun _ _ => by kernel_rfl) (fun _ _ _ => by kernel_rfl) (fun _ _ => by kernel_rfl) (fun _ _ _ _ => by kernel_rfl) (okEach (l' := []) (by kernel_rfl) trivial)
def ixF_run (N : Nat) (l : List Bytes) (tag : Bytes) : Option Rs := (ixF_F2 N l (l.length : Int) 0 tag (fun x2x0x0 => (fun x2x0x1 => (some ((AV.int .i64 x2x0x0), ((Ob.var ((AV.str x2x0x1) :: [])) :: []))))) (fun x2x1x0 => (some ((AV.int .i64 (-1)), ((Ob.var ((AV.str x2x1x0) :: [])) :: [])))))
def ixF_sOf (φ : (List Bytes) → Bytes → Br) : List AV → List Ob → Br
  | [.sh .str l, .fn 88 [.ptr 0 0]], [.var [.str tag]] => φ l tag
  | _, _ => .fail
theorem ixF_okOf {φ : (List Bytes) → Bytes → Br} (fu : (List Bytes) → Bytes → Nat) (hv : ∀ l tag res_, (φ l tag).val = some res_ → ixF_run (fu l tag) l tag = some res_) : Sound Kx 159 (ixF_sOf φ) := sound_lp (C := ixF_C) (O := ixF_O) Tryz.func159 (by kernel_rfl) fun args objs => by
  unfold ixF_sOf; split
  · rename_i l tag; exact .inr fun _ hyp_ => run_lp (Λ := ixF_L (fu l tag)) (by kernel_rfl) (okEach (l' := [ixF_b2]) (by kernel_rfl) ⟨ixF_ok2 _, trivial⟩) (by kernel_rfl) (hv l tag _ hyp_)
  · exact .inl rfl

def fixF (tag : Bytes) : List Bytes → Int → Int
  | [], _ => -1
  | w :: r, i => bif hitW tag w then i else fixF tag r (i + 1)
theorem fixF_any (tag : Bytes) : ∀ (l : List Bytes) (i : Int), 0 ≤ i → decide (0 ≤ fixF tag l i) = l.any (hitW tag)
  | [], i, h => rfl
  | w :: r, i, h => by
    unfold fixF
    rw [List.any_cons]
    cases hitW tag w
    · rw [cond_false, Bool.false_or]; exact fixF_any tag r (i + 1) (by omega)
    · rw [cond_true, Bool.true_or]; exact decide_eq_true h
theorem ixF_loop (l : List Bytes) (hl : l.length ≤ 100000) (tag : Bytes) (K : Int → Option Rs) : ∀ (r : List Bytes) (i : Int) (n : Nat), At l i r → r.length < n → ixF_F2 n l (l.length : Int) i tag (fun x _ => K x) (fun _ => K (-1)) = K (fixF tag r i) := by
  intro r; induction r with
  | nil => intro i n h hn; obtain ⟨n, rfl⟩ := fuel hn; unfold ixF_F2 ixF_T2; simp only [h.dge, cond_false]; rfl
  | cons w r ih =>
    intro i n h hn; obtain ⟨n, rfl⟩ := fuel hn
    simp only [List.length_cons] at hn
    have hr := ih (i + 1) n h.step (by omega)
    unfold ixF_F2 ixF_T2
    simp only [h.dlt, h.dnn, h.get, cond_true, h.next (show l.length ≤ 4611686018427387904 by omega), hr, fixF]
    unfold hitW
    cases decide (w = [42]) <;> cases weakP w tag <;> rfl
def ixf_s (p : Bytes → List Bytes → AV) : List AV → List Ob → Br
  | [.sh .str l, .fn 88 [.ptr 0 0]], [.var [.str tag]] => .ite (decide (l.length ≤ 100000)) (.ret (p tag l) [.var [.str tag]]) .fail
  | _, _ => .fail
theorem ixF_okQ : Sound Kx 159 (ixf_s fun tag l => .int .i64 (fixF tag l 0)) := by
  refine (ixF_okOf (φ := fun l tag => .ite (decide (l.length ≤ 100000)) (.ret (.int .i64 (fixF tag l 0)) [.var [.str tag]]) .fail) (fun l _ => l.length + 1) fun l tag r h => ?_).of fun args objs r h => ?_
  · obtain ⟨h1, h2⟩ := ite_some h
    cases h2
    rw [decide_eq_true_eq] at h1
    unfold ixF_run
    have hc : ∀ (r : List Bytes) (i : Int) (n : Nat) (k0 k0' : Int → Bytes → Option Rs) (k1 k1' : Bytes → Option Rs), (∀ x, k0 x tag = k0' x tag) → k1 tag = k1' tag → ixF_F2 n l (l.length : Int) i tag k0 k1 = ixF_F2 n l (l.length : Int) i tag k0' k1' := by
      intro r i n
      induction n generalizing i with
      | zero => intros; rfl
      | succ n ih =>
        intro k0 k0' k1 k1' h0 h1
        unfold ixF_F2 ixF_T2
        simp only [h0, h1, ih _ k0 k0' k1 k1' h0 h1]
    rw [hc l 0 (l.length + 1) _ (fun x _ => some (.int .i64 x, [.var [.str tag]])) _ (fun _ => some (.int .i64 (-1), [.var [.str tag]])) (fun _ => rfl) rfl]
    exact ixF_loop l h1 tag (fun x => some (.int .i64 x, [.var [.str tag]])) l 0 (l.length + 1) (At.start l) (by omega)
  · unfold ixf_s at h; split at h
    · exact h
    · cases h

def coF_C : SC := [⟨159, _, ixF_okQ⟩]
def coF_br (l : List Bytes) (tag : Bytes) : Br := (Br.ite (decide (l.length ≤ 100000)) (Br.ret (AV.bool (decide (0 ≤ (fixF tag l 0)))) ((Ob.var ((AV.str tag) :: [])) :: [])) Br.fail)
def coF_s : List AV → List Ob → Br
  | [.sh .str l, .fn 88 [.ptr 0 0]], [.var [.str tag]] => coF_br l tag
  | _, _ => .fail
theorem coF_ok : Sound Kx 86 coF_s := sound_br (C := coF_C) (O := O0) Tryz.func86 (by kernel_rfl) fun args objs => by
  unfold coF_s; split
  · exact .inr (by kernel_rfl)
  · exact .inl rfl

def iUnm_O : Opt := { split := true }
def iUnm_C : SC := [⟨49, _, iEntryOk_okQ⟩, ⟨84, _, iFieldsOk_okQ⟩, ⟨85, _, iHas_okQ⟩, ⟨87, _, iWords_okQ⟩, ⟨80, _, iGet_okQ⟩, ⟨86, _, coF_ok⟩, ⟨81, _, iDateIn_okQ⟩]
def iUnm_br (l : List Fd) (ur : Bytes) (t1 t2 : Int) (ak : List Fd) (me ta : Bytes) (st : Int) (re : Bytes) (ba : Bool) (fs : List Fd) (bo : Bytes) : Br := (Br.ite (isM ur) (Br.ite (!(entP (ur, (t1, (t2, (ak, (me, (ta, (st, (re, (ba, (fs, bo)))))))))))) (Br.ret (AV.bool false) []) (Br.ite (!(fdsOk l)) (Br.ret (AV.bool false) []) (Br.ite (hasP l ([105, 102, 45, 110, 111, 110, 101, 45, 109, 97, 116, 99, 104] : Bytes)) (Br.ite (decide ((List.length (wordsP l ([105, 102, 45, 110, 111, 110, 101, 45, 109, 97, 116, 99, 104] : Bytes))) ≤ 100000)) (Br.ret (AV.bool (decide (0 ≤ (fixF (List.getD (vals fs ([101, 116, 97, 103] : Bytes)) 0 ([] : Bytes)) (wordsP l ([105, 102, 45, 110, 111, 110, 101, 45, 109, 97, 116, 99, 104] : Bytes)) 0)))) []) Br.fail) (Br.ite (dtP l ([105, 102, 45, 109, 111, 100, 105, 102, 105, 101, 100, 45, 115, 105, 110, 99, 101] : Bytes)).2 (Br.ite (dtP fs ([108, 97, 115, 116, 45, 109, 111, 100, 105, 102, 105, 101, 100] : Bytes)).2 (Br.ret (AV.bool (decide ((dtP fs ([108, 97, 115, 116, 45, 109, 111, 100, 105, 102, 105, 101, 100] : Bytes)).1 ≤ (dtP l ([105, 102, 45, 109, 111, 100, 105, 102, 105, 101, 100, 45, 115, 105, 110, 99, 101] : Bytes)).1))) []) (Br.ret (AV.bool false) [])) (Br.ret (AV.bool false) []))))) Br.fail)
def iUnm_s : List AV → List Ob → Br
  | [.sh (.pair .str .str) l, .agg [.str ur, .int .i64 t1, .int .i64 t2, .sh (.pair .str .str) ak, .str me, .str ta, .int .i64 st, .str re, .bool ba, .sh (.pair .str .str) fs, .str bo]], [] => iUnm_br l ur t1 t2 ak me ta st re ba fs bo
  | _, _ => .fail
theorem iUnm_ok : Sound Kx 33 iUnm_s := sound_br (C := iUnm_C) (O := iUnm_O) Tryz.func33 (by kernel_rfl) fun args objs => by
  unfold iUnm_s; split
  · exact .inr (by kernel_rfl)
  · exact .inl rfl

theorem iUnm_val (l : List Fd) (ur : Bytes) (t1 t2 : Int) (ak : List Fd) (me ta : Bytes) (st : Int) (re : Bytes) (ba : Bool) (fs : List Fd) (bo : Bytes) (h1 : isM ur = true) : (iUnm_br l ur t1 t2 ak me ta st re ba fs bo).val = some (.bool (unmP l (ur, t1, t2, ak, me, ta, st, re, ba, fs, bo)), []) := by
  have hw := (words_bd l nINM).1
  have e0 : decide ((wordsP l nINM).length ≤ 100000) = true := decide_eq_true (by omega)
  have e1 := fixF_any ((vals fs nET).getD 0 []) (wordsP l nINM) 0 (by omega)
  unfold iUnm_br unmP
  rw [h1]
  cases entP (ur, t1, t2, ak, me, ta, st, re, ba, fs, bo)
  · rfl
  cases fdsOk l
  · rfl
  show (Br.ite (hasP l nINM) (Br.ite (decide ((wordsP l nINM).length ≤ 100000)) (.ret (.bool (decide (0 ≤ fixF ((vals fs nET).getD 0 []) (wordsP l nINM) 0))) []) .fail) (Br.ite (dtP l nIMS).2 (Br.ite (dtP fs nLM).2 (.ret (.bool (decide ((dtP fs nLM).1 ≤ (dtP l nIMS).1))) []) _) _)).val = _
  rw [e0, e1]
  cases hasP l nINM
  · cases (dtP l nIMS).2 <;> cases (dtP fs nLM).2 <;> rfl
  · rfl
theorem iUnm_okQ : Sound Kx 33 um_s := iUnm_ok.of fun args objs r h => by
  unfold um_s at h; split at h
  · obtain ⟨h1, h2⟩ := ite_some h
    cases h2
    exact iUnm_val _ _ _ _ _ _ _ _ _ _ _ _ h1
  · cases h

end
end Go.Proofs.YtgknmoadpgpdeaaGreatDoor.Ev

namespace Go.Proofs.YtgknmoadpgpdeaaGreatDoor.Ev
open Go Go.RowKit
set_option linter.unusedVariables false
set_option linter.unusedSimpArgs false
end Go.Proofs.YtgknmoadpgpdeaaGreatDoor.Ev

namespace Go.Proofs.YtgknmoadpgpdeaaGreatDoor.Ev
open Go Go.RowKit
set_option linter.unusedVariables false
set_option linter.unusedSimpArgs false
noncomputable section

def kINM : Bytes := [73, 102, 45, 78, 111, 110, 101, 45, 77, 97, 116, 99, 104]
def kIMS : Bytes := [73, 102, 45, 77, 111, 100, 105, 102, 105, 101, 100, 45, 83, 105, 110, 99, 101]
def valF (fs : List Fd) : List Fd := (bif hasP fs nET && tagP ((vals fs nET).getD 0 []) then [(kINM, (vals fs nET).getD 0 [])] else []) ++ (bif (dtP fs nLM).2 then [(kIMS, (vals fs nLM).getD 0 [])] else [])
def vdP (e : En) : List Fd := bif entP e then valF e.2.2.2.2.2.2.2.2.2.1 else []
def va_s : List AV → List Ob → Br
  | [.agg [.str ur, .int .i64 t1, .int .i64 t2, .sh (.pair .str .str) ak, .str me, .str ta, .int .i64 st, .str re, .bool ba, .sh (.pair .str .str) fs, .str bo]], [] =>
    .ite (isM ur) (.ret (.ref 0 0) [.arr (.pair .str .str) 0 false (vdP (ur, t1, t2, ak, me, ta, st, re, ba, fs, bo))]) .fail
  | _, _ => .fail
theorem iVali_okQ : Sound Kx 30 va_s := iVali_ok.of fun args objs r h => by
  unfold va_s at h; split at h
  case h_2 => cases h
  rename_i ur t1 t2 ak me ta st re ba fs bo
  obtain ⟨h1, h2⟩ := ite_some h
  cases h2
  show (iVali_br ur t1 t2 ak me ta st re ba fs bo).val = _
  unfold iVali_br vdP valF iVali_c3 iVali_c2 iVali_c1
  refine (val_t h1).trans ?_
  cases entP (ur, t1, t2, ak, me, ta, st, re, ba, fs, bo)
  · rfl
  unfold nET nLM
  cases hasP fs [101, 116, 97, 103] <;> cases tagP ((vals fs [101, 116, 97, 103]).getD 0 []) <;> cases (dtP fs [108, 97, 115, 116, 45, 109, 111, 100, 105, 102, 105, 101, 100]).2 <;> kernel_rfl

end
end Go.Proofs.YtgknmoadpgpdeaaGreatDoor.Ev

namespace Go.Proofs.YtgknmoadpgpdeaaGreatDoor.Ev
open Go Go.RowKit
set_option linter.unusedVariables false
set_option linter.unusedSimpArgs false
end Go.Proofs.YtgknmoadpgpdeaaGreatDoor.Ev

namespace Go.Proofs.YtgknmoadpgpdeaaGreatDoor.Ev
open Go Go.RowKit
set_option linter.unusedVariables false
set_option linter.unusedSimpArgs false
noncomputable section


end
end Go.Proofs.YtgknmoadpgpdeaaGreatDoor.Ev

namespace Go.Proofs.YtgknmoadpgpdeaaGreatDoor.Ev
open Go Go.RowKit
noncomputable section
def keF : List Fd := [([69, 84, 97, 103], [34, 116, 34]), ([67, 97, 99, 104, 101, 45, 67, 111, 110, 116, 114, 111, 108], [109, 97, 120, 45, 97, 103, 101, 61, 49, 48])]
def keE : En := ([104, 116, 116, 112, 58, 47, 47, 97, 46, 98, 47], 100, 101, [], [], [], 200, [79, 75], false, keF, [111, 110, 101])
def keV : List Fd := [([73, 102, 45, 78, 111, 110, 101, 45, 77, 97, 116, 99, 104], [34, 116, 34])]
theorem ke_200 : decD 200 = [50, 48, 48] := by rw [decD_eq]; kernel_rfl
theorem ke_3 : decD 3 = [51] := by rw [decD_eq]; kernel_rfl
theorem ke_hd : decide (((headP [] [] 200 [79, 75] false keF [111, 110, 101]).length : Int) ≤ 1500) = true := by
  have e : clP [] false [111, 110, 101] = [67, 111, 110, 116, 101, 110, 116, 45, 76, 101, 110, 103, 116, 104, 58, 32] ++ decD 3 ++ [13, 10] := by first | rfl | (unfold clP; rfl)
  unfold headP firstP
  rw [e, ke_200, ke_3]; first | rfl | decide
theorem ke_m : msgOkP [] [] 200 [79, 75] false keF [111, 110, 101] = true := by
  unfold msgOkP
  rw [ke_hd]; kernel_rfl
theorem ke_ok : entP keE = true := by
  unfold entP
  rw [show msgOkP keE.2.2.2.2.1 keE.2.2.2.2.2.1 keE.2.2.2.2.2.2.1 keE.2.2.2.2.2.2.2.1 keE.2.2.2.2.2.2.2.2.1 keE.2.2.2.2.2.2.2.2.2.1 keE.2.2.2.2.2.2.2.2.2.2 = true from ke_m]; kernel_rfl
theorem ke_v : vdP keE = keV := by unfold vdP; rw [ke_ok]; kernel_rfl
theorem ke_u : unmP keV keE = true := by unfold unmP; rw [ke_ok]; kernel_rfl
theorem ke_c : chosenP keE [] = true := by unfold chosenP; rw [ke_ok]; kernel_rfl
theorem weak_comm (a b : Bytes) : weakP a b = weakP b a := by
  unfold weakP
  cases tagP a <;> cases tagP b <;> simp only [cond_true, cond_false]
  rw [decide_eq_decide]; exact eq_comm
theorem weak_self (a : Bytes) : weakP a a = tagP a := by
  unfold weakP
  cases tagP a <;> simp
theorem strong_no {a : Bytes} (h : (decide (2 ≤ a.length) && decide (a.take 2 = [87, 47])) = false) : strongP a = a := by
  unfold strongP tpP
  rw [show (decide (([87, 47] : Bytes).length ≤ a.length) && decide (a.take ([87, 47] : Bytes).length = [87, 47])) = (decide (2 ≤ a.length) && decide (a.take 2 = [87, 47])) from rfl, h]; rfl
theorem strong_W (a : Bytes) : strongP ([87, 47] ++ a) = a := by
  unfold strongP tpP
  have e : (decide (([87, 47] : Bytes).length ≤ (([87, 47] : Bytes) ++ a).length) && decide ((([87, 47] : Bytes) ++ a).take ([87, 47] : Bytes).length = ([87, 47] : Bytes))) = true := by simp
  rw [e]; rfl
theorem weak_W {a : Bytes} (h1 : tagP a = true) (h2 : (a.length : Int) < 189) (h3 : (decide (2 ≤ a.length) && decide (a.take 2 = [87, 47])) = false) : weakP ([87, 47] ++ a) a = true := by
  have e1 := strong_no h3
  have e2 := strong_W a
  have e3 : tagP ([87, 47] ++ a) = true := by
    unfold tagP at h1 ⊢
    rw [e1] at h1
    rw [e2]
    rw [show decide (190 < ((([87, 47] ++ a : Bytes).length : Nat) : Int)) = false from decide_eq_false (by simp; omega), cond_false]
    rw [show decide (190 < ((a.length : Nat) : Int)) = false from decide_eq_false (by omega), cond_false] at h1
    exact h1
  unfold weakP
  rw [e3, h1, e1, e2]; simp
end
end Go.Proofs.YtgknmoadpgpdeaaGreatDoor.Ev
