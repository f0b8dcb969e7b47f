/- The texts Ext1, La, Lb, Lc, Ld, Le, Lf, Lg, Lh, Li, Lj, Lk, Ll, Lm, Ln, Na, Nb, Nc, Nd, Ua, Tk, one behind the other. -/
import Derived.Test.YtgknmoadpgpdeaaGreatDoorK13
import Derived.Lib.Bytealg
namespace Go.Proofs.YtgknmoadpgpdeaaGreatDoor.Ev
open Go Go.RowKit
set_option linter.unusedVariables false
set_option linter.unusedSimpArgs false

def ixOf (s : List UInt8) (c : Int) : Int := Go.Lib.indexByte s c.toNat.toUInt8
def ixBS_br (s : List UInt8) (c : Int) : Br := .ret (.int .i64 (ixOf s c)) []
def ixBS_s : List AV → List Ob → Br
  | [.str s, .int .u8 c], [] => ixBS_br s c
  | _, _ => .fail
theorem ixBS_ok : Sound Kx 291 ixBS_s := by
  intro args objs res objs' hv w L vs hR ho hr
  unfold ixBS_s at hv
  split at hv
  · rename_i s c
    cases hv
    simp only [rels, rel] at hr
    obtain ⟨v1, cs1, rfl, rfl, v2, cs2, rfl, rfl, rfl⟩ := hr
    refine .inr ⟨.int .i64 (Go.Lib.indexByte s c.toNat.toUInt8), w, ?_, L, hR, ho, ?_, by simp [rel, ixOf]⟩
    · have := run_callFunc_extern (P := Kx.P) (f := 291) (e := Extern.BytealgIndexByte.indexByte) Tryz.func291 (by kernel_rfl) (by kernel_rfl) (by kernel_rfl) (by kernel_rfl) #[.string ⟨s.toArray⟩, .int .u8 c] w
      refine this.trans ?_
      rw [Go.Lib.run_indexByteString]
      simp [Result.andThen, ixOf]
    · exact Kept.refl _ _
  · cases hv

end Go.Proofs.YtgknmoadpgpdeaaGreatDoor.Ev

namespace Go.Proofs.YtgknmoadpgpdeaaGreatDoor.Ev
open Go Go.RowKit
set_option linter.unusedVariables false
set_option linter.unusedSimpArgs false
noncomputable section

def isLower_br (b : Int) : Br := (Br.ite (decide (97 ≤ b)) (Br.ret (AV.bool (decide (b ≤ 122))) []) (Br.ret (AV.bool false) []))
def isLower_s : List AV → List Ob → Br
  | [.int .u8 b], [] => isLower_br b
  | _, _ => .fail
theorem isLower_ok : Sound Kx 293 isLower_s := sound_br (C := []) (O := O0) Tryz.func293 (by kernel_rfl) fun args objs => by
  unfold isLower_s; split
  · exact .inr (by kernel_rfl)
  · exact .inl rfl

def isUpper_br (b : Int) : Br := (Br.ite (decide (65 ≤ b)) (Br.ret (AV.bool (decide (b ≤ 90))) []) (Br.ret (AV.bool false) []))
def isUpper_s : List AV → List Ob → Br
  | [.int .u8 b], [] => isUpper_br b
  | _, _ => .fail
theorem isUpper_ok : Sound Kx 197 isUpper_s := sound_br (C := []) (O := O0) Tryz.func197 (by kernel_rfl) fun args objs => by
  unfold isUpper_s; split
  · exact .inr (by kernel_rfl)
  · exact .inl rfl

def isDigit_br (b : Int) : Br := (Br.ite (decide (48 ≤ b)) (Br.ret (AV.bool (decide (b ≤ 57))) []) (Br.ret (AV.bool false) []))
def isDigit_s : List AV → List Ob → Br
  | [.int .u8 b], [] => isDigit_br b
  | _, _ => .fail
theorem isDigit_ok : Sound Kx 244 isDigit_s := sound_br (C := []) (O := O0) Tryz.func244 (by kernel_rfl) fun args objs => by
  unfold isDigit_s; split
  · exact .inr (by kernel_rfl)
  · exact .inl rfl

def isSpace_br (b : Int) : Br := (Br.ite (decide (b = 32)) (Br.ret (AV.bool true) []) (Br.ret (AV.bool (decide (b = 9))) []))
def isSpace_s : List AV → List Ob → Br
  | [.int .u8 b], [] => isSpace_br b
  | _, _ => .fail
theorem isSpace_ok : Sound Kx 236 isSpace_s := sound_br (C := []) (O := O0) Tryz.func236 (by kernel_rfl) fun args objs => by
  unfold isSpace_s; split
  · exact .inr (by kernel_rfl)
  · exact .inl rfl

def isPlain_br (b : Int) : Br := (Br.ite (decide (b = 9)) (Br.ret (AV.bool true) []) (Br.ite (decide (32 ≤ b)) (Br.ret (AV.bool (!(decide (b = 127)))) []) (Br.ret (AV.bool false) [])))
def isPlain_s : List AV → List Ob → Br
  | [.int .u8 b], [] => isPlain_br b
  | _, _ => .fail
theorem isPlain_ok : Sound Kx 221 isPlain_s := sound_br (C := []) (O := O0) Tryz.func221 (by kernel_rfl) fun args objs => by
  unfold isPlain_s; split
  · exact .inr (by kernel_rfl)
  · exact .inl rfl

def isVisible_br (b : Int) : Br := (Br.ite (decide (33 ≤ b)) (Br.ret (AV.bool (decide (b ≤ 126))) []) (Br.ret (AV.bool false) []))
def isVisible_s : List AV → List Ob → Br
  | [.int .u8 b], [] => isVisible_br b
  | _, _ => .fail
theorem isVisible_ok : Sound Kx 230 isVisible_s := sound_br (C := []) (O := O0) Tryz.func230 (by kernel_rfl) fun args objs => by
  unfold isVisible_s; split
  · exact .inr (by kernel_rfl)
  · exact .inl rfl

def isStatus_C : SC := [⟨201, _, iwithin_ok⟩]
def isStatus_br (n : Int) : Br := (Br.ite (decide (200 ≤ n)) (Br.ret (AV.bool (decide (n ≤ 599))) []) (Br.ret (AV.bool false) []))
def isStatus_s : List AV → List Ob → Br
  | [.int .i64 n], [] => isStatus_br n
  | _, _ => .fail
theorem isStatus_ok : Sound Kx 174 isStatus_s := sound_br (C := isStatus_C) (O := O0) Tryz.func174 (by kernel_rfl) fun args objs => by
  unfold isStatus_s; split
  · exact .inr (by kernel_rfl)
  · exact .inl rfl

def isBareStatus_br (n : Int) : Br := (Br.ite (decide (n = 204)) (Br.ret (AV.bool true) []) (Br.ret (AV.bool (decide (n = 304))) []))
def isBareStatus_s : List AV → List Ob → Br
  | [.int .i64 n], [] => isBareStatus_br n
  | _, _ => .fail
theorem isBareStatus_ok : Sound Kx 176 isBareStatus_s := sound_br (C := []) (O := O0) Tryz.func176 (by kernel_rfl) fun args objs => by
  unfold isBareStatus_s; split
  · exact .inr (by kernel_rfl)
  · exact .inl rfl


def isLow (n : Int) : Bool := decide (97 ≤ n) && decide (n ≤ 122)
def isUp (n : Int) : Bool := decide (65 ≤ n) && decide (n ≤ 90)
def isDig (n : Int) : Bool := decide (48 ≤ n) && decide (n ≤ 57)
def isSp (n : Int) : Bool := decide (n = 32) || decide (n = 9)
def isPl (n : Int) : Bool := decide (n = 9) || (decide (32 ≤ n) && !decide (n = 127))
def isVis (n : Int) : Bool := decide (33 ≤ n) && decide (n ≤ 126)
def lowI (n : Int) : Int := bif isUp n then n + 32 else n
def tokSet : Bytes := [33, 35, 36, 37, 38, 39, 42, 43, 45, 46, 94, 95, 124, 126]
def isTok (n : Int) : Bool := isLow n || isUp n || isDig n || decide (n = 96) || tokSet.any fun c => decide (by8 c = n)

def pr_s (p : Int → Bool) : List AV → List Ob → Br
  | [.int .u8 b], [] => .ret (.bool (p b)) []
  | _, _ => .fail
theorem of_pr {n : Nat} {s : List AV → List Ob → Br} (hs : Sound Kx n s) {p : Int → Bool} (h : ∀ b, (s [.int .u8 b] []).val = some (.bool (p b), [])) : Sound Kx n (pr_s p) := hs.of fun args objs r hv => by
  unfold pr_s at hv
  split at hv
  · rw [h]; exact hv
  · cases hv
def pn_s (p : Int → Bool) : List AV → List Ob → Br
  | [.int .i64 b], [] => .ret (.bool (p b)) []
  | _, _ => .fail
theorem of_pn {n : Nat} {s : List AV → List Ob → Br} (hs : Sound Kx n s) {p : Int → Bool} (h : ∀ b, (s [.int .i64 b] []).val = some (.bool (p b), [])) : Sound Kx n (pn_s p) := hs.of fun args objs r hv => by
  unfold pn_s at hv
  split at hv
  · rw [h]; exact hv
  · cases hv
theorem v_and (c x : Bool) : (Br.ite c (.ret (.bool x) []) (.ret (.bool false) [])).val = some (.bool (c && x), []) := by cases c <;> rfl
theorem v_or (c x : Bool) : (Br.ite c (.ret (.bool true) []) (.ret (.bool x) [])).val = some (.bool (c || x), []) := by cases c <;> rfl

theorem isLower_okQ : Sound Kx 293 (pr_s isLow) := of_pr isLower_ok fun b => v_and _ _
theorem isUpper_okQ : Sound Kx 197 (pr_s isUp) := of_pr isUpper_ok fun b => v_and _ _
theorem isDigit_okQ : Sound Kx 244 (pr_s isDig) := of_pr isDigit_ok fun b => v_and _ _
theorem isVisible_okQ : Sound Kx 230 (pr_s isVis) := of_pr isVisible_ok fun b => v_and _ _
theorem isSpace_okQ : Sound Kx 236 (pr_s isSp) := of_pr isSpace_ok fun b => v_or _ _
theorem isPlain_okQ : Sound Kx 221 (pr_s isPl) := of_pr isPlain_ok fun b => by
  show (isPlain_br b).val = _
  unfold isPlain_br isPl
  simp only [Br.val]
  cases decide (b = 9) <;> cases decide (32 ≤ b) <;> rfl
def isSta (n : Int) : Bool := decide (200 ≤ n) && decide (n ≤ 599)
def isBar (n : Int) : Bool := decide (n = 204) || decide (n = 304)
theorem isStatus_okQ : Sound Kx 174 (pn_s isSta) := of_pn isStatus_ok fun b => v_and _ _
theorem isBareStatus_okQ : Sound Kx 176 (pn_s isBar) := of_pn isBareStatus_ok fun b => v_or _ _
def allP (p : Int → Bool) (s : Bytes) : Bool := s.all fun c => p (by8 c)
def foldP (s : Bytes) : Bytes := ofBytes ((bytesOf s).map lowI)
def sp8 (c : UInt8) : Bool := isSp (by8 c)
def trimL (s : Bytes) : Bytes := s.dropWhile sp8
def trimR (s : Bytes) : Bytes := (s.reverse.dropWhile sp8).reverse
def trimP (s : Bytes) : Bytes := trimR (trimL s)
def tokP (s : Bytes) : Bool := decide (1 ≤ s.length) && decide (s.length ≤ 4000) && allP isTok s
def isM (s : Bytes) : Bool := decide (s.length ≤ 4611686018427387904)


def ixL_C : SC := [⟨291, _, ixBS_ok⟩]
def ixL_br (s : Bytes) (c : Int) : Br := (Br.ret (AV.int .i64 (ixOf s c)) [])
def ixL_s : List AV → List Ob → Br
  | [.str s, .int .u8 c], [] => ixL_br s c
  | _, _ => .fail
theorem ixL_ok : Sound Kx 247 ixL_s := sound_br (C := ixL_C) (O := O0) Tryz.func247 (by kernel_rfl) fun args objs => by
  unfold ixL_s; split
  · exact .inr (by kernel_rfl)
  · exact .inl rfl

def ixB_C : SC := [⟨247, _, ixL_ok⟩]
def ixB_br (s : Bytes) (c : Int) : Br := (Br.ret (AV.int .i64 (ixOf s c)) [])
def ixB_s : List AV → List Ob → Br
  | [.str s, .int .u8 c], [] => ixB_br s c
  | _, _ => .fail
theorem ixB_ok : Sound Kx 207 ixB_s := sound_br (C := ixB_C) (O := O0) Tryz.func207 (by kernel_rfl) fun args objs => by
  unfold ixB_s; split
  · exact .inr (by kernel_rfl)
  · exact .inl rfl

def isTokB_C : SC := [⟨293, _, isLower_okQ⟩, ⟨197, _, isUpper_okQ⟩, ⟨244, _, isDigit_okQ⟩, ⟨207, _, ixB_ok⟩]
def isTokB_br (b : Int) : Br := (Br.ite (isLow b) (Br.ret (AV.bool true) []) (Br.ite (isUp b) (Br.ret (AV.bool true) []) (Br.ite (isDig b) (Br.ret (AV.bool true) []) (Br.ite (decide (b = 96)) (Br.ret (AV.bool true) []) (Br.ret (AV.bool (decide (0 ≤ (ixOf ([33, 35, 36, 37, 38, 39, 42, 43, 45, 46, 94, 95, 124, 126] : Bytes) b)))) [])))))
def isTokB_s : List AV → List Ob → Br
  | [.int .u8 b], [] => isTokB_br b
  | _, _ => .fail
theorem isTokB_ok : Sound Kx 259 isTokB_s := sound_br (C := isTokB_C) (O := O0) Tryz.func259 (by kernel_rfl) fun args objs => by
  unfold isTokB_s; split
  · exact .inr (by kernel_rfl)
  · exact .inl rfl

def ifold_O : Opt := { live := [(3, [3, 8, 9, 10])], outs := [(3, [2, 3])] }
def ifold_C : SC := [⟨197, _, isUpper_okQ⟩]
def ifold_T3 (v3x0 v3x1 : Int) (v3x2 : (List Int)) (kR3 : Int → Int → (List Int) → Option Rs) (k3e0 : (List Int) → Option Rs) : Option Rs :=
  (bif (decide (v3x1 < v3x0)) then (bif (decide (0 ≤ v3x1)) then (bif (decide (v3x1 < (v3x2.length : Int))) then (bif (isUp (List.getD v3x2 (Int.toNat v3x1) 0)) then (bif (decide (0 ≤ v3x1)) then (bif (decide (v3x1 < (v3x2.length : Int))) then (kR3 v3x0 (wk64 (v3x1 + 1)) (List.set v3x2 (Int.toNat v3x1) (wk8 ((List.getD v3x2 (Int.toNat v3x1) 0) + 32)))) else (none)) else (none)) else (kR3 v3x0 (wk64 (v3x1 + 1)) v3x2)) else (none)) else (none)) else (k3e0 v3x2))
def ifold_F3 : Nat → Int → Int → (List Int) → ((List Int) → Option Rs) → Option Rs
  | 0, _, _, _, _ => none
  | n + 1, v3x0, v3x1, v3x2, k3e0 => ifold_T3 v3x0 v3x1 v3x2 (fun v3x0 v3x1 v3x2 => ifold_F3 n v3x0 v3x1 v3x2 k3e0) k3e0
abbrev ifold_p3 : SP := ⟨25, [3, 8, 9, 10], [(.v (.ref 256 0)), (.v (.ref 256 0)), (.v (.i .i64)), (.v (.i .i64))], [(256, .arr (Ty.int .u8) 0 false)]⟩
noncomputable def ifold_b3 : Code := codeAt (codeOf Tryz.f118) [1, 1, 0, 1, 0, 0]
def ifold_E3 (f : ((List Int) → Option Rs) → Option Rs) (k : KT) : Option Rs := f (fun x3x0x0 => k (Ex.exit 0) ((St.mk (slots 0 25 [(3, (AV.ref 256 0))]) ((256, (Ob.arr (Ty.int .u8) 0 false x3x0x0)) :: ([] : (List (Nat × (Ob))))))))
def ifold_G3 (n : Nat) (d : ifold_p3.D) : KT → Option Rs := ifold_E3 (ifold_F3 n d.1.2.2.1 d.1.2.2.2.1 d.2.1)
def ifold_L (N : Nat) : Lam := lamOf [⟨3, ifold_p3, ifold_G3 N⟩]
theorem ifold_ok3 (N : Nat) : OkL Kx ifold_C.s ifold_O 0 N (ifold_L N) ifold_b3 := okL ifold_p3 (ifold_G3) (fun d kR => ifold_E3 (ifold_T3 d.1.2.2.1 d.1.2.2.2.1 d.2.1 (fun v3x0 v3x1 v3x2 => kR (((), (), v3x0, v3x1, ()), (v3x2, ()))))) (fun _ _ => by kernel_rfl) (fun _ _ _ => by kernel_rfl) (fun _ _ => by kernel_rfl) (fun _ _ _ _ => by kernel_rfl) (okEach (l' := []) (by kernel_rfl) trivial)
def ifold_run (N : Nat) (s : Bytes) : Option Rs := (ifold_F3 N ((List.length (bytesOf s)) : Int) 0 (bytesOf s) (fun x3x0x0 => (some ((AV.str (ofBytes x3x0x0)), []))))
def ifold_sOf (φ : Bytes → Br) : List AV → List Ob → Br
  | [.str s], [] => φ s
  | _, _ => .fail
theorem ifold_okOf {φ : Bytes → Br} (fu : Bytes → Nat) (hv : ∀ s res_, (φ s).val = some res_ → ifold_run (fu s) s = some res_) : Sound Kx 118 (ifold_sOf φ) := sound_lp (C := ifold_C) (O := ifold_O) Tryz.func118 (by kernel_rfl) fun args objs => by
  unfold ifold_sOf; split
  · rename_i s; exact .inr fun _ hyp_ => run_lp (Λ := ifold_L (fu s)) (by kernel_rfl) (okEach (l' := [ifold_b3]) (by kernel_rfl) ⟨ifold_ok3 _, trivial⟩) (by kernel_rfl) (hv s _ hyp_)
  · exact .inl rfl

def itrim_O : Opt := { live := [(3, [0]), (1, [0])], outs := [(3, [0, 2]), (1, [0, 2])] }
def itrim_C : SC := [⟨236, _, isSpace_okQ⟩]
def itrim_T1 (v1x0 : Bytes) (kR1 k1e0 : Bytes → Option Rs) : Option Rs :=
  (bif (!(decide (v1x0 = ([] : Bytes)))) then (bif (decide (0 < (v1x0.length : Int))) then (bif (isSp (strAt v1x0 0)) then (bif (decide (1 ≤ (v1x0.length : Int))) then (kR1 (cut v1x0 1 (v1x0.length : Int))) else (none)) else (k1e0 v1x0)) else (none)) else (k1e0 v1x0))
def itrim_F1 : Nat → Bytes → (Bytes → Option Rs) → Option Rs
  | 0, _, _ => none
  | n + 1, v1x0, k1e0 => itrim_T1 v1x0 (fun v1x0 => itrim_F1 n v1x0 k1e0) k1e0
abbrev itrim_p1 : SP := ⟨28, [0], [(.v .s)], []⟩
noncomputable def itrim_b1 : Code := codeAt (codeOf Tryz.f180) [1, 0, 0, 0]
def itrim_E1 (f : (Bytes → Option Rs) → Option Rs) (k : KT) : Option Rs := f (fun x1x0x0 => k (Ex.exit 0) ((St.mk (slots 0 28 [(0, (AV.str x1x0x0))]) ([] : (List (Nat × (Ob)))))))
def itrim_G1 (n : Nat) (d : itrim_p1.D) : KT → Option Rs := itrim_E1 (itrim_F1 n d.1.1)
def itrim_T3 (v3x0 : Bytes) (kR3 k3e0 : Bytes → Option Rs) : Option Rs :=
  (bif (!(decide (v3x0 = ([] : Bytes)))) then (bif (decide (0 ≤ (wk64 ((v3x0.length : Int) - 1)))) then (bif (decide ((wk64 ((v3x0.length : Int) - 1)) < (v3x0.length : Int))) then (bif (isSp (strAt v3x0 (wk64 ((v3x0.length : Int) - 1)))) then (bif (decide (0 ≤ (wk64 ((v3x0.length : Int) - 1)))) then (bif (decide ((wk64 ((v3x0.length : Int) - 1)) ≤ (v3x0.length : Int))) then (kR3 (cut v3x0 0 (wk64 ((v3x0.length : Int) - 1)))) else (none)) else (none)) else (k3e0 v3x0)) else (none)) else (none)) else (k3e0 v3x0))
def itrim_F3 : Nat → Bytes → (Bytes → Option Rs) → Option Rs
  | 0, _, _ => none
  | n + 1, v3x0, k3e0 => itrim_T3 v3x0 (fun v3x0 => itrim_F3 n v3x0 k3e0) k3e0
abbrev itrim_p3 : SP := ⟨28, [0], [(.v .s)], []⟩
noncomputable def itrim_b3 : Code := codeAt (codeOf Tryz.f180) [1, 1, 0, 0, 0]
def itrim_E3 (f : (Bytes → Option Rs) → Option Rs) (k : KT) : Option Rs := f (fun x3x0x0 => k (Ex.exit 2) ((St.mk (slots 0 28 [(0, (AV.str x3x0x0))]) ([] : (List (Nat × (Ob)))))))
def itrim_G3 (n : Nat) (d : itrim_p3.D) : KT → Option Rs := itrim_E3 (itrim_F3 n d.1.1)
def itrim_L (N : Nat) : Lam := lamOf [⟨1, itrim_p1, itrim_G1 N⟩, ⟨3, itrim_p3, itrim_G3 N⟩]
theorem itrim_ok1 (N : Nat) : OkL Kx itrim_C.s itrim_O 0 N (itrim_L N) itrim_b1 := okL itrim_p1 (itrim_G1) (fun d kR => itrim_E1 (itrim_T1 d.1.1 (fun v1x0 => kR ((v1x0, ()), ())))) (fun _ _ => by kernel_rfl) (fun _ _ _ => by kernel_rfl) (fun _ _ => by kernel_rfl) (fun _ _ _ _ => by kernel_rfl) (okEach (l' := []) (by kernel_rfl) trivial)
theorem itrim_ok3 (N : Nat) : OkL Kx itrim_C.s itrim_O 0 N (itrim_L N) itrim_b3 := okL itrim_p3 (itrim_G3) (fun d kR => itrim_E3 (itrim_T3 d.1.1 (fun v3x0 => kR ((v3x0, ()), ())))) (fun _ _ => by kernel_rfl) (fun _ _ _ => by kernel_rfl) (fun _ _ => by kernel_rfl) (fun _ _ _ _ => by kernel_rfl) (okEach (l' := []) (by kernel_rfl) trivial)
def itrim_run (N : Nat) (s : Bytes) : Option Rs := (itrim_F1 N s (fun x1x0x0 => (itrim_F3 N x1x0x0 (fun x3x0x0 => (some ((AV.str x3x0x0), []))))))
def itrim_sOf (φ : Bytes → Br) : List AV → List Ob → Br
  | [.str s], [] => φ s
  | _, _ => .fail
theorem itrim_okOf {φ : Bytes → Br} (fu : Bytes → Nat) (hv : ∀ s res_, (φ s).val = some res_ → itrim_run (fu s) s = some res_) : Sound Kx 180 (itrim_sOf φ) := sound_lp (C := itrim_C) (O := itrim_O) Tryz.func180 (by kernel_rfl) fun args objs => by
  unfold itrim_sOf; split
  · rename_i s; exact .inr fun _ hyp_ => run_lp (Λ := itrim_L (fu s)) (by kernel_rfl) (okEach (l' := [itrim_b1, itrim_b3]) (by kernel_rfl) ⟨itrim_ok1 _, itrim_ok3 _, trivial⟩) (by kernel_rfl) (hv s _ hyp_)
  · exact .inl rfl

def allVis_O : Opt := { live := [(2, [0, 1, 5])], outs := [(2, [4])] }
def allVis_C : SC := [⟨230, _, isVisible_okQ⟩]
def allVis_T2 (v2x0 : Bytes) (v2x1 : Int) (kR2 : Bytes → Int → Option Rs) (k2e0 k2e1 : Option Rs) : Option Rs :=
  (bif (decide (v2x1 < (v2x0.length : Int))) then (bif (decide (0 ≤ v2x1)) then (bif (decide (v2x1 < (v2x0.length : Int))) then (bif (!(isVis (strAt v2x0 v2x1))) then k2e0 else (kR2 v2x0 (wk64 (v2x1 + 1)))) else (none)) else (none)) else k2e1)
def allVis_F2 : Nat → Bytes → Int → (Option Rs) → (Option Rs) → Option Rs
  | 0, _, _, _, _ => none
  | n + 1, v2x0, v2x1, k2e0, k2e1 => allVis_T2 v2x0 v2x1 (fun v2x0 v2x1 => allVis_F2 n v2x0 v2x1 k2e0 k2e1) k2e0 k2e1
abbrev allVis_p2 : SP := ⟨18, [0, 1, 5], [(.v .s), (.v (.fn 230 [])), (.v (.i .i64))], []⟩
noncomputable def allVis_b2 : Code := codeAt (codeOf Tryz.f74) [1, 0, 1, 0, 0]
def allVis_E2 (f : (Option Rs) → (Option Rs) → Option Rs) (k : KT) : Option Rs := f (k Ex.ret ((St.mk (slots 0 18 [(4, (AV.bool false))]) ([] : (List (Nat × (Ob))))))) (k (Ex.exit 0) ((St.mk (slots 0 18 []) ([] : (List (Nat × (Ob)))))))
def allVis_G2 (n : Nat) (d : allVis_p2.D) : KT → Option Rs := allVis_E2 (allVis_F2 n d.1.1 d.1.2.2.1)
def allVis_L (N : Nat) : Lam := lamOf [⟨2, allVis_p2, allVis_G2 N⟩]
theorem allVis_ok2 (N : Nat) : OkL Kx allVis_C.s allVis_O 0 N (allVis_L N) allVis_b2 := okL allVis_p2 (allVis_G2) (fun d kR => allVis_E2 (allVis_T2 d.1.1 d.1.2.2.1 (fun v2x0 v2x1 => kR ((v2x0, (), v2x1, ()), ())))) (fun _ _ => by kernel_rfl) (fun _ _ _ => by kernel_rfl) (fun _ _ => by kernel_rfl) (fun _ _ _ _ => by kernel_rfl) (okEach (l' := []) (by kernel_rfl) trivial)
def allVis_run (N : Nat) (s : Bytes) : Option Rs := (allVis_F2 N s 0 (some ((AV.bool false), [])) (some ((AV.bool true), [])))
def allVis_sOf (φ : Bytes → Br) : List AV → List Ob → Br
  | [.str s, .fn 230 []], [] => φ s
  | _, _ => .fail
theorem allVis_okOf {φ : Bytes → Br} (fu : Bytes → Nat) (hv : ∀ s res_, (φ s).val = some res_ → allVis_run (fu s) s = some res_) : Sound Kx 74 (allVis_sOf φ) := sound_lp (C := allVis_C) (O := allVis_O) Tryz.func74 (by kernel_rfl) fun args objs => by
  unfold allVis_sOf; split
  · rename_i s; exact .inr fun _ hyp_ => run_lp (Λ := allVis_L (fu s)) (by kernel_rfl) (okEach (l' := [allVis_b2]) (by kernel_rfl) ⟨allVis_ok2 _, trivial⟩) (by kernel_rfl) (hv s _ hyp_)
  · exact .inl rfl

def allPl_O : Opt := { live := [(2, [0, 1, 5])], outs := [(2, [4])] }
def allPl_C : SC := [⟨221, _, isPlain_okQ⟩]
def allPl_T2 (v2x0 : Bytes) (v2x1 : Int) (kR2 : Bytes → Int → Option Rs) (k2e0 k2e1 : Option Rs) : Option Rs :=
  (bif (decide (v2x1 < (v2x0.length : Int))) then (bif (decide (0 ≤ v2x1)) then (bif (decide (v2x1 < (v2x0.length : Int))) then (bif (!(isPl (strAt v2x0 v2x1))) then k2e0 else (kR2 v2x0 (wk64 (v2x1 + 1)))) else (none)) else (none)) else k2e1)
def allPl_F2 : Nat → Bytes → Int → (Option Rs) → (Option Rs) → Option Rs
  | 0, _, _, _, _ => none
  | n + 1, v2x0, v2x1, k2e0, k2e1 => allPl_T2 v2x0 v2x1 (fun v2x0 v2x1 => allPl_F2 n v2x0 v2x1 k2e0 k2e1) k2e0 k2e1
abbrev allPl_p2 : SP := ⟨18, [0, 1, 5], [(.v .s), (.v (.fn 221 [])), (.v (.i .i64))], []⟩
noncomputable def allPl_b2 : Code := codeAt (codeOf Tryz.f74) [1, 0, 1, 0, 0]
def allPl_E2 (f : (Option Rs) → (Option Rs) → Option Rs) (k : KT) : Option Rs := f (k Ex.ret ((St.mk (slots 0 18 [(4, (AV.bool false))]) ([] : (List (Nat × (Ob))))))) (k (Ex.exit 0) ((St.mk (slots 0 18 []) ([] : (List (Nat × (Ob)))))))
def allPl_G2 (n : Nat) (d : allPl_p2.D) : KT → Option Rs := allPl_E2 (allPl_F2 n d.1.1 d.1.2.2.1)
def allPl_L (N : Nat) : Lam := lamOf [⟨2, allPl_p2, allPl_G2 N⟩]
theorem allPl_ok2 (N : Nat) : OkL Kx allPl_C.s allPl_O 0 N (allPl_L N) allPl_b2 := okL allPl_p2 (allPl_G2) (fun d kR => allPl_E2 (allPl_T2 d.1.1 d.1.2.2.1 (fun v2x0 v2x1 => kR ((v2x0, (), v2x1, ()), ())))) (fun _ _ => by kernel_rfl) (fun _ _ _ => by kernel_rfl) (fun _ _ => by kernel_rfl) (fun _ _ _ _ => by kernel_rfl) (okEach (l' := []) (by kernel_rfl) trivial)
def allPl_run (N : Nat) (s : Bytes) : Option Rs := (allPl_F2 N s 0 (some ((AV.bool false), [])) (some ((AV.bool true), [])))
def allPl_sOf (φ : Bytes → Br) : List AV → List Ob → Br
  | [.str s, .fn 221 []], [] => φ s
  | _, _ => .fail
theorem allPl_okOf {φ : Bytes → Br} (fu : Bytes → Nat) (hv : ∀ s res_, (φ s).val = some res_ → allPl_run (fu s) s = some res_) : Sound Kx 74 (allPl_sOf φ) := sound_lp (C := allPl_C) (O := allPl_O) Tryz.func74 (by kernel_rfl) fun args objs => by
  unfold allPl_sOf; split
  · rename_i s; exact .inr fun _ hyp_ => run_lp (Λ := allPl_L (fu s)) (by kernel_rfl) (okEach (l' := [allPl_b2]) (by kernel_rfl) ⟨allPl_ok2 _, trivial⟩) (by kernel_rfl) (hv s _ hyp_)
  · exact .inl rfl


theorem isM_le {s : Bytes} (h : isM s = true) : s.length ≤ 4611686018427387904 := of_decide_eq_true h

def hasB (s : Bytes) (b : Int) : Bool := s.any fun c => decide (by8 c = b)
theorem ixOf_iff (s : Bytes) (b : Int) (h0 : 0 ≤ b) (h1 : b < 256) : (0 ≤ ixOf s b) ↔ hasB s b = true := by
  unfold ixOf hasB
  induction s with
  | nil => simp [Go.Lib.indexByte]
  | cons a r ih =>
    have hc : (a = b.toNat.toUInt8) ↔ by8 a = b := by
      unfold by8
      constructor
      · intro h; rw [h]; simp; omega
      · intro h; rw [← h]; simp
    show (0 ≤ if (a == b.toNat.toUInt8) = true then 0 else if (Go.Lib.indexByte r b.toNat.toUInt8 == -1) = true then -1 else Go.Lib.indexByte r b.toNat.toUInt8 + 1) ↔ _
    rw [List.any_cons]
    by_cases h : a = b.toNat.toUInt8
    · rw [if_pos (beq_iff_eq.2 h), decide_eq_true (hc.1 h)]; simp
    · rw [if_neg (fun e => h (beq_iff_eq.1 e)), decide_eq_false (fun e => h (hc.2 e)), Bool.false_or, ← ih]
      have := Go.Lib.indexByte_ge r b.toNat.toUInt8
      split
      · rename_i g; have := beq_iff_eq.1 g; omega
      · rename_i g; have : ¬ Go.Lib.indexByte r b.toNat.toUInt8 = -1 := fun e => g (beq_iff_eq.2 e); omega
theorem ixOf_nn (s : Bytes) (b : Int) (h0 : 0 ≤ b) (h1 : b < 256) : decide (0 ≤ ixOf s b) = hasB s b := by
  rw [Bool.eq_iff_iff, decide_eq_true_eq]; exact ixOf_iff s b h0 h1

def tok_s : List AV → List Ob → Br
  | [.int .u8 b], [] => .ite (decide (0 ≤ b) && decide (b < 256)) (.ret (.bool (isTok b)) []) .fail
  | _, _ => .fail
theorem isTokB_okQ : Sound Kx 259 tok_s := isTokB_ok.of fun args objs r h => by
  unfold tok_s at h; split at h
  · rename_i b
    obtain ⟨h1, h2⟩ := ite_some h
    simp only [Bool.and_eq_true, decide_eq_true_eq] at h1
    rw [← h2]
    show (isTokB_br b).val = _
    unfold isTokB_br isTok
    rw [ixOf_nn _ _ h1.1 h1.2]
    unfold hasB tokSet
    cases isLow b <;> cases isUp b <;> cases isDig b <;> cases decide (b = 96) <;> simp only [Br.val, Bool.true_or, Bool.false_or]
  · cases h

theorem set_at {l r : List Int} {i a : Int} (h : At l i (a :: r)) (b : Int) : At (l.set i.toNat b) i (b :: r) := by
  obtain ⟨p, rfl, rfl⟩ := h; exact ⟨p, by simp, rfl⟩
theorem set_self {l r : List Int} {i a : Int} (h : At l i (a :: r)) : l.set i.toNat a = l := by
  obtain ⟨p, rfl, rfl⟩ := h; simp
theorem ifold_loop (m : Int) (k : List Int → Option Rs) : ∀ (r l : List Int) (i : Int) (n : Nat), At l i r → r.length < n → m = (l.length : Int) → l.length ≤ 4611686018427387904 → (∀ b ∈ r, 0 ≤ b ∧ b < 256) →
    ifold_F3 n m i l k = k (l.take i.toNat ++ r.map lowI) := by
  intro r; induction r with
  | nil =>
    intro l i n h hn hm hl hb; obtain ⟨n, rfl⟩ := fuel hn
    subst hm
    unfold ifold_F3 ifold_T3; simp only [h.dge, cond_false, List.map_nil]
    congr 1; exact h.take.symm
  | cons a r ih =>
    intro l i n h hn hm hl hb; obtain ⟨n, rfl⟩ := fuel hn
    subst hm
    have ha := hb a (List.mem_cons_self ..)
    unfold ifold_F3 ifold_T3; simp only [h.dlt, h.dnn, h.get, cond_true, h.next hl, List.map_cons]
    have key : ∀ b, ifold_F3 n (l.length : Int) (i + 1) (l.set i.toNat b) k = k (l.take i.toNat ++ b :: r.map lowI) := by
      intro b
      have h' := set_at h b
      rw [ih _ (i + 1) n h'.step (by simp at hn; omega) (by simp) (by simpa using hl) (fun c hc => hb c (List.mem_cons_of_mem _ hc))]
      congr 1
      obtain ⟨p, rfl, rfl⟩ := h
      have e : ((p.length : Int) + 1).toNat = p.length + 1 := by omega
      simp only [Int.toNat_natCast, set_mid, e]
      rw [List.take_append, List.take_append]
      simp [List.take_of_length_le]
    unfold lowI
    cases hu : isUp a
    · simp only [cond_false]
      have := key a
      rw [set_self h] at this
      rw [this]; rfl
    · simp only [cond_true]
      unfold isUp at hu
      simp only [Bool.and_eq_true, decide_eq_true_eq] at hu
      rw [w8 (by omega) (by omega), key]; rfl
theorem bytesOf_len (s : Bytes) : (bytesOf s).length = s.length := by simp [bytesOf]
theorem bytesOf_in (s : Bytes) : ∀ b ∈ bytesOf s, 0 ≤ b ∧ b < 256 := by
  intro b hb
  simp only [bytesOf, List.mem_map] at hb
  obtain ⟨c, _, rfl⟩ := hb
  exact ⟨by omega, by have := c.toNat_lt; omega⟩
theorem foldP_len (s : Bytes) : (foldP s).length = s.length := by simp [foldP, ofBytes, bytesOf]
def t1_s (p : Bytes → AV) : List AV → List Ob → Br
  | [.str s], [] => .ite (isM s) (.ret (p s) []) .fail
  | _, _ => .fail
theorem of_t1 {n : Nat} {s : List AV → List Ob → Br} (hs : Sound Kx n s) {p : Bytes → AV} (h : ∀ x, isM x = true → (s [.str x] []).val = some (p x, [])) : Sound Kx n (t1_s p) := hs.of fun args objs r hv => by
  unfold t1_s at hv
  split at hv
  · obtain ⟨h1, h2⟩ := ite_some hv
    rw [h _ h1]; exact h2
  · cases hv
theorem of_u1 {n : Nat} {p : Bytes → AV} {sOf : (Bytes → Br) → List AV → List Ob → Br} (hs : Sound Kx n (sOf fun s => .ite (isM s) (.ret (p s) []) .fail)) (he : ∀ f x, sOf f [.str x] [] = f x) : Sound Kx n (t1_s p) :=
  of_t1 hs fun x hx => by rw [he]; simp only [Br.val, hx]
theorem ifold_okQ : Sound Kx 118 (t1_s fun s => .str (foldP s)) := by
  refine of_u1 (ifold_okOf (fun s => s.length + 1) fun s r h => ?_) fun _ _ => rfl
  obtain ⟨h1, h2⟩ := ite_some h
  unfold ifold_run
  rw [ifold_loop _ _ _ _ 0 _ (At.start _) (by rw [bytesOf_len]; omega) rfl (by rw [bytesOf_len]; exact isM_le h1) (bytesOf_in s), ← h2]
  rfl
theorem cut1 (a : UInt8) (r : Bytes) : cut (a :: r) 1 (((a :: r).length : Nat) : Int) = r := by simp [cut]
theorem itrim1_loop (k : Bytes → Option Rs) : ∀ (s : Bytes) (n : Nat), s.length < n → itrim_F1 n s k = k (trimL s) := by
  intro s; induction s with
  | nil => intro n hn; obtain ⟨n, rfl⟩ := fuel hn; unfold itrim_F1 itrim_T1; rfl
  | cons a r ih =>
    intro n hn; obtain ⟨n, rfl⟩ := fuel hn
    have e1 : decide (a :: r = ([] : Bytes)) = false := rfl
    have e2 : decide ((0 : Int) < (((a :: r).length : Nat) : Int)) = true := decide_eq_true (by simp only [List.length_cons]; omega)
    have e3 : decide ((1 : Int) ≤ (((a :: r).length : Nat) : Int)) = true := decide_eq_true (by simp only [List.length_cons]; omega)
    have e4 : strAt (a :: r) 0 = by8 a := rfl
    unfold itrim_F1 itrim_T1
    simp only [e1, e2, e3, e4, Bool.not_false, cond_true, cut1]
    rw [ih n (by simp at hn; omega)]
    unfold trimL
    rw [List.dropWhile_cons]
    show (bif sp8 a then _ else _) = _
    cases sp8 a <;> rfl
theorem itrim3_loop (k : Bytes → Option Rs) : ∀ (q : Bytes) (n : Nat), q.length < n → q.length ≤ 4611686018427387904 → itrim_F3 n q.reverse k = k (trimR q.reverse) := by
  intro q; induction q with
  | nil => intro n hn _; obtain ⟨n, rfl⟩ := fuel hn; unfold itrim_F3 itrim_T3; rfl
  | cons a q ih =>
    intro n hn hl; obtain ⟨n, rfl⟩ := fuel hn
    have e1 : decide ((a :: q).reverse = ([] : Bytes)) = false := decide_eq_false (by simp)
    have e0 : wk64 ((((a :: q).reverse.length : Nat) : Int) - 1) = (q.length : Int) := by rw [w64 (by simp only [List.length_reverse, List.length_cons]; omega) (by simp only [List.length_reverse, List.length_cons] at hl ⊢; omega)]; simp
    have e2 : decide ((0 : Int) ≤ (q.length : Int)) = true := by simp
    have e3 : decide ((q.length : Int) < (((a :: q).reverse.length : Nat) : Int)) = true := decide_eq_true (by simp only [List.length_reverse, List.length_cons]; omega)
    have e5 : decide ((q.length : Int) ≤ (((a :: q).reverse.length : Nat) : Int)) = true := decide_eq_true (by simp only [List.length_reverse, List.length_cons]; omega)
    have e4 : strAt (a :: q).reverse (q.length : Int) = by8 a := by simp [strAt, by8, List.getD_eq_getElem?_getD]
    have e6 : cut (a :: q).reverse 0 (q.length : Int) = q.reverse := by simp [cut]
    unfold itrim_F3 itrim_T3
    simp only [e0, e1, e2, e3, e4, e5, e6, Bool.not_false, cond_true]
    rw [ih n (by simp at hn; omega) (by simp at hl; omega)]
    unfold trimR
    rw [List.reverse_reverse, List.reverse_reverse, List.dropWhile_cons]
    show (bif sp8 a then _ else _) = _
    cases sp8 a <;> simp
theorem trimL_len (s : Bytes) : (trimL s).length ≤ s.length := List.Sublist.length_le (List.dropWhile_sublist _)
theorem itrim_okQ : Sound Kx 180 (t1_s fun s => .str (trimP s)) := by
  refine of_u1 (itrim_okOf (fun s => s.length + 1) fun s r h => ?_) fun _ _ => rfl
  obtain ⟨h1, h2⟩ := ite_some h
  unfold itrim_run
  have hl := trimL_len s
  have := isM_le h1
  rw [itrim1_loop _ s _ (by omega)]
  have := itrim3_loop (fun x3x0x0 => some (AV.str x3x0x0, ([] : List Ob))) (trimL s).reverse (s.length + 1) (by simp; omega) (by simp; omega)
  rw [List.reverse_reverse] at this
  rw [this, ← h2]
  rfl
theorem cut_mid (p m t : Bytes) : cut (p ++ m ++ t) (p.length : Int) ((p.length : Int) + m.length) = m := by
  unfold cut
  have e1 : ((p.length : Int) + (m.length : Int)).toNat = p.length + m.length := by omega
  rw [e1, Int.toNat_natCast, List.append_assoc, List.take_append, List.drop_append]
  simp
theorem allVis_loop (l : Bytes) (hl : l.length ≤ 4611686018427387904) (k0 k1 : Option Rs) : ∀ (r : Bytes) (i : Int) (n : Nat), At l i r → r.length < n → allVis_F2 n l i k0 k1 = bif allP isVis r then k1 else k0 := by
  intro r; induction r with
  | nil => intro i n h hn; obtain ⟨n, rfl⟩ := fuel hn; unfold allVis_F2 allVis_T2; simp only [h.dge, cond_false, allP, List.all_nil, cond_true]
  | cons a r ih =>
    intro i n h hn; obtain ⟨n, rfl⟩ := fuel hn
    have hs := ih (i + 1) n h.step (by simp at hn; omega)
    unfold allVis_F2 allVis_T2; simp only [h.dlt, h.dnn, h.str, cond_true, h.next hl, hs, allP, List.all_cons]
    cases isVis (by8 a) <;> rfl
def allVis_s := allVis_sOf fun s => .ite (isM s) (.ret (.bool (allP isVis s)) []) .fail
theorem allVis_okQ : Sound Kx 74 allVis_s := by
  refine allVis_okOf (fun s => s.length + 1) fun s r h => ?_
  obtain ⟨h1, h2⟩ := ite_some h
  unfold allVis_run
  rw [allVis_loop s (isM_le h1) _ _ s 0 _ (At.start s) (by omega), ← h2]
  cases allP isVis s <;> rfl

theorem allPl_loop (l : Bytes) (hl : l.length ≤ 4611686018427387904) (k0 k1 : Option Rs) : ∀ (r : Bytes) (i : Int) (n : Nat), At l i r → r.length < n → allPl_F2 n l i k0 k1 = bif allP isPl r then k1 else k0 := by
  intro r; induction r with
  | nil => intro i n h hn; obtain ⟨n, rfl⟩ := fuel hn; unfold allPl_F2 allPl_T2; simp only [h.dge, cond_false, allP, List.all_nil, cond_true]
  | cons a r ih =>
    intro i n h hn; obtain ⟨n, rfl⟩ := fuel hn
    have hs := ih (i + 1) n h.step (by simp at hn; omega)
    unfold allPl_F2 allPl_T2; simp only [h.dlt, h.dnn, h.str, cond_true, h.next hl, hs, allP, List.all_cons]
    cases isPl (by8 a) <;> rfl
def allPl_s := allPl_sOf fun s => .ite (isM s) (.ret (.bool (allP isPl s)) []) .fail
theorem allPl_okQ : Sound Kx 74 allPl_s := by
  refine allPl_okOf (fun s => s.length + 1) fun s r h => ?_
  obtain ⟨h1, h2⟩ := ite_some h
  unfold allPl_run
  rw [allPl_loop s (isM_le h1) _ _ s 0 _ (At.start s) (by omega), ← h2]
  cases allP isPl s <;> rfl


def allTok_O : Opt := { live := [(2, [0, 1, 5])], outs := [(2, [4])] }
def allTok_C : SC := [⟨259, _, isTokB_okQ⟩]
def allTok_T2 (v2x0 : Bytes) (v2x1 : Int) (kR2 : Bytes → Int → Option Rs) (k2e0 k2e1 : Option Rs) : Option Rs :=
  (bif (decide (v2x1 < (v2x0.length : Int))) then (bif (decide (0 ≤ v2x1)) then (bif (decide (v2x1 < (v2x0.length : Int))) then (bif ((decide (0 ≤ (strAt v2x0 v2x1))) && (decide ((strAt v2x0 v2x1) < 256))) then (bif (!(isTok (strAt v2x0 v2x1))) then k2e0 else (kR2 v2x0 (wk64 (v2x1 + 1)))) else (none)) else (none)) else (none)) else k2e1)
def allTok_F2 : Nat → Bytes → Int → (Option Rs) → (Option Rs) → Option Rs
  | 0, _, _, _, _ => none
  | n + 1, v2x0, v2x1, k2e0, k2e1 => allTok_T2 v2x0 v2x1 (fun v2x0 v2x1 => allTok_F2 n v2x0 v2x1 k2e0 k2e1) k2e0 k2e1
abbrev allTok_p2 : SP := ⟨18, [0, 1, 5], [(.v .s), (.v (.fn 259 [])), (.v (.i .i64))], []⟩
noncomputable def allTok_b2 : Code := codeAt (codeOf Tryz.f74) [1, 0, 1, 0, 0]
def allTok_E2 (f : (Option Rs) → (Option Rs) → Option Rs) (k : KT) : Option Rs := f (k Ex.ret ((St.mk (slots 0 18 [(4, (AV.bool false))]) ([] : (List (Nat × (Ob))))))) (k (Ex.exit 0) ((St.mk (slots 0 18 []) ([] : (List (Nat × (Ob)))))))
def allTok_G2 (n : Nat) (d : allTok_p2.D) : KT → Option Rs := allTok_E2 (allTok_F2 n d.1.1 d.1.2.2.1)
def allTok_L (N : Nat) : Lam := lamOf [⟨2, allTok_p2, allTok_G2 N⟩]
theorem allTok_ok2 (N : Nat) : OkL Kx allTok_C.s allTok_O 0 N (allTok_L N) allTok_b2 := okL allTok_p2 (allTok_G2) (fun d kR => allTok_E2 (allTok_T2 d.1.1 d.1.2.2.1 (fun v2x0 v2x1 => kR ((v2x0, (), v2x1, ()), ())))) (fun _ _ => by kernel_rfl) (fun _ _ _ => by kernel_rfl) (fun _ _ => by kernel_rfl) (fun _ _ _ _ => by kernel_rfl) (okEach (l' := []) (by kernel_rfl) trivial)
def allTok_run (N : Nat) (s : Bytes) : Option Rs := (allTok_F2 N s 0 (some ((AV.bool false), [])) (some ((AV.bool true), [])))
def allTok_sOf (φ : Bytes → Br) : List AV → List Ob → Br
  | [.str s, .fn 259 []], [] => φ s
  | _, _ => .fail
theorem allTok_okOf {φ : Bytes → Br} (fu : Bytes → Nat) (hv : ∀ s res_, (φ s).val = some res_ → allTok_run (fu s) s = some res_) : Sound Kx 74 (allTok_sOf φ) := sound_lp (C := allTok_C) (O := allTok_O) Tryz.func74 (by kernel_rfl) fun args objs => by
  unfold allTok_sOf; split
  · rename_i s; exact .inr fun _ hyp_ => run_lp (Λ := allTok_L (fu s)) (by kernel_rfl) (okEach (l' := [allTok_b2]) (by kernel_rfl) ⟨allTok_ok2 _, trivial⟩) (by kernel_rfl) (hv s _ hyp_)
  · exact .inl rfl

def isame_C : SC := [⟨118, _, ifold_okQ⟩]
def isame_br (s t : Bytes) : Br := (Br.ite (isM s) (Br.ite (isM t) (Br.ret (AV.bool (decide ((foldP s) = (foldP t)))) []) Br.fail) Br.fail)
def isame_s : List AV → List Ob → Br
  | [.str s, .str t], [] => isame_br s t
  | _, _ => .fail
theorem isame_ok : Sound Kx 124 isame_s := sound_br (C := isame_C) (O := O0) Tryz.func124 (by kernel_rfl) fun args objs => by
  unfold isame_s; split
  · exact .inr (by kernel_rfl)
  · exact .inl rfl

def isReason_C : SC := [⟨74, _, allPl_okQ⟩]
def isReason_br (s : Bytes) : Br := (Br.ite (decide ((s.length : Int) ≤ 40)) (Br.ite (isM s) (Br.ret (AV.bool (allP isPl s)) []) Br.fail) (Br.ret (AV.bool false) []))
def isReason_s : List AV → List Ob → Br
  | [.str s], [] => isReason_br s
  | _, _ => .fail
theorem isReason_ok : Sound Kx 175 isReason_s := sound_br (C := isReason_C) (O := O0) Tryz.func175 (by kernel_rfl) fun args objs => by
  unfold isReason_s; split
  · exact .inr (by kernel_rfl)
  · exact .inl rfl

def isTarget_C : SC := [⟨201, _, iwithin_ok⟩, ⟨74, _, allVis_okQ⟩]
def isTarget_br (s : Bytes) : Br := (Br.ite (decide (1 ≤ (s.length : Int))) (Br.ite (decide ((s.length : Int) ≤ 200)) (Br.ite (isM s) (Br.ret (AV.bool (allP isVis s)) []) Br.fail) (Br.ret (AV.bool false) [])) (Br.ret (AV.bool false) []))
def isTarget_s : List AV → List Ob → Br
  | [.str s], [] => isTarget_br s
  | _, _ => .fail
theorem isTarget_ok : Sound Kx 173 isTarget_s := sound_br (C := isTarget_C) (O := O0) Tryz.func173 (by kernel_rfl) fun args objs => by
  unfold isTarget_s; split
  · exact .inr (by kernel_rfl)
  · exact .inl rfl


theorem allTok_loop (l : Bytes) (hl : l.length ≤ 4611686018427387904) (k0 k1 : Option Rs) : ∀ (r : Bytes) (i : Int) (n : Nat), At l i r → r.length < n → allTok_F2 n l i k0 k1 = bif allP isTok r then k1 else k0 := by
  intro r; induction r with
  | nil => intro i n h hn; obtain ⟨n, rfl⟩ := fuel hn; unfold allTok_F2 allTok_T2; simp only [h.dge, cond_false, allP, List.all_nil, cond_true]
  | cons a r ih =>
    intro i n h hn; obtain ⟨n, rfl⟩ := fuel hn
    have hs := ih (i + 1) n h.step (by simp at hn; omega)
    have e0 : (decide (0 ≤ by8 a) && decide (by8 a < 256)) = true := by simp only [Bool.and_eq_true, decide_eq_true_eq]; exact ⟨by8_nn a, by8_lt a⟩
    unfold allTok_F2 allTok_T2; simp only [h.dlt, h.dnn, h.str, cond_true, h.next hl, hs, allP, List.all_cons, e0]
    cases isTok (by8 a) <;> rfl
def allTok_s := allTok_sOf fun s => .ite (isM s) (.ret (.bool (allP isTok s)) []) .fail
theorem allTok_okQ : Sound Kx 74 allTok_s := by
  refine allTok_okOf (fun s => s.length + 1) fun s r h => ?_
  obtain ⟨h1, h2⟩ := ite_some h
  unfold allTok_run
  rw [allTok_loop s (isM_le h1) _ _ s 0 _ (At.start s) (by omega), ← h2]
  cases allP isTok s <;> rfl
def sameP (s t : Bytes) : Bool := decide (foldP s = foldP t)
def same_s : List AV → List Ob → Br
  | [.str s, .str t], [] => .ite (isM s && isM t) (.ret (.bool (sameP s t)) []) .fail
  | _, _ => .fail
theorem isame_okQ : Sound Kx 124 same_s := isame_ok.of fun args objs r h => by
  unfold same_s at h; split at h
  · rename_i s t
    obtain ⟨h1, h2⟩ := ite_some h
    rw [Bool.and_eq_true] at h1
    rw [← h2]
    show (isame_br s t).val = _
    unfold isame_br sameP
    simp only [Br.val, h1.1, h1.2]
  · cases h
def t0_s (p : Bytes → AV) : List AV → List Ob → Br
  | [.str s], [] => .ret (p s) []
  | _, _ => .fail
theorem of_t0 {n : Nat} {s : List AV → List Ob → Br} (hs : Sound Kx n s) {p : Bytes → AV} (h : ∀ x, (s [.str x] []).val = some (p x, [])) : Sound Kx n (t0_s p) := hs.of fun args objs r hv => by
  unfold t0_s at hv
  split at hv
  · rw [h]; exact hv
  · cases hv
theorem isM_of {s : Bytes} {n : Nat} (h : s.length ≤ n) (hn : n ≤ 4611686018427387904 := by decide) : isM s = true := decide_eq_true (Nat.le_trans h hn)
def reasonP (s : Bytes) : Bool := decide (s.length ≤ 40) && allP isPl s
def targetP (s : Bytes) : Bool := decide (1 ≤ s.length) && decide (s.length ≤ 200) && allP isVis s
theorem lenle (s : Bytes) (n : Nat) : decide ((s.length : Int) ≤ (n : Int)) = decide (s.length ≤ n) := by congr 1; apply propext; omega
theorem isReason_okQ : Sound Kx 175 (t0_s fun s => .bool (reasonP s)) := of_t0 isReason_ok fun s => by
  show (isReason_br s).val = _
  unfold isReason_br reasonP
  by_cases h : s.length ≤ 40
  · have h' : (s.length : Int) ≤ 40 := by omega
    simp only [Br.val, h, h', decide_true, isM_of h, Bool.true_and]
  · have h' : ¬ (s.length : Int) ≤ 40 := by omega
    simp only [Br.val, h, h', decide_false, Bool.false_and]
theorem isTarget_okQ : Sound Kx 173 (t0_s fun s => .bool (targetP s)) := of_t0 isTarget_ok fun s => by
  show (isTarget_br s).val = _
  unfold isTarget_br targetP
  by_cases h : 1 ≤ s.length
  · have h' : (1 : Int) ≤ (s.length : Int) := by omega
    by_cases g : s.length ≤ 200
    · have g' : (s.length : Int) ≤ 200 := by omega
      simp only [Br.val, h, h', g, g', decide_true, isM_of g, Bool.true_and]
    · have g' : ¬ (s.length : Int) ≤ 200 := by omega
      simp only [Br.val, h, h', g, g', decide_true, decide_false, Bool.true_and, Bool.false_and]
  · have h' : ¬ (1 : Int) ≤ (s.length : Int) := by omega
    simp only [Br.val, h, h', decide_false, Bool.false_and]


def iToken_C : SC := [⟨201, _, iwithin_ok⟩, ⟨74, _, allTok_okQ⟩]
def iToken_br (s : Bytes) : Br := (Br.ite (decide (1 ≤ (s.length : Int))) (Br.ite (decide ((s.length : Int) ≤ 4000)) (Br.ite (isM s) (Br.ret (AV.bool (allP isTok s)) []) Br.fail) (Br.ret (AV.bool false) [])) (Br.ret (AV.bool false) []))
def iToken_s : List AV → List Ob → Br
  | [.str s], [] => iToken_br s
  | _, _ => .fail
theorem iToken_ok : Sound Kx 220 iToken_s := sound_br (C := iToken_C) (O := O0) Tryz.func220 (by kernel_rfl) fun args objs => by
  unfold iToken_s; split
  · exact .inr (by kernel_rfl)
  · exact .inl rfl


theorem iToken_okQ : Sound Kx 220 (t0_s fun s => .bool (tokP s)) := of_t0 iToken_ok fun s => by
  show (iToken_br s).val = _
  unfold iToken_br tokP
  by_cases h : 1 ≤ s.length
  · have h' : (1 : Int) ≤ (s.length : Int) := by omega
    by_cases g : s.length ≤ 4000
    · have g' : (s.length : Int) ≤ 4000 := by omega
      simp only [Br.val, h, h', g, g', decide_true, isM_of g, Bool.true_and]
    · have g' : ¬ (s.length : Int) ≤ 4000 := by omega
      simp only [Br.val, h, h', g, g', decide_true, decide_false, Bool.true_and, Bool.false_and]
  · have h' : ¬ (1 : Int) ≤ (s.length : Int) := by omega
    simp only [Br.val, h, h', decide_false, Bool.false_and]

def isMethod_C : SC := [⟨220, _, iToken_okQ⟩]
def isMethod_br (s : Bytes) : Br := (Br.ite (tokP s) (Br.ret (AV.bool (decide ((s.length : Int) ≤ 20))) []) (Br.ret (AV.bool false) []))
def isMethod_s : List AV → List Ob → Br
  | [.str s], [] => isMethod_br s
  | _, _ => .fail
theorem isMethod_ok : Sound Kx 172 isMethod_s := sound_br (C := isMethod_C) (O := O0) Tryz.func172 (by kernel_rfl) fun args objs => by
  unfold isMethod_s; split
  · exact .inr (by kernel_rfl)
  · exact .inl rfl

def iFieldOk_O : Opt := { split := true }
def iFieldOk_C : SC := [⟨220, _, iToken_okQ⟩, ⟨74, _, allPl_okQ⟩, ⟨180, _, itrim_okQ⟩]
def iFieldOk_br (a b : Bytes) : Br := (Br.ite (tokP a) (Br.ite (decide ((a.length : Int) ≤ 40)) (Br.ite (decide ((b.length : Int) ≤ 190)) (Br.ite (isM b) (Br.ite (allP isPl b) (Br.ite (isM b) (Br.ite (decide ((trimP b) = b)) (Br.ret (AV.bool true) []) (Br.ret (AV.bool false) [])) Br.fail) (Br.ret (AV.bool false) [])) Br.fail) (Br.ret (AV.bool false) [])) (Br.ret (AV.bool false) [])) (Br.ret (AV.bool false) []))
def iFieldOk_s : List AV → List Ob → Br
  | [.agg [.str a, .str b]], [] => iFieldOk_br a b
  | _, _ => .fail
theorem iFieldOk_ok : Sound Kx 158 iFieldOk_s := sound_br (C := iFieldOk_C) (O := iFieldOk_O) Tryz.func158 (by kernel_rfl) fun args objs => by
  unfold iFieldOk_s; split
  · exact .inr (by kernel_rfl)
  · exact .inl rfl


abbrev Fd := Bytes × Bytes
def fdOk (f : Fd) : Bool := tokP f.1 && decide (f.1.length ≤ 40) && decide (f.2.length ≤ 190) && allP isPl f.2 && decide (trimP f.2 = f.2)
def fd_s (p : Fd → AV) : List AV → List Ob → Br
  | [.agg [.str a, .str b]], [] => .ret (p (a, b)) []
  | _, _ => .fail
theorem of_fd {n : Nat} {s : List AV → List Ob → Br} (hs : Sound Kx n s) {p : Fd → AV} (h : ∀ a b, (s [.agg [.str a, .str b]] []).val = some (p (a, b), [])) : Sound Kx n (fd_s p) := hs.of fun args objs r hv => by
  unfold fd_s at hv
  split at hv
  · rw [h]; exact hv
  · cases hv
theorem iFieldOk_okQ : Sound Kx 158 (fd_s fun f => .bool (fdOk f)) := of_fd iFieldOk_ok fun a b => by
  show (iFieldOk_br a b).val = _
  unfold iFieldOk_br fdOk
  have e1 : decide ((a.length : Int) ≤ 40) = decide (a.length ≤ 40) := lenle a 40
  have e2 : decide ((b.length : Int) ≤ 190) = decide (b.length ≤ 190) := lenle b 190
  simp only [e1, e2]
  by_cases h : b.length ≤ 190
  · simp only [h, isM_of h, decide_true, Bool.and_true]
    cases tokP a <;> cases decide (a.length ≤ 40) <;> cases allP isPl b <;> cases decide (trimP b = b) <;> rfl
  · simp only [h, decide_false]
    cases tokP a <;> cases decide (a.length ≤ 40) <;> rfl
def methodP (s : Bytes) : Bool := tokP s && decide (s.length ≤ 20)
theorem isMethod_okQ : Sound Kx 172 (t0_s fun s => .bool (methodP s)) := of_t0 isMethod_ok fun s => by
  show (isMethod_br s).val = _
  unfold isMethod_br methodP
  have e1 : decide ((s.length : Int) ≤ 20) = decide (s.length ≤ 20) := lenle s 20
  simp only [e1]
  exact v_and _ _

abbrev Mg := Bytes × Bytes × Int × Bytes × Bool × List Fd × Bytes
def reqP (me ta : Bytes) (st : Int) (re : Bytes) (ba : Bool) : Bool := methodP me && targetP ta && decide (st = 0) && decide (re = []) && !ba
def ansP (ta : Bytes) (st : Int) (re : Bytes) (ba : Bool) (bo : Bytes) : Bool := decide (ta = []) && isSta st && reasonP re && !(ba && !decide (bo = [])) && !(isBar st && !ba)
def mg_s (p : Mg → AV) : List AV → List Ob → Br
  | [.agg [.str me, .str ta, .int .i64 st, .str re, .bool ba, .sh (.pair .str .str) fs, .str bo]], [] => .ret (p (me, ta, st, re, ba, fs, bo)) []
  | _, _ => .fail

def iFieldsOk_O : Opt := { live := [(4, [8, 9, 10])], outs := [(4, [2])] }
def iFieldsOk_C : SC := [⟨158, _, iFieldOk_okQ⟩]
def iFieldsOk_T4 (v4x0 : (List Fd)) (v4x1 v4x2 : Int) (kR4 : (List Fd) → Int → Int → Option Rs) (k4e0 k4e1 : Option Rs) : Option Rs :=
  (bif (decide (v4x2 < v4x1)) then (bif (decide (0 ≤ v4x2)) then (bif (decide (v4x2 < (v4x0.length : Int))) then (bif (!(fdOk ((List.getD v4x0 (Int.toNat v4x2) (([] : Bytes), ([] : Bytes))).1, (List.getD v4x0 (Int.toNat v4x2) (([] : Bytes), ([] : Bytes))).2))) then k4e0 else (kR4 v4x0 v4x1 (wk64 (v4x2 + 1)))) else (none)) else (none)) else k4e1)
def iFieldsOk_F4 : Nat → (List Fd) → Int → Int → (Option Rs) → (Option Rs) → Option Rs
  | 0, _, _, _, _, _ => none
  | n + 1, v4x0, v4x1, v4x2, k4e0, k4e1 => iFieldsOk_T4 v4x0 v4x1 v4x2 (fun v4x0 v4x1 v4x2 => iFieldsOk_F4 n v4x0 v4x1 v4x2 k4e0 k4e1) k4e0 k4e1
abbrev iFieldsOk_p4 : SP := ⟨18, [8, 9, 10], [(.v (.sh (Ty.pair Ty.str Ty.str))), (.v (.i .i64)), (.v (.i .i64))], []⟩
noncomputable def iFieldsOk_b4 : Code := codeAt (codeOf Tryz.f84) [1, 1, 0, 1, 0, 0]
def iFieldsOk_E4 (f : (Option Rs) → (Option Rs) → Option Rs) (k : KT) : Option Rs := f (k Ex.ret ((St.mk (slots 0 18 [(2, (AV.bool false))]) ([] : (List (Nat × (Ob))))))) (k (Ex.exit 0) ((St.mk (slots 0 18 []) ([] : (List (Nat × (Ob)))))))
def iFieldsOk_G4 (n : Nat) (d : iFieldsOk_p4.D) : KT → Option Rs := iFieldsOk_E4 (iFieldsOk_F4 n d.1.1 d.1.2.1 d.1.2.2.1)
def iFieldsOk_L (N : Nat) : Lam := lamOf [⟨4, iFieldsOk_p4, iFieldsOk_G4 N⟩]
theorem iFieldsOk_ok4 (N : Nat) : OkL Kx iFieldsOk_C.s iFieldsOk_O 0 N (iFieldsOk_L N) iFieldsOk_b4 := okL iFieldsOk_p4 (iFieldsOk_G4) (fun d kR => iFieldsOk_E4 (iFieldsOk_T4 d.1.1 d.1.2.1 d.1.2.2.1 (fun v4x0 v4x1 v4x2 => kR ((v4x0, v4x1, v4x2, ()), ())))) (fun _ _ => by kernel_rfl) (fun _ _ _ => by kernel_rfl) (fun _ _ => by kernel_rfl) (fun _ _ _ _ => by kernel_rfl) (okEach (l' := []) (by kernel_rfl) trivial)
def iFieldsOk_run (N : Nat) (l : List Fd) : Option Rs := (bif (decide (20 < (l.length : Int))) then (some ((AV.bool false), [])) else (iFieldsOk_F4 N l (l.length : Int) 0 (some ((AV.bool false), [])) (some ((AV.bool true), []))))
def iFieldsOk_sOf (φ : (List Fd) → Br) : List AV → List Ob → Br
  | [.sh (.pair .str .str) l], [] => φ l
  | _, _ => .fail
theorem iFieldsOk_okOf {φ : (List Fd) → Br} (fu : (List Fd) → Nat) (hv : ∀ l res_, (φ l).val = some res_ → iFieldsOk_run (fu l) l = some res_) : Sound Kx 84 (iFieldsOk_sOf φ) := sound_lp (C := iFieldsOk_C) (O := iFieldsOk_O) Tryz.func84 (by kernel_rfl) fun args objs => by
  unfold iFieldsOk_sOf; split
  · rename_i l; exact .inr fun _ hyp_ => run_lp (Λ := iFieldsOk_L (fu l)) (by kernel_rfl) (okEach (l' := [iFieldsOk_b4]) (by kernel_rfl) ⟨iFieldsOk_ok4 _, trivial⟩) (by kernel_rfl) (hv l _ hyp_)
  · exact .inl rfl


def fdsOk (l : List Fd) : Bool := decide (l.length ≤ 20) && l.all fdOk
def fl_s (p : List Fd → AV) : List AV → List Ob → Br
  | [.sh (.pair .str .str) l], [] => .ret (p l) []
  | _, _ => .fail
theorem of_fl {n : Nat} {s : List AV → List Ob → Br} (hs : Sound Kx n s) {p : List Fd → AV} (h : ∀ l, (s [.sh (.pair .str .str) l] []).val = some (p l, [])) : Sound Kx n (fl_s p) := hs.of fun args objs r hv => by
  unfold fl_s at hv
  split at hv
  · rw [h]; exact hv
  · cases hv
theorem lengtI {α : Type} (l : List α) (n : Nat) : decide ((n : Int) < (l.length : Int)) = !decide (l.length ≤ n) := by by_cases h : l.length ≤ n <;> simp [h] <;> omega
theorem iFieldsOk_loop (l : List Fd) (hl : l.length ≤ 4611686018427387904) (k0 k1 : Option Rs) : ∀ (r : List Fd) (i : Int) (n : Nat), At l i r → r.length < n → iFieldsOk_F4 n l (l.length : Int) i k0 k1 = bif r.all fdOk then k1 else k0 := by
  intro r; induction r with
  | nil => intro i n h hn; obtain ⟨n, rfl⟩ := fuel hn; unfold iFieldsOk_F4 iFieldsOk_T4; simp only [h.dge, cond_false, List.all_nil, cond_true]
  | cons a r ih =>
    intro i n h hn; obtain ⟨n, rfl⟩ := fuel hn
    have hs := ih (i + 1) n h.step (by simp at hn; omega)
    unfold iFieldsOk_F4 iFieldsOk_T4; simp only [h.dlt, h.dnn, h.get, cond_true, h.next hl, hs, List.all_cons]
    cases fdOk a <;> rfl
theorem iFieldsOk_okQ : Sound Kx 84 (fl_s fun l => .bool (fdsOk l)) := by
  refine of_fl (iFieldsOk_okOf (φ := fun l => .ret (.bool (fdsOk l)) []) (fun l => l.length + 1) fun l r h => ?_) fun _ => rfl
  cases h
  unfold iFieldsOk_run fdsOk
  have e := lengtI l 20
  simp only [show ((20 : Nat) : Int) = 20 from rfl] at e
  rw [e]
  by_cases h : l.length ≤ 20
  · simp only [h, decide_true, Bool.not_true, cond_false, Bool.true_and]
    rw [iFieldsOk_loop l (by omega) _ _ l 0 _ (At.start l) (by omega)]
    cases l.all fdOk <;> rfl
  · simp only [h, decide_false, Bool.not_false, cond_true, Bool.false_and]
def fTextP (f : Fd) : Bytes := f.1 ++ 58 :: 32 :: f.2
theorem fdOk_len {f : Fd} (h : fdOk f = true) : f.1.length ≤ 40 ∧ f.2.length ≤ 190 := by
  unfold fdOk at h; simp only [Bool.and_eq_true, decide_eq_true_eq] at h; exact ⟨h.1.1.1.2, h.1.1.2⟩

def iValues_O : Opt := { live := [(5, [1, 5, 11, 12, 13])], outs := [(5, [4, 5])] }
def iValues_C : SC := [⟨84, _, iFieldsOk_okQ⟩, ⟨124, _, isame_okQ⟩]
def iValues_T5 (v5x0 : Bytes) (v5x1 : (List Fd)) (v5x2 v5x3 : Int) (v5x4 : (List Bytes)) (kR5 : Bytes → (List Fd) → Int → Int → (List Bytes) → Option Rs) (k5e0 : (List Bytes) → Option Rs) : Option Rs :=
  (bif (decide (v5x3 < v5x2)) then (bif (decide (0 ≤ v5x3)) then (bif (decide (v5x3 < (v5x1.length : Int))) then (bif ((isM (List.getD v5x1 (Int.toNat v5x3) (([] : Bytes), ([] : Bytes))).1) && (isM v5x0)) then (bif (sameP (List.getD v5x1 (Int.toNat v5x3) (([] : Bytes), ([] : Bytes))).1 v5x0) then (bif (decide (((v5x4.length + (List.length (List.set (List.replicate 1 ([] : Bytes)) 0 (List.getD v5x1 (Int.toNat v5x3) (([] : Bytes), ([] : Bytes))).2))) * 16) ≤ 140737488355328)) then (kR5 v5x0 v5x1 v5x2 (wk64 (v5x3 + 1)) (v5x4 ++ (List.set (List.replicate 1 ([] : Bytes)) 0 (List.getD v5x1 (Int.toNat v5x3) (([] : Bytes), ([] : Bytes))).2))) else (none)) else (kR5 v5x0 v5x1 v5x2 (wk64 (v5x3 + 1)) v5x4)) else (none)) else (none)) else (none)) else (k5e0 v5x4))
def iValues_F5 : Nat → Bytes → (List Fd) → Int → Int → (List Bytes) → ((List Bytes) → Option Rs) → Option Rs
  | 0, _, _, _, _, _, _ => none
  | n + 1, v5x0, v5x1, v5x2, v5x3, v5x4, k5e0 => iValues_T5 v5x0 v5x1 v5x2 v5x3 v5x4 (fun v5x0 v5x1 v5x2 v5x3 v5x4 => iValues_F5 n v5x0 v5x1 v5x2 v5x3 v5x4 k5e0) k5e0
abbrev iValues_p5 : SP := ⟨28, [1, 5, 11, 12, 13], [(.v .s), (.v (.ref 384 0)), (.v (.sh (Ty.pair Ty.str Ty.str))), (.v (.i .i64)), (.v (.i .i64))], [(384, .arr Ty.str 0 false)]⟩
noncomputable def iValues_b5 : Code := codeAt (codeOf Tryz.f47) [1, 1, 1, 0, 1, 0, 0]
def iValues_E5 (f : ((List Bytes) → Option Rs) → Option Rs) (k : KT) : Option Rs := f (fun x5x0x0 => k (Ex.exit 0) ((St.mk (slots 0 28 [(5, (AV.ref 384 0))]) ((384, (Ob.arr Ty.str 0 false x5x0x0)) :: ([] : (List (Nat × (Ob))))))))
def iValues_G5 (n : Nat) (d : iValues_p5.D) : KT → Option Rs := iValues_E5 (iValues_F5 n d.1.1 d.1.2.2.1 d.1.2.2.2.1 d.1.2.2.2.2.1 d.2.1)
def iValues_L (N : Nat) : Lam := lamOf [⟨5, iValues_p5, iValues_G5 N⟩]
theorem iValues_ok5 (N : Nat) : OkL Kx iValues_C.s iValues_O 0 N (iValues_L N) iValues_b5 := okL iValues_p5 (iValues_G5) (fun d kR => iValues_E5 (iValues_T5 d.1.1 d.1.2.2.1 d.1.2.2.2.1 d.1.2.2.2.2.1 d.2.1 (fun v5x0 v5x1 v5x2 v5x3 v5x4 => kR ((v5x0, (), v5x1, v5x2, v5x3, ()), (v5x4, ()))))) (fun _ _ => by kernel_rfl) (fun _ _ _ => by kernel_rfl) (fun _ _ => by kernel_rfl) (fun _ _ _ _ => by kernel_rfl) (okEach (l' := []) (by kernel_rfl) trivial)
def iValues_run (N : Nat) (l : List Fd) (name : Bytes) : Option Rs := (bif (!(fdsOk l)) then (some ((AV.ref 0 0), ((Ob.arr Ty.str 0 false ([] : (List Bytes))) :: []))) else (iValues_F5 N name l (l.length : Int) 0 ([] : (List Bytes)) (fun x5x0x0 => (some ((AV.ref 0 0), ((Ob.arr Ty.str 0 false x5x0x0) :: []))))))
def iValues_sOf (φ : (List Fd) → Bytes → Br) : List AV → List Ob → Br
  | [.sh (.pair .str .str) l, .str name], [] => φ l name
  | _, _ => .fail
theorem iValues_okOf {φ : (List Fd) → Bytes → Br} (fu : (List Fd) → Bytes → Nat) (hv : ∀ l name res_, (φ l name).val = some res_ → iValues_run (fu l name) l name = some res_) : Sound Kx 47 (iValues_sOf φ) := sound_lp (C := iValues_C) (O := iValues_O) Tryz.func47 (by kernel_rfl) fun args objs => by
  unfold iValues_sOf; split
  · rename_i l name; exact .inr fun _ hyp_ => run_lp (Λ := iValues_L (fu l name)) (by kernel_rfl) (okEach (l' := [iValues_b5]) (by kernel_rfl) ⟨iValues_ok5 _, trivial⟩) (by kernel_rfl) (hv l name _ hyp_)
  · exact .inl rfl


theorem one_set {α : Type} (d x : α) : List.set (List.replicate 1 d) 0 x = [x] := rfl
def valsR (l : List Fd) (name : Bytes) : List Bytes := (l.filter fun f => sameP f.1 name).map (·.2)
def vals (l : List Fd) (name : Bytes) : List Bytes := bif fdsOk l then valsR l name else []
theorem fdsOk_mem {l : List Fd} (h : fdsOk l = true) : l.length ≤ 20 ∧ ∀ f ∈ l, fdOk f = true := by
  unfold fdsOk at h; rw [Bool.and_eq_true, decide_eq_true_eq, List.all_eq_true] at h; exact h
theorem fdOk_isM {f : Fd} (h : fdOk f = true) : isM f.1 = true ∧ isM f.2 = true := ⟨isM_of (fdOk_len h).1, isM_of (fdOk_len h).2⟩
theorem iValues_loop (name : Bytes) (hm : isM name = true) (l : List Fd) (hl : l.length ≤ 20) (k : List Bytes → Option Rs) : ∀ (r : List Fd) (i : Int) (n : Nat) (out : List Bytes), At l i r → r.length < n → (∀ f ∈ r, fdOk f = true) → out.length + r.length ≤ 20 →
    iValues_F5 n name l (l.length : Int) i out k = k (out ++ valsR r name) := by
  intro r; induction r with
  | nil => intro i n out h hn hf ho; obtain ⟨n, rfl⟩ := fuel hn; unfold iValues_F5 iValues_T5; simp only [h.dge, cond_false]; simp [valsR]
  | cons a r ih =>
    intro i n out h hn hf ho; obtain ⟨n, rfl⟩ := fuel hn
    have ha := fdOk_isM (hf a (List.mem_cons_self ..))
    have hr := fun f h => hf f (List.mem_cons_of_mem _ h)
    simp only [List.length_cons] at ho hn
    have e0 : decide ((out.length + [a.2].length) * 16 ≤ 140737488355328) = true := decide_eq_true (by simp only [List.length_singleton]; omega)
    unfold iValues_F5 iValues_T5; simp only [h.dlt, h.dnn, h.get, cond_true, h.next (by omega), ha.1, hm, Bool.and_self, one_set, e0]
    cases hs : sameP a.1 name
    · rw [cond_false, ih (i + 1) n out h.step (by omega) hr (by omega)]; simp [valsR, hs]
    · rw [cond_true, ih (i + 1) n (out ++ [a.2]) h.step (by omega) hr (by simp; omega)]; simp [valsR, hs]
def val_s : List AV → List Ob → Br
  | [.sh (.pair .str .str) l, .str name], [] => .ite (isM name) (.ret (.ref 0 0) [.arr .str 0 false (vals l name)]) .fail
  | _, _ => .fail
theorem iValues_okQ : Sound Kx 47 val_s := by
  refine (iValues_okOf (φ := fun l name => .ite (isM name) (.ret (.ref 0 0) [.arr .str 0 false (vals l name)]) .fail) (fun l _ => l.length + 1) fun l name r h => ?_).of fun args objs r h => ?_
  · obtain ⟨h1, h2⟩ := ite_some h
    cases h2
    unfold iValues_run vals
    cases hf : fdsOk l
    · rfl
    · obtain ⟨g1, g2⟩ := fdsOk_mem hf
      simp only [Bool.not_true, cond_false, cond_true]
      rw [iValues_loop name h1 l g1 _ l 0 _ [] (At.start l) (by omega) g2 (by simpa using g1)]
      rfl
  · unfold val_s at h; split at h
    · exact h
    · cases h
def frC : Bytes := [99, 111, 110, 116, 101, 110, 116, 45, 108, 101, 110, 103, 116, 104]
def frT : Bytes := [116, 114, 97, 110, 115, 102, 101, 114, 45, 101, 110, 99, 111, 100, 105, 110, 103]
def frR : Bytes := [116, 114, 97, 105, 108, 101, 114]

def iAdd_C : SC := [⟨180, _, itrim_okQ⟩]
def iAdd_br (el : Bytes) (out : List Bytes) : Br := (Br.ite (isM el) (Br.ite (!(decide ((trimP el) = ([] : Bytes)))) (Br.ite (decide (((out.length + (List.length (List.set (List.replicate 1 ([] : Bytes)) 0 (trimP el)))) * 16) ≤ 140737488355328)) (Br.ret (AV.tup []) ((Ob.var ((AV.ref 1 1) :: [])) :: ((Ob.arr Ty.str 1 false (out ++ (List.set (List.replicate 1 ([] : Bytes)) 0 (trimP el)))) :: []))) Br.fail) (Br.ret (AV.tup []) ((Ob.var ((AV.ref 1 0) :: [])) :: ((Ob.arr Ty.str 0 false out) :: [])))) Br.fail)
def iAdd_s : List AV → List Ob → Br
  | [.str el, .ptr 0 0], [.var [.ref 1 0], .arr .str 0 false out] => iAdd_br el out
  | _, _ => .fail
theorem iAdd_ok : Sound Kx 222 iAdd_s := sound_br (C := iAdd_C) (O := O0) Tryz.func222 (by kernel_rfl) fun args objs => by
  unfold iAdd_s; split
  · exact .inr (by kernel_rfl)
  · exact .inl rfl

def iAddN_C : SC := [⟨180, _, itrim_okQ⟩]
def iAddN_br (el : Bytes) : Br := (Br.ite (isM el) (Br.ite (!(decide ((trimP el) = ([] : Bytes)))) (Br.ite (decide (((List.length (List.set (List.replicate 1 ([] : Bytes)) 0 (trimP el))) * 16) ≤ 140737488355328)) (Br.ret (AV.tup []) ((Ob.var ((AV.ref 1 0) :: [])) :: ((Ob.arr Ty.str 0 false (List.set (List.replicate 1 ([] : Bytes)) 0 (trimP el))) :: []))) Br.fail) (Br.ret (AV.tup []) ((Ob.var ((AV.nil Ty.str) :: [])) :: []))) Br.fail)
def iAddN_s : List AV → List Ob → Br
  | [.str el, .ptr 0 0], [.var [.nil .str]] => iAddN_br el
  | _, _ => .fail
theorem iAddN_ok : Sound Kx 222 iAddN_s := sound_br (C := iAddN_C) (O := O0) Tryz.func222 (by kernel_rfl) fun args objs => by
  unfold iAddN_s; split
  · exact .inr (by kernel_rfl)
  · exact .inl rfl


def add_s : List AV → List Ob → Br
  | [.str el, .ptr 0 0], [.var [.ref 1 0], .arr .str 0 false out] => .ite (isM el && decide (out.length ≤ 100000)) (.ite (decide (trimP el = [])) (.ret (.tup []) [.var [.ref 1 0], .arr .str 0 false out]) (.ret (.tup []) [.var [.ref 1 1], .arr .str 1 false (out ++ [trimP el])])) .fail
  | [.str el, .ptr 0 0], [.var [.nil .str]] => .ite (isM el) (.ite (decide (trimP el = [])) (.ret (.tup []) [.var [.nil .str]]) (.ret (.tup []) [.var [.ref 1 0], .arr .str 0 false [trimP el]])) .fail
  | _, _ => .fail
theorem add_okQ : Sound Kx 222 add_s := by
  intro args objs res objs' hv
  unfold add_s at hv
  split at hv
  · rename_i el out
    refine iAdd_ok _ _ _ _ ?_
    show (iAdd_br el out).val = _
    obtain ⟨h1, h2⟩ := ite_some hv
    rw [Bool.and_eq_true, decide_eq_true_eq] at h1
    unfold iAdd_br
    refine (val_t h1.1).trans (Eq.trans ?_ h2)
    rw [one_set]
    cases c : decide (trimP el = [])
    · exact val_t (decide_eq_true (by simp only [List.length_singleton]; omega))
    · rfl
  · rename_i el
    refine iAddN_ok _ _ _ _ ?_
    show (iAddN_br el).val = _
    obtain ⟨h1, h2⟩ := ite_some hv
    unfold iAddN_br
    refine (val_t h1).trans (Eq.trans ?_ h2)
    rw [one_set]
    cases c : decide (trimP el = [])
    · rfl
    · rfl
  · cases hv

def iElements_O : Opt := { live := [(7, [0, 3, 4, 5, 6, 7])], outs := [(7, [0, 2, 3, 4, 5])] }
def iElements_C : SC := [⟨222, _, add_okQ⟩]
def iElements_T7 (v7x0 : Bytes) (v7x1 : Int) (v7x2 : Bool) (v7x3 : Int) (v7x4 : (List Bytes)) (kR7 : Bytes → Int → Bool → Int → (List Bytes) → Option Rs) (k7e0 : Bytes → Int → (List Bytes) → Option Rs) : Option Rs :=
  (bif (decide (v7x3 < (v7x0.length : Int))) then (bif (decide (0 ≤ v7x3)) then (bif (decide (v7x3 < (v7x0.length : Int))) then (bif (decide ((strAt v7x0 v7x3) = 34)) then (kR7 v7x0 v7x1 (!v7x2) (wk64 (v7x3 + 1)) v7x4) else (bif v7x2 then (bif (decide (0 ≤ v7x3)) then (bif (decide (v7x3 < (v7x0.length : Int))) then (bif (decide ((strAt v7x0 v7x3) = 92)) then (kR7 v7x0 v7x1 v7x2 (wk64 ((wk64 (v7x3 + 1)) + 1)) v7x4) else (bif (!v7x2) then (bif (decide (0 ≤ v7x3)) then (bif (decide (v7x3 < (v7x0.length : Int))) then (bif (decide ((strAt v7x0 v7x3) = 44)) then (bif (decide (0 ≤ v7x1)) then (bif (decide (v7x1 ≤ v7x3)) then (bif (decide (v7x3 ≤ (v7x0.length : Int))) then (bif ((isM (cut v7x0 v7x1 v7x3)) && (decide (v7x4.length ≤ 100000))) then (bif (decide ((trimP (cut v7x0 v7x1 v7x3)) = ([] : Bytes))) then (kR7 v7x0 (wk64 (v7x3 + 1)) v7x2 (wk64 (v7x3 + 1)) v7x4) else (kR7 v7x0 (wk64 (v7x3 + 1)) v7x2 (wk64 (v7x3 + 1)) (v7x4 ++ ((trimP (cut v7x0 v7x1 v7x3)) :: ([] : (List Bytes)))))) else (none)) else (none)) else (none)) else (none)) else (kR7 v7x0 v7x1 v7x2 (wk64 (v7x3 + 1)) v7x4)) else (none)) else (none)) else (kR7 v7x0 v7x1 v7x2 (wk64 (v7x3 + 1)) v7x4))) else (none)) else (none)) else (bif (!v7x2) then (bif (decide (0 ≤ v7x3)) then (bif (decide (v7x3 < (v7x0.length : Int))) then (bif (decide ((strAt v7x0 v7x3) = 44)) then (bif (decide (0 ≤ v7x1)) then (bif (decide (v7x1 ≤ v7x3)) then (bif (decide (v7x3 ≤ (v7x0.length : Int))) then (bif ((isM (cut v7x0 v7x1 v7x3)) && (decide (v7x4.length ≤ 100000))) then (bif (decide ((trimP (cut v7x0 v7x1 v7x3)) = ([] : Bytes))) then (kR7 v7x0 (wk64 (v7x3 + 1)) v7x2 (wk64 (v7x3 + 1)) v7x4) else (kR7 v7x0 (wk64 (v7x3 + 1)) v7x2 (wk64 (v7x3 + 1)) (v7x4 ++ ((trimP (cut v7x0 v7x1 v7x3)) :: ([] : (List Bytes)))))) else (none)) else (none)) else (none)) else (none)) else (kR7 v7x0 v7x1 v7x2 (wk64 (v7x3 + 1)) v7x4)) else (none)) else (none)) else (kR7 v7x0 v7x1 v7x2 (wk64 (v7x3 + 1)) v7x4)))) else (none)) else (none)) else (k7e0 v7x0 v7x1 v7x4))
def iElements_F7 : Nat → Bytes → Int → Bool → Int → (List Bytes) → (Bytes → Int → (List Bytes) → Option Rs) → Option Rs
  | 0, _, _, _, _, _, _ => none
  | n + 1, v7x0, v7x1, v7x2, v7x3, v7x4, k7e0 => iElements_T7 v7x0 v7x1 v7x2 v7x3 v7x4 (fun v7x0 v7x1 v7x2 v7x3 v7x4 => iElements_F7 n v7x0 v7x1 v7x2 v7x3 v7x4 k7e0) k7e0
abbrev iElements_p7 : SP := ⟨58, [0, 3, 4, 5, 6, 7], [(.v .s), (.v (.ptr 256 0)), (.v (.fn 222 [(256, 0)])), (.v (.i .i64)), (.v .b), (.v (.i .i64))], [(256, .var [(.ref 257 0)]), (257, .arr Ty.str 0 false)]⟩
noncomputable def iElements_b7 : Code := codeAt (codeOf Tryz.f160) [1, 1, 1, 1, 1, 0, 1, 0, 0]
def iElements_E7 (f : (Bytes → Int → (List Bytes) → Option Rs) → Option Rs) (k : KT) : Option Rs := f (fun x7x0x0 x7x0x1 x7x0x2 => k (Ex.exit 0) ((St.mk (slots 0 58 [(0, (AV.str x7x0x0)), (3, (AV.ptr 256 0)), (4, (AV.fn 222 ((AV.ptr 256 0) :: []))), (5, (AV.int .i64 x7x0x1))]) ((256, (Ob.var ((AV.ref 257 0) :: []))) :: ((257, (Ob.arr Ty.str 0 false x7x0x2)) :: ([] : (List (Nat × (Ob)))))))))
def iElements_G7 (n : Nat) (d : iElements_p7.D) : KT → Option Rs := iElements_E7 (iElements_F7 n d.1.1 d.1.2.2.2.1 d.1.2.2.2.2.1 d.1.2.2.2.2.2.1 d.2.2.1)
def iElements_L (N : Nat) : Lam := lamOf [⟨7, iElements_p7, iElements_G7 N⟩]
theorem iElements_ok7 (N : Nat) : OkL Kx iElements_C.s iElements_O 0 N (iElements_L N) iElements_b7 := okL iElements_p7 (iElements_G7) (fun d kR => iElements_E7 (iElements_T7 d.1.1 d.1.2.2.2.1 d.1.2.2.2.2.1 d.1.2.2.2.2.2.1 d.2.2.1 (fun v7x0 v7x1 v7x2 v7x3 v7x4 => kR ((v7x0, (), (), v7x1, v7x2, v7x3, ()), (((), ()), v7x4, ()))))) (fun _ _ => by kernel_rfl) (fun _ _ _ => by kernel_rfl) (fun _ _ => by kernel_rfl) (fun _ _ _ _ => by kernel_rfl) (okEach (l' := []) (by kernel_rfl) trivial)
def iElements_run (N : Nat) (s : Bytes) : Option Rs := (bif (decide (4000 < (s.length : Int))) then (some ((AV.ref 0 0), ((Ob.arr Ty.str 0 false ([] : (List Bytes))) :: []))) else (iElements_F7 N s 0 false 0 ([] : (List Bytes)) (fun x7x0x0 => (fun x7x0x1 => (fun x7x0x2 => (bif (decide (0 ≤ x7x0x1)) then (bif (decide (x7x0x1 ≤ (x7x0x0.length : Int))) then (bif ((isM (cut x7x0x0 x7x0x1 (x7x0x0.length : Int))) && (decide (x7x0x2.length ≤ 100000))) then (bif (decide ((trimP (cut x7x0x0 x7x0x1 (x7x0x0.length : Int))) = ([] : Bytes))) then (some ((AV.ref 0 0), ((Ob.arr Ty.str 0 false x7x0x2) :: []))) else (some ((AV.ref 0 0), ((Ob.arr Ty.str 0 false (x7x0x2 ++ ((trimP (cut x7x0x0 x7x0x1 (x7x0x0.length : Int))) :: ([] : (List Bytes))))) :: [])))) else (none)) else (none)) else (none)))))))
def iElements_sOf (φ : Bytes → Br) : List AV → List Ob → Br
  | [.str s], [] => φ s
  | _, _ => .fail
theorem iElements_okOf {φ : Bytes → Br} (fu : Bytes → Nat) (hv : ∀ s res_, (φ s).val = some res_ → iElements_run (fu s) s = some res_) : Sound Kx 160 (iElements_sOf φ) := sound_lp (C := iElements_C) (O := iElements_O) Tryz.func160 (by kernel_rfl) fun args objs => by
  unfold iElements_sOf; split
  · rename_i s; exact .inr fun _ hyp_ => run_lp (Λ := iElements_L (fu s)) (by kernel_rfl) (okEach (l' := [iElements_b7]) (by kernel_rfl) ⟨iElements_ok7 _, trivial⟩) (by kernel_rfl) (hv s _ hyp_)
  · exact .inl rfl


def partE : Bytes → Bool → Bytes → List Bytes
  | cur, _, [] => [cur]
  | cur, q, c :: r =>
    bif decide (by8 c = 34) then partE (cur ++ [c]) (!q) r
    else bif q && decide (by8 c = 92) then (match r with | [] => [cur ++ [c]] | d :: r' => partE (cur ++ [c, d]) q r')
    else bif !q && decide (by8 c = 44) then cur :: partE [] q r
    else partE (cur ++ [c]) q r
theorem partE_cons (cur : Bytes) (q : Bool) (c : UInt8) (r : Bytes) : partE cur q (c :: r) = bif decide (by8 c = 34) then partE (cur ++ [c]) (!q) r
    else bif q && decide (by8 c = 92) then (match r with | [] => [cur ++ [c]] | d :: r' => partE (cur ++ [c, d]) q r')
    else bif !q && decide (by8 c = 44) then cur :: partE [] q r
    else partE (cur ++ [c]) q r := by cases r <;> rfl
theorem partE_nil (cur : Bytes) (q : Bool) : partE cur q [] = [cur] := rfl
def keepE : List Bytes → List Bytes
  | [] => []
  | x :: r => bif decide (trimP x = []) then keepE r else trimP x :: keepE r
def elemP (s : Bytes) : List Bytes := bif decide (4000 < (s.length : Int)) then [] else keepE (partE [] false s)
theorem keep_cons (x : Bytes) (r : List Bytes) : keepE (x :: r) = bif decide (trimP x = []) then keepE r else trimP x :: keepE r := rfl
theorem iElements_loop (s : Bytes) (hl : s.length ≤ 4000) (k : Bytes → Int → List Bytes → Option Rs) (K : List Bytes → Option Rs)
    (hk : ∀ (p cur : Bytes) (fr : Int) (out : List Bytes), s = p ++ cur → fr = (p.length : Int) → out.length ≤ p.length → k s fr out = K (out ++ keepE [cur])) : ∀ (n : Nat) (p cur r : Bytes) (q : Bool) (out : List Bytes) (i fr : Int), s = p ++ cur ++ r → i = ((p.length + cur.length : Nat) : Int) → fr = (p.length : Int) → r.length < n → out.length ≤ p.length →
    iElements_F7 n s fr q i out k = K (out ++ keepE (partE cur q r)) := by
  intro n; induction n with
  | zero => intro p cur r q out i fr hs hi hf hn; omega
  | succ n ih =>
    intro p cur r q out i fr hs hi hf hn ho
    have hat : At s i r := ⟨p ++ cur, hs, by rw [hi]; simp⟩
    have hlen : s.length = p.length + cur.length + r.length := by rw [hs]; simp; omega
    have hcut : cut s fr i = cur := by rw [hs, hi, hf, Int.natCast_add]; exact cut_mid p cur r
    have hnf : decide (0 ≤ fr) = true := decide_eq_true (by omega)
    have hfi : decide (fr ≤ i) = true := decide_eq_true (by omega)
    have hil : decide (i ≤ (s.length : Int)) = true := decide_eq_true (by omega)
    have hM : isM cur = true := isM_of (n := 4000) (by omega)
    have hw : wk64 (i + 1) = i + 1 := w64 (by omega) (by omega)
    have hap : decide (out.length ≤ 100000) = true := decide_eq_true (by omega)
    unfold iElements_F7 iElements_T7
    simp only [hcut, hnf, hfi, hil, hM, hw, hap, cond_true, hat.dnn, Bool.and_self]
    cases r with
    | nil =>
      simp only [hat.dge, cond_false, partE_nil]
      exact hk p cur fr out (by rw [hs]; simp) hf ho
    | cons c r =>
      simp only [List.length_cons] at hn hlen
      have hstep : ∀ q', iElements_F7 n s fr q' (i + 1) out k = K (out ++ keepE (partE (cur ++ [c]) q' r)) := fun q' =>
        ih p (cur ++ [c]) r q' out (i + 1) fr (by rw [hs]; simp) (by rw [hi]; simp; omega) hf (by omega) ho
      have hcom : ∀ q' o, o.length ≤ p.length + 1 → iElements_F7 n s (i + 1) q' (i + 1) o k = K (o ++ keepE (partE [] q' r)) := fun q' o ho' =>
        ih (p ++ cur ++ [c]) [] r q' o (i + 1) (i + 1) (by rw [hs]; simp) (by rw [hi]; simp; omega) (by rw [hi]; simp; omega) (by omega) (by simp; omega)
      have h0 := hcom q out (by omega)
      have h1 := hcom q (out ++ [trimP cur]) (by simp; omega)
      simp only [hat.dlt, hat.dnn, hat.str, cond_true, cond_false, h0, h1, hstep]
      rw [partE_cons]
      cases c1 : decide (by8 c = 34)
      · cases q
        · cases c3 : decide (by8 c = 44)
          · simp
          · simp only [Bool.not_false, Bool.false_and, Bool.true_and, cond_true, cond_false, keep_cons]
            cases decide (trimP cur = []) <;> simp
        · cases c2 : decide (by8 c = 92)
          · simp
          · simp only [Bool.not_true, Bool.true_and, cond_true, cond_false]
            have hw2 : wk64 (i + 1 + 1) = i + 1 + 1 := w64 (by omega) (by omega)
            cases r with
            | nil =>
              simp only [List.length_nil] at hn hlen
              obtain ⟨m, rfl⟩ : ∃ m, n = m + 1 := ⟨n - 1, by omega⟩
              have hx : decide (i + 1 + 1 < (s.length : Int)) = false := decide_eq_false (by omega)
              rw [hw2]
              unfold iElements_F7 iElements_T7
              simp only [hx, cond_false]
              exact hk p (cur ++ [c]) fr out (by rw [hs]; simp) hf ho
            | cons d r =>
              simp only [List.length_cons] at hn hlen
              rw [hw2]
              exact ih p (cur ++ [c, d]) r true out _ fr (by rw [hs]; simp) (by rw [hi]; simp; omega) hf (by omega) ho
      · have c3 : decide (by8 c = 44) = false := decide_eq_false (by have := of_decide_eq_true c1; omega)
        cases q <;> simp [c3]
def tl_s (p : Bytes → List Bytes) : List AV → List Ob → Br
  | [.str s], [] => .ret (.ref 0 0) [.arr .str 0 false (p s)]
  | _, _ => .fail
theorem cut_to_end (p m : Bytes) : cut (p ++ m) (p.length : Int) ((p ++ m).length : Int) = m := by
  have := cut_mid p m []
  rw [List.append_nil] at this
  rw [← Int.natCast_add, ← List.length_append] at this
  exact this
theorem iElements_okQ : Sound Kx 160 (tl_s elemP) := by
  refine (iElements_okOf (φ := fun s => .ret (.ref 0 0) [.arr .str 0 false (elemP s)]) (fun s => s.length + 2) fun s r h => ?_).of fun args objs r h => ?_
  · cases h
    unfold iElements_run elemP
    cases c : decide (4000 < (s.length : Int))
    · have hl := of_decide_eq_false c
      simp only [cond_false]
      rw [iElements_loop s (by omega) _ (fun o => some (.ref 0 0, [.arr .str 0 false o])) ?_ (s.length + 2) [] [] s false [] 0 0 rfl rfl rfl (by omega) (by simp)]
      · rfl
      · intro p cur fr out hs hf ho
        have hlen : s.length = p.length + cur.length := by rw [hs]; simp
        have h1 : cut s fr (s.length : Int) = cur := by rw [hs, hf]; exact cut_to_end p cur
        have h2 : isM cur = true := isM_of (n := 4000) (by omega)
        simp only [h1, h2, decide_eq_true (show 0 ≤ fr by omega), decide_eq_true (show fr ≤ (s.length : Int) by omega), decide_eq_true (show out.length ≤ 100000 by omega), Bool.and_self, cond_true, keep_cons, keepE]
        cases decide (trimP cur = []) <;> simp
    · rfl
  · unfold tl_s at h; split at h
    · exact h
    · cases h

def isFree_C : SC := [⟨293, _, isLower_okQ⟩, ⟨197, _, isUpper_okQ⟩, ⟨244, _, isDigit_okQ⟩]
def isFree_br (b : Int) : Br := (Br.ite (isLow b) (Br.ret (AV.bool true) []) (Br.ite (isUp b) (Br.ret (AV.bool true) []) (Br.ite (isDig b) (Br.ret (AV.bool true) []) (Br.ite (decide (b = 45)) (Br.ret (AV.bool true) []) (Br.ite (decide (b = 46)) (Br.ret (AV.bool true) []) (Br.ite (decide (b = 95)) (Br.ret (AV.bool true) []) (Br.ret (AV.bool (decide (b = 126))) [])))))))
def isFree_s : List AV → List Ob → Br
  | [.int .u8 b], [] => isFree_br b
  | _, _ => .fail
theorem isFree_ok : Sound Kx 336 isFree_s := sound_br (C := isFree_C) (O := O0) Tryz.func336 (by kernel_rfl) fun args objs => by
  unfold isFree_s; split
  · exact .inr (by kernel_rfl)
  · exact .inl rfl

def hexOf_C : SC := [⟨244, _, isDigit_okQ⟩]
def hexOf_br (b : Int) : Br := (Br.ite (isDig b) (Br.ret (AV.int .i64 (wk64 (wk8 (b - 48)))) []) (Br.ite (decide (97 ≤ b)) (Br.ite (decide (b ≤ 102)) (Br.ret (AV.int .i64 (wk64 ((wk64 (wk8 (b - 97))) + 10))) []) (Br.ite (decide (65 ≤ b)) (Br.ite (decide (b ≤ 70)) (Br.ret (AV.int .i64 (wk64 ((wk64 (wk8 (b - 65))) + 10))) []) (Br.ret (AV.int .i64 (-1)) [])) (Br.ret (AV.int .i64 (-1)) []))) (Br.ite (decide (65 ≤ b)) (Br.ite (decide (b ≤ 70)) (Br.ret (AV.int .i64 (wk64 ((wk64 (wk8 (b - 65))) + 10))) []) (Br.ret (AV.int .i64 (-1)) [])) (Br.ret (AV.int .i64 (-1)) []))))
def hexOf_s : List AV → List Ob → Br
  | [.int .u8 b], [] => hexOf_br b
  | _, _ => .fail
theorem hexOf_ok : Sound Kx 335 hexOf_s := sound_br (C := hexOf_C) (O := O0) Tryz.func335 (by kernel_rfl) fun args objs => by
  unfold hexOf_s; split
  · exact .inr (by kernel_rfl)
  · exact .inl rfl

def hostB_C : SC := [⟨293, _, isLower_okQ⟩, ⟨244, _, isDigit_okQ⟩]
def hostB_br (b : Int) : Br := (Br.ite (isLow b) (Br.ret (AV.bool true) []) (Br.ite (isDig b) (Br.ret (AV.bool true) []) (Br.ite (decide (b = 45)) (Br.ret (AV.bool true) []) (Br.ret (AV.bool (decide (b = 46))) []))))
def hostB_s : List AV → List Ob → Br
  | [.int .u8 b], [] => hostB_br b
  | _, _ => .fail
theorem hostB_ok : Sound Kx 337 hostB_s := sound_br (C := hostB_C) (O := O0) Tryz.func337 (by kernel_rfl) fun args objs => by
  unfold hostB_s; split
  · exact .inr (by kernel_rfl)
  · exact .inl rfl

def hpL_br (s p : Bytes) : Br := (Br.ite (decide ((p.length : Int) ≤ (s.length : Int))) (Br.ite (decide (0 ≤ (p.length : Int))) (Br.ite (decide ((p.length : Int) ≤ (s.length : Int))) (Br.ret (AV.bool (decide ((cut s 0 (p.length : Int)) = p))) []) Br.fail) Br.fail) (Br.ret (AV.bool false) []))
def hpL_s : List AV → List Ob → Br
  | [.str s, .str p], [] => hpL_br s p
  | _, _ => .fail
theorem hpL_ok : Sound Kx 196 hpL_s := sound_br (C := []) (O := O0) Tryz.func196 (by kernel_rfl) fun args objs => by
  unfold hpL_s; split
  · exact .inr (by kernel_rfl)
  · exact .inl rfl

def hpS_C : SC := [⟨196, _, hpL_ok⟩]
def hpS_br (s p : Bytes) : Br := (Br.ite (decide ((p.length : Int) ≤ (s.length : Int))) (Br.ite (decide (0 ≤ (p.length : Int))) (Br.ite (decide ((p.length : Int) ≤ (s.length : Int))) (Br.ret (AV.bool (decide ((cut s 0 (p.length : Int)) = p))) []) Br.fail) Br.fail) (Br.ret (AV.bool false) []))
def hpS_s : List AV → List Ob → Br
  | [.str s, .str p], [] => hpS_br s p
  | _, _ => .fail
theorem hpS_ok : Sound Kx 117 hpS_s := sound_br (C := hpS_C) (O := O0) Tryz.func117 (by kernel_rfl) fun args objs => by
  unfold hpS_s; split
  · exact .inr (by kernel_rfl)
  · exact .inl rfl

end
end Go.Proofs.YtgknmoadpgpdeaaGreatDoor.Ev
