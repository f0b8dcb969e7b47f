/- The texts Ext1, La, Lb, Lc, Ld, Le, Lf, Lg, Lh, Li, Lj, Lk, Ll, Lm, Ln, Na, Nb, Nc, Nd, Ua, one behind the other. -/
import Derived.Test.YtdknaddanjpdaaaGreatDoorK12
import Derived.Lib.Bytealg
namespace Go.Proofs.YtdknaddanjpdaaaGreatDoor.Ev
open Go Go.RowKit
set_option linter.unusedVariables false
set_option linter.unusedSimpArgs false

def ixOf (s : List UInt8) (c : Int) : Int := Go.Lib.indexByte s c.toNat.toUInt8
def ixBS_br (s : List UInt8) (c : Int) : Br := .ret (.int .i64 (ixOf s c)) []
def ixBS_s : List AV → List Ob → Br
  | [.str s, .int .u8 c], [] => ixBS_br s c
  | _, _ => .fail
theorem ixBS_ok : Sound Kx 241 ixBS_s := by
  intro args objs res objs' hv w L vs hR ho hr
  unfold ixBS_s at hv
  split at hv
  · rename_i s c
    cases hv
    simp only [rels, rel] at hr
    obtain ⟨v1, cs1, rfl, rfl, v2, cs2, rfl, rfl, rfl⟩ := hr
    refine .inr ⟨.int .i64 (Go.Lib.indexByte s c.toNat.toUInt8), w, ?_, L, hR, ho, ?_, by simp [rel, ixOf]⟩
    · have := run_callFunc_extern (P := Kx.P) (f := 241) (e := Extern.BytealgIndexByte.indexByte) Tryz.func241 (by kernel_rfl) (by kernel_rfl) (by kernel_rfl) (by kernel_rfl) #[.string ⟨s.toArray⟩, .int .u8 c] w
      refine this.trans ?_
      rw [Go.Lib.run_indexByteString]
      simp [Result.andThen, ixOf]
    · exact Kept.refl _ _
  · cases hv

end Go.Proofs.YtdknaddanjpdaaaGreatDoor.Ev

namespace Go.Proofs.YtdknaddanjpdaaaGreatDoor.Ev
open Go Go.RowKit
set_option linter.unusedVariables false
set_option linter.unusedSimpArgs false
noncomputable section

def isLower_br (b : Int) : Br := (Br.ite (decide (97 ≤ b)) (Br.ret (AV.bool (decide (b ≤ 122))) []) (Br.ret (AV.bool false) []))
def isLower_s : List AV → List Ob → Br
  | [.int .u8 b], [] => isLower_br b
  | _, _ => .fail
theorem isLower_ok : Sound Kx 243 isLower_s := sound_br (C := []) (O := O0) Tryz.func243 (by kernel_rfl) fun args objs => by
  unfold isLower_s; split
  · exact .inr (by kernel_rfl)
  · exact .inl rfl

def isUpper_br (b : Int) : Br := (Br.ite (decide (65 ≤ b)) (Br.ret (AV.bool (decide (b ≤ 90))) []) (Br.ret (AV.bool false) []))
def isUpper_s : List AV → List Ob → Br
  | [.int .u8 b], [] => isUpper_br b
  | _, _ => .fail
theorem isUpper_ok : Sound Kx 137 isUpper_s := sound_br (C := []) (O := O0) Tryz.func137 (by kernel_rfl) fun args objs => by
  unfold isUpper_s; split
  · exact .inr (by kernel_rfl)
  · exact .inl rfl

def isDigit_br (b : Int) : Br := (Br.ite (decide (48 ≤ b)) (Br.ret (AV.bool (decide (b ≤ 57))) []) (Br.ret (AV.bool false) []))
def isDigit_s : List AV → List Ob → Br
  | [.int .u8 b], [] => isDigit_br b
  | _, _ => .fail
theorem isDigit_ok : Sound Kx 197 isDigit_s := sound_br (C := []) (O := O0) Tryz.func197 (by kernel_rfl) fun args objs => by
  unfold isDigit_s; split
  · exact .inr (by kernel_rfl)
  · exact .inl rfl

def isSpace_br (b : Int) : Br := (Br.ite (decide (b = 32)) (Br.ret (AV.bool true) []) (Br.ret (AV.bool (decide (b = 9))) []))
def isSpace_s : List AV → List Ob → Br
  | [.int .u8 b], [] => isSpace_br b
  | _, _ => .fail
theorem isSpace_ok : Sound Kx 212 isSpace_s := sound_br (C := []) (O := O0) Tryz.func212 (by kernel_rfl) fun args objs => by
  unfold isSpace_s; split
  · exact .inr (by kernel_rfl)
  · exact .inl rfl

def isPlain_br (b : Int) : Br := (Br.ite (decide (b = 9)) (Br.ret (AV.bool true) []) (Br.ite (decide (32 ≤ b)) (Br.ret (AV.bool (!(decide (b = 127)))) []) (Br.ret (AV.bool false) [])))
def isPlain_s : List AV → List Ob → Br
  | [.int .u8 b], [] => isPlain_br b
  | _, _ => .fail
theorem isPlain_ok : Sound Kx 162 isPlain_s := sound_br (C := []) (O := O0) Tryz.func162 (by kernel_rfl) fun args objs => by
  unfold isPlain_s; split
  · exact .inr (by kernel_rfl)
  · exact .inl rfl

def isVisible_br (b : Int) : Br := (Br.ite (decide (33 ≤ b)) (Br.ret (AV.bool (decide (b ≤ 126))) []) (Br.ret (AV.bool false) []))
def isVisible_s : List AV → List Ob → Br
  | [.int .u8 b], [] => isVisible_br b
  | _, _ => .fail
theorem isVisible_ok : Sound Kx 174 isVisible_s := sound_br (C := []) (O := O0) Tryz.func174 (by kernel_rfl) fun args objs => by
  unfold isVisible_s; split
  · exact .inr (by kernel_rfl)
  · exact .inl rfl

def isStatus_C : SC := [⟨149, _, iwithin_ok⟩]
def isStatus_br (n : Int) : Br := (Br.ite (decide (200 ≤ n)) (Br.ret (AV.bool (decide (n ≤ 599))) []) (Br.ret (AV.bool false) []))
def isStatus_s : List AV → List Ob → Br
  | [.int .i64 n], [] => isStatus_br n
  | _, _ => .fail
theorem isStatus_ok : Sound Kx 130 isStatus_s := sound_br (C := isStatus_C) (O := O0) Tryz.func130 (by kernel_rfl) fun args objs => by
  unfold isStatus_s; split
  · exact .inr (by kernel_rfl)
  · exact .inl rfl

def isBareStatus_br (n : Int) : Br := (Br.ite (decide (n = 204)) (Br.ret (AV.bool true) []) (Br.ret (AV.bool (decide (n = 304))) []))
def isBareStatus_s : List AV → List Ob → Br
  | [.int .i64 n], [] => isBareStatus_br n
  | _, _ => .fail
theorem isBareStatus_ok : Sound Kx 132 isBareStatus_s := sound_br (C := []) (O := O0) Tryz.func132 (by kernel_rfl) fun args objs => by
  unfold isBareStatus_s; split
  · exact .inr (by kernel_rfl)
  · exact .inl rfl

def slower_br (b : Int) : Br := (Br.ite (decide (65 ≤ b)) (Br.ite (decide (b ≤ 90)) (Br.ret (AV.int .u8 (wk8 (b + 32))) []) (Br.ret (AV.int .u8 b) [])) (Br.ret (AV.int .u8 b) []))
def slower_s : List AV → List Ob → Br
  | [.int .u8 b], [] => slower_br b
  | _, _ => .fail
theorem slower_ok : Sound Kx 167 slower_s := sound_br (C := []) (O := O0) Tryz.func167 (by kernel_rfl) fun args objs => by
  unfold slower_s; split
  · exact .inr (by kernel_rfl)
  · exact .inl rfl

def swhite_br (b : Int) : Br := (Br.ite (decide (b = 32)) (Br.ret (AV.bool true) []) (Br.ret (AV.bool (decide (b = 9))) []))
def swhite_s : List AV → List Ob → Br
  | [.int .u8 b], [] => swhite_br b
  | _, _ => .fail
theorem swhite_ok : Sound Kx 210 swhite_s := sound_br (C := []) (O := O0) Tryz.func210 (by kernel_rfl) fun args objs => by
  unfold swhite_s; split
  · exact .inr (by kernel_rfl)
  · exact .inl rfl

def sdigit_br (b : Int) : Br := (Br.ite (decide (48 ≤ b)) (Br.ret (AV.bool (decide (b ≤ 57))) []) (Br.ret (AV.bool false) []))
def sdigit_s : List AV → List Ob → Br
  | [.int .u8 b], [] => sdigit_br b
  | _, _ => .fail
theorem sdigit_ok : Sound Kx 141 sdigit_s := sound_br (C := []) (O := O0) Tryz.func141 (by kernel_rfl) fun args objs => by
  unfold sdigit_s; split
  · exact .inr (by kernel_rfl)
  · exact .inl rfl

def splain_br (b : Int) : Br := (Br.ite (decide (b = 9)) (Br.ret (AV.bool true) []) (Br.ite (decide (32 ≤ b)) (Br.ret (AV.bool (!(decide (b = 127)))) []) (Br.ret (AV.bool false) [])))
def splain_s : List AV → List Ob → Br
  | [.int .u8 b], [] => splain_br b
  | _, _ => .fail
theorem splain_ok : Sound Kx 209 splain_s := sound_br (C := []) (O := O0) Tryz.func209 (by kernel_rfl) fun args objs => by
  unfold splain_s; split
  · exact .inr (by kernel_rfl)
  · exact .inl rfl

def sbare_br (n : Int) : Br := (Br.ite (decide (n = 204)) (Br.ret (AV.bool true) []) (Br.ret (AV.bool (decide (n = 304))) []))
def sbare_s : List AV → List Ob → Br
  | [.int .i64 n], [] => sbare_br n
  | _, _ => .fail
theorem sbare_ok : Sound Kx 185 sbare_s := sound_br (C := []) (O := O0) Tryz.func185 (by kernel_rfl) fun args objs => by
  unfold sbare_s; split
  · exact .inr (by kernel_rfl)
  · exact .inl rfl

def szField_br (a b : Bytes) (left : Int) : Br := (Br.ite (decide ((wk64 (left - (a.length : Int))) < 0)) (Br.ret (AV.int .i64 (-1)) []) (Br.ite (decide ((wk64 ((wk64 (left - (a.length : Int))) - (b.length : Int))) < 0)) (Br.ret (AV.int .i64 (-1)) []) (Br.ret (AV.int .i64 (wk64 ((wk64 (left - (a.length : Int))) - (b.length : Int)))) [])))
def szField_s : List AV → List Ob → Br
  | [.agg [.str a, .str b], .int .i64 left], [] => szField_br a b left
  | _, _ => .fail
theorem szField_ok : Sound Kx 44 szField_s := sound_br (C := []) (O := O0) Tryz.func44 (by kernel_rfl) fun args objs => by
  unfold szField_s; split
  · exact .inr (by kernel_rfl)
  · exact .inl rfl

def toField_br (a b : Bytes) : Br := (Br.ret (AV.agg ((AV.str a) :: ((AV.str b) :: []))) [])
def toField_s : List AV → List Ob → Br
  | [.agg [.str a, .str b]], [] => toField_br a b
  | _, _ => .fail
theorem toField_ok : Sound Kx 50 toField_s := sound_br (C := []) (O := O0) Tryz.func50 (by kernel_rfl) fun args objs => by
  unfold toField_s; split
  · exact .inr (by kernel_rfl)
  · exact .inl rfl

def eqField_br (a b c d : Bytes) : Br := (Br.ite (!(decide (a = c))) (Br.ret (AV.bool false) []) (Br.ite (!(decide (b = d))) (Br.ret (AV.bool false) []) (Br.ret (AV.bool true) [])))
def eqField_s : List AV → List Ob → Br
  | [.agg [.str a, .str b], .agg [.str c, .str d]], [] => eqField_br a b c d
  | _, _ => .fail
theorem eqField_ok : Sound Kx 42 eqField_s := sound_br (C := []) (O := O0) Tryz.func42 (by kernel_rfl) fun args objs => by
  unfold eqField_s; split
  · exact .inr (by kernel_rfl)
  · exact .inl rfl


def isLow (n : Int) : Bool := decide (97 ≤ n) && decide (n ≤ 122)
def isUp (n : Int) : Bool := decide (65 ≤ n) && decide (n ≤ 90)
def isDig (n : Int) : Bool := decide (48 ≤ n) && decide (n ≤ 57)
def isSp (n : Int) : Bool := decide (n = 32) || decide (n = 9)
def isPl (n : Int) : Bool := decide (n = 9) || (decide (32 ≤ n) && !decide (n = 127))
def isVis (n : Int) : Bool := decide (33 ≤ n) && decide (n ≤ 126)
def lowI (n : Int) : Int := bif isUp n then n + 32 else n
def tokSet : Bytes := [33, 35, 36, 37, 38, 39, 42, 43, 45, 46, 94, 95, 124, 126]
def isTok (n : Int) : Bool := isLow n || isUp n || isDig n || decide (n = 96) || tokSet.any fun c => decide (by8 c = n)

def pr_s (p : Int → Bool) : List AV → List Ob → Br
  | [.int .u8 b], [] => .ret (.bool (p b)) []
  | _, _ => .fail
theorem of_pr {n : Nat} {s : List AV → List Ob → Br} (hs : Sound Kx n s) {p : Int → Bool} (h : ∀ b, (s [.int .u8 b] []).val = some (.bool (p b), [])) : Sound Kx n (pr_s p) := hs.of fun args objs r hv => by
  unfold pr_s at hv
  split at hv
  · rw [h]; exact hv
  · cases hv
def pn_s (p : Int → Bool) : List AV → List Ob → Br
  | [.int .i64 b], [] => .ret (.bool (p b)) []
  | _, _ => .fail
theorem of_pn {n : Nat} {s : List AV → List Ob → Br} (hs : Sound Kx n s) {p : Int → Bool} (h : ∀ b, (s [.int .i64 b] []).val = some (.bool (p b), [])) : Sound Kx n (pn_s p) := hs.of fun args objs r hv => by
  unfold pn_s at hv
  split at hv
  · rw [h]; exact hv
  · cases hv
theorem v_and (c x : Bool) : (Br.ite c (.ret (.bool x) []) (.ret (.bool false) [])).val = some (.bool (c && x), []) := by cases c <;> rfl
theorem v_or (c x : Bool) : (Br.ite c (.ret (.bool true) []) (.ret (.bool x) [])).val = some (.bool (c || x), []) := by cases c <;> rfl

theorem isLower_okQ : Sound Kx 243 (pr_s isLow) := of_pr isLower_ok fun b => v_and _ _
theorem isUpper_okQ : Sound Kx 137 (pr_s isUp) := of_pr isUpper_ok fun b => v_and _ _
theorem isDigit_okQ : Sound Kx 197 (pr_s isDig) := of_pr isDigit_ok fun b => v_and _ _
theorem isVisible_okQ : Sound Kx 174 (pr_s isVis) := of_pr isVisible_ok fun b => v_and _ _
theorem isSpace_okQ : Sound Kx 212 (pr_s isSp) := of_pr isSpace_ok fun b => v_or _ _
theorem isPlain_okQ : Sound Kx 162 (pr_s isPl) := of_pr isPlain_ok fun b => by
  show (isPlain_br b).val = _
  unfold isPlain_br isPl
  simp only [Br.val]
  cases decide (b = 9) <;> cases decide (32 ≤ b) <;> rfl
theorem swhite_okQ : Sound Kx 210 (pr_s isSp) := of_pr swhite_ok fun b => v_or _ _
theorem sdigit_okQ : Sound Kx 141 (pr_s isDig) := of_pr sdigit_ok fun b => v_and _ _
theorem splain_okQ : Sound Kx 209 (pr_s isPl) := of_pr splain_ok fun b => by
  show (splain_br b).val = _
  unfold splain_br isPl
  simp only [Br.val]
  cases decide (b = 9) <;> cases decide (32 ≤ b) <;> rfl
def low_s : List AV → List Ob → Br
  | [.int .u8 b], [] => .ite (decide (0 ≤ b) && decide (b < 256)) (.ret (.int .u8 (lowI b)) []) .fail
  | _, _ => .fail
theorem slower_okQ : Sound Kx 167 low_s := slower_ok.of fun args objs r h => by
  unfold low_s at h
  split at h
  · rename_i b
    obtain ⟨h1, h2⟩ := ite_some h
    simp only [Bool.and_eq_true, decide_eq_true_eq] at h1
    rw [← h2]
    show (slower_br b).val = _
    unfold slower_br lowI isUp
    by_cases g1 : 65 ≤ b <;> by_cases g2 : b ≤ 90 <;> simp only [Br.val, g1, g2, decide_true, decide_false, Bool.and_true, Bool.and_false, Bool.false_and, cond_true, cond_false]
    rw [w8 (by omega) (by omega)]
  · cases h
def isSta (n : Int) : Bool := decide (200 ≤ n) && decide (n ≤ 599)
def isBar (n : Int) : Bool := decide (n = 204) || decide (n = 304)
theorem isStatus_okQ : Sound Kx 130 (pn_s isSta) := of_pn isStatus_ok fun b => v_and _ _
theorem isBareStatus_okQ : Sound Kx 132 (pn_s isBar) := of_pn isBareStatus_ok fun b => v_or _ _
theorem sbare_okQ : Sound Kx 185 (pn_s isBar) := of_pn sbare_ok fun b => v_or _ _

def allP (p : Int → Bool) (s : Bytes) : Bool := s.all fun c => p (by8 c)
def foldP (s : Bytes) : Bytes := ofBytes ((bytesOf s).map lowI)
def sp8 (c : UInt8) : Bool := isSp (by8 c)
def trimL (s : Bytes) : Bytes := s.dropWhile sp8
def trimR (s : Bytes) : Bytes := (s.reverse.dropWhile sp8).reverse
def trimP (s : Bytes) : Bytes := trimR (trimL s)
def tokP (s : Bytes) : Bool := decide (1 ≤ s.length) && decide (s.length ≤ 4000) && allP isTok s
def isM (s : Bytes) : Bool := decide (s.length ≤ 4611686018427387904)


def ixL_C : SC := [⟨241, _, ixBS_ok⟩]
def ixL_br (s : Bytes) (c : Int) : Br := (Br.ret (AV.int .i64 (ixOf s c)) [])
def ixL_s : List AV → List Ob → Br
  | [.str s, .int .u8 c], [] => ixL_br s c
  | _, _ => .fail
theorem ixL_ok : Sound Kx 199 ixL_s := sound_br (C := ixL_C) (O := O0) Tryz.func199 (by kernel_rfl) fun args objs => by
  unfold ixL_s; split
  · exact .inr (by kernel_rfl)
  · exact .inl rfl

def ixB_C : SC := [⟨199, _, ixL_ok⟩]
def ixB_br (s : Bytes) (c : Int) : Br := (Br.ret (AV.int .i64 (ixOf s c)) [])
def ixB_s : List AV → List Ob → Br
  | [.str s, .int .u8 c], [] => ixB_br s c
  | _, _ => .fail
theorem ixB_ok : Sound Kx 153 ixB_s := sound_br (C := ixB_C) (O := O0) Tryz.func153 (by kernel_rfl) fun args objs => by
  unfold ixB_s; split
  · exact .inr (by kernel_rfl)
  · exact .inl rfl

def isTokB_C : SC := [⟨243, _, isLower_okQ⟩, ⟨137, _, isUpper_okQ⟩, ⟨197, _, isDigit_okQ⟩, ⟨153, _, ixB_ok⟩]
def isTokB_br (b : Int) : Br := (Br.ite (isLow b) (Br.ret (AV.bool true) []) (Br.ite (isUp b) (Br.ret (AV.bool true) []) (Br.ite (isDig b) (Br.ret (AV.bool true) []) (Br.ite (decide (b = 96)) (Br.ret (AV.bool true) []) (Br.ret (AV.bool (decide (0 ≤ (ixOf ([33, 35, 36, 37, 38, 39, 42, 43, 45, 46, 94, 95, 124, 126] : Bytes) b)))) [])))))
def isTokB_s : List AV → List Ob → Br
  | [.int .u8 b], [] => isTokB_br b
  | _, _ => .fail
theorem isTokB_ok : Sound Kx 211 isTokB_s := sound_br (C := isTokB_C) (O := O0) Tryz.func211 (by kernel_rfl) fun args objs => by
  unfold isTokB_s; split
  · exact .inr (by kernel_rfl)
  · exact .inl rfl

def shas_O : Opt := { live := [(2, [0, 1, 5])], outs := [(2, [4])] }
def shas_T2 (v2x0 : Bytes) (v2x1 v2x2 : Int) (kR2 : Bytes → Int → Int → Option Rs) (k2e0 k2e1 : Option Rs) : Option Rs :=
  (bif (decide (v2x2 < (v2x0.length : Int))) then (bif (decide (0 ≤ v2x2)) then (bif (decide (v2x2 < (v2x0.length : Int))) then (bif (decide ((strAt v2x0 v2x2) = v2x1)) then k2e0 else (kR2 v2x0 v2x1 (wk64 (v2x2 + 1)))) else (none)) else (none)) else k2e1)
def shas_F2 : Nat → Bytes → Int → Int → (Option Rs) → (Option Rs) → Option Rs
  | 0, _, _, _, _, _ => none
  | n + 1, v2x0, v2x1, v2x2, k2e0, k2e1 => shas_T2 v2x0 v2x1 v2x2 (fun v2x0 v2x1 v2x2 => shas_F2 n v2x0 v2x1 v2x2 k2e0 k2e1) k2e0 k2e1
abbrev shas_p2 : SP := ⟨17, [0, 1, 5], [(.v .s), (.v (.i .u8)), (.v (.i .i64))], []⟩
noncomputable def shas_b2 : Code := codeAt (codeOf Tryz.f242) [1, 0, 1, 0, 0]
def shas_E2 (f : (Option Rs) → (Option Rs) → Option Rs) (k : KT) : Option Rs := f (k Ex.ret ((St.mk (slots 0 17 [(4, (AV.bool true))]) ([] : (List (Nat × (Ob))))))) (k (Ex.exit 0) ((St.mk (slots 0 17 []) ([] : (List (Nat × (Ob)))))))
def shas_G2 (n : Nat) (d : shas_p2.D) : KT → Option Rs := shas_E2 (shas_F2 n d.1.1 d.1.2.1 d.1.2.2.1)
def shas_L (N : Nat) : Lam := lamOf [⟨2, shas_p2, shas_G2 N⟩]
theorem shas_ok2 (N : Nat) : OkL Kx noS shas_O 0 N (shas_L N) shas_b2 := okL shas_p2 (shas_G2) (fun d kR => shas_E2 (shas_T2 d.1.1 d.1.2.1 d.1.2.2.1 (fun v2x0 v2x1 v2x2 => kR ((v2x0, v2x1, v2x2, ()), ())))) (fun _ _ => by kernel_rfl) (fun _ _ _ => by kernel_rfl) (fun _ _ => by kernel_rfl) (fun _ _ _ _ => by kernel_rfl) (okEach (l' := []) (by kernel_rfl) trivial)
def shas_run (N : Nat) (s : Bytes) (b : Int) : Option Rs := (shas_F2 N s b 0 (some ((AV.bool true), [])) (some ((AV.bool false), [])))
def shas_sOf (φ : Bytes → Int → Br) : List AV → List Ob → Br
  | [.str s, .int .u8 b], [] => φ s b
  | _, _ => .fail
theorem shas_okOf {φ : Bytes → Int → Br} (fu : Bytes → Int → Nat) (hv : ∀ s b res_, (φ s b).val = some res_ → shas_run (fu s b) s b = some res_) : Sound Kx 242 (shas_sOf φ) := sound_lp (C := []) (O := shas_O) Tryz.func242 (by kernel_rfl) fun args objs => by
  unfold shas_sOf; split
  · rename_i s b; exact .inr fun _ hyp_ => run_lp (Λ := shas_L (fu s b)) (by kernel_rfl) (okEach (l' := [shas_b2]) (by kernel_rfl) ⟨shas_ok2 _, trivial⟩) (by kernel_rfl) (hv s b _ hyp_)
  · exact .inl rfl

def ifold_O : Opt := { live := [(3, [3, 8, 9, 10])], outs := [(3, [2, 3])] }
def ifold_C : SC := [⟨137, _, isUpper_okQ⟩]
def ifold_T3 (v3x0 v3x1 : Int) (v3x2 : (List Int)) (kR3 : Int → Int → (List Int) → Option Rs) (k3e0 : (List Int) → Option Rs) : Option Rs :=
  (bif (decide (v3x1 < v3x0)) then (bif (decide (0 ≤ v3x1)) then (bif (decide (v3x1 < (v3x2.length : Int))) then (bif (isUp (List.getD v3x2 (Int.toNat v3x1) 0)) then (bif (decide (0 ≤ v3x1)) then (bif (decide (v3x1 < (v3x2.length : Int))) then (kR3 v3x0 (wk64 (v3x1 + 1)) (List.set v3x2 (Int.toNat v3x1) (wk8 ((List.getD v3x2 (Int.toNat v3x1) 0) + 32)))) else (none)) else (none)) else (kR3 v3x0 (wk64 (v3x1 + 1)) v3x2)) else (none)) else (none)) else (k3e0 v3x2))
def ifold_F3 : Nat → Int → Int → (List Int) → ((List Int) → Option Rs) → Option Rs
  | 0, _, _, _, _ => none
  | n + 1, v3x0, v3x1, v3x2, k3e0 => ifold_T3 v3x0 v3x1 v3x2 (fun v3x0 v3x1 v3x2 => ifold_F3 n v3x0 v3x1 v3x2 k3e0) k3e0
abbrev ifold_p3 : SP := ⟨25, [3, 8, 9, 10], [(.v (.ref 256 0)), (.v (.ref 256 0)), (.v (.i .i64)), (.v (.i .i64))], [(256, .arr (Ty.int .u8) 0 false)]⟩
noncomputable def ifold_b3 : Code := codeAt (codeOf Tryz.f70) [1, 1, 0, 1, 0, 0]
def ifold_E3 (f : ((List Int) → Option Rs) → Option Rs) (k : KT) : Option Rs := f (fun x3x0x0 => k (Ex.exit 0) ((St.mk (slots 0 25 [(3, (AV.ref 256 0))]) ((256, (Ob.arr (Ty.int .u8) 0 false x3x0x0)) :: ([] : (List (Nat × (Ob))))))))
def ifold_G3 (n : Nat) (d : ifold_p3.D) : KT → Option Rs := ifold_E3 (ifold_F3 n d.1.2.2.1 d.1.2.2.2.1 d.2.1)
def ifold_L (N : Nat) : Lam := lamOf [⟨3, ifold_p3, ifold_G3 N⟩]
theorem ifold_ok3 (N : Nat) : OkL Kx ifold_C.s ifold_O 0 N (ifold_L N) ifold_b3 := okL ifold_p3 (ifold_G3) (fun d kR => ifold_E3 (ifold_T3 d.1.2.2.1 d.1.2.2.2.1 d.2.1 (fun v3x0 v3x1 v3x2 => kR (((), (), v3x0, v3x1, ()), (v3x2, ()))))) (fun _ _ => by kernel_rfl) (fun _ _ _ => by kernel_rfl) (fun _ _ => by kernel_rfl) (fun _ _ _ _ => by kernel_rfl) (okEach (l' := []) (by kernel_rfl) trivial)
def ifold_run (N : Nat) (s : Bytes) : Option Rs := (ifold_F3 N ((List.length (bytesOf s)) : Int) 0 (bytesOf s) (fun x3x0x0 => (some ((AV.str (ofBytes x3x0x0)), []))))
def ifold_sOf (φ : Bytes → Br) : List AV → List Ob → Br
  | [.str s], [] => φ s
  | _, _ => .fail
theorem ifold_okOf {φ : Bytes → Br} (fu : Bytes → Nat) (hv : ∀ s res_, (φ s).val = some res_ → ifold_run (fu s) s = some res_) : Sound Kx 70 (ifold_sOf φ) := sound_lp (C := ifold_C) (O := ifold_O) Tryz.func70 (by kernel_rfl) fun args objs => by
  unfold ifold_sOf; split
  · rename_i s; exact .inr fun _ hyp_ => run_lp (Λ := ifold_L (fu s)) (by kernel_rfl) (okEach (l' := [ifold_b3]) (by kernel_rfl) ⟨ifold_ok3 _, trivial⟩) (by kernel_rfl) (hv s _ hyp_)
  · exact .inl rfl

def sfold_O : Opt := { live := [(3, [3, 4])], outs := [(3, [2, 3])] }
def sfold_C : SC := [⟨167, _, slower_okQ⟩]
def sfold_T3 (v3x0 : Int) (v3x1 : (List Int)) (kR3 : Int → (List Int) → Option Rs) (k3e0 : (List Int) → Option Rs) : Option Rs :=
  (bif (decide (v3x0 < (v3x1.length : Int))) then (bif (decide (0 ≤ v3x0)) then (bif (decide (v3x0 < (v3x1.length : Int))) then (bif ((decide (0 ≤ (List.getD v3x1 (Int.toNat v3x0) 0))) && (decide ((List.getD v3x1 (Int.toNat v3x0) 0) < 256))) then (bif (decide (0 ≤ v3x0)) then (bif (decide (v3x0 < (v3x1.length : Int))) then (kR3 (wk64 (v3x0 + 1)) (List.set v3x1 (Int.toNat v3x0) (lowI (List.getD v3x1 (Int.toNat v3x0) 0)))) else (none)) else (none)) else (none)) else (none)) else (none)) else (k3e0 v3x1))
def sfold_F3 : Nat → Int → (List Int) → ((List Int) → Option Rs) → Option Rs
  | 0, _, _, _ => none
  | n + 1, v3x0, v3x1, k3e0 => sfold_T3 v3x0 v3x1 (fun v3x0 v3x1 => sfold_F3 n v3x0 v3x1 k3e0) k3e0
abbrev sfold_p3 : SP := ⟨23, [3, 4], [(.v (.ref 256 0)), (.v (.i .i64))], [(256, .arr (Ty.int .u8) 0 false)]⟩
noncomputable def sfold_b3 : Code := codeAt (codeOf Tryz.f108) [1, 1, 0, 1, 0, 0]
def sfold_E3 (f : ((List Int) → Option Rs) → Option Rs) (k : KT) : Option Rs := f (fun x3x0x0 => k (Ex.exit 0) ((St.mk (slots 0 23 [(3, (AV.ref 256 0))]) ((256, (Ob.arr (Ty.int .u8) 0 false x3x0x0)) :: ([] : (List (Nat × (Ob))))))))
def sfold_G3 (n : Nat) (d : sfold_p3.D) : KT → Option Rs := sfold_E3 (sfold_F3 n d.1.2.1 d.2.1)
def sfold_L (N : Nat) : Lam := lamOf [⟨3, sfold_p3, sfold_G3 N⟩]
theorem sfold_ok3 (N : Nat) : OkL Kx sfold_C.s sfold_O 0 N (sfold_L N) sfold_b3 := okL sfold_p3 (sfold_G3) (fun d kR => sfold_E3 (sfold_T3 d.1.2.1 d.2.1 (fun v3x0 v3x1 => kR (((), v3x0, ()), (v3x1, ()))))) (fun _ _ => by kernel_rfl) (fun _ _ _ => by kernel_rfl) (fun _ _ => by kernel_rfl) (fun _ _ _ _ => by kernel_rfl) (okEach (l' := []) (by kernel_rfl) trivial)
def sfold_run (N : Nat) (s : Bytes) : Option Rs := (sfold_F3 N 0 (bytesOf s) (fun x3x0x0 => (some ((AV.str (ofBytes x3x0x0)), []))))
def sfold_sOf (φ : Bytes → Br) : List AV → List Ob → Br
  | [.str s], [] => φ s
  | _, _ => .fail
theorem sfold_okOf {φ : Bytes → Br} (fu : Bytes → Nat) (hv : ∀ s res_, (φ s).val = some res_ → sfold_run (fu s) s = some res_) : Sound Kx 108 (sfold_sOf φ) := sound_lp (C := sfold_C) (O := sfold_O) Tryz.func108 (by kernel_rfl) fun args objs => by
  unfold sfold_sOf; split
  · rename_i s; exact .inr fun _ hyp_ => run_lp (Λ := sfold_L (fu s)) (by kernel_rfl) (okEach (l' := [sfold_b3]) (by kernel_rfl) ⟨sfold_ok3 _, trivial⟩) (by kernel_rfl) (hv s _ hyp_)
  · exact .inl rfl

def itrim_O : Opt := { live := [(3, [0]), (1, [0])], outs := [(3, [0, 2]), (1, [0, 2])] }
def itrim_C : SC := [⟨212, _, isSpace_okQ⟩]
def itrim_T1 (v1x0 : Bytes) (kR1 k1e0 : Bytes → Option Rs) : Option Rs :=
  (bif (!(decide (v1x0 = ([] : Bytes)))) then (bif (decide (0 < (v1x0.length : Int))) then (bif (isSp (strAt v1x0 0)) then (bif (decide (1 ≤ (v1x0.length : Int))) then (kR1 (cut v1x0 1 (v1x0.length : Int))) else (none)) else (k1e0 v1x0)) else (none)) else (k1e0 v1x0))
def itrim_F1 : Nat → Bytes → (Bytes → Option Rs) → Option Rs
  | 0, _, _ => none
  | n + 1, v1x0, k1e0 => itrim_T1 v1x0 (fun v1x0 => itrim_F1 n v1x0 k1e0) k1e0
abbrev itrim_p1 : SP := ⟨28, [0], [(.v .s)], []⟩
noncomputable def itrim_b1 : Code := codeAt (codeOf Tryz.f163) [1, 0, 0, 0]
def itrim_E1 (f : (Bytes → Option Rs) → Option Rs) (k : KT) : Option Rs := f (fun x1x0x0 => k (Ex.exit 0) ((St.mk (slots 0 28 [(0, (AV.str x1x0x0))]) ([] : (List (Nat × (Ob)))))))
def itrim_G1 (n : Nat) (d : itrim_p1.D) : KT → Option Rs := itrim_E1 (itrim_F1 n d.1.1)
def itrim_T3 (v3x0 : Bytes) (kR3 k3e0 : Bytes → Option Rs) : Option Rs :=
  (bif (!(decide (v3x0 = ([] : Bytes)))) then (bif (decide (0 ≤ (wk64 ((v3x0.length : Int) - 1)))) then (bif (decide ((wk64 ((v3x0.length : Int) - 1)) < (v3x0.length : Int))) then (bif (isSp (strAt v3x0 (wk64 ((v3x0.length : Int) - 1)))) then (bif (decide (0 ≤ (wk64 ((v3x0.length : Int) - 1)))) then (bif (decide ((wk64 ((v3x0.length : Int) - 1)) ≤ (v3x0.length : Int))) then (kR3 (cut v3x0 0 (wk64 ((v3x0.length : Int) - 1)))) else (none)) else (none)) else (k3e0 v3x0)) else (none)) else (none)) else (k3e0 v3x0))
def itrim_F3 : Nat → Bytes → (Bytes → Option Rs) → Option Rs
  | 0, _, _ => none
  | n + 1, v3x0, k3e0 => itrim_T3 v3x0 (fun v3x0 => itrim_F3 n v3x0 k3e0) k3e0
abbrev itrim_p3 : SP := ⟨28, [0], [(.v .s)], []⟩
noncomputable def itrim_b3 : Code := codeAt (codeOf Tryz.f163) [1, 1, 0, 0, 0]
def itrim_E3 (f : (Bytes → Option Rs) → Option Rs) (k : KT) : Option Rs := f (fun x3x0x0 => k (Ex.exit 2) ((St.mk (slots 0 28 [(0, (AV.str x3x0x0))]) ([] : (List (Nat × (Ob)))))))
def itrim_G3 (n : Nat) (d : itrim_p3.D) : KT → Option Rs := itrim_E3 (itrim_F3 n d.1.1)
def itrim_L (N : Nat) : Lam := lamOf [⟨1, itrim_p1, itrim_G1 N⟩, ⟨3, itrim_p3, itrim_G3 N⟩]
theorem itrim_ok1 (N : Nat) : OkL Kx itrim_C.s itrim_O 0 N (itrim_L N) itrim_b1 := okL itrim_p1 (itrim_G1) (fun d kR => itrim_E1 (itrim_T1 d.1.1 (fun v1x0 => kR ((v1x0, ()), ())))) (fun _ _ => by kernel_rfl) (fun _ _ _ => by kernel_rfl) (fun _ _ => by kernel_rfl) (fun _ _ _ _ => by kernel_rfl) (okEach (l' := []) (by kernel_rfl) trivial)
theorem itrim_ok3 (N : Nat) : OkL Kx itrim_C.s itrim_O 0 N (itrim_L N) itrim_b3 := okL itrim_p3 (itrim_G3) (fun d kR => itrim_E3 (itrim_T3 d.1.1 (fun v3x0 => kR ((v3x0, ()), ())))) (fun _ _ => by kernel_rfl) (fun _ _ _ => by kernel_rfl) (fun _ _ => by kernel_rfl) (fun _ _ _ _ => by kernel_rfl) (okEach (l' := []) (by kernel_rfl) trivial)
def itrim_run (N : Nat) (s : Bytes) : Option Rs := (itrim_F1 N s (fun x1x0x0 => (itrim_F3 N x1x0x0 (fun x3x0x0 => (some ((AV.str x3x0x0), []))))))
def itrim_sOf (φ : Bytes → Br) : List AV → List Ob → Br
  | [.str s], [] => φ s
  | _, _ => .fail
theorem itrim_okOf {φ : Bytes → Br} (fu : Bytes → Nat) (hv : ∀ s res_, (φ s).val = some res_ → itrim_run (fu s) s = some res_) : Sound Kx 163 (itrim_sOf φ) := sound_lp (C := itrim_C) (O := itrim_O) Tryz.func163 (by kernel_rfl) fun args objs => by
  unfold itrim_sOf; split
  · rename_i s; exact .inr fun _ hyp_ => run_lp (Λ := itrim_L (fu s)) (by kernel_rfl) (okEach (l' := [itrim_b1, itrim_b3]) (by kernel_rfl) ⟨itrim_ok1 _, itrim_ok3 _, trivial⟩) (by kernel_rfl) (hv s _ hyp_)
  · exact .inl rfl

def strim_O : Opt := { live := [(5, [0, 3, 4]), (2, [0, 3])], outs := [(5, [0, 2, 3, 4]), (2, [0, 2, 3])] }
def strim_C : SC := [⟨210, _, swhite_okQ⟩]
def strim_T2 (v2x0 : Bytes) (v2x1 : Int) (kR2 k2e0 : Bytes → Int → Option Rs) : Option Rs :=
  (bif (decide (v2x1 < (v2x0.length : Int))) then (bif (decide (0 ≤ v2x1)) then (bif (decide (v2x1 < (v2x0.length : Int))) then (bif (isSp (strAt v2x0 v2x1)) then (kR2 v2x0 (wk64 (v2x1 + 1))) else (k2e0 v2x0 v2x1)) else (none)) else (none)) else (k2e0 v2x0 v2x1))
def strim_F2 : Nat → Bytes → Int → (Bytes → Int → Option Rs) → Option Rs
  | 0, _, _, _ => none
  | n + 1, v2x0, v2x1, k2e0 => strim_T2 v2x0 v2x1 (fun v2x0 v2x1 => strim_F2 n v2x0 v2x1 k2e0) k2e0
abbrev strim_p2 : SP := ⟨35, [0, 3], [(.v .s), (.v (.i .i64))], []⟩
noncomputable def strim_b2 : Code := codeAt (codeOf Tryz.f160) [1, 1, 0, 0, 0]
def strim_E2 (f : (Bytes → Int → Option Rs) → Option Rs) (k : KT) : Option Rs := f (fun x2x0x0 x2x0x1 => k (Ex.exit 0) ((St.mk (slots 0 35 [(0, (AV.str x2x0x0)), (3, (AV.int .i64 x2x0x1))]) ([] : (List (Nat × (Ob)))))))
def strim_G2 (n : Nat) (d : strim_p2.D) : KT → Option Rs := strim_E2 (strim_F2 n d.1.1 d.1.2.1)
def strim_T5 (v5x0 : Bytes) (v5x1 v5x2 : Int) (kR5 k5e0 : Bytes → Int → Int → Option Rs) : Option Rs :=
  (bif (decide (v5x1 < v5x2)) then (bif (decide (0 ≤ (wk64 (v5x2 - 1)))) then (bif (decide ((wk64 (v5x2 - 1)) < (v5x0.length : Int))) then (bif (isSp (strAt v5x0 (wk64 (v5x2 - 1)))) then (kR5 v5x0 v5x1 (wk64 (v5x2 - 1))) else (k5e0 v5x0 v5x1 v5x2)) else (none)) else (none)) else (k5e0 v5x0 v5x1 v5x2))
def strim_F5 : Nat → Bytes → Int → Int → (Bytes → Int → Int → Option Rs) → Option Rs
  | 0, _, _, _, _ => none
  | n + 1, v5x0, v5x1, v5x2, k5e0 => strim_T5 v5x0 v5x1 v5x2 (fun v5x0 v5x1 v5x2 => strim_F5 n v5x0 v5x1 v5x2 k5e0) k5e0
abbrev strim_p5 : SP := ⟨35, [0, 3, 4], [(.v .s), (.v (.i .i64)), (.v (.i .i64))], []⟩
noncomputable def strim_b5 : Code := codeAt (codeOf Tryz.f160) [1, 1, 1, 1, 0, 0, 0]
def strim_E5 (f : (Bytes → Int → Int → Option Rs) → Option Rs) (k : KT) : Option Rs := f (fun x5x0x0 x5x0x1 x5x0x2 => k (Ex.exit 2) ((St.mk (slots 0 35 [(0, (AV.str x5x0x0)), (3, (AV.int .i64 x5x0x1)), (4, (AV.int .i64 x5x0x2))]) ([] : (List (Nat × (Ob)))))))
def strim_G5 (n : Nat) (d : strim_p5.D) : KT → Option Rs := strim_E5 (strim_F5 n d.1.1 d.1.2.1 d.1.2.2.1)
def strim_L (N : Nat) : Lam := lamOf [⟨2, strim_p2, strim_G2 N⟩, ⟨5, strim_p5, strim_G5 N⟩]
theorem strim_ok2 (N : Nat) : OkL Kx strim_C.s strim_O 0 N (strim_L N) strim_b2 := okL strim_p2 (strim_G2) (fun d kR => strim_E2 (strim_T2 d.1.1 d.1.2.1 (fun v2x0 v2x1 => kR ((v2x0, v2x1, ()), ())))) (fun _ _ => by kernel_rfl) (fun _ _ _ => by kernel_rfl) (fun _ _ => by kernel_rfl) (fun _ _ _ _ => by kernel_rfl) (okEach (l' := []) (by kernel_rfl) trivial)
theorem strim_ok5 (N : Nat) : OkL Kx strim_C.s strim_O 0 N (strim_L N) strim_b5 := okL strim_p5 (strim_G5) (fun d kR => strim_E5 (strim_T5 d.1.1 d.1.2.1 d.1.2.2.1 (fun v5x0 v5x1 v5x2 => kR ((v5x0, v5x1, v5x2, ()), ())))) (fun _ _ => by kernel_rfl) (fun _ _ _ => by kernel_rfl) (fun _ _ => by kernel_rfl) (fun _ _ _ _ => by kernel_rfl) (okEach (l' := []) (by kernel_rfl) trivial)
def strim_run (N : Nat) (s : Bytes) : Option Rs := (strim_F2 N s 0 (fun x2x0x0 => (fun x2x0x1 => (strim_F5 N x2x0x0 x2x0x1 (x2x0x0.length : Int) (fun x5x0x0 => (fun x5x0x1 => (fun x5x0x2 => (bif (decide (0 ≤ x5x0x1)) then (bif (decide (x5x0x1 ≤ x5x0x2)) then (bif (decide (x5x0x2 ≤ (x5x0x0.length : Int))) then (some ((AV.str (cut x5x0x0 x5x0x1 x5x0x2)), [])) else (none)) else (none)) else (none)))))))))
def strim_sOf (φ : Bytes → Br) : List AV → List Ob → Br
  | [.str s], [] => φ s
  | _, _ => .fail
theorem strim_okOf {φ : Bytes → Br} (fu : Bytes → Nat) (hv : ∀ s res_, (φ s).val = some res_ → strim_run (fu s) s = some res_) : Sound Kx 160 (strim_sOf φ) := sound_lp (C := strim_C) (O := strim_O) Tryz.func160 (by kernel_rfl) fun args objs => by
  unfold strim_sOf; split
  · rename_i s; exact .inr fun _ hyp_ => run_lp (Λ := strim_L (fu s)) (by kernel_rfl) (okEach (l' := [strim_b2, strim_b5]) (by kernel_rfl) ⟨strim_ok2 _, strim_ok5 _, trivial⟩) (by kernel_rfl) (hv s _ hyp_)
  · exact .inl rfl

def allVis_O : Opt := { live := [(2, [0, 1, 5])], outs := [(2, [4])] }
def allVis_C : SC := [⟨174, _, isVisible_okQ⟩]
def allVis_T2 (v2x0 : Bytes) (v2x1 : Int) (kR2 : Bytes → Int → Option Rs) (k2e0 k2e1 : Option Rs) : Option Rs :=
  (bif (decide (v2x1 < (v2x0.length : Int))) then (bif (decide (0 ≤ v2x1)) then (bif (decide (v2x1 < (v2x0.length : Int))) then (bif (!(isVis (strAt v2x0 v2x1))) then k2e0 else (kR2 v2x0 (wk64 (v2x1 + 1)))) else (none)) else (none)) else k2e1)
def allVis_F2 : Nat → Bytes → Int → (Option Rs) → (Option Rs) → Option Rs
  | 0, _, _, _, _ => none
  | n + 1, v2x0, v2x1, k2e0, k2e1 => allVis_T2 v2x0 v2x1 (fun v2x0 v2x1 => allVis_F2 n v2x0 v2x1 k2e0 k2e1) k2e0 k2e1
abbrev allVis_p2 : SP := ⟨18, [0, 1, 5], [(.v .s), (.v (.fn 174 [])), (.v (.i .i64))], []⟩
noncomputable def allVis_b2 : Code := codeAt (codeOf Tryz.f92) [1, 0, 1, 0, 0]
def allVis_E2 (f : (Option Rs) → (Option Rs) → Option Rs) (k : KT) : Option Rs := f (k Ex.ret ((St.mk (slots 0 18 [(4, (AV.bool false))]) ([] : (List (Nat × (Ob))))))) (k (Ex.exit 0) ((St.mk (slots 0 18 []) ([] : (List (Nat × (Ob)))))))
def allVis_G2 (n : Nat) (d : allVis_p2.D) : KT → Option Rs := allVis_E2 (allVis_F2 n d.1.1 d.1.2.2.1)
def allVis_L (N : Nat) : Lam := lamOf [⟨2, allVis_p2, allVis_G2 N⟩]
theorem allVis_ok2 (N : Nat) : OkL Kx allVis_C.s allVis_O 0 N (allVis_L N) allVis_b2 := okL allVis_p2 (allVis_G2) (fun d kR => allVis_E2 (allVis_T2 d.1.1 d.1.2.2.1 (fun v2x0 v2x1 => kR ((v2x0, (), v2x1, ()), ())))) (fun _ _ => by kernel_rfl) (fun _ _ _ => by kernel_rfl) (fun _ _ => by kernel_rfl) (fun _ _ _ _ => by kernel_rfl) (okEach (l' := []) (by kernel_rfl) trivial)
def allVis_run (N : Nat) (s : Bytes) : Option Rs := (allVis_F2 N s 0 (some ((AV.bool false), [])) (some ((AV.bool true), [])))
def allVis_sOf (φ : Bytes → Br) : List AV → List Ob → Br
  | [.str s, .fn 174 []], [] => φ s
  | _, _ => .fail
theorem allVis_okOf {φ : Bytes → Br} (fu : Bytes → Nat) (hv : ∀ s res_, (φ s).val = some res_ → allVis_run (fu s) s = some res_) : Sound Kx 92 (allVis_sOf φ) := sound_lp (C := allVis_C) (O := allVis_O) Tryz.func92 (by kernel_rfl) fun args objs => by
  unfold allVis_sOf; split
  · rename_i s; exact .inr fun _ hyp_ => run_lp (Λ := allVis_L (fu s)) (by kernel_rfl) (okEach (l' := [allVis_b2]) (by kernel_rfl) ⟨allVis_ok2 _, trivial⟩) (by kernel_rfl) (hv s _ hyp_)
  · exact .inl rfl

def allPl_O : Opt := { live := [(2, [0, 1, 5])], outs := [(2, [4])] }
def allPl_C : SC := [⟨162, _, isPlain_okQ⟩]
def allPl_T2 (v2x0 : Bytes) (v2x1 : Int) (kR2 : Bytes → Int → Option Rs) (k2e0 k2e1 : Option Rs) : Option Rs :=
  (bif (decide (v2x1 < (v2x0.length : Int))) then (bif (decide (0 ≤ v2x1)) then (bif (decide (v2x1 < (v2x0.length : Int))) then (bif (!(isPl (strAt v2x0 v2x1))) then k2e0 else (kR2 v2x0 (wk64 (v2x1 + 1)))) else (none)) else (none)) else k2e1)
def allPl_F2 : Nat → Bytes → Int → (Option Rs) → (Option Rs) → Option Rs
  | 0, _, _, _, _ => none
  | n + 1, v2x0, v2x1, k2e0, k2e1 => allPl_T2 v2x0 v2x1 (fun v2x0 v2x1 => allPl_F2 n v2x0 v2x1 k2e0 k2e1) k2e0 k2e1
abbrev allPl_p2 : SP := ⟨18, [0, 1, 5], [(.v .s), (.v (.fn 162 [])), (.v (.i .i64))], []⟩
noncomputable def allPl_b2 : Code := codeAt (codeOf Tryz.f92) [1, 0, 1, 0, 0]
def allPl_E2 (f : (Option Rs) → (Option Rs) → Option Rs) (k : KT) : Option Rs := f (k Ex.ret ((St.mk (slots 0 18 [(4, (AV.bool false))]) ([] : (List (Nat × (Ob))))))) (k (Ex.exit 0) ((St.mk (slots 0 18 []) ([] : (List (Nat × (Ob)))))))
def allPl_G2 (n : Nat) (d : allPl_p2.D) : KT → Option Rs := allPl_E2 (allPl_F2 n d.1.1 d.1.2.2.1)
def allPl_L (N : Nat) : Lam := lamOf [⟨2, allPl_p2, allPl_G2 N⟩]
theorem allPl_ok2 (N : Nat) : OkL Kx allPl_C.s allPl_O 0 N (allPl_L N) allPl_b2 := okL allPl_p2 (allPl_G2) (fun d kR => allPl_E2 (allPl_T2 d.1.1 d.1.2.2.1 (fun v2x0 v2x1 => kR ((v2x0, (), v2x1, ()), ())))) (fun _ _ => by kernel_rfl) (fun _ _ _ => by kernel_rfl) (fun _ _ => by kernel_rfl) (fun _ _ _ _ => by kernel_rfl) (okEach (l' := []) (by kernel_rfl) trivial)
def allPl_run (N : Nat) (s : Bytes) : Option Rs := (allPl_F2 N s 0 (some ((AV.bool false), [])) (some ((AV.bool true), [])))
def allPl_sOf (φ : Bytes → Br) : List AV → List Ob → Br
  | [.str s, .fn 162 []], [] => φ s
  | _, _ => .fail
theorem allPl_okOf {φ : Bytes → Br} (fu : Bytes → Nat) (hv : ∀ s res_, (φ s).val = some res_ → allPl_run (fu s) s = some res_) : Sound Kx 92 (allPl_sOf φ) := sound_lp (C := allPl_C) (O := allPl_O) Tryz.func92 (by kernel_rfl) fun args objs => by
  unfold allPl_sOf; split
  · rename_i s; exact .inr fun _ hyp_ => run_lp (Λ := allPl_L (fu s)) (by kernel_rfl) (okEach (l' := [allPl_b2]) (by kernel_rfl) ⟨allPl_ok2 _, trivial⟩) (by kernel_rfl) (hv s _ hyp_)
  · exact .inl rfl

def splains_O : Opt := { live := [(2, [0, 3])], outs := [(2, [2])] }
def splains_C : SC := [⟨209, _, splain_okQ⟩]
def splains_T2 (v2x0 : Bytes) (v2x1 : Int) (kR2 : Bytes → Int → Option Rs) (k2e0 k2e1 : Option Rs) : Option Rs :=
  (bif (decide (v2x1 < (v2x0.length : Int))) then (bif (decide (0 ≤ v2x1)) then (bif (decide (v2x1 < (v2x0.length : Int))) then (bif (!(isPl (strAt v2x0 v2x1))) then k2e0 else (kR2 v2x0 (wk64 (v2x1 + 1)))) else (none)) else (none)) else k2e1)
def splains_F2 : Nat → Bytes → Int → (Option Rs) → (Option Rs) → Option Rs
  | 0, _, _, _, _ => none
  | n + 1, v2x0, v2x1, k2e0, k2e1 => splains_T2 v2x0 v2x1 (fun v2x0 v2x1 => splains_F2 n v2x0 v2x1 k2e0 k2e1) k2e0 k2e1
abbrev splains_p2 : SP := ⟨15, [0, 3], [(.v .s), (.v (.i .i64))], []⟩
noncomputable def splains_b2 : Code := codeAt (codeOf Tryz.f159) [1, 0, 1, 0, 0]
def splains_E2 (f : (Option Rs) → (Option Rs) → Option Rs) (k : KT) : Option Rs := f (k Ex.ret ((St.mk (slots 0 15 [(2, (AV.bool false))]) ([] : (List (Nat × (Ob))))))) (k (Ex.exit 0) ((St.mk (slots 0 15 []) ([] : (List (Nat × (Ob)))))))
def splains_G2 (n : Nat) (d : splains_p2.D) : KT → Option Rs := splains_E2 (splains_F2 n d.1.1 d.1.2.1)
def splains_L (N : Nat) : Lam := lamOf [⟨2, splains_p2, splains_G2 N⟩]
theorem splains_ok2 (N : Nat) : OkL Kx splains_C.s splains_O 0 N (splains_L N) splains_b2 := okL splains_p2 (splains_G2) (fun d kR => splains_E2 (splains_T2 d.1.1 d.1.2.1 (fun v2x0 v2x1 => kR ((v2x0, v2x1, ()), ())))) (fun _ _ => by kernel_rfl) (fun _ _ _ => by kernel_rfl) (fun _ _ => by kernel_rfl) (fun _ _ _ _ => by kernel_rfl) (okEach (l' := []) (by kernel_rfl) trivial)
def splains_run (N : Nat) (s : Bytes) : Option Rs := (splains_F2 N s 0 (some ((AV.bool false), [])) (some ((AV.bool true), [])))
def splains_sOf (φ : Bytes → Br) : List AV → List Ob → Br
  | [.str s], [] => φ s
  | _, _ => .fail
theorem splains_okOf {φ : Bytes → Br} (fu : Bytes → Nat) (hv : ∀ s res_, (φ s).val = some res_ → splains_run (fu s) s = some res_) : Sound Kx 159 (splains_sOf φ) := sound_lp (C := splains_C) (O := splains_O) Tryz.func159 (by kernel_rfl) fun args objs => by
  unfold splains_sOf; split
  · rename_i s; exact .inr fun _ hyp_ => run_lp (Λ := splains_L (fu s)) (by kernel_rfl) (okEach (l' := [splains_b2]) (by kernel_rfl) ⟨splains_ok2 _, trivial⟩) (by kernel_rfl) (hv s _ hyp_)
  · exact .inl rfl

def svis_O : Opt := { live := [(2, [0, 3])], outs := [(2, [0, 2])] }
def svis_T2 (v2x0 : Bytes) (v2x1 : Int) (kR2 : Bytes → Int → Option Rs) (k2e0 k2e1 : Bytes → Option Rs) : Option Rs :=
  (bif (decide (v2x1 < (v2x0.length : Int))) then (bif (decide (0 ≤ v2x1)) then (bif (decide (v2x1 < (v2x0.length : Int))) then (bif (decide ((strAt v2x0 v2x1) < 33)) then (k2e0 v2x0) else (bif (decide (0 ≤ v2x1)) then (bif (decide (v2x1 < (v2x0.length : Int))) then (bif (decide (126 < (strAt v2x0 v2x1))) then (k2e0 v2x0) else (kR2 v2x0 (wk64 (v2x1 + 1)))) else (none)) else (none))) else (none)) else (none)) else (k2e1 v2x0))
def svis_F2 : Nat → Bytes → Int → (Bytes → Option Rs) → (Bytes → Option Rs) → Option Rs
  | 0, _, _, _, _ => none
  | n + 1, v2x0, v2x1, k2e0, k2e1 => svis_T2 v2x0 v2x1 (fun v2x0 v2x1 => svis_F2 n v2x0 v2x1 k2e0 k2e1) k2e0 k2e1
abbrev svis_p2 : SP := ⟨23, [0, 3], [(.v .s), (.v (.i .i64))], []⟩
noncomputable def svis_b2 : Code := codeAt (codeOf Tryz.f106) [1, 0, 1, 0, 0]
def svis_E2 (f : (Bytes → Option Rs) → (Bytes → Option Rs) → Option Rs) (k : KT) : Option Rs := f (fun x2x0x0 => k Ex.ret ((St.mk (slots 0 23 [(0, (AV.str x2x0x0)), (2, (AV.bool false))]) ([] : (List (Nat × (Ob))))))) (fun x2x1x0 => k (Ex.exit 0) ((St.mk (slots 0 23 [(0, (AV.str x2x1x0))]) ([] : (List (Nat × (Ob)))))))
def svis_G2 (n : Nat) (d : svis_p2.D) : KT → Option Rs := svis_E2 (svis_F2 n d.1.1 d.1.2.1)
def svis_L (N : Nat) : Lam := lamOf [⟨2, svis_p2, svis_G2 N⟩]
theorem svis_ok2 (N : Nat) : OkL Kx noS svis_O 0 N (svis_L N) svis_b2 := okL svis_p2 (svis_G2) (fun d kR => svis_E2 (svis_T2 d.1.1 d.1.2.1 (fun v2x0 v2x1 => kR ((v2x0, v2x1, ()), ())))) (fun _ _ => by kernel_rfl) (fun _ _ _ => by kernel_rfl) (fun _ _ => by kernel_rfl) (fun _ _ _ _ => by kernel_rfl) (okEach (l' := []) (by kernel_rfl) trivial)
def svis_run (N : Nat) (s : Bytes) : Option Rs := (svis_F2 N s 0 (fun x2x0x0 => (some ((AV.bool false), []))) (fun x2x1x0 => (some ((AV.bool (decide (0 < (x2x1x0.length : Int)))), []))))
def svis_sOf (φ : Bytes → Br) : List AV → List Ob → Br
  | [.str s], [] => φ s
  | _, _ => .fail
theorem svis_okOf {φ : Bytes → Br} (fu : Bytes → Nat) (hv : ∀ s res_, (φ s).val = some res_ → svis_run (fu s) s = some res_) : Sound Kx 106 (svis_sOf φ) := sound_lp (C := []) (O := svis_O) Tryz.func106 (by kernel_rfl) fun args objs => by
  unfold svis_sOf; split
  · rename_i s; exact .inr fun _ hyp_ => run_lp (Λ := svis_L (fu s)) (by kernel_rfl) (okEach (l' := [svis_b2]) (by kernel_rfl) ⟨svis_ok2 _, trivial⟩) (by kernel_rfl) (hv s _ hyp_)
  · exact .inl rfl


theorem isM_le {s : Bytes} (h : isM s = true) : s.length ≤ 4611686018427387904 := of_decide_eq_true h

theorem shas_loop (l : Bytes) (b : Int) (hl : l.length ≤ 4611686018427387904) (k0 k1 : Option Rs) : ∀ (r : Bytes) (i : Int) (n : Nat), At l i r → r.length < n → shas_F2 n l b i k0 k1 = bif r.any (fun c => decide (by8 c = b)) then k0 else k1 := by
  intro r; induction r with
  | nil => intro i n h hn; obtain ⟨n, rfl⟩ := fuel hn; unfold shas_F2 shas_T2; simp only [h.dge, cond_false, List.any_nil]
  | cons a r ih =>
    intro i n h hn; obtain ⟨n, rfl⟩ := fuel hn
    have hs := ih (i + 1) n h.step (by simp at hn; omega)
    unfold shas_F2 shas_T2; simp only [h.dlt, h.dnn, h.str, cond_true, h.next hl, hs, List.any_cons]
    cases decide (by8 a = b) <;> rfl
def has_s (p : Bytes → Int → Bool) : List AV → List Ob → Br
  | [.str s, .int .u8 b], [] => .ite (isM s) (.ret (.bool (p s b)) []) .fail
  | _, _ => .fail
def hasB (s : Bytes) (b : Int) : Bool := s.any fun c => decide (by8 c = b)
theorem shas_okQ : Sound Kx 242 (has_s hasB) := by
  refine (shas_okOf (φ := fun s b => .ite (isM s) (.ret (.bool (hasB s b)) []) .fail) (fun s b => s.length + 1) fun s b r h => ?_).of fun args objs r h => ?_
  · obtain ⟨h1, h2⟩ := ite_some h
    unfold shas_run
    rw [shas_loop s b (isM_le h1) _ _ s 0 _ (At.start s) (by omega), ← h2]
    unfold hasB
    cases s.any fun c => decide (by8 c = b) <;> rfl
  · unfold has_s at h; split at h
    · exact h
    · cases h
theorem ixOf_iff (s : Bytes) (b : Int) (h0 : 0 ≤ b) (h1 : b < 256) : (0 ≤ ixOf s b) ↔ hasB s b = true := by
  unfold ixOf hasB
  induction s with
  | nil => simp [Go.Lib.indexByte]
  | cons a r ih =>
    have hc : (a = b.toNat.toUInt8) ↔ by8 a = b := by
      unfold by8
      constructor
      · intro h; rw [h]; simp; omega
      · intro h; rw [← h]; simp
    show (0 ≤ if (a == b.toNat.toUInt8) = true then 0 else if (Go.Lib.indexByte r b.toNat.toUInt8 == -1) = true then -1 else Go.Lib.indexByte r b.toNat.toUInt8 + 1) ↔ _
    rw [List.any_cons]
    by_cases h : a = b.toNat.toUInt8
    · rw [if_pos (beq_iff_eq.2 h), decide_eq_true (hc.1 h)]; simp
    · rw [if_neg (fun e => h (beq_iff_eq.1 e)), decide_eq_false (fun e => h (hc.2 e)), Bool.false_or, ← ih]
      have := Go.Lib.indexByte_ge r b.toNat.toUInt8
      split
      · rename_i g; have := beq_iff_eq.1 g; omega
      · rename_i g; have : ¬ Go.Lib.indexByte r b.toNat.toUInt8 = -1 := fun e => g (beq_iff_eq.2 e); omega
theorem ixOf_nn (s : Bytes) (b : Int) (h0 : 0 ≤ b) (h1 : b < 256) : decide (0 ≤ ixOf s b) = hasB s b := by
  rw [Bool.eq_iff_iff, decide_eq_true_eq]; exact ixOf_iff s b h0 h1

def tok_s : List AV → List Ob → Br
  | [.int .u8 b], [] => .ite (decide (0 ≤ b) && decide (b < 256)) (.ret (.bool (isTok b)) []) .fail
  | _, _ => .fail
theorem isTokB_okQ : Sound Kx 211 tok_s := isTokB_ok.of fun args objs r h => by
  unfold tok_s at h; split at h
  · rename_i b
    obtain ⟨h1, h2⟩ := ite_some h
    simp only [Bool.and_eq_true, decide_eq_true_eq] at h1
    rw [← h2]
    show (isTokB_br b).val = _
    unfold isTokB_br isTok
    rw [ixOf_nn _ _ h1.1 h1.2]
    unfold hasB tokSet
    cases isLow b <;> cases isUp b <;> cases isDig b <;> cases decide (b = 96) <;> simp only [Br.val, Bool.true_or, Bool.false_or]
  · cases h

theorem set_at {l r : List Int} {i a : Int} (h : At l i (a :: r)) (b : Int) : At (l.set i.toNat b) i (b :: r) := by
  obtain ⟨p, rfl, rfl⟩ := h; exact ⟨p, by simp, rfl⟩
theorem set_self {l r : List Int} {i a : Int} (h : At l i (a :: r)) : l.set i.toNat a = l := by
  obtain ⟨p, rfl, rfl⟩ := h; simp
theorem ifold_loop (m : Int) (k : List Int → Option Rs) : ∀ (r l : List Int) (i : Int) (n : Nat), At l i r → r.length < n → m = (l.length : Int) → l.length ≤ 4611686018427387904 → (∀ b ∈ r, 0 ≤ b ∧ b < 256) →
    ifold_F3 n m i l k = k (l.take i.toNat ++ r.map lowI) := by
  intro r; induction r with
  | nil =>
    intro l i n h hn hm hl hb; obtain ⟨n, rfl⟩ := fuel hn
    subst hm
    unfold ifold_F3 ifold_T3; simp only [h.dge, cond_false, List.map_nil]
    congr 1; exact h.take.symm
  | cons a r ih =>
    intro l i n h hn hm hl hb; obtain ⟨n, rfl⟩ := fuel hn
    subst hm
    have ha := hb a (List.mem_cons_self ..)
    unfold ifold_F3 ifold_T3; simp only [h.dlt, h.dnn, h.get, cond_true, h.next hl, List.map_cons]
    have key : ∀ b, ifold_F3 n (l.length : Int) (i + 1) (l.set i.toNat b) k = k (l.take i.toNat ++ b :: r.map lowI) := by
      intro b
      have h' := set_at h b
      rw [ih _ (i + 1) n h'.step (by simp at hn; omega) (by simp) (by simpa using hl) (fun c hc => hb c (List.mem_cons_of_mem _ hc))]
      congr 1
      obtain ⟨p, rfl, rfl⟩ := h
      have e : ((p.length : Int) + 1).toNat = p.length + 1 := by omega
      simp only [Int.toNat_natCast, set_mid, e]
      rw [List.take_append, List.take_append]
      simp [List.take_of_length_le]
    unfold lowI
    cases hu : isUp a
    · simp only [cond_false]
      have := key a
      rw [set_self h] at this
      rw [this]; rfl
    · simp only [cond_true]
      unfold isUp at hu
      simp only [Bool.and_eq_true, decide_eq_true_eq] at hu
      rw [w8 (by omega) (by omega), key]; rfl
theorem bytesOf_len (s : Bytes) : (bytesOf s).length = s.length := by simp [bytesOf]
theorem bytesOf_in (s : Bytes) : ∀ b ∈ bytesOf s, 0 ≤ b ∧ b < 256 := by
  intro b hb
  simp only [bytesOf, List.mem_map] at hb
  obtain ⟨c, _, rfl⟩ := hb
  exact ⟨by omega, by have := c.toNat_lt; omega⟩
theorem foldP_len (s : Bytes) : (foldP s).length = s.length := by simp [foldP, ofBytes, bytesOf]
def t1_s (p : Bytes → AV) : List AV → List Ob → Br
  | [.str s], [] => .ite (isM s) (.ret (p s) []) .fail
  | _, _ => .fail
theorem of_t1 {n : Nat} {s : List AV → List Ob → Br} (hs : Sound Kx n s) {p : Bytes → AV} (h : ∀ x, isM x = true → (s [.str x] []).val = some (p x, [])) : Sound Kx n (t1_s p) := hs.of fun args objs r hv => by
  unfold t1_s at hv
  split at hv
  · obtain ⟨h1, h2⟩ := ite_some hv
    rw [h _ h1]; exact h2
  · cases hv
theorem of_u1 {n : Nat} {p : Bytes → AV} {sOf : (Bytes → Br) → List AV → List Ob → Br} (hs : Sound Kx n (sOf fun s => .ite (isM s) (.ret (p s) []) .fail)) (he : ∀ f x, sOf f [.str x] [] = f x) : Sound Kx n (t1_s p) :=
  of_t1 hs fun x hx => by rw [he]; simp only [Br.val, hx]
theorem ifold_okQ : Sound Kx 70 (t1_s fun s => .str (foldP s)) := by
  refine of_u1 (ifold_okOf (fun s => s.length + 1) fun s r h => ?_) fun _ _ => rfl
  obtain ⟨h1, h2⟩ := ite_some h
  unfold ifold_run
  rw [ifold_loop _ _ _ _ 0 _ (At.start _) (by rw [bytesOf_len]; omega) rfl (by rw [bytesOf_len]; exact isM_le h1) (bytesOf_in s), ← h2]
  rfl
theorem sfold_loop (k : List Int → Option Rs) : ∀ (r l : List Int) (i : Int) (n : Nat), At l i r → r.length < n → l.length ≤ 4611686018427387904 → (∀ b ∈ r, 0 ≤ b ∧ b < 256) →
    sfold_F3 n i l k = k (l.take i.toNat ++ r.map lowI) := by
  intro r; induction r with
  | nil =>
    intro l i n h hn hl hb; obtain ⟨n, rfl⟩ := fuel hn
    unfold sfold_F3 sfold_T3; simp only [h.dge, cond_false, List.map_nil]
    congr 1; exact h.take.symm
  | cons a r ih =>
    intro l i n h hn hl hb; obtain ⟨n, rfl⟩ := fuel hn
    have ha := hb a (List.mem_cons_self ..)
    have e0 : (decide (0 ≤ a) && decide (a < 256)) = true := by simp only [Bool.and_eq_true, decide_eq_true_eq]; exact ha
    unfold sfold_F3 sfold_T3; simp only [h.dlt, h.dnn, h.get, cond_true, h.next hl, List.map_cons, e0]
    have h' := set_at h (lowI a)
    rw [ih _ (i + 1) n h'.step (by simp at hn; omega) (by simpa using hl) (fun c hc => hb c (List.mem_cons_of_mem _ hc))]
    congr 1
    obtain ⟨p, rfl, rfl⟩ := h
    have e : ((p.length : Int) + 1).toNat = p.length + 1 := by omega
    simp only [Int.toNat_natCast, set_mid, e]
    rw [List.take_append, List.take_append]
    simp [List.take_of_length_le]
theorem sfold_okQ : Sound Kx 108 (t1_s fun s => .str (foldP s)) := by
  refine of_u1 (sfold_okOf (fun s => s.length + 1) fun s r h => ?_) fun _ _ => rfl
  obtain ⟨h1, h2⟩ := ite_some h
  unfold sfold_run
  rw [sfold_loop _ _ _ 0 _ (At.start _) (by rw [bytesOf_len]; omega) (by rw [bytesOf_len]; exact isM_le h1) (bytesOf_in s), ← h2]
  rfl

theorem cut1 (a : UInt8) (r : Bytes) : cut (a :: r) 1 (((a :: r).length : Nat) : Int) = r := by simp [cut]
theorem itrim1_loop (k : Bytes → Option Rs) : ∀ (s : Bytes) (n : Nat), s.length < n → itrim_F1 n s k = k (trimL s) := by
  intro s; induction s with
  | nil => intro n hn; obtain ⟨n, rfl⟩ := fuel hn; unfold itrim_F1 itrim_T1; rfl
  | cons a r ih =>
    intro n hn; obtain ⟨n, rfl⟩ := fuel hn
    have e1 : decide (a :: r = ([] : Bytes)) = false := rfl
    have e2 : decide ((0 : Int) < (((a :: r).length : Nat) : Int)) = true := decide_eq_true (by simp only [List.length_cons]; omega)
    have e3 : decide ((1 : Int) ≤ (((a :: r).length : Nat) : Int)) = true := decide_eq_true (by simp only [List.length_cons]; omega)
    have e4 : strAt (a :: r) 0 = by8 a := rfl
    unfold itrim_F1 itrim_T1
    simp only [e1, e2, e3, e4, Bool.not_false, cond_true, cut1]
    rw [ih n (by simp at hn; omega)]
    unfold trimL
    rw [List.dropWhile_cons]
    show (bif sp8 a then _ else _) = _
    cases sp8 a <;> rfl
theorem itrim3_loop (k : Bytes → Option Rs) : ∀ (q : Bytes) (n : Nat), q.length < n → q.length ≤ 4611686018427387904 → itrim_F3 n q.reverse k = k (trimR q.reverse) := by
  intro q; induction q with
  | nil => intro n hn _; obtain ⟨n, rfl⟩ := fuel hn; unfold itrim_F3 itrim_T3; rfl
  | cons a q ih =>
    intro n hn hl; obtain ⟨n, rfl⟩ := fuel hn
    have e1 : decide ((a :: q).reverse = ([] : Bytes)) = false := decide_eq_false (by simp)
    have e0 : wk64 ((((a :: q).reverse.length : Nat) : Int) - 1) = (q.length : Int) := by rw [w64 (by simp only [List.length_reverse, List.length_cons]; omega) (by simp only [List.length_reverse, List.length_cons] at hl ⊢; omega)]; simp
    have e2 : decide ((0 : Int) ≤ (q.length : Int)) = true := by simp
    have e3 : decide ((q.length : Int) < (((a :: q).reverse.length : Nat) : Int)) = true := decide_eq_true (by simp only [List.length_reverse, List.length_cons]; omega)
    have e5 : decide ((q.length : Int) ≤ (((a :: q).reverse.length : Nat) : Int)) = true := decide_eq_true (by simp only [List.length_reverse, List.length_cons]; omega)
    have e4 : strAt (a :: q).reverse (q.length : Int) = by8 a := by simp [strAt, by8, List.getD_eq_getElem?_getD]
    have e6 : cut (a :: q).reverse 0 (q.length : Int) = q.reverse := by simp [cut]
    unfold itrim_F3 itrim_T3
    simp only [e0, e1, e2, e3, e4, e5, e6, Bool.not_false, cond_true]
    rw [ih n (by simp at hn; omega) (by simp at hl; omega)]
    unfold trimR
    rw [List.reverse_reverse, List.reverse_reverse, List.dropWhile_cons]
    show (bif sp8 a then _ else _) = _
    cases sp8 a <;> simp
theorem trimL_len (s : Bytes) : (trimL s).length ≤ s.length := List.Sublist.length_le (List.dropWhile_sublist _)
theorem trimR_len (s : Bytes) : (trimR s).length ≤ s.length := by
  unfold trimR; rw [List.length_reverse]; exact Nat.le_trans (List.Sublist.length_le (List.dropWhile_sublist _)) (by simp)
theorem itrim_okQ : Sound Kx 163 (t1_s fun s => .str (trimP s)) := by
  refine of_u1 (itrim_okOf (fun s => s.length + 1) fun s r h => ?_) fun _ _ => rfl
  obtain ⟨h1, h2⟩ := ite_some h
  unfold itrim_run
  have hl := trimL_len s
  have := isM_le h1
  rw [itrim1_loop _ s _ (by omega)]
  have := itrim3_loop (fun x3x0x0 => some (AV.str x3x0x0, ([] : List Ob))) (trimL s).reverse (s.length + 1) (by simp; omega) (by simp; omega)
  rw [List.reverse_reverse] at this
  rw [this, ← h2]
  rfl
theorem strim2_loop (l : Bytes) (hl : l.length ≤ 4611686018427387904) (k : Bytes → Int → Option Rs) : ∀ (r : Bytes) (i : Int) (n : Nat), At l i r → r.length < n → ∃ j, At l j (trimL r) ∧ strim_F2 n l i k = k l j := by
  intro r; induction r with
  | nil => intro i n h hn; obtain ⟨n, rfl⟩ := fuel hn; refine ⟨i, h, ?_⟩; unfold strim_F2 strim_T2; simp only [h.dge, cond_false]
  | cons a r ih =>
    intro i n h hn; obtain ⟨n, rfl⟩ := fuel hn
    obtain ⟨j, hj, hs⟩ := ih (i + 1) n h.step (by simp at hn; omega)
    unfold trimL
    rw [List.dropWhile_cons]
    unfold strim_F2 strim_T2
    simp only [h.dlt, h.dnn, h.str, cond_true, h.next hl, hs]
    have e : isSp (by8 a) = sp8 a := rfl
    rw [e]
    cases sp8 a
    · exact ⟨i, h, rfl⟩
    · exact ⟨j, hj, rfl⟩
theorem strim5_loop (l p : Bytes) (hl : l.length ≤ 4611686018427387904) (k : Bytes → Int → Int → Option Rs) : ∀ (q t : Bytes) (n : Nat), l = p ++ q.reverse ++ t → q.length < n → strim_F5 n l (p.length : Int) ((p.length : Int) + q.length) k = k l (p.length : Int) ((p.length : Int) + (trimR q.reverse).length) := by
  intro q; induction q with
  | nil =>
    intro t n h hn; obtain ⟨n, rfl⟩ := fuel hn
    have e : decide ((p.length : Int) < (p.length : Int) + (([] : Bytes).length : Int)) = false := by simp
    unfold strim_F5 strim_T5; simp only [e, cond_false]; rfl
  | cons a q ih =>
    intro t n h hn; obtain ⟨n, rfl⟩ := fuel hn
    have hlen : l.length = p.length + q.length + 1 + t.length := by rw [h]; simp; omega
    have e1 : decide ((p.length : Int) < (p.length : Int) + (((a :: q).length : Nat) : Int)) = true := by simp; omega
    have e0 : wk64 ((p.length : Int) + (((a :: q).length : Nat) : Int) - 1) = (p.length : Int) + q.length := by rw [w64 (by simp; omega) (by simp; omega)]; simp; omega
    have e2 : decide ((0 : Int) ≤ (p.length : Int) + q.length) = true := by simp; omega
    have e3 : decide ((p.length : Int) + q.length < (l.length : Int)) = true := by rw [hlen]; simp; omega
    have e4 : strAt l ((p.length : Int) + q.length) = by8 a := by
      have e5 : ((p.length : Int) + (q.length : Int)).toNat = (p ++ q.reverse).length := by simp; omega
      unfold strAt by8
      rw [e5, h]
      have : p ++ (a :: q).reverse ++ t = (p ++ q.reverse) ++ a :: t := by simp
      rw [this, getD_mid]
    unfold strim_F5 strim_T5
    simp only [e0, e1, e2, e3, e4, cond_true]
    rw [ih (a :: t) n (by rw [h]; simp) (by simp at hn; omega)]
    unfold trimR
    rw [List.reverse_reverse, List.reverse_reverse, List.dropWhile_cons]
    show (bif sp8 a then _ else _) = _
    cases sp8 a <;> simp
theorem cut_mid (p m t : Bytes) : cut (p ++ m ++ t) (p.length : Int) ((p.length : Int) + m.length) = m := by
  unfold cut
  have e1 : ((p.length : Int) + (m.length : Int)).toNat = p.length + m.length := by omega
  rw [e1, Int.toNat_natCast, List.append_assoc, List.take_append, List.drop_append]
  simp
theorem trimR_pre (s : Bytes) : ∃ t, s = trimR s ++ t := by
  refine ⟨(s.reverse.takeWhile sp8).reverse, ?_⟩
  unfold trimR
  rw [← List.reverse_append, List.takeWhile_append_dropWhile, List.reverse_reverse]
theorem strim_okQ : Sound Kx 160 (t1_s fun s => .str (trimP s)) := by
  refine of_u1 (strim_okOf (fun s => s.length + 1) fun s r h => ?_) fun _ _ => rfl
  obtain ⟨h1, h2⟩ := ite_some h
  have hl := isM_le h1
  unfold strim_run
  obtain ⟨j, ⟨p, hp, rfl⟩, hs⟩ := strim2_loop s hl (fun x2x0x0 x2x0x1 => strim_F5 (s.length + 1) x2x0x0 x2x0x1 ((List.length x2x0x0) : Int) (fun x5x0x0 x5x0x1 x5x0x2 => bif decide ((0 : Int) ≤ x5x0x1) then (bif decide (x5x0x1 ≤ x5x0x2) then (bif decide (x5x0x2 ≤ ((List.length x5x0x0) : Int)) then some (AV.str (cut x5x0x0 x5x0x1 x5x0x2), ([] : List Ob)) else none) else none) else none)) s 0 (s.length + 1) (At.start s) (by omega)
  rw [hs]
  have hlen : (s.length : Int) = (p.length : Int) + ((trimL s).reverse.length : Int) := by
    have := congrArg List.length hp
    simp only [List.length_append] at this
    rw [List.length_reverse]; omega
  have hle := trimL_len s
  rw [hlen, strim5_loop s p hl _ (trimL s).reverse [] _ (by simpa using hp) (by simp; omega), List.reverse_reverse]
  obtain ⟨t, ht⟩ := trimR_pre (trimL s)
  have hc := cut_mid p (trimR (trimL s)) t
  rw [List.append_assoc, ← ht, ← hp] at hc
  have hr := trimR_len (trimL s)
  have e1 : decide ((0 : Int) ≤ (p.length : Int)) = true := by simp
  have e2 : decide ((p.length : Int) ≤ (p.length : Int) + ((trimR (trimL s)).length : Int)) = true := decide_eq_true (by omega)
  have e3 : decide ((p.length : Int) + ((trimR (trimL s)).length : Int) ≤ (s.length : Int)) = true := by rw [hlen]; simp; omega
  simp only [e1, e2, e3, cond_true, hc]
  rw [← h2]; rfl

theorem allVis_loop (l : Bytes) (hl : l.length ≤ 4611686018427387904) (k0 k1 : Option Rs) : ∀ (r : Bytes) (i : Int) (n : Nat), At l i r → r.length < n → allVis_F2 n l i k0 k1 = bif allP isVis r then k1 else k0 := by
  intro r; induction r with
  | nil => intro i n h hn; obtain ⟨n, rfl⟩ := fuel hn; unfold allVis_F2 allVis_T2; simp only [h.dge, cond_false, allP, List.all_nil, cond_true]
  | cons a r ih =>
    intro i n h hn; obtain ⟨n, rfl⟩ := fuel hn
    have hs := ih (i + 1) n h.step (by simp at hn; omega)
    unfold allVis_F2 allVis_T2; simp only [h.dlt, h.dnn, h.str, cond_true, h.next hl, hs, allP, List.all_cons]
    cases isVis (by8 a) <;> rfl
def allVis_s := allVis_sOf fun s => .ite (isM s) (.ret (.bool (allP isVis s)) []) .fail
theorem allVis_okQ : Sound Kx 92 allVis_s := by
  refine allVis_okOf (fun s => s.length + 1) fun s r h => ?_
  obtain ⟨h1, h2⟩ := ite_some h
  unfold allVis_run
  rw [allVis_loop s (isM_le h1) _ _ s 0 _ (At.start s) (by omega), ← h2]
  cases allP isVis s <;> rfl

theorem allPl_loop (l : Bytes) (hl : l.length ≤ 4611686018427387904) (k0 k1 : Option Rs) : ∀ (r : Bytes) (i : Int) (n : Nat), At l i r → r.length < n → allPl_F2 n l i k0 k1 = bif allP isPl r then k1 else k0 := by
  intro r; induction r with
  | nil => intro i n h hn; obtain ⟨n, rfl⟩ := fuel hn; unfold allPl_F2 allPl_T2; simp only [h.dge, cond_false, allP, List.all_nil, cond_true]
  | cons a r ih =>
    intro i n h hn; obtain ⟨n, rfl⟩ := fuel hn
    have hs := ih (i + 1) n h.step (by simp at hn; omega)
    unfold allPl_F2 allPl_T2; simp only [h.dlt, h.dnn, h.str, cond_true, h.next hl, hs, allP, List.all_cons]
    cases isPl (by8 a) <;> rfl
def allPl_s := allPl_sOf fun s => .ite (isM s) (.ret (.bool (allP isPl s)) []) .fail
theorem allPl_okQ : Sound Kx 92 allPl_s := by
  refine allPl_okOf (fun s => s.length + 1) fun s r h => ?_
  obtain ⟨h1, h2⟩ := ite_some h
  unfold allPl_run
  rw [allPl_loop s (isM_le h1) _ _ s 0 _ (At.start s) (by omega), ← h2]
  cases allP isPl s <;> rfl

theorem splains_loop (l : Bytes) (hl : l.length ≤ 4611686018427387904) (k0 k1 : Option Rs) : ∀ (r : Bytes) (i : Int) (n : Nat), At l i r → r.length < n → splains_F2 n l i k0 k1 = bif allP isPl r then k1 else k0 := by
  intro r; induction r with
  | nil => intro i n h hn; obtain ⟨n, rfl⟩ := fuel hn; unfold splains_F2 splains_T2; simp only [h.dge, cond_false, allP, List.all_nil, cond_true]
  | cons a r ih =>
    intro i n h hn; obtain ⟨n, rfl⟩ := fuel hn
    have hs := ih (i + 1) n h.step (by simp at hn; omega)
    unfold splains_F2 splains_T2; simp only [h.dlt, h.dnn, h.str, cond_true, h.next hl, hs, allP, List.all_cons]
    cases isPl (by8 a) <;> rfl
theorem splains_okQ : Sound Kx 159 (t1_s fun s => .bool (allP isPl s)) := by
  refine of_u1 (splains_okOf (fun s => s.length + 1) fun s r h => ?_) fun _ _ => rfl
  obtain ⟨h1, h2⟩ := ite_some h
  unfold splains_run
  rw [splains_loop s (isM_le h1) _ _ s 0 _ (At.start s) (by omega), ← h2]
  cases allP isPl s <;> rfl

theorem svis_loop (l : Bytes) (hl : l.length ≤ 4611686018427387904) (k0 k1 : Bytes → Option Rs) : ∀ (r : Bytes) (i : Int) (n : Nat), At l i r → r.length < n → svis_F2 n l i k0 k1 = bif allP isVis r then k1 l else k0 l := by
  intro r; induction r with
  | nil => intro i n h hn; obtain ⟨n, rfl⟩ := fuel hn; unfold svis_F2 svis_T2; simp only [h.dge, cond_false, allP, List.all_nil, cond_true]
  | cons a r ih =>
    intro i n h hn; obtain ⟨n, rfl⟩ := fuel hn
    have hs := ih (i + 1) n h.step (by simp at hn; omega)
    unfold svis_F2 svis_T2; simp only [h.dlt, h.dnn, h.str, cond_true, h.next hl, hs, allP, List.all_cons, isVis]
    by_cases g1 : by8 a < 33 <;> by_cases g2 : 126 < by8 a
    · have e1 : ¬ 33 ≤ by8 a := by omega
      simp only [g1, e1, decide_true, decide_false, cond_true, Bool.false_and, cond_false]
    · have e1 : ¬ 33 ≤ by8 a := by omega
      simp only [g1, e1, decide_true, decide_false, cond_true, Bool.false_and, cond_false]
    · have e1 : 33 ≤ by8 a := by omega
      have e2 : ¬ by8 a ≤ 126 := by omega
      simp only [g1, g2, e1, e2, decide_true, decide_false, cond_true, Bool.false_and, Bool.and_false, cond_false]
    · have e1 : 33 ≤ by8 a := by omega
      have e2 : by8 a ≤ 126 := by omega
      simp only [g1, g2, e1, e2, decide_true, decide_false, cond_true, Bool.true_and, cond_false]
theorem svis_okQ : Sound Kx 106 (t1_s fun s => .bool (allP isVis s && decide ((0 : Int) < (s.length : Int)))) := by
  refine of_u1 (svis_okOf (fun s => s.length + 1) fun s r h => ?_) fun _ _ => rfl
  obtain ⟨h1, h2⟩ := ite_some h
  unfold svis_run
  rw [svis_loop s (isM_le h1) _ _ s 0 _ (At.start s) (by omega), ← h2]
  cases allP isVis s <;> rfl


def stchar_C : SC := [⟨167, _, slower_okQ⟩, ⟨141, _, sdigit_okQ⟩, ⟨242, _, shas_okQ⟩]
def stchar_br (b : Int) : Br := (Br.ite ((decide (0 ≤ b)) && (decide (b < 256))) (Br.ite (decide (97 ≤ (lowI b))) (Br.ite (decide ((lowI b) ≤ 122)) (Br.ret (AV.bool true) []) (Br.ite (isDig b) (Br.ret (AV.bool true) []) (Br.ite (decide (b = 96)) (Br.ret (AV.bool true) []) (Br.ret (AV.bool (hasB ([33, 35, 36, 37, 38, 39, 42, 43, 45, 46, 94, 95, 124, 126] : Bytes) b)) [])))) (Br.ite (isDig b) (Br.ret (AV.bool true) []) (Br.ite (decide (b = 96)) (Br.ret (AV.bool true) []) (Br.ret (AV.bool (hasB ([33, 35, 36, 37, 38, 39, 42, 43, 45, 46, 94, 95, 124, 126] : Bytes) b)) [])))) Br.fail)
def stchar_s : List AV → List Ob → Br
  | [.int .u8 b], [] => stchar_br b
  | _, _ => .fail
theorem stchar_ok : Sound Kx 208 stchar_s := sound_br (C := stchar_C) (O := O0) Tryz.func208 (by kernel_rfl) fun args objs => by
  unfold stchar_s; split
  · exact .inr (by kernel_rfl)
  · exact .inl rfl

def allTok_O : Opt := { live := [(2, [0, 1, 5])], outs := [(2, [4])] }
def allTok_C : SC := [⟨211, _, isTokB_okQ⟩]
def allTok_T2 (v2x0 : Bytes) (v2x1 : Int) (kR2 : Bytes → Int → Option Rs) (k2e0 k2e1 : Option Rs) : Option Rs :=
  (bif (decide (v2x1 < (v2x0.length : Int))) then (bif (decide (0 ≤ v2x1)) then (bif (decide (v2x1 < (v2x0.length : Int))) then (bif ((decide (0 ≤ (strAt v2x0 v2x1))) && (decide ((strAt v2x0 v2x1) < 256))) then (bif (!(isTok (strAt v2x0 v2x1))) then k2e0 else (kR2 v2x0 (wk64 (v2x1 + 1)))) else (none)) else (none)) else (none)) else k2e1)
def allTok_F2 : Nat → Bytes → Int → (Option Rs) → (Option Rs) → Option Rs
  | 0, _, _, _, _ => none
  | n + 1, v2x0, v2x1, k2e0, k2e1 => allTok_T2 v2x0 v2x1 (fun v2x0 v2x1 => allTok_F2 n v2x0 v2x1 k2e0 k2e1) k2e0 k2e1
abbrev allTok_p2 : SP := ⟨18, [0, 1, 5], [(.v .s), (.v (.fn 211 [])), (.v (.i .i64))], []⟩
noncomputable def allTok_b2 : Code := codeAt (codeOf Tryz.f92) [1, 0, 1, 0, 0]
def allTok_E2 (f : (Option Rs) → (Option Rs) → Option Rs) (k : KT) : Option Rs := f (k Ex.ret ((St.mk (slots 0 18 [(4, (AV.bool false))]) ([] : (List (Nat × (Ob))))))) (k (Ex.exit 0) ((St.mk (slots 0 18 []) ([] : (List (Nat × (Ob)))))))
def allTok_G2 (n : Nat) (d : allTok_p2.D) : KT → Option Rs := allTok_E2 (allTok_F2 n d.1.1 d.1.2.2.1)
def allTok_L (N : Nat) : Lam := lamOf [⟨2, allTok_p2, allTok_G2 N⟩]
theorem allTok_ok2 (N : Nat) : OkL Kx allTok_C.s allTok_O 0 N (allTok_L N) allTok_b2 := okL allTok_p2 (allTok_G2) (fun d kR => allTok_E2 (allTok_T2 d.1.1 d.1.2.2.1 (fun v2x0 v2x1 => kR ((v2x0, (), v2x1, ()), ())))) (fun _ _ => by kernel_rfl) (fun _ _ _ => by kernel_rfl) (fun _ _ => by kernel_rfl) (fun _ _ _ _ => by kernel_rfl) (okEach (l' := []) (by kernel_rfl) trivial)
def allTok_run (N : Nat) (s : Bytes) : Option Rs := (allTok_F2 N s 0 (some ((AV.bool false), [])) (some ((AV.bool true), [])))
def allTok_sOf (φ : Bytes → Br) : List AV → List Ob → Br
  | [.str s, .fn 211 []], [] => φ s
  | _, _ => .fail
theorem allTok_okOf {φ : Bytes → Br} (fu : Bytes → Nat) (hv : ∀ s res_, (φ s).val = some res_ → allTok_run (fu s) s = some res_) : Sound Kx 92 (allTok_sOf φ) := sound_lp (C := allTok_C) (O := allTok_O) Tryz.func92 (by kernel_rfl) fun args objs => by
  unfold allTok_sOf; split
  · rename_i s; exact .inr fun _ hyp_ => run_lp (Λ := allTok_L (fu s)) (by kernel_rfl) (okEach (l' := [allTok_b2]) (by kernel_rfl) ⟨allTok_ok2 _, trivial⟩) (by kernel_rfl) (hv s _ hyp_)
  · exact .inl rfl

def isame_C : SC := [⟨70, _, ifold_okQ⟩]
def isame_br (s t : Bytes) : Br := (Br.ite (isM s) (Br.ite (isM t) (Br.ret (AV.bool (decide ((foldP s) = (foldP t)))) []) Br.fail) Br.fail)
def isame_s : List AV → List Ob → Br
  | [.str s, .str t], [] => isame_br s t
  | _, _ => .fail
theorem isame_ok : Sound Kx 76 isame_s := sound_br (C := isame_C) (O := O0) Tryz.func76 (by kernel_rfl) fun args objs => by
  unfold isame_s; split
  · exact .inr (by kernel_rfl)
  · exact .inl rfl

def ssame_C : SC := [⟨108, _, sfold_okQ⟩]
def ssame_br (s t : Bytes) : Br := (Br.ite (isM s) (Br.ite (isM t) (Br.ret (AV.bool (decide ((foldP s) = (foldP t)))) []) Br.fail) Br.fail)
def ssame_s : List AV → List Ob → Br
  | [.str s, .str t], [] => ssame_br s t
  | _, _ => .fail
theorem ssame_ok : Sound Kx 126 ssame_s := sound_br (C := ssame_C) (O := O0) Tryz.func126 (by kernel_rfl) fun args objs => by
  unfold ssame_s; split
  · exact .inr (by kernel_rfl)
  · exact .inl rfl

def isReason_C : SC := [⟨92, _, allPl_okQ⟩]
def isReason_br (s : Bytes) : Br := (Br.ite (decide ((s.length : Int) ≤ 40)) (Br.ite (isM s) (Br.ret (AV.bool (allP isPl s)) []) Br.fail) (Br.ret (AV.bool false) []))
def isReason_s : List AV → List Ob → Br
  | [.str s], [] => isReason_br s
  | _, _ => .fail
theorem isReason_ok : Sound Kx 131 isReason_s := sound_br (C := isReason_C) (O := O0) Tryz.func131 (by kernel_rfl) fun args objs => by
  unfold isReason_s; split
  · exact .inr (by kernel_rfl)
  · exact .inl rfl

def isTarget_C : SC := [⟨149, _, iwithin_ok⟩, ⟨92, _, allVis_okQ⟩]
def isTarget_br (s : Bytes) : Br := (Br.ite (decide (1 ≤ (s.length : Int))) (Br.ite (decide ((s.length : Int) ≤ 200)) (Br.ite (isM s) (Br.ret (AV.bool (allP isVis s)) []) Br.fail) (Br.ret (AV.bool false) [])) (Br.ret (AV.bool false) []))
def isTarget_s : List AV → List Ob → Br
  | [.str s], [] => isTarget_br s
  | _, _ => .fail
theorem isTarget_ok : Sound Kx 129 isTarget_s := sound_br (C := isTarget_C) (O := O0) Tryz.func129 (by kernel_rfl) fun args objs => by
  unfold isTarget_s; split
  · exact .inr (by kernel_rfl)
  · exact .inl rfl


theorem stchar_okQ : Sound Kx 208 tok_s := stchar_ok.of fun args objs r h => by
  unfold tok_s at h; split at h
  · rename_i b
    obtain ⟨h1, h2⟩ := ite_some h
    have h3 := h1
    simp only [Bool.and_eq_true, decide_eq_true_eq] at h3
    rw [← h2]
    show (stchar_br b).val = _
    unfold stchar_br isTok isLow
    have hm : isM ((33 : UInt8) :: 35 :: 36 :: 37 :: 38 :: 39 :: 42 :: 43 :: 45 :: 46 :: 94 :: 95 :: 124 :: 126 :: []) = true := by decide
    have hh : hasB ((33 : UInt8) :: 35 :: 36 :: 37 :: 38 :: 39 :: 42 :: 43 :: 45 :: 46 :: 94 :: 95 :: 124 :: 126 :: []) b = tokSet.any fun c => decide (by8 c = b) := rfl
    simp only [Br.val, h1, hm, hh]
    unfold lowI isUp
    by_cases g1 : 65 ≤ b <;> by_cases g2 : b ≤ 90 <;> by_cases g3 : 97 ≤ b <;> by_cases g4 : b ≤ 122 <;> first | (exfalso; omega) | skip
    all_goals simp only [g1, g2, g3, g4, decide_true, decide_false, Bool.and_true, Bool.and_false, Bool.false_and, Bool.true_and, cond_true, cond_false, Bool.true_or, Bool.false_or]
    all_goals first
      | rfl
      | (have e1 : (97 : Int) ≤ b + 32 := by omega
         have e2 : b + 32 ≤ 122 := by omega
         simp only [e1, e2, decide_true])
      | (cases isDig b <;> cases decide (b = 96) <;> rfl)
  · cases h
theorem allTok_loop (l : Bytes) (hl : l.length ≤ 4611686018427387904) (k0 k1 : Option Rs) : ∀ (r : Bytes) (i : Int) (n : Nat), At l i r → r.length < n → allTok_F2 n l i k0 k1 = bif allP isTok r then k1 else k0 := by
  intro r; induction r with
  | nil => intro i n h hn; obtain ⟨n, rfl⟩ := fuel hn; unfold allTok_F2 allTok_T2; simp only [h.dge, cond_false, allP, List.all_nil, cond_true]
  | cons a r ih =>
    intro i n h hn; obtain ⟨n, rfl⟩ := fuel hn
    have hs := ih (i + 1) n h.step (by simp at hn; omega)
    have e0 : (decide (0 ≤ by8 a) && decide (by8 a < 256)) = true := by simp only [Bool.and_eq_true, decide_eq_true_eq]; exact ⟨by8_nn a, by8_lt a⟩
    unfold allTok_F2 allTok_T2; simp only [h.dlt, h.dnn, h.str, cond_true, h.next hl, hs, allP, List.all_cons, e0]
    cases isTok (by8 a) <;> rfl
def allTok_s := allTok_sOf fun s => .ite (isM s) (.ret (.bool (allP isTok s)) []) .fail
theorem allTok_okQ : Sound Kx 92 allTok_s := by
  refine allTok_okOf (fun s => s.length + 1) fun s r h => ?_
  obtain ⟨h1, h2⟩ := ite_some h
  unfold allTok_run
  rw [allTok_loop s (isM_le h1) _ _ s 0 _ (At.start s) (by omega), ← h2]
  cases allP isTok s <;> rfl
def sameP (s t : Bytes) : Bool := decide (foldP s = foldP t)
def same_s : List AV → List Ob → Br
  | [.str s, .str t], [] => .ite (isM s && isM t) (.ret (.bool (sameP s t)) []) .fail
  | _, _ => .fail
theorem isame_okQ : Sound Kx 76 same_s := isame_ok.of fun args objs r h => by
  unfold same_s at h; split at h
  · rename_i s t
    obtain ⟨h1, h2⟩ := ite_some h
    rw [Bool.and_eq_true] at h1
    rw [← h2]
    show (isame_br s t).val = _
    unfold isame_br sameP
    simp only [Br.val, h1.1, h1.2]
  · cases h
theorem ssame_okQ : Sound Kx 126 same_s := ssame_ok.of fun args objs r h => by
  unfold same_s at h; split at h
  · rename_i s t
    obtain ⟨h1, h2⟩ := ite_some h
    rw [Bool.and_eq_true] at h1
    rw [← h2]
    show (ssame_br s t).val = _
    unfold ssame_br sameP
    simp only [Br.val, h1.1, h1.2]
  · cases h
def t0_s (p : Bytes → AV) : List AV → List Ob → Br
  | [.str s], [] => .ret (p s) []
  | _, _ => .fail
theorem of_t0 {n : Nat} {s : List AV → List Ob → Br} (hs : Sound Kx n s) {p : Bytes → AV} (h : ∀ x, (s [.str x] []).val = some (p x, [])) : Sound Kx n (t0_s p) := hs.of fun args objs r hv => by
  unfold t0_s at hv
  split at hv
  · rw [h]; exact hv
  · cases hv
theorem isM_of {s : Bytes} {n : Nat} (h : s.length ≤ n) (hn : n ≤ 4611686018427387904 := by decide) : isM s = true := decide_eq_true (Nat.le_trans h hn)
def reasonP (s : Bytes) : Bool := decide (s.length ≤ 40) && allP isPl s
def targetP (s : Bytes) : Bool := decide (1 ≤ s.length) && decide (s.length ≤ 200) && allP isVis s
theorem lenle (s : Bytes) (n : Nat) : decide ((s.length : Int) ≤ (n : Int)) = decide (s.length ≤ n) := by congr 1; apply propext; omega
theorem isReason_okQ : Sound Kx 131 (t0_s fun s => .bool (reasonP s)) := of_t0 isReason_ok fun s => by
  show (isReason_br s).val = _
  unfold isReason_br reasonP
  by_cases h : s.length ≤ 40
  · have h' : (s.length : Int) ≤ 40 := by omega
    simp only [Br.val, h, h', decide_true, isM_of h, Bool.true_and]
  · have h' : ¬ (s.length : Int) ≤ 40 := by omega
    simp only [Br.val, h, h', decide_false, Bool.false_and]
theorem isTarget_okQ : Sound Kx 129 (t0_s fun s => .bool (targetP s)) := of_t0 isTarget_ok fun s => by
  show (isTarget_br s).val = _
  unfold isTarget_br targetP
  by_cases h : 1 ≤ s.length
  · have h' : (1 : Int) ≤ (s.length : Int) := by omega
    by_cases g : s.length ≤ 200
    · have g' : (s.length : Int) ≤ 200 := by omega
      simp only [Br.val, h, h', g, g', decide_true, isM_of g, Bool.true_and]
    · have g' : ¬ (s.length : Int) ≤ 200 := by omega
      simp only [Br.val, h, h', g, g', decide_true, decide_false, Bool.true_and, Bool.false_and]
  · have h' : ¬ (1 : Int) ≤ (s.length : Int) := by omega
    simp only [Br.val, h, h', decide_false, Bool.false_and]


def iToken_C : SC := [⟨149, _, iwithin_ok⟩, ⟨92, _, allTok_okQ⟩]
def iToken_br (s : Bytes) : Br := (Br.ite (decide (1 ≤ (s.length : Int))) (Br.ite (decide ((s.length : Int) ≤ 4000)) (Br.ite (isM s) (Br.ret (AV.bool (allP isTok s)) []) Br.fail) (Br.ret (AV.bool false) [])) (Br.ret (AV.bool false) []))
def iToken_s : List AV → List Ob → Br
  | [.str s], [] => iToken_br s
  | _, _ => .fail
theorem iToken_ok : Sound Kx 161 iToken_s := sound_br (C := iToken_C) (O := O0) Tryz.func161 (by kernel_rfl) fun args objs => by
  unfold iToken_s; split
  · exact .inr (by kernel_rfl)
  · exact .inl rfl

def sToken_O : Opt := { live := [(4, [0, 3])], outs := [(4, [2])] }
def sToken_C : SC := [⟨208, _, stchar_okQ⟩]
def sToken_T4 (v4x0 : Bytes) (v4x1 : Int) (kR4 : Bytes → Int → Option Rs) (k4e0 k4e1 : Option Rs) : Option Rs :=
  (bif (decide (v4x1 < (v4x0.length : Int))) then (bif (decide (0 ≤ v4x1)) then (bif (decide (v4x1 < (v4x0.length : Int))) then (bif ((decide (0 ≤ (strAt v4x0 v4x1))) && (decide ((strAt v4x0 v4x1) < 256))) then (bif (!(isTok (strAt v4x0 v4x1))) then k4e0 else (kR4 v4x0 (wk64 (v4x1 + 1)))) else (none)) else (none)) else (none)) else k4e1)
def sToken_F4 : Nat → Bytes → Int → (Option Rs) → (Option Rs) → Option Rs
  | 0, _, _, _, _ => none
  | n + 1, v4x0, v4x1, k4e0, k4e1 => sToken_T4 v4x0 v4x1 (fun v4x0 v4x1 => sToken_F4 n v4x0 v4x1 k4e0 k4e1) k4e0 k4e1
abbrev sToken_p4 : SP := ⟨23, [0, 3], [(.v .s), (.v (.i .i64))], []⟩
noncomputable def sToken_b4 : Code := codeAt (codeOf Tryz.f158) [1, 1, 0, 1, 0, 0]
def sToken_E4 (f : (Option Rs) → (Option Rs) → Option Rs) (k : KT) : Option Rs := f (k Ex.ret ((St.mk (slots 0 23 [(2, (AV.bool false))]) ([] : (List (Nat × (Ob))))))) (k (Ex.exit 0) ((St.mk (slots 0 23 []) ([] : (List (Nat × (Ob)))))))
def sToken_G4 (n : Nat) (d : sToken_p4.D) : KT → Option Rs := sToken_E4 (sToken_F4 n d.1.1 d.1.2.1)
def sToken_L (N : Nat) : Lam := lamOf [⟨4, sToken_p4, sToken_G4 N⟩]
theorem sToken_ok4 (N : Nat) : OkL Kx sToken_C.s sToken_O 0 N (sToken_L N) sToken_b4 := okL sToken_p4 (sToken_G4) (fun d kR => sToken_E4 (sToken_T4 d.1.1 d.1.2.1 (fun v4x0 v4x1 => kR ((v4x0, v4x1, ()), ())))) (fun _ _ => by kernel_rfl) (fun _ _ _ => by kernel_rfl) (fun _ _ => by kernel_rfl) (fun _ _ _ _ => by kernel_rfl) (okEach (l' := []) (by kernel_rfl) trivial)
def sToken_run (N : Nat) (s : Bytes) : Option Rs := (bif (decide ((s.length : Int) = 0)) then (some ((AV.bool false), [])) else (bif (decide (4000 < (s.length : Int))) then (some ((AV.bool false), [])) else (sToken_F4 N s 0 (some ((AV.bool false), [])) (some ((AV.bool true), [])))))
def sToken_sOf (φ : Bytes → Br) : List AV → List Ob → Br
  | [.str s], [] => φ s
  | _, _ => .fail
theorem sToken_okOf {φ : Bytes → Br} (fu : Bytes → Nat) (hv : ∀ s res_, (φ s).val = some res_ → sToken_run (fu s) s = some res_) : Sound Kx 158 (sToken_sOf φ) := sound_lp (C := sToken_C) (O := sToken_O) Tryz.func158 (by kernel_rfl) fun args objs => by
  unfold sToken_sOf; split
  · rename_i s; exact .inr fun _ hyp_ => run_lp (Λ := sToken_L (fu s)) (by kernel_rfl) (okEach (l' := [sToken_b4]) (by kernel_rfl) ⟨sToken_ok4 _, trivial⟩) (by kernel_rfl) (hv s _ hyp_)
  · exact .inl rfl


theorem iToken_okQ : Sound Kx 161 (t0_s fun s => .bool (tokP s)) := of_t0 iToken_ok fun s => by
  show (iToken_br s).val = _
  unfold iToken_br tokP
  by_cases h : 1 ≤ s.length
  · have h' : (1 : Int) ≤ (s.length : Int) := by omega
    by_cases g : s.length ≤ 4000
    · have g' : (s.length : Int) ≤ 4000 := by omega
      simp only [Br.val, h, h', g, g', decide_true, isM_of g, Bool.true_and]
    · have g' : ¬ (s.length : Int) ≤ 4000 := by omega
      simp only [Br.val, h, h', g, g', decide_true, decide_false, Bool.true_and, Bool.false_and]
  · have h' : ¬ (1 : Int) ≤ (s.length : Int) := by omega
    simp only [Br.val, h, h', decide_false, Bool.false_and]
theorem sToken_loop (l : Bytes) (hl : l.length ≤ 4611686018427387904) (k0 k1 : Option Rs) : ∀ (r : Bytes) (i : Int) (n : Nat), At l i r → r.length < n → sToken_F4 n l i k0 k1 = bif allP isTok r then k1 else k0 := by
  intro r; induction r with
  | nil => intro i n h hn; obtain ⟨n, rfl⟩ := fuel hn; unfold sToken_F4 sToken_T4; simp only [h.dge, cond_false, allP, List.all_nil, cond_true]
  | cons a r ih =>
    intro i n h hn; obtain ⟨n, rfl⟩ := fuel hn
    have hs := ih (i + 1) n h.step (by simp at hn; omega)
    have e0 : (decide (0 ≤ by8 a) && decide (by8 a < 256)) = true := by simp only [Bool.and_eq_true, decide_eq_true_eq]; exact ⟨by8_nn a, by8_lt a⟩
    unfold sToken_F4 sToken_T4; simp only [h.dlt, h.dnn, h.str, cond_true, h.next hl, hs, allP, List.all_cons, e0]
    cases isTok (by8 a) <;> rfl
theorem sToken_okQ : Sound Kx 158 (t0_s fun s => .bool (tokP s)) := by
  refine of_t0 (sToken_okOf (φ := fun s => .ret (.bool (tokP s)) []) (fun s => s.length + 1) fun s r h => ?_) fun _ => rfl
  cases h
  unfold sToken_run tokP
  by_cases h : s.length = 0
  · have : s = [] := List.length_eq_zero_iff.1 h
    subst this; rfl
  · by_cases g : s.length ≤ 4000
    · have h' : ¬ (s.length : Int) = 0 := by omega
      have h1 : 1 ≤ s.length := by omega
      have g' : ¬ (4000 : Int) < (s.length : Int) := by omega
      simp only [h', g', g, h1, decide_true, decide_false, cond_false, Bool.true_and]
      rw [sToken_loop s (by omega) _ _ s 0 _ (At.start s) (by omega)]
      cases allP isTok s <;> rfl
    · have h' : ¬ (s.length : Int) = 0 := by omega
      have g' : (4000 : Int) < (s.length : Int) := by omega
      simp only [h', g', g, decide_true, decide_false, cond_false, cond_true, Bool.and_false, Bool.false_and]


def isMethod_C : SC := [⟨161, _, iToken_okQ⟩]
def isMethod_br (s : Bytes) : Br := (Br.ite (tokP s) (Br.ret (AV.bool (decide ((s.length : Int) ≤ 20))) []) (Br.ret (AV.bool false) []))
def isMethod_s : List AV → List Ob → Br
  | [.str s], [] => isMethod_br s
  | _, _ => .fail
theorem isMethod_ok : Sound Kx 128 isMethod_s := sound_br (C := isMethod_C) (O := O0) Tryz.func128 (by kernel_rfl) fun args objs => by
  unfold isMethod_s; split
  · exact .inr (by kernel_rfl)
  · exact .inl rfl

def iFieldOk_O : Opt := { split := true }
def iFieldOk_C : SC := [⟨161, _, iToken_okQ⟩, ⟨92, _, allPl_okQ⟩, ⟨163, _, itrim_okQ⟩]
def iFieldOk_br (a b : Bytes) : Br := (Br.ite (tokP a) (Br.ite (decide ((a.length : Int) ≤ 40)) (Br.ite (decide ((b.length : Int) ≤ 190)) (Br.ite (isM b) (Br.ite (allP isPl b) (Br.ite (isM b) (Br.ite (decide ((trimP b) = b)) (Br.ret (AV.bool true) []) (Br.ret (AV.bool false) [])) Br.fail) (Br.ret (AV.bool false) [])) Br.fail) (Br.ret (AV.bool false) [])) (Br.ret (AV.bool false) [])) (Br.ret (AV.bool false) []))
def iFieldOk_s : List AV → List Ob → Br
  | [.agg [.str a, .str b]], [] => iFieldOk_br a b
  | _, _ => .fail
theorem iFieldOk_ok : Sound Kx 98 iFieldOk_s := sound_br (C := iFieldOk_C) (O := iFieldOk_O) Tryz.func98 (by kernel_rfl) fun args objs => by
  unfold iFieldOk_s; split
  · exact .inr (by kernel_rfl)
  · exact .inl rfl

def sFieldOk_O : Opt := { split := true }
def sFieldOk_C : SC := [⟨158, _, sToken_okQ⟩, ⟨159, _, splains_okQ⟩, ⟨160, _, strim_okQ⟩]
def sFieldOk_br (a b : Bytes) : Br := (Br.ite (decide ((a.length : Int) ≤ 40)) (Br.ite (tokP a) (Br.ite (decide ((b.length : Int) ≤ 190)) (Br.ite (isM b) (Br.ite (allP isPl b) (Br.ite (isM b) (Br.ite (decide ((trimP b) = b)) (Br.ret (AV.bool true) []) (Br.ret (AV.bool false) [])) Br.fail) (Br.ret (AV.bool false) [])) Br.fail) (Br.ret (AV.bool false) [])) (Br.ret (AV.bool false) [])) (Br.ret (AV.bool false) []))
def sFieldOk_s : List AV → List Ob → Br
  | [.agg [.str a, .str b]], [] => sFieldOk_br a b
  | _, _ => .fail
theorem sFieldOk_ok : Sound Kx 95 sFieldOk_s := sound_br (C := sFieldOk_C) (O := sFieldOk_O) Tryz.func95 (by kernel_rfl) fun args objs => by
  unfold sFieldOk_s; split
  · exact .inr (by kernel_rfl)
  · exact .inl rfl

def srequest_C : SC := [⟨158, _, sToken_okQ⟩, ⟨106, _, svis_okQ⟩]
def srequest_br (me ta : Bytes) (st : Int) (re : Bytes) (ba : Bool) (fs : List (Bytes × Bytes)) (bo : Bytes) : Br := (Br.ite (decide ((me.length : Int) ≤ 20)) (Br.ite (tokP me) (Br.ite (decide ((ta.length : Int) ≤ 200)) (Br.ite (isM ta) (Br.ite ((allP isVis ta) && (decide (0 < (ta.length : Int)))) (Br.ite (decide (st = 0)) (Br.ite (decide (re = ([] : Bytes))) (Br.ret (AV.bool (!ba)) []) (Br.ret (AV.bool false) [])) (Br.ret (AV.bool false) [])) (Br.ret (AV.bool false) [])) Br.fail) (Br.ret (AV.bool false) [])) (Br.ret (AV.bool false) [])) (Br.ret (AV.bool false) []))
def srequest_s : List AV → List Ob → Br
  | [.agg [.str me, .str ta, .int .i64 st, .str re, .bool ba, .sh (.pair .str .str) fs, .str bo]], [] => srequest_br me ta st re ba fs bo
  | _, _ => .fail
theorem srequest_ok : Sound Kx 122 srequest_s := sound_br (C := srequest_C) (O := O0) Tryz.func122 (by kernel_rfl) fun args objs => by
  unfold srequest_s; split
  · exact .inr (by kernel_rfl)
  · exact .inl rfl

def sanswer2_C : SC := [⟨159, _, splains_okQ⟩, ⟨185, _, sbare_okQ⟩]
def sanswer2_br (me ta : Bytes) (st : Int) (re : Bytes) (ba : Bool) (fs : List (Bytes × Bytes)) (bo : Bytes) : Br := (Br.ite (!(decide (ta = ([] : Bytes)))) (Br.ret (AV.bool false) []) (Br.ite (decide (st < 200)) (Br.ret (AV.bool false) []) (Br.ite (decide (599 < st)) (Br.ret (AV.bool false) []) (Br.ite (decide (40 < (re.length : Int))) (Br.ret (AV.bool false) []) (Br.ite (isM re) (Br.ite (!(allP isPl re)) (Br.ret (AV.bool false) []) (Br.ite ba (Br.ite (!(decide (bo = ([] : Bytes)))) (Br.ret (AV.bool false) []) (Br.ite ba (Br.ret (AV.bool true) []) (Br.ret (AV.bool (!(isBar st))) []))) (Br.ite ba (Br.ret (AV.bool true) []) (Br.ret (AV.bool (!(isBar st))) [])))) Br.fail)))))
def sanswer2_s : List AV → List Ob → Br
  | [.agg [.str me, .str ta, .int .i64 st, .str re, .bool ba, .sh (.pair .str .str) fs, .str bo]], [] => sanswer2_br me ta st re ba fs bo
  | _, _ => .fail
theorem sanswer2_ok : Sound Kx 123 sanswer2_s := sound_br (C := sanswer2_C) (O := O0) Tryz.func123 (by kernel_rfl) fun args objs => by
  unfold sanswer2_s; split
  · exact .inr (by kernel_rfl)
  · exact .inl rfl


abbrev Fd := Bytes × Bytes
def fdOk (f : Fd) : Bool := tokP f.1 && decide (f.1.length ≤ 40) && decide (f.2.length ≤ 190) && allP isPl f.2 && decide (trimP f.2 = f.2)
def fd_s (p : Fd → AV) : List AV → List Ob → Br
  | [.agg [.str a, .str b]], [] => .ret (p (a, b)) []
  | _, _ => .fail
theorem of_fd {n : Nat} {s : List AV → List Ob → Br} (hs : Sound Kx n s) {p : Fd → AV} (h : ∀ a b, (s [.agg [.str a, .str b]] []).val = some (p (a, b), [])) : Sound Kx n (fd_s p) := hs.of fun args objs r hv => by
  unfold fd_s at hv
  split at hv
  · rw [h]; exact hv
  · cases hv
theorem iFieldOk_okQ : Sound Kx 98 (fd_s fun f => .bool (fdOk f)) := of_fd iFieldOk_ok fun a b => by
  show (iFieldOk_br a b).val = _
  unfold iFieldOk_br fdOk
  have e1 : decide ((a.length : Int) ≤ 40) = decide (a.length ≤ 40) := lenle a 40
  have e2 : decide ((b.length : Int) ≤ 190) = decide (b.length ≤ 190) := lenle b 190
  simp only [e1, e2]
  by_cases h : b.length ≤ 190
  · simp only [h, isM_of h, decide_true, Bool.and_true]
    cases tokP a <;> cases decide (a.length ≤ 40) <;> cases allP isPl b <;> cases decide (trimP b = b) <;> rfl
  · simp only [h, decide_false]
    cases tokP a <;> cases decide (a.length ≤ 40) <;> rfl
theorem sFieldOk_okQ : Sound Kx 95 (fd_s fun f => .bool (fdOk f)) := of_fd sFieldOk_ok fun a b => by
  show (sFieldOk_br a b).val = _
  unfold sFieldOk_br fdOk
  have e1 : decide ((a.length : Int) ≤ 40) = decide (a.length ≤ 40) := lenle a 40
  have e2 : decide ((b.length : Int) ≤ 190) = decide (b.length ≤ 190) := lenle b 190
  simp only [e1, e2]
  by_cases h : b.length ≤ 190
  · simp only [h, isM_of h, decide_true, Bool.and_true]
    cases tokP a <;> cases decide (a.length ≤ 40) <;> cases allP isPl b <;> cases decide (trimP b = b) <;> rfl
  · simp only [h, decide_false]
    cases tokP a <;> cases decide (a.length ≤ 40) <;> rfl
def methodP (s : Bytes) : Bool := tokP s && decide (s.length ≤ 20)
theorem isMethod_okQ : Sound Kx 128 (t0_s fun s => .bool (methodP s)) := of_t0 isMethod_ok fun s => by
  show (isMethod_br s).val = _
  unfold isMethod_br methodP
  have e1 : decide ((s.length : Int) ≤ 20) = decide (s.length ≤ 20) := lenle s 20
  simp only [e1]
  exact v_and _ _

abbrev Mg := Bytes × Bytes × Int × Bytes × Bool × List Fd × Bytes
def reqP (me ta : Bytes) (st : Int) (re : Bytes) (ba : Bool) : Bool := methodP me && targetP ta && decide (st = 0) && decide (re = []) && !ba
def ansP (ta : Bytes) (st : Int) (re : Bytes) (ba : Bool) (bo : Bytes) : Bool := decide (ta = []) && isSta st && reasonP re && !(ba && !decide (bo = [])) && !(isBar st && !ba)
def mg_s (p : Mg → AV) : List AV → List Ob → Br
  | [.agg [.str me, .str ta, .int .i64 st, .str re, .bool ba, .sh (.pair .str .str) fs, .str bo]], [] => .ret (p (me, ta, st, re, ba, fs, bo)) []
  | _, _ => .fail
theorem of_mg {n : Nat} {s : List AV → List Ob → Br} (hs : Sound Kx n s) {p : Mg → AV} (h : ∀ me ta st re ba fs bo, (s [.agg [.str me, .str ta, .int .i64 st, .str re, .bool ba, .sh (.pair .str .str) fs, .str bo]] []).val = some (p (me, ta, st, re, ba, fs, bo), [])) : Sound Kx n (mg_s p) := hs.of fun args objs r hv => by
  unfold mg_s at hv
  split at hv
  · rw [h]; exact hv
  · cases hv
theorem srequest_okQ : Sound Kx 122 (mg_s fun m => .bool (reqP m.1 m.2.1 m.2.2.1 m.2.2.2.1 m.2.2.2.2.1)) := of_mg srequest_ok fun me ta st re ba fs bo => by
  show (srequest_br me ta st re ba fs bo).val = some (.bool (reqP me ta st re ba), [])
  unfold srequest_br reqP methodP targetP
  have e1 : decide ((me.length : Int) ≤ 20) = decide (me.length ≤ 20) := lenle me 20
  have e2 : decide ((ta.length : Int) ≤ 200) = decide (ta.length ≤ 200) := lenle ta 200
  have e3 : decide ((0 : Int) < (ta.length : Int)) = decide (1 ≤ ta.length) := by congr 1; apply propext; omega
  simp only [e1, e2, e3]
  by_cases h : ta.length ≤ 200
  · simp only [h, isM_of h, decide_true, Bool.and_true]
    cases decide (me.length ≤ 20) <;> cases tokP me <;> cases allP isVis ta <;> cases decide (1 ≤ ta.length) <;> cases decide (st = 0) <;> cases decide (re = []) <;> rfl
  · simp only [h, decide_false, Bool.and_false, Bool.false_and]
    cases decide (me.length ≤ 20) <;> cases tokP me <;> rfl
theorem sanswer_okQ : Sound Kx 123 (mg_s fun m => .bool (ansP m.2.1 m.2.2.1 m.2.2.2.1 m.2.2.2.2.1 m.2.2.2.2.2.2)) := of_mg sanswer2_ok fun me ta st re ba fs bo => by
  show (sanswer2_br me ta st re ba fs bo).val = some (.bool (ansP ta st re ba bo), [])
  unfold sanswer2_br ansP reasonP isSta
  have e1 : decide ((40 : Int) < (re.length : Int)) = !decide (re.length ≤ 40) := by by_cases h : re.length ≤ 40 <;> simp [h] <;> omega
  have e2 : decide (st < 200) = !decide (200 ≤ st) := by by_cases h : 200 ≤ st <;> simp [h] <;> omega
  have e3 : decide (599 < st) = !decide (st ≤ 599) := by by_cases h : st ≤ 599 <;> simp [h] <;> omega
  simp only [e1, e2, e3]
  by_cases h : re.length ≤ 40
  · simp only [h, isM_of h, decide_true, Bool.not_true, Bool.true_and]
    cases decide (ta = []) <;> cases decide (200 ≤ st) <;> cases decide (st ≤ 599) <;> cases allP isPl re <;> cases ba <;> cases decide (bo = []) <;> cases isBar st <;> rfl
  · simp only [h, decide_false, Bool.not_false, Bool.false_and, Bool.and_false]
    cases decide (ta = []) <;> cases decide (200 ≤ st) <;> cases decide (st ≤ 599) <;> rfl


def iFieldsOk_O : Opt := { live := [(4, [8, 9, 10])], outs := [(4, [2])] }
def iFieldsOk_C : SC := [⟨98, _, iFieldOk_okQ⟩]
def iFieldsOk_T4 (v4x0 : (List Fd)) (v4x1 v4x2 : Int) (kR4 : (List Fd) → Int → Int → Option Rs) (k4e0 k4e1 : Option Rs) : Option Rs :=
  (bif (decide (v4x2 < v4x1)) then (bif (decide (0 ≤ v4x2)) then (bif (decide (v4x2 < (v4x0.length : Int))) then (bif (!(fdOk ((List.getD v4x0 (Int.toNat v4x2) (([] : Bytes), ([] : Bytes))).1, (List.getD v4x0 (Int.toNat v4x2) (([] : Bytes), ([] : Bytes))).2))) then k4e0 else (kR4 v4x0 v4x1 (wk64 (v4x2 + 1)))) else (none)) else (none)) else k4e1)
def iFieldsOk_F4 : Nat → (List Fd) → Int → Int → (Option Rs) → (Option Rs) → Option Rs
  | 0, _, _, _, _, _ => none
  | n + 1, v4x0, v4x1, v4x2, k4e0, k4e1 => iFieldsOk_T4 v4x0 v4x1 v4x2 (fun v4x0 v4x1 v4x2 => iFieldsOk_F4 n v4x0 v4x1 v4x2 k4e0 k4e1) k4e0 k4e1
abbrev iFieldsOk_p4 : SP := ⟨18, [8, 9, 10], [(.v (.sh (Ty.pair Ty.str Ty.str))), (.v (.i .i64)), (.v (.i .i64))], []⟩
noncomputable def iFieldsOk_b4 : Code := codeAt (codeOf Tryz.f51) [1, 1, 0, 1, 0, 0]
def iFieldsOk_E4 (f : (Option Rs) → (Option Rs) → Option Rs) (k : KT) : Option Rs := f (k Ex.ret ((St.mk (slots 0 18 [(2, (AV.bool false))]) ([] : (List (Nat × (Ob))))))) (k (Ex.exit 0) ((St.mk (slots 0 18 []) ([] : (List (Nat × (Ob)))))))
def iFieldsOk_G4 (n : Nat) (d : iFieldsOk_p4.D) : KT → Option Rs := iFieldsOk_E4 (iFieldsOk_F4 n d.1.1 d.1.2.1 d.1.2.2.1)
def iFieldsOk_L (N : Nat) : Lam := lamOf [⟨4, iFieldsOk_p4, iFieldsOk_G4 N⟩]
theorem iFieldsOk_ok4 (N : Nat) : OkL Kx iFieldsOk_C.s iFieldsOk_O 0 N (iFieldsOk_L N) iFieldsOk_b4 := okL iFieldsOk_p4 (iFieldsOk_G4) (fun d kR => iFieldsOk_E4 (iFieldsOk_T4 d.1.1 d.1.2.1 d.1.2.2.1 (fun v4x0 v4x1 v4x2 => kR ((v4x0, v4x1, v4x2, ()), ())))) (fun _ _ => by kernel_rfl) (fun _ _ _ => by kernel_rfl) (fun _ _ => by kernel_rfl) (fun _ _ _ _ => by kernel_rfl) (okEach (l' := []) (by kernel_rfl) trivial)
def iFieldsOk_run (N : Nat) (l : List Fd) : Option Rs := (bif (decide (20 < (l.length : Int))) then (some ((AV.bool false), [])) else (iFieldsOk_F4 N l (l.length : Int) 0 (some ((AV.bool false), [])) (some ((AV.bool true), []))))
def iFieldsOk_sOf (φ : (List Fd) → Br) : List AV → List Ob → Br
  | [.sh (.pair .str .str) l], [] => φ l
  | _, _ => .fail
theorem iFieldsOk_okOf {φ : (List Fd) → Br} (fu : (List Fd) → Nat) (hv : ∀ l res_, (φ l).val = some res_ → iFieldsOk_run (fu l) l = some res_) : Sound Kx 51 (iFieldsOk_sOf φ) := sound_lp (C := iFieldsOk_C) (O := iFieldsOk_O) Tryz.func51 (by kernel_rfl) fun args objs => by
  unfold iFieldsOk_sOf; split
  · rename_i l; exact .inr fun _ hyp_ => run_lp (Λ := iFieldsOk_L (fu l)) (by kernel_rfl) (okEach (l' := [iFieldsOk_b4]) (by kernel_rfl) ⟨iFieldsOk_ok4 _, trivial⟩) (by kernel_rfl) (hv l _ hyp_)
  · exact .inl rfl

def sFieldsOk_O : Opt := { live := [(4, [0, 3])], outs := [(4, [2])] }
def sFieldsOk_C : SC := [⟨95, _, sFieldOk_okQ⟩]
def sFieldsOk_T4 (v4x0 : (List Fd)) (v4x1 : Int) (kR4 : (List Fd) → Int → Option Rs) (k4e0 k4e1 : Option Rs) : Option Rs :=
  (bif (decide (v4x1 < (v4x0.length : Int))) then (bif (decide (0 ≤ v4x1)) then (bif (decide (v4x1 < (v4x0.length : Int))) then (bif (!(fdOk ((List.getD v4x0 (Int.toNat v4x1) (([] : Bytes), ([] : Bytes))).1, (List.getD v4x0 (Int.toNat v4x1) (([] : Bytes), ([] : Bytes))).2))) then k4e0 else (kR4 v4x0 (wk64 (v4x1 + 1)))) else (none)) else (none)) else k4e1)
def sFieldsOk_F4 : Nat → (List Fd) → Int → (Option Rs) → (Option Rs) → Option Rs
  | 0, _, _, _, _ => none
  | n + 1, v4x0, v4x1, k4e0, k4e1 => sFieldsOk_T4 v4x0 v4x1 (fun v4x0 v4x1 => sFieldsOk_F4 n v4x0 v4x1 k4e0 k4e1) k4e0 k4e1
abbrev sFieldsOk_p4 : SP := ⟨19, [0, 3], [(.v (.sh (Ty.pair Ty.str Ty.str))), (.v (.i .i64))], []⟩
noncomputable def sFieldsOk_b4 : Code := codeAt (codeOf Tryz.f45) [1, 1, 0, 1, 0, 0]
def sFieldsOk_E4 (f : (Option Rs) → (Option Rs) → Option Rs) (k : KT) : Option Rs := f (k Ex.ret ((St.mk (slots 0 19 [(2, (AV.bool false))]) ([] : (List (Nat × (Ob))))))) (k (Ex.exit 0) ((St.mk (slots 0 19 []) ([] : (List (Nat × (Ob)))))))
def sFieldsOk_G4 (n : Nat) (d : sFieldsOk_p4.D) : KT → Option Rs := sFieldsOk_E4 (sFieldsOk_F4 n d.1.1 d.1.2.1)
def sFieldsOk_L (N : Nat) : Lam := lamOf [⟨4, sFieldsOk_p4, sFieldsOk_G4 N⟩]
theorem sFieldsOk_ok4 (N : Nat) : OkL Kx sFieldsOk_C.s sFieldsOk_O 0 N (sFieldsOk_L N) sFieldsOk_b4 := okL sFieldsOk_p4 (sFieldsOk_G4) (fun d kR => sFieldsOk_E4 (sFieldsOk_T4 d.1.1 d.1.2.1 (fun v4x0 v4x1 => kR ((v4x0, v4x1, ()), ())))) (fun _ _ => by kernel_rfl) (fun _ _ _ => by kernel_rfl) (fun _ _ => by kernel_rfl) (fun _ _ _ _ => by kernel_rfl) (okEach (l' := []) (by kernel_rfl) trivial)
def sFieldsOk_run (N : Nat) (l : List Fd) : Option Rs := (bif (decide (20 < (l.length : Int))) then (some ((AV.bool false), [])) else (sFieldsOk_F4 N l 0 (some ((AV.bool false), [])) (some ((AV.bool true), []))))
def sFieldsOk_sOf (φ : (List Fd) → Br) : List AV → List Ob → Br
  | [.sh (.pair .str .str) l], [] => φ l
  | _, _ => .fail
theorem sFieldsOk_okOf {φ : (List Fd) → Br} (fu : (List Fd) → Nat) (hv : ∀ l res_, (φ l).val = some res_ → sFieldsOk_run (fu l) l = some res_) : Sound Kx 45 (sFieldsOk_sOf φ) := sound_lp (C := sFieldsOk_C) (O := sFieldsOk_O) Tryz.func45 (by kernel_rfl) fun args objs => by
  unfold sFieldsOk_sOf; split
  · rename_i l; exact .inr fun _ hyp_ => run_lp (Λ := sFieldsOk_L (fu l)) (by kernel_rfl) (okEach (l' := [sFieldsOk_b4]) (by kernel_rfl) ⟨sFieldsOk_ok4 _, trivial⟩) (by kernel_rfl) (hv l _ hyp_)
  · exact .inl rfl

def sFieldText_C : SC := [⟨95, _, sFieldOk_okQ⟩]
def sFieldText_br (a b : Bytes) : Br := (Br.ite (!(fdOk (a, b))) (Br.ret (AV.str ([] : Bytes)) []) (Br.ite (decide ((a.length + 2) ≤ 9223372036854775807)) (Br.ite (decide (((List.length (a ++ ([58, 32] : Bytes))) + b.length) ≤ 9223372036854775807)) (Br.ret (AV.str ((a ++ ([58, 32] : Bytes)) ++ b)) []) Br.fail) Br.fail))
def sFieldText_s : List AV → List Ob → Br
  | [.agg [.str a, .str b]], [] => sFieldText_br a b
  | _, _ => .fail
theorem sFieldText_ok : Sound Kx 186 sFieldText_s := sound_br (C := sFieldText_C) (O := O0) Tryz.func186 (by kernel_rfl) fun args objs => by
  unfold sFieldText_s; split
  · exact .inr (by kernel_rfl)
  · exact .inl rfl


def fdsOk (l : List Fd) : Bool := decide (l.length ≤ 20) && l.all fdOk
def fl_s (p : List Fd → AV) : List AV → List Ob → Br
  | [.sh (.pair .str .str) l], [] => .ret (p l) []
  | _, _ => .fail
theorem of_fl {n : Nat} {s : List AV → List Ob → Br} (hs : Sound Kx n s) {p : List Fd → AV} (h : ∀ l, (s [.sh (.pair .str .str) l] []).val = some (p l, [])) : Sound Kx n (fl_s p) := hs.of fun args objs r hv => by
  unfold fl_s at hv
  split at hv
  · rw [h]; exact hv
  · cases hv
theorem lengtI {α : Type} (l : List α) (n : Nat) : decide ((n : Int) < (l.length : Int)) = !decide (l.length ≤ n) := by by_cases h : l.length ≤ n <;> simp [h] <;> omega
theorem iFieldsOk_loop (l : List Fd) (hl : l.length ≤ 4611686018427387904) (k0 k1 : Option Rs) : ∀ (r : List Fd) (i : Int) (n : Nat), At l i r → r.length < n → iFieldsOk_F4 n l (l.length : Int) i k0 k1 = bif r.all fdOk then k1 else k0 := by
  intro r; induction r with
  | nil => intro i n h hn; obtain ⟨n, rfl⟩ := fuel hn; unfold iFieldsOk_F4 iFieldsOk_T4; simp only [h.dge, cond_false, List.all_nil, cond_true]
  | cons a r ih =>
    intro i n h hn; obtain ⟨n, rfl⟩ := fuel hn
    have hs := ih (i + 1) n h.step (by simp at hn; omega)
    unfold iFieldsOk_F4 iFieldsOk_T4; simp only [h.dlt, h.dnn, h.get, cond_true, h.next hl, hs, List.all_cons]
    cases fdOk a <;> rfl
theorem iFieldsOk_okQ : Sound Kx 51 (fl_s fun l => .bool (fdsOk l)) := by
  refine of_fl (iFieldsOk_okOf (φ := fun l => .ret (.bool (fdsOk l)) []) (fun l => l.length + 1) fun l r h => ?_) fun _ => rfl
  cases h
  unfold iFieldsOk_run fdsOk
  have e := lengtI l 20
  simp only [show ((20 : Nat) : Int) = 20 from rfl] at e
  rw [e]
  by_cases h : l.length ≤ 20
  · simp only [h, decide_true, Bool.not_true, cond_false, Bool.true_and]
    rw [iFieldsOk_loop l (by omega) _ _ l 0 _ (At.start l) (by omega)]
    cases l.all fdOk <;> rfl
  · simp only [h, decide_false, Bool.not_false, cond_true, Bool.false_and]
theorem sFieldsOk_loop (l : List Fd) (hl : l.length ≤ 4611686018427387904) (k0 k1 : Option Rs) : ∀ (r : List Fd) (i : Int) (n : Nat), At l i r → r.length < n → sFieldsOk_F4 n l i k0 k1 = bif r.all fdOk then k1 else k0 := by
  intro r; induction r with
  | nil => intro i n h hn; obtain ⟨n, rfl⟩ := fuel hn; unfold sFieldsOk_F4 sFieldsOk_T4; simp only [h.dge, cond_false, List.all_nil, cond_true]
  | cons a r ih =>
    intro i n h hn; obtain ⟨n, rfl⟩ := fuel hn
    have hs := ih (i + 1) n h.step (by simp at hn; omega)
    unfold sFieldsOk_F4 sFieldsOk_T4; simp only [h.dlt, h.dnn, h.get, cond_true, h.next hl, hs, List.all_cons]
    cases fdOk a <;> rfl
theorem sFieldsOk_okQ : Sound Kx 45 (fl_s fun l => .bool (fdsOk l)) := by
  refine of_fl (sFieldsOk_okOf (φ := fun l => .ret (.bool (fdsOk l)) []) (fun l => l.length + 1) fun l r h => ?_) fun _ => rfl
  cases h
  unfold sFieldsOk_run fdsOk
  have e := lengtI l 20
  simp only [show ((20 : Nat) : Int) = 20 from rfl] at e
  rw [e]
  by_cases h : l.length ≤ 20
  · simp only [h, decide_true, Bool.not_true, cond_false, Bool.true_and]
    rw [sFieldsOk_loop l (by omega) _ _ l 0 _ (At.start l) (by omega)]
    cases l.all fdOk <;> rfl
  · simp only [h, decide_false, Bool.not_false, cond_true, Bool.false_and]
def fTextP (f : Fd) : Bytes := f.1 ++ 58 :: 32 :: f.2
theorem fdOk_len {f : Fd} (h : fdOk f = true) : f.1.length ≤ 40 ∧ f.2.length ≤ 190 := by
  unfold fdOk at h; simp only [Bool.and_eq_true, decide_eq_true_eq] at h; exact ⟨h.1.1.1.2, h.1.1.2⟩
theorem sFieldText_okQ : Sound Kx 186 (fd_s fun f => .str (bif fdOk f then fTextP f else [])) := of_fd sFieldText_ok fun a b => by
  show (sFieldText_br a b).val = _
  unfold sFieldText_br
  by_cases h : fdOk (a, b) = true
  · have hl := fdOk_len h
    simp only at hl
    have e1 : decide (a.length + 2 ≤ 9223372036854775807) = true := decide_eq_true (by omega)
    have e2 : decide ((a ++ [58, 32]).length + b.length ≤ 9223372036854775807) = true := decide_eq_true (by simp; omega)
    simp only [h, Br.val, Bool.not_true, e1, e2, cond_true]
    simp [fTextP]
  · simp only [Bool.not_eq_true] at h
    simp only [h, Br.val, Bool.not_false, cond_false]


def iValues_O : Opt := { live := [(5, [1, 5, 11, 12, 13])], outs := [(5, [4, 5])] }
def iValues_C : SC := [⟨51, _, iFieldsOk_okQ⟩, ⟨76, _, isame_okQ⟩]
def iValues_T5 (v5x0 : Bytes) (v5x1 : (List Fd)) (v5x2 v5x3 : Int) (v5x4 : (List Bytes)) (kR5 : Bytes → (List Fd) → Int → Int → (List Bytes) → Option Rs) (k5e0 : (List Bytes) → Option Rs) : Option Rs :=
  (bif (decide (v5x3 < v5x2)) then (bif (decide (0 ≤ v5x3)) then (bif (decide (v5x3 < (v5x1.length : Int))) then (bif ((isM (List.getD v5x1 (Int.toNat v5x3) (([] : Bytes), ([] : Bytes))).1) && (isM v5x0)) then (bif (sameP (List.getD v5x1 (Int.toNat v5x3) (([] : Bytes), ([] : Bytes))).1 v5x0) then (bif (decide (((v5x4.length + (List.length (List.set (List.replicate 1 ([] : Bytes)) 0 (List.getD v5x1 (Int.toNat v5x3) (([] : Bytes), ([] : Bytes))).2))) * 16) ≤ 140737488355328)) then (kR5 v5x0 v5x1 v5x2 (wk64 (v5x3 + 1)) (v5x4 ++ (List.set (List.replicate 1 ([] : Bytes)) 0 (List.getD v5x1 (Int.toNat v5x3) (([] : Bytes), ([] : Bytes))).2))) else (none)) else (kR5 v5x0 v5x1 v5x2 (wk64 (v5x3 + 1)) v5x4)) else (none)) else (none)) else (none)) else (k5e0 v5x4))
def iValues_F5 : Nat → Bytes → (List Fd) → Int → Int → (List Bytes) → ((List Bytes) → Option Rs) → Option Rs
  | 0, _, _, _, _, _, _ => none
  | n + 1, v5x0, v5x1, v5x2, v5x3, v5x4, k5e0 => iValues_T5 v5x0 v5x1 v5x2 v5x3 v5x4 (fun v5x0 v5x1 v5x2 v5x3 v5x4 => iValues_F5 n v5x0 v5x1 v5x2 v5x3 v5x4 k5e0) k5e0
abbrev iValues_p5 : SP := ⟨28, [1, 5, 11, 12, 13], [(.v .s), (.v (.ref 384 0)), (.v (.sh (Ty.pair Ty.str Ty.str))), (.v (.i .i64)), (.v (.i .i64))], [(384, .arr Ty.str 0 false)]⟩
noncomputable def iValues_b5 : Code := codeAt (codeOf Tryz.f90) [1, 1, 1, 0, 1, 0, 0]
def iValues_E5 (f : ((List Bytes) → Option Rs) → Option Rs) (k : KT) : Option Rs := f (fun x5x0x0 => k (Ex.exit 0) ((St.mk (slots 0 28 [(5, (AV.ref 384 0))]) ((384, (Ob.arr Ty.str 0 false x5x0x0)) :: ([] : (List (Nat × (Ob))))))))
def iValues_G5 (n : Nat) (d : iValues_p5.D) : KT → Option Rs := iValues_E5 (iValues_F5 n d.1.1 d.1.2.2.1 d.1.2.2.2.1 d.1.2.2.2.2.1 d.2.1)
def iValues_L (N : Nat) : Lam := lamOf [⟨5, iValues_p5, iValues_G5 N⟩]
theorem iValues_ok5 (N : Nat) : OkL Kx iValues_C.s iValues_O 0 N (iValues_L N) iValues_b5 := okL iValues_p5 (iValues_G5) (fun d kR => iValues_E5 (iValues_T5 d.1.1 d.1.2.2.1 d.1.2.2.2.1 d.1.2.2.2.2.1 d.2.1 (fun v5x0 v5x1 v5x2 v5x3 v5x4 => kR ((v5x0, (), v5x1, v5x2, v5x3, ()), (v5x4, ()))))) (fun _ _ => by kernel_rfl) (fun _ _ _ => by kernel_rfl) (fun _ _ => by kernel_rfl) (fun _ _ _ _ => by kernel_rfl) (okEach (l' := []) (by kernel_rfl) trivial)
def iValues_run (N : Nat) (l : List Fd) (name : Bytes) : Option Rs := (bif (!(fdsOk l)) then (some ((AV.ref 0 0), ((Ob.arr Ty.str 0 false ([] : (List Bytes))) :: []))) else (iValues_F5 N name l (l.length : Int) 0 ([] : (List Bytes)) (fun x5x0x0 => (some ((AV.ref 0 0), ((Ob.arr Ty.str 0 false x5x0x0) :: []))))))
def iValues_sOf (φ : (List Fd) → Bytes → Br) : List AV → List Ob → Br
  | [.sh (.pair .str .str) l, .str name], [] => φ l name
  | _, _ => .fail
theorem iValues_okOf {φ : (List Fd) → Bytes → Br} (fu : (List Fd) → Bytes → Nat) (hv : ∀ l name res_, (φ l name).val = some res_ → iValues_run (fu l name) l name = some res_) : Sound Kx 90 (iValues_sOf φ) := sound_lp (C := iValues_C) (O := iValues_O) Tryz.func90 (by kernel_rfl) fun args objs => by
  unfold iValues_sOf; split
  · rename_i l name; exact .inr fun _ hyp_ => run_lp (Λ := iValues_L (fu l name)) (by kernel_rfl) (okEach (l' := [iValues_b5]) (by kernel_rfl) ⟨iValues_ok5 _, trivial⟩) (by kernel_rfl) (hv l name _ hyp_)
  · exact .inl rfl

def sValues_O : Opt := { live := [(5, [0, 1, 5, 6])], outs := [(5, [4, 5])] }
def sValues_C : SC := [⟨45, _, sFieldsOk_okQ⟩, ⟨126, _, ssame_okQ⟩]
def sValues_T5 (v5x0 : (List Fd)) (v5x1 : Bytes) (v5x2 : Int) (v5x3 : (List Bytes)) (kR5 : (List Fd) → Bytes → Int → (List Bytes) → Option Rs) (k5e0 : (List Bytes) → Option Rs) : Option Rs :=
  (bif (decide (v5x2 < (v5x0.length : Int))) then (bif (decide (0 ≤ v5x2)) then (bif (decide (v5x2 < (v5x0.length : Int))) then (bif ((isM (List.getD v5x0 (Int.toNat v5x2) (([] : Bytes), ([] : Bytes))).1) && (isM v5x1)) then (bif (sameP (List.getD v5x0 (Int.toNat v5x2) (([] : Bytes), ([] : Bytes))).1 v5x1) then (bif (decide (0 ≤ v5x2)) then (bif (decide (v5x2 < (v5x0.length : Int))) then (bif (decide (((v5x3.length + (List.length (List.set (List.replicate 1 ([] : Bytes)) 0 (List.getD v5x0 (Int.toNat v5x2) (([] : Bytes), ([] : Bytes))).2))) * 16) ≤ 140737488355328)) then (kR5 v5x0 v5x1 (wk64 (v5x2 + 1)) (v5x3 ++ (List.set (List.replicate 1 ([] : Bytes)) 0 (List.getD v5x0 (Int.toNat v5x2) (([] : Bytes), ([] : Bytes))).2))) else (none)) else (none)) else (none)) else (kR5 v5x0 v5x1 (wk64 (v5x2 + 1)) v5x3)) else (none)) else (none)) else (none)) else (k5e0 v5x3))
def sValues_F5 : Nat → (List Fd) → Bytes → Int → (List Bytes) → ((List Bytes) → Option Rs) → Option Rs
  | 0, _, _, _, _, _ => none
  | n + 1, v5x0, v5x1, v5x2, v5x3, k5e0 => sValues_T5 v5x0 v5x1 v5x2 v5x3 (fun v5x0 v5x1 v5x2 v5x3 => sValues_F5 n v5x0 v5x1 v5x2 v5x3 k5e0) k5e0
abbrev sValues_p5 : SP := ⟨32, [0, 1, 5, 6], [(.v (.sh (Ty.pair Ty.str Ty.str))), (.v .s), (.v (.ref 384 0)), (.v (.i .i64))], [(384, .arr Ty.str 0 false)]⟩
noncomputable def sValues_b5 : Code := codeAt (codeOf Tryz.f80) [1, 1, 1, 0, 1, 0, 0]
def sValues_E5 (f : ((List Bytes) → Option Rs) → Option Rs) (k : KT) : Option Rs := f (fun x5x0x0 => k (Ex.exit 0) ((St.mk (slots 0 32 [(5, (AV.ref 384 0))]) ((384, (Ob.arr Ty.str 0 false x5x0x0)) :: ([] : (List (Nat × (Ob))))))))
def sValues_G5 (n : Nat) (d : sValues_p5.D) : KT → Option Rs := sValues_E5 (sValues_F5 n d.1.1 d.1.2.1 d.1.2.2.2.1 d.2.1)
def sValues_L (N : Nat) : Lam := lamOf [⟨5, sValues_p5, sValues_G5 N⟩]
theorem sValues_ok5 (N : Nat) : OkL Kx sValues_C.s sValues_O 0 N (sValues_L N) sValues_b5 := okL sValues_p5 (sValues_G5) (fun d kR => sValues_E5 (sValues_T5 d.1.1 d.1.2.1 d.1.2.2.2.1 d.2.1 (fun v5x0 v5x1 v5x2 v5x3 => kR ((v5x0, v5x1, (), v5x2, ()), (v5x3, ()))))) (fun _ _ => by kernel_rfl) (fun _ _ _ => by kernel_rfl) (fun _ _ => by kernel_rfl) (fun _ _ _ _ => by kernel_rfl) (okEach (l' := []) (by kernel_rfl) trivial)
def sValues_run (N : Nat) (l : List Fd) (name : Bytes) : Option Rs := (bif (!(fdsOk l)) then (some ((AV.ref 0 0), ((Ob.arr Ty.str 0 false ([] : (List Bytes))) :: []))) else (sValues_F5 N l name 0 ([] : (List Bytes)) (fun x5x0x0 => (some ((AV.ref 0 0), ((Ob.arr Ty.str 0 false x5x0x0) :: []))))))
def sValues_sOf (φ : (List Fd) → Bytes → Br) : List AV → List Ob → Br
  | [.sh (.pair .str .str) l, .str name], [] => φ l name
  | _, _ => .fail
theorem sValues_okOf {φ : (List Fd) → Bytes → Br} (fu : (List Fd) → Bytes → Nat) (hv : ∀ l name res_, (φ l name).val = some res_ → sValues_run (fu l name) l name = some res_) : Sound Kx 80 (sValues_sOf φ) := sound_lp (C := sValues_C) (O := sValues_O) Tryz.func80 (by kernel_rfl) fun args objs => by
  unfold sValues_sOf; split
  · rename_i l name; exact .inr fun _ hyp_ => run_lp (Λ := sValues_L (fu l name)) (by kernel_rfl) (okEach (l' := [sValues_b5]) (by kernel_rfl) ⟨sValues_ok5 _, trivial⟩) (by kernel_rfl) (hv l name _ hyp_)
  · exact .inl rfl

def sframed_O : Opt := { live := [(2, [0, 3])], outs := [(2, [2])] }
def sframed_C : SC := [⟨108, _, sfold_okQ⟩]
def sframed_T2 (v2x0 : (List Fd)) (v2x1 : Int) (kR2 : (List Fd) → Int → Option Rs) (k2e0 k2e1 : Option Rs) : Option Rs :=
  (bif (decide (v2x1 < (v2x0.length : Int))) then (bif (decide (0 ≤ v2x1)) then (bif (decide (v2x1 < (v2x0.length : Int))) then (bif (isM (List.getD v2x0 (Int.toNat v2x1) (([] : Bytes), ([] : Bytes))).1) then (bif (decide ((foldP (List.getD v2x0 (Int.toNat v2x1) (([] : Bytes), ([] : Bytes))).1) = ([99, 111, 110, 116, 101, 110, 116, 45, 108, 101, 110, 103, 116, 104] : Bytes))) then k2e0 else (bif (decide ((foldP (List.getD v2x0 (Int.toNat v2x1) (([] : Bytes), ([] : Bytes))).1) = ([116, 114, 97, 110, 115, 102, 101, 114, 45, 101, 110, 99, 111, 100, 105, 110, 103] : Bytes))) then k2e0 else (bif (decide ((foldP (List.getD v2x0 (Int.toNat v2x1) (([] : Bytes), ([] : Bytes))).1) = ([116, 114, 97, 105, 108, 101, 114] : Bytes))) then k2e0 else (kR2 v2x0 (wk64 (v2x1 + 1)))))) else (none)) else (none)) else (none)) else k2e1)
def sframed_F2 : Nat → (List Fd) → Int → (Option Rs) → (Option Rs) → Option Rs
  | 0, _, _, _, _ => none
  | n + 1, v2x0, v2x1, k2e0, k2e1 => sframed_T2 v2x0 v2x1 (fun v2x0 v2x1 => sframed_F2 n v2x0 v2x1 k2e0 k2e1) k2e0 k2e1
abbrev sframed_p2 : SP := ⟨27, [0, 3], [(.v (.sh (Ty.pair Ty.str Ty.str))), (.v (.i .i64))], []⟩
noncomputable def sframed_b2 : Code := codeAt (codeOf Tryz.f121) [1, 0, 1, 0, 0]
def sframed_E2 (f : (Option Rs) → (Option Rs) → Option Rs) (k : KT) : Option Rs := f (k Ex.ret ((St.mk (slots 0 27 [(2, (AV.bool true))]) ([] : (List (Nat × (Ob))))))) (k (Ex.exit 0) ((St.mk (slots 0 27 []) ([] : (List (Nat × (Ob)))))))
def sframed_G2 (n : Nat) (d : sframed_p2.D) : KT → Option Rs := sframed_E2 (sframed_F2 n d.1.1 d.1.2.1)
def sframed_L (N : Nat) : Lam := lamOf [⟨2, sframed_p2, sframed_G2 N⟩]
theorem sframed_ok2 (N : Nat) : OkL Kx sframed_C.s sframed_O 0 N (sframed_L N) sframed_b2 := okL sframed_p2 (sframed_G2) (fun d kR => sframed_E2 (sframed_T2 d.1.1 d.1.2.1 (fun v2x0 v2x1 => kR ((v2x0, v2x1, ()), ())))) (fun _ _ => by kernel_rfl) (fun _ _ _ => by kernel_rfl) (fun _ _ => by kernel_rfl) (fun _ _ _ _ => by kernel_rfl) (okEach (l' := []) (by kernel_rfl) trivial)
def sframed_run (N : Nat) (l : List Fd) : Option Rs := (sframed_F2 N l 0 (some ((AV.bool true), [])) (some ((AV.bool false), [])))
def sframed_sOf (φ : (List Fd) → Br) : List AV → List Ob → Br
  | [.sh (.pair .str .str) l], [] => φ l
  | _, _ => .fail
theorem sframed_okOf {φ : (List Fd) → Br} (fu : (List Fd) → Nat) (hv : ∀ l res_, (φ l).val = some res_ → sframed_run (fu l) l = some res_) : Sound Kx 121 (sframed_sOf φ) := sound_lp (C := sframed_C) (O := sframed_O) Tryz.func121 (by kernel_rfl) fun args objs => by
  unfold sframed_sOf; split
  · rename_i l; exact .inr fun _ hyp_ => run_lp (Λ := sframed_L (fu l)) (by kernel_rfl) (okEach (l' := [sframed_b2]) (by kernel_rfl) ⟨sframed_ok2 _, trivial⟩) (by kernel_rfl) (hv l _ hyp_)
  · exact .inl rfl

def szFieldS_O : Opt := { live := [(5, [0, 1, 5])], outs := [(5, [1, 4])] }
def szFieldS_C : SC := [⟨44, _, szField_ok⟩]
def szFieldS_T5 (v5x0 : (List Fd)) (v5x1 v5x2 : Int) (kR5 : (List Fd) → Int → Int → Option Rs) (k5e0 k5e1 : Int → Option Rs) : Option Rs :=
  (bif (decide (v5x2 < (v5x0.length : Int))) then (bif (decide (0 ≤ v5x2)) then (bif (decide (v5x2 < (v5x0.length : Int))) then (bif (decide ((wk64 (v5x1 - ((List.length (List.getD v5x0 (Int.toNat v5x2) (([] : Bytes), ([] : Bytes))).1) : Int))) < 0)) then (k5e0 (-1)) else (bif (decide ((wk64 ((wk64 (v5x1 - ((List.length (List.getD v5x0 (Int.toNat v5x2) (([] : Bytes), ([] : Bytes))).1) : Int))) - ((List.length (List.getD v5x0 (Int.toNat v5x2) (([] : Bytes), ([] : Bytes))).2) : Int))) < 0)) then (k5e0 (-1)) else (bif (decide ((wk64 ((wk64 (v5x1 - ((List.length (List.getD v5x0 (Int.toNat v5x2) (([] : Bytes), ([] : Bytes))).1) : Int))) - ((List.length (List.getD v5x0 (Int.toNat v5x2) (([] : Bytes), ([] : Bytes))).2) : Int))) < 0)) then (k5e0 (wk64 ((wk64 (v5x1 - ((List.length (List.getD v5x0 (Int.toNat v5x2) (([] : Bytes), ([] : Bytes))).1) : Int))) - ((List.length (List.getD v5x0 (Int.toNat v5x2) (([] : Bytes), ([] : Bytes))).2) : Int)))) else (kR5 v5x0 (wk64 ((wk64 (v5x1 - ((List.length (List.getD v5x0 (Int.toNat v5x2) (([] : Bytes), ([] : Bytes))).1) : Int))) - ((List.length (List.getD v5x0 (Int.toNat v5x2) (([] : Bytes), ([] : Bytes))).2) : Int))) (wk64 (v5x2 + 1)))))) else (none)) else (none)) else (k5e1 v5x1))
def szFieldS_F5 : Nat → (List Fd) → Int → Int → (Int → Option Rs) → (Int → Option Rs) → Option Rs
  | 0, _, _, _, _, _ => none
  | n + 1, v5x0, v5x1, v5x2, k5e0, k5e1 => szFieldS_T5 v5x0 v5x1 v5x2 (fun v5x0 v5x1 v5x2 => szFieldS_F5 n v5x0 v5x1 v5x2 k5e0 k5e1) k5e0 k5e1
abbrev szFieldS_p5 : SP := ⟨27, [0, 1, 5], [(.v (.sh (Ty.pair Ty.str Ty.str))), (.v (.i .i64)), (.v (.i .i64))], []⟩
noncomputable def szFieldS_b5 : Code := codeAt (codeOf Tryz.f16) [1, 1, 1, 0, 1, 0, 0]
def szFieldS_E5 (f : (Int → Option Rs) → (Int → Option Rs) → Option Rs) (k : KT) : Option Rs := f (fun x5x0x0 => k Ex.ret ((St.mk (slots 0 27 [(1, (AV.int .i64 x5x0x0)), (4, (AV.int .i64 (-1)))]) ([] : (List (Nat × (Ob))))))) (fun x5x1x0 => k (Ex.exit 0) ((St.mk (slots 0 27 [(1, (AV.int .i64 x5x1x0))]) ([] : (List (Nat × (Ob)))))))
def szFieldS_G5 (n : Nat) (d : szFieldS_p5.D) : KT → Option Rs := szFieldS_E5 (szFieldS_F5 n d.1.1 d.1.2.1 d.1.2.2.1)
def szFieldS_L (N : Nat) : Lam := lamOf [⟨5, szFieldS_p5, szFieldS_G5 N⟩]
theorem szFieldS_ok5 (N : Nat) : OkL Kx szFieldS_C.s szFieldS_O 0 N (szFieldS_L N) szFieldS_b5 := okL szFieldS_p5 (szFieldS_G5) (fun d kR => szFieldS_E5 (szFieldS_T5 d.1.1 d.1.2.1 d.1.2.2.1 (fun v5x0 v5x1 v5x2 => kR ((v5x0, v5x1, v5x2, ()), ())))) (fun _ _ => by kernel_rfl) (fun _ _ _ => by kernel_rfl) (fun _ _ => by kernel_rfl) (fun _ _ _ _ => by kernel_rfl) (okEach (l' := []) (by kernel_rfl) trivial)
def szFieldS_run (N : Nat) (l : List Fd) (left : Int) : Option Rs := (bif (decide ((wk64 (left - (l.length : Int))) < 0)) then (some ((AV.int .i64 (-1)), [])) else (szFieldS_F5 N l (wk64 (left - (l.length : Int))) 0 (fun x5x0x0 => (some ((AV.int .i64 (-1)), []))) (fun x5x1x0 => (some ((AV.int .i64 x5x1x0), [])))))
def szFieldS_sOf (φ : (List Fd) → Int → Br) : List AV → List Ob → Br
  | [.sh (.pair .str .str) l, .int .i64 left], [] => φ l left
  | _, _ => .fail
theorem szFieldS_okOf {φ : (List Fd) → Int → Br} (fu : (List Fd) → Int → Nat) (hv : ∀ l left res_, (φ l left).val = some res_ → szFieldS_run (fu l left) l left = some res_) : Sound Kx 16 (szFieldS_sOf φ) := sound_lp (C := szFieldS_C) (O := szFieldS_O) Tryz.func16 (by kernel_rfl) fun args objs => by
  unfold szFieldS_sOf; split
  · rename_i l left; exact .inr fun _ hyp_ => run_lp (Λ := szFieldS_L (fu l left)) (by kernel_rfl) (okEach (l' := [szFieldS_b5]) (by kernel_rfl) ⟨szFieldS_ok5 _, trivial⟩) (by kernel_rfl) (hv l left _ hyp_)
  · exact .inl rfl

def toFieldS_O : Opt := { live := [(3, [0, 3, 4])], outs := [(3, [2, 3])] }
def toFieldS_C : SC := [⟨50, _, toField_ok⟩]
def toFieldS_T3 (v3x0 : (List Fd)) (v3x1 : Int) (v3x2 : (List Fd)) (kR3 : (List Fd) → Int → (List Fd) → Option Rs) (k3e0 : (List Fd) → Option Rs) : Option Rs :=
  (bif (decide (v3x1 < (v3x0.length : Int))) then (bif (decide (0 ≤ v3x1)) then (bif (decide (v3x1 < (v3x0.length : Int))) then (bif (decide (0 ≤ v3x1)) then (bif (decide (v3x1 < (v3x2.length : Int))) then (kR3 v3x0 (wk64 (v3x1 + 1)) (List.set v3x2 (Int.toNat v3x1) ((List.getD v3x0 (Int.toNat v3x1) (([] : Bytes), ([] : Bytes))).1, (List.getD v3x0 (Int.toNat v3x1) (([] : Bytes), ([] : Bytes))).2))) else (none)) else (none)) else (none)) else (none)) else (k3e0 v3x2))
def toFieldS_F3 : Nat → (List Fd) → Int → (List Fd) → ((List Fd) → Option Rs) → Option Rs
  | 0, _, _, _, _ => none
  | n + 1, v3x0, v3x1, v3x2, k3e0 => toFieldS_T3 v3x0 v3x1 v3x2 (fun v3x0 v3x1 v3x2 => toFieldS_F3 n v3x0 v3x1 v3x2 k3e0) k3e0
abbrev toFieldS_p3 : SP := ⟨23, [0, 3, 4], [(.v (.sh (Ty.pair Ty.str Ty.str))), (.v (.ref 256 0)), (.v (.i .i64))], [(256, .arr (Ty.pair Ty.str Ty.str) 0 false)]⟩
noncomputable def toFieldS_b3 : Code := codeAt (codeOf Tryz.f18) [1, 1, 0, 1, 0, 0]
def toFieldS_E3 (f : ((List Fd) → Option Rs) → Option Rs) (k : KT) : Option Rs := f (fun x3x0x0 => k (Ex.exit 0) ((St.mk (slots 0 23 [(3, (AV.ref 256 0))]) ((256, (Ob.arr (Ty.pair Ty.str Ty.str) 0 false x3x0x0)) :: ([] : (List (Nat × (Ob))))))))
def toFieldS_G3 (n : Nat) (d : toFieldS_p3.D) : KT → Option Rs := toFieldS_E3 (toFieldS_F3 n d.1.1 d.1.2.2.1 d.2.1)
def toFieldS_L (N : Nat) : Lam := lamOf [⟨3, toFieldS_p3, toFieldS_G3 N⟩]
theorem toFieldS_ok3 (N : Nat) : OkL Kx toFieldS_C.s toFieldS_O 0 N (toFieldS_L N) toFieldS_b3 := okL toFieldS_p3 (toFieldS_G3) (fun d kR => toFieldS_E3 (toFieldS_T3 d.1.1 d.1.2.2.1 d.2.1 (fun v3x0 v3x1 v3x2 => kR ((v3x0, (), v3x1, ()), (v3x2, ()))))) (fun _ _ => by kernel_rfl) (fun _ _ _ => by kernel_rfl) (fun _ _ => by kernel_rfl) (fun _ _ _ _ => by kernel_rfl) (okEach (l' := []) (by kernel_rfl) trivial)
def toFieldS_run (N : Nat) (l : List Fd) : Option Rs := (bif (decide (0 ≤ (l.length : Int))) then (bif (decide ((l.length : Int) = (l.length : Int))) then (bif (decide (((l.length : Int) * 32) ≤ 140737488355328)) then (toFieldS_F3 N l 0 (List.replicate (Int.toNat (l.length : Int)) (([] : Bytes), ([] : Bytes))) (fun x3x0x0 => (some ((AV.ref 0 0), ((Ob.arr (Ty.pair Ty.str Ty.str) 0 false x3x0x0) :: []))))) else (none)) else (none)) else (none))
def toFieldS_sOf (φ : (List Fd) → Br) : List AV → List Ob → Br
  | [.sh (.pair .str .str) l], [] => φ l
  | _, _ => .fail
theorem toFieldS_okOf {φ : (List Fd) → Br} (fu : (List Fd) → Nat) (hv : ∀ l res_, (φ l).val = some res_ → toFieldS_run (fu l) l = some res_) : Sound Kx 18 (toFieldS_sOf φ) := sound_lp (C := toFieldS_C) (O := toFieldS_O) Tryz.func18 (by kernel_rfl) fun args objs => by
  unfold toFieldS_sOf; split
  · rename_i l; exact .inr fun _ hyp_ => run_lp (Λ := toFieldS_L (fu l)) (by kernel_rfl) (okEach (l' := [toFieldS_b3]) (by kernel_rfl) ⟨toFieldS_ok3 _, trivial⟩) (by kernel_rfl) (hv l _ hyp_)
  · exact .inl rfl

def eqFieldS_O : Opt := { live := [(4, [0, 1, 5])], outs := [(4, [4])] }
def eqFieldS_C : SC := [⟨42, _, eqField_ok⟩]
def eqFieldS_T4 (v4x0 v4x1 : (List Fd)) (v4x2 : Int) (kR4 : (List Fd) → (List Fd) → Int → Option Rs) (k4e0 k4e1 : Option Rs) : Option Rs :=
  (bif (decide (v4x2 < (v4x0.length : Int))) then (bif (decide (0 ≤ v4x2)) then (bif (decide (v4x2 < (v4x0.length : Int))) then (bif (decide (0 ≤ v4x2)) then (bif (decide (v4x2 < (v4x1.length : Int))) then (bif (!(decide ((List.getD v4x0 (Int.toNat v4x2) (([] : Bytes), ([] : Bytes))).1 = (List.getD v4x1 (Int.toNat v4x2) (([] : Bytes), ([] : Bytes))).1))) then k4e0 else (bif (!(decide ((List.getD v4x0 (Int.toNat v4x2) (([] : Bytes), ([] : Bytes))).2 = (List.getD v4x1 (Int.toNat v4x2) (([] : Bytes), ([] : Bytes))).2))) then k4e0 else (kR4 v4x0 v4x1 (wk64 (v4x2 + 1))))) else (none)) else (none)) else (none)) else (none)) else k4e1)
def eqFieldS_F4 : Nat → (List Fd) → (List Fd) → Int → (Option Rs) → (Option Rs) → Option Rs
  | 0, _, _, _, _, _ => none
  | n + 1, v4x0, v4x1, v4x2, k4e0, k4e1 => eqFieldS_T4 v4x0 v4x1 v4x2 (fun v4x0 v4x1 v4x2 => eqFieldS_F4 n v4x0 v4x1 v4x2 k4e0 k4e1) k4e0 k4e1
abbrev eqFieldS_p4 : SP := ⟨27, [0, 1, 5], [(.v (.sh (Ty.pair Ty.str Ty.str))), (.v (.sh (Ty.pair Ty.str Ty.str))), (.v (.i .i64))], []⟩
noncomputable def eqFieldS_b4 : Code := codeAt (codeOf Tryz.f11) [1, 1, 0, 1, 0, 0]
def eqFieldS_E4 (f : (Option Rs) → (Option Rs) → Option Rs) (k : KT) : Option Rs := f (k Ex.ret ((St.mk (slots 0 27 [(4, (AV.bool false))]) ([] : (List (Nat × (Ob))))))) (k (Ex.exit 0) ((St.mk (slots 0 27 []) ([] : (List (Nat × (Ob)))))))
def eqFieldS_G4 (n : Nat) (d : eqFieldS_p4.D) : KT → Option Rs := eqFieldS_E4 (eqFieldS_F4 n d.1.1 d.1.2.1 d.1.2.2.1)
def eqFieldS_L (N : Nat) : Lam := lamOf [⟨4, eqFieldS_p4, eqFieldS_G4 N⟩]
theorem eqFieldS_ok4 (N : Nat) : OkL Kx eqFieldS_C.s eqFieldS_O 0 N (eqFieldS_L N) eqFieldS_b4 := okL eqFieldS_p4 (eqFieldS_G4) (fun d kR => eqFieldS_E4 (eqFieldS_T4 d.1.1 d.1.2.1 d.1.2.2.1 (fun v4x0 v4x1 v4x2 => kR ((v4x0, v4x1, v4x2, ()), ())))) (fun _ _ => by kernel_rfl) (fun _ _ _ => by kernel_rfl) (fun _ _ => by kernel_rfl) (fun _ _ _ _ => by kernel_rfl) (okEach (l' := []) (by kernel_rfl) trivial)
def eqFieldS_run (N : Nat) (l l' : List Fd) : Option Rs := (bif (!(decide ((l.length : Int) = ((List.length l') : Int)))) then (some ((AV.bool false), [])) else (eqFieldS_F4 N l l' 0 (some ((AV.bool false), [])) (some ((AV.bool true), []))))
def eqFieldS_sOf (φ : (List Fd) → (List Fd) → Br) : List AV → List Ob → Br
  | [.sh (.pair .str .str) l, .sh (.pair .str .str) l'], [] => φ l l'
  | _, _ => .fail
theorem eqFieldS_okOf {φ : (List Fd) → (List Fd) → Br} (fu : (List Fd) → (List Fd) → Nat) (hv : ∀ l l' res_, (φ l l').val = some res_ → eqFieldS_run (fu l l') l l' = some res_) : Sound Kx 11 (eqFieldS_sOf φ) := sound_lp (C := eqFieldS_C) (O := eqFieldS_O) Tryz.func11 (by kernel_rfl) fun args objs => by
  unfold eqFieldS_sOf; split
  · rename_i l l'; exact .inr fun _ hyp_ => run_lp (Λ := eqFieldS_L (fu l l')) (by kernel_rfl) (okEach (l' := [eqFieldS_b4]) (by kernel_rfl) ⟨eqFieldS_ok4 _, trivial⟩) (by kernel_rfl) (hv l l' _ hyp_)
  · exact .inl rfl


theorem one_set {α : Type} (d x : α) : List.set (List.replicate 1 d) 0 x = [x] := rfl
theorem eta2 {α β : Type} (x : α × β) : (x.1, x.2) = x := rfl
def valsR (l : List Fd) (name : Bytes) : List Bytes := (l.filter fun f => sameP f.1 name).map (·.2)
def vals (l : List Fd) (name : Bytes) : List Bytes := bif fdsOk l then valsR l name else []
theorem fdsOk_mem {l : List Fd} (h : fdsOk l = true) : l.length ≤ 20 ∧ ∀ f ∈ l, fdOk f = true := by
  unfold fdsOk at h; rw [Bool.and_eq_true, decide_eq_true_eq, List.all_eq_true] at h; exact h
theorem fdOk_isM {f : Fd} (h : fdOk f = true) : isM f.1 = true ∧ isM f.2 = true := ⟨isM_of (fdOk_len h).1, isM_of (fdOk_len h).2⟩
theorem iValues_loop (name : Bytes) (hm : isM name = true) (l : List Fd) (hl : l.length ≤ 20) (k : List Bytes → Option Rs) : ∀ (r : List Fd) (i : Int) (n : Nat) (out : List Bytes), At l i r → r.length < n → (∀ f ∈ r, fdOk f = true) → out.length + r.length ≤ 20 →
    iValues_F5 n name l (l.length : Int) i out k = k (out ++ valsR r name) := by
  intro r; induction r with
  | nil => intro i n out h hn hf ho; obtain ⟨n, rfl⟩ := fuel hn; unfold iValues_F5 iValues_T5; simp only [h.dge, cond_false]; simp [valsR]
  | cons a r ih =>
    intro i n out h hn hf ho; obtain ⟨n, rfl⟩ := fuel hn
    have ha := fdOk_isM (hf a (List.mem_cons_self ..))
    have hr := fun f h => hf f (List.mem_cons_of_mem _ h)
    simp only [List.length_cons] at ho hn
    have e0 : decide ((out.length + [a.2].length) * 16 ≤ 140737488355328) = true := decide_eq_true (by simp only [List.length_singleton]; omega)
    unfold iValues_F5 iValues_T5; simp only [h.dlt, h.dnn, h.get, cond_true, h.next (by omega), ha.1, hm, Bool.and_self, one_set, e0]
    cases hs : sameP a.1 name
    · rw [cond_false, ih (i + 1) n out h.step (by omega) hr (by omega)]; simp [valsR, hs]
    · rw [cond_true, ih (i + 1) n (out ++ [a.2]) h.step (by omega) hr (by simp; omega)]; simp [valsR, hs]
def val_s : List AV → List Ob → Br
  | [.sh (.pair .str .str) l, .str name], [] => .ite (isM name) (.ret (.ref 0 0) [.arr .str 0 false (vals l name)]) .fail
  | _, _ => .fail
theorem iValues_okQ : Sound Kx 90 val_s := by
  refine (iValues_okOf (φ := fun l name => .ite (isM name) (.ret (.ref 0 0) [.arr .str 0 false (vals l name)]) .fail) (fun l _ => l.length + 1) fun l name r h => ?_).of fun args objs r h => ?_
  · obtain ⟨h1, h2⟩ := ite_some h
    cases h2
    unfold iValues_run vals
    cases hf : fdsOk l
    · rfl
    · obtain ⟨g1, g2⟩ := fdsOk_mem hf
      simp only [Bool.not_true, cond_false, cond_true]
      rw [iValues_loop name h1 l g1 _ l 0 _ [] (At.start l) (by omega) g2 (by simpa using g1)]
      rfl
  · unfold val_s at h; split at h
    · exact h
    · cases h
theorem sValues_loop (name : Bytes) (hm : isM name = true) (l : List Fd) (hl : l.length ≤ 20) (k : List Bytes → Option Rs) : ∀ (r : List Fd) (i : Int) (n : Nat) (out : List Bytes), At l i r → r.length < n → (∀ f ∈ r, fdOk f = true) → out.length + r.length ≤ 20 →
    sValues_F5 n l name i out k = k (out ++ valsR r name) := by
  intro r; induction r with
  | nil => intro i n out h hn hf ho; obtain ⟨n, rfl⟩ := fuel hn; unfold sValues_F5 sValues_T5; simp only [h.dge, cond_false]; simp [valsR]
  | cons a r ih =>
    intro i n out h hn hf ho; obtain ⟨n, rfl⟩ := fuel hn
    have ha := fdOk_isM (hf a (List.mem_cons_self ..))
    have hr := fun f h => hf f (List.mem_cons_of_mem _ h)
    simp only [List.length_cons] at ho hn
    have e0 : decide ((out.length + [a.2].length) * 16 ≤ 140737488355328) = true := decide_eq_true (by simp only [List.length_singleton]; omega)
    unfold sValues_F5 sValues_T5; simp only [h.dlt, h.dnn, h.get, cond_true, h.next (by omega), ha.1, hm, Bool.and_self, one_set, e0]
    cases hs : sameP a.1 name
    · rw [cond_false, ih (i + 1) n out h.step (by omega) hr (by omega)]; simp [valsR, hs]
    · rw [cond_true, ih (i + 1) n (out ++ [a.2]) h.step (by omega) hr (by simp; omega)]; simp [valsR, hs]
theorem sValues_okQ : Sound Kx 80 val_s := by
  refine (sValues_okOf (φ := fun l name => .ite (isM name) (.ret (.ref 0 0) [.arr .str 0 false (vals l name)]) .fail) (fun l _ => l.length + 1) fun l name r h => ?_).of fun args objs r h => ?_
  · obtain ⟨h1, h2⟩ := ite_some h
    cases h2
    unfold sValues_run vals
    cases hf : fdsOk l
    · rfl
    · obtain ⟨g1, g2⟩ := fdsOk_mem hf
      simp only [Bool.not_true, cond_false, cond_true]
      rw [sValues_loop name h1 l g1 _ l 0 _ [] (At.start l) (by omega) g2 (by simpa using g1)]
      rfl
  · unfold val_s at h; split at h
    · exact h
    · cases h

def frC : Bytes := [99, 111, 110, 116, 101, 110, 116, 45, 108, 101, 110, 103, 116, 104]
def frT : Bytes := [116, 114, 97, 110, 115, 102, 101, 114, 45, 101, 110, 99, 111, 100, 105, 110, 103]
def frR : Bytes := [116, 114, 97, 105, 108, 101, 114]
def isFr (f : Fd) : Bool := decide (foldP f.1 = frC) || decide (foldP f.1 = frT) || decide (foldP f.1 = frR)
theorem sframed_loop (l : List Fd) (hl : l.length ≤ 20) (k0 k1 : Option Rs) : ∀ (r : List Fd) (i : Int) (n : Nat), At l i r → r.length < n → (∀ f ∈ r, fdOk f = true) → sframed_F2 n l i k0 k1 = bif r.any isFr then k0 else k1 := by
  intro r; induction r with
  | nil => intro i n h hn hf; obtain ⟨n, rfl⟩ := fuel hn; unfold sframed_F2 sframed_T2; simp only [h.dge, cond_false, List.any_nil]
  | cons a r ih =>
    intro i n h hn hf; obtain ⟨n, rfl⟩ := fuel hn
    have ha := fdOk_isM (hf a (List.mem_cons_self ..))
    have hs := ih (i + 1) n h.step (by simp at hn; omega) fun f h => hf f (List.mem_cons_of_mem _ h)
    unfold sframed_F2 sframed_T2; simp only [h.dlt, h.dnn, h.get, cond_true, h.next (by omega), hs, ha.1, List.any_cons]
    show (bif decide (foldP a.1 = frC) then k0 else bif decide (foldP a.1 = frT) then k0 else bif decide (foldP a.1 = frR) then k0 else _) = bif isFr a || _ then _ else _
    unfold isFr
    cases decide (foldP a.1 = frC) <;> cases decide (foldP a.1 = frT) <;> cases decide (foldP a.1 = frR) <;> rfl
def sfr_s : List AV → List Ob → Br
  | [.sh (.pair .str .str) l], [] => .ite (fdsOk l) (.ret (.bool (l.any isFr)) []) .fail
  | _, _ => .fail
theorem sframed_okQ : Sound Kx 121 sfr_s := by
  refine (sframed_okOf (φ := fun l => .ite (fdsOk l) (.ret (.bool (l.any isFr)) []) .fail) (fun l => l.length + 1) fun l r h => ?_).of fun args objs r h => ?_
  · obtain ⟨h1, h2⟩ := ite_some h
    cases h2
    obtain ⟨g1, g2⟩ := fdsOk_mem h1
    unfold sframed_run
    rw [sframed_loop l g1 _ _ l 0 _ (At.start l) (by omega) g2]
    cases l.any isFr <;> rfl
  · unfold sfr_s at h; split at h
    · exact h
    · cases h

def totF : List Fd → Int
  | [] => 0
  | a :: r => (a.1.length : Int) + (a.2.length : Int) + totF r
def isMF (f : Fd) : Bool := isM f.1 && isM f.2
def smF (l : List Fd) : Bool := decide (l.length ≤ 4611686018427387904) && l.all isMF
theorem totF_nn : ∀ l, 0 ≤ totF l
  | [] => Int.le_refl 0
  | a :: r => by have := totF_nn r; simp only [totF]; omega
def szFl (l : List Fd) (left : Int) : Int := bif decide ((l.length : Int) + totF l ≤ left) then left - ((l.length : Int) + totF l) else -1
def okLeft (left : Int) : Bool := decide (0 ≤ left) && decide (left ≤ 1048576)
theorem szFieldS_loop (l : List Fd) (hl : l.length ≤ 4611686018427387904) (ka kb : Int → Option Rs) : ∀ (r : List Fd) (i left : Int) (n : Nat), At l i r → r.length < n → (∀ f ∈ r, isMF f = true) → 0 ≤ left → left ≤ 1048576 →
    szFieldS_F5 n l left i ka kb = bif decide (totF r ≤ left) then kb (left - totF r) else ka (-1) := by
  intro r; induction r with
  | nil =>
    intro i left n h hn hf h0 h1; obtain ⟨n, rfl⟩ := fuel hn; unfold szFieldS_F5 szFieldS_T5
    have e : decide (totF [] ≤ left) = true := decide_eq_true h0
    simp only [h.dge, cond_false, e, cond_true]; simp only [totF, Int.sub_zero]
  | cons a r ih =>
    intro i left n h hn hf h0 h1; obtain ⟨n, rfl⟩ := fuel hn
    have ha := hf a (List.mem_cons_self ..)
    unfold isMF at ha; rw [Bool.and_eq_true] at ha
    have g1 := isM_le ha.1
    have g2 := isM_le ha.2
    have ht := totF_nn r
    have hs := fun left => ih (i + 1) left n h.step (by simp at hn; omega) (fun f h => hf f (List.mem_cons_of_mem _ h))
    unfold szFieldS_F5 szFieldS_T5; simp only [h.dlt, h.dnn, h.get, cond_true, h.next hl]
    rw [w64 (n := left - (a.1.length : Int)) (by omega) (by omega)]
    by_cases c1 : left - (a.1.length : Int) < 0
    · have : ¬ totF (a :: r) ≤ left := by simp only [totF]; omega
      simp only [c1, this, decide_true, decide_false, cond_true, cond_false]
    · rw [w64 (n := left - (a.1.length : Int) - (a.2.length : Int)) (by omega) (by omega)]
      by_cases c2 : left - (a.1.length : Int) - (a.2.length : Int) < 0
      · have : ¬ totF (a :: r) ≤ left := by simp only [totF]; omega
        simp only [c1, c2, this, decide_true, decide_false, cond_true, cond_false]
      · simp only [c1, c2, decide_false, cond_false]
        rw [hs _ (by omega) (by omega)]
        by_cases c3 : totF (a :: r) ≤ left
        · have c3' := c3
          simp only [totF] at c3'
          have e : totF r ≤ left - (a.1.length : Int) - (a.2.length : Int) := by omega
          simp only [e, c3, decide_true, cond_true]
          congr 1; simp only [totF]; omega
        · have c3' := c3
          simp only [totF] at c3'
          have e : ¬ totF r ≤ left - (a.1.length : Int) - (a.2.length : Int) := by omega
          simp only [e, c3, decide_false, cond_false]
theorem szFieldS_okQ : Sound Kx 16 (szFieldS_sOf fun l left => .ite (smF l && okLeft left) (.ret (.int .i64 (szFl l left)) []) .fail) := by
  refine szFieldS_okOf (fun l _ => l.length + 1) fun l left r h => ?_
  obtain ⟨h1, h2⟩ := ite_some h
  cases h2
  simp only [smF, okLeft, Bool.and_eq_true, decide_eq_true_eq, List.all_eq_true] at h1
  unfold szFieldS_run szFl
  have ht := totF_nn l
  rw [w64 (by omega) (by omega)]
  by_cases c : left - (l.length : Int) < 0
  · have : ¬ (l.length : Int) + totF l ≤ left := by omega
    simp only [c, this, decide_true, decide_false, cond_true, cond_false]
  · simp only [c, decide_false, cond_false]
    rw [szFieldS_loop l h1.1.1 _ _ l 0 _ _ (At.start l) (by omega) h1.1.2 (by omega) (by omega)]
    by_cases c2 : (l.length : Int) + totF l ≤ left
    · have e : totF l ≤ left - (l.length : Int) := by omega
      simp only [c2, e, decide_true, cond_true]
      rw [show left - (l.length : Int) - totF l = left - ((l.length : Int) + totF l) by omega]
    · have e : ¬ totF l ≤ left - (l.length : Int) := by omega
      simp only [c2, e, decide_false, cond_false]
theorem toFieldS_loop (l : List Fd) (hl : l.length ≤ 4611686018427387904) (k : List Fd → Option Rs) : ∀ (r pre : List Fd) (i : Int) (n : Nat), l = pre ++ r → i = pre.length → r.length < n →
    toFieldS_F3 n l i (pre ++ List.replicate r.length ([], [])) k = k l := by
  intro r; induction r with
  | nil =>
    intro pre i n h hi hn; obtain ⟨n, rfl⟩ := fuel hn; subst h; subst hi
    have e : decide ((pre.length : Int) < ((pre ++ ([] : List Fd)).length : Int)) = false := by simp
    unfold toFieldS_F3 toFieldS_T3; simp only [e, cond_false]; rfl
  | cons a r ih =>
    intro pre i n h hi hn; obtain ⟨n, rfl⟩ := fuel hn
    have ha : At l i (a :: r) := ⟨pre, h, hi⟩
    have e1 : decide (i < ((pre ++ List.replicate (a :: r).length (([], []) : Fd)).length : Int)) = true := decide_eq_true (by rw [hi]; simp; omega)
    unfold toFieldS_F3 toFieldS_T3; simp only [ha.dlt, ha.dnn, ha.get, cond_true, ha.next hl, e1]
    have := ih (pre ++ [a]) (i + 1) n (by rw [h]; simp) (by rw [hi]; simp) (by simp at hn; omega)
    rw [← this]
    congr 1
    rw [hi]
    simp only [List.length_cons, List.replicate_succ, Int.toNat_natCast, set_mid]
    simp
theorem toFieldS_okQ : Sound Kx 18 (toFieldS_sOf fun l => .ite (decide (l.length ≤ 1048576)) (.ret (.ref 0 0) [.arr (.pair .str .str) 0 false l]) .fail) := by
  refine toFieldS_okOf (fun l => l.length + 1) fun l r h => ?_
  obtain ⟨h1, h2⟩ := ite_some h
  cases h2
  rw [decide_eq_true_eq] at h1
  unfold toFieldS_run
  have e1 : decide ((0 : Int) ≤ (l.length : Int)) = true := by simp
  have e2 : decide ((l.length : Int) * 32 ≤ 140737488355328) = true := decide_eq_true (by omega)
  simp only [e1, e2, decide_true, cond_true, Int.toNat_natCast]
  exact toFieldS_loop l (by omega) _ l [] 0 _ rfl rfl (by omega)
theorem eqFieldS_loop (l l' : List Fd) (hl : l.length ≤ 4611686018427387904) (k0 k1 : Option Rs) : ∀ (r r' : List Fd) (i : Int) (n : Nat), At l i r → At l' i r' → r.length = r'.length → r.length < n →
    eqFieldS_F4 n l l' i k0 k1 = bif decide (r = r') then k1 else k0 := by
  intro r; induction r with
  | nil =>
    intro r' i n h h' he hn; obtain ⟨n, rfl⟩ := fuel hn
    have : r' = [] := List.length_eq_zero_iff.1 he.symm
    subst this
    unfold eqFieldS_F4 eqFieldS_T4; simp only [h.dge, cond_false, decide_true, cond_true]
  | cons a r ih =>
    intro r' i n h h' he hn; obtain ⟨n, rfl⟩ := fuel hn
    cases r' with
    | nil => cases he
    | cons b r' =>
      have hs := ih r' (i + 1) n h.step h'.step (by simpa using he) (by simp at hn; omega)
      unfold eqFieldS_F4 eqFieldS_T4; simp only [h.dlt, h'.dlt, h.dnn, h.get, h'.get, cond_true, h.next hl, hs]
      obtain ⟨a1, a2⟩ := a
      obtain ⟨b1, b2⟩ := b
      by_cases c1 : a1 = b1 <;> by_cases c2 : a2 = b2 <;> by_cases c3 : r = r' <;> simp [c1, c2, c3]
theorem eqFieldS_okQ : Sound Kx 11 (eqFieldS_sOf fun l l' => .ite (decide (l.length ≤ 4611686018427387904)) (.ret (.bool (decide (l = l'))) []) .fail) := by
  refine eqFieldS_okOf (fun l _ => l.length + 1) fun l l' r h => ?_
  obtain ⟨h1, h2⟩ := ite_some h
  cases h2
  rw [decide_eq_true_eq] at h1
  unfold eqFieldS_run
  by_cases c : l.length = l'.length
  · have c' : (l.length : Int) = (l'.length : Int) := by omega
    simp only [c', decide_true, Bool.not_true, cond_false]
    rw [eqFieldS_loop l l' h1 _ _ l l' 0 _ (At.start l) (At.start l') c (by omega)]
    cases decide (l = l') <;> rfl
  · have c' : ¬ (l.length : Int) = (l'.length : Int) := by omega
    have c2 : ¬ l = l' := fun e => c (by rw [e])
    simp only [c', c2, decide_false, Bool.not_false, cond_true]


def iAdd_C : SC := [⟨163, _, itrim_okQ⟩]
def iAdd_br (el : Bytes) (out : List Bytes) : Br := (Br.ite (isM el) (Br.ite (!(decide ((trimP el) = ([] : Bytes)))) (Br.ite (decide (((out.length + (List.length (List.set (List.replicate 1 ([] : Bytes)) 0 (trimP el)))) * 16) ≤ 140737488355328)) (Br.ret (AV.tup []) ((Ob.var ((AV.ref 1 1) :: [])) :: ((Ob.arr Ty.str 1 false (out ++ (List.set (List.replicate 1 ([] : Bytes)) 0 (trimP el)))) :: []))) Br.fail) (Br.ret (AV.tup []) ((Ob.var ((AV.ref 1 0) :: [])) :: ((Ob.arr Ty.str 0 false out) :: [])))) Br.fail)
def iAdd_s : List AV → List Ob → Br
  | [.str el, .ptr 0 0], [.var [.ref 1 0], .arr .str 0 false out] => iAdd_br el out
  | _, _ => .fail
theorem iAdd_ok : Sound Kx 164 iAdd_s := sound_br (C := iAdd_C) (O := O0) Tryz.func164 (by kernel_rfl) fun args objs => by
  unfold iAdd_s; split
  · exact .inr (by kernel_rfl)
  · exact .inl rfl

def iAddN_C : SC := [⟨163, _, itrim_okQ⟩]
def iAddN_br (el : Bytes) : Br := (Br.ite (isM el) (Br.ite (!(decide ((trimP el) = ([] : Bytes)))) (Br.ite (decide (((List.length (List.set (List.replicate 1 ([] : Bytes)) 0 (trimP el))) * 16) ≤ 140737488355328)) (Br.ret (AV.tup []) ((Ob.var ((AV.ref 1 0) :: [])) :: ((Ob.arr Ty.str 0 false (List.set (List.replicate 1 ([] : Bytes)) 0 (trimP el))) :: []))) Br.fail) (Br.ret (AV.tup []) ((Ob.var ((AV.nil Ty.str) :: [])) :: []))) Br.fail)
def iAddN_s : List AV → List Ob → Br
  | [.str el, .ptr 0 0], [.var [.nil .str]] => iAddN_br el
  | _, _ => .fail
theorem iAddN_ok : Sound Kx 164 iAddN_s := sound_br (C := iAddN_C) (O := O0) Tryz.func164 (by kernel_rfl) fun args objs => by
  unfold iAddN_s; split
  · exact .inr (by kernel_rfl)
  · exact .inl rfl

def sElements_O : Opt := { live := [(7, [0, 3, 4, 5, 6])], outs := [(7, [2, 3])] }
def sElements_C : SC := [⟨160, _, strim_okQ⟩]
def sElements_T7 (v7x0 : Bytes) (v7x1 : Int) (v7x2 : Bool) (v7x3 : Int) (v7x4 : (List Bytes)) (kR7 : Bytes → Int → Bool → Int → (List Bytes) → Option Rs) (k7e0 : (List Bytes) → Option Rs) : Option Rs :=
  (bif (decide (v7x3 ≤ (v7x0.length : Int))) then (bif (decide (v7x3 = (v7x0.length : Int))) then (bif (decide (0 ≤ v7x1)) then (bif (decide (v7x1 ≤ v7x3)) then (bif (decide (v7x3 ≤ (v7x0.length : Int))) then (bif (isM (cut v7x0 v7x1 v7x3)) then (bif (decide (0 < ((List.length (trimP (cut v7x0 v7x1 v7x3))) : Int))) then (bif (decide (((v7x4.length + (List.length (List.set (List.replicate 1 ([] : Bytes)) 0 (trimP (cut v7x0 v7x1 v7x3))))) * 16) ≤ 140737488355328)) then (kR7 v7x0 (wk64 (v7x3 + 1)) v7x2 (wk64 (v7x3 + 1)) (v7x4 ++ (List.set (List.replicate 1 ([] : Bytes)) 0 (trimP (cut v7x0 v7x1 v7x3))))) else (none)) else (kR7 v7x0 (wk64 (v7x3 + 1)) v7x2 (wk64 (v7x3 + 1)) v7x4)) else (none)) else (none)) else (none)) else (none)) else (bif (!v7x2) then (bif (decide (0 ≤ v7x3)) then (bif (decide (v7x3 < (v7x0.length : Int))) then (bif (decide ((strAt v7x0 v7x3) = 44)) then (bif (decide (0 ≤ v7x1)) then (bif (decide (v7x1 ≤ v7x3)) then (bif (decide (v7x3 ≤ (v7x0.length : Int))) then (bif (isM (cut v7x0 v7x1 v7x3)) then (bif (decide (0 < ((List.length (trimP (cut v7x0 v7x1 v7x3))) : Int))) then (bif (decide (((v7x4.length + (List.length (List.set (List.replicate 1 ([] : Bytes)) 0 (trimP (cut v7x0 v7x1 v7x3))))) * 16) ≤ 140737488355328)) then (kR7 v7x0 (wk64 (v7x3 + 1)) v7x2 (wk64 (v7x3 + 1)) (v7x4 ++ (List.set (List.replicate 1 ([] : Bytes)) 0 (trimP (cut v7x0 v7x1 v7x3))))) else (none)) else (kR7 v7x0 (wk64 (v7x3 + 1)) v7x2 (wk64 (v7x3 + 1)) v7x4)) else (none)) else (none)) else (none)) else (none)) else (bif (decide (0 ≤ v7x3)) then (bif (decide (v7x3 < (v7x0.length : Int))) then (bif (decide ((strAt v7x0 v7x3) = 34)) then (kR7 v7x0 v7x1 (!v7x2) (wk64 (v7x3 + 1)) v7x4) else (bif v7x2 then (bif (decide (0 ≤ v7x3)) then (bif (decide (v7x3 < (v7x0.length : Int))) then (bif (decide ((strAt v7x0 v7x3) = 92)) then (bif (decide ((wk64 (v7x3 + 1)) < (v7x0.length : Int))) then (kR7 v7x0 v7x1 v7x2 (wk64 ((wk64 (v7x3 + 1)) + 1)) v7x4) else (kR7 v7x0 v7x1 v7x2 (wk64 (v7x3 + 1)) v7x4)) else (kR7 v7x0 v7x1 v7x2 (wk64 (v7x3 + 1)) v7x4)) else (none)) else (none)) else (kR7 v7x0 v7x1 v7x2 (wk64 (v7x3 + 1)) v7x4))) else (none)) else (none))) else (none)) else (none)) else (bif (decide (0 ≤ v7x3)) then (bif (decide (v7x3 < (v7x0.length : Int))) then (bif (decide ((strAt v7x0 v7x3) = 34)) then (kR7 v7x0 v7x1 (!v7x2) (wk64 (v7x3 + 1)) v7x4) else (bif v7x2 then (bif (decide (0 ≤ v7x3)) then (bif (decide (v7x3 < (v7x0.length : Int))) then (bif (decide ((strAt v7x0 v7x3) = 92)) then (bif (decide ((wk64 (v7x3 + 1)) < (v7x0.length : Int))) then (kR7 v7x0 v7x1 v7x2 (wk64 ((wk64 (v7x3 + 1)) + 1)) v7x4) else (kR7 v7x0 v7x1 v7x2 (wk64 (v7x3 + 1)) v7x4)) else (kR7 v7x0 v7x1 v7x2 (wk64 (v7x3 + 1)) v7x4)) else (none)) else (none)) else (kR7 v7x0 v7x1 v7x2 (wk64 (v7x3 + 1)) v7x4))) else (none)) else (none)))) else (k7e0 v7x4))
def sElements_F7 : Nat → Bytes → Int → Bool → Int → (List Bytes) → ((List Bytes) → Option Rs) → Option Rs
  | 0, _, _, _, _, _, _ => none
  | n + 1, v7x0, v7x1, v7x2, v7x3, v7x4, k7e0 => sElements_T7 v7x0 v7x1 v7x2 v7x3 v7x4 (fun v7x0 v7x1 v7x2 v7x3 v7x4 => sElements_F7 n v7x0 v7x1 v7x2 v7x3 v7x4 k7e0) k7e0
abbrev sElements_p7 : SP := ⟨70, [0, 3, 4, 5, 6], [(.v .s), (.v (.ref 256 0)), (.v (.i .i64)), (.v .b), (.v (.i .i64))], [(256, .arr Ty.str 0 false)]⟩
noncomputable def sElements_b7 : Code := codeAt (codeOf Tryz.f96) [1, 1, 1, 1, 1, 0, 1, 0, 0]
def sElements_E7 (f : ((List Bytes) → Option Rs) → Option Rs) (k : KT) : Option Rs := f (fun x7x0x0 => k (Ex.exit 0) ((St.mk (slots 0 70 [(3, (AV.ref 256 0))]) ((256, (Ob.arr Ty.str 0 false x7x0x0)) :: ([] : (List (Nat × (Ob))))))))
def sElements_G7 (n : Nat) (d : sElements_p7.D) : KT → Option Rs := sElements_E7 (sElements_F7 n d.1.1 d.1.2.2.1 d.1.2.2.2.1 d.1.2.2.2.2.1 d.2.1)
def sElements_L (N : Nat) : Lam := lamOf [⟨7, sElements_p7, sElements_G7 N⟩]
theorem sElements_ok7 (N : Nat) : OkL Kx sElements_C.s sElements_O 0 N (sElements_L N) sElements_b7 := okL sElements_p7 (sElements_G7) (fun d kR => sElements_E7 (sElements_T7 d.1.1 d.1.2.2.1 d.1.2.2.2.1 d.1.2.2.2.2.1 d.2.1 (fun v7x0 v7x1 v7x2 v7x3 v7x4 => kR ((v7x0, (), v7x1, v7x2, v7x3, ()), (v7x4, ()))))) (fun _ _ => by kernel_rfl) (fun _ _ _ => by kernel_rfl) (fun _ _ => by kernel_rfl) (fun _ _ _ _ => by kernel_rfl) (okEach (l' := []) (by kernel_rfl) trivial)
def sElements_run (N : Nat) (s : Bytes) : Option Rs := (bif (decide (4000 < (s.length : Int))) then (some ((AV.ref 0 0), ((Ob.arr Ty.str 0 false ([] : (List Bytes))) :: []))) else (sElements_F7 N s 0 false 0 ([] : (List Bytes)) (fun x7x0x0 => (some ((AV.ref 0 0), ((Ob.arr Ty.str 0 false x7x0x0) :: []))))))
def sElements_sOf (φ : Bytes → Br) : List AV → List Ob → Br
  | [.str s], [] => φ s
  | _, _ => .fail
theorem sElements_okOf {φ : Bytes → Br} (fu : Bytes → Nat) (hv : ∀ s res_, (φ s).val = some res_ → sElements_run (fu s) s = some res_) : Sound Kx 96 (sElements_sOf φ) := sound_lp (C := sElements_C) (O := sElements_O) Tryz.func96 (by kernel_rfl) fun args objs => by
  unfold sElements_sOf; split
  · rename_i s; exact .inr fun _ hyp_ => run_lp (Λ := sElements_L (fu s)) (by kernel_rfl) (okEach (l' := [sElements_b7]) (by kernel_rfl) ⟨sElements_ok7 _, trivial⟩) (by kernel_rfl) (hv s _ hyp_)
  · exact .inl rfl

def sJoined_O : Opt := { live := [(4, [5, 6, 7])], outs := [(4, [4, 6])] }
def sJoined_C : SC := [⟨80, _, sValues_okQ⟩]
def sJoined_T4 (v4x0 : Bytes) (v4x1 : Int) (v4x2 : (List Bytes)) (kR4 : Bytes → Int → (List Bytes) → Option Rs) (k4e0 : Bytes → Option Rs) : Option Rs :=
  (bif (decide (v4x1 < (v4x2.length : Int))) then (bif (decide (0 < v4x1)) then (bif (decide ((v4x0.length + 2) ≤ 9223372036854775807)) then (bif (decide (0 ≤ v4x1)) then (bif (decide (v4x1 < (v4x2.length : Int))) then (bif (decide (((List.length (v4x0 ++ ([44, 32] : Bytes))) + (List.length (List.getD v4x2 (Int.toNat v4x1) ([] : Bytes)))) ≤ 9223372036854775807)) then (kR4 ((v4x0 ++ ([44, 32] : Bytes)) ++ (List.getD v4x2 (Int.toNat v4x1) ([] : Bytes))) (wk64 (v4x1 + 1)) v4x2) else (none)) else (none)) else (none)) else (none)) else (bif (decide (0 ≤ v4x1)) then (bif (decide (v4x1 < (v4x2.length : Int))) then (bif (decide ((v4x0.length + (List.length (List.getD v4x2 (Int.toNat v4x1) ([] : Bytes)))) ≤ 9223372036854775807)) then (kR4 (v4x0 ++ (List.getD v4x2 (Int.toNat v4x1) ([] : Bytes))) (wk64 (v4x1 + 1)) v4x2) else (none)) else (none)) else (none))) else (k4e0 v4x0))
def sJoined_F4 : Nat → Bytes → Int → (List Bytes) → (Bytes → Option Rs) → Option Rs
  | 0, _, _, _, _ => none
  | n + 1, v4x0, v4x1, v4x2, k4e0 => sJoined_T4 v4x0 v4x1 v4x2 (fun v4x0 v4x1 v4x2 => sJoined_F4 n v4x0 v4x1 v4x2 k4e0) k4e0
abbrev sJoined_p4 : SP := ⟨28, [5, 6, 7], [(.v (.ref 384 0)), (.v .s), (.v (.i .i64))], [(384, .arr Ty.str 0 false)]⟩
noncomputable def sJoined_b4 : Code := codeAt (codeOf Tryz.f97) [1, 1, 1, 0, 1, 0, 0]
def sJoined_E4 (f : (Bytes → Option Rs) → Option Rs) (k : KT) : Option Rs := f (fun x4x0x0 => k (Ex.exit 0) ((St.mk (slots 0 28 [(6, (AV.str x4x0x0))]) ([] : (List (Nat × (Ob)))))))
def sJoined_G4 (n : Nat) (d : sJoined_p4.D) : KT → Option Rs := sJoined_E4 (sJoined_F4 n d.1.2.1 d.1.2.2.1 d.2.1)
def sJoined_L (N : Nat) : Lam := lamOf [⟨4, sJoined_p4, sJoined_G4 N⟩]
theorem sJoined_ok4 (N : Nat) : OkL Kx sJoined_C.s sJoined_O 0 N (sJoined_L N) sJoined_b4 := okL sJoined_p4 (sJoined_G4) (fun d kR => sJoined_E4 (sJoined_T4 d.1.2.1 d.1.2.2.1 d.2.1 (fun v4x0 v4x1 v4x2 => kR (((), v4x0, v4x1, ()), (v4x2, ()))))) (fun _ _ => by kernel_rfl) (fun _ _ _ => by kernel_rfl) (fun _ _ => by kernel_rfl) (fun _ _ _ _ => by kernel_rfl) (okEach (l' := []) (by kernel_rfl) trivial)
def sJoined_run (N : Nat) (l : List Fd) (name : Bytes) : Option Rs := (bif (isM name) then (sJoined_F4 N ([] : Bytes) 0 (vals l name) (fun x4x0x0 => (some ((AV.str x4x0x0), [])))) else (none))
def sJoined_sOf (φ : (List Fd) → Bytes → Br) : List AV → List Ob → Br
  | [.sh (.pair .str .str) l, .str name], [] => φ l name
  | _, _ => .fail
theorem sJoined_okOf {φ : (List Fd) → Bytes → Br} (fu : (List Fd) → Bytes → Nat) (hv : ∀ l name res_, (φ l name).val = some res_ → sJoined_run (fu l name) l name = some res_) : Sound Kx 97 (sJoined_sOf φ) := sound_lp (C := sJoined_C) (O := sJoined_O) Tryz.func97 (by kernel_rfl) fun args objs => by
  unfold sJoined_sOf; split
  · rename_i l name; exact .inr fun _ hyp_ => run_lp (Λ := sJoined_L (fu l name)) (by kernel_rfl) (okEach (l' := [sJoined_b4]) (by kernel_rfl) ⟨sJoined_ok4 _, trivial⟩) (by kernel_rfl) (hv l name _ hyp_)
  · exact .inl rfl

def sl5in_O : Opt := { live := [(2, [0, 1, 5])], outs := [(2, [4])] }
def sl5in_T2 (v2x0 : (List Bytes)) (v2x1 : Bytes) (v2x2 : Int) (kR2 : (List Bytes) → Bytes → Int → Option Rs) (k2e0 k2e1 : Option Rs) : Option Rs :=
  (bif (decide (v2x2 < (v2x0.length : Int))) then (bif (decide (0 ≤ v2x2)) then (bif (decide (v2x2 < (v2x0.length : Int))) then (bif (decide ((List.getD v2x0 (Int.toNat v2x2) ([] : Bytes)) = v2x1)) then k2e0 else (kR2 v2x0 v2x1 (wk64 (v2x2 + 1)))) else (none)) else (none)) else k2e1)
def sl5in_F2 : Nat → (List Bytes) → Bytes → Int → (Option Rs) → (Option Rs) → Option Rs
  | 0, _, _, _, _, _ => none
  | n + 1, v2x0, v2x1, v2x2, k2e0, k2e1 => sl5in_T2 v2x0 v2x1 v2x2 (fun v2x0 v2x1 v2x2 => sl5in_F2 n v2x0 v2x1 v2x2 k2e0 k2e1) k2e0 k2e1
abbrev sl5in_p2 : SP := ⟨18, [0, 1, 5], [(.v (.sh Ty.str)), (.v .s), (.v (.i .i64))], []⟩
noncomputable def sl5in_b2 : Code := codeAt (codeOf Tryz.f59) [1, 0, 1, 0, 0]
def sl5in_E2 (f : (Option Rs) → (Option Rs) → Option Rs) (k : KT) : Option Rs := f (k Ex.ret ((St.mk (slots 0 18 [(4, (AV.bool true))]) ([] : (List (Nat × (Ob))))))) (k (Ex.exit 0) ((St.mk (slots 0 18 []) ([] : (List (Nat × (Ob)))))))
def sl5in_G2 (n : Nat) (d : sl5in_p2.D) : KT → Option Rs := sl5in_E2 (sl5in_F2 n d.1.1 d.1.2.1 d.1.2.2.1)
def sl5in_L (N : Nat) : Lam := lamOf [⟨2, sl5in_p2, sl5in_G2 N⟩]
theorem sl5in_ok2 (N : Nat) : OkL Kx noS sl5in_O 0 N (sl5in_L N) sl5in_b2 := okL sl5in_p2 (sl5in_G2) (fun d kR => sl5in_E2 (sl5in_T2 d.1.1 d.1.2.1 d.1.2.2.1 (fun v2x0 v2x1 v2x2 => kR ((v2x0, v2x1, v2x2, ()), ())))) (fun _ _ => by kernel_rfl) (fun _ _ _ => by kernel_rfl) (fun _ _ => by kernel_rfl) (fun _ _ _ _ => by kernel_rfl) (okEach (l' := []) (by kernel_rfl) trivial)
def sl5in_run (N : Nat) (l : List Bytes) (s : Bytes) : Option Rs := (sl5in_F2 N l s 0 (some ((AV.bool true), [])) (some ((AV.bool false), [])))
def sl5in_sOf (φ : (List Bytes) → Bytes → Br) : List AV → List Ob → Br
  | [.sh .str l, .str s], [] => φ l s
  | _, _ => .fail
theorem sl5in_okOf {φ : (List Bytes) → Bytes → Br} (fu : (List Bytes) → Bytes → Nat) (hv : ∀ l s res_, (φ l s).val = some res_ → sl5in_run (fu l s) l s = some res_) : Sound Kx 59 (sl5in_sOf φ) := sound_lp (C := []) (O := sl5in_O) Tryz.func59 (by kernel_rfl) fun args objs => by
  unfold sl5in_sOf; split
  · rename_i l s; exact .inr fun _ hyp_ => run_lp (Λ := sl5in_L (fu l s)) (by kernel_rfl) (okEach (l' := [sl5in_b2]) (by kernel_rfl) ⟨sl5in_ok2 _, trivial⟩) (by kernel_rfl) (hv l s _ hyp_)
  · exact .inl rfl

def markText_O : Opt := { live := [(4, [0, 3])], outs := [(4, [2, 3])] }
def markText_T4 (v4x0 : Int) (v4x1 : Bytes) (kR4 : Int → Bytes → Option Rs) (k4e0 : Bytes → Option Rs) : Option Rs :=
  (bif (decide (0 < v4x0)) then (bif (decide (((List.length (ofBytes (List.set (List.replicate 1 0) 0 (wk8 (wk64 (48 + (Int.tmod v4x0 10))))))) + v4x1.length) ≤ 9223372036854775807)) then (kR4 (wk64 (Int.tdiv v4x0 10)) ((ofBytes (List.set (List.replicate 1 0) 0 (wk8 (wk64 (48 + (Int.tmod v4x0 10)))))) ++ v4x1)) else (none)) else (k4e0 v4x1))
def markText_F4 : Nat → Int → Bytes → (Bytes → Option Rs) → Option Rs
  | 0, _, _, _ => none
  | n + 1, v4x0, v4x1, k4e0 => markText_T4 v4x0 v4x1 (fun v4x0 v4x1 => markText_F4 n v4x0 v4x1 k4e0) k4e0
abbrev markText_p4 : SP := ⟨20, [0, 3], [(.v (.i .i64)), (.v .s)], []⟩
noncomputable def markText_b4 : Code := codeAt (codeOf Tryz.f43) [1, 1, 1, 0, 0, 0]
def markText_E4 (f : (Bytes → Option Rs) → Option Rs) (k : KT) : Option Rs := f (fun x4x0x0 => k (Ex.exit 0) ((St.mk (slots 0 20 [(3, (AV.str x4x0x0))]) ([] : (List (Nat × (Ob)))))))
def markText_G4 (n : Nat) (d : markText_p4.D) : KT → Option Rs := markText_E4 (markText_F4 n d.1.1 d.1.2.1)
def markText_L (N : Nat) : Lam := lamOf [⟨4, markText_p4, markText_G4 N⟩]
theorem markText_ok4 (N : Nat) : OkL Kx noS markText_O 0 N (markText_L N) markText_b4 := okL markText_p4 (markText_G4) (fun d kR => markText_E4 (markText_T4 d.1.1 d.1.2.1 (fun v4x0 v4x1 => kR ((v4x0, v4x1, ()), ())))) (fun _ _ => by kernel_rfl) (fun _ _ _ => by kernel_rfl) (fun _ _ => by kernel_rfl) (fun _ _ _ _ => by kernel_rfl) (okEach (l' := []) (by kernel_rfl) trivial)
def markText_run (N : Nat) (k : Int) : Option Rs := (bif (decide (k ≤ 0)) then (some ((AV.str ([109, 48] : Bytes)), [])) else (markText_F4 N k ([] : Bytes) (fun x4x0x0 => (bif (decide ((1 + x4x0x0.length) ≤ 9223372036854775807)) then (some ((AV.str (([109] : Bytes) ++ x4x0x0)), [])) else (none)))))
def markText_sOf (φ : Int → Br) : List AV → List Ob → Br
  | [.int .i64 k], [] => φ k
  | _, _ => .fail
theorem markText_okOf {φ : Int → Br} (fu : Int → Nat) (hv : ∀ k res_, (φ k).val = some res_ → markText_run (fu k) k = some res_) : Sound Kx 43 (markText_sOf φ) := sound_lp (C := []) (O := markText_O) Tryz.func43 (by kernel_rfl) fun args objs => by
  unfold markText_sOf; split
  · rename_i k; exact .inr fun _ hyp_ => run_lp (Λ := markText_L (fu k)) (by kernel_rfl) (okEach (l' := [markText_b4]) (by kernel_rfl) ⟨markText_ok4 _, trivial⟩) (by kernel_rfl) (hv k _ hyp_)
  · exact .inl rfl


def add_s : List AV → List Ob → Br
  | [.str el, .ptr 0 0], [.var [.ref 1 0], .arr .str 0 false out] => .ite (isM el && decide (out.length ≤ 100000)) (.ite (decide (trimP el = [])) (.ret (.tup []) [.var [.ref 1 0], .arr .str 0 false out]) (.ret (.tup []) [.var [.ref 1 1], .arr .str 1 false (out ++ [trimP el])])) .fail
  | [.str el, .ptr 0 0], [.var [.nil .str]] => .ite (isM el) (.ite (decide (trimP el = [])) (.ret (.tup []) [.var [.nil .str]]) (.ret (.tup []) [.var [.ref 1 0], .arr .str 0 false [trimP el]])) .fail
  | _, _ => .fail
theorem add_okQ : Sound Kx 164 add_s := by
  intro args objs res objs' hv
  unfold add_s at hv
  split at hv
  · rename_i el out
    refine iAdd_ok _ _ _ _ ?_
    show (iAdd_br el out).val = _
    obtain ⟨h1, h2⟩ := ite_some hv
    rw [Bool.and_eq_true, decide_eq_true_eq] at h1
    unfold iAdd_br
    refine (val_t h1.1).trans (Eq.trans ?_ h2)
    rw [one_set]
    cases c : decide (trimP el = [])
    · exact val_t (decide_eq_true (by simp only [List.length_singleton]; omega))
    · rfl
  · rename_i el
    refine iAddN_ok _ _ _ _ ?_
    show (iAddN_br el).val = _
    obtain ⟨h1, h2⟩ := ite_some hv
    unfold iAddN_br
    refine (val_t h1).trans (Eq.trans ?_ h2)
    rw [one_set]
    cases c : decide (trimP el = [])
    · rfl
    · rfl
  · cases hv

def iElements_O : Opt := { live := [(7, [0, 3, 4, 5, 6, 7])], outs := [(7, [0, 2, 3, 4, 5])] }
def iElements_C : SC := [⟨164, _, add_okQ⟩]
def iElements_T7 (v7x0 : Bytes) (v7x1 : Int) (v7x2 : Bool) (v7x3 : Int) (v7x4 : (List Bytes)) (kR7 : Bytes → Int → Bool → Int → (List Bytes) → Option Rs) (k7e0 : Bytes → Int → (List Bytes) → Option Rs) : Option Rs :=
  (bif (decide (v7x3 < (v7x0.length : Int))) then (bif (decide (0 ≤ v7x3)) then (bif (decide (v7x3 < (v7x0.length : Int))) then (bif (decide ((strAt v7x0 v7x3) = 34)) then (kR7 v7x0 v7x1 (!v7x2) (wk64 (v7x3 + 1)) v7x4) else (bif v7x2 then (bif (decide (0 ≤ v7x3)) then (bif (decide (v7x3 < (v7x0.length : Int))) then (bif (decide ((strAt v7x0 v7x3) = 92)) then (kR7 v7x0 v7x1 v7x2 (wk64 ((wk64 (v7x3 + 1)) + 1)) v7x4) else (bif (!v7x2) then (bif (decide (0 ≤ v7x3)) then (bif (decide (v7x3 < (v7x0.length : Int))) then (bif (decide ((strAt v7x0 v7x3) = 44)) then (bif (decide (0 ≤ v7x1)) then (bif (decide (v7x1 ≤ v7x3)) then (bif (decide (v7x3 ≤ (v7x0.length : Int))) then (bif ((isM (cut v7x0 v7x1 v7x3)) && (decide (v7x4.length ≤ 100000))) then (bif (decide ((trimP (cut v7x0 v7x1 v7x3)) = ([] : Bytes))) then (kR7 v7x0 (wk64 (v7x3 + 1)) v7x2 (wk64 (v7x3 + 1)) v7x4) else (kR7 v7x0 (wk64 (v7x3 + 1)) v7x2 (wk64 (v7x3 + 1)) (v7x4 ++ ((trimP (cut v7x0 v7x1 v7x3)) :: ([] : (List Bytes)))))) else (none)) else (none)) else (none)) else (none)) else (kR7 v7x0 v7x1 v7x2 (wk64 (v7x3 + 1)) v7x4)) else (none)) else (none)) else (kR7 v7x0 v7x1 v7x2 (wk64 (v7x3 + 1)) v7x4))) else (none)) else (none)) else (bif (!v7x2) then (bif (decide (0 ≤ v7x3)) then (bif (decide (v7x3 < (v7x0.length : Int))) then (bif (decide ((strAt v7x0 v7x3) = 44)) then (bif (decide (0 ≤ v7x1)) then (bif (decide (v7x1 ≤ v7x3)) then (bif (decide (v7x3 ≤ (v7x0.length : Int))) then (bif ((isM (cut v7x0 v7x1 v7x3)) && (decide (v7x4.length ≤ 100000))) then (bif (decide ((trimP (cut v7x0 v7x1 v7x3)) = ([] : Bytes))) then (kR7 v7x0 (wk64 (v7x3 + 1)) v7x2 (wk64 (v7x3 + 1)) v7x4) else (kR7 v7x0 (wk64 (v7x3 + 1)) v7x2 (wk64 (v7x3 + 1)) (v7x4 ++ ((trimP (cut v7x0 v7x1 v7x3)) :: ([] : (List Bytes)))))) else (none)) else (none)) else (none)) else (none)) else (kR7 v7x0 v7x1 v7x2 (wk64 (v7x3 + 1)) v7x4)) else (none)) else (none)) else (kR7 v7x0 v7x1 v7x2 (wk64 (v7x3 + 1)) v7x4)))) else (none)) else (none)) else (k7e0 v7x0 v7x1 v7x4))
def iElements_F7 : Nat → Bytes → Int → Bool → Int → (List Bytes) → (Bytes → Int → (List Bytes) → Option Rs) → Option Rs
  | 0, _, _, _, _, _, _ => none
  | n + 1, v7x0, v7x1, v7x2, v7x3, v7x4, k7e0 => iElements_T7 v7x0 v7x1 v7x2 v7x3 v7x4 (fun v7x0 v7x1 v7x2 v7x3 v7x4 => iElements_F7 n v7x0 v7x1 v7x2 v7x3 v7x4 k7e0) k7e0
abbrev iElements_p7 : SP := ⟨58, [0, 3, 4, 5, 6, 7], [(.v .s), (.v (.ptr 256 0)), (.v (.fn 164 [(256, 0)])), (.v (.i .i64)), (.v .b), (.v (.i .i64))], [(256, .var [(.ref 257 0)]), (257, .arr Ty.str 0 false)]⟩
noncomputable def iElements_b7 : Code := codeAt (codeOf Tryz.f100) [1, 1, 1, 1, 1, 0, 1, 0, 0]
def iElements_E7 (f : (Bytes → Int → (List Bytes) → Option Rs) → Option Rs) (k : KT) : Option Rs := f (fun x7x0x0 x7x0x1 x7x0x2 => k (Ex.exit 0) ((St.mk (slots 0 58 [(0, (AV.str x7x0x0)), (3, (AV.ptr 256 0)), (4, (AV.fn 164 ((AV.ptr 256 0) :: []))), (5, (AV.int .i64 x7x0x1))]) ((256, (Ob.var ((AV.ref 257 0) :: []))) :: ((257, (Ob.arr Ty.str 0 false x7x0x2)) :: ([] : (List (Nat × (Ob)))))))))
def iElements_G7 (n : Nat) (d : iElements_p7.D) : KT → Option Rs := iElements_E7 (iElements_F7 n d.1.1 d.1.2.2.2.1 d.1.2.2.2.2.1 d.1.2.2.2.2.2.1 d.2.2.1)
def iElements_L (N : Nat) : Lam := lamOf [⟨7, iElements_p7, iElements_G7 N⟩]
theorem iElements_ok7 (N : Nat) : OkL Kx iElements_C.s iElements_O 0 N (iElements_L N) iElements_b7 := okL iElements_p7 (iElements_G7) (fun d kR => iElements_E7 (iElements_T7 d.1.1 d.1.2.2.2.1 d.1.2.2.2.2.1 d.1.2.2.2.2.2.1 d.2.2.1 (fun v7x0 v7x1 v7x2 v7x3 v7x4 => kR ((v7x0, (), (), v7x1, v7x2, v7x3, ()), (((), ()), v7x4, ()))))) (fun _ _ => by kernel_rfl) (fun _ _ _ => by kernel_rfl) (fun _ _ => by kernel_rfl) (fun _ _ _ _ => by kernel_rfl) (okEach (l' := []) (by kernel_rfl) trivial)
def iElements_run (N : Nat) (s : Bytes) : Option Rs := (bif (decide (4000 < (s.length : Int))) then (some ((AV.ref 0 0), ((Ob.arr Ty.str 0 false ([] : (List Bytes))) :: []))) else (iElements_F7 N s 0 false 0 ([] : (List Bytes)) (fun x7x0x0 => (fun x7x0x1 => (fun x7x0x2 => (bif (decide (0 ≤ x7x0x1)) then (bif (decide (x7x0x1 ≤ (x7x0x0.length : Int))) then (bif ((isM (cut x7x0x0 x7x0x1 (x7x0x0.length : Int))) && (decide (x7x0x2.length ≤ 100000))) then (bif (decide ((trimP (cut x7x0x0 x7x0x1 (x7x0x0.length : Int))) = ([] : Bytes))) then (some ((AV.ref 0 0), ((Ob.arr Ty.str 0 false x7x0x2) :: []))) else (some ((AV.ref 0 0), ((Ob.arr Ty.str 0 false (x7x0x2 ++ ((trimP (cut x7x0x0 x7x0x1 (x7x0x0.length : Int))) :: ([] : (List Bytes))))) :: [])))) else (none)) else (none)) else (none)))))))
def iElements_sOf (φ : Bytes → Br) : List AV → List Ob → Br
  | [.str s], [] => φ s
  | _, _ => .fail
theorem iElements_okOf {φ : Bytes → Br} (fu : Bytes → Nat) (hv : ∀ s res_, (φ s).val = some res_ → iElements_run (fu s) s = some res_) : Sound Kx 100 (iElements_sOf φ) := sound_lp (C := iElements_C) (O := iElements_O) Tryz.func100 (by kernel_rfl) fun args objs => by
  unfold iElements_sOf; split
  · rename_i s; exact .inr fun _ hyp_ => run_lp (Λ := iElements_L (fu s)) (by kernel_rfl) (okEach (l' := [iElements_b7]) (by kernel_rfl) ⟨iElements_ok7 _, trivial⟩) (by kernel_rfl) (hv s _ hyp_)
  · exact .inl rfl


def partE : Bytes → Bool → Bytes → List Bytes
  | cur, _, [] => [cur]
  | cur, q, c :: r =>
    bif decide (by8 c = 34) then partE (cur ++ [c]) (!q) r
    else bif q && decide (by8 c = 92) then (match r with | [] => [cur ++ [c]] | d :: r' => partE (cur ++ [c, d]) q r')
    else bif !q && decide (by8 c = 44) then cur :: partE [] q r
    else partE (cur ++ [c]) q r
theorem partE_cons (cur : Bytes) (q : Bool) (c : UInt8) (r : Bytes) : partE cur q (c :: r) = bif decide (by8 c = 34) then partE (cur ++ [c]) (!q) r
    else bif q && decide (by8 c = 92) then (match r with | [] => [cur ++ [c]] | d :: r' => partE (cur ++ [c, d]) q r')
    else bif !q && decide (by8 c = 44) then cur :: partE [] q r
    else partE (cur ++ [c]) q r := by cases r <;> rfl
theorem partE_nil (cur : Bytes) (q : Bool) : partE cur q [] = [cur] := rfl
def keepE : List Bytes → List Bytes
  | [] => []
  | x :: r => bif decide (trimP x = []) then keepE r else trimP x :: keepE r
def elemP (s : Bytes) : List Bytes := bif decide (4000 < (s.length : Int)) then [] else keepE (partE [] false s)
theorem lt_pos (l : Bytes) : decide ((0 : Int) < (l.length : Int)) = !decide (l = []) := by cases l <;> simp
theorem keep_cons (x : Bytes) (r : List Bytes) : keepE (x :: r) = bif decide (trimP x = []) then keepE r else trimP x :: keepE r := rfl
theorem sElements_loop (s : Bytes) (hl : s.length ≤ 4000) (k : List Bytes → Option Rs) : ∀ (n : Nat) (p cur r : Bytes) (q : Bool) (out : List Bytes) (i fr : Int), s = p ++ cur ++ r → i = ((p.length + cur.length : Nat) : Int) → fr = (p.length : Int) → r.length + 1 < n → out.length ≤ p.length →
    sElements_F7 n s fr q i out k = k (out ++ keepE (partE cur q r)) := by
  intro n; induction n with
  | zero => intro p cur r q out i fr hs hi hf hn; omega
  | succ n ih =>
    intro p cur r q out i fr hs hi hf hn ho
    have hat : At s i r := ⟨p ++ cur, hs, by rw [hi]; simp⟩
    have hlen : s.length = p.length + cur.length + r.length := by rw [hs]; simp; omega
    have hcut : cut s fr i = cur := by rw [hs, hi, hf, Int.natCast_add]; exact cut_mid p cur r
    have hnf : decide (0 ≤ fr) = true := decide_eq_true (by omega)
    have hfi : decide (fr ≤ i) = true := decide_eq_true (by omega)
    have hil : decide (i ≤ (s.length : Int)) = true := decide_eq_true (by omega)
    have hM : isM cur = true := isM_of (n := 4000) (by omega)
    have hw : wk64 (i + 1) = i + 1 := w64 (by omega) (by omega)
    have hap : decide ((out.length + [trimP cur].length) * 16 ≤ 140737488355328) = true := decide_eq_true (by simp only [List.length_singleton]; omega)
    unfold sElements_F7 sElements_T7
    simp only [hcut, hnf, hfi, hil, hM, hw, hap, one_set, lt_pos, cond_true, hat.dnn]
    cases r with
    | nil =>
      have he : decide (i = (s.length : Int)) = true := decide_eq_true (by simp only [List.length_nil] at hlen; omega)
      simp only [List.length_nil] at hn
      obtain ⟨m, rfl⟩ : ∃ m, n = m + 1 := ⟨n - 1, by omega⟩
      have hx : decide (i + 1 ≤ (s.length : Int)) = false := decide_eq_false (by simp only [List.length_nil] at hlen; omega)
      have hend : ∀ o, sElements_F7 (m + 1) s (i + 1) q (i + 1) o k = k o := fun o => by unfold sElements_F7 sElements_T7; rw [hx, cond_false]
      simp only [he, cond_true, hend, partE_nil, keep_cons, keepE]
      cases decide (trimP cur = []) <;> simp
    | cons c r =>
      have he : decide (i = (s.length : Int)) = false := decide_eq_false (by simp only [List.length_cons] at hlen; omega)
      simp only [List.length_cons] at hn hlen
      have hstep : ∀ q', sElements_F7 n s fr q' (i + 1) out k = k (out ++ keepE (partE (cur ++ [c]) q' r)) := fun q' =>
        ih p (cur ++ [c]) r q' out (i + 1) fr (by rw [hs]; simp) (by rw [hi]; simp; omega) hf (by omega) ho
      have hcom : ∀ q' o, o.length ≤ p.length + 1 → sElements_F7 n s (i + 1) q' (i + 1) o k = k (o ++ keepE (partE [] q' r)) := fun q' o ho' =>
        ih (p ++ cur ++ [c]) [] r q' o (i + 1) (i + 1) (by rw [hs]; simp) (by rw [hi]; simp; omega) (by rw [hi]; simp; omega) (by omega) (by simp; omega)
      have h0 := hcom q out (by omega)
      have h1 := hcom q (out ++ [trimP cur]) (by simp; omega)
      simp only [he, hat.dlt, hat.dnn, hat.str, cond_true, cond_false, h0, h1, hstep]
      rw [partE_cons]
      cases c1 : decide (by8 c = 34)
      · cases q
        · cases c3 : decide (by8 c = 44)
          · simp
          · simp only [Bool.not_false, Bool.false_and, Bool.true_and, cond_true, cond_false, keep_cons]
            cases decide (trimP cur = []) <;> simp
        · cases c2 : decide (by8 c = 92)
          · simp
          · simp only [Bool.not_true, Bool.true_and, cond_true, cond_false]
            cases r with
            | nil =>
              have hx : decide (i + 1 < (s.length : Int)) = false := decide_eq_false (by simp only [List.length_nil] at hlen; omega)
              simp only [hx, cond_false, partE_nil]
            | cons d r =>
              have hx : decide (i + 1 < (s.length : Int)) = true := decide_eq_true (by simp only [List.length_cons] at hlen; omega)
              have hw2 : wk64 (i + 1 + 1) = i + 1 + 1 := w64 (by omega) (by omega)
              simp only [List.length_cons] at hn hlen
              simp only [hx, cond_true, hw2]
              exact ih p (cur ++ [c, d]) r true out _ fr (by rw [hs]; simp) (by rw [hi]; simp; omega) hf (by omega) ho
      · have c3 : decide (by8 c = 44) = false := decide_eq_false (by have := of_decide_eq_true c1; omega)
        cases q <;> simp [c3]
theorem iElements_loop (s : Bytes) (hl : s.length ≤ 4000) (k : Bytes → Int → List Bytes → Option Rs) (K : List Bytes → Option Rs)
    (hk : ∀ (p cur : Bytes) (fr : Int) (out : List Bytes), s = p ++ cur → fr = (p.length : Int) → out.length ≤ p.length → k s fr out = K (out ++ keepE [cur])) : ∀ (n : Nat) (p cur r : Bytes) (q : Bool) (out : List Bytes) (i fr : Int), s = p ++ cur ++ r → i = ((p.length + cur.length : Nat) : Int) → fr = (p.length : Int) → r.length < n → out.length ≤ p.length →
    iElements_F7 n s fr q i out k = K (out ++ keepE (partE cur q r)) := by
  intro n; induction n with
  | zero => intro p cur r q out i fr hs hi hf hn; omega
  | succ n ih =>
    intro p cur r q out i fr hs hi hf hn ho
    have hat : At s i r := ⟨p ++ cur, hs, by rw [hi]; simp⟩
    have hlen : s.length = p.length + cur.length + r.length := by rw [hs]; simp; omega
    have hcut : cut s fr i = cur := by rw [hs, hi, hf, Int.natCast_add]; exact cut_mid p cur r
    have hnf : decide (0 ≤ fr) = true := decide_eq_true (by omega)
    have hfi : decide (fr ≤ i) = true := decide_eq_true (by omega)
    have hil : decide (i ≤ (s.length : Int)) = true := decide_eq_true (by omega)
    have hM : isM cur = true := isM_of (n := 4000) (by omega)
    have hw : wk64 (i + 1) = i + 1 := w64 (by omega) (by omega)
    have hap : decide (out.length ≤ 100000) = true := decide_eq_true (by omega)
    unfold iElements_F7 iElements_T7
    simp only [hcut, hnf, hfi, hil, hM, hw, hap, cond_true, hat.dnn, Bool.and_self]
    cases r with
    | nil =>
      simp only [hat.dge, cond_false, partE_nil]
      exact hk p cur fr out (by rw [hs]; simp) hf ho
    | cons c r =>
      simp only [List.length_cons] at hn hlen
      have hstep : ∀ q', iElements_F7 n s fr q' (i + 1) out k = K (out ++ keepE (partE (cur ++ [c]) q' r)) := fun q' =>
        ih p (cur ++ [c]) r q' out (i + 1) fr (by rw [hs]; simp) (by rw [hi]; simp; omega) hf (by omega) ho
      have hcom : ∀ q' o, o.length ≤ p.length + 1 → iElements_F7 n s (i + 1) q' (i + 1) o k = K (o ++ keepE (partE [] q' r)) := fun q' o ho' =>
        ih (p ++ cur ++ [c]) [] r q' o (i + 1) (i + 1) (by rw [hs]; simp) (by rw [hi]; simp; omega) (by rw [hi]; simp; omega) (by omega) (by simp; omega)
      have h0 := hcom q out (by omega)
      have h1 := hcom q (out ++ [trimP cur]) (by simp; omega)
      simp only [hat.dlt, hat.dnn, hat.str, cond_true, cond_false, h0, h1, hstep]
      rw [partE_cons]
      cases c1 : decide (by8 c = 34)
      · cases q
        · cases c3 : decide (by8 c = 44)
          · simp
          · simp only [Bool.not_false, Bool.false_and, Bool.true_and, cond_true, cond_false, keep_cons]
            cases decide (trimP cur = []) <;> simp
        · cases c2 : decide (by8 c = 92)
          · simp
          · simp only [Bool.not_true, Bool.true_and, cond_true, cond_false]
            have hw2 : wk64 (i + 1 + 1) = i + 1 + 1 := w64 (by omega) (by omega)
            cases r with
            | nil =>
              simp only [List.length_nil] at hn hlen
              obtain ⟨m, rfl⟩ : ∃ m, n = m + 1 := ⟨n - 1, by omega⟩
              have hx : decide (i + 1 + 1 < (s.length : Int)) = false := decide_eq_false (by omega)
              rw [hw2]
              unfold iElements_F7 iElements_T7
              simp only [hx, cond_false]
              exact hk p (cur ++ [c]) fr out (by rw [hs]; simp) hf ho
            | cons d r =>
              simp only [List.length_cons] at hn hlen
              rw [hw2]
              exact ih p (cur ++ [c, d]) r true out _ fr (by rw [hs]; simp) (by rw [hi]; simp; omega) hf (by omega) ho
      · have c3 : decide (by8 c = 44) = false := decide_eq_false (by have := of_decide_eq_true c1; omega)
        cases q <;> simp [c3]
def tl_s (p : Bytes → List Bytes) : List AV → List Ob → Br
  | [.str s], [] => .ret (.ref 0 0) [.arr .str 0 false (p s)]
  | _, _ => .fail
theorem sElements_okQ : Sound Kx 96 (tl_s elemP) := by
  refine (sElements_okOf (φ := fun s => .ret (.ref 0 0) [.arr .str 0 false (elemP s)]) (fun s => s.length + 2) fun s r h => ?_).of fun args objs r h => ?_
  · cases h
    unfold sElements_run elemP
    cases c : decide (4000 < (s.length : Int))
    · have := of_decide_eq_false c
      simp only [cond_false]
      rw [sElements_loop s (by omega) _ (s.length + 2) [] [] s false [] 0 0 rfl rfl rfl (by omega) (by simp)]
      rfl
    · rfl
  · unfold tl_s at h; split at h
    · exact h
    · cases h
theorem cut_to_end (p m : Bytes) : cut (p ++ m) (p.length : Int) ((p ++ m).length : Int) = m := by
  have := cut_mid p m []
  rw [List.append_nil] at this
  rw [← Int.natCast_add, ← List.length_append] at this
  exact this
theorem iElements_okQ : Sound Kx 100 (tl_s elemP) := by
  refine (iElements_okOf (φ := fun s => .ret (.ref 0 0) [.arr .str 0 false (elemP s)]) (fun s => s.length + 2) fun s r h => ?_).of fun args objs r h => ?_
  · cases h
    unfold iElements_run elemP
    cases c : decide (4000 < (s.length : Int))
    · have hl := of_decide_eq_false c
      simp only [cond_false]
      rw [iElements_loop s (by omega) _ (fun o => some (.ref 0 0, [.arr .str 0 false o])) ?_ (s.length + 2) [] [] s false [] 0 0 rfl rfl rfl (by omega) (by simp)]
      · rfl
      · intro p cur fr out hs hf ho
        have hlen : s.length = p.length + cur.length := by rw [hs]; simp
        have h1 : cut s fr (s.length : Int) = cur := by rw [hs, hf]; exact cut_to_end p cur
        have h2 : isM cur = true := isM_of (n := 4000) (by omega)
        simp only [h1, h2, decide_eq_true (show 0 ≤ fr by omega), decide_eq_true (show fr ≤ (s.length : Int) by omega), decide_eq_true (show out.length ≤ 100000 by omega), Bool.and_self, cond_true, keep_cons, keepE]
        cases decide (trimP cur = []) <;> simp
    · rfl
  · unfold tl_s at h; split at h
    · exact h
    · cases h

def isFree_C : SC := [⟨243, _, isLower_okQ⟩, ⟨137, _, isUpper_okQ⟩, ⟨197, _, isDigit_okQ⟩]
def isFree_br (b : Int) : Br := (Br.ite (isLow b) (Br.ret (AV.bool true) []) (Br.ite (isUp b) (Br.ret (AV.bool true) []) (Br.ite (isDig b) (Br.ret (AV.bool true) []) (Br.ite (decide (b = 45)) (Br.ret (AV.bool true) []) (Br.ite (decide (b = 46)) (Br.ret (AV.bool true) []) (Br.ite (decide (b = 95)) (Br.ret (AV.bool true) []) (Br.ret (AV.bool (decide (b = 126))) [])))))))
def isFree_s : List AV → List Ob → Br
  | [.int .u8 b], [] => isFree_br b
  | _, _ => .fail
theorem isFree_ok : Sound Kx 265 isFree_s := sound_br (C := isFree_C) (O := O0) Tryz.func265 (by kernel_rfl) fun args objs => by
  unfold isFree_s; split
  · exact .inr (by kernel_rfl)
  · exact .inl rfl

def hexOf_C : SC := [⟨197, _, isDigit_okQ⟩]
def hexOf_br (b : Int) : Br := (Br.ite (isDig b) (Br.ret (AV.int .i64 (wk64 (wk8 (b - 48)))) []) (Br.ite (decide (97 ≤ b)) (Br.ite (decide (b ≤ 102)) (Br.ret (AV.int .i64 (wk64 ((wk64 (wk8 (b - 97))) + 10))) []) (Br.ite (decide (65 ≤ b)) (Br.ite (decide (b ≤ 70)) (Br.ret (AV.int .i64 (wk64 ((wk64 (wk8 (b - 65))) + 10))) []) (Br.ret (AV.int .i64 (-1)) [])) (Br.ret (AV.int .i64 (-1)) []))) (Br.ite (decide (65 ≤ b)) (Br.ite (decide (b ≤ 70)) (Br.ret (AV.int .i64 (wk64 ((wk64 (wk8 (b - 65))) + 10))) []) (Br.ret (AV.int .i64 (-1)) [])) (Br.ret (AV.int .i64 (-1)) []))))
def hexOf_s : List AV → List Ob → Br
  | [.int .u8 b], [] => hexOf_br b
  | _, _ => .fail
theorem hexOf_ok : Sound Kx 264 hexOf_s := sound_br (C := hexOf_C) (O := O0) Tryz.func264 (by kernel_rfl) fun args objs => by
  unfold hexOf_s; split
  · exact .inr (by kernel_rfl)
  · exact .inl rfl

def sfree_C : SC := [⟨167, _, slower_okQ⟩, ⟨141, _, sdigit_okQ⟩, ⟨242, _, shas_okQ⟩]
def sfree_br (b : Int) : Br := (Br.ite ((decide (0 ≤ b)) && (decide (b < 256))) (Br.ite (decide (97 ≤ (lowI b))) (Br.ite (decide ((lowI b) ≤ 122)) (Br.ret (AV.bool true) []) (Br.ite (isDig b) (Br.ret (AV.bool true) []) (Br.ret (AV.bool (hasB ([45, 46, 95, 126] : Bytes) b)) []))) (Br.ite (isDig b) (Br.ret (AV.bool true) []) (Br.ret (AV.bool (hasB ([45, 46, 95, 126] : Bytes) b)) []))) Br.fail)
def sfree_s : List AV → List Ob → Br
  | [.int .u8 b], [] => sfree_br b
  | _, _ => .fail
theorem sfree_ok : Sound Kx 218 sfree_s := sound_br (C := sfree_C) (O := O0) Tryz.func218 (by kernel_rfl) fun args objs => by
  unfold sfree_s; split
  · exact .inr (by kernel_rfl)
  · exact .inl rfl

def supper_br (b : Int) : Br := (Br.ite (decide (97 ≤ b)) (Br.ite (decide (b ≤ 122)) (Br.ret (AV.int .u8 (wk8 (b - 32))) []) (Br.ret (AV.int .u8 b) [])) (Br.ret (AV.int .u8 b) []))
def supper_s : List AV → List Ob → Br
  | [.int .u8 b], [] => supper_br b
  | _, _ => .fail
theorem supper_ok : Sound Kx 219 supper_s := sound_br (C := []) (O := O0) Tryz.func219 (by kernel_rfl) fun args objs => by
  unfold supper_s; split
  · exact .inr (by kernel_rfl)
  · exact .inl rfl

def hostB_C : SC := [⟨243, _, isLower_okQ⟩, ⟨197, _, isDigit_okQ⟩]
def hostB_br (b : Int) : Br := (Br.ite (isLow b) (Br.ret (AV.bool true) []) (Br.ite (isDig b) (Br.ret (AV.bool true) []) (Br.ite (decide (b = 45)) (Br.ret (AV.bool true) []) (Br.ret (AV.bool (decide (b = 46))) []))))
def hostB_s : List AV → List Ob → Br
  | [.int .u8 b], [] => hostB_br b
  | _, _ => .fail
theorem hostB_ok : Sound Kx 266 hostB_s := sound_br (C := hostB_C) (O := O0) Tryz.func266 (by kernel_rfl) fun args objs => by
  unfold hostB_s; split
  · exact .inr (by kernel_rfl)
  · exact .inl rfl

def sReadHex_O : Opt := { live := [(5, [0, 4, 5])], outs := [(5, [2, 3, 4])] }
def sReadHex_C : SC := [⟨167, _, slower_okQ⟩, ⟨141, _, sdigit_okQ⟩]
def sReadHex_T5 (v5x0 : Bytes) (v5x1 v5x2 : Int) (kR5 : Bytes → Int → Int → Option Rs) (k5e0 k5e1 : Int → Option Rs) : Option Rs :=
  (bif (decide (v5x2 < (v5x0.length : Int))) then (bif (decide (0 ≤ v5x2)) then (bif (decide (v5x2 < (v5x0.length : Int))) then (bif ((decide (0 ≤ (strAt v5x0 v5x2))) && (decide ((strAt v5x0 v5x2) < 256))) then (bif (isDig (lowI (strAt v5x0 v5x2))) then (kR5 v5x0 (wk64 ((wk64 (v5x1 * 16)) + (wk64 (wk8 ((lowI (strAt v5x0 v5x2)) - 48))))) (wk64 (v5x2 + 1))) else (bif (decide (97 ≤ (lowI (strAt v5x0 v5x2)))) then (bif (decide ((lowI (strAt v5x0 v5x2)) ≤ 102)) then (kR5 v5x0 (wk64 ((wk64 ((wk64 (v5x1 * 16)) + (wk64 (wk8 ((lowI (strAt v5x0 v5x2)) - 97))))) + 10)) (wk64 (v5x2 + 1))) else (k5e0 v5x1)) else (k5e0 v5x1))) else (none)) else (none)) else (none)) else (k5e1 v5x1))
def sReadHex_F5 : Nat → Bytes → Int → Int → (Int → Option Rs) → (Int → Option Rs) → Option Rs
  | 0, _, _, _, _, _ => none
  | n + 1, v5x0, v5x1, v5x2, k5e0, k5e1 => sReadHex_T5 v5x0 v5x1 v5x2 (fun v5x0 v5x1 v5x2 => sReadHex_F5 n v5x0 v5x1 v5x2 k5e0 k5e1) k5e0 k5e1
abbrev sReadHex_p5 : SP := ⟨49, [0, 4, 5], [(.v .s), (.v (.i .i64)), (.v (.i .i64))], []⟩
noncomputable def sReadHex_b5 : Code := codeAt (codeOf Tryz.f217) [1, 1, 1, 0, 1, 0, 0]
def sReadHex_E5 (f : (Int → Option Rs) → (Int → Option Rs) → Option Rs) (k : KT) : Option Rs := f (fun x5x0x0 => k Ex.ret ((St.mk (slots 0 49 [(2, (AV.int .i64 0)), (3, (AV.bool false)), (4, (AV.int .i64 x5x0x0))]) ([] : (List (Nat × (Ob))))))) (fun x5x1x0 => k (Ex.exit 0) ((St.mk (slots 0 49 [(4, (AV.int .i64 x5x1x0))]) ([] : (List (Nat × (Ob)))))))
def sReadHex_G5 (n : Nat) (d : sReadHex_p5.D) : KT → Option Rs := sReadHex_E5 (sReadHex_F5 n d.1.1 d.1.2.1 d.1.2.2.1)
def sReadHex_L (N : Nat) : Lam := lamOf [⟨5, sReadHex_p5, sReadHex_G5 N⟩]
theorem sReadHex_ok5 (N : Nat) : OkL Kx sReadHex_C.s sReadHex_O 0 N (sReadHex_L N) sReadHex_b5 := okL sReadHex_p5 (sReadHex_G5) (fun d kR => sReadHex_E5 (sReadHex_T5 d.1.1 d.1.2.1 d.1.2.2.1 (fun v5x0 v5x1 v5x2 => kR ((v5x0, v5x1, v5x2, ()), ())))) (fun _ _ => by kernel_rfl) (fun _ _ _ => by kernel_rfl) (fun _ _ => by kernel_rfl) (fun _ _ _ _ => by kernel_rfl) (okEach (l' := []) (by kernel_rfl) trivial)
def sReadHex_run (N : Nat) (s : Bytes) : Option Rs := (bif (decide ((s.length : Int) = 0)) then (some ((AV.tup ((AV.int .i64 0) :: ((AV.bool false) :: []))), [])) else (bif (decide (7 < (s.length : Int))) then (some ((AV.tup ((AV.int .i64 0) :: ((AV.bool false) :: []))), [])) else (sReadHex_F5 N s 0 0 (fun x5x0x0 => (some ((AV.tup ((AV.int .i64 0) :: ((AV.bool false) :: []))), []))) (fun x5x1x0 => (some ((AV.tup ((AV.int .i64 x5x1x0) :: ((AV.bool true) :: []))), []))))))
def sReadHex_sOf (φ : Bytes → Br) : List AV → List Ob → Br
  | [.str s], [] => φ s
  | _, _ => .fail
theorem sReadHex_okOf {φ : Bytes → Br} (fu : Bytes → Nat) (hv : ∀ s res_, (φ s).val = some res_ → sReadHex_run (fu s) s = some res_) : Sound Kx 217 (sReadHex_sOf φ) := sound_lp (C := sReadHex_C) (O := sReadHex_O) Tryz.func217 (by kernel_rfl) fun args objs => by
  unfold sReadHex_sOf; split
  · rename_i s; exact .inr fun _ hyp_ => run_lp (Λ := sReadHex_L (fu s)) (by kernel_rfl) (okEach (l' := [sReadHex_b5]) (by kernel_rfl) ⟨sReadHex_ok5 _, trivial⟩) (by kernel_rfl) (hv s _ hyp_)
  · exact .inl rfl

def ssplit_O : Opt := { live := [(4, [0, 1, 5, 6, 7])], outs := [(4, [4, 5])] }
def ssplit_T4 (v4x0 : Bytes) (v4x1 v4x2 v4x3 : Int) (v4x4 : (List Bytes)) (kR4 : Bytes → Int → Int → Int → (List Bytes) → Option Rs) (k4e0 : (List Bytes) → Option Rs) : Option Rs :=
  (bif (decide (v4x3 ≤ (v4x0.length : Int))) then (bif (decide (v4x3 = (v4x0.length : Int))) then (bif (decide (0 ≤ v4x2)) then (bif (decide (v4x2 ≤ v4x3)) then (bif (decide (v4x3 ≤ (v4x0.length : Int))) then (bif (decide (((v4x4.length + (List.length (List.set (List.replicate 1 ([] : Bytes)) 0 (cut v4x0 v4x2 v4x3)))) * 16) ≤ 140737488355328)) then (kR4 v4x0 v4x1 (wk64 (v4x3 + 1)) (wk64 (v4x3 + 1)) (v4x4 ++ (List.set (List.replicate 1 ([] : Bytes)) 0 (cut v4x0 v4x2 v4x3)))) else (none)) else (none)) else (none)) else (none)) else (bif (decide (0 ≤ v4x3)) then (bif (decide (v4x3 < (v4x0.length : Int))) then (bif (decide ((strAt v4x0 v4x3) = v4x1)) then (bif (decide (0 ≤ v4x2)) then (bif (decide (v4x2 ≤ v4x3)) then (bif (decide (v4x3 ≤ (v4x0.length : Int))) then (bif (decide (((v4x4.length + (List.length (List.set (List.replicate 1 ([] : Bytes)) 0 (cut v4x0 v4x2 v4x3)))) * 16) ≤ 140737488355328)) then (kR4 v4x0 v4x1 (wk64 (v4x3 + 1)) (wk64 (v4x3 + 1)) (v4x4 ++ (List.set (List.replicate 1 ([] : Bytes)) 0 (cut v4x0 v4x2 v4x3)))) else (none)) else (none)) else (none)) else (none)) else (kR4 v4x0 v4x1 v4x2 (wk64 (v4x3 + 1)) v4x4)) else (none)) else (none))) else (k4e0 v4x4))
def ssplit_F4 : Nat → Bytes → Int → Int → Int → (List Bytes) → ((List Bytes) → Option Rs) → Option Rs
  | 0, _, _, _, _, _, _ => none
  | n + 1, v4x0, v4x1, v4x2, v4x3, v4x4, k4e0 => ssplit_T4 v4x0 v4x1 v4x2 v4x3 v4x4 (fun v4x0 v4x1 v4x2 v4x3 v4x4 => ssplit_F4 n v4x0 v4x1 v4x2 v4x3 v4x4 k4e0) k4e0
abbrev ssplit_p4 : SP := ⟨35, [0, 1, 5, 6, 7], [(.v .s), (.v (.i .u8)), (.v (.ref 384 0)), (.v (.i .i64)), (.v (.i .i64))], [(384, .arr Ty.str 0 false)]⟩
noncomputable def ssplit_b4 : Code := codeAt (codeOf Tryz.f168) [1, 1, 1, 0, 1, 0, 0]
def ssplit_E4 (f : ((List Bytes) → Option Rs) → Option Rs) (k : KT) : Option Rs := f (fun x4x0x0 => k (Ex.exit 0) ((St.mk (slots 0 35 [(5, (AV.ref 384 0))]) ((384, (Ob.arr Ty.str 0 false x4x0x0)) :: ([] : (List (Nat × (Ob))))))))
def ssplit_G4 (n : Nat) (d : ssplit_p4.D) : KT → Option Rs := ssplit_E4 (ssplit_F4 n d.1.1 d.1.2.1 d.1.2.2.2.1 d.1.2.2.2.2.1 d.2.1)
def ssplit_L (N : Nat) : Lam := lamOf [⟨4, ssplit_p4, ssplit_G4 N⟩]
theorem ssplit_ok4 (N : Nat) : OkL Kx noS ssplit_O 0 N (ssplit_L N) ssplit_b4 := okL ssplit_p4 (ssplit_G4) (fun d kR => ssplit_E4 (ssplit_T4 d.1.1 d.1.2.1 d.1.2.2.2.1 d.1.2.2.2.2.1 d.2.1 (fun v4x0 v4x1 v4x2 v4x3 v4x4 => kR ((v4x0, v4x1, (), v4x2, v4x3, ()), (v4x4, ()))))) (fun _ _ => by kernel_rfl) (fun _ _ _ => by kernel_rfl) (fun _ _ => by kernel_rfl) (fun _ _ _ _ => by kernel_rfl) (okEach (l' := []) (by kernel_rfl) trivial)
def ssplit_run (N : Nat) (s : Bytes) (b : Int) : Option Rs := (ssplit_F4 N s b 0 0 ([] : (List Bytes)) (fun x4x0x0 => (some ((AV.ref 0 0), ((Ob.arr Ty.str 0 false x4x0x0) :: [])))))
def ssplit_sOf (φ : Bytes → Int → Br) : List AV → List Ob → Br
  | [.str s, .int .u8 b], [] => φ s b
  | _, _ => .fail
theorem ssplit_okOf {φ : Bytes → Int → Br} (fu : Bytes → Int → Nat) (hv : ∀ s b res_, (φ s b).val = some res_ → ssplit_run (fu s b) s b = some res_) : Sound Kx 168 (ssplit_sOf φ) := sound_lp (C := []) (O := ssplit_O) Tryz.func168 (by kernel_rfl) fun args objs => by
  unfold ssplit_sOf; split
  · rename_i s b; exact .inr fun _ hyp_ => run_lp (Λ := ssplit_L (fu s b)) (by kernel_rfl) (okEach (l' := [ssplit_b4]) (by kernel_rfl) ⟨ssplit_ok4 _, trivial⟩) (by kernel_rfl) (hv s b _ hyp_)
  · exact .inl rfl

def hpL_br (s p : Bytes) : Br := (Br.ite (decide ((p.length : Int) ≤ (s.length : Int))) (Br.ite (decide (0 ≤ (p.length : Int))) (Br.ite (decide ((p.length : Int) ≤ (s.length : Int))) (Br.ret (AV.bool (decide ((cut s 0 (p.length : Int)) = p))) []) Br.fail) Br.fail) (Br.ret (AV.bool false) []))
def hpL_s : List AV → List Ob → Br
  | [.str s, .str p], [] => hpL_br s p
  | _, _ => .fail
theorem hpL_ok : Sound Kx 136 hpL_s := sound_br (C := []) (O := O0) Tryz.func136 (by kernel_rfl) fun args objs => by
  unfold hpL_s; split
  · exact .inr (by kernel_rfl)
  · exact .inl rfl

def hpS_C : SC := [⟨136, _, hpL_ok⟩]
def hpS_br (s p : Bytes) : Br := (Br.ite (decide ((p.length : Int) ≤ (s.length : Int))) (Br.ite (decide (0 ≤ (p.length : Int))) (Br.ite (decide ((p.length : Int) ≤ (s.length : Int))) (Br.ret (AV.bool (decide ((cut s 0 (p.length : Int)) = p))) []) Br.fail) Br.fail) (Br.ret (AV.bool false) []))
def hpS_s : List AV → List Ob → Br
  | [.str s, .str p], [] => hpS_br s p
  | _, _ => .fail
theorem hpS_ok : Sound Kx 69 hpS_s := sound_br (C := hpS_C) (O := O0) Tryz.func69 (by kernel_rfl) fun args objs => by
  unfold hpS_s; split
  · exact .inr (by kernel_rfl)
  · exact .inl rfl

end
end Go.Proofs.YtdknaddanjpdaaaGreatDoor.Ev
