/- The texts Ru, Rv, Rw, Rx, Ry, Rz, one behind the other. -/
import Derived.Test.YtdknaddanjpdaaaGreatDoorK23
import Derived.Test.YtdknaddanjpdaaaGreatDoorK18
import Derived.Test.YtdknaddanjpdaaaGreatDoorK20
import Derived.Test.YtdknaddanjpdaaaGreatDoorK22
import Derived.Test.YtdknaddanjpdaaaGreatDoorK17
import Derived.Test.YtdknaddanjpdaaaGreatDoorK25
import Derived.Test.YtdknaddanjpdaaaGreatDoorK12
namespace Go.Proofs.YtdknaddanjpdaaaGreatDoor.Ev
open Go Go.RowKit
set_option linter.unusedVariables false
set_option linter.unusedSimpArgs false
noncomputable section

def sTou_O : Opt := { live := [(7, [4, 6, 7, 9])], outs := [(7, [2, 6])] }
def sTou_C : SC := [⟨57, _, sL10_okQ⟩, ⟨58, _, sReadUrl_okQ⟩, ⟨35, _, sGet_okQ⟩, ⟨60, _, sUrlText_okQ⟩, ⟨59, _, sl5in_okQ⟩]
def sTou_T7 (v7x0 : Int) (v7x1 v7x2 : Bytes) (v7x3 : Int) (v7x4 : Bytes) (v7x5 : Bool) (v7x6 : Bytes) (v7x7 : (List Fd)) (v7x8 : (List Bytes)) (v7x9 : Bytes) (v7x10 : Int) (v7x11 v7x12 : Bytes) (v7x13 : Bool) (kR7 : Int → Bytes → Bytes → Int → Bytes → Bool → Bytes → (List Fd) → (List Bytes) → Bytes → Int → Bytes → Bytes → Bool → Option Rs) (k7e0 : (List Bytes) → Option Rs) : Option Rs :=
  (bif (decide (v7x0 < 2)) then (bif (decide (0 ≤ v7x0)) then (bif (decide (v7x0 < 2)) then (bif (isM (List.getD (List.set (List.set (List.replicate 2 ([] : Bytes)) 0 ([108, 111, 99, 97, 116, 105, 111, 110] : Bytes)) 1 ([99, 111, 110, 116, 101, 110, 116, 45, 108, 111, 99, 97, 116, 105, 111, 110] : Bytes)) (Int.toNat v7x0) ([] : Bytes))) then (bif (isM (List.getD (vals v7x7 (List.getD (List.set (List.set (List.replicate 2 ([] : Bytes)) 0 ([108, 111, 99, 97, 116, 105, 111, 110] : Bytes)) 1 ([99, 111, 110, 116, 101, 110, 116, 45, 108, 111, 99, 97, 116, 105, 111, 110] : Bytes)) (Int.toNat v7x0) ([] : Bytes))) 0 ([] : Bytes))) then (bif (readUP (List.getD (vals v7x7 (List.getD (List.set (List.set (List.replicate 2 ([] : Bytes)) 0 ([108, 111, 99, 97, 116, 105, 111, 110] : Bytes)) 1 ([99, 111, 110, 116, 101, 110, 116, 45, 108, 111, 99, 97, 116, 105, 111, 110] : Bytes)) (Int.toNat v7x0) ([] : Bytes))) 0 ([] : Bytes))).2 then (bif (decide ((readUP (List.getD (vals v7x7 (List.getD (List.set (List.set (List.replicate 2 ([] : Bytes)) 0 ([108, 111, 99, 97, 116, 105, 111, 110] : Bytes)) 1 ([99, 111, 110, 116, 101, 110, 116, 45, 108, 111, 99, 97, 116, 105, 111, 110] : Bytes)) (Int.toNat v7x0) ([] : Bytes))) 0 ([] : Bytes))).1.1 = v7x9)) then (bif (decide ((readUP (List.getD (vals v7x7 (List.getD (List.set (List.set (List.replicate 2 ([] : Bytes)) 0 ([108, 111, 99, 97, 116, 105, 111, 110] : Bytes)) 1 ([99, 111, 110, 116, 101, 110, 116, 45, 108, 111, 99, 97, 116, 105, 111, 110] : Bytes)) (Int.toNat v7x0) ([] : Bytes))) 0 ([] : Bytes))).1.2 = v7x10)) then (bif (((isM (readUP (List.getD (vals v7x7 (List.getD (List.set (List.set (List.replicate 2 ([] : Bytes)) 0 ([108, 111, 99, 97, 116, 105, 111, 110] : Bytes)) 1 ([99, 111, 110, 116, 101, 110, 116, 45, 108, 111, 99, 97, 116, 105, 111, 110] : Bytes)) (Int.toNat v7x0) ([] : Bytes))) 0 ([] : Bytes))).1.1) && (isM (readUP (List.getD (vals v7x7 (List.getD (List.set (List.set (List.replicate 2 ([] : Bytes)) 0 ([108, 111, 99, 97, 116, 105, 111, 110] : Bytes)) 1 ([99, 111, 110, 116, 101, 110, 116, 45, 108, 111, 99, 97, 116, 105, 111, 110] : Bytes)) (Int.toNat v7x0) ([] : Bytes))) 0 ([] : Bytes))).1.3)) && (isM (readUP (List.getD (vals v7x7 (List.getD (List.set (List.set (List.replicate 2 ([] : Bytes)) 0 ([108, 111, 99, 97, 116, 105, 111, 110] : Bytes)) 1 ([99, 111, 110, 116, 101, 110, 116, 45, 108, 111, 99, 97, 116, 105, 111, 110] : Bytes)) (Int.toNat v7x0) ([] : Bytes))) 0 ([] : Bytes))).1.4)) then (bif (decide (v7x8.length ≤ 1000000)) then (bif (!(inP v7x8 (bif (urlOkP (readUP (List.getD (vals v7x7 (List.getD (List.set (List.set (List.replicate 2 ([] : Bytes)) 0 ([108, 111, 99, 97, 116, 105, 111, 110] : Bytes)) 1 ([99, 111, 110, 116, 101, 110, 116, 45, 108, 111, 99, 97, 116, 105, 111, 110] : Bytes)) (Int.toNat v7x0) ([] : Bytes))) 0 ([] : Bytes))).1.1 (readUP (List.getD (vals v7x7 (List.getD (List.set (List.set (List.replicate 2 ([] : Bytes)) 0 ([108, 111, 99, 97, 116, 105, 111, 110] : Bytes)) 1 ([99, 111, 110, 116, 101, 110, 116, 45, 108, 111, 99, 97, 116, 105, 111, 110] : Bytes)) (Int.toNat v7x0) ([] : Bytes))) 0 ([] : Bytes))).1.2 (readUP (List.getD (vals v7x7 (List.getD (List.set (List.set (List.replicate 2 ([] : Bytes)) 0 ([108, 111, 99, 97, 116, 105, 111, 110] : Bytes)) 1 ([99, 111, 110, 116, 101, 110, 116, 45, 108, 111, 99, 97, 116, 105, 111, 110] : Bytes)) (Int.toNat v7x0) ([] : Bytes))) 0 ([] : Bytes))).1.3 (readUP (List.getD (vals v7x7 (List.getD (List.set (List.set (List.replicate 2 ([] : Bytes)) 0 ([108, 111, 99, 97, 116, 105, 111, 110] : Bytes)) 1 ([99, 111, 110, 116, 101, 110, 116, 45, 108, 111, 99, 97, 116, 105, 111, 110] : Bytes)) (Int.toNat v7x0) ([] : Bytes))) 0 ([] : Bytes))).1.4 (readUP (List.getD (vals v7x7 (List.getD (List.set (List.set (List.replicate 2 ([] : Bytes)) 0 ([108, 111, 99, 97, 116, 105, 111, 110] : Bytes)) 1 ([99, 111, 110, 116, 101, 110, 116, 45, 108, 111, 99, 97, 116, 105, 111, 110] : Bytes)) (Int.toNat v7x0) ([] : Bytes))) 0 ([] : Bytes))).1.5) then (urlT (readUP (List.getD (vals v7x7 (List.getD (List.set (List.set (List.replicate 2 ([] : Bytes)) 0 ([108, 111, 99, 97, 116, 105, 111, 110] : Bytes)) 1 ([99, 111, 110, 116, 101, 110, 116, 45, 108, 111, 99, 97, 116, 105, 111, 110] : Bytes)) (Int.toNat v7x0) ([] : Bytes))) 0 ([] : Bytes))).1.1 (readUP (List.getD (vals v7x7 (List.getD (List.set (List.set (List.replicate 2 ([] : Bytes)) 0 ([108, 111, 99, 97, 116, 105, 111, 110] : Bytes)) 1 ([99, 111, 110, 116, 101, 110, 116, 45, 108, 111, 99, 97, 116, 105, 111, 110] : Bytes)) (Int.toNat v7x0) ([] : Bytes))) 0 ([] : Bytes))).1.2 (readUP (List.getD (vals v7x7 (List.getD (List.set (List.set (List.replicate 2 ([] : Bytes)) 0 ([108, 111, 99, 97, 116, 105, 111, 110] : Bytes)) 1 ([99, 111, 110, 116, 101, 110, 116, 45, 108, 111, 99, 97, 116, 105, 111, 110] : Bytes)) (Int.toNat v7x0) ([] : Bytes))) 0 ([] : Bytes))).1.3 (readUP (List.getD (vals v7x7 (List.getD (List.set (List.set (List.replicate 2 ([] : Bytes)) 0 ([108, 111, 99, 97, 116, 105, 111, 110] : Bytes)) 1 ([99, 111, 110, 116, 101, 110, 116, 45, 108, 111, 99, 97, 116, 105, 111, 110] : Bytes)) (Int.toNat v7x0) ([] : Bytes))) 0 ([] : Bytes))).1.4 (readUP (List.getD (vals v7x7 (List.getD (List.set (List.set (List.replicate 2 ([] : Bytes)) 0 ([108, 111, 99, 97, 116, 105, 111, 110] : Bytes)) 1 ([99, 111, 110, 116, 101, 110, 116, 45, 108, 111, 99, 97, 116, 105, 111, 110] : Bytes)) (Int.toNat v7x0) ([] : Bytes))) 0 ([] : Bytes))).1.5) else ([] : Bytes)))) then (bif (((isM (readUP (List.getD (vals v7x7 (List.getD (List.set (List.set (List.replicate 2 ([] : Bytes)) 0 ([108, 111, 99, 97, 116, 105, 111, 110] : Bytes)) 1 ([99, 111, 110, 116, 101, 110, 116, 45, 108, 111, 99, 97, 116, 105, 111, 110] : Bytes)) (Int.toNat v7x0) ([] : Bytes))) 0 ([] : Bytes))).1.1) && (isM (readUP (List.getD (vals v7x7 (List.getD (List.set (List.set (List.replicate 2 ([] : Bytes)) 0 ([108, 111, 99, 97, 116, 105, 111, 110] : Bytes)) 1 ([99, 111, 110, 116, 101, 110, 116, 45, 108, 111, 99, 97, 116, 105, 111, 110] : Bytes)) (Int.toNat v7x0) ([] : Bytes))) 0 ([] : Bytes))).1.3)) && (isM (readUP (List.getD (vals v7x7 (List.getD (List.set (List.set (List.replicate 2 ([] : Bytes)) 0 ([108, 111, 99, 97, 116, 105, 111, 110] : Bytes)) 1 ([99, 111, 110, 116, 101, 110, 116, 45, 108, 111, 99, 97, 116, 105, 111, 110] : Bytes)) (Int.toNat v7x0) ([] : Bytes))) 0 ([] : Bytes))).1.4)) then (bif (decide (((v7x8.length + (List.length (List.set (List.replicate 1 ([] : Bytes)) 0 (bif (urlOkP (readUP (List.getD (vals v7x7 (List.getD (List.set (List.set (List.replicate 2 ([] : Bytes)) 0 ([108, 111, 99, 97, 116, 105, 111, 110] : Bytes)) 1 ([99, 111, 110, 116, 101, 110, 116, 45, 108, 111, 99, 97, 116, 105, 111, 110] : Bytes)) (Int.toNat v7x0) ([] : Bytes))) 0 ([] : Bytes))).1.1 (readUP (List.getD (vals v7x7 (List.getD (List.set (List.set (List.replicate 2 ([] : Bytes)) 0 ([108, 111, 99, 97, 116, 105, 111, 110] : Bytes)) 1 ([99, 111, 110, 116, 101, 110, 116, 45, 108, 111, 99, 97, 116, 105, 111, 110] : Bytes)) (Int.toNat v7x0) ([] : Bytes))) 0 ([] : Bytes))).1.2 (readUP (List.getD (vals v7x7 (List.getD (List.set (List.set (List.replicate 2 ([] : Bytes)) 0 ([108, 111, 99, 97, 116, 105, 111, 110] : Bytes)) 1 ([99, 111, 110, 116, 101, 110, 116, 45, 108, 111, 99, 97, 116, 105, 111, 110] : Bytes)) (Int.toNat v7x0) ([] : Bytes))) 0 ([] : Bytes))).1.3 (readUP (List.getD (vals v7x7 (List.getD (List.set (List.set (List.replicate 2 ([] : Bytes)) 0 ([108, 111, 99, 97, 116, 105, 111, 110] : Bytes)) 1 ([99, 111, 110, 116, 101, 110, 116, 45, 108, 111, 99, 97, 116, 105, 111, 110] : Bytes)) (Int.toNat v7x0) ([] : Bytes))) 0 ([] : Bytes))).1.4 (readUP (List.getD (vals v7x7 (List.getD (List.set (List.set (List.replicate 2 ([] : Bytes)) 0 ([108, 111, 99, 97, 116, 105, 111, 110] : Bytes)) 1 ([99, 111, 110, 116, 101, 110, 116, 45, 108, 111, 99, 97, 116, 105, 111, 110] : Bytes)) (Int.toNat v7x0) ([] : Bytes))) 0 ([] : Bytes))).1.5) then (urlT (readUP (List.getD (vals v7x7 (List.getD (List.set (List.set (List.replicate 2 ([] : Bytes)) 0 ([108, 111, 99, 97, 116, 105, 111, 110] : Bytes)) 1 ([99, 111, 110, 116, 101, 110, 116, 45, 108, 111, 99, 97, 116, 105, 111, 110] : Bytes)) (Int.toNat v7x0) ([] : Bytes))) 0 ([] : Bytes))).1.1 (readUP (List.getD (vals v7x7 (List.getD (List.set (List.set (List.replicate 2 ([] : Bytes)) 0 ([108, 111, 99, 97, 116, 105, 111, 110] : Bytes)) 1 ([99, 111, 110, 116, 101, 110, 116, 45, 108, 111, 99, 97, 116, 105, 111, 110] : Bytes)) (Int.toNat v7x0) ([] : Bytes))) 0 ([] : Bytes))).1.2 (readUP (List.getD (vals v7x7 (List.getD (List.set (List.set (List.replicate 2 ([] : Bytes)) 0 ([108, 111, 99, 97, 116, 105, 111, 110] : Bytes)) 1 ([99, 111, 110, 116, 101, 110, 116, 45, 108, 111, 99, 97, 116, 105, 111, 110] : Bytes)) (Int.toNat v7x0) ([] : Bytes))) 0 ([] : Bytes))).1.3 (readUP (List.getD (vals v7x7 (List.getD (List.set (List.set (List.replicate 2 ([] : Bytes)) 0 ([108, 111, 99, 97, 116, 105, 111, 110] : Bytes)) 1 ([99, 111, 110, 116, 101, 110, 116, 45, 108, 111, 99, 97, 116, 105, 111, 110] : Bytes)) (Int.toNat v7x0) ([] : Bytes))) 0 ([] : Bytes))).1.4 (readUP (List.getD (vals v7x7 (List.getD (List.set (List.set (List.replicate 2 ([] : Bytes)) 0 ([108, 111, 99, 97, 116, 105, 111, 110] : Bytes)) 1 ([99, 111, 110, 116, 101, 110, 116, 45, 108, 111, 99, 97, 116, 105, 111, 110] : Bytes)) (Int.toNat v7x0) ([] : Bytes))) 0 ([] : Bytes))).1.5) else ([] : Bytes))))) * 16) ≤ 140737488355328)) then (kR7 (wk64 (v7x0 + 1)) v7x1 v7x2 v7x3 v7x4 v7x5 v7x6 v7x7 (v7x8 ++ (List.set (List.replicate 1 ([] : Bytes)) 0 (bif (urlOkP (readUP (List.getD (vals v7x7 (List.getD (List.set (List.set (List.replicate 2 ([] : Bytes)) 0 ([108, 111, 99, 97, 116, 105, 111, 110] : Bytes)) 1 ([99, 111, 110, 116, 101, 110, 116, 45, 108, 111, 99, 97, 116, 105, 111, 110] : Bytes)) (Int.toNat v7x0) ([] : Bytes))) 0 ([] : Bytes))).1.1 (readUP (List.getD (vals v7x7 (List.getD (List.set (List.set (List.replicate 2 ([] : Bytes)) 0 ([108, 111, 99, 97, 116, 105, 111, 110] : Bytes)) 1 ([99, 111, 110, 116, 101, 110, 116, 45, 108, 111, 99, 97, 116, 105, 111, 110] : Bytes)) (Int.toNat v7x0) ([] : Bytes))) 0 ([] : Bytes))).1.2 (readUP (List.getD (vals v7x7 (List.getD (List.set (List.set (List.replicate 2 ([] : Bytes)) 0 ([108, 111, 99, 97, 116, 105, 111, 110] : Bytes)) 1 ([99, 111, 110, 116, 101, 110, 116, 45, 108, 111, 99, 97, 116, 105, 111, 110] : Bytes)) (Int.toNat v7x0) ([] : Bytes))) 0 ([] : Bytes))).1.3 (readUP (List.getD (vals v7x7 (List.getD (List.set (List.set (List.replicate 2 ([] : Bytes)) 0 ([108, 111, 99, 97, 116, 105, 111, 110] : Bytes)) 1 ([99, 111, 110, 116, 101, 110, 116, 45, 108, 111, 99, 97, 116, 105, 111, 110] : Bytes)) (Int.toNat v7x0) ([] : Bytes))) 0 ([] : Bytes))).1.4 (readUP (List.getD (vals v7x7 (List.getD (List.set (List.set (List.replicate 2 ([] : Bytes)) 0 ([108, 111, 99, 97, 116, 105, 111, 110] : Bytes)) 1 ([99, 111, 110, 116, 101, 110, 116, 45, 108, 111, 99, 97, 116, 105, 111, 110] : Bytes)) (Int.toNat v7x0) ([] : Bytes))) 0 ([] : Bytes))).1.5) then (urlT (readUP (List.getD (vals v7x7 (List.getD (List.set (List.set (List.replicate 2 ([] : Bytes)) 0 ([108, 111, 99, 97, 116, 105, 111, 110] : Bytes)) 1 ([99, 111, 110, 116, 101, 110, 116, 45, 108, 111, 99, 97, 116, 105, 111, 110] : Bytes)) (Int.toNat v7x0) ([] : Bytes))) 0 ([] : Bytes))).1.1 (readUP (List.getD (vals v7x7 (List.getD (List.set (List.set (List.replicate 2 ([] : Bytes)) 0 ([108, 111, 99, 97, 116, 105, 111, 110] : Bytes)) 1 ([99, 111, 110, 116, 101, 110, 116, 45, 108, 111, 99, 97, 116, 105, 111, 110] : Bytes)) (Int.toNat v7x0) ([] : Bytes))) 0 ([] : Bytes))).1.2 (readUP (List.getD (vals v7x7 (List.getD (List.set (List.set (List.replicate 2 ([] : Bytes)) 0 ([108, 111, 99, 97, 116, 105, 111, 110] : Bytes)) 1 ([99, 111, 110, 116, 101, 110, 116, 45, 108, 111, 99, 97, 116, 105, 111, 110] : Bytes)) (Int.toNat v7x0) ([] : Bytes))) 0 ([] : Bytes))).1.3 (readUP (List.getD (vals v7x7 (List.getD (List.set (List.set (List.replicate 2 ([] : Bytes)) 0 ([108, 111, 99, 97, 116, 105, 111, 110] : Bytes)) 1 ([99, 111, 110, 116, 101, 110, 116, 45, 108, 111, 99, 97, 116, 105, 111, 110] : Bytes)) (Int.toNat v7x0) ([] : Bytes))) 0 ([] : Bytes))).1.4 (readUP (List.getD (vals v7x7 (List.getD (List.set (List.set (List.replicate 2 ([] : Bytes)) 0 ([108, 111, 99, 97, 116, 105, 111, 110] : Bytes)) 1 ([99, 111, 110, 116, 101, 110, 116, 45, 108, 111, 99, 97, 116, 105, 111, 110] : Bytes)) (Int.toNat v7x0) ([] : Bytes))) 0 ([] : Bytes))).1.5) else ([] : Bytes)))) v7x9 v7x10 v7x11 v7x12 v7x13) else (none)) else (none)) else (kR7 (wk64 (v7x0 + 1)) v7x1 v7x2 v7x3 v7x4 v7x5 v7x6 v7x7 v7x8 v7x9 v7x10 v7x11 v7x12 v7x13)) else (none)) else (none)) else (kR7 (wk64 (v7x0 + 1)) v7x1 v7x2 v7x3 v7x4 v7x5 v7x6 v7x7 v7x8 v7x9 v7x10 v7x11 v7x12 v7x13)) else (kR7 (wk64 (v7x0 + 1)) v7x1 v7x2 v7x3 v7x4 v7x5 v7x6 v7x7 v7x8 v7x9 v7x10 v7x11 v7x12 v7x13)) else (kR7 (wk64 (v7x0 + 1)) v7x1 v7x2 v7x3 v7x4 v7x5 v7x6 v7x7 v7x8 v7x9 v7x10 v7x11 v7x12 v7x13)) else (none)) else (none)) else (none)) else (none)) else (k7e0 v7x8))
def sTou_F7 : Nat → Int → Bytes → Bytes → Int → Bytes → Bool → Bytes → (List Fd) → (List Bytes) → Bytes → Int → Bytes → Bytes → Bool → ((List Bytes) → Option Rs) → Option Rs
  | 0, _, _, _, _, _, _, _, _, _, _, _, _, _, _, _ => none
  | n + 1, v7x0, v7x1, v7x2, v7x3, v7x4, v7x5, v7x6, v7x7, v7x8, v7x9, v7x10, v7x11, v7x12, v7x13, k7e0 => sTou_T7 v7x0 v7x1 v7x2 v7x3 v7x4 v7x5 v7x6 v7x7 v7x8 v7x9 v7x10 v7x11 v7x12 v7x13 (fun v7x0 v7x1 v7x2 v7x3 v7x4 v7x5 v7x6 v7x7 v7x8 v7x9 v7x10 v7x11 v7x12 v7x13 => sTou_F7 n v7x0 v7x1 v7x2 v7x3 v7x4 v7x5 v7x6 v7x7 v7x8 v7x9 v7x10 v7x11 v7x12 v7x13 k7e0) k7e0
abbrev sTou_p7 : SP := ⟨78, [4, 6, 7, 9], [(.v (.ptr 320 0)), (.v (.ref 448 0)), (.v (.ptr 512 0)), (.v (.i .i64))], [(320, .var [.s, .s, (.i .i64), .s, .b, (.ref 326 0), .s]), (326, .arr (Ty.pair Ty.str Ty.str) 0 false), (448, .arr Ty.str 0 false), (512, .var [.s, (.i .i64), .s, .s, .b])]⟩
noncomputable def sTou_b7 : Code := codeAt (codeOf Tryz.f21) [1, 1, 1, 1, 1, 0, 1, 0, 0]
def sTou_E7 (f : ((List Bytes) → Option Rs) → Option Rs) (k : KT) : Option Rs := f (fun x7x0x0 => k (Ex.exit 0) ((St.mk (slots 0 78 [(6, (AV.ref 448 0))]) ((448, (Ob.arr Ty.str 0 false x7x0x0)) :: ([] : (List (Nat × (Ob))))))))
def sTou_G7 (n : Nat) (d : sTou_p7.D) : KT → Option Rs := sTou_E7 (sTou_F7 n d.1.2.2.2.1 d.2.1.1 d.2.1.2.1 d.2.1.2.2.1 d.2.1.2.2.2.1 d.2.1.2.2.2.2.1 d.2.1.2.2.2.2.2.2.1 d.2.2.1 d.2.2.2.1 d.2.2.2.2.1.1 d.2.2.2.2.1.2.1 d.2.2.2.2.1.2.2.1 d.2.2.2.2.1.2.2.2.1 d.2.2.2.2.1.2.2.2.2.1)
def sTou_L (N : Nat) : Lam := lamOf [⟨7, sTou_p7, sTou_G7 N⟩]
theorem sTou_ok7 (N : Nat) : OkL Kx sTou_C.s sTou_O 0 N (sTou_L N) sTou_b7 := okL sTou_p7 (sTou_G7) (fun d kR => sTou_E7 (sTou_T7 d.1.2.2.2.1 d.2.1.1 d.2.1.2.1 d.2.1.2.2.1 d.2.1.2.2.2.1 d.2.1.2.2.2.2.1 d.2.1.2.2.2.2.2.2.1 d.2.2.1 d.2.2.2.1 d.2.2.2.2.1.1 d.2.2.2.2.1.2.1 d.2.2.2.2.1.2.2.1 d.2.2.2.2.1.2.2.2.1 d.2.2.2.2.1.2.2.2.2.1 (fun v7x0 v7x1 v7x2 v7x3 v7x4 v7x5 v7x6 v7x7 v7x8 v7x9 v7x10 v7x11 v7x12 v7x13 => kR (((), (), (), v7x0, ()), ((v7x1, v7x2, v7x3, v7x4, v7x5, (), v7x6, ()), v7x7, v7x8, (v7x9, v7x10, v7x11, v7x12, v7x13, ()), ()))))) (fun _ _ => by kernel_rfl) (fun _ _ _ => by kernel_rfl) (fun _ _ => by kernel_rfl) (fun _ _ _ _ => by kernel_rfl) (okEach (l' := []) (by kernel_rfl) trivial)
def sTou_run (N : Nat) (sd t1 t2 : Int) (ur rq an : Bytes) : Option Rs := (bif (!(exOk sd t1 t2 ur rq an)) then (some ((AV.ref 0 0), ((Ob.arr Ty.str 0 false ([] : (List Bytes))) :: []))) else (bif (isM ur) then (sTou_F7 N 0 (exA sd t1 t2 ur rq an).1 (exA sd t1 t2 ur rq an).2.1 (exA sd t1 t2 ur rq an).2.2.1 (exA sd t1 t2 ur rq an).2.2.2.1 (exA sd t1 t2 ur rq an).2.2.2.2.1 (exA sd t1 t2 ur rq an).2.2.2.2.2.2 (exA sd t1 t2 ur rq an).2.2.2.2.2.1 (List.set (List.replicate 1 ([] : Bytes)) 0 ur) (readUP ur).1.1 (readUP ur).1.2 (readUP ur).1.3 (readUP ur).1.4 (readUP ur).1.5 (fun x7x0x0 => (some ((AV.ref 0 0), ((Ob.arr Ty.str 0 false x7x0x0) :: []))))) else (none)))
def sTou_sOf (φ : Int → Int → Int → Bytes → Bytes → Bytes → Br) : List AV → List Ob → Br
  | [.agg [.int .i64 sd, .int .i64 t1, .int .i64 t2, .str ur, .str rq, .str an]], [] => φ sd t1 t2 ur rq an
  | _, _ => .fail
theorem sTou_okOf {φ : Int → Int → Int → Bytes → Bytes → Bytes → Br} (fu : Int → Int → Int → Bytes → Bytes → Bytes → Nat) (hv : ∀ sd t1 t2 ur rq an res_, (φ sd t1 t2 ur rq an).val = some res_ → sTou_run (fu sd t1 t2 ur rq an) sd t1 t2 ur rq an = some res_) : Sound Kx 21 (sTou_sOf φ) := sound_lp (C := sTou_C) (O := sTou_O) Tryz.func21 (by kernel_rfl) fun args objs => by
  unfold sTou_sOf; split
  · rename_i sd t1 t2 ur rq an; exact .inr fun _ hyp_ => run_lp (Λ := sTou_L (fu sd t1 t2 ur rq an)) (by kernel_rfl) (okEach (l' := [sTou_b7]) (by kernel_rfl) ⟨sTou_ok7 _, trivial⟩) (by kernel_rfl) (hv sd t1 t2 ur rq an _ hyp_)
  · exact .inl rfl

def itou_O : Opt := { live := [(4, [3, 5, 6, 23, 24, 25])], outs := [(4, [4, 5])] }
def itou_C : SC := [⟨118, _, iReadUrl_okQ⟩, ⟨39, _, iGet_okQ⟩, ⟨120, _, iUrlT_okQ⟩, ⟨119, _, conS_okQ⟩]
def itou_T4 (v4x0 v4x1 : Int) (v4x2 v4x3 : Bytes) (v4x4 : Int) (v4x5 : Bytes) (v4x6 : Bool) (v4x7 : (List Fd)) (v4x8 : Bytes) (v4x9 : (List Bytes)) (v4x10 : Bytes) (v4x11 : Int) (v4x12 v4x13 : Bytes) (v4x14 : Bool) (v4x15 : (List Bytes)) (kR4 : Int → Int → Bytes → Bytes → Int → Bytes → Bool → (List Fd) → Bytes → (List Bytes) → Bytes → Int → Bytes → Bytes → Bool → (List Bytes) → Option Rs) (k4e0 : (List Bytes) → Option Rs) : Option Rs :=
  (bif (decide (v4x1 < v4x0)) then (bif (decide (0 ≤ v4x1)) then (bif (decide (v4x1 < (v4x15.length : Int))) then (bif (isM (List.getD v4x15 (Int.toNat v4x1) ([] : Bytes))) then (bif (isM (List.getD (vals v4x7 (List.getD v4x15 (Int.toNat v4x1) ([] : Bytes))) 0 ([] : Bytes))) then (bif (readUP (List.getD (vals v4x7 (List.getD v4x15 (Int.toNat v4x1) ([] : Bytes))) 0 ([] : Bytes))).2 then (bif (decide ((readUP (List.getD (vals v4x7 (List.getD v4x15 (Int.toNat v4x1) ([] : Bytes))) 0 ([] : Bytes))).1.1 = v4x10)) then (bif (decide ((readUP (List.getD (vals v4x7 (List.getD v4x15 (Int.toNat v4x1) ([] : Bytes))) 0 ([] : Bytes))).1.2 = v4x11)) then (bif (smU (readUP (List.getD (vals v4x7 (List.getD v4x15 (Int.toNat v4x1) ([] : Bytes))) 0 ([] : Bytes))).1.1 (readUP (List.getD (vals v4x7 (List.getD v4x15 (Int.toNat v4x1) ([] : Bytes))) 0 ([] : Bytes))).1.2 (readUP (List.getD (vals v4x7 (List.getD v4x15 (Int.toNat v4x1) ([] : Bytes))) 0 ([] : Bytes))).1.3 (readUP (List.getD (vals v4x7 (List.getD v4x15 (Int.toNat v4x1) ([] : Bytes))) 0 ([] : Bytes))).1.4) then (bif (decide (v4x9.length ≤ 1000000)) then (bif (!(inP v4x9 (urlT (readUP (List.getD (vals v4x7 (List.getD v4x15 (Int.toNat v4x1) ([] : Bytes))) 0 ([] : Bytes))).1.1 (readUP (List.getD (vals v4x7 (List.getD v4x15 (Int.toNat v4x1) ([] : Bytes))) 0 ([] : Bytes))).1.2 (readUP (List.getD (vals v4x7 (List.getD v4x15 (Int.toNat v4x1) ([] : Bytes))) 0 ([] : Bytes))).1.3 (readUP (List.getD (vals v4x7 (List.getD v4x15 (Int.toNat v4x1) ([] : Bytes))) 0 ([] : Bytes))).1.4 (readUP (List.getD (vals v4x7 (List.getD v4x15 (Int.toNat v4x1) ([] : Bytes))) 0 ([] : Bytes))).1.5))) then (bif (smU (readUP (List.getD (vals v4x7 (List.getD v4x15 (Int.toNat v4x1) ([] : Bytes))) 0 ([] : Bytes))).1.1 (readUP (List.getD (vals v4x7 (List.getD v4x15 (Int.toNat v4x1) ([] : Bytes))) 0 ([] : Bytes))).1.2 (readUP (List.getD (vals v4x7 (List.getD v4x15 (Int.toNat v4x1) ([] : Bytes))) 0 ([] : Bytes))).1.3 (readUP (List.getD (vals v4x7 (List.getD v4x15 (Int.toNat v4x1) ([] : Bytes))) 0 ([] : Bytes))).1.4) then (bif (decide (((v4x9.length + (List.length (List.set (List.replicate 1 ([] : Bytes)) 0 (urlT (readUP (List.getD (vals v4x7 (List.getD v4x15 (Int.toNat v4x1) ([] : Bytes))) 0 ([] : Bytes))).1.1 (readUP (List.getD (vals v4x7 (List.getD v4x15 (Int.toNat v4x1) ([] : Bytes))) 0 ([] : Bytes))).1.2 (readUP (List.getD (vals v4x7 (List.getD v4x15 (Int.toNat v4x1) ([] : Bytes))) 0 ([] : Bytes))).1.3 (readUP (List.getD (vals v4x7 (List.getD v4x15 (Int.toNat v4x1) ([] : Bytes))) 0 ([] : Bytes))).1.4 (readUP (List.getD (vals v4x7 (List.getD v4x15 (Int.toNat v4x1) ([] : Bytes))) 0 ([] : Bytes))).1.5)))) * 16) ≤ 140737488355328)) then (kR4 v4x0 (wk64 (v4x1 + 1)) v4x2 v4x3 v4x4 v4x5 v4x6 v4x7 v4x8 (v4x9 ++ (List.set (List.replicate 1 ([] : Bytes)) 0 (urlT (readUP (List.getD (vals v4x7 (List.getD v4x15 (Int.toNat v4x1) ([] : Bytes))) 0 ([] : Bytes))).1.1 (readUP (List.getD (vals v4x7 (List.getD v4x15 (Int.toNat v4x1) ([] : Bytes))) 0 ([] : Bytes))).1.2 (readUP (List.getD (vals v4x7 (List.getD v4x15 (Int.toNat v4x1) ([] : Bytes))) 0 ([] : Bytes))).1.3 (readUP (List.getD (vals v4x7 (List.getD v4x15 (Int.toNat v4x1) ([] : Bytes))) 0 ([] : Bytes))).1.4 (readUP (List.getD (vals v4x7 (List.getD v4x15 (Int.toNat v4x1) ([] : Bytes))) 0 ([] : Bytes))).1.5))) v4x10 v4x11 v4x12 v4x13 v4x14 v4x15) else (none)) else (none)) else (kR4 v4x0 (wk64 (v4x1 + 1)) v4x2 v4x3 v4x4 v4x5 v4x6 v4x7 v4x8 v4x9 v4x10 v4x11 v4x12 v4x13 v4x14 v4x15)) else (none)) else (none)) else (kR4 v4x0 (wk64 (v4x1 + 1)) v4x2 v4x3 v4x4 v4x5 v4x6 v4x7 v4x8 v4x9 v4x10 v4x11 v4x12 v4x13 v4x14 v4x15)) else (kR4 v4x0 (wk64 (v4x1 + 1)) v4x2 v4x3 v4x4 v4x5 v4x6 v4x7 v4x8 v4x9 v4x10 v4x11 v4x12 v4x13 v4x14 v4x15)) else (kR4 v4x0 (wk64 (v4x1 + 1)) v4x2 v4x3 v4x4 v4x5 v4x6 v4x7 v4x8 v4x9 v4x10 v4x11 v4x12 v4x13 v4x14 v4x15)) else (none)) else (none)) else (none)) else (none)) else (k4e0 v4x9))
def itou_F4 : Nat → Int → Int → Bytes → Bytes → Int → Bytes → Bool → (List Fd) → Bytes → (List Bytes) → Bytes → Int → Bytes → Bytes → Bool → (List Bytes) → ((List Bytes) → Option Rs) → Option Rs
  | 0, _, _, _, _, _, _, _, _, _, _, _, _, _, _, _, _, _ => none
  | n + 1, v4x0, v4x1, v4x2, v4x3, v4x4, v4x5, v4x6, v4x7, v4x8, v4x9, v4x10, v4x11, v4x12, v4x13, v4x14, v4x15, k4e0 => itou_T4 v4x0 v4x1 v4x2 v4x3 v4x4 v4x5 v4x6 v4x7 v4x8 v4x9 v4x10 v4x11 v4x12 v4x13 v4x14 v4x15 (fun v4x0 v4x1 v4x2 v4x3 v4x4 v4x5 v4x6 v4x7 v4x8 v4x9 v4x10 v4x11 v4x12 v4x13 v4x14 v4x15 => itou_F4 n v4x0 v4x1 v4x2 v4x3 v4x4 v4x5 v4x6 v4x7 v4x8 v4x9 v4x10 v4x11 v4x12 v4x13 v4x14 v4x15 k4e0) k4e0
abbrev itou_p4 : SP := ⟨70, [3, 5, 6, 23, 24, 25], [(.v (.ptr 256 0)), (.v (.ref 384 0)), (.v (.ptr 448 0)), (.v (.ref 1536 0)), (.v (.i .i64)), (.v (.i .i64))], [(256, .var [.s, .s, (.i .i64), .s, .b, (.sh (Ty.pair Ty.str Ty.str)), .s]), (384, .arr Ty.str 0 false), (448, .var [.s, (.i .i64), .s, .s, .b]), (1536, .arr Ty.str 0 false)]⟩
noncomputable def itou_b4 : Code := codeAt (codeOf Tryz.f62) [1, 1, 1, 0, 1, 0, 0]
def itou_E4 (f : ((List Bytes) → Option Rs) → Option Rs) (k : KT) : Option Rs := f (fun x4x0x0 => k (Ex.exit 0) ((St.mk (slots 0 70 [(5, (AV.ref 384 0))]) ((384, (Ob.arr Ty.str 0 false x4x0x0)) :: ([] : (List (Nat × (Ob))))))))
def itou_G4 (n : Nat) (d : itou_p4.D) : KT → Option Rs := itou_E4 (itou_F4 n d.1.2.2.2.2.1 d.1.2.2.2.2.2.1 d.2.1.1 d.2.1.2.1 d.2.1.2.2.1 d.2.1.2.2.2.1 d.2.1.2.2.2.2.1 d.2.1.2.2.2.2.2.1 d.2.1.2.2.2.2.2.2.1 d.2.2.1 d.2.2.2.1.1 d.2.2.2.1.2.1 d.2.2.2.1.2.2.1 d.2.2.2.1.2.2.2.1 d.2.2.2.1.2.2.2.2.1 d.2.2.2.2.1)
def itou_L (N : Nat) : Lam := lamOf [⟨4, itou_p4, itou_G4 N⟩]
theorem itou_ok4 (N : Nat) : OkL Kx itou_C.s itou_O 0 N (itou_L N) itou_b4 := okL itou_p4 (itou_G4) (fun d kR => itou_E4 (itou_T4 d.1.2.2.2.2.1 d.1.2.2.2.2.2.1 d.2.1.1 d.2.1.2.1 d.2.1.2.2.1 d.2.1.2.2.2.1 d.2.1.2.2.2.2.1 d.2.1.2.2.2.2.2.1 d.2.1.2.2.2.2.2.2.1 d.2.2.1 d.2.2.2.1.1 d.2.2.2.1.2.1 d.2.2.2.1.2.2.1 d.2.2.2.1.2.2.2.1 d.2.2.2.1.2.2.2.2.1 d.2.2.2.2.1 (fun v4x0 v4x1 v4x2 v4x3 v4x4 v4x5 v4x6 v4x7 v4x8 v4x9 v4x10 v4x11 v4x12 v4x13 v4x14 v4x15 => kR (((), (), (), (), v4x0, v4x1, ()), ((v4x2, v4x3, v4x4, v4x5, v4x6, v4x7, v4x8, ()), v4x9, (v4x10, v4x11, v4x12, v4x13, v4x14, ()), v4x15, ()))))) (fun _ _ => by kernel_rfl) (fun _ _ _ => by kernel_rfl) (fun _ _ => by kernel_rfl) (fun _ _ _ _ => by kernel_rfl) (okEach (l' := []) (by kernel_rfl) trivial)
def itou_run (N : Nat) (sd t1 t2 : Int) (ur rq an : Bytes) (me ta : Bytes) (st : Int) (re : Bytes) (ba : Bool) (fs : List (Bytes × Bytes)) (bo : Bytes) : Option Rs := (bif (isM ur) then (itou_F4 N 2 0 me ta st re ba fs bo (List.set (List.replicate 1 ([] : Bytes)) 0 ur) (readUP ur).1.1 (readUP ur).1.2 (readUP ur).1.3 (readUP ur).1.4 (readUP ur).1.5 (List.set (List.set (List.replicate 2 ([] : Bytes)) 0 ([108, 111, 99, 97, 116, 105, 111, 110] : Bytes)) 1 ([99, 111, 110, 116, 101, 110, 116, 45, 108, 111, 99, 97, 116, 105, 111, 110] : Bytes)) (fun x4x0x0 => (some ((AV.ref 0 0), ((Ob.arr Ty.str 0 false x4x0x0) :: []))))) else (none))
def itou_sOf (φ : Int → Int → Int → Bytes → Bytes → Bytes → Bytes → Bytes → Int → Bytes → Bool → (List (Bytes × Bytes)) → Bytes → Br) : List AV → List Ob → Br
  | [.agg [.int .i64 sd, .int .i64 t1, .int .i64 t2, .str ur, .str rq, .str an], .agg [.str me, .str ta, .int .i64 st, .str re, .bool ba, .sh (.pair .str .str) fs, .str bo]], [] => φ sd t1 t2 ur rq an me ta st re ba fs bo
  | _, _ => .fail
theorem itou_okOf {φ : Int → Int → Int → Bytes → Bytes → Bytes → Bytes → Bytes → Int → Bytes → Bool → (List (Bytes × Bytes)) → Bytes → Br} (fu : Int → Int → Int → Bytes → Bytes → Bytes → Bytes → Bytes → Int → Bytes → Bool → (List (Bytes × Bytes)) → Bytes → Nat) (hv : ∀ sd t1 t2 ur rq an me ta st re ba fs bo res_, (φ sd t1 t2 ur rq an me ta st re ba fs bo).val = some res_ → itou_run (fu sd t1 t2 ur rq an me ta st re ba fs bo) sd t1 t2 ur rq an me ta st re ba fs bo = some res_) : Sound Kx 62 (itou_sOf φ) := sound_lp (C := itou_C) (O := itou_O) Tryz.func62 (by kernel_rfl) fun args objs => by
  unfold itou_sOf; split
  · rename_i sd t1 t2 ur rq an me ta st re ba fs bo; exact .inr fun _ hyp_ => run_lp (Λ := itou_L (fu sd t1 t2 ur rq an me ta st re ba fs bo)) (by kernel_rfl) (okEach (l' := [itou_b4]) (by kernel_rfl) ⟨itou_ok4 _, trivial⟩) (by kernel_rfl) (hv sd t1 t2 ur rq an me ta st re ba fs bo _ hyp_)
  · exact .inl rfl

def nmL : List Bytes := List.set (List.set (List.replicate 2 []) 0 [108, 111, 99, 97, 116, 105, 111, 110]) 1 [99, 111, 110, 116, 101, 110, 116, 45, 108, 111, 99, 97, 116, 105, 111, 110]
def nmT (i : Int) : Bytes := List.getD nmL (Int.toNat i) []
def vl (fs : List Fd) (nm : Bytes) : Bytes := List.getD (vals fs nm) 0 []
def stpT (fs : List Fd) (nm : Bytes) (o : List Bytes) (h : Bytes) (po : Int) : List Bytes :=
  bif (readUP (vl fs nm)).2 then bif decide ((readUP (vl fs nm)).1.1 = h) then bif decide ((readUP (vl fs nm)).1.2 = po) then bif inP o (readUP (vl fs nm)).1.text then o else o ++ [(readUP (vl fs nm)).1.text] else o else o else o
def touP (ur : Bytes) (fs : List Fd) : List Bytes :=
  stpT fs (nmT 1) (stpT fs (nmT 0) [ur] (readUP ur).1.1 (readUP ur).1.2) (readUP ur).1.1 (readUP ur).1.2
theorem vl_len (fs : List Fd) (nm : Bytes) : isM (vl fs nm) = true := by
  obtain ⟨_, h⟩ := vals_len fs nm
  unfold vl
  cases hl : vals fs nm with
  | nil => rfl
  | cons a r => rw [hl] at h; exact isM_of (n := 190) (h a List.mem_cons_self)
theorem stp_len (fs : List Fd) (nm : Bytes) (o : List Bytes) (h : Bytes) (po : Int) : (stpT fs nm o h po).length ≤ o.length + 1 := by
  unfold stpT
  cases (readUP (vl fs nm)).2
  · simp only [cond_false]; omega
  cases decide ((readUP (vl fs nm)).1.1 = h)
  · simp only [cond_true, cond_false]; omega
  cases decide ((readUP (vl fs nm)).1.2 = po)
  · simp only [cond_true, cond_false]; omega
  cases inP o (readUP (vl fs nm)).1.text
  · simp only [cond_true, cond_false, List.length_append, List.length_singleton]; omega
  · simp only [cond_true]; omega
theorem isM_nm {i : Int} (h : i = 0 ∨ i = 1) : isM (nmT i) = true := by
  rcases h with rfl | rfl <;> exact isM_of (n := 20) (by decide)
theorem sTou_stp (i : Int) (hi : i = 0 ∨ i = 1) (me ta : Bytes) (st : Int) (re : Bytes) (ba : Bool) (bo : Bytes) (fs : List Fd) (o : List Bytes) (ho : o.length ≤ 10) (h : Bytes) (po : Int) (pa q : Bytes) (hq : Bool) (kR ke) :
    sTou_T7 i me ta st re ba bo fs o h po pa q hq kR ke = kR (wk64 (i + 1)) me ta st re ba bo fs (stpT fs (nmT i) o h po) h po pa q hq := by
  have e1 : decide (i < 2) = true := decide_eq_true (by omega)
  have e2 : decide ((0 : Int) ≤ i) = true := decide_eq_true (by omega)
  have e3 := isM_nm hi
  have e4 := vl_len fs (nmT i)
  unfold nmT nmL at e3
  unfold stpT sTou_T7
  unfold vl nmT nmL at *
  rw [e1, e2, e3, e4]
  generalize List.getD (vals fs _) 0 [] = v
  cases c : (readUP v).2
  · rfl
  have ok := readU_ok c
  obtain ⟨s1, s2⟩ := ur_sizes ok
  have ok' : urlOkP (readUP v).1.1 (readUP v).1.2 (readUP v).1.3 (readUP v).1.4 (readUP v).1.5 = true := ok
  cases decide ((readUP v).1.1 = h)
  · rfl
  cases decide ((readUP v).1.2 = po)
  · rfl
  rw [s2, ok', show decide (o.length ≤ 1000000) = true from decide_eq_true (by omega)]
  simp only [cond_true]
  unfold Ur.text
  cases inP o (urlT (readUP v).1.1 (readUP v).1.2 (readUP v).1.3 (readUP v).1.4 (readUP v).1.5)
  · simp only [cond_true, Bool.not_false]
    rw [show decide ((o.length + (List.set (List.replicate 1 ([] : Bytes)) 0 (urlT (readUP v).1.1 (readUP v).1.2 (readUP v).1.3 (readUP v).1.4 (readUP v).1.5)).length) * 16 ≤ 140737488355328) = true from decide_eq_true (by simp; omega)]
    rfl
  · rfl
theorem itou_stp (i : Int) (hi : i = 0 ∨ i = 1) (me ta : Bytes) (st : Int) (re : Bytes) (ba : Bool) (bo : Bytes) (fs : List Fd) (o : List Bytes) (ho : o.length ≤ 10) (h : Bytes) (po : Int) (pa q : Bytes) (hq : Bool) (kR ke) :
    itou_T4 2 i me ta st re ba fs bo o h po pa q hq nmL kR ke = kR 2 (wk64 (i + 1)) me ta st re ba fs bo (stpT fs (nmT i) o h po) h po pa q hq nmL := by
  have e1 : decide (i < 2) = true := decide_eq_true (by omega)
  have e1' : decide (i < (nmL.length : Int)) = true := e1
  have e2 : decide ((0 : Int) ≤ i) = true := decide_eq_true (by omega)
  have e3 := isM_nm hi
  have e4 := vl_len fs (nmT i)
  unfold nmT at e3
  unfold stpT itou_T4
  unfold vl nmT at *
  rw [e1, e2, e1', e3, e4]
  generalize List.getD (vals fs _) 0 [] = v
  cases c : (readUP v).2
  · rfl
  have ok := readU_ok c
  obtain ⟨s1, s2⟩ := ur_sizes ok
  cases decide ((readUP v).1.1 = h)
  · rfl
  cases decide ((readUP v).1.2 = po)
  · rfl
  rw [s1, show decide (o.length ≤ 1000000) = true from decide_eq_true (by omega)]
  simp only [cond_true]
  unfold Ur.text
  cases inP o (urlT (readUP v).1.1 (readUP v).1.2 (readUP v).1.3 (readUP v).1.4 (readUP v).1.5)
  · simp only [cond_true, Bool.not_false]
    rw [show decide ((o.length + (List.set (List.replicate 1 ([] : Bytes)) 0 (urlT (readUP v).1.1 (readUP v).1.2 (readUP v).1.3 (readUP v).1.4 (readUP v).1.5)).length) * 16 ≤ 140737488355328) = true from decide_eq_true (by simp; omega)]
    rfl
  · rfl
theorem wk1 : wk64 (0 + 1) = 1 := by rw [wk64_eq]; unfold wrap64; omega
theorem wk2 : wk64 (1 + 1) = 2 := by rw [wk64_eq]; unfold wrap64; omega
theorem len1 (ur : Bytes) (fs : List Fd) (h : Bytes) (po : Int) : (stpT fs (nmT 0) [ur] h po).length ≤ 10 := by
  have := stp_len fs (nmT 0) [ur] h po
  simp only [List.length_singleton] at this; omega
theorem sTou_loop (me ta : Bytes) (st : Int) (re : Bytes) (ba : Bool) (bo : Bytes) (fs : List Fd) (ur h : Bytes) (po : Int) (pa q : Bytes) (hq : Bool) (ke) :
    sTou_F7 3 0 me ta st re ba bo fs [ur] h po pa q hq ke = ke (stpT fs (nmT 1) (stpT fs (nmT 0) [ur] h po) h po) := by
  unfold sTou_F7
  rw [sTou_stp 0 (.inl rfl) (ho := by simp), wk1]
  unfold sTou_F7
  rw [sTou_stp 1 (.inr rfl) (ho := len1 ur fs h po), wk2]
  rfl
theorem itou_loop (me ta : Bytes) (st : Int) (re : Bytes) (ba : Bool) (bo : Bytes) (fs : List Fd) (ur h : Bytes) (po : Int) (pa q : Bytes) (hq : Bool) (ke) :
    itou_F4 3 2 0 me ta st re ba fs bo [ur] h po pa q hq nmL ke = ke (stpT fs (nmT 1) (stpT fs (nmT 0) [ur] h po) h po) := by
  unfold itou_F4
  rw [itou_stp 0 (.inl rfl) (ho := by simp), wk1]
  unfold itou_F4
  rw [itou_stp 1 (.inr rfl) (ho := len1 ur fs h po), wk2]
  rfl
def to_s : List AV → List Ob → Br
  | [.agg [.int .i64 sd, .int .i64 t1, .int .i64 t2, .str ur, .str rq, .str an], .agg [.str me, .str ta, .int .i64 st, .str re, .bool ba, .sh (.pair .str .str) fs, .str bo]], [] => .ite (isM ur) (.ret (.ref 0 0) [.arr .str 0 false (touP ur fs)]) .fail
  | _, _ => .fail
theorem itou_okQ : Sound Kx 62 to_s := by
  refine (itou_okOf (φ := fun sd t1 t2 ur rq an me ta st re ba fs bo => .ite (isM ur) (.ret (.ref 0 0) [.arr .str 0 false (touP ur fs)]) .fail) (fun _ _ _ _ _ _ _ _ _ _ _ _ _ => 3) fun sd t1 t2 ur rq an me ta st re ba fs bo r h => ?_).of fun args objs r h => ?_
  · obtain ⟨h1, h2⟩ := ite_some h
    cases h2
    unfold itou_run
    rw [h1, cond_true]
    exact (itou_loop me ta st re ba bo fs ur _ _ _ _ _ _)
  · unfold to_s at h; split at h
    · exact h
    · cases h
def touX (sd t1 t2 : Int) (ur rq an : Bytes) : List Bytes := bif exOk sd t1 t2 ur rq an then touP ur (exA sd t1 t2 ur rq an).2.2.2.2.2.1 else []
def to2_s : List AV → List Ob → Br
  | [.agg [.int .i64 sd, .int .i64 t1, .int .i64 t2, .str ur, .str rq, .str an]], [] => .ret (.ref 0 0) [.arr .str 0 false (touX sd t1 t2 ur rq an)]
  | _, _ => .fail
theorem ex_ur {sd t1 t2 : Int} {ur rq an : Bytes} (h : exOk sd t1 t2 ur rq an = true) : isM ur = true := by
  unfold exOk at h
  simp only [Bool.and_eq_true, decide_eq_true_eq] at h
  obtain ⟨_, _, _, _, _, h1, h2, _⟩ := h
  unfold canonP at h1 h2
  cases c : (readUP (rmP rq false false).1.2.1).2
  · rw [c] at h1; cases h1
  · rw [c] at h2
    have := (ok_parts (readU_ok c)).2.2.2.2.2
    exact isM_of (n := 200) (by rw [← h2]; exact this)
theorem sTou_okQ : Sound Kx 21 to2_s := by
  refine (sTou_okOf (φ := fun sd t1 t2 ur rq an => .ret (.ref 0 0) [.arr .str 0 false (touX sd t1 t2 ur rq an)]) (fun _ _ _ _ _ _ => 3) fun sd t1 t2 ur rq an r h => ?_).of fun args objs r h => ?_
  · cases h
    unfold sTou_run touX
    cases c : exOk sd t1 t2 ur rq an
    · rfl
    · rw [ex_ur c]
      exact (sTou_loop _ _ _ _ _ _ _ ur _ _ _ _ _ _)
  · unfold to2_s at h; split at h
    · exact h
    · cases h

def iTou_C : SC := [⟨61, _, iMess_okQ⟩, ⟨62, _, itou_okQ⟩]
def iTou_br (sd t1 t2 : Int) (ur rq an : Bytes) : Br := (Br.ite (!(exOk sd t1 t2 ur rq an)) (Br.ret (AV.ref 0 0) ((Ob.arr Ty.str 0 false ([] : (List Bytes))) :: [])) (Br.ite (isM ur) (Br.ret (AV.ref 0 0) ((Ob.arr Ty.str 0 false (touP ur (exA sd t1 t2 ur rq an).2.2.2.2.2.1)) :: [])) Br.fail))
def iTou_s : List AV → List Ob → Br
  | [.agg [.int .i64 sd, .int .i64 t1, .int .i64 t2, .str ur, .str rq, .str an]], [] => iTou_br sd t1 t2 ur rq an
  | _, _ => .fail
theorem iTou_ok : Sound Kx 23 iTou_s := sound_br (C := iTou_C) (O := O0) Tryz.func23 (by kernel_rfl) fun args objs => by
  unfold iTou_s; split
  · exact .inr (by kernel_rfl)
  · exact .inl rfl

def szExch_br (sd t1 t2 : Int) (ur rq an : Bytes) (left : Int) : Br := (Br.ite (decide ((wk64 (left - (ur.length : Int))) < 0)) (Br.ret (AV.int .i64 (-1)) []) (Br.ite (decide ((wk64 ((wk64 (left - (ur.length : Int))) - (rq.length : Int))) < 0)) (Br.ret (AV.int .i64 (-1)) []) (Br.ite (decide ((wk64 ((wk64 ((wk64 (left - (ur.length : Int))) - (rq.length : Int))) - (an.length : Int))) < 0)) (Br.ret (AV.int .i64 (-1)) []) (Br.ret (AV.int .i64 (wk64 ((wk64 ((wk64 (left - (ur.length : Int))) - (rq.length : Int))) - (an.length : Int)))) []))))
def szExch_s : List AV → List Ob → Br
  | [.agg [.int .i64 sd, .int .i64 t1, .int .i64 t2, .str ur, .str rq, .str an], .int .i64 left], [] => szExch_br sd t1 t2 ur rq an left
  | _, _ => .fail
theorem szExch_ok : Sound Kx 20 szExch_s := sound_br (C := []) (O := O0) Tryz.func20 (by kernel_rfl) fun args objs => by
  unfold szExch_s; split
  · exact .inr (by kernel_rfl)
  · exact .inl rfl

def toExch_br (sd t1 t2 : Int) (ur rq an : Bytes) : Br := (Br.ret (AV.agg ((AV.int .i64 sd) :: ((AV.int .i64 t1) :: ((AV.int .i64 t2) :: ((AV.str ur) :: ((AV.str rq) :: ((AV.str an) :: []))))))) [])
def toExch_s : List AV → List Ob → Br
  | [.agg [.int .i64 sd, .int .i64 t1, .int .i64 t2, .str ur, .str rq, .str an]], [] => toExch_br sd t1 t2 ur rq an
  | _, _ => .fail
theorem toExch_ok : Sound Kx 22 toExch_s := sound_br (C := []) (O := O0) Tryz.func22 (by kernel_rfl) fun args objs => by
  unfold toExch_s; split
  · exact .inr (by kernel_rfl)
  · exact .inl rfl

theorem iTou_okQ : Sound Kx 23 to2_s := iTou_ok.of fun args objs r h => by
  unfold to2_s at h; split at h
  · refine Eq.trans ?_ h
    show (iTou_br _ _ _ _ _ _).val = _
    unfold iTou_br touX
    rename_i sd t1 t2 ur rq an
    cases c : exOk sd t1 t2 ur rq an
    · rfl
    · rw [ex_ur c]; rfl
  · cases h
theorem touX_len (sd t1 t2 : Int) (ur rq an : Bytes) : (touX sd t1 t2 ur rq an).length ≤ 3 := by
  unfold touX touP
  cases exOk sd t1 t2 ur rq an
  · exact Nat.zero_le _
  · rw [cond_true]
    refine Nat.le_trans (stp_len ..) ?_
    have := stp_len (exA sd t1 t2 ur rq an).2.2.2.2.2.1 (nmT 0) [ur] (readUP ur).1.1 (readUP ur).1.2
    simp only [List.length_singleton] at this; omega

def lTouched_O : Opt := { mutF := [25] }
def lTouched_C : SC := [⟨20, _, szExch_ok⟩, ⟨22, _, toExch_ok⟩, ⟨24, _, eqStringS_okQ⟩, ⟨25, _, markStringS_okQ⟩, ⟨26, _, heldStringS_okQ⟩, ⟨23, _, iTou_okQ⟩, ⟨21, _, sTou_okQ⟩]
def lTouched_br (sd t1 t2 : Int) (ur rq an : Bytes) : Br := (Br.ite (decide ((wk64 (1048576 - (ur.length : Int))) < 0)) (Br.ret (AV.bool true) []) (Br.ite (decide ((wk64 ((wk64 (1048576 - (ur.length : Int))) - (rq.length : Int))) < 0)) (Br.ret (AV.bool true) []) (Br.ite (decide ((wk64 ((wk64 ((wk64 (1048576 - (ur.length : Int))) - (rq.length : Int))) - (an.length : Int))) < 0)) (Br.ret (AV.bool true) []) (Br.ite (decide ((wk64 ((wk64 ((wk64 (1048576 - (ur.length : Int))) - (rq.length : Int))) - (an.length : Int))) < 0)) (Br.ret (AV.bool true) []) (Br.ite (decide ((List.length (touX sd t1 t2 ur rq an)) ≤ 1000000)) (Br.ite (!(decide ((touX sd t1 t2 ur rq an) = (touX sd t1 t2 ur rq an)))) (Br.ret (AV.bool false) []) (Br.ite (true && (decide ((1 + ((List.length (touX sd t1 t2 ur rq an)) : Int)) ≤ 100000000))) (Br.ite ((true && (decide ((1 + ((List.length (marksP (List.length (touX sd t1 t2 ur rq an)) 1)) : Int)) ≤ 100000000))) && (decide ((marksP (List.length (touX sd t1 t2 ur rq an)) 1) = (marksP (List.length (marksP (List.length (touX sd t1 t2 ur rq an)) 1)) 1)))) (Br.ite (decide ((1 + ((List.length (marksP (List.length (touX sd t1 t2 ur rq an)) 1)) : Int)) < 0)) (Br.ret (AV.bool false) []) (Br.ite (!(decide ((1 + ((List.length (marksP (List.length (touX sd t1 t2 ur rq an)) 1)) : Int)) = (1 + ((List.length (touX sd t1 t2 ur rq an)) : Int))))) (Br.ret (AV.bool false) []) (Br.ite (decide ((List.length (touX sd t1 t2 ur rq an)) ≤ 1000000)) (Br.ite (!(decide ((touX sd t1 t2 ur rq an) = (touX sd t1 t2 ur rq an)))) (Br.ret (AV.bool false) []) (Br.ite ((true && (decide ((1 + ((List.length (marksP (List.length (touX sd t1 t2 ur rq an)) 1)) : Int)) ≤ 100000000))) && (decide ((marksP (List.length (touX sd t1 t2 ur rq an)) 1) = (marksP (List.length (marksP (List.length (touX sd t1 t2 ur rq an)) 1)) 1)))) (Br.ite (decide ((1 + ((List.length (marksP (List.length (touX sd t1 t2 ur rq an)) 1)) : Int)) < 0)) (Br.ret (AV.bool false) []) (Br.ite (!(decide ((1 + ((List.length (marksP (List.length (touX sd t1 t2 ur rq an)) 1)) : Int)) = (1 + ((List.length (touX sd t1 t2 ur rq an)) : Int))))) (Br.ret (AV.bool false) []) (Br.ret (AV.bool true) []))) Br.fail)) Br.fail))) Br.fail) Br.fail)) Br.fail)))))
def lTouched_s : List AV → List Ob → Br
  | [.agg [.int .i64 sd, .int .i64 t1, .int .i64 t2, .str ur, .str rq, .str an]], [] => lTouched_br sd t1 t2 ur rq an
  | _, _ => .fail
theorem lTouched_ok : Sound Kx 5 lTouched_s := sound_br (C := lTouched_C) (O := lTouched_O) Tryz.func5 (by kernel_rfl) fun args objs => by
  unfold lTouched_s; split
  · exact .inr (by kernel_rfl)
  · exact .inl rfl

end
end Go.Proofs.YtdknaddanjpdaaaGreatDoor.Ev

namespace Go.Proofs.YtdknaddanjpdaaaGreatDoor.Ev
open Go Go.RowKit
set_option linter.unusedVariables false
set_option linter.unusedSimpArgs false
theorem dtN {a b : Nat} (h : a ≤ b) : decide (a ≤ b) = true := decide_eq_true h
theorem dtI {a b : Int} (h : a ≤ b) : decide (a ≤ b) = true := decide_eq_true h
theorem dtF {a b : Int} (h : ¬ a < b) : decide (a < b) = false := decide_eq_false h
theorem lTouched_val (sd t1 t2 : Int) (ur rq an : Bytes) : (lTouched_br sd t1 t2 ur rq an).val = some (.bool true, []) := by
  unfold lTouched_br
  have hl := touX_len sd t1 t2 ur rq an
  generalize touX sd t1 t2 ur rq an = x at hl ⊢
  generalize wk64 ((wk64 ((wk64 ((1048576 : Int) - ((List.length ur) : Int))) - ((List.length rq) : Int))) - ((List.length an) : Int)) = c3
  generalize wk64 ((wk64 ((1048576 : Int) - ((List.length ur) : Int))) - ((List.length rq) : Int)) = c2
  generalize wk64 ((1048576 : Int) - ((List.length ur) : Int)) = c1
  by_cases h1 : c1 < 0
  · exact val_t (decide_eq_true h1)
  refine (val_f (decide_eq_false h1)).trans ?_
  by_cases h2 : c2 < 0
  · exact val_t (decide_eq_true h2)
  refine (val_f (decide_eq_false h2)).trans ?_
  by_cases h3 : c3 < 0
  · exact val_t (decide_eq_true h3)
  refine (val_f (decide_eq_false h3)).trans ((val_f (decide_eq_false h3)).trans ?_)
  simp (disch := omega) only [marks_len, decide_true, Bool.not_true, Bool.true_and, Bool.and_true, dtN, dtI, dtF, Br.val]
abbrev tyExc : Ty := .pair (.int .i64) (.pair (.int .i64) (.pair (.int .i64) (.pair .str (.pair .str .str))))
theorem fnExactTouched_true (xs : List AV) (h : Args [(tyExc, true)] xs) : (lTouched_s xs []).val = some (.bool true, []) := by
  obtain ⟨⟨sd, t1, t2, ur, rq, an⟩, a', g, rfl, rfl⟩ := h
  exact lTouched_val sd t1 t2 ur rq an
end Go.Proofs.YtdknaddanjpdaaaGreatDoor.Ev
