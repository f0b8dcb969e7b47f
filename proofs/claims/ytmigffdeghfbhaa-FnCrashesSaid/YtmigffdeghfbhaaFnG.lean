/- The specs over a variable: what the kernel cannot unfold. -/
import Derived.Test.YtmigffdeghfbhaaFnM
namespace Go.Proofs.Ytmigffdeghfbhaa.Ev
open Go Go.RowKit
set_option linter.unusedVariables false
set_option linter.unusedSimpArgs false

/-- The plain functions. -/
structure Fs where
  fsm : Segs → Bool
  fok : Segs → Int → Bool
  fap : Segs → Int → List UInt8 → Segs × Int × Int
  fro : Segs → Int → Segs × Int × Int
  fcu : Segs → Int → Int → Segs × Int × Int
  fcr : Segs → Int → Int → Segs × Int
  fsy : Segs → Int → Segs × Int
  fal : Segs → Int → List UInt8
  flo : Segs → Int → Int
  fus : Segs → Int → Int
  frc : Segs → Int → Int → Int → Int → Bool
  frs : Segs → Int → Int → Int → Int → List UInt8
  fpf : List UInt8 → List UInt8 → Bool
  fat : List Int → Int → Int
  fdl : List Int → Segs
  fdc : List Int → Int
  fdb : List Int → List UInt8
  fkc : List Int → Int
  fku : List Int → Int
noncomputable abbrev F0 : Fs := ⟨smS, okStore, appendP, rollP, cutP, crashP, syncP, allP, looseP, usedP, readC, readS, prefixB, latV, rL, rC, aB, kCrash, kCut⟩
open Fs
def gSync (F : Fs) : List AV → List Ob → Br
  | [.agg [.sh (.pair .str (.int .i64)) l, .int .i64 c]], [] => .ite (fsm F l) (.ret (.agg [.ref 0 0, .int .i64 (fsy F l c).2]) [.arr (.pair .str (.int .i64)) 0 false (fsy F l c).1]) .fail
  | _, _ => .fail
theorem gSync_spec : Sound Kx 31 (gSync F0) := Sound.of sSync_okQ fun args objs r h => by
  unfold gSync at h
  split at h
  · exact h
  · cases h
theorem gSync_impl : Sound Kx 16 (gSync F0) := Sound.of iSync_okQ fun args objs r h => by
  unfold gSync at h
  split at h
  · exact h
  · cases h
def gCrash (F : Fs) : List AV → List Ob → Br
  | [.agg [.sh (.pair .str (.int .i64)) l, .int .i64 c], .int .i64 k], [] => .ite (fsm F l) (.ret (.agg [.ref 0 0, .int .i64 (fcr F l c k).2]) [.arr (.pair .str (.int .i64)) 0 false (fcr F l c k).1]) .fail
  | _, _ => .fail
theorem gCrash_impl : Sound Kx 6 (gCrash F0) := Sound.of iCrash_okQ fun args objs r h => by
  unfold gCrash at h
  split at h
  · exact h
  · cases h
def gCut (F : Fs) : List AV → List Ob → Br
  | [.agg [.sh (.pair .str (.int .i64)) l, .int .i64 c], .int .i64 k], [] => .ite (fsm F l) (.ret (.tup [.agg [.ref 0 0, .int .i64 (fcu F l c k).2.1], .int .i64 (fcu F l c k).2.2]) [.arr (.pair .str (.int .i64)) 0 false (fcu F l c k).1]) .fail
  | _, _ => .fail
theorem gCut_impl : Sound Kx 20 (gCut F0) := Sound.of iCut_okQ fun args objs r h => by
  unfold gCut at h
  split at h
  · exact h
  · cases h
def gRoll (F : Fs) : List AV → List Ob → Br
  | [.agg [.sh (.pair .str (.int .i64)) l, .int .i64 c]], [] => .ite (fsm F l) (.ret (.tup [.agg [.ref 0 0, .int .i64 (fro F l c).2.1], .int .i64 (fro F l c).2.2]) [.arr (.pair .str (.int .i64)) 0 false (fro F l c).1]) .fail
  | _, _ => .fail
theorem gRoll_spec : Sound Kx 19 (gRoll F0) := Sound.of sRoll_okQ fun args objs r h => by
  unfold gRoll at h
  split at h
  · exact h
  · cases h
theorem gRoll_impl : Sound Kx 18 (gRoll F0) := Sound.of iRoll_okQ fun args objs r h => by
  unfold gRoll at h
  split at h
  · exact h
  · cases h
def gAppend (F : Fs) : List AV → List Ob → Br
  | [.agg [.sh (.pair .str (.int .i64)) l, .int .i64 c], .str b], [] => .ite (fsm F l) (.ret (.tup [.agg [.ref 0 0, .int .i64 (fap F l c b).2.1], .int .i64 (fap F l c b).2.2]) [.arr (.pair .str (.int .i64)) 0 false (fap F l c b).1]) .fail
  | _, _ => .fail
theorem gAppend_spec : Sound Kx 43 (gAppend F0) := Sound.of sAppend_okQ fun args objs r h => by
  unfold gAppend at h
  split at h
  · exact h
  · cases h
theorem gAppend_impl : Sound Kx 28 (gAppend F0) := Sound.of iAppend_okQ fun args objs r h => by
  unfold gAppend at h
  split at h
  · exact h
  · cases h
def gAll (F : Fs) : List AV → List Ob → Br
  | [.agg [.sh (.pair .str (.int .i64)) l, .int .i64 c]], [] => .ite (fsm F l) (.ret (.str (fal F l c)) []) .fail
  | _, _ => .fail
theorem gAll_spec : Sound Kx 9 (gAll F0) := Sound.of sAll_okQ fun args objs r h => by
  unfold gAll at h
  split at h
  · exact h
  · cases h
theorem gAll_impl : Sound Kx 10 (gAll F0) := Sound.of iAll_okQ fun args objs r h => by
  unfold gAll at h
  split at h
  · exact h
  · cases h
def gLoose (F : Fs) : List AV → List Ob → Br
  | [.agg [.sh (.pair .str (.int .i64)) l, .int .i64 c]], [] => .ite (fsm F l) (.ret (.int .i64 (flo F l c)) []) .fail
  | _, _ => .fail
theorem gLoose_spec : Sound Kx 11 (gLoose F0) := Sound.of sLoose_okQ fun args objs r h => by
  unfold gLoose at h
  split at h
  · exact h
  · cases h
theorem gLoose_impl : Sound Kx 13 (gLoose F0) := Sound.of iLoose_okQ fun args objs r h => by
  unfold gLoose at h
  split at h
  · exact h
  · cases h
def gUsed (F : Fs) : List AV → List Ob → Br
  | [.agg [.sh (.pair .str (.int .i64)) l, .int .i64 c]], [] => .ite (fsm F l) (.ret (.int .i64 (fus F l c)) []) .fail
  | _, _ => .fail
def gRead (F : Fs) : List AV → List Ob → Br
  | [.agg [.sh (.pair .str (.int .i64)) l, .int .i64 c], .int .i64 k, .int .i64 a, .int .i64 n], [] => .ite (fsm F l) (.ret (.tup [.str (frs F l c k a n), .bool (frc F l c k a n)]) []) .fail
  | _, _ => .fail
def gPre (F : Fs) : List AV → List Ob → Br
  | [.str s, .str t], [] => .ret (.bool (fpf F s t)) []
  | _, _ => .fail
theorem gPre_laws : Sound Kx 12 (gPre F0) := Sound.of lwithin_okQ fun args objs r h => by
  unfold gPre at h
  split at h
  · exact h
  · cases h
def gSame (F : Fs) : List AV → List Ob → Br
  | [.agg [.sh (.pair .str (.int .i64)) l, .int .i64 c], .agg [.sh (.pair .str (.int .i64)) l', .int .i64 c']], [] => .ite (decide (l.length ≤ 281474976710656)) (.ret (.bool (decide (c = c') && decide (l = l'))) []) .fail
  | _, _ => .fail
theorem gSame_laws : Sound Kx 14 (gSame F0) := Sound.of sameStore_okQ fun args objs r h => by
  unfold gSame at h
  split at h
  · exact h
  · cases h
def gAt (F : Fs) : List AV → List Ob → Br
  | [.sh (.int .u8) code, .int .i64 i], [] => .ite (decide (0 ≤ i)) (.ret (.int .i64 (fat F code i)) []) .fail
  | _, _ => .fail
theorem gAt_laws : Sound Kx 15 (gAt F0) := Sound.of lat_okQ fun args objs r h => by
  unfold gAt at h
  split at h
  · exact h
  · cases h
def gOkS (F : Fs) : List AV → List Ob → Br
  | [.agg [.sh (.pair .str (.int .i64)) l, .int .i64 c]], [] => .ret (.bool (fok F l c)) []
  | _, _ => .fail
theorem gOkS_spec : Sound Kx 7 (gOkS F0) := Sound.of sOk_ok fun args objs r h => by
  unfold gOkS at h
  split at h
  · exact h
  · cases h
def gOk (F : Fs) : List AV → List Ob → Br
  | [.agg [.sh (.pair .str (.int .i64)) l, .int .i64 c]], [] => .ite (fsm F l) (.ret (.bool (fok F l c)) []) .fail
  | _, _ => .fail
theorem gOk_impl : Sound Kx 25 (gOk F0) := Sound.of iOk_ok fun args objs r h => by
  unfold gOk at h
  split at h
  · exact h
  · cases h
def gDrA (F : Fs) : List AV → List Ob → Br
  | [.sh (.int .u8) code], [] => .ite (decide (code.length ≤ 281474976710656)) (.ret (.tup [.agg [.ref 0 0, .int .i64 (fdc F code)], .str (fdb F code)]) [.arr (.pair .str (.int .i64)) 0 false (fdl F code)]) .fail
  | _, _ => .fail
def gDrR (F : Fs) : List AV → List Ob → Br
  | [.sh (.int .u8) code], [] => .ite (decide (code.length ≤ 281474976710656)) (.ret (.agg [.ref 0 0, .int .i64 (fdc F code)]) [.arr (.pair .str (.int .i64)) 0 false (fdl F code)]) .fail
  | _, _ => .fail
theorem gDrR_spec : Sound Kx 17 (gDrR F0) := Sound.of drRoll_okQ fun args objs r h => by
  unfold gDrR at h
  split at h
  · exact h
  · cases h
def gDrC (F : Fs) : List AV → List Ob → Br
  | [.sh (.int .u8) code], [] => .ite (decide (code.length ≤ 281474976710656)) (.ret (.tup [.agg [.ref 0 0, .int .i64 (fdc F code)], .int .i64 (fkc F code)]) [.arr (.pair .str (.int .i64)) 0 false (fdl F code)]) .fail
  | _, _ => .fail
theorem gDrC_spec : Sound Kx 5 (gDrC F0) := Sound.of drCrash_okQ fun args objs r h => by
  unfold gDrC at h
  split at h
  · exact h
  · cases h

end Go.Proofs.Ytmigffdeghfbhaa.Ev
