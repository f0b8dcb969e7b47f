/-
  No cell of these rows narrows 'for every input' (looked for: loops, veiled, ifaces, maps, wideKeys, modest, calm, conditions, laid).
  DERIVED. THE GIVEN ROWS OF THIS SEAT. 12 by the template 'for every input the law returns true; each argument reads behind the call as it read before'; 0 by the template 'total and deterministic' (their statements: YthdiildelpmknaaTotals.lean).
  GIVEN WITH THE SEED: the statements are not yours to turn. If you find one false, say at which input.
  Laid BY PROGRAM, IN A SANDBOX (cutbox-rows.mjs): the forced cells as the released guide's own fill.sh prints them over the translation 7e193ea375d60df6… (all of the seat's roots in one cut). By AI agents, Wed Nov 11 2026. No macro, syntax, notation, axiom, sorry.
-/
import Derived.Test.YthdiildelpmknaaChecked
import GoSem.Claim
import GoSem.ClaimJoined
import GoSem.ClaimMapViews
import Derived.JoinedTies
import Derived.KernelRfl
namespace Go.Proofs.Ythdiildelpmknaa
/- THE CELL 'sum', in the pinned program and in every row, IS THE sha256 OF THE DUMP (.gsa) THAT YthdiildelpmknaaProg.lean LOADS. Nothing in Lean hashes anything: it is a label: what it is worth is what the hold of that sum in a sandbox is worth. -/
noncomputable def Try.pinned : Pinned := { name := "ythdiildelpmknaa", sum := "7e193ea375d60df662475b1f6ed82dc96afc2da74824c68373b9b164c4cb1bc4", checked := Try.checked }
namespace Rows
def none {H : Type} : Left H := { results := [], args := [] }

/-- 'laws.FnExactEventOk': WHATEVER THE INPUT: true; the input reads as it did. -/
def fnExactEventOkSpec : ChangeSpec := { name := "fnExactEventOk", fn := fun _ => fun
  | [d] => { results := [.lit (.bool true)], args := [d] }
  | _ => none }
def fnExactEventOkRow : OpenClaim := { program := "ythdiildelpmknaa", sum := "7e193ea375d60df662475b1f6ed82dc96afc2da74824c68373b9b164c4cb1bc4", func := "loop.example/g00651/laws.FnExactEventOk", spec := "fnExactEventOk", apart := false }
def FnExactEventOkSaid : Prop := fnExactEventOkRow.holds Try.pinned (OpenSpec.ofChange fnExactEventOkSpec)

/-- ITS FALSE NEIGHBOUR: 'it returns false'. Refute it at one input. -/
def fnExactEventOkWrong : ChangeSpec := { name := "fnExactEventOk", fn := fun _ => fun
  | [d] => { results := [.lit (.bool false)], args := [d] }
  | _ => none }
def FnExactEventOkWrongFalsely : Prop := fnExactEventOkRow.holds Try.pinned (OpenSpec.ofChange fnExactEventOkWrong)

/-- 'laws.FnExactConfOk': WHATEVER THE INPUT: true; the input reads as it did. -/
def fnExactConfOkSpec : ChangeSpec := { name := "fnExactConfOk", fn := fun _ => fun
  | [d] => { results := [.lit (.bool true)], args := [d] }
  | _ => none }
def fnExactConfOkRow : OpenClaim := { program := "ythdiildelpmknaa", sum := "7e193ea375d60df662475b1f6ed82dc96afc2da74824c68373b9b164c4cb1bc4", func := "loop.example/g00651/laws.FnExactConfOk", spec := "fnExactConfOk", inPlace := ["internal/bytealg.IndexByteString"], unfollowed := true, recurses := true, apart := false }
def FnExactConfOkSaid : Prop := fnExactConfOkRow.holds Try.pinned (OpenSpec.ofChange fnExactConfOkSpec)

/-- ITS FALSE NEIGHBOUR: 'it returns false'. Refute it at one input. -/
def fnExactConfOkWrong : ChangeSpec := { name := "fnExactConfOk", fn := fun _ => fun
  | [d] => { results := [.lit (.bool false)], args := [d] }
  | _ => none }
def FnExactConfOkWrongFalsely : Prop := fnExactConfOkRow.holds Try.pinned (OpenSpec.ofChange fnExactConfOkWrong)

/-- 'laws.FnExactSync': WHATEVER THE INPUT: true; the input reads as it did. -/
def fnExactSyncSpec : ChangeSpec := { name := "fnExactSync", fn := fun _ => fun
  | [d] => { results := [.lit (.bool true)], args := [d] }
  | _ => none }
def fnExactSyncRow : OpenClaim := { program := "ythdiildelpmknaa", sum := "7e193ea375d60df662475b1f6ed82dc96afc2da74824c68373b9b164c4cb1bc4", func := "loop.example/g00651/laws.FnExactSync", spec := "fnExactSync", apart := false }
def FnExactSyncSaid : Prop := fnExactSyncRow.holds Try.pinned (OpenSpec.ofChange fnExactSyncSpec)

/-- ITS FALSE NEIGHBOUR: 'it returns false'. Refute it at one input. -/
def fnExactSyncWrong : ChangeSpec := { name := "fnExactSync", fn := fun _ => fun
  | [d] => { results := [.lit (.bool false)], args := [d] }
  | _ => none }
def FnExactSyncWrongFalsely : Prop := fnExactSyncRow.holds Try.pinned (OpenSpec.ofChange fnExactSyncWrong)

/-- 'laws.FnExactCrash': WHATEVER THE INPUT: true; the input reads as it did. -/
def fnExactCrashSpec : ChangeSpec := { name := "fnExactCrash", fn := fun _ => fun
  | [d1, d2] => { results := [.lit (.bool true)], args := [d1, d2] }
  | _ => none }
def fnExactCrashRow : OpenClaim := { program := "ythdiildelpmknaa", sum := "7e193ea375d60df662475b1f6ed82dc96afc2da74824c68373b9b164c4cb1bc4", func := "loop.example/g00651/laws.FnExactCrash", spec := "fnExactCrash", apart := false }
def FnExactCrashSaid : Prop := fnExactCrashRow.holds Try.pinned (OpenSpec.ofChange fnExactCrashSpec)

/-- ITS FALSE NEIGHBOUR: 'it returns false'. Refute it at one input. -/
def fnExactCrashWrong : ChangeSpec := { name := "fnExactCrash", fn := fun _ => fun
  | [d1, d2] => { results := [.lit (.bool false)], args := [d1, d2] }
  | _ => none }
def FnExactCrashWrongFalsely : Prop := fnExactCrashRow.holds Try.pinned (OpenSpec.ofChange fnExactCrashWrong)

/-- 'laws.FnExactCut': WHATEVER THE INPUT: true; the input reads as it did. -/
def fnExactCutSpec : ChangeSpec := { name := "fnExactCut", fn := fun _ => fun
  | [d1, d2] => { results := [.lit (.bool true)], args := [d1, d2] }
  | _ => none }
def fnExactCutRow : OpenClaim := { program := "ythdiildelpmknaa", sum := "7e193ea375d60df662475b1f6ed82dc96afc2da74824c68373b9b164c4cb1bc4", func := "loop.example/g00651/laws.FnExactCut", spec := "fnExactCut", apart := false }
def FnExactCutSaid : Prop := fnExactCutRow.holds Try.pinned (OpenSpec.ofChange fnExactCutSpec)

/-- ITS FALSE NEIGHBOUR: 'it returns false'. Refute it at one input. -/
def fnExactCutWrong : ChangeSpec := { name := "fnExactCut", fn := fun _ => fun
  | [d1, d2] => { results := [.lit (.bool false)], args := [d1, d2] }
  | _ => none }
def FnExactCutWrongFalsely : Prop := fnExactCutRow.holds Try.pinned (OpenSpec.ofChange fnExactCutWrong)

/-- 'laws.FnExactAppend': WHATEVER THE INPUT: true; the input reads as it did. -/
def fnExactAppendSpec : ChangeSpec := { name := "fnExactAppend", fn := fun _ => fun
  | [d1, d2] => { results := [.lit (.bool true)], args := [d1, d2] }
  | _ => none }
def fnExactAppendRow : OpenClaim := { program := "ythdiildelpmknaa", sum := "7e193ea375d60df662475b1f6ed82dc96afc2da74824c68373b9b164c4cb1bc4", func := "loop.example/g00651/laws.FnExactAppend", spec := "fnExactAppend", apart := false }
def FnExactAppendSaid : Prop := fnExactAppendRow.holds Try.pinned (OpenSpec.ofChange fnExactAppendSpec)

/-- ITS FALSE NEIGHBOUR: 'it returns false'. Refute it at one input. -/
def fnExactAppendWrong : ChangeSpec := { name := "fnExactAppend", fn := fun _ => fun
  | [d1, d2] => { results := [.lit (.bool false)], args := [d1, d2] }
  | _ => none }
def FnExactAppendWrongFalsely : Prop := fnExactAppendRow.holds Try.pinned (OpenSpec.ofChange fnExactAppendWrong)

/-- 'laws.FnExactRoll': WHATEVER THE INPUT: true; the input reads as it did. -/
def fnExactRollSpec : ChangeSpec := { name := "fnExactRoll", fn := fun _ => fun
  | [d] => { results := [.lit (.bool true)], args := [d] }
  | _ => none }
def fnExactRollRow : OpenClaim := { program := "ythdiildelpmknaa", sum := "7e193ea375d60df662475b1f6ed82dc96afc2da74824c68373b9b164c4cb1bc4", func := "loop.example/g00651/laws.FnExactRoll", spec := "fnExactRoll", apart := false }
def FnExactRollSaid : Prop := fnExactRollRow.holds Try.pinned (OpenSpec.ofChange fnExactRollSpec)

/-- ITS FALSE NEIGHBOUR: 'it returns false'. Refute it at one input. -/
def fnExactRollWrong : ChangeSpec := { name := "fnExactRoll", fn := fun _ => fun
  | [d] => { results := [.lit (.bool false)], args := [d] }
  | _ => none }
def FnExactRollWrongFalsely : Prop := fnExactRollRow.holds Try.pinned (OpenSpec.ofChange fnExactRollWrong)

/-- 'laws.FnExactCacheNew': WHATEVER THE INPUT: true; the input reads as it did. -/
def fnExactCacheNewSpec : ChangeSpec := { name := "fnExactCacheNew", fn := fun _ => fun
  | [d] => { results := [.lit (.bool true)], args := [d] }
  | _ => none }
def fnExactCacheNewRow : OpenClaim := { program := "ythdiildelpmknaa", sum := "7e193ea375d60df662475b1f6ed82dc96afc2da74824c68373b9b164c4cb1bc4", func := "loop.example/g00651/laws.FnExactCacheNew", spec := "fnExactCacheNew", apart := false }
def FnExactCacheNewSaid : Prop := fnExactCacheNewRow.holds Try.pinned (OpenSpec.ofChange fnExactCacheNewSpec)

/-- ITS FALSE NEIGHBOUR: 'it returns false'. Refute it at one input. -/
def fnExactCacheNewWrong : ChangeSpec := { name := "fnExactCacheNew", fn := fun _ => fun
  | [d] => { results := [.lit (.bool false)], args := [d] }
  | _ => none }
def FnExactCacheNewWrongFalsely : Prop := fnExactCacheNewRow.holds Try.pinned (OpenSpec.ofChange fnExactCacheNewWrong)

/-- 'laws.FnAppends': WHATEVER THE INPUT: true; the input reads as it did. -/
def fnAppendsSpec : ChangeSpec := { name := "fnAppends", fn := fun _ => fun
  | [d] => { results := [.lit (.bool true)], args := [d] }
  | _ => none }
def fnAppendsRow : OpenClaim := { program := "ythdiildelpmknaa", sum := "7e193ea375d60df662475b1f6ed82dc96afc2da74824c68373b9b164c4cb1bc4", func := "loop.example/g00651/laws.FnAppends", spec := "fnAppends", inPlace := ["internal/abi.NoEscape"], apart := false }
def FnAppendsSaid : Prop := fnAppendsRow.holds Try.pinned (OpenSpec.ofChange fnAppendsSpec)

/-- ITS FALSE NEIGHBOUR: 'it returns false'. Refute it at one input. -/
def fnAppendsWrong : ChangeSpec := { name := "fnAppends", fn := fun _ => fun
  | [d] => { results := [.lit (.bool false)], args := [d] }
  | _ => none }
def FnAppendsWrongFalsely : Prop := fnAppendsRow.holds Try.pinned (OpenSpec.ofChange fnAppendsWrong)

/-- 'laws.FnCrashes': WHATEVER THE INPUT: true; the input reads as it did. -/
def fnCrashesSpec : ChangeSpec := { name := "fnCrashes", fn := fun _ => fun
  | [d] => { results := [.lit (.bool true)], args := [d] }
  | _ => none }
def fnCrashesRow : OpenClaim := { program := "ythdiildelpmknaa", sum := "7e193ea375d60df662475b1f6ed82dc96afc2da74824c68373b9b164c4cb1bc4", func := "loop.example/g00651/laws.FnCrashes", spec := "fnCrashes", inPlace := ["internal/abi.NoEscape"], apart := false }
def FnCrashesSaid : Prop := fnCrashesRow.holds Try.pinned (OpenSpec.ofChange fnCrashesSpec)

/-- ITS FALSE NEIGHBOUR: 'it returns false'. Refute it at one input. -/
def fnCrashesWrong : ChangeSpec := { name := "fnCrashes", fn := fun _ => fun
  | [d] => { results := [.lit (.bool false)], args := [d] }
  | _ => none }
def FnCrashesWrongFalsely : Prop := fnCrashesRow.holds Try.pinned (OpenSpec.ofChange fnCrashesWrong)

/-- 'laws.FnRolls': WHATEVER THE INPUT: true; the input reads as it did. -/
def fnRollsSpec : ChangeSpec := { name := "fnRolls", fn := fun _ => fun
  | [d] => { results := [.lit (.bool true)], args := [d] }
  | _ => none }
def fnRollsRow : OpenClaim := { program := "ythdiildelpmknaa", sum := "7e193ea375d60df662475b1f6ed82dc96afc2da74824c68373b9b164c4cb1bc4", func := "loop.example/g00651/laws.FnRolls", spec := "fnRolls", inPlace := ["internal/abi.NoEscape"], apart := false }
def FnRollsSaid : Prop := fnRollsRow.holds Try.pinned (OpenSpec.ofChange fnRollsSpec)

/-- ITS FALSE NEIGHBOUR: 'it returns false'. Refute it at one input. -/
def fnRollsWrong : ChangeSpec := { name := "fnRolls", fn := fun _ => fun
  | [d] => { results := [.lit (.bool false)], args := [d] }
  | _ => none }
def FnRollsWrongFalsely : Prop := fnRollsRow.holds Try.pinned (OpenSpec.ofChange fnRollsWrong)

/-- 'laws.FnCuts': WHATEVER THE INPUT: true; the input reads as it did. -/
def fnCutsSpec : ChangeSpec := { name := "fnCuts", fn := fun _ => fun
  | [d] => { results := [.lit (.bool true)], args := [d] }
  | _ => none }
def fnCutsRow : OpenClaim := { program := "ythdiildelpmknaa", sum := "7e193ea375d60df662475b1f6ed82dc96afc2da74824c68373b9b164c4cb1bc4", func := "loop.example/g00651/laws.FnCuts", spec := "fnCuts", inPlace := ["internal/abi.NoEscape"], apart := false }
def FnCutsSaid : Prop := fnCutsRow.holds Try.pinned (OpenSpec.ofChange fnCutsSpec)

/-- ITS FALSE NEIGHBOUR: 'it returns false'. Refute it at one input. -/
def fnCutsWrong : ChangeSpec := { name := "fnCuts", fn := fun _ => fun
  | [d] => { results := [.lit (.bool false)], args := [d] }
  | _ => none }
def FnCutsWrongFalsely : Prop := fnCutsRow.holds Try.pinned (OpenSpec.ofChange fnCutsWrong)

/- THE SECOND FORM. 'bulk': how many values and letters a reading holds, each counted each time it is reached (what is shared counts as often as it is met; a slice's spare places count too). A statement '..UptoSaid' is the law's where the arguments, and the package variables that the reading takes, are together of bulk at most 1048576: NARROWER than '..Said'. Prove '..Said' where nothing that the law and all that it calls make is longer than what came in: it says more and counts as full. Else prove '..UptoSaid'. A law counts once. -/
mutual
def uptoBulk {H : Type} : DataW H → Nat
  | .lit (.string bytes) => bytes.length + 1
  | .lit _ => 1
  | .nil => 1
  | .ptr d => uptoBulk d + 1
  | .slice elems spare => uptoBulkAll elems + uptoBulkAll spare + 1
  | .agg parts => uptoBulkAll parts + 1
  | .iface _ d => uptoBulk d + 1
  | .map entries => uptoBulkEntries entries + 1
  | .held _ => 1
def uptoBulkAll {H : Type} : List (DataW H) → Nat
  | [] => 0
  | d :: r => uptoBulk d + uptoBulkAll r
def uptoBulkEntries {H : Type} : List (Lit × DataW H) → Nat
  | [] => 0
  | x :: r => uptoBulkEntry x + uptoBulkEntries r
def uptoBulkEntry {H : Type} : Lit × DataW H → Nat
  | (.string bytes, d) => bytes.length + uptoBulk d + 1
  | (_, d) => uptoBulk d + 1
 end
def uptoSmall : (H : Type) → List (DataW H) → Bool := fun _ ds => decide (uptoBulkAll ds ≤ 1048576)
def OpenSpec.upto (s : _root_.Go.ChangeSpec) : _root_.Go.OpenSpec := { _root_.Go.OpenSpec.ofChange s with cond := some uptoSmall }

/-- 'laws.FnExactEventOk', WHERE WHAT IT READS IS OF BULK AT MOST 1048576: true; the input reads as it did. -/
def fnExactEventOkUptoRow : OpenClaim := { program := "ythdiildelpmknaa", sum := "7e193ea375d60df662475b1f6ed82dc96afc2da74824c68373b9b164c4cb1bc4", func := "loop.example/g00651/laws.FnExactEventOk", spec := "fnExactEventOk", apart := false, narrowed := true }
def FnExactEventOkUptoSaid : Prop := fnExactEventOkUptoRow.holds Try.pinned (OpenSpec.upto fnExactEventOkSpec)

/-- 'laws.FnExactConfOk', WHERE WHAT IT READS IS OF BULK AT MOST 1048576: true; the input reads as it did. -/
def fnExactConfOkUptoRow : OpenClaim := { program := "ythdiildelpmknaa", sum := "7e193ea375d60df662475b1f6ed82dc96afc2da74824c68373b9b164c4cb1bc4", func := "loop.example/g00651/laws.FnExactConfOk", spec := "fnExactConfOk", inPlace := ["internal/bytealg.IndexByteString"], unfollowed := true, recurses := true, apart := false, narrowed := true }
def FnExactConfOkUptoSaid : Prop := fnExactConfOkUptoRow.holds Try.pinned (OpenSpec.upto fnExactConfOkSpec)

/-- 'laws.FnExactSync', WHERE WHAT IT READS IS OF BULK AT MOST 1048576: true; the input reads as it did. -/
def fnExactSyncUptoRow : OpenClaim := { program := "ythdiildelpmknaa", sum := "7e193ea375d60df662475b1f6ed82dc96afc2da74824c68373b9b164c4cb1bc4", func := "loop.example/g00651/laws.FnExactSync", spec := "fnExactSync", apart := false, narrowed := true }
def FnExactSyncUptoSaid : Prop := fnExactSyncUptoRow.holds Try.pinned (OpenSpec.upto fnExactSyncSpec)

/-- 'laws.FnExactCrash', WHERE WHAT IT READS IS OF BULK AT MOST 1048576: true; the input reads as it did. -/
def fnExactCrashUptoRow : OpenClaim := { program := "ythdiildelpmknaa", sum := "7e193ea375d60df662475b1f6ed82dc96afc2da74824c68373b9b164c4cb1bc4", func := "loop.example/g00651/laws.FnExactCrash", spec := "fnExactCrash", apart := false, narrowed := true }
def FnExactCrashUptoSaid : Prop := fnExactCrashUptoRow.holds Try.pinned (OpenSpec.upto fnExactCrashSpec)

/-- 'laws.FnExactCut', WHERE WHAT IT READS IS OF BULK AT MOST 1048576: true; the input reads as it did. -/
def fnExactCutUptoRow : OpenClaim := { program := "ythdiildelpmknaa", sum := "7e193ea375d60df662475b1f6ed82dc96afc2da74824c68373b9b164c4cb1bc4", func := "loop.example/g00651/laws.FnExactCut", spec := "fnExactCut", apart := false, narrowed := true }
def FnExactCutUptoSaid : Prop := fnExactCutUptoRow.holds Try.pinned (OpenSpec.upto fnExactCutSpec)

/-- 'laws.FnExactAppend', WHERE WHAT IT READS IS OF BULK AT MOST 1048576: true; the input reads as it did. -/
def fnExactAppendUptoRow : OpenClaim := { program := "ythdiildelpmknaa", sum := "7e193ea375d60df662475b1f6ed82dc96afc2da74824c68373b9b164c4cb1bc4", func := "loop.example/g00651/laws.FnExactAppend", spec := "fnExactAppend", apart := false, narrowed := true }
def FnExactAppendUptoSaid : Prop := fnExactAppendUptoRow.holds Try.pinned (OpenSpec.upto fnExactAppendSpec)

/-- 'laws.FnExactRoll', WHERE WHAT IT READS IS OF BULK AT MOST 1048576: true; the input reads as it did. -/
def fnExactRollUptoRow : OpenClaim := { program := "ythdiildelpmknaa", sum := "7e193ea375d60df662475b1f6ed82dc96afc2da74824c68373b9b164c4cb1bc4", func := "loop.example/g00651/laws.FnExactRoll", spec := "fnExactRoll", apart := false, narrowed := true }
def FnExactRollUptoSaid : Prop := fnExactRollUptoRow.holds Try.pinned (OpenSpec.upto fnExactRollSpec)

/-- 'laws.FnExactCacheNew', WHERE WHAT IT READS IS OF BULK AT MOST 1048576: true; the input reads as it did. -/
def fnExactCacheNewUptoRow : OpenClaim := { program := "ythdiildelpmknaa", sum := "7e193ea375d60df662475b1f6ed82dc96afc2da74824c68373b9b164c4cb1bc4", func := "loop.example/g00651/laws.FnExactCacheNew", spec := "fnExactCacheNew", apart := false, narrowed := true }
def FnExactCacheNewUptoSaid : Prop := fnExactCacheNewUptoRow.holds Try.pinned (OpenSpec.upto fnExactCacheNewSpec)

/-- 'laws.FnAppends', WHERE WHAT IT READS IS OF BULK AT MOST 1048576: true; the input reads as it did. -/
def fnAppendsUptoRow : OpenClaim := { program := "ythdiildelpmknaa", sum := "7e193ea375d60df662475b1f6ed82dc96afc2da74824c68373b9b164c4cb1bc4", func := "loop.example/g00651/laws.FnAppends", spec := "fnAppends", inPlace := ["internal/abi.NoEscape"], apart := false, narrowed := true }
def FnAppendsUptoSaid : Prop := fnAppendsUptoRow.holds Try.pinned (OpenSpec.upto fnAppendsSpec)

/-- 'laws.FnCrashes', WHERE WHAT IT READS IS OF BULK AT MOST 1048576: true; the input reads as it did. -/
def fnCrashesUptoRow : OpenClaim := { program := "ythdiildelpmknaa", sum := "7e193ea375d60df662475b1f6ed82dc96afc2da74824c68373b9b164c4cb1bc4", func := "loop.example/g00651/laws.FnCrashes", spec := "fnCrashes", inPlace := ["internal/abi.NoEscape"], apart := false, narrowed := true }
def FnCrashesUptoSaid : Prop := fnCrashesUptoRow.holds Try.pinned (OpenSpec.upto fnCrashesSpec)

/-- 'laws.FnRolls', WHERE WHAT IT READS IS OF BULK AT MOST 1048576: true; the input reads as it did. -/
def fnRollsUptoRow : OpenClaim := { program := "ythdiildelpmknaa", sum := "7e193ea375d60df662475b1f6ed82dc96afc2da74824c68373b9b164c4cb1bc4", func := "loop.example/g00651/laws.FnRolls", spec := "fnRolls", inPlace := ["internal/abi.NoEscape"], apart := false, narrowed := true }
def FnRollsUptoSaid : Prop := fnRollsUptoRow.holds Try.pinned (OpenSpec.upto fnRollsSpec)

/-- 'laws.FnCuts', WHERE WHAT IT READS IS OF BULK AT MOST 1048576: true; the input reads as it did. -/
def fnCutsUptoRow : OpenClaim := { program := "ythdiildelpmknaa", sum := "7e193ea375d60df662475b1f6ed82dc96afc2da74824c68373b9b164c4cb1bc4", func := "loop.example/g00651/laws.FnCuts", spec := "fnCuts", inPlace := ["internal/abi.NoEscape"], apart := false, narrowed := true }
def FnCutsUptoSaid : Prop := fnCutsUptoRow.holds Try.pinned (OpenSpec.upto fnCutsSpec)

end Rows
end Go.Proofs.Ythdiildelpmknaa
