/-
  No cell of these rows narrows 'for every input' (looked for: loops, veiled, ifaces, maps, wideKeys, modest, calm, conditions, laid).
  DERIVED. THE GIVEN ROWS OF THIS SEAT. 12 by the template 'for every input the law returns true; each argument reads behind the call as it read before'; 0 by the template 'total and deterministic' (their statements: YtjgmbgfcffnanacTotals.lean).
  GIVEN WITH THE SEED: the statements are not yours to turn. If you find one false, say at which input.
  Laid BY PROGRAM, IN A SANDBOX (cutbox-rows.mjs): the forced cells as the released guide's own fill.sh prints them over the translation 8daec1d5fe4b555a… (all of the seat's roots in one cut). By AI agents, Wed Nov 11 2026. No macro, syntax, notation, axiom, sorry.
-/
import Derived.Test.YtjgmbgfcffnanacChecked
import GoSem.Claim
import GoSem.ClaimJoined
import GoSem.ClaimMapViews
import Derived.JoinedTies
import Derived.KernelRfl
namespace Go.Proofs.Ytjgmbgfcffnanac
/- THE CELL 'sum', in the pinned program and in every row, IS THE sha256 OF THE DUMP (.gsa) THAT YtjgmbgfcffnanacProg.lean LOADS. Nothing in Lean hashes anything: it is a label: what it is worth is what the hold of that sum in a sandbox is worth. -/
noncomputable def Try.pinned : Pinned := { name := "ytjgmbgfcffnanac", sum := "8daec1d5fe4b555a96d05b7ed3e4dd96f63d0c45ac1614c03456784b15f5a91f", checked := Try.checked }
namespace Rows
def none {H : Type} : Left H := { results := [], args := [] }

/-- 'marchpastlaw.StepsEither': WHATEVER THE INPUT: true; the input reads as it did. -/
def stepsEitherSpec : ChangeSpec := { name := "stepsEither", fn := fun _ => fun
  | [d1, d2, d3, d4, d5] => { results := [.lit (.bool true)], args := [d1, d2, d3, d4, d5] }
  | _ => none }
def stepsEitherRow : OpenClaim := { program := "ytjgmbgfcffnanac", sum := "8daec1d5fe4b555a96d05b7ed3e4dd96f63d0c45ac1614c03456784b15f5a91f", func := "marchpast/marchpastlaw.StepsEither", spec := "stepsEither", unfollowed := true, recurses := true, apart := false }
def StepsEitherSaid : Prop := stepsEitherRow.holds Try.pinned (OpenSpec.ofChange stepsEitherSpec)

/-- ITS FALSE NEIGHBOUR: 'it returns false'. Refute it at one input. -/
def stepsEitherWrong : ChangeSpec := { name := "stepsEither", fn := fun _ => fun
  | [d1, d2, d3, d4, d5] => { results := [.lit (.bool false)], args := [d1, d2, d3, d4, d5] }
  | _ => none }
def StepsEitherWrongFalsely : Prop := stepsEitherRow.holds Try.pinned (OpenSpec.ofChange stepsEitherWrong)

/-- 'marchpastlaw.RestStates': WHATEVER THE INPUT: true; the input reads as it did. -/
def restStatesSpec : ChangeSpec := { name := "restStates", fn := fun _ => fun
  | [d1, d2, d3] => { results := [.lit (.bool true)], args := [d1, d2, d3] }
  | _ => none }
def restStatesRow : OpenClaim := { program := "ytjgmbgfcffnanac", sum := "8daec1d5fe4b555a96d05b7ed3e4dd96f63d0c45ac1614c03456784b15f5a91f", func := "marchpast/marchpastlaw.RestStates", spec := "restStates", unfollowed := true, recurses := true, apart := false }
def RestStatesSaid : Prop := restStatesRow.holds Try.pinned (OpenSpec.ofChange restStatesSpec)

/-- ITS FALSE NEIGHBOUR: 'it returns false'. Refute it at one input. -/
def restStatesWrong : ChangeSpec := { name := "restStates", fn := fun _ => fun
  | [d1, d2, d3] => { results := [.lit (.bool false)], args := [d1, d2, d3] }
  | _ => none }
def RestStatesWrongFalsely : Prop := restStatesRow.holds Try.pinned (OpenSpec.ofChange restStatesWrong)

/-- 'marchpastlaw.PlayMany': WHATEVER THE INPUT: true; the input reads as it did. -/
def playManySpec : ChangeSpec := { name := "playMany", fn := fun _ => fun
  | [d1, d2, d3, d4] => { results := [.lit (.bool true)], args := [d1, d2, d3, d4] }
  | _ => none }
def playManyRow : OpenClaim := { program := "ytjgmbgfcffnanac", sum := "8daec1d5fe4b555a96d05b7ed3e4dd96f63d0c45ac1614c03456784b15f5a91f", func := "marchpast/marchpastlaw.PlayMany", spec := "playMany", unfollowed := true, recurses := true, apart := false }
def PlayManySaid : Prop := playManyRow.holds Try.pinned (OpenSpec.ofChange playManySpec)

/-- ITS FALSE NEIGHBOUR: 'it returns false'. Refute it at one input. -/
def playManyWrong : ChangeSpec := { name := "playMany", fn := fun _ => fun
  | [d1, d2, d3, d4] => { results := [.lit (.bool false)], args := [d1, d2, d3, d4] }
  | _ => none }
def PlayManyWrongFalsely : Prop := playManyRow.holds Try.pinned (OpenSpec.ofChange playManyWrong)

/-- 'marchpastlaw.PlaySame': WHATEVER THE INPUT: true; the input reads as it did. -/
def playSameSpec : ChangeSpec := { name := "playSame", fn := fun _ => fun
  | [d1, d2, d3] => { results := [.lit (.bool true)], args := [d1, d2, d3] }
  | _ => none }
def playSameRow : OpenClaim := { program := "ytjgmbgfcffnanac", sum := "8daec1d5fe4b555a96d05b7ed3e4dd96f63d0c45ac1614c03456784b15f5a91f", func := "marchpast/marchpastlaw.PlaySame", spec := "playSame", unfollowed := true, recurses := true, apart := false }
def PlaySameSaid : Prop := playSameRow.holds Try.pinned (OpenSpec.ofChange playSameSpec)

/-- ITS FALSE NEIGHBOUR: 'it returns false'. Refute it at one input. -/
def playSameWrong : ChangeSpec := { name := "playSame", fn := fun _ => fun
  | [d1, d2, d3] => { results := [.lit (.bool false)], args := [d1, d2, d3] }
  | _ => none }
def PlaySameWrongFalsely : Prop := playSameRow.holds Try.pinned (OpenSpec.ofChange playSameWrong)

/-- 'marchpastlaw.AuditTrue': WHATEVER THE INPUT: true; the input reads as it did. -/
def auditTrueSpec : ChangeSpec := { name := "auditTrue", fn := fun _ => fun
  | [d1, d2, d3, d4, d5] => { results := [.lit (.bool true)], args := [d1, d2, d3, d4, d5] }
  | _ => none }
def auditTrueRow : OpenClaim := { program := "ytjgmbgfcffnanac", sum := "8daec1d5fe4b555a96d05b7ed3e4dd96f63d0c45ac1614c03456784b15f5a91f", func := "marchpast/marchpastlaw.AuditTrue", spec := "auditTrue", unfollowed := true, recurses := true, apart := false }
def AuditTrueSaid : Prop := auditTrueRow.holds Try.pinned (OpenSpec.ofChange auditTrueSpec)

/-- ITS FALSE NEIGHBOUR: 'it returns false'. Refute it at one input. -/
def auditTrueWrong : ChangeSpec := { name := "auditTrue", fn := fun _ => fun
  | [d1, d2, d3, d4, d5] => { results := [.lit (.bool false)], args := [d1, d2, d3, d4, d5] }
  | _ => none }
def AuditTrueWrongFalsely : Prop := auditTrueRow.holds Try.pinned (OpenSpec.ofChange auditTrueWrong)

/-- 'marchpastlaw.TxnChecks': WHATEVER THE INPUT: true; the input reads as it did. -/
def txnChecksSpec : ChangeSpec := { name := "txnChecks", fn := fun _ => fun
  | [d] => { results := [.lit (.bool true)], args := [d] }
  | _ => none }
def txnChecksRow : OpenClaim := { program := "ytjgmbgfcffnanac", sum := "8daec1d5fe4b555a96d05b7ed3e4dd96f63d0c45ac1614c03456784b15f5a91f", func := "marchpast/marchpastlaw.TxnChecks", spec := "txnChecks", unfollowed := true, recurses := true, apart := false }
def TxnChecksSaid : Prop := txnChecksRow.holds Try.pinned (OpenSpec.ofChange txnChecksSpec)

/-- ITS FALSE NEIGHBOUR: 'it returns false'. Refute it at one input. -/
def txnChecksWrong : ChangeSpec := { name := "txnChecks", fn := fun _ => fun
  | [d] => { results := [.lit (.bool false)], args := [d] }
  | _ => none }
def TxnChecksWrongFalsely : Prop := txnChecksRow.holds Try.pinned (OpenSpec.ofChange txnChecksWrong)

/-- 'marchpastlaw.TxnRuns': WHATEVER THE INPUT: true; the input reads as it did. -/
def txnRunsSpec : ChangeSpec := { name := "txnRuns", fn := fun _ => fun
  | [d1, d2] => { results := [.lit (.bool true)], args := [d1, d2] }
  | _ => none }
def txnRunsRow : OpenClaim := { program := "ytjgmbgfcffnanac", sum := "8daec1d5fe4b555a96d05b7ed3e4dd96f63d0c45ac1614c03456784b15f5a91f", func := "marchpast/marchpastlaw.TxnRuns", spec := "txnRuns", unfollowed := true, recurses := true, apart := false }
def TxnRunsSaid : Prop := txnRunsRow.holds Try.pinned (OpenSpec.ofChange txnRunsSpec)

/-- ITS FALSE NEIGHBOUR: 'it returns false'. Refute it at one input. -/
def txnRunsWrong : ChangeSpec := { name := "txnRuns", fn := fun _ => fun
  | [d1, d2] => { results := [.lit (.bool false)], args := [d1, d2] }
  | _ => none }
def TxnRunsWrongFalsely : Prop := txnRunsRow.holds Try.pinned (OpenSpec.ofChange txnRunsWrong)

/-- 'marchpastlaw.TxnTrue': WHATEVER THE INPUT: true; the input reads as it did. -/
def txnTrueSpec : ChangeSpec := { name := "txnTrue", fn := fun _ => fun
  | [d1, d2, d3] => { results := [.lit (.bool true)], args := [d1, d2, d3] }
  | _ => none }
def txnTrueRow : OpenClaim := { program := "ytjgmbgfcffnanac", sum := "8daec1d5fe4b555a96d05b7ed3e4dd96f63d0c45ac1614c03456784b15f5a91f", func := "marchpast/marchpastlaw.TxnTrue", spec := "txnTrue", unfollowed := true, recurses := true, apart := false }
def TxnTrueSaid : Prop := txnTrueRow.holds Try.pinned (OpenSpec.ofChange txnTrueSpec)

/-- ITS FALSE NEIGHBOUR: 'it returns false'. Refute it at one input. -/
def txnTrueWrong : ChangeSpec := { name := "txnTrue", fn := fun _ => fun
  | [d1, d2, d3] => { results := [.lit (.bool false)], args := [d1, d2, d3] }
  | _ => none }
def TxnTrueWrongFalsely : Prop := txnTrueRow.holds Try.pinned (OpenSpec.ofChange txnTrueWrong)

/-- 'marchpastlaw.PlaceTrue': WHATEVER THE INPUT: true; the input reads as it did. -/
def placeTrueSpec : ChangeSpec := { name := "placeTrue", fn := fun _ => fun
  | [d1, d2, d3] => { results := [.lit (.bool true)], args := [d1, d2, d3] }
  | _ => none }
def placeTrueRow : OpenClaim := { program := "ytjgmbgfcffnanac", sum := "8daec1d5fe4b555a96d05b7ed3e4dd96f63d0c45ac1614c03456784b15f5a91f", func := "marchpast/marchpastlaw.PlaceTrue", spec := "placeTrue", unfollowed := true, recurses := true, apart := false }
def PlaceTrueSaid : Prop := placeTrueRow.holds Try.pinned (OpenSpec.ofChange placeTrueSpec)

/-- ITS FALSE NEIGHBOUR: 'it returns false'. Refute it at one input. -/
def placeTrueWrong : ChangeSpec := { name := "placeTrue", fn := fun _ => fun
  | [d1, d2, d3] => { results := [.lit (.bool false)], args := [d1, d2, d3] }
  | _ => none }
def PlaceTrueWrongFalsely : Prop := placeTrueRow.holds Try.pinned (OpenSpec.ofChange placeTrueWrong)

/-- 'marchpastlaw.LocksTells': WHATEVER THE INPUT: true; the input reads as it did. -/
def locksTellsSpec : ChangeSpec := { name := "locksTells", fn := fun _ => fun
  | [d1, d2, d3] => { results := [.lit (.bool true)], args := [d1, d2, d3] }
  | _ => none }
def locksTellsRow : OpenClaim := { program := "ytjgmbgfcffnanac", sum := "8daec1d5fe4b555a96d05b7ed3e4dd96f63d0c45ac1614c03456784b15f5a91f", func := "marchpast/marchpastlaw.LocksTells", spec := "locksTells", unfollowed := true, recurses := true, apart := false }
def LocksTellsSaid : Prop := locksTellsRow.holds Try.pinned (OpenSpec.ofChange locksTellsSpec)

/-- ITS FALSE NEIGHBOUR: 'it returns false'. Refute it at one input. -/
def locksTellsWrong : ChangeSpec := { name := "locksTells", fn := fun _ => fun
  | [d1, d2, d3] => { results := [.lit (.bool false)], args := [d1, d2, d3] }
  | _ => none }
def LocksTellsWrongFalsely : Prop := locksTellsRow.holds Try.pinned (OpenSpec.ofChange locksTellsWrong)

/-- 'marchpastlaw.LocksMore': WHATEVER THE INPUT: true; the input reads as it did. -/
def locksMoreSpec : ChangeSpec := { name := "locksMore", fn := fun _ => fun
  | [d1, d2, d3] => { results := [.lit (.bool true)], args := [d1, d2, d3] }
  | _ => none }
def locksMoreRow : OpenClaim := { program := "ytjgmbgfcffnanac", sum := "8daec1d5fe4b555a96d05b7ed3e4dd96f63d0c45ac1614c03456784b15f5a91f", func := "marchpast/marchpastlaw.LocksMore", spec := "locksMore", unfollowed := true, recurses := true, apart := false }
def LocksMoreSaid : Prop := locksMoreRow.holds Try.pinned (OpenSpec.ofChange locksMoreSpec)

/-- ITS FALSE NEIGHBOUR: 'it returns false'. Refute it at one input. -/
def locksMoreWrong : ChangeSpec := { name := "locksMore", fn := fun _ => fun
  | [d1, d2, d3] => { results := [.lit (.bool false)], args := [d1, d2, d3] }
  | _ => none }
def LocksMoreWrongFalsely : Prop := locksMoreRow.holds Try.pinned (OpenSpec.ofChange locksMoreWrong)

/-- 'marchpastlaw.LocksTrue': WHATEVER THE INPUT: true; the input reads as it did. -/
def locksTrueSpec : ChangeSpec := { name := "locksTrue", fn := fun _ => fun
  | [d1, d2] => { results := [.lit (.bool true)], args := [d1, d2] }
  | _ => none }
def locksTrueRow : OpenClaim := { program := "ytjgmbgfcffnanac", sum := "8daec1d5fe4b555a96d05b7ed3e4dd96f63d0c45ac1614c03456784b15f5a91f", func := "marchpast/marchpastlaw.LocksTrue", spec := "locksTrue", unfollowed := true, recurses := true, apart := false }
def LocksTrueSaid : Prop := locksTrueRow.holds Try.pinned (OpenSpec.ofChange locksTrueSpec)

/-- ITS FALSE NEIGHBOUR: 'it returns false'. Refute it at one input. -/
def locksTrueWrong : ChangeSpec := { name := "locksTrue", fn := fun _ => fun
  | [d1, d2] => { results := [.lit (.bool false)], args := [d1, d2] }
  | _ => none }
def LocksTrueWrongFalsely : Prop := locksTrueRow.holds Try.pinned (OpenSpec.ofChange locksTrueWrong)

/- THE SECOND FORM. 'bulk': how many values and letters a reading holds, each counted each time it is reached (what is shared counts as often as it is met; a slice's spare places count too). A statement '..UptoSaid' is the law's where the arguments, and the package variables that the reading takes, are together of bulk at most 1048576: NARROWER than '..Said'. Prove '..Said' where nothing that the law and all that it calls make is longer than what came in: it says more and counts as full. Else prove '..UptoSaid'. A law counts once. -/
mutual
def uptoBulk {H : Type} : DataW H → Nat
  | .lit (.string bytes) => bytes.length + 1
  | .lit _ => 1
  | .nil => 1
  | .ptr d => uptoBulk d + 1
  | .slice elems spare => uptoBulkAll elems + uptoBulkAll spare + 1
  | .agg parts => uptoBulkAll parts + 1
  | .iface _ d => uptoBulk d + 1
  | .map entries => uptoBulkEntries entries + 1
  | .held _ => 1
def uptoBulkAll {H : Type} : List (DataW H) → Nat
  | [] => 0
  | d :: r => uptoBulk d + uptoBulkAll r
def uptoBulkEntries {H : Type} : List (Lit × DataW H) → Nat
  | [] => 0
  | x :: r => uptoBulkEntry x + uptoBulkEntries r
def uptoBulkEntry {H : Type} : Lit × DataW H → Nat
  | (.string bytes, d) => bytes.length + uptoBulk d + 1
  | (_, d) => uptoBulk d + 1
 end
def uptoSmall : (H : Type) → List (DataW H) → Bool := fun _ ds => decide (uptoBulkAll ds ≤ 1048576)
def OpenSpec.upto (s : _root_.Go.ChangeSpec) : _root_.Go.OpenSpec := { _root_.Go.OpenSpec.ofChange s with cond := some uptoSmall }

/-- 'marchpastlaw.StepsEither', WHERE WHAT IT READS IS OF BULK AT MOST 1048576: true; the input reads as it did. -/
def stepsEitherUptoRow : OpenClaim := { program := "ytjgmbgfcffnanac", sum := "8daec1d5fe4b555a96d05b7ed3e4dd96f63d0c45ac1614c03456784b15f5a91f", func := "marchpast/marchpastlaw.StepsEither", spec := "stepsEither", unfollowed := true, recurses := true, apart := false, narrowed := true }
def StepsEitherUptoSaid : Prop := stepsEitherUptoRow.holds Try.pinned (OpenSpec.upto stepsEitherSpec)

/-- 'marchpastlaw.RestStates', WHERE WHAT IT READS IS OF BULK AT MOST 1048576: true; the input reads as it did. -/
def restStatesUptoRow : OpenClaim := { program := "ytjgmbgfcffnanac", sum := "8daec1d5fe4b555a96d05b7ed3e4dd96f63d0c45ac1614c03456784b15f5a91f", func := "marchpast/marchpastlaw.RestStates", spec := "restStates", unfollowed := true, recurses := true, apart := false, narrowed := true }
def RestStatesUptoSaid : Prop := restStatesUptoRow.holds Try.pinned (OpenSpec.upto restStatesSpec)

/-- 'marchpastlaw.PlayMany', WHERE WHAT IT READS IS OF BULK AT MOST 1048576: true; the input reads as it did. -/
def playManyUptoRow : OpenClaim := { program := "ytjgmbgfcffnanac", sum := "8daec1d5fe4b555a96d05b7ed3e4dd96f63d0c45ac1614c03456784b15f5a91f", func := "marchpast/marchpastlaw.PlayMany", spec := "playMany", unfollowed := true, recurses := true, apart := false, narrowed := true }
def PlayManyUptoSaid : Prop := playManyUptoRow.holds Try.pinned (OpenSpec.upto playManySpec)

/-- 'marchpastlaw.PlaySame', WHERE WHAT IT READS IS OF BULK AT MOST 1048576: true; the input reads as it did. -/
def playSameUptoRow : OpenClaim := { program := "ytjgmbgfcffnanac", sum := "8daec1d5fe4b555a96d05b7ed3e4dd96f63d0c45ac1614c03456784b15f5a91f", func := "marchpast/marchpastlaw.PlaySame", spec := "playSame", unfollowed := true, recurses := true, apart := false, narrowed := true }
def PlaySameUptoSaid : Prop := playSameUptoRow.holds Try.pinned (OpenSpec.upto playSameSpec)

/-- 'marchpastlaw.AuditTrue', WHERE WHAT IT READS IS OF BULK AT MOST 1048576: true; the input reads as it did. -/
def auditTrueUptoRow : OpenClaim := { program := "ytjgmbgfcffnanac", sum := "8daec1d5fe4b555a96d05b7ed3e4dd96f63d0c45ac1614c03456784b15f5a91f", func := "marchpast/marchpastlaw.AuditTrue", spec := "auditTrue", unfollowed := true, recurses := true, apart := false, narrowed := true }
def AuditTrueUptoSaid : Prop := auditTrueUptoRow.holds Try.pinned (OpenSpec.upto auditTrueSpec)

/-- 'marchpastlaw.TxnChecks', WHERE WHAT IT READS IS OF BULK AT MOST 1048576: true; the input reads as it did. -/
def txnChecksUptoRow : OpenClaim := { program := "ytjgmbgfcffnanac", sum := "8daec1d5fe4b555a96d05b7ed3e4dd96f63d0c45ac1614c03456784b15f5a91f", func := "marchpast/marchpastlaw.TxnChecks", spec := "txnChecks", unfollowed := true, recurses := true, apart := false, narrowed := true }
def TxnChecksUptoSaid : Prop := txnChecksUptoRow.holds Try.pinned (OpenSpec.upto txnChecksSpec)

/-- 'marchpastlaw.TxnRuns', WHERE WHAT IT READS IS OF BULK AT MOST 1048576: true; the input reads as it did. -/
def txnRunsUptoRow : OpenClaim := { program := "ytjgmbgfcffnanac", sum := "8daec1d5fe4b555a96d05b7ed3e4dd96f63d0c45ac1614c03456784b15f5a91f", func := "marchpast/marchpastlaw.TxnRuns", spec := "txnRuns", unfollowed := true, recurses := true, apart := false, narrowed := true }
def TxnRunsUptoSaid : Prop := txnRunsUptoRow.holds Try.pinned (OpenSpec.upto txnRunsSpec)

/-- 'marchpastlaw.TxnTrue', WHERE WHAT IT READS IS OF BULK AT MOST 1048576: true; the input reads as it did. -/
def txnTrueUptoRow : OpenClaim := { program := "ytjgmbgfcffnanac", sum := "8daec1d5fe4b555a96d05b7ed3e4dd96f63d0c45ac1614c03456784b15f5a91f", func := "marchpast/marchpastlaw.TxnTrue", spec := "txnTrue", unfollowed := true, recurses := true, apart := false, narrowed := true }
def TxnTrueUptoSaid : Prop := txnTrueUptoRow.holds Try.pinned (OpenSpec.upto txnTrueSpec)

/-- 'marchpastlaw.PlaceTrue', WHERE WHAT IT READS IS OF BULK AT MOST 1048576: true; the input reads as it did. -/
def placeTrueUptoRow : OpenClaim := { program := "ytjgmbgfcffnanac", sum := "8daec1d5fe4b555a96d05b7ed3e4dd96f63d0c45ac1614c03456784b15f5a91f", func := "marchpast/marchpastlaw.PlaceTrue", spec := "placeTrue", unfollowed := true, recurses := true, apart := false, narrowed := true }
def PlaceTrueUptoSaid : Prop := placeTrueUptoRow.holds Try.pinned (OpenSpec.upto placeTrueSpec)

/-- 'marchpastlaw.LocksTells', WHERE WHAT IT READS IS OF BULK AT MOST 1048576: true; the input reads as it did. -/
def locksTellsUptoRow : OpenClaim := { program := "ytjgmbgfcffnanac", sum := "8daec1d5fe4b555a96d05b7ed3e4dd96f63d0c45ac1614c03456784b15f5a91f", func := "marchpast/marchpastlaw.LocksTells", spec := "locksTells", unfollowed := true, recurses := true, apart := false, narrowed := true }
def LocksTellsUptoSaid : Prop := locksTellsUptoRow.holds Try.pinned (OpenSpec.upto locksTellsSpec)

/-- 'marchpastlaw.LocksMore', WHERE WHAT IT READS IS OF BULK AT MOST 1048576: true; the input reads as it did. -/
def locksMoreUptoRow : OpenClaim := { program := "ytjgmbgfcffnanac", sum := "8daec1d5fe4b555a96d05b7ed3e4dd96f63d0c45ac1614c03456784b15f5a91f", func := "marchpast/marchpastlaw.LocksMore", spec := "locksMore", unfollowed := true, recurses := true, apart := false, narrowed := true }
def LocksMoreUptoSaid : Prop := locksMoreUptoRow.holds Try.pinned (OpenSpec.upto locksMoreSpec)

/-- 'marchpastlaw.LocksTrue', WHERE WHAT IT READS IS OF BULK AT MOST 1048576: true; the input reads as it did. -/
def locksTrueUptoRow : OpenClaim := { program := "ytjgmbgfcffnanac", sum := "8daec1d5fe4b555a96d05b7ed3e4dd96f63d0c45ac1614c03456784b15f5a91f", func := "marchpast/marchpastlaw.LocksTrue", spec := "locksTrue", unfollowed := true, recurses := true, apart := false, narrowed := true }
def LocksTrueUptoSaid : Prop := locksTrueUptoRow.holds Try.pinned (OpenSpec.upto locksTrueSpec)

end Rows
end Go.Proofs.Ytjgmbgfcffnanac
