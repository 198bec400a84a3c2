/-
  No cell of these rows narrows 'for every input' (looked for: loops, veiled, ifaces, maps, wideKeys, modest, calm, conditions, laid).
  DERIVED. THE GIVEN ROWS OF THIS SEAT. 11 by the template 'for every input the law returns true; each argument reads behind the call as it read before'; 0 by the template 'total and deterministic' (their statements: YtjgmbgfcffnanabTotals.lean).
  GIVEN WITH THE SEED: the statements are not yours to turn. If you find one false, say at which input.
  Laid BY PROGRAM, IN A SANDBOX (cutbox-rows.mjs): the forced cells as the released guide's own fill.sh prints them over the translation a49cedbd109ca221… (all of the seat's roots in one cut). By AI agents, Wed Nov 11 2026. No macro, syntax, notation, axiom, sorry.
-/
import Derived.Test.YtjgmbgfcffnanabChecked
import GoSem.Claim
import GoSem.ClaimJoined
import GoSem.ClaimMapViews
import Derived.JoinedTies
import Derived.KernelRfl
namespace Go.Proofs.Ytjgmbgfcffnanab
/- THE CELL 'sum', in the pinned program and in every row, IS THE sha256 OF THE DUMP (.gsa) THAT YtjgmbgfcffnanabProg.lean LOADS. Nothing in Lean hashes anything: it is a label: what it is worth is what the hold of that sum in a sandbox is worth. -/
noncomputable def Try.pinned : Pinned := { name := "ytjgmbgfcffnanab", sum := "a49cedbd109ca221c072c805119b8055fe43d80db748f24d06401ad25002f9ba", checked := Try.checked }
namespace Rows
def none {H : Type} : Left H := { results := [], args := [] }

/-- 'marchpastlaw.WireWrites': WHATEVER THE INPUT: true; the input reads as it did. -/
def wireWritesSpec : ChangeSpec := { name := "wireWrites", fn := fun _ => fun
  | [d1, d2] => { results := [.lit (.bool true)], args := [d1, d2] }
  | _ => none }
def wireWritesRow : OpenClaim := { program := "ytjgmbgfcffnanab", sum := "a49cedbd109ca221c072c805119b8055fe43d80db748f24d06401ad25002f9ba", func := "marchpast/marchpastlaw.WireWrites", spec := "wireWrites", unfollowed := true, recurses := true, apart := false }
def WireWritesSaid : Prop := wireWritesRow.holds Try.pinned (OpenSpec.ofChange wireWritesSpec)

/-- ITS FALSE NEIGHBOUR: 'it returns false'. Refute it at one input. -/
def wireWritesWrong : ChangeSpec := { name := "wireWrites", fn := fun _ => fun
  | [d1, d2] => { results := [.lit (.bool false)], args := [d1, d2] }
  | _ => none }
def WireWritesWrongFalsely : Prop := wireWritesRow.holds Try.pinned (OpenSpec.ofChange wireWritesWrong)

/-- 'marchpastlaw.WireBack': WHATEVER THE INPUT: true; the input reads as it did. -/
def wireBackSpec : ChangeSpec := { name := "wireBack", fn := fun _ => fun
  | [d1, d2] => { results := [.lit (.bool true)], args := [d1, d2] }
  | _ => none }
def wireBackRow : OpenClaim := { program := "ytjgmbgfcffnanab", sum := "a49cedbd109ca221c072c805119b8055fe43d80db748f24d06401ad25002f9ba", func := "marchpast/marchpastlaw.WireBack", spec := "wireBack", unfollowed := true, recurses := true, apart := false }
def WireBackSaid : Prop := wireBackRow.holds Try.pinned (OpenSpec.ofChange wireBackSpec)

/-- ITS FALSE NEIGHBOUR: 'it returns false'. Refute it at one input. -/
def wireBackWrong : ChangeSpec := { name := "wireBack", fn := fun _ => fun
  | [d1, d2] => { results := [.lit (.bool false)], args := [d1, d2] }
  | _ => none }
def WireBackWrongFalsely : Prop := wireBackRow.holds Try.pinned (OpenSpec.ofChange wireBackWrong)

/-- 'marchpastlaw.AuditTells': WHATEVER THE INPUT: true; the input reads as it did. -/
def auditTellsSpec : ChangeSpec := { name := "auditTells", fn := fun _ => fun
  | [d1, d2, d3, d4, d5] => { results := [.lit (.bool true)], args := [d1, d2, d3, d4, d5] }
  | _ => none }
def auditTellsRow : OpenClaim := { program := "ytjgmbgfcffnanab", sum := "a49cedbd109ca221c072c805119b8055fe43d80db748f24d06401ad25002f9ba", func := "marchpast/marchpastlaw.AuditTells", spec := "auditTells", unfollowed := true, recurses := true, apart := false }
def AuditTellsSaid : Prop := auditTellsRow.holds Try.pinned (OpenSpec.ofChange auditTellsSpec)

/-- ITS FALSE NEIGHBOUR: 'it returns false'. Refute it at one input. -/
def auditTellsWrong : ChangeSpec := { name := "auditTells", fn := fun _ => fun
  | [d1, d2, d3, d4, d5] => { results := [.lit (.bool false)], args := [d1, d2, d3, d4, d5] }
  | _ => none }
def AuditTellsWrongFalsely : Prop := auditTellsRow.holds Try.pinned (OpenSpec.ofChange auditTellsWrong)

/-- 'marchpastlaw.AuditFrom': WHATEVER THE INPUT: true; the input reads as it did. -/
def auditFromSpec : ChangeSpec := { name := "auditFrom", fn := fun _ => fun
  | [d1, d2, d3, d4] => { results := [.lit (.bool true)], args := [d1, d2, d3, d4] }
  | _ => none }
def auditFromRow : OpenClaim := { program := "ytjgmbgfcffnanab", sum := "a49cedbd109ca221c072c805119b8055fe43d80db748f24d06401ad25002f9ba", func := "marchpast/marchpastlaw.AuditFrom", spec := "auditFrom", unfollowed := true, recurses := true, apart := false }
def AuditFromSaid : Prop := auditFromRow.holds Try.pinned (OpenSpec.ofChange auditFromSpec)

/-- ITS FALSE NEIGHBOUR: 'it returns false'. Refute it at one input. -/
def auditFromWrong : ChangeSpec := { name := "auditFrom", fn := fun _ => fun
  | [d1, d2, d3, d4] => { results := [.lit (.bool false)], args := [d1, d2, d3, d4] }
  | _ => none }
def AuditFromWrongFalsely : Prop := auditFromRow.holds Try.pinned (OpenSpec.ofChange auditFromWrong)

/-- 'marchpastlaw.PlayTells': WHATEVER THE INPUT: true; the input reads as it did. -/
def playTellsSpec : ChangeSpec := { name := "playTells", fn := fun _ => fun
  | [d1, d2, d3] => { results := [.lit (.bool true)], args := [d1, d2, d3] }
  | _ => none }
def playTellsRow : OpenClaim := { program := "ytjgmbgfcffnanab", sum := "a49cedbd109ca221c072c805119b8055fe43d80db748f24d06401ad25002f9ba", func := "marchpast/marchpastlaw.PlayTells", spec := "playTells", unfollowed := true, recurses := true, apart := false }
def PlayTellsSaid : Prop := playTellsRow.holds Try.pinned (OpenSpec.ofChange playTellsSpec)

/-- ITS FALSE NEIGHBOUR: 'it returns false'. Refute it at one input. -/
def playTellsWrong : ChangeSpec := { name := "playTells", fn := fun _ => fun
  | [d1, d2, d3] => { results := [.lit (.bool false)], args := [d1, d2, d3] }
  | _ => none }
def PlayTellsWrongFalsely : Prop := playTellsRow.holds Try.pinned (OpenSpec.ofChange playTellsWrong)

/-- 'marchpastlaw.PlayResults': WHATEVER THE INPUT: true; the input reads as it did. -/
def playResultsSpec : ChangeSpec := { name := "playResults", fn := fun _ => fun
  | [d1, d2] => { results := [.lit (.bool true)], args := [d1, d2] }
  | _ => none }
def playResultsRow : OpenClaim := { program := "ytjgmbgfcffnanab", sum := "a49cedbd109ca221c072c805119b8055fe43d80db748f24d06401ad25002f9ba", func := "marchpast/marchpastlaw.PlayResults", spec := "playResults", unfollowed := true, recurses := true, apart := false }
def PlayResultsSaid : Prop := playResultsRow.holds Try.pinned (OpenSpec.ofChange playResultsSpec)

/-- ITS FALSE NEIGHBOUR: 'it returns false'. Refute it at one input. -/
def playResultsWrong : ChangeSpec := { name := "playResults", fn := fun _ => fun
  | [d1, d2] => { results := [.lit (.bool false)], args := [d1, d2] }
  | _ => none }
def PlayResultsWrongFalsely : Prop := playResultsRow.holds Try.pinned (OpenSpec.ofChange playResultsWrong)

/-- 'marchpastlaw.PlayShards': WHATEVER THE INPUT: true; the input reads as it did. -/
def playShardsSpec : ChangeSpec := { name := "playShards", fn := fun _ => fun
  | [d1, d2, d3, d4] => { results := [.lit (.bool true)], args := [d1, d2, d3, d4] }
  | _ => none }
def playShardsRow : OpenClaim := { program := "ytjgmbgfcffnanab", sum := "a49cedbd109ca221c072c805119b8055fe43d80db748f24d06401ad25002f9ba", func := "marchpast/marchpastlaw.PlayShards", spec := "playShards", unfollowed := true, recurses := true, apart := false }
def PlayShardsSaid : Prop := playShardsRow.holds Try.pinned (OpenSpec.ofChange playShardsSpec)

/-- ITS FALSE NEIGHBOUR: 'it returns false'. Refute it at one input. -/
def playShardsWrong : ChangeSpec := { name := "playShards", fn := fun _ => fun
  | [d1, d2, d3, d4] => { results := [.lit (.bool false)], args := [d1, d2, d3, d4] }
  | _ => none }
def PlayShardsWrongFalsely : Prop := playShardsRow.holds Try.pinned (OpenSpec.ofChange playShardsWrong)

/-- 'marchpastlaw.StepsChecks': WHATEVER THE INPUT: true; the input reads as it did. -/
def stepsChecksSpec : ChangeSpec := { name := "stepsChecks", fn := fun _ => fun
  | [d1, d2, d3] => { results := [.lit (.bool true)], args := [d1, d2, d3] }
  | _ => none }
def stepsChecksRow : OpenClaim := { program := "ytjgmbgfcffnanab", sum := "a49cedbd109ca221c072c805119b8055fe43d80db748f24d06401ad25002f9ba", func := "marchpast/marchpastlaw.StepsChecks", spec := "stepsChecks", unfollowed := true, recurses := true, apart := false }
def StepsChecksSaid : Prop := stepsChecksRow.holds Try.pinned (OpenSpec.ofChange stepsChecksSpec)

/-- ITS FALSE NEIGHBOUR: 'it returns false'. Refute it at one input. -/
def stepsChecksWrong : ChangeSpec := { name := "stepsChecks", fn := fun _ => fun
  | [d1, d2, d3] => { results := [.lit (.bool false)], args := [d1, d2, d3] }
  | _ => none }
def StepsChecksWrongFalsely : Prop := stepsChecksRow.holds Try.pinned (OpenSpec.ofChange stepsChecksWrong)

/-- 'marchpastlaw.StepsCan': WHATEVER THE INPUT: true; the input reads as it did. -/
def stepsCanSpec : ChangeSpec := { name := "stepsCan", fn := fun _ => fun
  | [d1, d2] => { results := [.lit (.bool true)], args := [d1, d2] }
  | _ => none }
def stepsCanRow : OpenClaim := { program := "ytjgmbgfcffnanab", sum := "a49cedbd109ca221c072c805119b8055fe43d80db748f24d06401ad25002f9ba", func := "marchpast/marchpastlaw.StepsCan", spec := "stepsCan", unfollowed := true, recurses := true, apart := false }
def StepsCanSaid : Prop := stepsCanRow.holds Try.pinned (OpenSpec.ofChange stepsCanSpec)

/-- ITS FALSE NEIGHBOUR: 'it returns false'. Refute it at one input. -/
def stepsCanWrong : ChangeSpec := { name := "stepsCan", fn := fun _ => fun
  | [d1, d2] => { results := [.lit (.bool false)], args := [d1, d2] }
  | _ => none }
def StepsCanWrongFalsely : Prop := stepsCanRow.holds Try.pinned (OpenSpec.ofChange stepsCanWrong)

/-- 'marchpastlaw.StepsDoes': WHATEVER THE INPUT: true; the input reads as it did. -/
def stepsDoesSpec : ChangeSpec := { name := "stepsDoes", fn := fun _ => fun
  | [d1, d2, d3] => { results := [.lit (.bool true)], args := [d1, d2, d3] }
  | _ => none }
def stepsDoesRow : OpenClaim := { program := "ytjgmbgfcffnanab", sum := "a49cedbd109ca221c072c805119b8055fe43d80db748f24d06401ad25002f9ba", func := "marchpast/marchpastlaw.StepsDoes", spec := "stepsDoes", unfollowed := true, recurses := true, apart := false }
def StepsDoesSaid : Prop := stepsDoesRow.holds Try.pinned (OpenSpec.ofChange stepsDoesSpec)

/-- ITS FALSE NEIGHBOUR: 'it returns false'. Refute it at one input. -/
def stepsDoesWrong : ChangeSpec := { name := "stepsDoes", fn := fun _ => fun
  | [d1, d2, d3] => { results := [.lit (.bool false)], args := [d1, d2, d3] }
  | _ => none }
def StepsDoesWrongFalsely : Prop := stepsDoesRow.holds Try.pinned (OpenSpec.ofChange stepsDoesWrong)

/-- 'marchpastlaw.StepsRight': WHATEVER THE INPUT: true; the input reads as it did. -/
def stepsRightSpec : ChangeSpec := { name := "stepsRight", fn := fun _ => fun
  | [d1, d2, d3] => { results := [.lit (.bool true)], args := [d1, d2, d3] }
  | _ => none }
def stepsRightRow : OpenClaim := { program := "ytjgmbgfcffnanab", sum := "a49cedbd109ca221c072c805119b8055fe43d80db748f24d06401ad25002f9ba", func := "marchpast/marchpastlaw.StepsRight", spec := "stepsRight", unfollowed := true, recurses := true, apart := false }
def StepsRightSaid : Prop := stepsRightRow.holds Try.pinned (OpenSpec.ofChange stepsRightSpec)

/-- ITS FALSE NEIGHBOUR: 'it returns false'. Refute it at one input. -/
def stepsRightWrong : ChangeSpec := { name := "stepsRight", fn := fun _ => fun
  | [d1, d2, d3] => { results := [.lit (.bool false)], args := [d1, d2, d3] }
  | _ => none }
def StepsRightWrongFalsely : Prop := stepsRightRow.holds Try.pinned (OpenSpec.ofChange stepsRightWrong)

/- THE SECOND FORM. 'bulk': how many values and letters a reading holds, each counted each time it is reached (what is shared counts as often as it is met; a slice's spare places count too). A statement '..UptoSaid' is the law's where the arguments, and the package variables that the reading takes, are together of bulk at most 1048576: NARROWER than '..Said'. Prove '..Said' where nothing that the law and all that it calls make is longer than what came in: it says more and counts as full. Else prove '..UptoSaid'. A law counts once. -/
mutual
def uptoBulk {H : Type} : DataW H → Nat
  | .lit (.string bytes) => bytes.length + 1
  | .lit _ => 1
  | .nil => 1
  | .ptr d => uptoBulk d + 1
  | .slice elems spare => uptoBulkAll elems + uptoBulkAll spare + 1
  | .agg parts => uptoBulkAll parts + 1
  | .iface _ d => uptoBulk d + 1
  | .map entries => uptoBulkEntries entries + 1
  | .held _ => 1
def uptoBulkAll {H : Type} : List (DataW H) → Nat
  | [] => 0
  | d :: r => uptoBulk d + uptoBulkAll r
def uptoBulkEntries {H : Type} : List (Lit × DataW H) → Nat
  | [] => 0
  | x :: r => uptoBulkEntry x + uptoBulkEntries r
def uptoBulkEntry {H : Type} : Lit × DataW H → Nat
  | (.string bytes, d) => bytes.length + uptoBulk d + 1
  | (_, d) => uptoBulk d + 1
 end
def uptoSmall : (H : Type) → List (DataW H) → Bool := fun _ ds => decide (uptoBulkAll ds ≤ 1048576)
def OpenSpec.upto (s : _root_.Go.ChangeSpec) : _root_.Go.OpenSpec := { _root_.Go.OpenSpec.ofChange s with cond := some uptoSmall }

/-- 'marchpastlaw.WireWrites', WHERE WHAT IT READS IS OF BULK AT MOST 1048576: true; the input reads as it did. -/
def wireWritesUptoRow : OpenClaim := { program := "ytjgmbgfcffnanab", sum := "a49cedbd109ca221c072c805119b8055fe43d80db748f24d06401ad25002f9ba", func := "marchpast/marchpastlaw.WireWrites", spec := "wireWrites", unfollowed := true, recurses := true, apart := false, narrowed := true }
def WireWritesUptoSaid : Prop := wireWritesUptoRow.holds Try.pinned (OpenSpec.upto wireWritesSpec)

/-- 'marchpastlaw.WireBack', WHERE WHAT IT READS IS OF BULK AT MOST 1048576: true; the input reads as it did. -/
def wireBackUptoRow : OpenClaim := { program := "ytjgmbgfcffnanab", sum := "a49cedbd109ca221c072c805119b8055fe43d80db748f24d06401ad25002f9ba", func := "marchpast/marchpastlaw.WireBack", spec := "wireBack", unfollowed := true, recurses := true, apart := false, narrowed := true }
def WireBackUptoSaid : Prop := wireBackUptoRow.holds Try.pinned (OpenSpec.upto wireBackSpec)

/-- 'marchpastlaw.AuditTells', WHERE WHAT IT READS IS OF BULK AT MOST 1048576: true; the input reads as it did. -/
def auditTellsUptoRow : OpenClaim := { program := "ytjgmbgfcffnanab", sum := "a49cedbd109ca221c072c805119b8055fe43d80db748f24d06401ad25002f9ba", func := "marchpast/marchpastlaw.AuditTells", spec := "auditTells", unfollowed := true, recurses := true, apart := false, narrowed := true }
def AuditTellsUptoSaid : Prop := auditTellsUptoRow.holds Try.pinned (OpenSpec.upto auditTellsSpec)

/-- 'marchpastlaw.AuditFrom', WHERE WHAT IT READS IS OF BULK AT MOST 1048576: true; the input reads as it did. -/
def auditFromUptoRow : OpenClaim := { program := "ytjgmbgfcffnanab", sum := "a49cedbd109ca221c072c805119b8055fe43d80db748f24d06401ad25002f9ba", func := "marchpast/marchpastlaw.AuditFrom", spec := "auditFrom", unfollowed := true, recurses := true, apart := false, narrowed := true }
def AuditFromUptoSaid : Prop := auditFromUptoRow.holds Try.pinned (OpenSpec.upto auditFromSpec)

/-- 'marchpastlaw.PlayTells', WHERE WHAT IT READS IS OF BULK AT MOST 1048576: true; the input reads as it did. -/
def playTellsUptoRow : OpenClaim := { program := "ytjgmbgfcffnanab", sum := "a49cedbd109ca221c072c805119b8055fe43d80db748f24d06401ad25002f9ba", func := "marchpast/marchpastlaw.PlayTells", spec := "playTells", unfollowed := true, recurses := true, apart := false, narrowed := true }
def PlayTellsUptoSaid : Prop := playTellsUptoRow.holds Try.pinned (OpenSpec.upto playTellsSpec)

/-- 'marchpastlaw.PlayResults', WHERE WHAT IT READS IS OF BULK AT MOST 1048576: true; the input reads as it did. -/
def playResultsUptoRow : OpenClaim := { program := "ytjgmbgfcffnanab", sum := "a49cedbd109ca221c072c805119b8055fe43d80db748f24d06401ad25002f9ba", func := "marchpast/marchpastlaw.PlayResults", spec := "playResults", unfollowed := true, recurses := true, apart := false, narrowed := true }
def PlayResultsUptoSaid : Prop := playResultsUptoRow.holds Try.pinned (OpenSpec.upto playResultsSpec)

/-- 'marchpastlaw.PlayShards', WHERE WHAT IT READS IS OF BULK AT MOST 1048576: true; the input reads as it did. -/
def playShardsUptoRow : OpenClaim := { program := "ytjgmbgfcffnanab", sum := "a49cedbd109ca221c072c805119b8055fe43d80db748f24d06401ad25002f9ba", func := "marchpast/marchpastlaw.PlayShards", spec := "playShards", unfollowed := true, recurses := true, apart := false, narrowed := true }
def PlayShardsUptoSaid : Prop := playShardsUptoRow.holds Try.pinned (OpenSpec.upto playShardsSpec)

/-- 'marchpastlaw.StepsChecks', WHERE WHAT IT READS IS OF BULK AT MOST 1048576: true; the input reads as it did. -/
def stepsChecksUptoRow : OpenClaim := { program := "ytjgmbgfcffnanab", sum := "a49cedbd109ca221c072c805119b8055fe43d80db748f24d06401ad25002f9ba", func := "marchpast/marchpastlaw.StepsChecks", spec := "stepsChecks", unfollowed := true, recurses := true, apart := false, narrowed := true }
def StepsChecksUptoSaid : Prop := stepsChecksUptoRow.holds Try.pinned (OpenSpec.upto stepsChecksSpec)

/-- 'marchpastlaw.StepsCan', WHERE WHAT IT READS IS OF BULK AT MOST 1048576: true; the input reads as it did. -/
def stepsCanUptoRow : OpenClaim := { program := "ytjgmbgfcffnanab", sum := "a49cedbd109ca221c072c805119b8055fe43d80db748f24d06401ad25002f9ba", func := "marchpast/marchpastlaw.StepsCan", spec := "stepsCan", unfollowed := true, recurses := true, apart := false, narrowed := true }
def StepsCanUptoSaid : Prop := stepsCanUptoRow.holds Try.pinned (OpenSpec.upto stepsCanSpec)

/-- 'marchpastlaw.StepsDoes', WHERE WHAT IT READS IS OF BULK AT MOST 1048576: true; the input reads as it did. -/
def stepsDoesUptoRow : OpenClaim := { program := "ytjgmbgfcffnanab", sum := "a49cedbd109ca221c072c805119b8055fe43d80db748f24d06401ad25002f9ba", func := "marchpast/marchpastlaw.StepsDoes", spec := "stepsDoes", unfollowed := true, recurses := true, apart := false, narrowed := true }
def StepsDoesUptoSaid : Prop := stepsDoesUptoRow.holds Try.pinned (OpenSpec.upto stepsDoesSpec)

/-- 'marchpastlaw.StepsRight', WHERE WHAT IT READS IS OF BULK AT MOST 1048576: true; the input reads as it did. -/
def stepsRightUptoRow : OpenClaim := { program := "ytjgmbgfcffnanab", sum := "a49cedbd109ca221c072c805119b8055fe43d80db748f24d06401ad25002f9ba", func := "marchpast/marchpastlaw.StepsRight", spec := "stepsRight", unfollowed := true, recurses := true, apart := false, narrowed := true }
def StepsRightUptoSaid : Prop := stepsRightUptoRow.holds Try.pinned (OpenSpec.upto stepsRightSpec)

end Rows
end Go.Proofs.Ytjgmbgfcffnanab
