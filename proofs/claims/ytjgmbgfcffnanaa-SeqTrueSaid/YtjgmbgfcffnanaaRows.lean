/-
  No cell of these rows narrows 'for every input' (looked for: loops, veiled, ifaces, maps, wideKeys, modest, calm, conditions, laid).
  DERIVED. THE GIVEN ROWS OF THIS SEAT. 11 by the template 'for every input the law returns true; each argument reads behind the call as it read before'; 0 by the template 'total and deterministic' (their statements: YtjgmbgfcffnanaaTotals.lean).
  GIVEN WITH THE SEED: the statements are not yours to turn. If you find one false, say at which input.
  Laid BY PROGRAM, IN A SANDBOX (cutbox-rows.mjs): the forced cells as the released guide's own fill.sh prints them over the translation 4acc4ff0e8043082… (all of the seat's roots in one cut). By AI agents, Wed Nov 11 2026. No macro, syntax, notation, axiom, sorry.
-/
import Derived.Test.YtjgmbgfcffnanaaChecked
import GoSem.Claim
import GoSem.ClaimJoined
import GoSem.ClaimMapViews
import Derived.JoinedTies
import Derived.KernelRfl
namespace Go.Proofs.Ytjgmbgfcffnanaa
/- THE CELL 'sum', in the pinned program and in every row, IS THE sha256 OF THE DUMP (.gsa) THAT YtjgmbgfcffnanaaProg.lean LOADS. Nothing in Lean hashes anything: it is a label: what it is worth is what the hold of that sum in a sandbox is worth. -/
noncomputable def Try.pinned : Pinned := { name := "ytjgmbgfcffnanaa", sum := "4acc4ff0e80430825808540b1cfb27388386cae3b9e1adf7cd0684f0a8098265", checked := Try.checked }
namespace Rows
def none {H : Type} : Left H := { results := [], args := [] }

/-- 'marchpastlaw.ValsTells': WHATEVER THE INPUT: true; the input reads as it did. -/
def valsTellsSpec : ChangeSpec := { name := "valsTells", fn := fun _ => fun
  | [d1, d2, d3] => { results := [.lit (.bool true)], args := [d1, d2, d3] }
  | _ => none }
def valsTellsRow : OpenClaim := { program := "ytjgmbgfcffnanaa", sum := "4acc4ff0e80430825808540b1cfb27388386cae3b9e1adf7cd0684f0a8098265", func := "marchpast/marchpastlaw.ValsTells", spec := "valsTells", unfollowed := true, recurses := true, apart := false }
def ValsTellsSaid : Prop := valsTellsRow.holds Try.pinned (OpenSpec.ofChange valsTellsSpec)

/-- ITS FALSE NEIGHBOUR: 'it returns false'. Refute it at one input. -/
def valsTellsWrong : ChangeSpec := { name := "valsTells", fn := fun _ => fun
  | [d1, d2, d3] => { results := [.lit (.bool false)], args := [d1, d2, d3] }
  | _ => none }
def ValsTellsWrongFalsely : Prop := valsTellsRow.holds Try.pinned (OpenSpec.ofChange valsTellsWrong)

/-- 'marchpastlaw.ValsReckons': WHATEVER THE INPUT: true; the input reads as it did. -/
def valsReckonsSpec : ChangeSpec := { name := "valsReckons", fn := fun _ => fun
  | [d1, d2, d3, d4] => { results := [.lit (.bool true)], args := [d1, d2, d3, d4] }
  | _ => none }
def valsReckonsRow : OpenClaim := { program := "ytjgmbgfcffnanaa", sum := "4acc4ff0e80430825808540b1cfb27388386cae3b9e1adf7cd0684f0a8098265", func := "marchpast/marchpastlaw.ValsReckons", spec := "valsReckons", unfollowed := true, recurses := true, apart := false }
def ValsReckonsSaid : Prop := valsReckonsRow.holds Try.pinned (OpenSpec.ofChange valsReckonsSpec)

/-- ITS FALSE NEIGHBOUR: 'it returns false'. Refute it at one input. -/
def valsReckonsWrong : ChangeSpec := { name := "valsReckons", fn := fun _ => fun
  | [d1, d2, d3, d4] => { results := [.lit (.bool false)], args := [d1, d2, d3, d4] }
  | _ => none }
def ValsReckonsWrongFalsely : Prop := valsReckonsRow.holds Try.pinned (OpenSpec.ofChange valsReckonsWrong)

/-- 'marchpastlaw.ValsTrue': WHATEVER THE INPUT: true; the input reads as it did. -/
def valsTrueSpec : ChangeSpec := { name := "valsTrue", fn := fun _ => fun
  | [d1, d2] => { results := [.lit (.bool true)], args := [d1, d2] }
  | _ => none }
def valsTrueRow : OpenClaim := { program := "ytjgmbgfcffnanaa", sum := "4acc4ff0e80430825808540b1cfb27388386cae3b9e1adf7cd0684f0a8098265", func := "marchpast/marchpastlaw.ValsTrue", spec := "valsTrue", unfollowed := true, recurses := true, apart := false }
def ValsTrueSaid : Prop := valsTrueRow.holds Try.pinned (OpenSpec.ofChange valsTrueSpec)

/-- ITS FALSE NEIGHBOUR: 'it returns false'. Refute it at one input. -/
def valsTrueWrong : ChangeSpec := { name := "valsTrue", fn := fun _ => fun
  | [d1, d2] => { results := [.lit (.bool false)], args := [d1, d2] }
  | _ => none }
def ValsTrueWrongFalsely : Prop := valsTrueRow.holds Try.pinned (OpenSpec.ofChange valsTrueWrong)

/-- 'marchpastlaw.SeqMerges': WHATEVER THE INPUT: true; the input reads as it did. -/
def seqMergesSpec : ChangeSpec := { name := "seqMerges", fn := fun _ => fun
  | [d1, d2] => { results := [.lit (.bool true)], args := [d1, d2] }
  | _ => none }
def seqMergesRow : OpenClaim := { program := "ytjgmbgfcffnanaa", sum := "4acc4ff0e80430825808540b1cfb27388386cae3b9e1adf7cd0684f0a8098265", func := "marchpast/marchpastlaw.SeqMerges", spec := "seqMerges", unfollowed := true, recurses := true, apart := false }
def SeqMergesSaid : Prop := seqMergesRow.holds Try.pinned (OpenSpec.ofChange seqMergesSpec)

/-- ITS FALSE NEIGHBOUR: 'it returns false'. Refute it at one input. -/
def seqMergesWrong : ChangeSpec := { name := "seqMerges", fn := fun _ => fun
  | [d1, d2] => { results := [.lit (.bool false)], args := [d1, d2] }
  | _ => none }
def SeqMergesWrongFalsely : Prop := seqMergesRow.holds Try.pinned (OpenSpec.ofChange seqMergesWrong)

/-- 'marchpastlaw.SeqTrue': WHATEVER THE INPUT: true; the input reads as it did. -/
def seqTrueSpec : ChangeSpec := { name := "seqTrue", fn := fun _ => fun
  | [d1, d2, d3] => { results := [.lit (.bool true)], args := [d1, d2, d3] }
  | _ => none }
def seqTrueRow : OpenClaim := { program := "ytjgmbgfcffnanaa", sum := "4acc4ff0e80430825808540b1cfb27388386cae3b9e1adf7cd0684f0a8098265", func := "marchpast/marchpastlaw.SeqTrue", spec := "seqTrue", unfollowed := true, recurses := true, apart := false }
def SeqTrueSaid : Prop := seqTrueRow.holds Try.pinned (OpenSpec.ofChange seqTrueSpec)

/-- ITS FALSE NEIGHBOUR: 'it returns false'. Refute it at one input. -/
def seqTrueWrong : ChangeSpec := { name := "seqTrue", fn := fun _ => fun
  | [d1, d2, d3] => { results := [.lit (.bool false)], args := [d1, d2, d3] }
  | _ => none }
def SeqTrueWrongFalsely : Prop := seqTrueRow.holds Try.pinned (OpenSpec.ofChange seqTrueWrong)

/-- 'marchpastlaw.PlaceTells': WHATEVER THE INPUT: true; the input reads as it did. -/
def placeTellsSpec : ChangeSpec := { name := "placeTells", fn := fun _ => fun
  | [d1, d2, d3] => { results := [.lit (.bool true)], args := [d1, d2, d3] }
  | _ => none }
def placeTellsRow : OpenClaim := { program := "ytjgmbgfcffnanaa", sum := "4acc4ff0e80430825808540b1cfb27388386cae3b9e1adf7cd0684f0a8098265", func := "marchpast/marchpastlaw.PlaceTells", spec := "placeTells", unfollowed := true, recurses := true, apart := false }
def PlaceTellsSaid : Prop := placeTellsRow.holds Try.pinned (OpenSpec.ofChange placeTellsSpec)

/-- ITS FALSE NEIGHBOUR: 'it returns false'. Refute it at one input. -/
def placeTellsWrong : ChangeSpec := { name := "placeTells", fn := fun _ => fun
  | [d1, d2, d3] => { results := [.lit (.bool false)], args := [d1, d2, d3] }
  | _ => none }
def PlaceTellsWrongFalsely : Prop := placeTellsRow.holds Try.pinned (OpenSpec.ofChange placeTellsWrong)

/-- 'marchpastlaw.GraphTrue': WHATEVER THE INPUT: true; the input reads as it did. -/
def graphTrueSpec : ChangeSpec := { name := "graphTrue", fn := fun _ => fun
  | [d1, d2, d3] => { results := [.lit (.bool true)], args := [d1, d2, d3] }
  | _ => none }
def graphTrueRow : OpenClaim := { program := "ytjgmbgfcffnanaa", sum := "4acc4ff0e80430825808540b1cfb27388386cae3b9e1adf7cd0684f0a8098265", func := "marchpast/marchpastlaw.GraphTrue", spec := "graphTrue", unfollowed := true, recurses := true, apart := false }
def GraphTrueSaid : Prop := graphTrueRow.holds Try.pinned (OpenSpec.ofChange graphTrueSpec)

/-- ITS FALSE NEIGHBOUR: 'it returns false'. Refute it at one input. -/
def graphTrueWrong : ChangeSpec := { name := "graphTrue", fn := fun _ => fun
  | [d1, d2, d3] => { results := [.lit (.bool false)], args := [d1, d2, d3] }
  | _ => none }
def GraphTrueWrongFalsely : Prop := graphTrueRow.holds Try.pinned (OpenSpec.ofChange graphTrueWrong)

/-- 'marchpastlaw.StoreApplies': WHATEVER THE INPUT: true; the input reads as it did. -/
def storeAppliesSpec : ChangeSpec := { name := "storeApplies", fn := fun _ => fun
  | [d1, d2] => { results := [.lit (.bool true)], args := [d1, d2] }
  | _ => none }
def storeAppliesRow : OpenClaim := { program := "ytjgmbgfcffnanaa", sum := "4acc4ff0e80430825808540b1cfb27388386cae3b9e1adf7cd0684f0a8098265", func := "marchpast/marchpastlaw.StoreApplies", spec := "storeApplies", unfollowed := true, recurses := true, apart := false }
def StoreAppliesSaid : Prop := storeAppliesRow.holds Try.pinned (OpenSpec.ofChange storeAppliesSpec)

/-- ITS FALSE NEIGHBOUR: 'it returns false'. Refute it at one input. -/
def storeAppliesWrong : ChangeSpec := { name := "storeApplies", fn := fun _ => fun
  | [d1, d2] => { results := [.lit (.bool false)], args := [d1, d2] }
  | _ => none }
def StoreAppliesWrongFalsely : Prop := storeAppliesRow.holds Try.pinned (OpenSpec.ofChange storeAppliesWrong)

/-- 'marchpastlaw.StoreSerials': WHATEVER THE INPUT: true; the input reads as it did. -/
def storeSerialsSpec : ChangeSpec := { name := "storeSerials", fn := fun _ => fun
  | [d1, d2] => { results := [.lit (.bool true)], args := [d1, d2] }
  | _ => none }
def storeSerialsRow : OpenClaim := { program := "ytjgmbgfcffnanaa", sum := "4acc4ff0e80430825808540b1cfb27388386cae3b9e1adf7cd0684f0a8098265", func := "marchpast/marchpastlaw.StoreSerials", spec := "storeSerials", unfollowed := true, recurses := true, apart := false }
def StoreSerialsSaid : Prop := storeSerialsRow.holds Try.pinned (OpenSpec.ofChange storeSerialsSpec)

/-- ITS FALSE NEIGHBOUR: 'it returns false'. Refute it at one input. -/
def storeSerialsWrong : ChangeSpec := { name := "storeSerials", fn := fun _ => fun
  | [d1, d2] => { results := [.lit (.bool false)], args := [d1, d2] }
  | _ => none }
def StoreSerialsWrongFalsely : Prop := storeSerialsRow.holds Try.pinned (OpenSpec.ofChange storeSerialsWrong)

/-- 'marchpastlaw.StoreTrue': WHATEVER THE INPUT: true; the input reads as it did. -/
def storeTrueSpec : ChangeSpec := { name := "storeTrue", fn := fun _ => fun
  | [d1, d2, d3, d4] => { results := [.lit (.bool true)], args := [d1, d2, d3, d4] }
  | _ => none }
def storeTrueRow : OpenClaim := { program := "ytjgmbgfcffnanaa", sum := "4acc4ff0e80430825808540b1cfb27388386cae3b9e1adf7cd0684f0a8098265", func := "marchpast/marchpastlaw.StoreTrue", spec := "storeTrue", unfollowed := true, recurses := true, apart := false }
def StoreTrueSaid : Prop := storeTrueRow.holds Try.pinned (OpenSpec.ofChange storeTrueSpec)

/-- ITS FALSE NEIGHBOUR: 'it returns false'. Refute it at one input. -/
def storeTrueWrong : ChangeSpec := { name := "storeTrue", fn := fun _ => fun
  | [d1, d2, d3, d4] => { results := [.lit (.bool false)], args := [d1, d2, d3, d4] }
  | _ => none }
def StoreTrueWrongFalsely : Prop := storeTrueRow.holds Try.pinned (OpenSpec.ofChange storeTrueWrong)

/-- 'marchpastlaw.StoreIdle': WHATEVER THE INPUT: true; the input reads as it did. -/
def storeIdleSpec : ChangeSpec := { name := "storeIdle", fn := fun _ => fun
  | [d1, d2, d3] => { results := [.lit (.bool true)], args := [d1, d2, d3] }
  | _ => none }
def storeIdleRow : OpenClaim := { program := "ytjgmbgfcffnanaa", sum := "4acc4ff0e80430825808540b1cfb27388386cae3b9e1adf7cd0684f0a8098265", func := "marchpast/marchpastlaw.StoreIdle", spec := "storeIdle", unfollowed := true, recurses := true, apart := false }
def StoreIdleSaid : Prop := storeIdleRow.holds Try.pinned (OpenSpec.ofChange storeIdleSpec)

/-- ITS FALSE NEIGHBOUR: 'it returns false'. Refute it at one input. -/
def storeIdleWrong : ChangeSpec := { name := "storeIdle", fn := fun _ => fun
  | [d1, d2, d3] => { results := [.lit (.bool false)], args := [d1, d2, d3] }
  | _ => none }
def StoreIdleWrongFalsely : Prop := storeIdleRow.holds Try.pinned (OpenSpec.ofChange storeIdleWrong)

/- THE SECOND FORM. 'bulk': how many values and letters a reading holds, each counted each time it is reached (what is shared counts as often as it is met; a slice's spare places count too). A statement '..UptoSaid' is the law's where the arguments, and the package variables that the reading takes, are together of bulk at most 1048576: NARROWER than '..Said'. Prove '..Said' where nothing that the law and all that it calls make is longer than what came in: it says more and counts as full. Else prove '..UptoSaid'. A law counts once. -/
mutual
def uptoBulk {H : Type} : DataW H → Nat
  | .lit (.string bytes) => bytes.length + 1
  | .lit _ => 1
  | .nil => 1
  | .ptr d => uptoBulk d + 1
  | .slice elems spare => uptoBulkAll elems + uptoBulkAll spare + 1
  | .agg parts => uptoBulkAll parts + 1
  | .iface _ d => uptoBulk d + 1
  | .map entries => uptoBulkEntries entries + 1
  | .held _ => 1
def uptoBulkAll {H : Type} : List (DataW H) → Nat
  | [] => 0
  | d :: r => uptoBulk d + uptoBulkAll r
def uptoBulkEntries {H : Type} : List (Lit × DataW H) → Nat
  | [] => 0
  | x :: r => uptoBulkEntry x + uptoBulkEntries r
def uptoBulkEntry {H : Type} : Lit × DataW H → Nat
  | (.string bytes, d) => bytes.length + uptoBulk d + 1
  | (_, d) => uptoBulk d + 1
 end
def uptoSmall : (H : Type) → List (DataW H) → Bool := fun _ ds => decide (uptoBulkAll ds ≤ 1048576)
def OpenSpec.upto (s : _root_.Go.ChangeSpec) : _root_.Go.OpenSpec := { _root_.Go.OpenSpec.ofChange s with cond := some uptoSmall }

/-- 'marchpastlaw.ValsTells', WHERE WHAT IT READS IS OF BULK AT MOST 1048576: true; the input reads as it did. -/
def valsTellsUptoRow : OpenClaim := { program := "ytjgmbgfcffnanaa", sum := "4acc4ff0e80430825808540b1cfb27388386cae3b9e1adf7cd0684f0a8098265", func := "marchpast/marchpastlaw.ValsTells", spec := "valsTells", unfollowed := true, recurses := true, apart := false, narrowed := true }
def ValsTellsUptoSaid : Prop := valsTellsUptoRow.holds Try.pinned (OpenSpec.upto valsTellsSpec)

/-- 'marchpastlaw.ValsReckons', WHERE WHAT IT READS IS OF BULK AT MOST 1048576: true; the input reads as it did. -/
def valsReckonsUptoRow : OpenClaim := { program := "ytjgmbgfcffnanaa", sum := "4acc4ff0e80430825808540b1cfb27388386cae3b9e1adf7cd0684f0a8098265", func := "marchpast/marchpastlaw.ValsReckons", spec := "valsReckons", unfollowed := true, recurses := true, apart := false, narrowed := true }
def ValsReckonsUptoSaid : Prop := valsReckonsUptoRow.holds Try.pinned (OpenSpec.upto valsReckonsSpec)

/-- 'marchpastlaw.ValsTrue', WHERE WHAT IT READS IS OF BULK AT MOST 1048576: true; the input reads as it did. -/
def valsTrueUptoRow : OpenClaim := { program := "ytjgmbgfcffnanaa", sum := "4acc4ff0e80430825808540b1cfb27388386cae3b9e1adf7cd0684f0a8098265", func := "marchpast/marchpastlaw.ValsTrue", spec := "valsTrue", unfollowed := true, recurses := true, apart := false, narrowed := true }
def ValsTrueUptoSaid : Prop := valsTrueUptoRow.holds Try.pinned (OpenSpec.upto valsTrueSpec)

/-- 'marchpastlaw.SeqMerges', WHERE WHAT IT READS IS OF BULK AT MOST 1048576: true; the input reads as it did. -/
def seqMergesUptoRow : OpenClaim := { program := "ytjgmbgfcffnanaa", sum := "4acc4ff0e80430825808540b1cfb27388386cae3b9e1adf7cd0684f0a8098265", func := "marchpast/marchpastlaw.SeqMerges", spec := "seqMerges", unfollowed := true, recurses := true, apart := false, narrowed := true }
def SeqMergesUptoSaid : Prop := seqMergesUptoRow.holds Try.pinned (OpenSpec.upto seqMergesSpec)

/-- 'marchpastlaw.SeqTrue', WHERE WHAT IT READS IS OF BULK AT MOST 1048576: true; the input reads as it did. -/
def seqTrueUptoRow : OpenClaim := { program := "ytjgmbgfcffnanaa", sum := "4acc4ff0e80430825808540b1cfb27388386cae3b9e1adf7cd0684f0a8098265", func := "marchpast/marchpastlaw.SeqTrue", spec := "seqTrue", unfollowed := true, recurses := true, apart := false, narrowed := true }
def SeqTrueUptoSaid : Prop := seqTrueUptoRow.holds Try.pinned (OpenSpec.upto seqTrueSpec)

/-- 'marchpastlaw.PlaceTells', WHERE WHAT IT READS IS OF BULK AT MOST 1048576: true; the input reads as it did. -/
def placeTellsUptoRow : OpenClaim := { program := "ytjgmbgfcffnanaa", sum := "4acc4ff0e80430825808540b1cfb27388386cae3b9e1adf7cd0684f0a8098265", func := "marchpast/marchpastlaw.PlaceTells", spec := "placeTells", unfollowed := true, recurses := true, apart := false, narrowed := true }
def PlaceTellsUptoSaid : Prop := placeTellsUptoRow.holds Try.pinned (OpenSpec.upto placeTellsSpec)

/-- 'marchpastlaw.GraphTrue', WHERE WHAT IT READS IS OF BULK AT MOST 1048576: true; the input reads as it did. -/
def graphTrueUptoRow : OpenClaim := { program := "ytjgmbgfcffnanaa", sum := "4acc4ff0e80430825808540b1cfb27388386cae3b9e1adf7cd0684f0a8098265", func := "marchpast/marchpastlaw.GraphTrue", spec := "graphTrue", unfollowed := true, recurses := true, apart := false, narrowed := true }
def GraphTrueUptoSaid : Prop := graphTrueUptoRow.holds Try.pinned (OpenSpec.upto graphTrueSpec)

/-- 'marchpastlaw.StoreApplies', WHERE WHAT IT READS IS OF BULK AT MOST 1048576: true; the input reads as it did. -/
def storeAppliesUptoRow : OpenClaim := { program := "ytjgmbgfcffnanaa", sum := "4acc4ff0e80430825808540b1cfb27388386cae3b9e1adf7cd0684f0a8098265", func := "marchpast/marchpastlaw.StoreApplies", spec := "storeApplies", unfollowed := true, recurses := true, apart := false, narrowed := true }
def StoreAppliesUptoSaid : Prop := storeAppliesUptoRow.holds Try.pinned (OpenSpec.upto storeAppliesSpec)

/-- 'marchpastlaw.StoreSerials', WHERE WHAT IT READS IS OF BULK AT MOST 1048576: true; the input reads as it did. -/
def storeSerialsUptoRow : OpenClaim := { program := "ytjgmbgfcffnanaa", sum := "4acc4ff0e80430825808540b1cfb27388386cae3b9e1adf7cd0684f0a8098265", func := "marchpast/marchpastlaw.StoreSerials", spec := "storeSerials", unfollowed := true, recurses := true, apart := false, narrowed := true }
def StoreSerialsUptoSaid : Prop := storeSerialsUptoRow.holds Try.pinned (OpenSpec.upto storeSerialsSpec)

/-- 'marchpastlaw.StoreTrue', WHERE WHAT IT READS IS OF BULK AT MOST 1048576: true; the input reads as it did. -/
def storeTrueUptoRow : OpenClaim := { program := "ytjgmbgfcffnanaa", sum := "4acc4ff0e80430825808540b1cfb27388386cae3b9e1adf7cd0684f0a8098265", func := "marchpast/marchpastlaw.StoreTrue", spec := "storeTrue", unfollowed := true, recurses := true, apart := false, narrowed := true }
def StoreTrueUptoSaid : Prop := storeTrueUptoRow.holds Try.pinned (OpenSpec.upto storeTrueSpec)

/-- 'marchpastlaw.StoreIdle', WHERE WHAT IT READS IS OF BULK AT MOST 1048576: true; the input reads as it did. -/
def storeIdleUptoRow : OpenClaim := { program := "ytjgmbgfcffnanaa", sum := "4acc4ff0e80430825808540b1cfb27388386cae3b9e1adf7cd0684f0a8098265", func := "marchpast/marchpastlaw.StoreIdle", spec := "storeIdle", unfollowed := true, recurses := true, apart := false, narrowed := true }
def StoreIdleUptoSaid : Prop := storeIdleUptoRow.holds Try.pinned (OpenSpec.upto storeIdleSpec)

end Rows
end Go.Proofs.Ytjgmbgfcffnanaa
