/-
  DERIVED. GIVEN WITH THE SEED: THE CARDS: each row of YtjgmbgfcffnanabGreatDoorRows.lean that lists a variable, with what it lists TIED to the program's text (the seventh form; the later family's looks); each row that meets fmt, with fmt's text TOLD by the authors' own Lean function (tested against real Go, not proved from fmt's source: count such statements apart). THE CARD IS WHAT COUNTS. Prove the row's statement (the work); the ties are given (YtjgmbgfcffnanabGreatDoorTie.lean); close each card by the builder's one call (the guide's Derived/Test/ToyasCard.lean, 'card_holds'). Laid BY PROGRAM, IN A SANDBOX (cutbox-door.mjs). By AI agents, Wed Nov 11 2026. No macro, syntax, notation, axiom, sorry.
-/
import Derived.Test.YtjgmbgfcffnanabGreatDoorRows
import GoSem.ClaimSeven
namespace Go.Proofs.YtjgmbgfcffnanabGreatDoor
namespace Rows

/-- THE TIED CARD OF 'marchpastlaw.DeskSound'. -/
def deskSoundCard : Claim7 := { stood := { row := deskSoundRow, standIns := [], harness := (true, "9bef7f65c0d1f23391508e94a312043f6004159d763ff87683acf393d6e38ce0"), looks := true }, kinds := [], alts := [], laidByText := true, laidKinds := [.data, .data, .data, .data, .sentinel, .sentinel, .pinned], laidTests := true, laidLooks := .later }
def DeskSoundCardSaid : Prop := Claim7.holds Tryz.pinned (.plain (OpenSpec.ofChange deskSoundSpec)) deskSoundCard

/-- THE SECOND FORM's CARD OF 'marchpastlaw.DeskSound'. -/
def deskSoundUptoCard : Claim7 := { stood := { row := deskSoundUptoRow, standIns := [], harness := (true, "9bef7f65c0d1f23391508e94a312043f6004159d763ff87683acf393d6e38ce0"), looks := true }, kinds := [], alts := [], laidByText := true, laidKinds := [.data, .data, .data, .data, .sentinel, .sentinel, .pinned], laidTests := true, laidLooks := .later }
def DeskSoundUptoCardSaid : Prop := Claim7.holds Tryz.pinned (.plain (OpenSpec.upto deskSoundSpec)) deskSoundUptoCard
end Rows
end Go.Proofs.YtjgmbgfcffnanabGreatDoor
