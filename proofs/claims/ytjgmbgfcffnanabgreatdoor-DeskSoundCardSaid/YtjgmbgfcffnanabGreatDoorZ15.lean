/- A slice literal whose cells hold slots, as what is owned. No program. -/
import Derived.Test.YtjgmbgfcffnanabGreatDoorZ14
namespace Go.Proofs.YtjgmbgfcffnanabGreatDoor
open Go.RowKit
end Go.Proofs.YtjgmbgfcffnanabGreatDoor
