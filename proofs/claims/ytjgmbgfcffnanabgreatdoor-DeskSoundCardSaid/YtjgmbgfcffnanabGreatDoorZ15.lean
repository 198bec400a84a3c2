/- Our texts, merged: Pk. -/
import Derived.Test.YtjgmbgfcffnanabGreatDoorZ14
namespace Go.Proofs.YtjgmbgfcffnanabGreatDoor
open Go.RowKit
end Go.Proofs.YtjgmbgfcffnanabGreatDoor
