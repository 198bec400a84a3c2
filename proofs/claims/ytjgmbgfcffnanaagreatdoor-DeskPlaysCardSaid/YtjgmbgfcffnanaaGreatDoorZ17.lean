/- A slice literal whose cells hold slots, as what is owned. No program. -/
import Derived.Test.YtjgmbgfcffnanaaGreatDoorZ16
namespace Go.Proofs.YtjgmbgfcffnanaaGreatDoor
open Go.RowKit
end Go.Proofs.YtjgmbgfcffnanaaGreatDoor
