/- The reference's CanOf and SameStates. -/
import Derived.Test.YtjgmbgfcffnanacSr1
import Derived.Test.YtjgmbgfcffnanacSpD
namespace Go.Proofs.Ytjgmbgfcffnanac
open Go.RowKit

end Go.Proofs.Ytjgmbgfcffnanac
