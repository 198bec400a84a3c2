/- More plain facts on memory and lists, over any program. No condition. -/
import Derived.Test.YtjgmbgfcffnanacVals2
import Derived.Maps.AppendAt
namespace Go.Proofs.Ytjgmbgfcffnanac
open Go.RowKit

theorem take_push {α : Type} {l : List α} {k : Nat} {x : α} (h : l[k]? = some x) : l.take (k + 1) = l.take k ++ [x] := by
  have hk : k < l.length := (List.getElem?_eq_some_iff.1 h).1
  rw [List.take_succ_eq_append_getElem hk]
  rw [List.getElem?_eq_getElem hk] at h
  injection h with h
  rw [h]
theorem get_of_lt {α : Type} {l : List α} {k n : Nat} (hn : l.length = n) (h : k < n) : ∃ x, Hid (l[k]? = some x) := ⟨l[k]'(by omega), List.getElem?_eq_getElem (by omega)⟩

end Go.Proofs.Ytjgmbgfcffnanac
