/- txn.Check answers what the document says. -/
import Derived.Test.YtjgmbgfcffnanacTxn6
namespace Go.Proofs.Ytjgmbgfcffnanac
open Go.RowKit

theorem txn_Check (ra ga sa : Option Addr) (nr rc ng gc ns sc : Nat) (t : Txn) (w : World) (h : TxnAt w ra nr ga ng sa ns t) :
    Calls Try.prog 41 #[.agg #[.slice ra nr rc, .slice ga ng gc, .slice sa ns sc]] w fun e w' => e = .returned (.int .i64 (checkTxn t)) ∧ Below w.heap.size w w' := by
  have l1 := h.1.1
  have l2 := h.2.1.1
  have l3 := h.2.2.1.1
  by_cases hs : sizesOk t
  · obtain ⟨s1, s2, s3, s4⟩ := hs
    have hs : sizesOk t := ⟨s1, s2, s3, s4⟩
    cases hk : (t.reads ++ keysOf t).all isKeyB with
    | false => rw [checkTxn_keys hs hk]; exact txn_Check_keys ra ga sa nr rc ng gc ns sc t w h (by omega) (by omega) (by omega) (by omega) hk
    | true =>
      cases hr : (rising t.reads && rising (keysOf t)) with
      | false => rw [checkTxn_rising hs hk hr]; exact txn_Check_rising ra ga sa nr rc ng gc ns sc t w h (by omega) (by omega) (by omega) (by omega) hk hr
      | true => exact txn_Check_parts ra ga sa nr rc ng gc ns sc t w h (by omega) (by omega) (by omega) (by omega) hk hr _ (by show checkTxn t = _; rw [checkTxn_parts hs hk hr, partErrs, l1])
  · rw [checkTxn_sizes hs]
    exact txn_Check_sizes ra ga sa nr rc ng gc ns sc t w h (fun hh => hs ⟨by omega, by omega, by omega, by omega⟩)

end Go.Proofs.Ytjgmbgfcffnanac
