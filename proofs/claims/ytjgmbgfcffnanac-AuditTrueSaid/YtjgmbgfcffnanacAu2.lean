/- The reference's Audit and Reads. -/
import Derived.Test.YtjgmbgfcffnanacAu
namespace Go.Proofs.Ytjgmbgfcffnanac
open Go.RowKit

/- who has set a number last, of the first m -/
def lastW (l : List Txn) (rs : List Res) (key : Int) : Nat → Int
  | 0 => -1
  | m + 1 => match l[m]?, rs[m]? with
    | some t, some r => if (r.done && writesB t key) = true then (m : Int) else lastW l rs key m
    | _, _ => lastW l rs key m
theorem lastW_next {l : List Txn} {rs : List Res} {key : Int} {m : Nat} {t : Txn} {r : Res} (ht : l[m]? = some t) (hr : rs[m]? = some r) : lastW l rs key (m + 1) = if (r.done && writesB t key) = true then (m : Int) else lastW l rs key m := by
  conv => lhs; unfold lastW
  rw [ht, hr]
def rdsE (s : List Int) (l : List Txn) (n : Int) : Int := if serE s l = 0 then (if n < 0 ∨ (l.length : Int) ≤ n then 5 else 0) else serE s l
def rdsL (s : List Int) (l : List Txn) (n : Int) : List Int := if rdsE s l n = 0 then (match l[n.toNat]? with
  | some t => t.reads.map fun key => lastW l (serR s l) key n.toNat
  | none => []) else []
end Go.Proofs.Ytjgmbgfcffnanac
