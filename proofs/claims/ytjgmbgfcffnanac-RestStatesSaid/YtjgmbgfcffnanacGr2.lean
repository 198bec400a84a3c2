/- Package graph: Swap; slices.Concat at transactions. -/
import Derived.Test.YtjgmbgfcffnanacGr
import Derived.Test.YtjgmbgfcffnanacLB
namespace Go.Proofs.Ytjgmbgfcffnanac
open Go.RowKit

theorem txnInfo : (Try.prog.info? 72).map (fun i => (i.zero, i.size, i.bytes)) = some (some (.agg #[.slice none 0 0, .slice none 0 0, .slice none 0 0]), 3, 72) := by kernel_rfl
def encT0 (_ : Txn) : List Value := [.slice none 0 0, .slice none 0 0, .slice none 0 0]

def cTs (l : List Txn) : List IV := [txsV l]
theorem flat_take {α : Type} {ls : List (List α)} {k : Nat} {l : List α} (h : ls[k]? = some l) : (ls.take (k + 1)).flatten = (ls.take k).flatten ++ l := by
  rw [List.take_add_one, h]; simp
theorem view_eq {α β : Type} {k : Nat} {enc : α → List IV} {enc' : β → List IV} {xs : List α} {ys : List β} (h : xs.map enc = ys.map enc') : IV.view k enc xs = IV.view k enc' ys := by
  have h1 := ILe.view (k := k) h
  have h2 := ILe.view (k := k) h.symm
  have : (IV.view k enc xs).p = (IV.view k enc' ys).p := funext fun μ => funext fun v => propext ⟨h1 μ v, h2 μ v⟩
  cases e1 : IV.view k enc xs with
  | mk p m =>
    cases e2 : IV.view k enc' ys with
    | mk q m' => rw [e1, e2] at this; simp only at this; subst this; rfl
theorem flat_take_le {α : Type} (ls : List (List α)) (k : Nat) : (ls.take k).flatten.length ≤ ls.flatten.length := by
  have : ls.flatten = (ls.take k).flatten ++ (ls.drop k).flatten := by rw [← List.flatten_append, List.take_append_drop]
  rw [this, List.length_append]; omega

def swapE (l : List Txn) (n : Int) : Int := if checkTxns l = 0 then (if n < 0 ∨ l.length ≤ n + 1 then 5 else if clashB (nthT l n) (nthT l (n + 1)) then 1 else 0) else checkTxns l
def swapL (l : List Txn) (n : Int) : List Txn := if swapE l n = 0 then l.take n.toNat ++ [nthT l (n + 1), nthT l n] ++ l.drop (n.toNat + 2) else []
theorem nthT_at {l : List Txn} {n : Int} (h0 : 0 ≤ n) (h1 : n < l.length) : l[n.toNat]? = some (nthT l n) := by
  unfold nthT
  rw [List.getD_eq_getElem?_getD, List.getElem?_eq_getElem (by omega)]; rfl

end Go.Proofs.Ytjgmbgfcffnanac
