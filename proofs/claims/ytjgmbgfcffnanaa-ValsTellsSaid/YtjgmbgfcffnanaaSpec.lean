/- The plain law's side: what the document defines, as Lean functions on lists and numbers. No program. No condition. -/
import Derived.Test.YtjgmbgfcffnanaaMem
namespace Go.Proofs.Ytjgmbgfcffnanaa
open Go.RowKit

structure Operand where
  kind : Int
  n : Int
deriving DecidableEq
structure Guard where
  kind : Int
  a : Operand
  b : Operand
deriving DecidableEq
structure SetT where
  key : Int
  op : Int
  a : Operand
  b : Operand
deriving DecidableEq
structure Txn where
  reads : List Int
  guards : List Guard
  sets : List SetT
deriving DecidableEq
structure Res where
  done : Bool
  vals : List Int
deriving DecidableEq

def encI (x : Int) : List Value := [.int .i64 x]

/- chapter 1 -/
def checkOp (k n r : Int) : Int :=
  if r < 0 ∨ 4 < r then 3 else if k = 1 then 0 else if k = 2 then (if n < 0 ∨ r ≤ n then 3 else 0) else 4
def valueOf (k n : Int) (xs : List Int) : Int := if k = 1 then n else xs.getD n.toNat 0
def valueN (k n : Int) (xs : List Int) : Int := if checkOp k n xs.length = 0 then valueOf k n xs else 0
def reckonN (op a b : Int) : Int :=
  if op = 1 then a else if op = 2 then wrap64 (a + b) else if op = 3 then wrap64 (a - b) else if op = 4 then wrap64 (a * b) else if op = 5 then min a b else if op = 6 then max a b else 0
def reckonE (op : Int) : Int := if 1 ≤ op ∧ op ≤ 6 then 0 else 4
def holdsB (k a b : Int) : Bool :=
  if k = 1 then a == b else if k = 2 then a != b else if k = 3 then decide (a < b) else if k = 4 then decide (a ≤ b) else false
def holdsE (k : Int) : Int := if 1 ≤ k ∧ k ≤ 4 then 0 else 4

theorem checkOp_cases (k n r : Int) : checkOp k n r = 0 ∨ checkOp k n r = 3 ∨ checkOp k n r = 4 := by
  unfold checkOp
  by_cases h1 : r < 0 ∨ 4 < r
  · rw [if_pos h1]; exact .inr (.inl rfl)
  · rw [if_neg h1]
    by_cases h2 : k = 1
    · rw [if_pos h2]; exact .inl rfl
    · rw [if_neg h2]
      by_cases h3 : k = 2
      · rw [if_pos h3]
        by_cases h4 : n < 0 ∨ r ≤ n
        · rw [if_pos h4]; exact .inr (.inl rfl)
        · rw [if_neg h4]; exact .inl rfl
      · rw [if_neg h3]; exact .inr (.inr rfl)
theorem checkOp_zero {k n r : Int} (h : checkOp k n r = 0) : 0 ≤ r ∧ r ≤ 4 ∧ (k = 1 ∨ k = 2 ∧ 0 ≤ n ∧ n < r) := by
  unfold checkOp at h
  by_cases h1 : r < 0 ∨ 4 < r
  · rw [if_pos h1] at h; cases h
  · rw [if_neg h1] at h
    by_cases h2 : k = 1
    · exact ⟨by omega, by omega, .inl h2⟩
    · rw [if_neg h2] at h
      by_cases h3 : k = 2
      · rw [if_pos h3] at h
        by_cases h4 : n < 0 ∨ r ≤ n
        · rw [if_pos h4] at h; cases h
        · exact ⟨by omega, by omega, .inr ⟨h3, by omega, by omega⟩⟩
      · rw [if_neg h3] at h; cases h

end Go.Proofs.Ytjgmbgfcffnanaa
