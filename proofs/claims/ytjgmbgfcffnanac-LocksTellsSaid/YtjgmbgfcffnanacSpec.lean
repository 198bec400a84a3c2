/- The plain law's side: what the document defines, as Lean functions on lists and numbers. No program. No condition. -/
import Derived.Test.YtjgmbgfcffnanacMem
namespace Go.Proofs.Ytjgmbgfcffnanac
open Go.RowKit

structure Operand where
  kind : Int
  n : Int
deriving DecidableEq
structure Guard where
  kind : Int
  a : Operand
  b : Operand
deriving DecidableEq
structure SetT where
  key : Int
  op : Int
  a : Operand
  b : Operand
deriving DecidableEq
structure Txn where
  reads : List Int
  guards : List Guard
  sets : List SetT
deriving DecidableEq
structure Res where
  done : Bool
  vals : List Int
deriving DecidableEq

def encI (x : Int) : List Value := [.int .i64 x]

/- chapter 1 -/
def checkOp (k n r : Int) : Int :=
  if r < 0 ∨ 4 < r then 3 else if k = 1 then 0 else if k = 2 then (if n < 0 ∨ r ≤ n then 3 else 0) else 4
def valueOf (k n : Int) (xs : List Int) : Int := if k = 1 then n else xs.getD n.toNat 0
def valueN (k n : Int) (xs : List Int) : Int := if checkOp k n xs.length = 0 then valueOf k n xs else 0
def reckonN (op a b : Int) : Int :=
  if op = 1 then a else if op = 2 then wrap64 (a + b) else if op = 3 then wrap64 (a - b) else if op = 4 then wrap64 (a * b) else if op = 5 then min a b else if op = 6 then max a b else 0
def reckonE (op : Int) : Int := if 1 ≤ op ∧ op ≤ 6 then 0 else 4
def holdsB (k a b : Int) : Bool :=
  if k = 1 then a == b else if k = 2 then a != b else if k = 3 then decide (a < b) else if k = 4 then decide (a ≤ b) else false
def holdsE (k : Int) : Int := if 1 ≤ k ∧ k ≤ 4 then 0 else 4

theorem checkOp_cases (k n r : Int) : checkOp k n r = 0 ∨ checkOp k n r = 3 ∨ checkOp k n r = 4 := by
  unfold checkOp
  by_cases h1 : r < 0 ∨ 4 < r
  · rw [if_pos h1]; exact .inr (.inl rfl)
  · rw [if_neg h1]
    by_cases h2 : k = 1
    · rw [if_pos h2]; exact .inl rfl
    · rw [if_neg h2]
      by_cases h3 : k = 2
      · rw [if_pos h3]
        by_cases h4 : n < 0 ∨ r ≤ n
        · rw [if_pos h4]; exact .inr (.inl rfl)
        · rw [if_neg h4]; exact .inl rfl
      · rw [if_neg h3]; exact .inr (.inr rfl)
theorem checkOp_zero {k n r : Int} (h : checkOp k n r = 0) : 0 ≤ r ∧ r ≤ 4 ∧ (k = 1 ∨ k = 2 ∧ 0 ≤ n ∧ n < r) := by
  unfold checkOp at h
  by_cases h1 : r < 0 ∨ 4 < r
  · rw [if_pos h1] at h; cases h
  · rw [if_neg h1] at h
    by_cases h2 : k = 1
    · exact ⟨by omega, by omega, .inl h2⟩
    · rw [if_neg h2] at h
      by_cases h3 : k = 2
      · rw [if_pos h3] at h
        by_cases h4 : n < 0 ∨ r ≤ n
        · rw [if_pos h4] at h; cases h
        · exact ⟨by omega, by omega, .inr ⟨h3, by omega, by omega⟩⟩
      · rw [if_neg h3] at h; cases h

/- chapter 2 -/
def encG (g : Guard) : List Value := [.int .i64 g.kind, .int .i64 g.a.kind, .int .i64 g.a.n, .int .i64 g.b.kind, .int .i64 g.b.n]
def encS (s : SetT) : List Value := [.int .i64 s.key, .int .i64 s.op, .int .i64 s.a.kind, .int .i64 s.a.n, .int .i64 s.b.kind, .int .i64 s.b.n]
theorem encI_len (x : Int) : (encI x).length = 1 := rfl
theorem encG_len (x : Guard) : (encG x).length = 5 := rfl
theorem encS_len (x : SetT) : (encS x).length = 6 := rfl

def keysOf (t : Txn) : List Int := t.sets.map (·.key)
def isKeyB (k : Int) : Bool := decide (0 ≤ k) && decide (k ≤ 7)
def rising : List Int → Bool
  | a :: b :: l => decide (a < b) && rising (b :: l)
  | _ => true
/- the first that is not 0 -/
def fe : List Int → Int
  | [] => 0
  | e :: l => if e = 0 then fe l else e
def gErrs (n : Int) (g : Guard) : List Int := [holdsE g.kind, checkOp g.a.kind g.a.n n, checkOp g.b.kind g.b.n n]
def sErrs (n : Int) (s : SetT) : List Int := [reckonE s.op, checkOp s.a.kind s.a.n n, checkOp s.b.kind s.b.n n]
def sizesOk (t : Txn) : Prop := t.reads.length ≤ 4 ∧ t.guards.length ≤ 2 ∧ 0 < t.sets.length ∧ t.sets.length ≤ 3
instance (t : Txn) : Decidable (sizesOk t) := by unfold sizesOk; infer_instance
def partErrs (t : Txn) : List Int := t.guards.flatMap (gErrs t.reads.length) ++ t.sets.flatMap (sErrs t.reads.length)
def checkTxn (t : Txn) : Int :=
  if sizesOk t then
    if (t.reads ++ keysOf t).all isKeyB then
      if rising t.reads && rising (keysOf t) then fe (partErrs t) else 1
    else 3
  else 2

theorem fe_append (a b : List Int) : fe (a ++ b) = if fe a = 0 then fe b else fe a := by
  induction a with
  | nil => simp [fe]
  | cons x l ih =>
    by_cases h : x = 0
    · simp [fe, h, ih]
    · simp [fe, h]
theorem fe_zero {l : List Int} : fe l = 0 ↔ ∀ x ∈ l, x = 0 := by
  induction l with
  | nil => simp [fe]
  | cons x l ih =>
    by_cases h : x = 0
    · simp [fe, h, ih]
    · simp [fe, h]

/- a transaction as it lies in memory: three slices -/
def TxnAt (w : World) (ra : Option Addr) (nr : Nat) (ga : Option Addr) (ng : Nat) (sa : Option Addr) (ns : Nat) (t : Txn) : Prop :=
  Rd 1 encI w ra nr t.reads ∧ Rd 5 encG w ga ng t.guards ∧ Rd 6 encS w sa ns t.sets ∧ nr ≤ 9223372036854775807 ∧ ng ≤ 9223372036854775807 ∧ ns * 48 ≤ 140737488351232
section
variable {w w' : World} {ra : Option Addr} {nr : Nat} {ga : Option Addr} {ng : Nat} {sa : Option Addr} {ns : Nat} {t : Txn}
theorem TxnAt.below (h : TxnAt w ra nr ga ng sa ns t) (hb : Below w.heap.size w w') : TxnAt w' ra nr ga ng sa ns t := ⟨h.1.below hb, h.2.1.below hb, h.2.2.1.below hb, h.2.2.2⟩
theorem TxnAt.alloc (h : TxnAt w ra nr ga ng sa ns t) (o : Obj) : TxnAt (w.alloc o) ra nr ga ng sa ns t := ⟨h.1.alloc o, h.2.1.alloc o, h.2.2.1.alloc o, h.2.2.2⟩
theorem TxnAt.drew (h : TxnAt w ra nr ga ng sa ns t) : TxnAt w.drew ra nr ga ng sa ns t := h
theorem TxnAt.drewN (h : TxnAt w ra nr ga ng sa ns t) (n : Nat) : TxnAt (w.drewN n) ra nr ga ng sa ns t := h
end

end Go.Proofs.Ytjgmbgfcffnanac
