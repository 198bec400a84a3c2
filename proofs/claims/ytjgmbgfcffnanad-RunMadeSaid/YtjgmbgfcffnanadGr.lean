/- Package graph: who clashes with whom. -/
import Derived.Test.YtjgmbgfcffnanadSame
import Derived.Test.YtjgmbgfcffnanadLit
namespace Go.Proofs.Ytjgmbgfcffnanad
open Go.RowKit

def has (xs : List Int) (k : Int) : Bool := xs.any (fun q => k == q)
def byB (p : Int → Bool) (x y : Txn) : Bool := (keysOf x).any (fun k => p k && (has (keysOf y) k || has y.reads k)) || (keysOf y).any (fun k => p k && has x.reads k)
def clashB (x y : Txn) : Bool := byB (fun _ => true) x y

def err2 (x y : Txn) : Int := if checkTxn x = 0 then checkTxn y else checkTxn x
theorem err2_at {x y t : Txn} {k : Nat} (h : ∀ u ∈ [x, y].take k, checkTxn u = 0) (ht : [x, y][k]? = some t) (hn : checkTxn t ≠ 0) : err2 x y = checkTxn t := by
  match k, ht with
  | 0, ht => simp at ht; subst ht; unfold err2; rw [if_neg hn]
  | 1, ht => simp at ht h; subst ht; unfold err2; rw [if_pos h]
theorem err2_zero {x y : Txn} (h : ∀ u ∈ [x, y], checkTxn u = 0) : err2 x y = 0 := by
  simp at h; unfold err2; rw [if_pos h.1, h.2]
theorem take_all {p : Txn → Prop} {xs : List Txn} {k : Nat} {x : Txn} (h : ∀ u ∈ xs.take k, p u) (hx : xs[k]? = some x) (hp : p x) : ∀ u ∈ xs.take (k + 1), p u := fun u hu => by
  rw [List.take_add_one, List.mem_append, hx] at hu
  rcases hu with hu | hu
  · exact h u hu
  · simp at hu; subst hu; exact hp

structure EdgeT where
  a : Int
  b : Int
deriving DecidableEq
def cE (e : EdgeT) : List IV := [IV.int e.a, IV.int e.b]
abbrev edgesV (l : List EdgeT) : IV := IV.view 2 cE l
def eRow (x : Txn) (i : Nat) (ys : List Txn) (j : Nat) : List EdgeT := (List.range j).flatMap fun (q : Nat) => match ys[q]? with
  | some y => if clashB x y then [⟨i, (i : Int) + 1 + (q : Nat)⟩] else []
  | none => []
def edgesTo (l : List Txn) (i : Nat) : List EdgeT := (List.range i).flatMap fun q => match l[q]? with
  | some x => eRow x q (l.drop (q + 1)) (l.length - (q + 1))
  | none => []
def edgesOf (l : List Txn) : List EdgeT := if checkTxns l = 0 then edgesTo l l.length else []
theorem eRow_next {x y : Txn} {i : Nat} {ys : List Txn} {j : Nat} (h : ys[j]? = some y) : eRow x i ys (j + 1) = eRow x i ys j ++ (if clashB x y then [⟨i, (i : Int) + 1 + j⟩] else []) := by
  unfold eRow; rw [List.range_succ, List.flatMap_append]; simp [h]
theorem edgesTo_next {l : List Txn} {i : Nat} {x : Txn} (h : l[i]? = some x) : edgesTo l (i + 1) = edgesTo l i ++ eRow x i (l.drop (i + 1)) (l.length - (i + 1)) := by
  unfold edgesTo; rw [List.range_succ, List.flatMap_append]; simp [h]
theorem eRow_len (x : Txn) (i : Nat) (ys : List Txn) : ∀ j, (eRow x i ys j).length ≤ j
  | 0 => by simp [eRow]
  | j + 1 => by
    have := eRow_len x i ys j
    unfold eRow at this ⊢
    rw [List.range_succ, List.flatMap_append, List.length_append]
    have h2 : (match ys[j]? with
      | some y => if clashB x y then [(⟨i, (i : Int) + 1 + (j : Nat)⟩ : EdgeT)] else []
      | none => []).length ≤ 1 := by
      split
      · split <;> simp
      · simp
    simp only [List.flatMap_cons, List.flatMap_nil, List.append_nil]
    omega
theorem edgesTo_len {l : List Txn} (hl : l.length ≤ 8) : ∀ i, (edgesTo l i).length ≤ i * 8
  | 0 => by simp [edgesTo]
  | i + 1 => by
    have := edgesTo_len hl i
    unfold edgesTo at this ⊢
    rw [List.range_succ, List.flatMap_append, List.length_append]
    have h2 : (match l[i]? with
      | some x => eRow x i (l.drop (i + 1)) (l.length - (i + 1))
      | none => []).length ≤ 8 := by
      split
      · exact Nat.le_trans (eRow_len _ _ _ _) (by omega)
      · simp
    simp only [List.flatMap_cons, List.flatMap_nil, List.append_nil]
    omega

end Go.Proofs.Ytjgmbgfcffnanad
