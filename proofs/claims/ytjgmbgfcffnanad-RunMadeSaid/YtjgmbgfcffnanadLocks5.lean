/- The laws LocksMore and LocksTrue return true. -/
import Derived.Test.YtjgmbgfcffnanadLocks4
import Derived.Test.YtjgmbgfcffnanadWGraph
namespace Go.Proofs.Ytjgmbgfcffnanad
open Go.RowKit

theorem mem_readyTo {l : List Txn} {done : List Bool} {v : Int} : ∀ {n : Nat}, v ∈ readyTo l done n ↔ ∃ q : Nat, q < n ∧ v = q ∧ readyB l done q = true := by
  intro n
  unfold readyTo
  rw [List.mem_flatMap]
  constructor
  · rintro ⟨q, hq, h⟩
    rw [List.mem_range] at hq
    split at h
    · exact ⟨q, hq, by simpa using h, by assumption⟩
    · cases h
  · rintro ⟨q, hq, rfl, h⟩
    exact ⟨q, List.mem_range.2 hq, by rw [if_pos h]; simp⟩
theorem readyTo_sorted (l : List Txn) (done : List Bool) : ∀ n, (readyTo l done n).Pairwise (· < ·)
  | 0 => List.Pairwise.nil
  | n + 1 => by
    rw [readyTo_next, List.pairwise_append]
    refine ⟨readyTo_sorted l done n, ?_, fun a ha b hb => ?_⟩
    · split
      · exact List.pairwise_singleton _ _
      · exact List.Pairwise.nil
    · obtain ⟨q, hq, rfl, _⟩ := mem_readyTo.1 ha
      split at hb
      · have : b = n := by simpa using hb
        omega
      · cases hb
theorem pw_uniq {xs : List Int} (hs : xs.Pairwise (· < ·)) {i j : Nat} {a : Int} (ha : xs[i]? = some a) (hb : xs[j]? = some a) : i = j := by
  obtain ⟨hi1, hi2⟩ := List.getElem?_eq_some_iff.1 ha
  obtain ⟨hj1, hj2⟩ := List.getElem?_eq_some_iff.1 hb
  rw [List.pairwise_iff_getElem] at hs
  rcases Nat.lt_trichotomy i j with h1 | h1 | h1
  · have := hs i j hi1 hj1 h1; omega
  · exact h1
  · have := hs j i hj1 hi1 h1; omega
theorem ready_more {l : List Txn} {done : List Bool} (hd : done.length = l.length) {x y : Nat} (hx : x < l.length) (hy : y < l.length) (hxy : y ≠ x) (h : readyB l done y = true) : readyB l (done.set x true) y = true := by
  obtain ⟨t, ht⟩ := get_at hy
  obtain ⟨d, hdy⟩ := get_at (xs := done) (k := y) (by omega)
  obtain ⟨h1, h2⟩ := (readyB_iff hd ht hdy).1 h
  have hs : (done.set x true)[y]? = some d := by rw [List.getElem?_set_ne (by omega)]; exact hdy
  refine (readyB_iff (by simpa using hd) ht hs).2 ⟨h1, fun q u hq hu hdq => h2 q u hq hu ?_⟩
  rw [List.getElem?_set] at hdq
  split at hdq
  · split at hdq
    · cases hdq
    · cases hdq
  · exact hdq
theorem ready_self {l : List Txn} {done : List Bool} (hd : done.length = l.length) {x : Nat} (hx : x < l.length) : readyB l (done.set x true) x = false := by
  obtain ⟨t, ht⟩ := get_at hx
  have hs : (done.set x true)[x]? = some true := by rw [List.getElem?_set_self (by omega)]
  cases e : readyB l (done.set x true) x with
  | false => rfl
  | true => have := ((readyB_iff (by simpa using hd) ht hs).1 e).1; cases this

theorem clash_same {x y : Txn} (hx : checkTxn x = 0) (hy : checkTxn y = 0) : clashB x y = clashR x y 1 0 := by
  obtain ⟨a1, a2⟩ := right_keys hx
  obtain ⟨b1, b2⟩ := right_keys hy
  rw [Bool.eq_iff_iff, clash_iff, clashR_iff]
  constructor
  · rintro ⟨k, h⟩
    have hr : 0 ≤ k ∧ k < 8 := by
      rcases h with ⟨h1, _⟩ | ⟨h1, _⟩
      · exact a2 k h1
      · exact b2 k h1
    refine ⟨k, hr.1, hr.2, by omega, ?_⟩
    unfold clashAt lkB
    simp only [Bool.or_eq_true, Bool.and_eq_true, readsB_iff, writesB_iff]
    rcases h with ⟨h1, h2 | h2⟩ | ⟨h1, h2⟩
    · exact .inl ⟨h1, .inr h2⟩
    · exact .inl ⟨h1, .inl h2⟩
    · exact .inr ⟨h1, h2⟩
  · rintro ⟨k, _, _, _, h⟩
    unfold clashAt lkB at h
    simp only [Bool.or_eq_true, Bool.and_eq_true, readsB_iff, writesB_iff] at h
    rcases h with ⟨h1, h2 | h2⟩ | ⟨h1, h2⟩
    · exact ⟨k, .inl ⟨h1, .inr h2⟩⟩
    · exact ⟨k, .inl ⟨h1, .inl h2⟩⟩
    · exact ⟨k, .inr ⟨h1, h2⟩⟩
theorem all_done_iff {l : List Txn} {done : List Bool} (hd : done.length = l.length) : (∀ q : Nat, q < l.length → done[q]? = some true) ↔ readyTo l done l.length = [] := by
  constructor
  · intro h
    rw [List.eq_nil_iff_forall_not_mem]
    intro v hv
    obtain ⟨q, hq, rfl, hr⟩ := mem_readyTo.1 hv
    obtain ⟨t, ht⟩ := get_at hq
    have := ((readyB_iff hd ht (h q hq)).1 hr).1
    cases this
  · intro h
    have key : ∀ m q : Nat, q < m → q < l.length → done[q]? = some true := by
      intro m
      induction m with
      | zero => intro q hq; omega
      | succ m ih =>
        intro q hq hql
        obtain ⟨d, hdq⟩ := get_at (xs := done) (k := q) (by omega)
        cases d with
        | true => exact hdq
        | false =>
          exfalso
          obtain ⟨t, ht⟩ := get_at hql
          have hr : readyB l done q = true := (readyB_iff hd ht hdq).2 ⟨rfl, fun q' u hq' hu hdq' => by
            have := ih q' (by omega) (by omega)
            rw [this] at hdq'; cases hdq'⟩
          have : (q : Int) ∈ readyTo l done l.length := mem_readyTo.2 ⟨q, hql, rfl, hr⟩
          rw [h] at this; cases this
    exact fun q hq => key (q + 1) q (by omega) hq

end Go.Proofs.Ytjgmbgfcffnanad
