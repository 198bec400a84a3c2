/- The law GraphTrue returns true. -/
import Derived.Test.YtjgmbgfcffnanacGr2
namespace Go.Proofs.Ytjgmbgfcffnanac
open Go.RowKit

def eVals (e : EdgeT) : List Value := [.int .i64 e.a, .int .i64 e.b]
theorem chooseN_in {n m : Int} (hm : 0 < m) : 0 ≤ chooseN n m ∧ chooseN n m < m := by
  unfold chooseN
  have h8 : 0 ≤ (if n < 0 then -(n + 1) else n) := by split <;> omega
  rw [Int.tmod_eq_emod_of_nonneg h8]
  exact ⟨Int.emod_nonneg _ (by omega), Int.emod_lt_of_pos _ hm⟩

theorem clash_iff {x y : Txn} : clashB x y = true ↔ ∃ k, (k ∈ keysOf x ∧ (k ∈ keysOf y ∨ k ∈ y.reads)) ∨ (k ∈ keysOf y ∧ k ∈ x.reads) := by
  unfold clashB byB has
  simp only [Bool.true_and, Bool.or_eq_true, List.any_eq_true, beq_iff_eq]
  constructor
  · rintro (⟨k, h1, ⟨q, h2, rfl⟩ | ⟨q, h2, rfl⟩⟩ | ⟨k, h1, ⟨q, h2, rfl⟩⟩)
    · exact ⟨_, .inl ⟨h1, .inl h2⟩⟩
    · exact ⟨_, .inl ⟨h1, .inr h2⟩⟩
    · exact ⟨_, .inr ⟨h1, h2⟩⟩
  · rintro ⟨k, ⟨h1, h2 | h2⟩ | ⟨h1, h2⟩⟩
    · exact .inl ⟨k, h1, .inl ⟨k, h2, rfl⟩⟩
    · exact .inl ⟨k, h1, .inr ⟨k, h2, rfl⟩⟩
    · exact .inr ⟨k, h1, ⟨k, h2, rfl⟩⟩
theorem clash_symm (x y : Txn) : clashB x y = clashB y x := by
  rw [Bool.eq_iff_iff, clash_iff, clash_iff]
  constructor
  · rintro ⟨k, ⟨h1, h2 | h2⟩ | ⟨h1, h2⟩⟩
    · exact ⟨k, .inl ⟨h2, .inl h1⟩⟩
    · exact ⟨k, .inr ⟨h1, h2⟩⟩
    · exact ⟨k, .inl ⟨h1, .inr h2⟩⟩
  · rintro ⟨k, ⟨h1, h2 | h2⟩ | ⟨h1, h2⟩⟩
    · exact ⟨k, .inl ⟨h2, .inl h1⟩⟩
    · exact ⟨k, .inr ⟨h1, h2⟩⟩
    · exact ⟨k, .inl ⟨h1, .inr h2⟩⟩
theorem clash_self {x : Txn} (h : checkTxn x = 0) : clashB x x = true := by
  obtain ⟨_, _, h3, _⟩ := (right_parts h).1
  rw [clash_iff]
  obtain ⟨s, hs⟩ := get_at (xs := x.sets) (k := 0) h3
  have : s.key ∈ keysOf x := List.mem_map.2 ⟨s, List.mem_of_getElem? hs, rfl⟩
  exact ⟨s.key, .inl ⟨this, .inl this⟩⟩
theorem mem_edges {l : List Txn} {a b : Int} (ha : 0 ≤ a) (hal : a < l.length) (hb : 0 ≤ b) (hbl : b < l.length) : (⟨a, b⟩ : EdgeT) ∈ edgesTo l l.length ↔ clashB (nthT l a) (nthT l b) = true ∧ a < b := by
  unfold edgesTo
  rw [List.mem_flatMap]
  constructor
  · rintro ⟨q, hq, h⟩
    rw [List.mem_range] at hq
    rw [List.getElem?_eq_getElem hq] at h
    simp only at h
    unfold eRow at h
    rw [List.mem_flatMap] at h
    obtain ⟨r, hr, h⟩ := h
    rw [List.mem_range] at hr
    rw [List.getElem?_drop, List.getElem?_eq_getElem (by omega)] at h
    simp only at h
    split at h
    · rename_i hc
      rw [List.mem_singleton] at h
      injection h with h1 h2
      subst h1
      refine ⟨?_, by omega⟩
      have e1 : nthT l (q : Int) = l[q] := by unfold nthT; rw [List.getD_eq_getElem?_getD, Int.toNat_natCast, List.getElem?_eq_getElem hq]; rfl
      have e2 : nthT l b = l[q + 1 + r]'(by omega) := by
        unfold nthT
        have : b.toNat = q + 1 + r := by omega
        rw [List.getD_eq_getElem?_getD, this, List.getElem?_eq_getElem (by omega)]; rfl
      rw [e1, e2]; exact hc
    · cases h
  · rintro ⟨hc, hlt⟩
    refine ⟨a.toNat, List.mem_range.2 (by omega), ?_⟩
    have e1 := nthT_at (l := l) ha hal
    have e2 := nthT_at (l := l) hb hbl
    rw [e1]
    simp only
    unfold eRow
    rw [List.mem_flatMap]
    refine ⟨b.toNat - (a.toNat + 1), List.mem_range.2 (by omega), ?_⟩
    rw [List.getElem?_drop, show a.toNat + 1 + (b.toNat - (a.toNat + 1)) = b.toNat by omega, e2]
    simp only
    rw [if_pos hc, List.mem_singleton]
    congr 1 <;> omega

end Go.Proofs.Ytjgmbgfcffnanac
