/- Plans: package place and the reference's part. -/
import Derived.Test.YtjgmbgfcffnanadL1
namespace Go.Proofs.Ytjgmbgfcffnanad
open Go.RowKit

structure Plan where
  shards : Int
  txns : List Txn
def cP (p : Plan) : List IV := [IV.int p.shards, txsV p.txns]
abbrev planV (p : Plan) : IV := IV.agg (cP p)
def checkPlan (p : Plan) : Int := if p.shards < 1 ∨ 4 < p.shards then 3 else checkTxns p.txns
def shardE (p : Plan) (k : Int) : Int := if checkPlan p = 0 then (if k < 0 ∨ 8 ≤ k then 3 else 0) else checkPlan p
def shardN (p : Plan) (k : Int) : Int := if shardE p k = 0 then k % p.shards else 0
def planE (p : Plan) (n : Int) : Int := if checkPlan p = 0 then (if n < 0 ∨ p.txns.length ≤ n then 5 else 0) else checkPlan p
theorem checkPlan_zero {p : Plan} (h : checkPlan p = 0) : 1 ≤ p.shards ∧ p.shards ≤ 4 ∧ checkTxns p.txns = 0 := by
  unfold checkPlan at h
  split at h
  · cases h
  · exact ⟨by omega, by omega, h⟩
theorem checkTxns_zero {l : List Txn} (h : checkTxns l = 0) : l.length ≤ 8 ∧ ∀ t ∈ l, checkTxn t = 0 := by
  unfold checkTxns at h
  split at h
  · cases h
  · refine ⟨by omega, fun t ht => fe_zero.1 h _ (List.mem_flatMap.2 ⟨t, ht, by simp [txErrs]⟩)⟩

/- at which shards lie keys -/
def marks (m : Nat) (ks : List Int) : List Bool := ks.foldl (fun b k => b.set (k % (m : Int)).toNat true) (List.replicate m false)
theorem marks_snoc (m : Nat) (ks : List Int) (k : Int) : marks m (ks ++ [k]) = (marks m ks).set (k % (m : Int)).toNat true := by unfold marks; rw [List.foldl_append]; rfl
theorem foldl_len {ks : List Int} {m : Nat} : ∀ {b : List Bool}, (ks.foldl (fun b k => b.set (k % (m : Int)).toNat true) b).length = b.length := by
  induction ks with
  | nil => intro b; rfl
  | cons k ks ih => intro b; rw [List.foldl_cons, ih, List.length_set]
theorem marks_length (m : Nat) (ks : List Int) : (marks m ks).length = m := by unfold marks; rw [foldl_len, List.length_replicate]
theorem marks_at (m : Nat) (ks : List Int) (j : Nat) (hj : j < m) : (marks m ks)[j]? = some (ks.any fun k => (k % (m : Int)).toNat == j) := by
  unfold marks
  have key : ∀ (ks : List Int) (b : List Bool), b.length = m → ∀ v, b[j]? = some v → (ks.foldl (fun b k => b.set (k % (m : Int)).toNat true) b)[j]? = some (v || ks.any fun k => (k % (m : Int)).toNat == j) := by
    intro ks
    induction ks with
    | nil => intro b hb v hv; simpa using hv
    | cons k ks ih =>
      intro b hb v hv
      rw [List.foldl_cons, ih _ (by rw [List.length_set]; exact hb) (v || (k % (m : Int)).toNat == j)]
      · rw [List.any_cons, Bool.or_assoc]
      · rw [List.getElem?_set]
        by_cases e : (k % (m : Int)).toNat = j
        · rw [if_pos e, if_pos (by omega)]; simp [e]
        · rw [if_neg e, hv]
          have : ((k % (m : Int)).toNat == j) = false := by simpa using e
          rw [this, Bool.or_false]
  have := key ks (List.replicate m false) (List.length_replicate ..) false (by simp [hj])
  simpa using this
theorem marks_congr {m : Nat} {ks ks' : List Int} (h : ∀ k, k ∈ ks ↔ k ∈ ks') : marks m ks = marks m ks' := by
  apply List.ext_getElem?
  intro j
  by_cases hj : j < m
  · rw [marks_at m ks j hj, marks_at m ks' j hj]
    congr 1
    rw [Bool.eq_iff_iff, List.any_eq_true, List.any_eq_true]
    exact ⟨fun ⟨k, h1, h2⟩ => ⟨k, (h k).1 h1, h2⟩, fun ⟨k, h1, h2⟩ => ⟨k, (h k).2 h1, h2⟩⟩
  · rw [List.getElem?_eq_none (by rw [marks_length]; omega), List.getElem?_eq_none (by rw [marks_length]; omega)]

def cKs (ks : List Int) : List IV := [intsV ks]
theorem right_keys {t : Txn} (h : checkTxn t = 0) : (∀ k ∈ t.reads, 0 ≤ k ∧ k < 8) ∧ ∀ k ∈ keysOf t, 0 ≤ k ∧ k < 8 := by
  have h2 := (right_parts h).2.1
  have key : ∀ k ∈ t.reads ++ keysOf t, 0 ≤ k ∧ k < 8 := fun k hk => by
    have := h2 k hk
    simp only [isKeyB, Bool.and_eq_true, decide_eq_true_eq] at this
    omega
  exact ⟨fun k hk => key k (List.mem_append_left _ hk), fun k hk => key k (List.mem_append_right _ hk)⟩
def partL (m : Nat) (t : Txn) : List Bool := marks m (t.reads ++ keysOf t)
def actL (m : Nat) (t : Txn) : List Bool := marks m (keysOf t)
def orL (e : Int) (l : List Bool) : List Bool := if e = 0 then l else []
def nthT (l : List Txn) (n : Int) : Txn := l.getD n.toNat ⟨[], [], []⟩
theorem planE_zero {p : Plan} {n : Int} (h : planE p n = 0) : checkPlan p = 0 ∧ 0 ≤ n ∧ n < p.txns.length ∧ p.txns[n.toNat]? = some (nthT p.txns n) := by
  unfold planE at h
  split at h
  · rename_i h0
    split at h
    · cases h
    · refine ⟨h0, by omega, by omega, ?_⟩
      unfold nthT
      rw [List.getD_eq_getElem?_getD, List.getElem?_eq_getElem (by omega)]
      rfl
  · exact absurd h ‹_›
/- the reference goes over all keys -/
def keysIn (f : Int → Bool) (n : Nat) : List Int := ((List.range n).map (fun j : Nat => (j : Int))).filter f
theorem keysIn_succ (f : Int → Bool) (n : Nat) : keysIn f (n + 1) = keysIn f n ++ if f n then [(n : Int)] else [] := by
  unfold keysIn; rw [List.range_succ, List.map_append, List.filter_append]
  by_cases h : f n <;> simp [h]
theorem mem_keysIn {f : Int → Bool} {k : Int} : k ∈ keysIn f 8 ↔ 0 ≤ k ∧ k < 8 ∧ f k = true := by
  unfold keysIn
  rw [List.mem_filter, List.mem_map]
  constructor
  · rintro ⟨⟨j, hj, rfl⟩, h⟩; rw [List.mem_range] at hj; exact ⟨by omega, by omega, h⟩
  · rintro ⟨h0, h1, h⟩; exact ⟨⟨k.toNat, List.mem_range.2 (by omega), by omega⟩, h⟩
theorem readsB_iff {t : Txn} {k : Int} : readsB t k = true ↔ k ∈ t.reads := by simp [readsB]
theorem writesB_iff {t : Txn} {k : Int} : writesB t k = true ↔ k ∈ keysOf t := by simp [writesB]
theorem part_keys {m : Nat} {t : Txn} (hok : checkTxn t = 0) : marks m (keysIn (fun k => readsB t k || writesB t k) 8) = partL m t := by
  obtain ⟨h1, h2⟩ := right_keys hok
  refine marks_congr fun k => ?_
  rw [mem_keysIn, Bool.or_eq_true, readsB_iff, writesB_iff, List.mem_append]
  exact ⟨fun h => h.2.2, fun h => h.elim (fun h => ⟨(h1 k h).1, (h1 k h).2, .inl h⟩) (fun h => ⟨(h2 k h).1, (h2 k h).2, .inr h⟩)⟩
theorem act_keys {m : Nat} {t : Txn} (hok : checkTxn t = 0) : marks m (keysIn (writesB t) 8) = actL m t := by
  obtain ⟨h1, h2⟩ := right_keys hok
  refine marks_congr fun k => ?_
  rw [mem_keysIn, writesB_iff]
  exact ⟨fun h => h.2.2, fun h => ⟨(h2 k h).1, (h2 k h).2, h⟩⟩
end Go.Proofs.Ytjgmbgfcffnanad
