/- Package locks: what its answers are, plainly. No program. -/
import Derived.Test.YtjgmbgfcffnanadLocks
namespace Go.Proofs.Ytjgmbgfcffnanad
open Go.RowKit

def lkB (t : Txn) (key : Int) : Bool := readsB t key || writesB t key
theorem sel_locksTo (t : Txn) (q : Nat) (key : Int) : ∀ n : Nat, ((locksTo t n).flatMap fun x => if x.key = key then [(⟨q, x.write⟩ : WaitT)] else []) = if 0 ≤ key ∧ key < n ∧ lkB t key = true then [⟨q, writesB t key⟩] else []
  | 0 => by rw [if_neg (by omega)]; rfl
  | n + 1 => by
    rw [locksTo_next, List.flatMap_append, sel_locksTo t q key n]
    have h1 : ((lockAt t n).flatMap fun x => if x.key = key then [(⟨q, x.write⟩ : WaitT)] else []) = if key = n ∧ lkB t key = true then [⟨q, writesB t key⟩] else [] := by
      unfold lockAt
      by_cases hl : lkB t n = true
      · rw [show (readsB t n || writesB t n) = true from hl, if_pos rfl]
        by_cases hk : (n : Int) = key
        · subst hk
          simp [hl]
        · simp [hk]; omega
      · rw [show (readsB t n || writesB t n) = false from by simpa [lkB] using hl, if_neg (by simp)]
        rw [if_neg]
        · rfl
        · rintro ⟨rfl, h⟩; exact hl h
    rw [h1]
    by_cases hk : key = n
    · subst hk
      rw [if_neg (by omega), List.nil_append]
      by_cases hl : lkB t n = true
      · rw [if_pos ⟨rfl, hl⟩, if_pos ⟨by omega, by omega, hl⟩]
      · rw [if_neg (fun h => hl h.2), if_neg (fun h => hl h.2.2)]
    · have hk2 : ¬ (key = n ∧ lkB t key = true) := fun h => hk h.1
      rw [if_neg hk2, List.append_nil]
      by_cases h : 0 ≤ key ∧ key < n ∧ lkB t key = true
      · rw [if_pos h, if_pos ⟨h.1, by omega, h.2.2⟩]
      · rw [if_neg h, if_neg (fun h2 => h ⟨h2.1, by omega, h2.2.2⟩)]
theorem qAdd_eq {l : List Txn} {done : List Bool} {q : Nat} {key : Int} {t : Txn} (h0 : 0 ≤ key) (h8 : key < 8) (ht : l[q]? = some t) (hd : done[q]? = some false) : qAdd l done key q = if lkB t key = true then [⟨q, writesB t key⟩] else [] := by
  unfold qAdd
  rw [ht, hd]
  show qIn t q (locksOf t).length key = _
  unfold qIn
  rw [List.take_length]
  have := sel_locksTo t q key 8
  rw [show locksOf t = locksTo t 8 from rfl, this]
  by_cases hl : lkB t key = true
  · rw [if_pos ⟨h0, by omega, hl⟩, if_pos hl]
  · rw [if_neg (fun h => hl h.2.2), if_neg hl]
theorem qAdd_nil {l : List Txn} {done : List Bool} {q : Nat} {key : Int} (h : ∀ t, l[q]? = some t → done[q]? = some false → False) : qAdd l done key q = [] := by
  unfold qAdd
  split
  · rename_i t h1 h2; exact (h t h1 h2).elim
  · rfl
theorem mem_qOf {l : List Txn} {done : List Bool} {key : Int} (h0 : 0 ≤ key) (h8 : key < 8) {n : Nat} {x : WaitT} : x ∈ qOf l done n key ↔ ∃ (q : Nat) (t : Txn), q < n ∧ l[q]? = some t ∧ done[q]? = some false ∧ lkB t key = true ∧ x = ⟨q, writesB t key⟩ := by
  unfold qOf
  rw [List.mem_flatMap]
  constructor
  · rintro ⟨q, hq, hx⟩
    rw [List.mem_range] at hq
    cases ht : l[q]? with
    | none => rw [qAdd_nil (fun t h1 => by rw [ht] at h1; cases h1)] at hx; cases hx
    | some t =>
      cases hd : done[q]? with
      | none => rw [qAdd_nil (fun t _ h1 => by rw [hd] at h1; cases h1)] at hx; cases hx
      | some b =>
        cases b with
        | true => rw [qAdd_nil (fun t _ h1 => by rw [hd] at h1; cases h1)] at hx; cases hx
        | false =>
          rw [qAdd_eq h0 h8 ht hd] at hx
          split at hx
          · exact ⟨q, t, hq, ht, hd, by assumption, by simpa using hx⟩
          · cases hx
  · rintro ⟨q, t, hq, ht, hd, hl, rfl⟩
    refine ⟨q, List.mem_range.2 hq, ?_⟩
    rw [qAdd_eq h0 h8 ht hd, if_pos hl]
    simp

/- a queue's numbers -/
def queueTo (l : List Txn) (done : List Bool) (key : Int) (n : Nat) : List Int := (List.range n).flatMap fun (k : Nat) => match l[k]?, done[k]? with
  | some t, some d => if !d && lkB t key then [(k : Int)] else []
  | _, _ => []
theorem queueTo_next {l : List Txn} {done : List Bool} {key : Int} {n : Nat} {t : Txn} {d : Bool} (ht : l[n]? = some t) (hd : done[n]? = some d) : queueTo l done key (n + 1) = queueTo l done key n ++ if !d && lkB t key then [(n : Int)] else [] := by
  unfold queueTo; rw [List.range_succ, List.flatMap_append]; simp [ht, hd]
theorem queueTo_eq {l : List Txn} {done : List Bool} {key : Int} (h0 : 0 ≤ key) (h8 : key < 8) (hl : done.length = l.length) : ∀ n, n ≤ l.length → queueTo l done key n = (qOf l done n key).map (·.txn)
  | 0, _ => rfl
  | n + 1, hn => by
    obtain ⟨t, ht⟩ := get_at (xs := l) (k := n) (by omega)
    obtain ⟨d, hd⟩ := get_at (xs := done) (k := n) (by omega)
    rw [queueTo_next ht hd, qOf_next, List.map_append, queueTo_eq h0 h8 hl n (by omega)]
    congr 1
    cases d with
    | true => rw [qAdd_nil (fun _ _ h => by rw [hd] at h; cases h)]; rfl
    | false =>
      rw [qAdd_eq h0 h8 ht hd]
      cases lkB t key <;> rfl
theorem queueTo_len (l : List Txn) (done : List Bool) (key : Int) : ∀ n, (queueTo l done key n).length ≤ n
  | 0 => by simp [queueTo]
  | n + 1 => by
    have := queueTo_len l done key n
    unfold queueTo at this ⊢
    rw [List.range_succ, List.flatMap_append, List.length_append]
    have h2 : ([n].flatMap fun (k : Nat) => match l[k]?, done[k]? with
      | some t, some d => if !d && lkB t key then [(k : Int)] else []
      | _, _ => []).length ≤ 1 := by
      simp only [List.flatMap_cons, List.flatMap_nil, List.append_nil]
      split
      · split <;> simp
      · simp
    omega

/- clashes, as the document has them -/
def clashAt (x y : Txn) (k : Int) : Bool := writesB x k && lkB y k || writesB y k && readsB x k
def clashTo (x y : Txn) (m s : Int) (n : Nat) : Bool := (List.range n).any fun j => decide ((j : Int) % m = s) && clashAt x y j
def clashR (x y : Txn) (m s : Int) : Bool := clashTo x y m s 8
theorem clashTo_next (x y : Txn) (m s : Int) (n : Nat) : clashTo x y m s (n + 1) = (clashTo x y m s n || (decide ((n : Int) % m = s) && clashAt x y n)) := by
  unfold clashTo; rw [List.range_succ, List.any_append]; simp
theorem clashR_iff {x y : Txn} {m s : Int} : clashR x y m s = true ↔ ∃ k : Int, 0 ≤ k ∧ k < 8 ∧ k % m = s ∧ clashAt x y k = true := by
  unfold clashR clashTo
  rw [List.any_eq_true]
  constructor
  · rintro ⟨j, hj, h⟩
    rw [List.mem_range] at hj
    rw [Bool.and_eq_true, decide_eq_true_eq] at h
    exact ⟨j, by omega, by omega, h.1, h.2⟩
  · rintro ⟨k, h0, h8, h1, h2⟩
    have hk : ((k.toNat : Nat) : Int) = k := by omega
    refine ⟨k.toNat, List.mem_range.2 (by omega), ?_⟩
    rw [hk, Bool.and_eq_true, decide_eq_true_eq]
    exact ⟨h1, h2⟩
def readyB (l : List Txn) (done : List Bool) (n : Nat) : Bool := match l[n]?, done[n]? with
  | some t, some d => !d && (List.range n).all fun (k : Nat) => match l[k]?, done[k]? with
    | some u, some e => !(!e && clashR u t 1 0)
    | _, _ => true
  | _, _ => false
def readyTo (l : List Txn) (done : List Bool) (n : Nat) : List Int := (List.range n).flatMap fun (k : Nat) => if readyB l done k then [(k : Int)] else []
theorem readyTo_next (l : List Txn) (done : List Bool) (n : Nat) : readyTo l done (n + 1) = readyTo l done n ++ if readyB l done n then [(n : Int)] else [] := by
  unfold readyTo; rw [List.range_succ, List.flatMap_append]; simp
theorem readyTo_len (l : List Txn) (done : List Bool) : ∀ n, (readyTo l done n).length ≤ n
  | 0 => by simp [readyTo]
  | n + 1 => by
    have := readyTo_len l done n
    rw [readyTo_next, List.length_append]
    split <;> simp <;> omega

/- who must wait in a queue -/
def badAt (q : List WaitT) (k : Nat) : Bool := match q[k]? with
  | some w => (w.write && decide (0 < k)) || !((q.take k).all fun x => !x.write)
  | none => false
theorem q_split {l : List Txn} {done : List Bool} {key : Int} {n m : Nat} (h : n < m) : ∃ r, qOf l done m key = qOf l done n key ++ (qAdd l done key n ++ r) := by
  induction m with
  | zero => omega
  | succ m ih =>
    rw [qOf_next]
    rcases Nat.lt_or_ge n m with h1 | h1
    · obtain ⟨r, hr⟩ := ih h1
      exact ⟨r ++ qAdd l done key m, by rw [hr]; simp⟩
    · have : n = m := by omega
      subst this
      exact ⟨[], by simp⟩
theorem q_sorted {l : List Txn} {done : List Bool} {key : Int} (h0 : 0 ≤ key) (h8 : key < 8) : ∀ n, (qOf l done n key).Pairwise (fun a b => a.txn < b.txn)
  | 0 => List.Pairwise.nil
  | n + 1 => by
    rw [qOf_next, List.pairwise_append]
    refine ⟨q_sorted h0 h8 n, ?_, fun a ha b hb => ?_⟩
    · cases ht : l[n]? with
      | none => rw [qAdd_nil (fun t h1 => by rw [ht] at h1; cases h1)]; exact List.Pairwise.nil
      | some t =>
        by_cases hd : done[n]? = some false
        · rw [qAdd_eq h0 h8 ht hd]; split
          · exact List.pairwise_singleton _ _
          · exact List.Pairwise.nil
        · rw [qAdd_nil (fun _ _ h => hd h)]; exact List.Pairwise.nil
    · obtain ⟨q, t, hq, _, _, _, rfl⟩ := (mem_qOf h0 h8).1 ha
      have hb2 : b ∈ qOf l done (n + 1) key := by rw [qOf_next]; exact List.mem_append_right _ hb
      have : b.txn = n := by
        cases ht : l[n]? with
        | none => rw [qAdd_nil (fun t h1 => by rw [ht] at h1; cases h1)] at hb; cases hb
        | some t =>
          by_cases hd : done[n]? = some false
          · rw [qAdd_eq h0 h8 ht hd] at hb; split at hb
            · have : b = ⟨n, writesB t key⟩ := by simpa using hb
              rw [this]
            · cases hb
          · rw [qAdd_nil (fun _ _ h => hd h)] at hb; cases hb
      show (q : Int) < b.txn
      omega
theorem sorted_uniq {q : List WaitT} (hs : q.Pairwise (fun a b => a.txn < b.txn)) {i j : Nat} {a b : WaitT} (ha : q[i]? = some a) (hb : q[j]? = some b) (h : a.txn = b.txn) : i = j := by
  have hi := (List.getElem?_eq_some_iff.1 ha)
  have hj := (List.getElem?_eq_some_iff.1 hb)
  obtain ⟨hi1, hi2⟩ := hi
  obtain ⟨hj1, hj2⟩ := hj
  rw [List.pairwise_iff_getElem] at hs
  rcases Nat.lt_trichotomy i j with h1 | h1 | h1
  · have := hs i j hi1 hj1 h1; rw [hi2, hj2] at this; omega
  · exact h1
  · have := hs j i hj1 hi1 h1; rw [hi2, hj2] at this; omega
theorem no_bad_iff {l : List Txn} {done : List Bool} (hl : done.length = l.length) {n : Nat} {t : Txn} (ht : l[n]? = some t) (hd : done[n]? = some false) :
    (∀ key : Int, 0 ≤ key → key < 8 → ∀ (k : Nat) w, (qOf l done l.length key)[k]? = some w → w.txn = (n : Int) → badAt (qOf l done l.length key) k = false) ↔ ∀ (q : Nat) u, q < n → l[q]? = some u → done[q]? = some false → clashR u t 1 0 = false := by
  have hn : n < l.length := (List.getElem?_eq_some_iff.1 ht).1
  have key1 : ∀ key : Int, 0 ≤ key → key < 8 → lkB t key = true → (qOf l done l.length key)[(qOf l done n key).length]? = some ⟨n, writesB t key⟩ ∧ (qOf l done l.length key).take (qOf l done n key).length = qOf l done n key := fun key h0 h8 hk => by
    obtain ⟨r, hr⟩ := q_split (l := l) (done := done) (key := key) hn
    rw [qAdd_eq h0 h8 ht hd, if_pos hk] at hr
    rw [hr]
    exact ⟨by rw [List.getElem?_append_right (Nat.le_refl _), Nat.sub_self]; rfl, List.take_left' rfl⟩
  constructor
  · intro h q u hq hu hdq
    cases hc : clashR u t 1 0 with
    | false => rfl
    | true =>
      exfalso
      obtain ⟨k, h0, h8, _, hk⟩ := clashR_iff.1 hc
      unfold clashAt at hk
      rw [Bool.or_eq_true, Bool.and_eq_true, Bool.and_eq_true] at hk
      have hlt : lkB t k = true := by
        rcases hk with hk | hk
        · exact hk.2
        · unfold lkB; rw [hk.1]; simp
      have hlu : lkB u k = true := by
        unfold lkB
        rcases hk with hk | hk
        · rw [hk.1]; simp
        · rw [hk.2]; rfl
      obtain ⟨e1, e2⟩ := key1 k h0 h8 hlt
      have hm : (⟨q, writesB u k⟩ : WaitT) ∈ qOf l done n k := (mem_qOf h0 h8).2 ⟨q, u, hq, hu, hdq, hlu, rfl⟩
      have := h k h0 h8 _ _ e1 rfl
      unfold badAt at this
      rw [e1] at this
      simp only [e2, Bool.or_eq_false_iff, Bool.and_eq_false_iff, decide_eq_false_iff_not, Bool.not_eq_false', List.all_eq_true, Bool.not_eq_true'] at this
      have hpos := List.length_pos_of_mem hm
      have h3 := this.2 _ hm
      simp only at h3
      rcases hk with hk | hk
      · rw [hk.1] at h3; cases h3
      · rcases this.1 with h4 | h4
        · rw [hk.1] at h4; cases h4
        · omega
  · intro h key h0 h8 k w hk hw
    have hm := List.mem_of_getElem? hk
    obtain ⟨q, u, hq, hu, hdq, hlu, hwe⟩ := (mem_qOf h0 h8).1 hm
    rw [hwe] at hw
    have hqn : q = n := by simp at hw; omega
    subst hqn
    rw [ht] at hu
    injection hu with hu
    subst hu
    obtain ⟨e1, e2⟩ := key1 key h0 h8 hlu
    have hkk : k = (qOf l done q key).length := sorted_uniq (q_sorted h0 h8 _) hk e1 (by rw [hwe])
    subst hkk
    unfold badAt
    rw [e1]
    simp only [e2, Bool.or_eq_false_iff, Bool.and_eq_false_iff, decide_eq_false_iff_not, Bool.not_eq_false', List.all_eq_true, Bool.not_eq_true']
    have hno : ∀ x ∈ qOf l done q key, x.write = false ∧ writesB t key = false := fun x hx => by
      obtain ⟨q2, u2, hq2, hu2, hd2, hl2, rfl⟩ := (mem_qOf h0 h8).1 hx
      have hc := h q2 u2 hq2 hu2 hd2
      have hno2 : ¬ clashAt u2 t key = true := fun hh => by
        have : clashR u2 t 1 0 = true := clashR_iff.2 ⟨key, h0, h8, by omega, hh⟩
        rw [hc] at this; cases this
      unfold clashAt at hno2
      rw [Bool.or_eq_true, Bool.and_eq_true, Bool.and_eq_true] at hno2
      constructor
      · cases e : writesB u2 key with
        | false => rfl
        | true => exact absurd (.inl ⟨e, hlu⟩) hno2
      · cases e : writesB t key with
        | false => rfl
        | true =>
          exfalso
          unfold lkB at hl2
          rw [Bool.or_eq_true] at hl2
          rcases hl2 with h5 | h5
          · exact hno2 (.inr ⟨e, h5⟩)
          · exact hno2 (.inl ⟨h5, hlu⟩)
    refine ⟨?_, fun x hx => (hno x hx).1⟩
    cases hqe : qOf l done q key with
    | nil => right; simp
    | cons x xs => left; exact (hno x (by rw [hqe]; exact List.mem_cons_self)).2
theorem readyB_iff {l : List Txn} {done : List Bool} (hl : done.length = l.length) {n : Nat} {t : Txn} {d : Bool} (ht : l[n]? = some t) (hd : done[n]? = some d) : readyB l done n = true ↔ d = false ∧ ∀ (q : Nat) u, q < n → l[q]? = some u → done[q]? = some false → clashR u t 1 0 = false := by
  unfold readyB
  rw [ht, hd]
  simp only [Bool.and_eq_true, Bool.not_eq_true', List.all_eq_true, List.mem_range]
  refine ⟨fun ⟨h1, h2⟩ => ⟨h1, fun q u hq hu hdq => ?_⟩, fun ⟨h1, h2⟩ => ⟨h1, fun q hq => ?_⟩⟩
  · have := h2 q hq
    rw [hu, hdq] at this
    simpa using this
  · cases hu : l[q]? with
    | none => rfl
    | some u =>
      cases hdq : done[q]? with
      | none => rfl
      | some e =>
        cases e with
        | true => rfl
        | false =>
          have := h2 q u hq hu hdq
          simp [this]
end Go.Proofs.Ytjgmbgfcffnanad
