/- Where a number that is read came from. In plain Lean. -/
import Derived.Test.YtjgmbgfcffnanabSpB
import Derived.Test.YtjgmbgfcffnanabAu2
import Derived.Test.YtjgmbgfcffnanabTr
namespace Go.Proofs.Ytjgmbgfcffnanab
open Go.RowKit

theorem lastP_one {i : Nat} : ∀ {l : List (SetT × Int)} {j : Nat} {q : SetT × Int} {o : Int}, l[j]? = some q → q.1.key.toNat = i → (∀ k q', l[k]? = some q' → q'.1.key.toNat = i → k = j) → lastP i l o = q.2
  | [], j, q, o, h, _, _ => by simp at h
  | u :: l, 0, q, o, h, hq, hu => by
    simp at h
    subst h
    show lastP i l (if u.1.key.toNat = i then u.2 else o) = u.2
    rw [if_pos hq]
    refine lastP_idle (fun q' hq' e => ?_) _
    obtain ⟨k, hk⟩ := List.mem_iff_getElem?.1 hq'
    have := hu (k + 1) q' (by simpa using hk) e
    omega
  | u :: l, j + 1, q, o, h, hq, hu => by
    have hne : u.1.key.toNat ≠ i := fun e => by
      have := hu 0 u rfl e
      omega
    show lastP i l (if u.1.key.toNat = i then u.2 else o) = q.2
    rw [if_neg hne]
    exact lastP_one (j := j) (by simpa using h) hq fun k q' hk e => by
      have := hu (k + 1) q' (by simpa using hk) e
      omega
theorem keys_one {t : Txn} (hok : checkTxn t = 0) {j k : Nat} {x : Int} (hj : (keysOf t)[j]? = some x) (hk : (keysOf t)[k]? = some x) : j = k := by
  have hr := (right_parts hok).2.2.1
  have hp := rising_pws (by simpa using (Bool.and_eq_true _ _ ▸ hr : _ ∧ _).2)
  obtain ⟨a1, a2⟩ := List.getElem?_eq_some_iff.1 hj
  obtain ⟨b1, b2⟩ := List.getElem?_eq_some_iff.1 hk
  have hlt := List.pairwise_iff_getElem.1 hp
  rcases Nat.lt_trichotomy j k with h | h | h
  · have := hlt j k a1 b1 h; omega
  · exact h
  · have := hlt k j b1 a1 h; omega
theorem writes_key {t : Txn} {key : Int} : writesB t key = true ↔ key ∈ keysOf t := by
  unfold writesB
  rw [List.any_eq_true]
  exact ⟨fun ⟨x, h1, h2⟩ => by rw [beq_iff_eq] at h2; exact h2 ▸ h1, fun h => ⟨key, h, by simp⟩⟩
def plan1 (l : List Txn) : Plan := ⟨1, l⟩
/- what stood there, and who has set it last -/
theorem lastW_says {s : List Int} {l : List Txn} {key : Int} (h8 : s.length = 8) (hc : checkTxns l = 0) (h0 : 0 ≤ key) (hk : key < 8) : ∀ m : Nat, m ≤ l.length →
    (lastW l (serR s l) key m = -1 ∧ (serAt (plan1 l) s m).getD key.toNat 0 = s.getD key.toNat 0) ∨ ∃ k t, k < m ∧ l[k]? = some t ∧ lastW l (serR s l) key m = (k : Int) ∧ runDone t (readsOf (serS s (l.take k)) t) = true ∧ key ∈ keysOf t ∧ (serAt (plan1 l) s m).getD key.toNat 0 = lastP key.toNat (t.sets.zip (runSets t (readsOf (serS s (l.take k)) t))) ((serAt (plan1 l) s k).getD key.toNat 0)
  | 0, _ => .inl ⟨rfl, rfl⟩
  | m + 1, hm => by
    have hml : m < nT (plan1 l) := hm
    have ht : l[m]? = some (txN (plan1 l) m) := getD_of_lt _ hml
    have hr := serR_at (s0 := s) ht
    have hnext := serAt_next (p := plan1 l) (s0 := s) (i := key.toNat) hml (by omega)
    have hlw := lastW_next (key := key) ht hr
    have hok := (checkTxns_zero hc).2 _ (List.mem_of_getElem? ht)
    have hkk := (right_keys hok).2
    obtain ⟨t, hte⟩ : ∃ t, t = txN (plan1 l) m := ⟨_, rfl⟩
    have hv : vOf (plan1 l) s m = readsOf (serS s (l.take m)) t := by rw [hte]; rfl
    unfold effE at hnext
    rw [hv, ← hte] at hnext
    rw [← hte] at ht hlw hr hkk
    by_cases hd : runDone t (readsOf (serS s (l.take m)) t) = true ∧ writesB t key = true
    · right
      refine ⟨m, t, by omega, ht, ?_, hd.1, writes_key.1 hd.2, hnext⟩
      rw [hlw, if_pos (by show (runDone t _ && writesB t key) = true; rw [hd.1, hd.2]; rfl)]
    · have hi : (serAt (plan1 l) s (m + 1)).getD key.toNat 0 = (serAt (plan1 l) s m).getD key.toNat 0 := by
        rw [hnext]
        by_cases h1 : runDone t (readsOf (serS s (l.take m)) t) = true
        · have h2 : ¬ key ∈ keysOf t := fun e => hd ⟨h1, writes_key.2 e⟩
          refine lastP_idle (fun q hq e => h2 ?_) _
          have hqk : q.1.key ∈ keysOf t := List.mem_map.2 ⟨q.1, (List.of_mem_zip hq).1, rfl⟩
          have := hkk _ hqk
          have e2 : q.1.key = key := by omega
          exact e2 ▸ hqk
        · have h2 : runSets t (readsOf (serS s (l.take m)) t) = [] := by unfold runSets; rw [if_neg h1]
          rw [h2, List.zip_nil_right]
          rfl
      have hl2 : lastW l (serR s l) key (m + 1) = lastW l (serR s l) key m := by
        rw [hlw, if_neg]
        intro e
        have e : (runDone t (readsOf (serS s (l.take m)) t) && writesB t key) = true := e
        rw [Bool.and_eq_true] at e
        exact hd e
      rw [hi, hl2]
      rcases lastW_says h8 hc h0 hk m (by omega) with h | ⟨k, t', a1, a2⟩
      · exact .inl h
      · exact .inr ⟨k, t', by omega, a2⟩
/- as the law asks it -/
theorem from_start {s : List Int} {l : List Txn} {key : Int} {n : Nat} (h8 : s.length = 8) (hc : checkTxns l = 0) (h0 : 0 ≤ key) (hk : key < 8) (hn : n ≤ l.length) (h : lastW l (serR s l) key n = -1) : rdF (serS s (l.take n)) key = s.getD key.toNat 0 := by
  rcases lastW_says h8 hc h0 hk n hn with ⟨_, h2⟩ | ⟨k, t, _, _, h2, _⟩
  · exact h2
  · rw [h] at h2; omega
theorem from_txn {s : List Int} {l : List Txn} {key : Int} {n : Nat} (h8 : s.length = 8) (hc : checkTxns l = 0) (h0 : 0 ≤ key) (hk : key < 8) (hn : n ≤ l.length) (h : lastW l (serR s l) key n ≠ -1) :
    ∃ k t, k < n ∧ l[k]? = some t ∧ checkTxn t = 0 ∧ lastW l (serR s l) key n = (k : Int) ∧ runDone t (readsOf (serS s (l.take k)) t) = true ∧ key ∈ keysOf t ∧ ∀ (j : Nat) (z : Int), (keysOf t)[j]? = some key → (runSets t (readsOf (serS s (l.take k)) t))[j]? = some z → rdF (serS s (l.take n)) key = z := by
  rcases lastW_says h8 hc h0 hk n hn with ⟨h2, _⟩ | ⟨k, t, a1, a2, a3, a4, a5, a6⟩
  · exact absurd h2 h
  · have hok := (checkTxns_zero hc).2 _ (List.mem_of_getElem? a2)
    refine ⟨k, t, a1, a2, hok, a3, a4, a5, fun j z hj hz => ?_⟩
    show (serS s (l.take n)).getD key.toNat 0 = z
    have a6 : (serS s (l.take n)).getD key.toNat 0 = _ := a6
    rw [a6]
    have hkk := (right_keys hok).2
    have hj2 : (t.sets.map (·.key))[j]? = some key := hj
    rw [List.getElem?_map, Option.map_eq_some_iff] at hj2
    obtain ⟨u, hu, hue⟩ := hj2
    refine lastP_one (j := j) (q := (u, z)) (List.getElem?_zip_eq_some.2 ⟨hu, hz⟩) (by rw [hue]) fun i q hq e => ?_
    have hq1 := (List.getElem?_zip_eq_some.1 hq).1
    have hqk : (keysOf t)[i]? = some q.1.key := by
      show (t.sets.map (·.key))[i]? = _
      rw [List.getElem?_map, hq1]; rfl
    have := hkk _ (List.mem_of_getElem? hqk)
    have e2 : q.1.key = key := by omega
    rw [e2] at hqk
    exact keys_one hok hqk hj
end Go.Proofs.Ytjgmbgfcffnanab
