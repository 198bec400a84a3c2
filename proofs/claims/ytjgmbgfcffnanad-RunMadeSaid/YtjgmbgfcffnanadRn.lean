/- Package run: what its answers are, plainly. No program. -/
import Derived.Test.YtjgmbgfcffnanadLocks5
import Derived.Test.YtjgmbgfcffnanadWStore
namespace Go.Proofs.Ytjgmbgfcffnanad
open Go.RowKit

def pickE (l : List Txn) : List Bool → List Int → Int
  | d, [] => if d.any (fun y => false == y) then 8 else 0
  | d, p :: ps => if p < 0 ∨ (l.length : Int) ≤ p then 5 else if d.getD p.toNat false then 7 else if readyB l d p.toNat then pickE l (d.set p.toNat true) ps else 6
def none8 (l : List Txn) : List Bool := List.replicate l.length false
def runE (s : List Int) (l : List Txn) (ps : List Int) : Int := if s.length = 8 then (if checkTxns l = 0 then (if 200 < ps.length then 2 else pickE l (none8 l) ps) else checkTxns l) else 1
def runAt (l : List Txn) (c : List Int × List Res) (p : Int) : List Int × List Res := match l[p.toNat]? with
  | some t => (applyS c.1 t, c.2.set p.toNat (applyR c.1 t))
  | none => c
def runFrom (l : List Txn) (c : List Int × List Res) (ps : List Int) : List Int × List Res := ps.foldl (runAt l) c
def runTo (s : List Int) (l : List Txn) (ps : List Int) : List Int × List Res := runFrom l (s, List.replicate l.length res0) ps
def runL (s : List Int) (l : List Txn) (ps : List Int) : List Int := if runE s l ps = 0 then (runTo s l ps).1 else []
def runV (s : List Int) (l : List Txn) (ps : List Int) : List Res := if runE s l ps = 0 then (runTo s l ps).2 else []

theorem pickE_range {l : List Txn} : ∀ {ps : List Int} {d : List Bool}, pickE l d ps = 0 → ∀ p ∈ ps, 0 ≤ p ∧ p < l.length
  | [], _, _, p, hp => by cases hp
  | p :: ps, d, h, q, hq => by
    unfold pickE at h
    split at h
    · cases h
    · split at h
      · cases h
      · split at h
        · rcases List.mem_cons.1 hq with rfl | hq
          · omega
          · exact pickE_range h q hq
        · cases h
theorem runE_zero {s : List Int} {l : List Txn} {ps : List Int} (h : runE s l ps = 0) : s.length = 8 ∧ checkTxns l = 0 ∧ ps.length ≤ 200 ∧ pickE l (none8 l) ps = 0 := by
  unfold runE at h
  split at h
  · split at h
    · split at h
      · cases h
      · exact ⟨by assumption, by assumption, by omega, h⟩
    · exact absurd h (by assumption)
  · cases h
theorem runE_of {s : List Int} {l : List Txn} {ps : List Int} (h1 : s.length = 8) (h2 : checkTxns l = 0) (h3 : ps.length ≤ 200) (h4 : pickE l (none8 l) ps = 0) : runE s l ps = 0 := by
  unfold runE; rw [if_pos h1, if_pos h2, if_neg (by omega), h4]
theorem readyTo_mem {l : List Txn} {d : List Bool} {n : Nat} {x : Int} : x ∈ readyTo l d n ↔ ∃ k : Nat, k < n ∧ x = k ∧ readyB l d k = true := by
  unfold readyTo
  rw [List.mem_flatMap]
  constructor
  · rintro ⟨k, hk, hx⟩
    split at hx
    · exact ⟨k, List.mem_range.1 hk, by simpa using hx, by assumption⟩
    · cases hx
  · rintro ⟨k, hk, rfl, hr⟩
    exact ⟨k, List.mem_range.2 hk, by rw [if_pos hr]; simp⟩
theorem readyTo_any {l : List Txn} {d : List Bool} {n : Nat} {p : Int} (h0 : 0 ≤ p) (h1 : p < n) : (readyTo l d n).any (fun y => p == y) = readyB l d p.toNat := by
  rw [Bool.eq_iff_iff, List.any_eq_true]
  constructor
  · rintro ⟨x, hx, he⟩
    obtain ⟨k, _, rfl, hr⟩ := readyTo_mem.1 hx
    have : p.toNat = k := by have : p = k := by simpa using he
                             omega
    rw [this]; exact hr
  · intro h
    exact ⟨p, readyTo_mem.2 ⟨p.toNat, by omega, by omega, h⟩, by simp⟩

theorem runAt_len {l : List Txn} {c : List Int × List Res} {p : Int} : (runAt l c p).1.length = c.1.length ∧ (runAt l c p).2.length = c.2.length := by
  unfold runAt
  split
  · exact ⟨applyS_len _ _, by simp⟩
  · exact ⟨rfl, rfl⟩
theorem runFrom_len {l : List Txn} : ∀ {ps : List Int} {c : List Int × List Res}, (runFrom l c ps).1.length = c.1.length ∧ (runFrom l c ps).2.length = c.2.length
  | [], _ => ⟨rfl, rfl⟩
  | p :: ps, c => by
    have h := runFrom_len (l := l) (ps := ps) (c := runAt l c p)
    have h2 := runAt_len (l := l) (c := c) (p := p)
    exact ⟨h.1.trans h2.1, h.2.trans h2.2⟩
theorem runTo_len {s : List Int} {l : List Txn} {ps : List Int} : (runTo s l ps).1.length = s.length ∧ (runTo s l ps).2.length = l.length := by
  have := runFrom_len (l := l) (ps := ps) (c := (s, List.replicate l.length res0))
  exact ⟨this.1, this.2.trans (by simp)⟩
theorem runTo_next {s : List Int} {l : List Txn} {ps : List Int} {k : Nat} {p : Int} {t : Txn} (hp : ps[k]? = some p) (ht : l[p.toNat]? = some t) : runTo s l (ps.take (k + 1)) = (applyS (runTo s l (ps.take k)).1 t, (runTo s l (ps.take k)).2.set p.toNat (applyR (runTo s l (ps.take k)).1 t)) := by
  rw [take_snoc hp]
  unfold runTo runFrom
  rw [List.foldl_append]
  obtain ⟨c, hc⟩ : ∃ c, c = (ps.take k).foldl (runAt l) (s, List.replicate l.length res0) := ⟨_, rfl⟩
  rw [← hc]
  show runAt l c p = _
  unfold runAt
  rw [ht]

/- what does not clash may be swapped -/
theorem putZ_get {s : List Int} : ∀ {m : List (SetT × Int)} {i : Nat}, (∀ p ∈ m, p.1.key.toNat ≠ i) → (putZ s m)[i]? = s[i]? := fun h => putZ_stays h
theorem putZ_set {i : Nat} {v : Int} : ∀ {m : List (SetT × Int)} {s : List Int}, (∀ p ∈ m, p.1.key.toNat ≠ i) → putZ (s.set i v) m = (putZ s m).set i v
  | [], _, _ => rfl
  | p :: m, s, h => by
    show putZ ((s.set i v).set p.1.key.toNat p.2) m = (putZ (s.set p.1.key.toNat p.2) m).set i v
    rw [List.set_comm _ _ (fun e => h p List.mem_cons_self e.symm), putZ_set (fun q hq => h q (List.mem_cons_of_mem _ hq))]
theorem putZ_comm : ∀ {a b : List (SetT × Int)} {s : List Int}, (∀ p ∈ a, ∀ q ∈ b, p.1.key.toNat ≠ q.1.key.toNat) → putZ (putZ s a) b = putZ (putZ s b) a
  | [], _, _, _ => rfl
  | p :: a, b, s, h => by
    show putZ (putZ (s.set p.1.key.toNat p.2) a) b = putZ ((putZ s b).set p.1.key.toNat p.2) a
    rw [putZ_comm (fun q hq => h q (List.mem_cons_of_mem _ hq)), putZ_set (fun q hq e => h p List.mem_cons_self q hq e.symm)]
theorem noclash {u t : Txn} (h : clashR u t 1 0 = false) (hu : checkTxn u = 0) : (∀ k ∈ keysOf u, k ∉ t.reads ∧ k ∉ keysOf t) ∧ ∀ k ∈ keysOf t, 0 ≤ k → k < 8 → k ∉ u.reads := by
  have key : ∀ k : Int, 0 ≤ k → k < 8 → clashAt u t k = false := fun k h0 h8 => by
    rw [Bool.eq_false_iff]
    intro hc
    have := (clashR_iff (x := u) (y := t) (m := 1) (s := 0)).2 ⟨k, h0, h8, by omega, hc⟩
    rw [h] at this; cases this
  constructor
  · intro k hk
    obtain ⟨h0, h8⟩ := (right_keys hu).2 k hk
    have hc := key k h0 h8
    unfold clashAt lkB at hc
    rw [Bool.or_eq_false_iff, writesB_iff.2 hk, Bool.true_and, Bool.or_eq_false_iff] at hc
    exact ⟨fun hr => absurd hc.1.1 (by rw [readsB_iff.2 hr]; simp), fun hw => absurd hc.1.2 (by rw [writesB_iff.2 hw]; simp)⟩
  · intro k hk h0 h8 hr
    have hc := key k h0 h8
    unfold clashAt at hc
    rw [writesB_iff.2 hk, readsB_iff.2 hr] at hc
    simp at hc
theorem reads_after {s : List Int} {u t : Txn} (hu : checkTxn u = 0) (ht : checkTxn t = 0) (h : ∀ k ∈ keysOf u, k ∉ t.reads) : readsOf (applyS s u) t = readsOf s t := by
  unfold readsOf
  refine List.map_congr_left fun k hk => ?_
  unfold rdF
  rw [List.getD_eq_getElem?_getD, List.getD_eq_getElem?_getD]
  congr 1
  unfold applyS
  refine putZ_stays fun p hp => ?_
  have hm : p.1 ∈ u.sets := (List.of_mem_zip hp).1
  have hk2 : p.1.key ∈ keysOf u := List.mem_map.2 ⟨p.1, hm, rfl⟩
  have h1 := (right_keys hu).2 _ hk2
  have h2 := (right_keys ht).1 _ hk
  intro e
  have : p.1.key = k := by omega
  rw [this] at hk2
  exact h k hk2 hk
theorem swap_ok {s : List Int} {u t : Txn} (h : clashR u t 1 0 = false) (hu : checkTxn u = 0) (ht : checkTxn t = 0) : applyR (applyS s u) t = applyR s t ∧ applyR (applyS s t) u = applyR s u ∧ applyS (applyS s u) t = applyS (applyS s t) u := by
  obtain ⟨h1, h2⟩ := noclash h hu
  have r1 : readsOf (applyS s u) t = readsOf s t := reads_after hu ht fun k hk => (h1 k hk).1
  have r2 : readsOf (applyS s t) u = readsOf s u := reads_after ht hu fun k hk => h2 k hk ((right_keys ht).2 k hk).1 ((right_keys ht).2 k hk).2
  refine ⟨by unfold applyR; rw [r1], by unfold applyR; rw [r2], ?_⟩
  show putZ (applyS s u) (t.sets.zip (runSets t (readsOf (applyS s u) t))) = putZ (applyS s t) (u.sets.zip (runSets u (readsOf (applyS s t) u)))
  rw [r1, r2]
  unfold applyS
  refine putZ_comm fun p hp q hq e => ?_
  have hp2 : p.1.key ∈ keysOf u := List.mem_map.2 ⟨p.1, (List.of_mem_zip hp).1, rfl⟩
  have hq2 : q.1.key ∈ keysOf t := List.mem_map.2 ⟨q.1, (List.of_mem_zip hq).1, rfl⟩
  have e1 := (right_keys hu).2 _ hp2
  have e2 := (right_keys ht).2 _ hq2
  have : p.1.key = q.1.key := by omega
  rw [this] at hp2
  exact (h1 _ hp2).2 hq2
theorem runAt_swap {l : List Txn} {c : List Int × List Res} {p q : Int} (hne : p.toNat ≠ q.toNat) (hl : ∀ t ∈ l, checkTxn t = 0) (h : ∀ u t, l[p.toNat]? = some u → l[q.toNat]? = some t → clashR u t 1 0 = false) : runAt l (runAt l c p) q = runAt l (runAt l c q) p := by
  unfold runAt
  cases e1 : l[p.toNat]? with
  | none => cases e2 : l[q.toNat]? <;> rfl
  | some u =>
    cases e2 : l[q.toNat]? with
    | none => rfl
    | some t =>
      obtain ⟨h1, h2, h3⟩ := swap_ok (s := c.1) (h u t e1 e2) (hl u (List.mem_of_getElem? e1)) (hl t (List.mem_of_getElem? e2))
      simp only
      rw [h1, h2, h3, List.set_comm _ _ hne]
theorem runFrom_front {l : List Txn} {p : Int} (hl : ∀ t ∈ l, checkTxn t = 0) {post : List Int} : ∀ {pre : List Int} {c : List Int × List Res}, (∀ q ∈ pre, q.toNat ≠ p.toNat ∧ ∀ u t, l[q.toNat]? = some u → l[p.toNat]? = some t → clashR u t 1 0 = false) → runFrom l c (pre ++ p :: post) = runFrom l (runAt l c p) (pre ++ post)
  | [], _, _ => rfl
  | q :: pre, c, h => by
    show runFrom l (runAt l c q) (pre ++ p :: post) = runFrom l (runAt l (runAt l c p) q) (pre ++ post)
    rw [runFrom_front hl (fun q' hq' => h q' (List.mem_cons_of_mem _ hq')), runAt_swap (h q List.mem_cons_self).1 hl (h q List.mem_cons_self).2]

/- what is still to do, in order -/
def todo (d : List Bool) (n : Nat) : List Int := (List.range n).flatMap fun (k : Nat) => if d.getD k true then [] else [(k : Int)]
theorem todo_next (d : List Bool) (n : Nat) : todo d (n + 1) = todo d n ++ if d.getD n true then [] else [(n : Int)] := by
  unfold todo; rw [List.range_succ, List.flatMap_append]; simp
theorem todo_mem {d : List Bool} {n : Nat} {x : Int} : x ∈ todo d n ↔ ∃ k : Nat, k < n ∧ x = k ∧ d.getD k true = false := by
  unfold todo
  rw [List.mem_flatMap]
  constructor
  · rintro ⟨k, hk, hx⟩
    split at hx
    · cases hx
    · rename_i hn; exact ⟨k, List.mem_range.1 hk, by simpa using hx, by rw [Bool.eq_false_iff]; exact hn⟩
  · rintro ⟨k, hk, rfl, hr⟩
    exact ⟨k, List.mem_range.2 hk, by rw [hr]; simp⟩
theorem todo_set_lt {d : List Bool} {p : Nat} : ∀ {n : Nat}, n ≤ p → todo (d.set p true) n = todo d n
  | 0, _ => rfl
  | n + 1, h => by
    rw [todo_next, todo_next, todo_set_lt (by omega)]
    congr 1
    rw [List.getD_eq_getElem?_getD, List.getD_eq_getElem?_getD, List.getElem?_set_ne (by omega)]
theorem todo_split {d : List Bool} {p : Nat} (hp : d[p]? = some false) : ∀ {n : Nat}, p < n → ∃ post, todo d n = todo d p ++ (p : Int) :: post ∧ todo (d.set p true) n = todo d p ++ post
  | 0, h => by omega
  | n + 1, h => by
    have hpl := (List.getElem?_eq_some_iff.1 hp).1
    rcases Nat.lt_or_ge p n with h1 | h1
    · obtain ⟨post, e1, e2⟩ := todo_split hp (n := n) h1
      refine ⟨post ++ (if d.getD n true then [] else [(n : Int)]), ?_, ?_⟩
      · rw [todo_next, e1]; simp
      · rw [todo_next, e2, List.getD_eq_getElem?_getD, List.getD_eq_getElem?_getD, List.getElem?_set_ne (by omega)]; simp
    · have : n = p := by omega
      subst this
      refine ⟨[], ?_, ?_⟩
      · rw [todo_next, List.getD_eq_getElem?_getD, hp]; rfl
      · rw [todo_next, todo_set_lt (Nat.le_refl _), List.getD_eq_getElem?_getD, List.getElem?_set_self hpl]; rfl
theorem todo_nil {d : List Bool} (n : Nat) (h : d.any (fun y => false == y) = false) : todo d n = [] := by
  rw [List.eq_nil_iff_forall_not_mem]
  intro x hx
  obtain ⟨k, _, rfl, hk⟩ := todo_mem.1 hx
  rw [List.getD_eq_getElem?_getD] at hk
  cases e : d[k]? with
  | none => rw [e] at hk; cases hk
  | some b =>
    rw [e] at hk
    have : b = false := hk
    subst this
    rw [List.any_eq_true.2 ⟨false, List.mem_of_getElem? e, rfl⟩] at h
    cases h
theorem legal_run {l : List Txn} (hl : ∀ t ∈ l, checkTxn t = 0) : ∀ {ps : List Int} {d : List Bool} {c : List Int × List Res}, d.length = l.length → pickE l d ps = 0 → runFrom l c ps = runFrom l c (todo d l.length)
  | [], d, c, _, h => by
    unfold pickE at h
    split at h
    · cases h
    · rename_i hn; rw [todo_nil _ (by rw [Bool.eq_false_iff]; exact hn)]
  | p :: ps, d, c, hd, h => by
    unfold pickE at h
    split at h
    · cases h
    · rename_i hr
      split at h
      · cases h
      · rename_i hf
        split at h
        · rename_i hy
          have hpl : p.toNat < l.length := by omega
          obtain ⟨t, ht⟩ := get_at hpl
          obtain ⟨b, hb⟩ := get_at (xs := d) (k := p.toNat) (by omega)
          rw [readyB_iff hd ht hb] at hy
          obtain ⟨rfl, hy⟩ := hy
          obtain ⟨post, e1, e2⟩ := todo_split hb hpl
          have hpp : ((p.toNat : Nat) : Int) = p := by omega
          rw [hpp] at e1
          rw [e1, runFrom_front hl, ← e2]
          · show runFrom l (runAt l c p) ps = _
            exact legal_run hl (by rw [List.length_set]; exact hd) h
          · intro q hq
            obtain ⟨k, hk, rfl, hkd⟩ := todo_mem.1 hq
            have hkn : ((k : Nat) : Int).toNat = k := by omega
            rw [hkn]
            refine ⟨by omega, fun u t' hu ht' => ?_⟩
            rw [ht] at ht'
            injection ht' with ht'
            subst ht'
            refine hy k u hk hu ?_
            rw [List.getD_eq_getElem?_getD] at hkd
            cases e : d[k]? with
            | none => rw [e] at hkd; cases hkd
            | some b => rw [e] at hkd; exact congrArg some hkd
        · cases h
theorem todo_none (l : List Txn) : ∀ {n : Nat}, n ≤ l.length → todo (none8 l) n = (List.range n).map (fun k : Nat => (k : Int))
  | 0, _ => rfl
  | n + 1, h => by
    rw [todo_next, todo_none l (by omega), List.range_succ, List.map_append]
    have : (none8 l).getD n true = false := by
      unfold none8
      rw [List.getD_eq_getElem?_getD, List.getElem?_replicate, if_pos (by omega)]; rfl
    rw [this]; rfl
theorem serial_run {s : List Int} {l : List Txn} : ∀ {n : Nat}, n ≤ l.length → runTo s l ((List.range n).map (fun k : Nat => (k : Int))) = (serS s (l.take n), serR s (l.take n) ++ List.replicate (l.length - n) res0)
  | 0, _ => by simp [runTo, runFrom, serS, serR]
  | n + 1, h => by
    obtain ⟨t, ht⟩ := get_at (xs := l) (k := n) (by omega)
    rw [List.range_succ, List.map_append]
    have hr := serial_run (s := s) (l := l) (n := n) (by omega)
    have : runTo s l ((List.range n).map (fun k : Nat => (k : Int)) ++ List.map (fun k : Nat => (k : Int)) [n]) = runAt l (runTo s l ((List.range n).map (fun k : Nat => (k : Int)))) n := by
      unfold runTo runFrom; rw [List.foldl_append]; rfl
    rw [this, hr]
    have ht2 : l[((n : Nat) : Int).toNat]? = some t := ht
    have hn : ((n : Nat) : Int).toNat = n := rfl
    unfold runAt
    rw [ht2, hn]
    simp only
    rw [take_snoc ht, serS_snoc, serR_snoc]
    congr 1
    have hlen : (serR s (l.take n)).length = n := by rw [serR_len, List.length_take]; omega
    rw [List.set_append_right _ _ (by omega), hlen, Nat.sub_self, show l.length - n = (l.length - (n + 1)) + 1 by omega, List.replicate_succ, List.set_cons_zero, List.append_assoc]
    rfl
theorem run_serial {s : List Int} {l : List Txn} {ps : List Int} (h : runE s l ps = 0) : (runTo s l ps).1 = serS s l ∧ (runTo s l ps).2 = serR s l := by
  obtain ⟨h1, h2, h3, h4⟩ := runE_zero h
  obtain ⟨_, hl⟩ := checkTxns_zero h2
  have h5 : runTo s l ps = runTo s l (todo (none8 l) l.length) := legal_run hl (by simp [none8]) h4
  rw [h5, todo_none l (Nat.le_refl _), serial_run (Nat.le_refl _), Nat.sub_self, List.take_length]
  simp

/- a legal order grows -/
theorem pickE_snoc {l : List Txn} : ∀ {ps : List Int} {d d' : List Bool} {p : Int}, (∀ r, pickE l d (ps ++ r) = pickE l d' r) → 0 ≤ p → p < l.length → d'.getD p.toNat false = false → readyB l d' p.toNat = true → ∀ r, pickE l d ((ps ++ [p]) ++ r) = pickE l (d'.set p.toNat true) r := fun h h0 h1 h2 h3 r => by
  rw [List.append_assoc, h]
  show pickE l _ (_ :: r) = _
  conv => lhs; unfold pickE
  rw [if_neg (by omega), h2, if_neg (by simp), if_pos h3]
theorem count_set {d : List Bool} {p : Nat} (h : d[p]? = some false) : (d.set p true).count true = d.count true + 1 := by
  induction d generalizing p with
  | nil => cases h
  | cons b d ih =>
    cases p with
    | zero =>
      have : b = false := by simpa using h
      subst this
      simp
    | succ p =>
      rw [List.set_cons_succ, List.count_cons, List.count_cons, ih (by simpa using h)]
      omega
theorem count_all {d : List Bool} (h : d.count true = d.length) : d.any (fun y => false == y) = false := by
  rw [List.count_eq_length] at h
  rw [List.any_eq_false]
  intro x hx
  rw [← h x hx]; simp
theorem count_none (l : List Txn) : (none8 l).count true = 0 := by
  unfold none8
  rw [List.count_replicate]; simp
end Go.Proofs.Ytjgmbgfcffnanad
