/- Locks of a transaction, Run. -/
import Derived.Test.YtjgmbgfcffnanadSort2
import Derived.Test.YtjgmbgfcffnanadGr
import Derived.Test.YtjgmbgfcffnanadSt
namespace Go.Proofs.Ytjgmbgfcffnanad
open Go.RowKit

def preA (t : Txn) (k : Int) : LockT := ⟨k, (keysOf t).any (fun y => k == y)⟩
def preB (t : Txn) (k : Int) : Bool := !t.reads.any (fun y => k == y)
def preL (t : Txn) (j : Nat) : List LockT := t.reads.map (preA t) ++ (((keysOf t).take j).filter (preB t)).map (fun k => ⟨k, true⟩)
def lockAt (t : Txn) (k : Int) : List LockT := if readsB t k || writesB t k then [⟨k, writesB t k⟩] else []
def locksTo (t : Txn) (n : Nat) : List LockT := (List.range n).flatMap (fun j : Nat => lockAt t j)
def locksOf (t : Txn) : List LockT := locksTo t 8
def lkL (t : Txn) : List LockT := if checkTxn t = 0 then locksOf t else []
theorem locksTo_next (t : Txn) (n : Nat) : locksTo t (n + 1) = locksTo t n ++ lockAt t n := by unfold locksTo; rw [List.range_succ, List.flatMap_append]; simp
theorem locksTo_len (t : Txn) : ∀ n, (locksTo t n).length ≤ n
  | 0 => by simp [locksTo]
  | n + 1 => by
    have := locksTo_len t n
    rw [locksTo_next, List.length_append]
    have : (lockAt t n).length ≤ 1 := by unfold lockAt; split <;> simp
    omega

def strictK (l : List LockT) : Prop := l.Pairwise (fun a b => a.key < b.key)
theorem strict_ext : ∀ {l m : List LockT}, strictK l → strictK m → (∀ x, x ∈ l ↔ x ∈ m) → l = m
  | [], [], _, _, _ => rfl
  | [], b :: m, _, _, h => by have := (h b).2 List.mem_cons_self; cases this
  | a :: l, [], _, _, h => by have := (h a).1 List.mem_cons_self; cases this
  | a :: l, b :: m, hl, hm, h => by
    unfold strictK at hl hm
    rw [List.pairwise_cons] at hl hm
    have hab : a = b := by
      rcases List.mem_cons.1 ((h a).1 List.mem_cons_self) with h1 | h1
      · exact h1
      · rcases List.mem_cons.1 ((h b).2 List.mem_cons_self) with h2 | h2
        · exact h2.symm
        · have := hl.1 b h2; have := hm.1 a h1; omega
    subst hab
    congr 1
    refine strict_ext hl.2 hm.2 fun x => ⟨fun hx => ?_, fun hx => ?_⟩
    · rcases List.mem_cons.1 ((h x).1 (List.mem_cons_of_mem _ hx)) with h1 | h1
      · subst h1; have := hl.1 x hx; omega
      · exact h1
    · rcases List.mem_cons.1 ((h x).2 (List.mem_cons_of_mem _ hx)) with h1 | h1
      · subst h1; have := hm.1 x hx; omega
      · exact h1
theorem rising_pw : ∀ {l : List Int}, rising l = true → l.Pairwise (· < ·)
  | [], _ => List.Pairwise.nil
  | [a], _ => List.pairwise_singleton _ _
  | a :: b :: l, h => by
    simp only [rising, Bool.and_eq_true, decide_eq_true_eq] at h
    have h1 := rising_pw h.2
    rw [List.pairwise_cons]
    refine ⟨fun x hx => ?_, h1⟩
    rcases List.mem_cons.1 hx with rfl | hx
    · exact h.1
    · have := (List.pairwise_cons.1 h1).1 x hx; omega
theorem any_eq {xs : List Int} {k : Int} : xs.any (fun y => k == y) = true ↔ k ∈ xs := by
  rw [List.any_eq_true]
  constructor
  · rintro ⟨x, hx, h⟩
    have : k = x := by simpa using h
    exact this ▸ hx
  · intro h; exact ⟨k, h, by simp⟩
theorem mem_preL {t : Txn} {x : LockT} : x ∈ preL t (keysOf t).length ↔ (x.key ∈ t.reads ∧ x.write = (keysOf t).any (fun y => x.key == y)) ∨ (x.key ∈ keysOf t ∧ x.key ∉ t.reads ∧ x.write = true) := by
  obtain ⟨k, w⟩ := x
  unfold preL
  rw [List.take_length, List.mem_append, List.mem_map, List.mem_map]
  constructor
  · rintro (⟨q, h1, h2⟩ | ⟨q, h1, h2⟩)
    · injection h2 with h2 h3
      subst h2 h3
      exact .inl ⟨h1, rfl⟩
    · injection h2 with h2 h3
      subst h2 h3
      rw [List.mem_filter] at h1
      refine .inr ⟨h1.1, fun h4 => ?_, rfl⟩
      have := h1.2
      unfold preB at this
      rw [any_eq.2 h4] at this
      cases this
  · rintro (⟨h1, h2⟩ | ⟨h1, h2, h3⟩)
    · refine .inl ⟨k, h1, ?_⟩
      simp only at h2
      subst h2
      rfl
    · simp only at h1 h2 h3
      subst h3
      refine .inr ⟨k, ?_, rfl⟩
      rw [List.mem_filter]
      refine ⟨h1, ?_⟩
      unfold preB
      cases e : t.reads.any (fun y => k == y) with
      | false => rfl
      | true => exact absurd (any_eq.1 e) h2
theorem mem_locksOf {t : Txn} (hok : checkTxn t = 0) {x : LockT} : x ∈ locksOf t ↔ (x.key ∈ t.reads ∨ x.key ∈ keysOf t) ∧ x.write = (keysOf t).any (fun y => x.key == y) := by
  obtain ⟨hk1, hk2⟩ := right_keys hok
  have hw : ∀ k, writesB t k = (keysOf t).any (fun y => k == y) := fun k => by
    rw [Bool.eq_iff_iff, any_eq, writesB_iff]
  obtain ⟨k, w⟩ := x
  unfold locksOf locksTo
  rw [List.mem_flatMap]
  constructor
  · rintro ⟨j, hj, h⟩
    unfold lockAt at h
    split at h
    · rename_i hc
      rw [List.mem_singleton] at h
      injection h with h1 h2
      subst h1 h2
      rw [Bool.or_eq_true, readsB_iff, writesB_iff] at hc
      exact ⟨hc, hw _⟩
    · cases h
  · rintro ⟨h1, h2⟩
    simp only at h1 h2
    have hr : 0 ≤ k ∧ k < 8 := h1.elim (hk1 k) (hk2 k)
    refine ⟨k.toNat, List.mem_range.2 (by omega), ?_⟩
    have hkk : ((k.toNat : Nat) : Int) = k := by omega
    unfold lockAt
    rw [hkk, if_pos (by rw [Bool.or_eq_true, readsB_iff, writesB_iff]; exact h1), List.mem_singleton, h2, hw]
theorem locksTo_strict (t : Txn) : ∀ n, strictK (locksTo t n) ∧ ∀ x ∈ locksTo t n, x.key < n
  | 0 => ⟨List.Pairwise.nil, fun x hx => by simp [locksTo] at hx⟩
  | n + 1 => by
    obtain ⟨h1, h2⟩ := locksTo_strict t n
    have h3 : ∀ x ∈ lockAt t n, x.key = n := fun x hx => by
      unfold lockAt at hx
      split at hx
      · have : x = ⟨n, writesB t n⟩ := by simpa using hx
        rw [this]
      · cases hx
    rw [locksTo_next]
    refine ⟨?_, fun x hx => ?_⟩
    · unfold strictK
      rw [List.pairwise_append]
      refine ⟨h1, ?_, fun a ha b hb => ?_⟩
      · unfold lockAt; split
        · exact List.pairwise_singleton _ _
        · exact List.Pairwise.nil
      · have := h2 a ha; have := h3 b hb; omega
    · rcases List.mem_append.1 hx with hx | hx
      · have := h2 x hx; omega
      · have := h3 x hx; omega
theorem preL_keys {t : Txn} (hok : checkTxn t = 0) : ((preL t (keysOf t).length).map (·.key)).Pairwise (· ≠ ·) := by
  have hr := (right_parts hok).2.2.1
  rw [Bool.and_eq_true] at hr
  have h1 := rising_pw hr.1
  have h2 := rising_pw hr.2
  unfold preL
  rw [List.take_length, List.map_append, List.map_map, List.map_map, List.pairwise_append]
  refine ⟨?_, ?_, fun a ha b hb => ?_⟩
  · rw [show ((fun x : LockT => x.key) ∘ preA t) = id from rfl, List.map_id]
    exact h1.imp (fun h => by omega)
  · rw [show ((fun x : LockT => x.key) ∘ fun k => (⟨k, true⟩ : LockT)) = id from rfl, List.map_id]
    exact (h2.filter _).imp (fun h => by omega)
  · rw [show ((fun x : LockT => x.key) ∘ preA t) = id from rfl, List.map_id] at ha
    rw [show ((fun x : LockT => x.key) ∘ fun k => (⟨k, true⟩ : LockT)) = id from rfl, List.map_id, List.mem_filter] at hb
    intro e
    subst e
    have := hb.2
    unfold preB at this
    rw [any_eq.2 ha] at this
    cases this
theorem isort_locks {t : Txn} (hok : checkTxn t = 0) : isort (preL t (keysOf t).length) = locksOf t := by
  have hp := isort_perm (preL t (keysOf t).length)
  refine strict_ext ?_ (locksTo_strict t 8).1 fun x => ?_
  · have h1 := isort_sorted (preL t (keysOf t).length)
    have h2 : ((isort (preL t (keysOf t).length)).map (·.key)).Pairwise (· ≠ ·) := ((hp.map _).pairwise_iff (fun h => Ne.symm h)).2 (preL_keys hok)
    rw [List.pairwise_map] at h2
    exact (h1.and h2).imp (fun h => by omega)
  · rw [hp.mem_iff, mem_preL, mem_locksOf hok]
    constructor
    · rintro (⟨h1, h2⟩ | ⟨h1, h2, h3⟩)
      · exact ⟨.inl h1, h2⟩
      · exact ⟨.inr h1, by rw [h3, any_eq.2 h1]⟩
    · rintro ⟨h1, h2⟩
      by_cases h3 : x.key ∈ t.reads
      · exact .inl ⟨h3, h2⟩
      · have h4 := h1.resolve_left h3
        exact .inr ⟨h4, h3, by rw [h2, any_eq.2 h4]⟩
theorem preL_len {t : Txn} (hok : checkTxn t = 0) (j : Nat) : (preL t j).length ≤ 7 := by
  obtain ⟨a, _, _, b⟩ := (right_parts hok).1
  unfold preL
  have h1 := List.length_filter_le (preB t) ((keysOf t).take j)
  have h2 : (List.take j (keysOf t)).length ≤ (keysOf t).length := by rw [List.length_take]; omega
  have h3 : (keysOf t).length = t.sets.length := by unfold keysOf; simp
  simp only [List.length_append, List.length_map]
  omega
theorem preL_next {t : Txn} {j : Nat} {k : Int} (h : (keysOf t)[j]? = some k) : preL t (j + 1) = preL t j ++ (if preB t k then [⟨k, true⟩] else []) := by
  unfold preL
  rw [List.take_add_one, h, List.filter_append, List.map_append, List.append_assoc]
  congr 2
  cases e : preB t k <;> simp [e]

set_option maxRecDepth 100000 in
theorem Locks_fn (t : Txn) (hb : TxnB t) : Fn (Cfg.mk Try.prog (ttAt ttl) ttl_ok.ok mixd) 59 [txnV t] (IV.tup [locksV (lkL t), IV.int (checkTxn t)]) := by
  refine Fn.of_wp _ Try.func59 rfl (by kernel_rfl) Try.ntmps59 rfl ?_
  intro F hD hG
  ((repeat apply WP.seq); apply WP.lreg; refine ALK.n (opn_box (eB rfl) Cs.a rfl) rfl ?_; refine nA rfl rfl ?_; refine nA rfl rfl ?_; refine ALK.nil ?_; try show WP _ _ _ _ _ _)
  ((repeat apply WP.seq); apply WP.lreg; (first | refine ALK.n (opn_load rfl (eB rfl) rfl) rfl ?_ | refine ALK.r OpR.ld rfl ?_); refine ALK.n (opn_call (txn_Check_fn _ (by assumption)) (Evs.cons Ev.a Evs.nil)) rfl ?_; refine nA rfl rfl ?_; refine ALK.nil ?_; try show WP _ _ _ _ _ _)
  ((repeat apply WP.seq); apply WP.lreg; refine nM rfl rfl ?_; refine ALK.n OpN.cm rfl ?_; refine ALK.nil ?_; try show WP _ _ _ _ _ _)
  ((repeat apply WP.seq); refine WP.cond rfl (fun h => ?_) (fun h => ?_))
  · ((repeat apply WP.seq); apply WP.lreg; refine nM rfl rfl ?_; refine nA rfl rfl ?_; refine nA rfl rfl ?_; refine ALK.nil ?_; try show WP _ _ _ _ _ _)
    have hr : lkL t = [] := by unfold lkL; rw [if_neg (by simpa using h)]
    rw [hr]
    ((repeat apply WP.seq); refine WP.ret ?_; first | exact RetOk.one Try.results59 ResV.a | exact RetOk.tup Try.results59 rfl ResVs.a)
  (refine WP.skip ?_; show WP _ _ _ _ _ _)
  have hok : checkTxn t = 0 := by simpa using h
  obtain ⟨hz1, hz2, hz3, hz4⟩ := (right_parts hok).1
  have hkl : (keysOf t).length = t.sets.length := by unfold keysOf; simp
  ((repeat apply WP.seq); apply WP.lreg; (first | refine ALK.n (opn_load rfl (eB rfl) rfl) rfl ?_ | refine ALK.r OpR.ld rfl ?_); refine ALK.n (opn_call (txn_Keys_fn _ (by assumption)) (Evs.cons Ev.a Evs.nil)) rfl ?_; refine nA rfl rfl ?_; refine ALK.nil ?_; try show WP _ _ _ _ _ _)
  ((repeat apply WP.seq); apply WP.lreg; refine nA rfl rfl ?_; refine ALK.nil ?_; try show WP _ _ _ _ _ _)
  refine WP.shift (Shift.row0 6 102 2 cL (fun _ => rfl) rfl) ?_
  ((repeat apply WP.seq); apply WP.lreg; (first | refine ALK.n (opn_field (o := 0) rfl (eB rfl)) rfl ?_ | refine ALK.n (opn_fieldOff (o := 0) rfl (eB rfl)) rfl ?_); (first | refine ALK.n (opn_load rfl (eB rfl) rfl) rfl ?_ | refine ALK.r OpR.ld rfl ?_); refine ALK.n OpN.ln rfl ?_; refine nM rfl rfl ?_; refine ALK.nil ?_; try show WP _ _ _ _ _ _)
  ((repeat apply WP.seq); apply WP.block)
  refine WP.loop (fun k : Nat => ⟨[(21, .im (IV.int k)), (19, .im (intsV t.reads)), (20, .im (IV.int t.reads.length)), (6, .row 0 k), (5, .im (intsV (keysOf t))), (1, .im (IV.ptr (cT t)))], [(0, .row 102 2 cL ((t.reads.take k).map (preA t)))], 1⟩) (fun k => k ≤ t.reads.length) (fun k => t.reads.length - k) 0 (Nat.zero_le _) (Shift.sub [(0, 0)] rfl SubE.a SubH.a) ?_
  rintro k hk
  ((repeat apply WP.seq); apply WP.lreg; refine ALK.n OpN.cm rfl ?_; refine ALK.nil ?_; try show WP _ _ _ _ _ _)
  ((repeat apply WP.seq); refine WP.cond rfl (fun h => ?_) (fun h => ?_))
  · (refine WP.skip ?_; show WP _ _ _ _ _ _)
    have hlt : k < t.reads.length := by simpa using h
    obtain ⟨q, hq⟩ := get_at hlt
    have hn : (t.reads.take (k + 1)).map (preA t) = (t.reads.take k).map (preA t) ++ [preA t q] := by rw [List.take_add_one, hq, List.map_append]; rfl
    have hl : ((t.reads.take k).map (preA t)).length + [preA t q].length = k + 1 := by simp; omega
    ((repeat apply WP.seq); apply WP.block)
    ((repeat apply WP.seq); apply WP.lreg; refine ALK.n OpN.ix rfl ?_; (first | refine ALK.n (opn_load rfl (eB rfl) rfl) rfl ?_ | refine ALK.r OpR.ld rfl ?_); refine nA rfl rfl ?_; refine ALK.nil ?_; try show WP _ _ _ _ _ _)
    ((repeat apply WP.seq); apply WP.lreg; refine nM rfl rfl ?_; refine nM rfl rfl ?_; refine nM rfl rfl ?_; refine nM rfl rfl ?_; refine ALK.n (opn_call (Contains_fn _ _) (Evs.cons Ev.a (Evs.cons Ev.a Evs.nil))) rfl ?_; (first | refine ALK.n (opn_build rfl rfl rfl rfl (Pc rfl (eB rfl) Cs.a rfl rfl (Pc rfl (eB rfl) Cs.a rfl rfl Parts.nil))) rfl ?_ | refine ALK.n (opn_buildA rfl rfl rfl rfl rfl (Pc rfl (eB rfl) Cs.a rfl rfl (Pc rfl (eB rfl) Cs.a rfl rfl Parts.nil))) rfl ?_); refine ALK.n (opn_slit rfl rfl rfl rfl rfl rfl (Pc rfl (eB rfl) Cs.a rfl rfl Parts.nil) rfl) rfl ?_; refine ALK.e (ope_append (b := 16) [preA t q] rfl rfl rfl rfl rfl (eB rfl) (eB rfl) rfl rfl (by simp; omega) rfl) rfl rfl ?_; refine nA rfl rfl ?_; refine ALK.nil ?_; try show WP _ _ _ _ _ _)
    ((repeat apply WP.seq); apply WP.lreg; refine ALK.n OpN.ar rfl ?_; refine nM rfl rfl ?_; refine ALK.nil ?_; try show WP _ _ _ _ _ _)
    show ∃ _, _ ∧ _ ∧ _
    exact ⟨k + 1, by omega, by omega, Shift.sub [(0, 1)] rfl SubE.a (SubH.cons rfl rfl (ObLe.row hn.symm) SubH.nil)⟩
  · ((repeat apply WP.seq); refine WP.exit ?_; show WP _ _ _ _ _ _)
    have hk2 : k = t.reads.length := by simp at h; omega
    subst hk2
    rw [List.take_length]
    ((repeat apply WP.seq); apply WP.lreg; refine nM rfl rfl ?_; refine ALK.n OpN.ln rfl ?_; refine nM rfl rfl ?_; refine ALK.nil ?_; try show WP _ _ _ _ _ _)
    ((repeat apply WP.seq); apply WP.block)
    refine WP.loop (fun j : Nat => ⟨[(36, .im (IV.int j)), (34, .im (intsV (keysOf t))), (35, .im (IV.int (keysOf t).length)), (6, .row 0 (preL t j).length), (1, .im (IV.ptr (cT t)))], [(0, .row 102 2 cL (preL t j))], 1⟩) (fun j => j ≤ (keysOf t).length) (fun j => (keysOf t).length - j) 0 (Nat.zero_le _) (Shift.sub [(0, 0)] rfl (by repeat (first | exact SubE.nil | refine SubE.cons rfl (by first | exact SLe.row rfl (by simp [preL]; done) | exact SLe.a) ?_)) (SubH.cons rfl rfl (ObLe.row (by simp [preL])) SubH.nil)) ?_
    rintro j hj
    have hpl := preL_len hok j
    ((repeat apply WP.seq); apply WP.lreg; refine ALK.n OpN.cm rfl ?_; refine ALK.nil ?_; try show WP _ _ _ _ _ _)
    ((repeat apply WP.seq); refine WP.cond rfl (fun h => ?_) (fun h => ?_))
    · (refine WP.skip ?_; show WP _ _ _ _ _ _)
      have hlt : j < (keysOf t).length := by simpa using h
      obtain ⟨q, hq⟩ := get_at hlt
      have hn := preL_next hq
      ((repeat apply WP.seq); apply WP.block)
      ((repeat apply WP.seq); apply WP.lreg; refine ALK.n OpN.ix rfl ?_; (first | refine ALK.n (opn_load rfl (eB rfl) rfl) rfl ?_ | refine ALK.r OpR.ld rfl ?_); refine nA rfl rfl ?_; refine ALK.nil ?_; try show WP _ _ _ _ _ _)
      ((repeat apply WP.seq); apply WP.lreg; (first | refine ALK.n (opn_field (o := 0) rfl (eB rfl)) rfl ?_ | refine ALK.n (opn_fieldOff (o := 0) rfl (eB rfl)) rfl ?_); (first | refine ALK.n (opn_load rfl (eB rfl) rfl) rfl ?_ | refine ALK.r OpR.ld rfl ?_); refine nM rfl rfl ?_; refine ALK.n (opn_call (Contains_fn _ _) (Evs.cons Ev.a (Evs.cons Ev.a Evs.nil))) rfl ?_; refine ALK.n (opn_not (eB rfl)) rfl ?_; refine ALK.nil ?_; try show WP _ _ _ _ _ _)
      ((repeat apply WP.seq); refine WP.cond rfl (fun h => ?_) (fun h => ?_))
      · rw [show preB t q = true from h, if_pos rfl] at hn
        have hl : (preL t j).length + [(⟨q, true⟩ : LockT)].length = (preL t (j + 1)).length := by rw [hn, List.length_append]
        ((repeat apply WP.seq); apply WP.lreg; refine nM rfl rfl ?_; refine nM rfl rfl ?_; (first | refine ALK.n (opn_build rfl rfl rfl rfl (Pc rfl (eB rfl) Cs.a rfl rfl (Pc rfl (eB rfl) Cs.a rfl rfl Parts.nil))) rfl ?_ | refine ALK.n (opn_buildA rfl rfl rfl rfl rfl (Pc rfl (eB rfl) Cs.a rfl rfl (Pc rfl (eB rfl) Cs.a rfl rfl Parts.nil))) rfl ?_); refine ALK.n (opn_slit rfl rfl rfl rfl rfl rfl (Pc rfl (eB rfl) Cs.a rfl rfl Parts.nil) rfl) rfl ?_; refine ALK.e (ope_append (b := 16) [(⟨q, true⟩ : LockT)] rfl rfl rfl rfl rfl (eB rfl) (eB rfl) rfl rfl (by simp only [List.length_cons, List.length_nil]; omega) rfl) rfl rfl ?_; refine nA rfl rfl ?_; refine ALK.nil ?_; try show WP _ _ _ _ _ _)
        ((repeat apply WP.seq); apply WP.lreg; refine ALK.n OpN.ar rfl ?_; refine nM rfl rfl ?_; refine ALK.nil ?_; try show WP _ _ _ _ _ _)
        show ∃ _, _ ∧ _ ∧ _
        exact ⟨j + 1, by omega, by omega, Shift.sub [(0, 1)] rfl SubE.a (SubH.cons rfl rfl (ObLe.row hn.symm) SubH.nil)⟩
      · (refine WP.skip ?_; show WP _ _ _ _ _ _)
        rw [show preB t q = false from h, if_neg (by simp), List.append_nil] at hn
        rw [← hn]
        ((repeat apply WP.seq); apply WP.lreg; refine ALK.n OpN.ar rfl ?_; refine nM rfl rfl ?_; refine ALK.nil ?_; try show WP _ _ _ _ _ _)
        show ∃ _, _ ∧ _ ∧ _
        exact ⟨j + 1, by omega, by omega, (Shift.sub [(0, 0)] rfl SubE.a SubH.a)⟩
    · ((repeat apply WP.seq); refine WP.exit ?_; show WP _ _ _ _ _ _)
      have hj2 : j = (keysOf t).length := by simp at h; omega
      subst hj2
      ((repeat apply WP.seq); apply WP.lreg; refine nM rfl rfl ?_; refine ALK.e (ope_callE [0] (SortFunc_fn (preL t (keysOf t).length) (by omega) 65 Locks1_fn) EvsS.a rfl rfl rfl HIn.a) rfl rfl ?_; refine ALK.nil ?_; try show WP _ _ _ _ _ _)
      rw [isort_locks hok]
      refine WP.shift (Shift.frzRow 6 rfl rfl) ?_
      ((repeat apply WP.seq); apply WP.lreg; refine nM rfl rfl ?_; refine nA rfl rfl ?_; refine nA rfl rfl ?_; refine ALK.nil ?_; try show WP _ _ _ _ _ _)
      have hr : lkL t = locksOf t := by unfold lkL; rw [if_pos hok]
      rw [hr, hok]
      ((repeat apply WP.seq); refine WP.ret ?_; first | exact RetOk.one Try.results59 ResV.a | exact RetOk.tup Try.results59 rfl ResVs.a)

end Go.Proofs.Ytjgmbgfcffnanad
