/- Small functions of the reference, lists of transactions, plans. -/
import Derived.Test.YtjgmbgfcffnanabBr
import Derived.Test.YtjgmbgfcffnanabLB
namespace Go.Proofs.Ytjgmbgfcffnanab
open Go.RowKit

set_option maxRecDepth 100000 in
theorem within_fn (n l h : Int) : Fn (Cfg.mk Try.prog (ttAt ttl) ttl_ok.ok mixd) 52 [IV.int n, IV.int l, IV.int h] (IV.bool (decide (n ≥ l) && decide (n ≤ h))) := by
  refine Fn.of_wp _ Try.func52 rfl (by kernel_rfl) Try.ntmps52 rfl ?_
  intro F hD hG
  ((repeat apply WP.seq); apply WP.lreg; refine nA rfl rfl ?_; refine ALK.nil ?_; try show WP _ _ _ _ _ _)
  ((repeat apply WP.seq); apply WP.lreg; refine nM rfl rfl ?_; refine nM rfl rfl ?_; refine ALK.n OpN.cm rfl ?_; refine nM rfl rfl ?_; refine gM rfl rfl rfl rfl ?_; refine gM rfl rfl rfl rfl ?_; (first | refine ALK.g (fun hb => opn_cmp (eC rfl hb) (eC rfl hb) rfl) rfl rfl rfl ?_ | refine ALK.g (fun hb => opn_cmpB rfl (eC rfl hb) (eC rfl hb) rfl) rfl rfl rfl ?_); refine ALK.n (opn_pick_and (eB rfl) rfl (fun hb2 => by first | exact hb2 | (rw [hb, hb2]; rfl) | simp_all [gd]) rfl) rfl ?_; refine nA rfl rfl ?_; refine ALK.nil ?_; try show WP _ _ _ _ _ _)
  ((repeat apply WP.seq); refine WP.ret ?_; first | exact RetOk.one Try.results52 ResV.a | exact RetOk.tup Try.results52 rfl ResVs.a)

theorem get_at {α : Type} {xs : List α} {k : Nat} (h : k < xs.length) : ∃ x, xs[k]? = some x := ⟨_, List.getElem?_eq_getElem h⟩

set_option maxRecDepth 100000 in
theorem SameInts_fn (xs ys : List Int) : Fn (Cfg.mk Try.prog (ttAt ttl) ttl_ok.ok mixd) 26 [intsV xs, intsV ys] (IV.bool (decide (xs = ys))) := by
  refine Fn.of_wp _ Try.func26 rfl (by kernel_rfl) Try.ntmps26 rfl ?_
  intro F hD hG
  refine WP.len 0 rfl (fun hl1 => ?_)
  refine WP.len 1 rfl (fun hl2 => ?_)
  ((repeat apply WP.seq); apply WP.lreg; refine nA rfl rfl ?_; refine ALK.nil ?_; try show WP _ _ _ _ _ _)
  ((repeat apply WP.seq); apply WP.lreg; refine nM rfl rfl ?_; refine ALK.n OpN.ln rfl ?_; refine nM rfl rfl ?_; refine ALK.n OpN.ln rfl ?_; refine ALK.n OpN.cm rfl ?_; refine ALK.nil ?_; try show WP _ _ _ _ _ _)
  ((repeat apply WP.seq); refine WP.cond rfl (fun h => ?_) (fun h => ?_))
  · ((repeat apply WP.seq); apply WP.lreg; refine nA rfl rfl ?_; refine ALK.nil ?_; try show WP _ _ _ _ _ _)
    have hr : decide (xs = ys) = false := by
      simp only [bne_iff_ne, ne_eq] at h
      exact decide_eq_false fun e => h (by rw [e])
    ((repeat apply WP.seq); refine WP.ret ?_; first | exact RetOk.one Try.results26 ResV.a | exact RetOk.tup Try.results26 rfl ResVs.a)
  (refine WP.skip ?_; show WP _ _ _ _ _ _)
  have hlen : xs.length = ys.length := by simp at h; omega
  ((repeat apply WP.seq); apply WP.lreg; refine nA rfl rfl ?_; refine ALK.nil ?_; try show WP _ _ _ _ _ _)
  ((repeat apply WP.seq); apply WP.block)
  refine WP.loop (fun k : Nat => ⟨[(5, .im (IV.int k)), (0, .im (intsV xs)), (1, .im (intsV ys))], [], 0⟩) (fun k => k ≤ xs.length ∧ xs.take k = ys.take k) (fun k => xs.length - k) 0 ⟨Nat.zero_le _, rfl⟩ (Shift.sub [] rfl SubE.a SubH.nil) ?_
  rintro k ⟨hk, he⟩
  ((repeat apply WP.seq); apply WP.lreg; refine nM rfl rfl ?_; refine nM rfl rfl ?_; refine ALK.n OpN.ln rfl ?_; refine ALK.n OpN.cm rfl ?_; refine ALK.nil ?_; try show WP _ _ _ _ _ _)
  ((repeat apply WP.seq); refine WP.cond rfl (fun h => ?_) (fun h => ?_))
  · (refine WP.skip ?_; show WP _ _ _ _ _ _)
    have hlt : k < xs.length := by simpa using h
    obtain ⟨x, hx⟩ := get_at hlt
    obtain ⟨y, hy⟩ := get_at (xs := ys) (k := k) (by omega)
    ((repeat apply WP.seq); apply WP.block)
    ((repeat apply WP.seq); apply WP.ldraw; refine nM rfl rfl ?_; refine nM rfl rfl ?_; refine ALK.n OpN.ix rfl ?_; (first | refine ALK.n (opn_load rfl (eB rfl) rfl) rfl ?_ | refine ALK.r OpR.ld rfl ?_); refine nM rfl rfl ?_; refine nM rfl rfl ?_; refine ALK.n OpN.ix rfl ?_; (first | refine ALK.n (opn_load rfl (eB rfl) rfl) rfl ?_ | refine ALK.r OpR.ld rfl ?_); refine ALK.n OpN.cm rfl ?_; refine ALK.nilD (by kernel_rfl) ?_; try show WP _ _ _ _ _ _)
    ((repeat apply WP.seq); refine WP.cond rfl (fun h => ?_) (fun h => ?_))
    · ((repeat apply WP.seq); apply WP.lreg; refine nA rfl rfl ?_; refine ALK.nil ?_; try show WP _ _ _ _ _ _)
      have hr : decide (xs = ys) = false := by
        refine decide_eq_false fun e => ?_
        subst e
        rw [hx] at hy
        injection hy with hy
        subst hy
        simp at h
      ((repeat apply WP.seq); refine WP.ret ?_; first | exact RetOk.one Try.results26 ResV.a | exact RetOk.tup Try.results26 rfl ResVs.a)
    (refine WP.skip ?_; show WP _ _ _ _ _ _)
    ((repeat apply WP.seq); apply WP.lreg; refine nM rfl rfl ?_; refine ALK.n OpN.ar rfl ?_; refine nA rfl rfl ?_; refine ALK.nil ?_; try show WP _ _ _ _ _ _)
    show ∃ _, _ ∧ _ ∧ _
    refine ⟨k + 1, ⟨by omega, ?_⟩, by omega, (Shift.sub [] rfl SubE.a SubH.nil)⟩
    rw [List.take_add_one, List.take_add_one, he, hx, hy]
    simp at h
    rw [h]
  · ((repeat apply WP.seq); refine WP.exit ?_; show WP _ _ _ _ _ _)
    ((repeat apply WP.seq); apply WP.lreg; refine nA rfl rfl ?_; refine ALK.nil ?_; try show WP _ _ _ _ _ _)
    have hr : decide (xs = ys) = true := by
      have : ¬ k < xs.length := by simpa using h
      rw [List.take_of_length_le (by omega), List.take_of_length_le (by omega)] at he
      exact decide_eq_true he
    ((repeat apply WP.seq); refine WP.ret ?_; first | exact RetOk.one Try.results26 ResV.a | exact RetOk.tup Try.results26 rfl ResVs.a)

def cB (b : Bool) : List IV := [IV.bool b]
abbrev boolsV (xs : List Bool) : IV := IV.view 1 cB xs
set_option maxRecDepth 100000 in
theorem SameBools_fn (xs ys : List Bool) : Fn (Cfg.mk Try.prog (ttAt ttl) ttl_ok.ok mixd) 86 [boolsV xs, boolsV ys] (IV.bool (decide (xs = ys))) := by
  refine Fn.of_wp _ Try.func86 rfl (by kernel_rfl) Try.ntmps86 rfl ?_
  intro F hD hG
  refine WP.len 0 rfl (fun hl1 => ?_)
  refine WP.len 1 rfl (fun hl2 => ?_)
  ((repeat apply WP.seq); apply WP.lreg; refine nA rfl rfl ?_; refine ALK.nil ?_; try show WP _ _ _ _ _ _)
  ((repeat apply WP.seq); apply WP.lreg; refine nM rfl rfl ?_; refine ALK.n OpN.ln rfl ?_; refine nM rfl rfl ?_; refine ALK.n OpN.ln rfl ?_; refine ALK.n OpN.cm rfl ?_; refine ALK.nil ?_; try show WP _ _ _ _ _ _)
  ((repeat apply WP.seq); refine WP.cond rfl (fun h => ?_) (fun h => ?_))
  · ((repeat apply WP.seq); apply WP.lreg; refine nA rfl rfl ?_; refine ALK.nil ?_; try show WP _ _ _ _ _ _)
    have hr : decide (xs = ys) = false := by
      simp only [bne_iff_ne, ne_eq] at h
      exact decide_eq_false fun e => h (by rw [e])
    ((repeat apply WP.seq); refine WP.ret ?_; first | exact RetOk.one Try.results86 ResV.a | exact RetOk.tup Try.results86 rfl ResVs.a)
  (refine WP.skip ?_; show WP _ _ _ _ _ _)
  have hlen : xs.length = ys.length := by simp at h; omega
  ((repeat apply WP.seq); apply WP.lreg; refine nA rfl rfl ?_; refine ALK.nil ?_; try show WP _ _ _ _ _ _)
  ((repeat apply WP.seq); apply WP.block)
  refine WP.loop (fun k : Nat => ⟨[(5, .im (IV.int k)), (0, .im (boolsV xs)), (1, .im (boolsV ys))], [], 0⟩) (fun k => k ≤ xs.length ∧ xs.take k = ys.take k) (fun k => xs.length - k) 0 ⟨Nat.zero_le _, rfl⟩ (Shift.sub [] rfl SubE.a SubH.nil) ?_
  rintro k ⟨hk, he⟩
  ((repeat apply WP.seq); apply WP.lreg; refine nM rfl rfl ?_; refine nM rfl rfl ?_; refine ALK.n OpN.ln rfl ?_; refine ALK.n OpN.cm rfl ?_; refine ALK.nil ?_; try show WP _ _ _ _ _ _)
  ((repeat apply WP.seq); refine WP.cond rfl (fun h => ?_) (fun h => ?_))
  · (refine WP.skip ?_; show WP _ _ _ _ _ _)
    have hlt : k < xs.length := by simpa using h
    obtain ⟨x, hx⟩ := get_at hlt
    obtain ⟨y, hy⟩ := get_at (xs := ys) (k := k) (by omega)
    ((repeat apply WP.seq); apply WP.block)
    ((repeat apply WP.seq); apply WP.ldraw; refine nM rfl rfl ?_; refine nM rfl rfl ?_; refine ALK.n OpN.ix rfl ?_; (first | refine ALK.n (opn_load rfl (eB rfl) rfl) rfl ?_ | refine ALK.r OpR.ld rfl ?_); refine nM rfl rfl ?_; refine nM rfl rfl ?_; refine ALK.n OpN.ix rfl ?_; (first | refine ALK.n (opn_load rfl (eB rfl) rfl) rfl ?_ | refine ALK.r OpR.ld rfl ?_); refine ALK.n OpN.cm rfl ?_; refine ALK.nilD (by kernel_rfl) ?_; try show WP _ _ _ _ _ _)
    ((repeat apply WP.seq); refine WP.cond rfl (fun h => ?_) (fun h => ?_))
    · ((repeat apply WP.seq); apply WP.lreg; refine nA rfl rfl ?_; refine ALK.nil ?_; try show WP _ _ _ _ _ _)
      have hr : decide (xs = ys) = false := by
        refine decide_eq_false fun e => ?_
        subst e
        rw [hx] at hy
        injection hy with hy
        subst hy
        simp at h
      ((repeat apply WP.seq); refine WP.ret ?_; first | exact RetOk.one Try.results86 ResV.a | exact RetOk.tup Try.results86 rfl ResVs.a)
    (refine WP.skip ?_; show WP _ _ _ _ _ _)
    ((repeat apply WP.seq); apply WP.lreg; refine nM rfl rfl ?_; refine ALK.n OpN.ar rfl ?_; refine nA rfl rfl ?_; refine ALK.nil ?_; try show WP _ _ _ _ _ _)
    show ∃ _, _ ∧ _ ∧ _
    refine ⟨k + 1, ⟨by omega, ?_⟩, by omega, (Shift.sub [] rfl SubE.a SubH.nil)⟩
    rw [List.take_add_one, List.take_add_one, he, hx, hy]
    simp at h
    rw [h]
  · ((repeat apply WP.seq); refine WP.exit ?_; show WP _ _ _ _ _ _)
    ((repeat apply WP.seq); apply WP.lreg; refine nA rfl rfl ?_; refine ALK.nil ?_; try show WP _ _ _ _ _ _)
    have hr : decide (xs = ys) = true := by
      have : ¬ k < xs.length := by simpa using h
      rw [List.take_of_length_le (by omega), List.take_of_length_le (by omega)] at he
      exact decide_eq_true he
    ((repeat apply WP.seq); refine WP.ret ?_; first | exact RetOk.one Try.results86 ResV.a | exact RetOk.tup Try.results86 rfl ResVs.a)

/- does a transaction read a key, set it? -/
def readsB (t : Txn) (k : Int) : Bool := t.reads.any (· == k)
def writesB (t : Txn) (k : Int) : Bool := (keysOf t).any (· == k)
theorem any_take {α : Type} {p : α → Bool} {xs : List α} {k : Nat} {x : α} (hx : xs[k]? = some x) (h : (xs.take k).any p = false) (hp : p x = false) : (xs.take (k + 1)).any p = false := by
  rw [take_push hx, List.any_append, h]; simp [hp]
theorem any_at {α : Type} {p : α → Bool} {xs : List α} {k : Nat} {x : α} (hx : xs[k]? = some x) (hp : p x = true) : xs.any p = true := List.any_eq_true.2 ⟨x, List.mem_of_getElem? hx, hp⟩
set_option maxRecDepth 100000 in
theorem ref_reads_fn (t : Txn) (key : Int) : Fn (Cfg.mk Try.prog (ttAt ttl) ttl_ok.ok mixd) 123 [txnV t, IV.int key] (IV.bool (readsB t key)) := by
  refine Fn.of_wp _ Try.func123 rfl (by kernel_rfl) Try.ntmps123 rfl ?_
  intro F hD hG
  ((repeat apply WP.seq); apply WP.lreg; refine ALK.n (opn_box (eB rfl) Cs.a rfl) rfl ?_; refine nA rfl rfl ?_; refine ALK.nil ?_; try show WP _ _ _ _ _ _)
  ((repeat apply WP.seq); apply WP.lreg; refine nA rfl rfl ?_; refine ALK.nil ?_; try show WP _ _ _ _ _ _)
  ((repeat apply WP.seq); apply WP.block)
  refine WP.loop (fun k : Nat => ⟨[(5, .im (IV.int k)), (1, .im (IV.int key)), (2, .im (IV.ptr (cT t)))], [], 0⟩) (fun k => k ≤ t.reads.length ∧ (t.reads.take k).any (· == key) = false) (fun k => t.reads.length - k) 0 ⟨Nat.zero_le _, rfl⟩ (Shift.sub [] rfl SubE.a SubH.nil) ?_
  rintro k ⟨hk, he⟩
  ((repeat apply WP.seq); apply WP.lreg; refine nM rfl rfl ?_; (first | refine ALK.n (opn_field (o := 0) rfl (eB rfl)) rfl ?_ | refine ALK.n (opn_fieldOff (o := 0) rfl (eB rfl)) rfl ?_); (first | refine ALK.n (opn_load rfl (eB rfl) rfl) rfl ?_ | refine ALK.r OpR.ld rfl ?_); refine ALK.n OpN.ln rfl ?_; refine ALK.n OpN.cm rfl ?_; refine ALK.nil ?_; try show WP _ _ _ _ _ _)
  refine WP.len 8 rfl (fun hl => ?_)
  ((repeat apply WP.seq); refine WP.cond rfl (fun h => ?_) (fun h => ?_))
  · (refine WP.skip ?_; show WP _ _ _ _ _ _)
    have hlt : k < t.reads.length := by simpa using h
    obtain ⟨x, hx⟩ := get_at hlt
    ((repeat apply WP.seq); apply WP.block)
    ((repeat apply WP.seq); apply WP.lreg; (first | refine ALK.n (opn_field (o := 0) rfl (eB rfl)) rfl ?_ | refine ALK.n (opn_fieldOff (o := 0) rfl (eB rfl)) rfl ?_); (first | refine ALK.n (opn_load rfl (eB rfl) rfl) rfl ?_ | refine ALK.r OpR.ld rfl ?_); refine nM rfl rfl ?_; refine ALK.n OpN.ix rfl ?_; (first | refine ALK.n (opn_load rfl (eB rfl) rfl) rfl ?_ | refine ALK.r OpR.ld rfl ?_); refine nM rfl rfl ?_; refine ALK.n OpN.cm rfl ?_; refine ALK.nil ?_; try show WP _ _ _ _ _ _)
    ((repeat apply WP.seq); refine WP.cond rfl (fun h => ?_) (fun h => ?_))
    · ((repeat apply WP.seq); apply WP.lreg; refine nA rfl rfl ?_; refine ALK.nil ?_; try show WP _ _ _ _ _ _)
      have hr : readsB t key = true := any_at hx h
      ((repeat apply WP.seq); refine WP.ret ?_; first | exact RetOk.one Try.results123 ResV.a | exact RetOk.tup Try.results123 rfl ResVs.a)
    (refine WP.skip ?_; show WP _ _ _ _ _ _)
    ((repeat apply WP.seq); apply WP.lreg; refine nM rfl rfl ?_; refine ALK.n OpN.ar rfl ?_; refine nA rfl rfl ?_; refine ALK.nil ?_; try show WP _ _ _ _ _ _)
    show ∃ _, _ ∧ _ ∧ _
    exact ⟨k + 1, ⟨by omega, any_take hx he h⟩, by omega, (Shift.sub [] rfl SubE.a SubH.nil)⟩
  · ((repeat apply WP.seq); refine WP.exit ?_; show WP _ _ _ _ _ _)
    ((repeat apply WP.seq); apply WP.lreg; refine nA rfl rfl ?_; refine ALK.nil ?_; try show WP _ _ _ _ _ _)
    have hr : readsB t key = false := by
      have : ¬ k < t.reads.length := by simpa using h
      rwa [List.take_of_length_le (by omega)] at he
    ((repeat apply WP.seq); refine WP.ret ?_; first | exact RetOk.one Try.results123 ResV.a | exact RetOk.tup Try.results123 rfl ResVs.a)
set_option maxRecDepth 100000 in
theorem ref_writes_fn (t : Txn) (key : Int) : Fn (Cfg.mk Try.prog (ttAt ttl) ttl_ok.ok mixd) 73 [txnV t, IV.int key] (IV.bool (writesB t key)) := by
  refine Fn.of_wp _ Try.func73 rfl (by kernel_rfl) Try.ntmps73 rfl ?_
  intro F hD hG
  ((repeat apply WP.seq); apply WP.lreg; refine ALK.n (opn_box (eB rfl) Cs.a rfl) rfl ?_; refine nA rfl rfl ?_; refine ALK.nil ?_; try show WP _ _ _ _ _ _)
  ((repeat apply WP.seq); apply WP.lreg; refine nA rfl rfl ?_; refine ALK.nil ?_; try show WP _ _ _ _ _ _)
  ((repeat apply WP.seq); apply WP.block)
  refine WP.loop (fun k : Nat => ⟨[(5, .im (IV.int k)), (1, .im (IV.int key)), (2, .im (IV.ptr (cT t)))], [], 0⟩) (fun k => k ≤ t.sets.length ∧ (t.sets.take k).any (·.key == key) = false) (fun k => t.sets.length - k) 0 ⟨Nat.zero_le _, rfl⟩ (Shift.sub [] rfl SubE.a SubH.nil) ?_
  rintro k ⟨hk, he⟩
  ((repeat apply WP.seq); apply WP.lreg; refine nM rfl rfl ?_; (first | refine ALK.n (opn_field (o := 2) rfl (eB rfl)) rfl ?_ | refine ALK.n (opn_fieldOff (o := 2) rfl (eB rfl)) rfl ?_); (first | refine ALK.n (opn_load rfl (eB rfl) rfl) rfl ?_ | refine ALK.r OpR.ld rfl ?_); refine ALK.n OpN.ln rfl ?_; refine ALK.n OpN.cm rfl ?_; refine ALK.nil ?_; try show WP _ _ _ _ _ _)
  refine WP.len 8 rfl (fun hl => ?_)
  ((repeat apply WP.seq); refine WP.cond rfl (fun h => ?_) (fun h => ?_))
  · (refine WP.skip ?_; show WP _ _ _ _ _ _)
    have hlt : k < t.sets.length := by simpa using h
    obtain ⟨x, hx⟩ := get_at hlt
    ((repeat apply WP.seq); apply WP.block)
    ((repeat apply WP.seq); apply WP.lreg; (first | refine ALK.n (opn_field (o := 2) rfl (eB rfl)) rfl ?_ | refine ALK.n (opn_fieldOff (o := 2) rfl (eB rfl)) rfl ?_); (first | refine ALK.n (opn_load rfl (eB rfl) rfl) rfl ?_ | refine ALK.r OpR.ld rfl ?_); refine nM rfl rfl ?_; refine ALK.n OpN.ix rfl ?_; (first | refine ALK.n (opn_field (o := 0) rfl (eB rfl)) rfl ?_ | refine ALK.n (opn_fieldOff (o := 0) rfl (eB rfl)) rfl ?_); (first | refine ALK.n (opn_load rfl (eB rfl) rfl) rfl ?_ | refine ALK.r OpR.ld rfl ?_); refine nM rfl rfl ?_; refine ALK.n OpN.cm rfl ?_; refine ALK.nil ?_; try show WP _ _ _ _ _ _)
    ((repeat apply WP.seq); refine WP.cond rfl (fun h => ?_) (fun h => ?_))
    · ((repeat apply WP.seq); apply WP.lreg; refine nA rfl rfl ?_; refine ALK.nil ?_; try show WP _ _ _ _ _ _)
      have hr : writesB t key = true := by
        unfold writesB keysOf; rw [List.any_map]; exact any_at (p := fun s : SetT => s.key == key) hx h
      ((repeat apply WP.seq); refine WP.ret ?_; first | exact RetOk.one Try.results73 ResV.a | exact RetOk.tup Try.results73 rfl ResVs.a)
    (refine WP.skip ?_; show WP _ _ _ _ _ _)
    ((repeat apply WP.seq); apply WP.lreg; refine nM rfl rfl ?_; refine ALK.n OpN.ar rfl ?_; refine nA rfl rfl ?_; refine ALK.nil ?_; try show WP _ _ _ _ _ _)
    show ∃ _, _ ∧ _ ∧ _
    exact ⟨k + 1, ⟨by omega, any_take (p := fun s : SetT => s.key == key) hx he h⟩, by omega, (Shift.sub [] rfl SubE.a SubH.nil)⟩
  · ((repeat apply WP.seq); refine WP.exit ?_; show WP _ _ _ _ _ _)
    ((repeat apply WP.seq); apply WP.lreg; refine nA rfl rfl ?_; refine ALK.nil ?_; try show WP _ _ _ _ _ _)
    have hr : writesB t key = false := by
      have : ¬ k < t.sets.length := by simpa using h
      rw [List.take_of_length_le (by omega)] at he
      unfold writesB keysOf; rw [List.any_map]; exact he
    ((repeat apply WP.seq); refine WP.ret ?_; first | exact RetOk.one Try.results73 ResV.a | exact RetOk.tup Try.results73 rfl ResVs.a)

/- lists of transactions -/
abbrev txsV (l : List Txn) : IV := IV.view 3 cT l
def TxsB (l : List Txn) : Prop := ∀ t ∈ l, TxnB t
set_option maxRecDepth 100000 in
theorem store_Txns_fn (l : List Txn) (hb : TxsB l) : Fn (Cfg.mk Try.prog (ttAt ttl) ttl_ok.ok mixd) 78 [txsV l] (IV.int (checkTxns l)) := by
  refine Fn.of_wp _ Try.func78 rfl (by kernel_rfl) Try.ntmps78 rfl ?_
  intro F hD hG
  refine WP.len 0 rfl (fun hl1 => ?_)
  ((repeat apply WP.seq); apply WP.lreg; refine nA rfl rfl ?_; refine ALK.nil ?_; try show WP _ _ _ _ _ _)
  ((repeat apply WP.seq); apply WP.lreg; refine nM rfl rfl ?_; refine ALK.n OpN.ln rfl ?_; refine ALK.n OpN.cm rfl ?_; refine ALK.nil ?_; try show WP _ _ _ _ _ _)
  ((repeat apply WP.seq); refine WP.cond rfl (fun h => ?_) (fun h => ?_))
  · ((repeat apply WP.seq); apply WP.lreg; refine nA rfl rfl ?_; refine ALK.nil ?_; try show WP _ _ _ _ _ _)
    have hr : checkTxns l = 2 := by unfold checkTxns; rw [if_pos (by simp at h; omega)]
    ((repeat apply WP.seq); refine WP.ret ?_; first | exact RetOk.one Try.results78 ResV.a | exact RetOk.tup Try.results78 rfl ResVs.a)
  (refine WP.skip ?_; show WP _ _ _ _ _ _)
  have hdef : checkTxns l = fe (l.flatMap txErrs) := by unfold checkTxns; rw [if_neg (by simp at h; omega)]
  ((repeat apply WP.seq); apply WP.lreg; refine nM rfl rfl ?_; refine ALK.n OpN.ln rfl ?_; refine nM rfl rfl ?_; refine ALK.nil ?_; try show WP _ _ _ _ _ _)
  ((repeat apply WP.seq); apply WP.block)
  refine WP.loop (fun k : Nat => ⟨[(11, .im (IV.int k)), (9, .im (txsV l)), (10, .im (IV.int l.length))], [], 0⟩) (fun k => k ≤ l.length ∧ fe ((l.take k).flatMap txErrs) = 0) (fun k => l.length - k) 0 ⟨Nat.zero_le _, rfl⟩ (Shift.sub [] rfl SubE.a SubH.nil) ?_
  rintro k ⟨hk, he⟩
  ((repeat apply WP.seq); apply WP.lreg; refine ALK.n OpN.cm rfl ?_; refine ALK.nil ?_; try show WP _ _ _ _ _ _)
  ((repeat apply WP.seq); refine WP.cond rfl (fun h => ?_) (fun h => ?_))
  · (refine WP.skip ?_; show WP _ _ _ _ _ _)
    have hlt : k < l.length := by simpa using h
    obtain ⟨t, ht⟩ := get_at hlt
    have hbt : TxnB t := hb t (List.mem_of_getElem? ht)
    ((repeat apply WP.seq); apply WP.block)
    ((repeat apply WP.seq); apply WP.lreg; refine ALK.n OpN.ix rfl ?_; (first | refine ALK.n (opn_load rfl (eB rfl) rfl) rfl ?_ | refine ALK.r OpR.ld rfl ?_); refine ALK.a (opa_alloc rfl rfl) rfl ?_; (first | refine ALK.e (ope_store rfl (eB rfl) (eB rfl) Cs.a rfl rfl rfl) rfl rfl ?_ | refine ALK.e (ope_storeRow rfl rfl (eB rfl) (eB rfl) (oc_val rfl) rfl rfl (by assumption)) rfl rfl ?_); refine ALK.nil ?_; try show WP _ _ _ _ _ _)
    ((repeat apply WP.seq); apply WP.lreg; (first | refine ALK.n (opn_load rfl (eB rfl) rfl) rfl ?_ | refine ALK.r OpR.ld rfl ?_); refine ALK.n (opn_call (txn_Check_fn _ (by assumption)) (Evs.cons Ev.a Evs.nil)) rfl ?_; refine nA rfl rfl ?_; refine ALK.nil ?_; try show WP _ _ _ _ _ _)
    ((repeat apply WP.seq); apply WP.lreg; refine nM rfl rfl ?_; refine ALK.n OpN.cm rfl ?_; refine ALK.nil ?_; try show WP _ _ _ _ _ _)
    ((repeat apply WP.seq); refine WP.cond rfl (fun h => ?_) (fun h => ?_))
    · ((repeat apply WP.seq); apply WP.lreg; refine nM rfl rfl ?_; refine nA rfl rfl ?_; refine ALK.nil ?_; try show WP _ _ _ _ _ _)
      have hr : checkTxns l = checkTxn t := by
        have := fe_flat_at (F := txErrs) he ht (by rw [txErrs, fe_one]; simpa using h) []
        rw [List.append_nil, txErrs, fe_one] at this
        exact hdef.trans this
      ((repeat apply WP.seq); refine WP.ret ?_; first | exact RetOk.one Try.results78 ResV.a | exact RetOk.tup Try.results78 rfl ResVs.a)
    (refine WP.skip ?_; show WP _ _ _ _ _ _)
    ((repeat apply WP.seq); apply WP.lreg; refine ALK.n OpN.ar rfl ?_; refine nM rfl rfl ?_; refine ALK.nil ?_; try show WP _ _ _ _ _ _)
    show ∃ _, _ ∧ _ ∧ _
    exact ⟨k + 1, ⟨by omega, fe_flat_next (F := txErrs) he ht (by rw [txErrs, fe_one]; simpa using h)⟩, by omega, (Shift.sub [] rfl SubE.a SubH.nil)⟩
  · ((repeat apply WP.seq); refine WP.exit ?_; show WP _ _ _ _ _ _)
    ((repeat apply WP.seq); apply WP.lreg; refine nA rfl rfl ?_; refine ALK.nil ?_; try show WP _ _ _ _ _ _)
    have hr : checkTxns l = 0 := by
      have : ¬ k < l.length := by simpa using h
      rw [List.take_of_length_le (by omega)] at he
      exact hdef.trans he
    ((repeat apply WP.seq); refine WP.ret ?_; first | exact RetOk.one Try.results78 ResV.a | exact RetOk.tup Try.results78 rfl ResVs.a)
set_option maxRecDepth 100000 in
theorem ref_CheckTxns_fn (l : List Txn) (hb : TxsB l) : Fn (Cfg.mk Try.prog (ttAt ttl) ttl_ok.ok mixd) 53 [txsV l] (IV.int (checkTxns l)) := by
  refine Fn.of_wp _ Try.func53 rfl (by kernel_rfl) Try.ntmps53 rfl ?_
  intro F hD hG
  refine WP.len 0 rfl (fun hl1 => ?_)
  ((repeat apply WP.seq); apply WP.lreg; refine nA rfl rfl ?_; refine ALK.nil ?_; try show WP _ _ _ _ _ _)
  ((repeat apply WP.seq); apply WP.lreg; refine nM rfl rfl ?_; refine ALK.n OpN.ln rfl ?_; refine ALK.n OpN.cm rfl ?_; refine ALK.nil ?_; try show WP _ _ _ _ _ _)
  ((repeat apply WP.seq); refine WP.cond rfl (fun h => ?_) (fun h => ?_))
  · ((repeat apply WP.seq); apply WP.lreg; refine nA rfl rfl ?_; refine ALK.nil ?_; try show WP _ _ _ _ _ _)
    have hr : checkTxns l = 2 := by unfold checkTxns; rw [if_pos (by simp at h; omega)]
    ((repeat apply WP.seq); refine WP.ret ?_; first | exact RetOk.one Try.results53 ResV.a | exact RetOk.tup Try.results53 rfl ResVs.a)
  (refine WP.skip ?_; show WP _ _ _ _ _ _)
  have hdef : checkTxns l = fe (l.flatMap txErrs) := by unfold checkTxns; rw [if_neg (by simp at h; omega)]
  ((repeat apply WP.seq); apply WP.lreg; refine nA rfl rfl ?_; refine ALK.nil ?_; try show WP _ _ _ _ _ _)
  ((repeat apply WP.seq); apply WP.block)
  refine WP.loop (fun k : Nat => ⟨[(3, .im (IV.int k)), (0, .im (txsV l))], [], 0⟩) (fun k => k ≤ l.length ∧ fe ((l.take k).flatMap txErrs) = 0) (fun k => l.length - k) 0 ⟨Nat.zero_le _, rfl⟩ (Shift.sub [] rfl SubE.a SubH.nil) ?_
  rintro k ⟨hk, he⟩
  ((repeat apply WP.seq); apply WP.lreg; refine nM rfl rfl ?_; refine nM rfl rfl ?_; refine ALK.n OpN.ln rfl ?_; refine ALK.n OpN.cm rfl ?_; refine ALK.nil ?_; try show WP _ _ _ _ _ _)
  ((repeat apply WP.seq); refine WP.cond rfl (fun h => ?_) (fun h => ?_))
  · (refine WP.skip ?_; show WP _ _ _ _ _ _)
    have hlt : k < l.length := by simpa using h
    obtain ⟨t, ht⟩ := get_at hlt
    have hbt : TxnB t := hb t (List.mem_of_getElem? ht)
    ((repeat apply WP.seq); apply WP.block)
    ((repeat apply WP.seq); apply WP.lreg; refine nM rfl rfl ?_; refine nM rfl rfl ?_; refine ALK.n OpN.ix rfl ?_; (first | refine ALK.n (opn_load rfl (eB rfl) rfl) rfl ?_ | refine ALK.r OpR.ld rfl ?_); refine ALK.n (opn_call (ref_CheckTxn_fn _ (by assumption)) (Evs.cons Ev.a Evs.nil)) rfl ?_; refine nA rfl rfl ?_; refine ALK.nil ?_; try show WP _ _ _ _ _ _)
    ((repeat apply WP.seq); apply WP.lreg; refine nM rfl rfl ?_; refine ALK.n OpN.cm rfl ?_; refine ALK.nil ?_; try show WP _ _ _ _ _ _)
    ((repeat apply WP.seq); refine WP.cond rfl (fun h => ?_) (fun h => ?_))
    · ((repeat apply WP.seq); apply WP.lreg; refine nM rfl rfl ?_; refine nA rfl rfl ?_; refine ALK.nil ?_; try show WP _ _ _ _ _ _)
      have hr : checkTxns l = checkTxn t := by
        have := fe_flat_at (F := txErrs) he ht (by rw [txErrs, fe_one]; simpa using h) []
        rw [List.append_nil, txErrs, fe_one] at this
        exact hdef.trans this
      ((repeat apply WP.seq); refine WP.ret ?_; first | exact RetOk.one Try.results53 ResV.a | exact RetOk.tup Try.results53 rfl ResVs.a)
    (refine WP.skip ?_; show WP _ _ _ _ _ _)
    ((repeat apply WP.seq); apply WP.lreg; refine nM rfl rfl ?_; refine ALK.n OpN.ar rfl ?_; refine nA rfl rfl ?_; refine ALK.nil ?_; try show WP _ _ _ _ _ _)
    show ∃ _, _ ∧ _ ∧ _
    exact ⟨k + 1, ⟨by omega, fe_flat_next (F := txErrs) he ht (by rw [txErrs, fe_one]; simpa using h)⟩, by omega, (Shift.sub [] rfl SubE.a SubH.nil)⟩
  · ((repeat apply WP.seq); refine WP.exit ?_; show WP _ _ _ _ _ _)
    ((repeat apply WP.seq); apply WP.lreg; refine nA rfl rfl ?_; refine ALK.nil ?_; try show WP _ _ _ _ _ _)
    have hr : checkTxns l = 0 := by
      have : ¬ k < l.length := by simpa using h
      rw [List.take_of_length_le (by omega)] at he
      exact hdef.trans he
    ((repeat apply WP.seq); refine WP.ret ?_; first | exact RetOk.one Try.results53 ResV.a | exact RetOk.tup Try.results53 rfl ResVs.a)
end Go.Proofs.Ytjgmbgfcffnanab
