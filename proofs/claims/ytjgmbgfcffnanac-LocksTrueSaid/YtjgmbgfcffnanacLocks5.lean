/- The laws LocksMore and LocksTrue return true. -/
import Derived.Test.YtjgmbgfcffnanacLocks4
import Derived.Test.YtjgmbgfcffnanacWGraph
namespace Go.Proofs.Ytjgmbgfcffnanac
open Go.RowKit

theorem mem_readyTo {l : List Txn} {done : List Bool} {v : Int} : ∀ {n : Nat}, v ∈ readyTo l done n ↔ ∃ q : Nat, q < n ∧ v = q ∧ readyB l done q = true := by
  intro n
  unfold readyTo
  rw [List.mem_flatMap]
  constructor
  · rintro ⟨q, hq, h⟩
    rw [List.mem_range] at hq
    split at h
    · exact ⟨q, hq, by simpa using h, by assumption⟩
    · cases h
  · rintro ⟨q, hq, rfl, h⟩
    exact ⟨q, List.mem_range.2 hq, by rw [if_pos h]; simp⟩
theorem readyTo_sorted (l : List Txn) (done : List Bool) : ∀ n, (readyTo l done n).Pairwise (· < ·)
  | 0 => List.Pairwise.nil
  | n + 1 => by
    rw [readyTo_next, List.pairwise_append]
    refine ⟨readyTo_sorted l done n, ?_, fun a ha b hb => ?_⟩
    · split
      · exact List.pairwise_singleton _ _
      · exact List.Pairwise.nil
    · obtain ⟨q, hq, rfl, _⟩ := mem_readyTo.1 ha
      split at hb
      · have : b = n := by simpa using hb
        omega
      · cases hb
theorem pw_uniq {xs : List Int} (hs : xs.Pairwise (· < ·)) {i j : Nat} {a : Int} (ha : xs[i]? = some a) (hb : xs[j]? = some a) : i = j := by
  obtain ⟨hi1, hi2⟩ := List.getElem?_eq_some_iff.1 ha
  obtain ⟨hj1, hj2⟩ := List.getElem?_eq_some_iff.1 hb
  rw [List.pairwise_iff_getElem] at hs
  rcases Nat.lt_trichotomy i j with h1 | h1 | h1
  · have := hs i j hi1 hj1 h1; omega
  · exact h1
  · have := hs j i hj1 hi1 h1; omega
theorem ready_more {l : List Txn} {done : List Bool} (hd : done.length = l.length) {x y : Nat} (hx : x < l.length) (hy : y < l.length) (hxy : y ≠ x) (h : readyB l done y = true) : readyB l (done.set x true) y = true := by
  obtain ⟨t, ht⟩ := get_at hy
  obtain ⟨d, hdy⟩ := get_at (xs := done) (k := y) (by omega)
  obtain ⟨h1, h2⟩ := (readyB_iff hd ht hdy).1 h
  have hs : (done.set x true)[y]? = some d := by rw [List.getElem?_set_ne (by omega)]; exact hdy
  refine (readyB_iff (by simpa using hd) ht hs).2 ⟨h1, fun q u hq hu hdq => h2 q u hq hu ?_⟩
  rw [List.getElem?_set] at hdq
  split at hdq
  · split at hdq
    · cases hdq
    · cases hdq
  · exact hdq
theorem ready_self {l : List Txn} {done : List Bool} (hd : done.length = l.length) {x : Nat} (hx : x < l.length) : readyB l (done.set x true) x = false := by
  obtain ⟨t, ht⟩ := get_at hx
  have hs : (done.set x true)[x]? = some true := by rw [List.getElem?_set_self (by omega)]
  cases e : readyB l (done.set x true) x with
  | false => rfl
  | true => have := ((readyB_iff (by simpa using hd) ht hs).1 e).1; cases this

set_option maxRecDepth 100000 in
theorem LocksMore_fn (l : List Txn) (done : List Bool) (n : Int) (hb : TxsB l) (hn : I64 n) : Fn (Cfg.mk Try.prog (ttAt ttl) ttl_ok.ok mixd) 13 [txsV l, boolsV done, IV.int n] (IV.bool true) := by
  refine Fn.of_wp _ Try.func13 rfl (by kernel_rfl) Try.ntmps13 rfl ?_
  intro F hD hG
  ((repeat apply WP.seq); apply WP.lreg; refine nA rfl rfl ?_; refine ALK.nil ?_; try show WP _ _ _ _ _ _)
  ((repeat apply WP.seq); apply WP.lreg; refine nM rfl rfl ?_; refine nM rfl rfl ?_; refine ALK.n (opn_call (Ready_fn l done hb) (Evs.cons Ev.a (Evs.cons Ev.a Evs.nil))) rfl ?_; refine nM rfl rfl ?_; refine nX rfl rfl rfl ?_; refine nX rfl rfl rfl ?_; refine nA rfl rfl ?_; refine nA rfl rfl ?_; refine ALK.nil ?_; try show WP _ _ _ _ _ _)
  refine WP.len 7 rfl (fun hlb => ?_)
  ((repeat apply WP.seq); apply WP.lreg; refine nM rfl rfl ?_; refine ALK.n OpN.cm rfl ?_; refine nM rfl rfl ?_; refine gM rfl rfl rfl rfl ?_; (first | refine ALK.g (fun hb => opn_len rfl (eC rfl hb)) rfl rfl rfl ?_ | refine ALK.g (fun hb => opn_lenRow rfl (eC rfl hb)) rfl rfl rfl ?_ | refine ALK.g (fun hb => opn_lenNil rfl (eC rfl hb)) rfl rfl rfl ?_); (first | refine ALK.g (fun hb => opn_cmp (eC rfl hb) (eB rfl) rfl) rfl rfl rfl ?_ | refine ALK.g (fun hb => opn_cmpB rfl (eC rfl hb) (eB rfl) rfl) rfl rfl rfl ?_); refine ALK.n (opn_pick_or (eB rfl) rfl rfl (fun hb2 => by first | (rw [hb2]; rfl) | (rw [hb, hb2]; rfl) | simp_all [gd])) rfl ?_; refine ALK.nil ?_; try show WP _ _ _ _ _ _)
  ((repeat apply WP.seq); refine WP.cond rfl (fun h => ?_) (fun h => ?_))
  · ((repeat apply WP.seq); apply WP.lreg; refine ALK.n (opn_call locksBegun_fn Evs.nil) rfl ?_; refine nA rfl rfl ?_; refine ALK.nil ?_; try show WP _ _ _ _ _ _)
    ((repeat apply WP.seq); refine WP.ret ?_; first | exact RetOk.one Try.results13 ResV.a | exact RetOk.tup Try.results13 rfl ResVs.a)
  (refine WP.skip ?_; show WP _ _ _ _ _ _)
  have h0 : qE l done = 0 ∧ ¬ reL l done = [] := by simpa using h
  obtain ⟨h0, hne⟩ := h0
  obtain ⟨hc, hd⟩ := qE_zero h0
  have hl8 := (checkTxns_zero hc).1
  have hre : reL l done = readyTo l done l.length := by unfold reL; rw [if_pos h0]
  rw [h0]
  rw [hre] at hne ⊢
  obtain ⟨b, hbe⟩ : ∃ b, b = readyTo l done l.length := ⟨_, rfl⟩
  have hbm : ∀ v, v ∈ b ↔ ∃ q : Nat, q < l.length ∧ v = q ∧ readyB l done q = true := fun v => by rw [hbe]; exact mem_readyTo
  have hbs : b.Pairwise (· < ·) := by rw [hbe]; exact readyTo_sorted _ _ _
  have hbl : b.length ≤ 8 := by rw [hbe]; exact Nat.le_trans (readyTo_len _ _ _) hl8
  rw [← hbe] at hne ⊢
  have hpos : (0 : Int) < b.length := by have := List.length_pos_iff.2 hne; omega
  obtain ⟨k0, k1⟩ := chooseN_in (n := n) hpos
  obtain ⟨k, hk⟩ : ∃ k : Nat, (k : Int) = chooseN n b.length := ⟨(chooseN n b.length).toNat, by omega⟩
  ((repeat apply WP.seq); apply WP.lreg; refine nM rfl rfl ?_; refine nM rfl rfl ?_; refine ALK.n OpN.ln rfl ?_; refine ALK.n (opn_call (choose_fn n b.length hn hpos) (Evs.cons Ev.a (Evs.cons Ev.a Evs.nil))) rfl ?_; refine nA rfl rfl ?_; refine ALK.nil ?_; try show WP _ _ _ _ _ _)
  rw [← hk] at k0 k1 ⊢
  have hkl : k < b.length := by omega
  obtain ⟨xi, hx⟩ := get_at hkl
  obtain ⟨x, hxl, rfl, hxr⟩ := (hbm xi).1 (List.mem_of_getElem? hx)
  ((repeat apply WP.seq); apply WP.lreg; refine nM rfl rfl ?_; refine nM rfl rfl ?_; refine ALK.n OpN.ix rfl ?_; (first | refine ALK.n (opn_load rfl (eB rfl) rfl) rfl ?_ | refine ALK.r OpR.ld rfl ?_); refine ALK.n OpN.cm rfl ?_; refine nM rfl rfl ?_; refine gM rfl rfl rfl rfl ?_; refine gM rfl rfl rfl rfl ?_; (first | refine ALK.g (fun hb => opn_index rfl (eC rfl hb) (eC rfl hb) (by omega) (by assumption)) rfl rfl rfl ?_ | refine ALK.g (fun hb => opn_indexRow1 rfl (eC rfl hb) (eC rfl hb) (by omega) (by omega)) rfl rfl rfl ?_ | refine ALK.g (fun hb => opn_indexRow rfl (eC rfl hb) (eC rfl hb) (by omega) (by omega)) rfl rfl rfl ?_ | refine ALK.g (fun hb => opn_indexArr rfl (eC rfl hb) (eC rfl hb) (by omega) (by omega)) rfl rfl rfl ?_ | refine ALK.g (fun hb => opn_indexArrI rfl (eC rfl hb) (eC rfl hb) (by omega) (by omega)) rfl rfl rfl ?_); (first | refine ALK.g (fun hb => opn_load rfl (eC rfl hb) rfl) rfl rfl rfl ?_ | refine ALK.rg (fun hb => opr_load rfl (eC rfl hb) rfl rfl) rfl rfl rfl ?_ | refine ALK.rg (fun hb => opr_loadRow rfl rfl (eC rfl hb) rfl (by assumption) rfl) rfl rfl rfl ?_ | refine ALK.rg (fun hb => opr_loadK0 rfl (eC rfl hb) rfl (by assumption) rfl) rfl rfl rfl ?_ | refine ALK.rg (fun hb => opr_loadK rfl (eC rfl hb) rfl (by assumption) rfl) rfl rfl rfl ?_); refine gM rfl rfl rfl rfl ?_; (first | refine ALK.g (fun hb => opn_len rfl (eC rfl hb)) rfl rfl rfl ?_ | refine ALK.g (fun hb => opn_lenRow rfl (eC rfl hb)) rfl rfl rfl ?_ | refine ALK.g (fun hb => opn_lenNil rfl (eC rfl hb)) rfl rfl rfl ?_); (first | refine ALK.g (fun hb => opn_cmp (eC rfl hb) (eC rfl hb) rfl) rfl rfl rfl ?_ | refine ALK.g (fun hb => opn_cmpB rfl (eC rfl hb) (eC rfl hb) rfl) rfl rfl rfl ?_); refine ALK.n (opn_pick_or (eB rfl) rfl rfl (fun hb2 => by first | (rw [hb2]; rfl) | (rw [hb, hb2]; rfl) | simp_all [gd])) rfl ?_; refine ALK.nil ?_; try show WP _ _ _ _ _ _)
  ((repeat apply WP.seq); refine WP.cond rfl (fun h => ?_) (fun h => ?_))
  · exfalso
    simp at h
    omega
  (refine WP.skip ?_; show WP _ _ _ _ _ _)
  ((repeat apply WP.seq); apply WP.lreg; refine ALK.a (opa_slit0 cB rfl rfl (fun _ => rfl)) rfl ?_; refine nM rfl rfl ?_; refine ALK.e (ope_append (b := 1) done rfl rfl rfl rfl rfl (eB rfl) (eB rfl) rfl rfl (by simp; omega) rfl) rfl rfl ?_; refine nA rfl rfl ?_; refine ALK.nil ?_; try show WP _ _ _ _ _ _)
  rw [List.nil_append, show ([] : List Bool).length + done.length = done.length by simp]
  have hxd : (x : Int).toNat < done.length := by omega
  ((repeat apply WP.seq); apply WP.lreg; refine nM rfl rfl ?_; refine nM rfl rfl ?_; refine nM rfl rfl ?_; refine ALK.n OpN.ix rfl ?_; (first | refine ALK.n (opn_load rfl (eB rfl) rfl) rfl ?_ | refine ALK.r OpR.ld rfl ?_); refine ALK.n OpN.ix rfl ?_; (first | refine ALK.e (ope_store rfl (eB rfl) (eB rfl) Cs.a rfl rfl rfl) rfl rfl ?_ | refine ALK.e (ope_storeRow rfl rfl (eB rfl) (eB rfl) (oc_val rfl) rfl rfl (by assumption)) rfl rfl ?_); refine ALK.nil ?_; try show WP _ _ _ _ _ _)
  refine WP.shift (Shift.frzRow 10 rfl rfl) ?_
  have hset : done.set (x : Int).toNat true = done.set x true := rfl
  rw [hset]
  have hqn : qE l (done.set x true) = 0 := by unfold qE; rw [if_pos hc, if_pos (by simpa using hd)]
  have hrn : reL l (done.set x true) = readyTo l (done.set x true) l.length := by unfold reL; rw [if_pos hqn]
  ((repeat apply WP.seq); apply WP.lreg; refine nM rfl rfl ?_; refine nM rfl rfl ?_; refine ALK.n (opn_call (Ready_fn l (done.set x true) hb) (Evs.cons Ev.a (Evs.cons Ev.a Evs.nil))) rfl ?_; refine nM rfl rfl ?_; refine nX rfl rfl rfl ?_; refine nX rfl rfl rfl ?_; refine nA rfl rfl ?_; refine nA rfl rfl ?_; refine ALK.nil ?_; try show WP _ _ _ _ _ _)
  rw [hqn, hrn]
  obtain ⟨c, hce⟩ : ∃ c, c = readyTo l (done.set x true) l.length := ⟨_, rfl⟩
  have hcm : ∀ v, v ∈ c ↔ ∃ q : Nat, q < l.length ∧ v = q ∧ readyB l (done.set x true) q = true := fun v => by rw [hce]; exact mem_readyTo
  have hcl : c.length ≤ 8 := by rw [hce]; exact Nat.le_trans (readyTo_len _ _ _) hl8
  rw [← hce]
  ((repeat apply WP.seq); apply WP.lreg; refine nA rfl rfl ?_; refine ALK.nil ?_; try show WP _ _ _ _ _ _)
  ((repeat apply WP.seq); apply WP.block)
  refine WP.loop (fun i : Nat => ⟨[(13, .im (IV.int i)), (7, .im (intsV b)), (9, .im (IV.int k)), (11, .im (intsV c)), (12, .im (IV.int 0))], [], 0⟩) (fun i => i ≤ b.length) (fun i => b.length - i) 0 (Nat.zero_le _) (Shift.sub [] rfl SubE.a SubH.nil) ?_
  rintro i hi
  ((repeat apply WP.seq); apply WP.lreg; refine nM rfl rfl ?_; refine nM rfl rfl ?_; refine ALK.n OpN.ln rfl ?_; refine ALK.n OpN.cm rfl ?_; refine ALK.nil ?_; try show WP _ _ _ _ _ _)
  ((repeat apply WP.seq); refine WP.cond rfl (fun h => ?_) (fun h => ?_))
  · (refine WP.skip ?_; show WP _ _ _ _ _ _)
    have hil : i < b.length := by simpa using h
    obtain ⟨bi, hbi⟩ := get_at hil
    ((repeat apply WP.seq); apply WP.block)
    ((repeat apply WP.seq); apply WP.lreg; refine nM rfl rfl ?_; refine nM rfl rfl ?_; refine ALK.n OpN.cm rfl ?_; refine nA rfl rfl ?_; refine ALK.nil ?_; try show WP _ _ _ _ _ _)
    ((repeat apply WP.seq); apply WP.lreg; refine nA rfl rfl ?_; refine ALK.nil ?_; try show WP _ _ _ _ _ _)
    ((repeat apply WP.seq); apply WP.block)
    refine WP.loop (fun j : Nat => ⟨[(15, .im (IV.int j)), (14, .im (IV.bool ((i : Int) == k || (c.take j).any (fun v => v == bi)))), (13, .im (IV.int i)), (7, .im (intsV b)), (9, .im (IV.int k)), (11, .im (intsV c)), (12, .im (IV.int 0))], [], 0⟩) (fun j => j ≤ c.length) (fun j => c.length - j) 0 (Nat.zero_le _) (Shift.sub [] rfl (by repeat (first | exact SubE.nil | refine SubE.cons rfl (by first | exact SLe.im (ILe.bool (by simp; done)) | exact SLe.a) ?_)) SubH.nil) ?_
    rintro j hj
    ((repeat apply WP.seq); apply WP.lreg; refine nM rfl rfl ?_; refine nM rfl rfl ?_; refine ALK.n OpN.ln rfl ?_; refine ALK.n OpN.cm rfl ?_; refine ALK.nil ?_; try show WP _ _ _ _ _ _)
    ((repeat apply WP.seq); refine WP.cond rfl (fun h => ?_) (fun h => ?_))
    · (refine WP.skip ?_; show WP _ _ _ _ _ _)
      have hjl : j < c.length := by simpa using h
      obtain ⟨cj, hcj⟩ := get_at hjl
      have hnx : ((i : Int) == k || (c.take (j + 1)).any (fun v => v == bi)) = (((i : Int) == k || (c.take j).any (fun v => v == bi)) || cj == bi) := by
        rw [List.take_add_one, hcj, List.any_append]; simp [Bool.or_assoc]
      ((repeat apply WP.seq); apply WP.block)
      ((repeat apply WP.seq); apply WP.ldraw; refine nM rfl rfl ?_; refine nM rfl rfl ?_; refine gM rfl rfl rfl rfl ?_; refine gM rfl rfl rfl rfl ?_; (first | refine ALK.g (fun hb => opn_index rfl (eC rfl hb) (eC rfl hb) (by omega) (by assumption)) rfl rfl rfl ?_ | refine ALK.g (fun hb => opn_indexRow1 rfl (eC rfl hb) (eC rfl hb) (by omega) (by omega)) rfl rfl rfl ?_ | refine ALK.g (fun hb => opn_indexRow rfl (eC rfl hb) (eC rfl hb) (by omega) (by omega)) rfl rfl rfl ?_ | refine ALK.g (fun hb => opn_indexArr rfl (eC rfl hb) (eC rfl hb) (by omega) (by omega)) rfl rfl rfl ?_ | refine ALK.g (fun hb => opn_indexArrI rfl (eC rfl hb) (eC rfl hb) (by omega) (by omega)) rfl rfl rfl ?_); (first | refine ALK.g (fun hb => opn_load rfl (eC rfl hb) rfl) rfl rfl rfl ?_ | refine ALK.rg (fun hb => opr_load rfl (eC rfl hb) rfl rfl) rfl rfl rfl ?_ | refine ALK.rg (fun hb => opr_loadRow rfl rfl (eC rfl hb) rfl (by assumption) rfl) rfl rfl rfl ?_ | refine ALK.rg (fun hb => opr_loadK0 rfl (eC rfl hb) rfl (by assumption) rfl) rfl rfl rfl ?_ | refine ALK.rg (fun hb => opr_loadK rfl (eC rfl hb) rfl (by assumption) rfl) rfl rfl rfl ?_); refine gM rfl rfl rfl rfl ?_; refine gM rfl rfl rfl rfl ?_; (first | refine ALK.g (fun hb => opn_index rfl (eC rfl hb) (eC rfl hb) (by omega) (by assumption)) rfl rfl rfl ?_ | refine ALK.g (fun hb => opn_indexRow1 rfl (eC rfl hb) (eC rfl hb) (by omega) (by omega)) rfl rfl rfl ?_ | refine ALK.g (fun hb => opn_indexRow rfl (eC rfl hb) (eC rfl hb) (by omega) (by omega)) rfl rfl rfl ?_ | refine ALK.g (fun hb => opn_indexArr rfl (eC rfl hb) (eC rfl hb) (by omega) (by omega)) rfl rfl rfl ?_ | refine ALK.g (fun hb => opn_indexArrI rfl (eC rfl hb) (eC rfl hb) (by omega) (by omega)) rfl rfl rfl ?_); (first | refine ALK.g (fun hb => opn_load rfl (eC rfl hb) rfl) rfl rfl rfl ?_ | refine ALK.rg (fun hb => opr_load rfl (eC rfl hb) rfl rfl) rfl rfl rfl ?_ | refine ALK.rg (fun hb => opr_loadRow rfl rfl (eC rfl hb) rfl (by assumption) rfl) rfl rfl rfl ?_ | refine ALK.rg (fun hb => opr_loadK0 rfl (eC rfl hb) rfl (by assumption) rfl) rfl rfl rfl ?_ | refine ALK.rg (fun hb => opr_loadK rfl (eC rfl hb) rfl (by assumption) rfl) rfl rfl rfl ?_); (first | refine ALK.g (fun hb => opn_cmp (eC rfl hb) (eC rfl hb) rfl) rfl rfl rfl ?_ | refine ALK.g (fun hb => opn_cmpB rfl (eC rfl hb) (eC rfl hb) rfl) rfl rfl rfl ?_); refine ALK.n (opn_pick_or (eB rfl) rfl rfl (fun hb2 => by first | (rw [hb2]; rfl) | (rw [hb, hb2]; rfl) | simp_all [gd])) rfl ?_; refine nA rfl rfl ?_; refine ALK.nilD (by kernel_rfl) ?_; try show WP _ _ _ _ _ _)
      ((repeat apply WP.seq); apply WP.ldraw; refine nM rfl rfl ?_; refine nM rfl rfl ?_; refine ALK.n OpN.ix rfl ?_; (first | refine ALK.n (opn_load rfl (eB rfl) rfl) rfl ?_ | refine ALK.r OpR.ld rfl ?_); refine nM rfl rfl ?_; refine nM rfl rfl ?_; refine ALK.n OpN.ix rfl ?_; (first | refine ALK.n (opn_load rfl (eB rfl) rfl) rfl ?_ | refine ALK.r OpR.ld rfl ?_); refine ALK.n OpN.cm rfl ?_; refine ALK.nilD (by kernel_rfl) ?_; try show WP _ _ _ _ _ _)
      ((repeat apply WP.seq); refine WP.cond rfl (fun h => ?_) (fun h => ?_))
      · exfalso
        have he : cj = (x : Int) := by simpa using h
        obtain ⟨q, hq, h2, h3⟩ := (hcm cj).1 (List.mem_of_getElem? hcj)
        have : q = x := by omega
        subst this
        rw [ready_self hd hxl] at h3
        cases h3
      (refine WP.skip ?_; show WP _ _ _ _ _ _)
      ((repeat apply WP.seq); apply WP.lreg; refine nM rfl rfl ?_; refine ALK.n OpN.ar rfl ?_; refine nA rfl rfl ?_; refine ALK.nil ?_; try show WP _ _ _ _ _ _)
      show ∃ _, _ ∧ _ ∧ _
      exact ⟨j + 1, by omega, by omega, (Shift.sub [] rfl SubE.a SubH.nil)⟩
    · ((repeat apply WP.seq); refine WP.exit ?_; show WP _ _ _ _ _ _)
      rw [List.take_of_length_le (by simp at h; omega)]
      ((repeat apply WP.seq); apply WP.lreg; refine nM rfl rfl ?_; refine ALK.n (opn_not (eB rfl)) rfl ?_; refine ALK.nil ?_; try show WP _ _ _ _ _ _)
      ((repeat apply WP.seq); refine WP.cond rfl (fun h => ?_) (fun h => ?_))
      · exfalso
        simp at h
        obtain ⟨h1, h2⟩ := h
        obtain ⟨y, hyl, rfl, hyr⟩ := (hbm bi).1 (List.mem_of_getElem? hbi)
        by_cases e : y = x
        · subst e
          have := pw_uniq hbs hbi hx
          omega
        · exact h2 y ((hcm y).2 ⟨y, hyl, rfl, ready_more hd hxl hyl e hyr⟩) rfl
      (refine WP.skip ?_; show WP _ _ _ _ _ _)
      ((repeat apply WP.seq); apply WP.lreg; refine nM rfl rfl ?_; refine ALK.n OpN.ar rfl ?_; refine nA rfl rfl ?_; refine ALK.nil ?_; try show WP _ _ _ _ _ _)
      show ∃ _, _ ∧ _ ∧ _
      exact ⟨i + 1, by omega, by omega, (Shift.sub [] rfl SubE.a SubH.nil)⟩
  · ((repeat apply WP.seq); refine WP.exit ?_; show WP _ _ _ _ _ _)
    ((repeat apply WP.seq); apply WP.lreg; refine ALK.n (opn_call locksBegun_fn Evs.nil) rfl ?_; refine nM rfl rfl ?_; refine gM rfl rfl rfl rfl ?_; (first | refine ALK.g (fun hb => opn_cmp (eC rfl hb) (eB rfl) rfl) rfl rfl rfl ?_ | refine ALK.g (fun hb => opn_cmpB rfl (eC rfl hb) (eB rfl) rfl) rfl rfl rfl ?_); refine ALK.n (opn_pick_and (eB rfl) rfl (fun hb2 => by first | exact hb2 | (rw [hb, hb2]; rfl) | simp_all [gd]) rfl) rfl ?_; refine nA rfl rfl ?_; refine ALK.nil ?_; try show WP _ _ _ _ _ _)
    refine WP.ret ?_
    refine RetOk.one Try.results13 (ResV.tmp rfl (ImOf.im (ILe.bool ?_)))
    simp

theorem clash_same {x y : Txn} (hx : checkTxn x = 0) (hy : checkTxn y = 0) : clashB x y = clashR x y 1 0 := by
  obtain ⟨a1, a2⟩ := right_keys hx
  obtain ⟨b1, b2⟩ := right_keys hy
  rw [Bool.eq_iff_iff, clash_iff, clashR_iff]
  constructor
  · rintro ⟨k, h⟩
    have hr : 0 ≤ k ∧ k < 8 := by
      rcases h with ⟨h1, _⟩ | ⟨h1, _⟩
      · exact a2 k h1
      · exact b2 k h1
    refine ⟨k, hr.1, hr.2, by omega, ?_⟩
    unfold clashAt lkB
    simp only [Bool.or_eq_true, Bool.and_eq_true, readsB_iff, writesB_iff]
    rcases h with ⟨h1, h2 | h2⟩ | ⟨h1, h2⟩
    · exact .inl ⟨h1, .inr h2⟩
    · exact .inl ⟨h1, .inl h2⟩
    · exact .inr ⟨h1, h2⟩
  · rintro ⟨k, _, _, _, h⟩
    unfold clashAt lkB at h
    simp only [Bool.or_eq_true, Bool.and_eq_true, readsB_iff, writesB_iff] at h
    rcases h with ⟨h1, h2 | h2⟩ | ⟨h1, h2⟩
    · exact ⟨k, .inl ⟨h1, .inr h2⟩⟩
    · exact ⟨k, .inl ⟨h1, .inl h2⟩⟩
    · exact ⟨k, .inr ⟨h1, h2⟩⟩
theorem all_done_iff {l : List Txn} {done : List Bool} (hd : done.length = l.length) : (∀ q : Nat, q < l.length → done[q]? = some true) ↔ readyTo l done l.length = [] := by
  constructor
  · intro h
    rw [List.eq_nil_iff_forall_not_mem]
    intro v hv
    obtain ⟨q, hq, rfl, hr⟩ := mem_readyTo.1 hv
    obtain ⟨t, ht⟩ := get_at hq
    have := ((readyB_iff hd ht (h q hq)).1 hr).1
    cases this
  · intro h
    have key : ∀ m q : Nat, q < m → q < l.length → done[q]? = some true := by
      intro m
      induction m with
      | zero => intro q hq; omega
      | succ m ih =>
        intro q hq hql
        obtain ⟨d, hdq⟩ := get_at (xs := done) (k := q) (by omega)
        cases d with
        | true => exact hdq
        | false =>
          exfalso
          obtain ⟨t, ht⟩ := get_at hql
          have hr : readyB l done q = true := (readyB_iff hd ht hdq).2 ⟨rfl, fun q' u hq' hu hdq' => by
            have := ih q' (by omega) (by omega)
            rw [this] at hdq'; cases hdq'⟩
          have : (q : Int) ∈ readyTo l done l.length := mem_readyTo.2 ⟨q, hql, rfl, hr⟩
          rw [h] at this; cases this
    exact fun q hq => key (q + 1) q (by omega) hq

set_option maxRecDepth 100000 in
set_option maxHeartbeats 1000000 in
theorem LocksTrue_fn (l : List Txn) (done : List Bool) (hb : TxsB l) : Fn (Cfg.mk Try.prog (ttAt ttl) ttl_ok.ok mixd) 14 [txsV l, boolsV done] (IV.bool true) := by
  refine Fn.of_wp _ Try.func14 rfl (by kernel_rfl) Try.ntmps14 rfl ?_
  intro F hD hG
  ((repeat apply WP.seq); apply WP.lreg; refine nA rfl rfl ?_; refine ALK.nil ?_; try show WP _ _ _ _ _ _)
  ((repeat apply WP.seq); apply WP.lreg; refine nM rfl rfl ?_; refine nM rfl rfl ?_; refine ALK.n (opn_call (Ready_fn l done hb) (Evs.cons Ev.a (Evs.cons Ev.a Evs.nil))) rfl ?_; refine nM rfl rfl ?_; refine nX rfl rfl rfl ?_; refine nX rfl rfl rfl ?_; refine nA rfl rfl ?_; refine nA rfl rfl ?_; refine ALK.nil ?_; try show WP _ _ _ _ _ _)
  ((repeat apply WP.seq); apply WP.lreg; refine nM rfl rfl ?_; refine ALK.n OpN.cm rfl ?_; refine ALK.nil ?_; try show WP _ _ _ _ _ _)
  ((repeat apply WP.seq); refine WP.cond rfl (fun h => ?_) (fun h => ?_))
  · ((repeat apply WP.seq); apply WP.lreg; refine ALK.n (opn_call locksBegun_fn Evs.nil) rfl ?_; refine nA rfl rfl ?_; refine ALK.nil ?_; try show WP _ _ _ _ _ _)
    ((repeat apply WP.seq); refine WP.ret ?_; first | exact RetOk.one Try.results14 ResV.a | exact RetOk.tup Try.results14 rfl ResVs.a)
  (refine WP.skip ?_; show WP _ _ _ _ _ _)
  have h0 : qE l done = 0 := by simpa using h
  obtain ⟨hc, hd⟩ := qE_zero h0
  obtain ⟨hl8, hall⟩ := checkTxns_zero hc
  have hre : reL l done = readyTo l done l.length := by unfold reL; rw [if_pos h0]
  rw [h0, hre]
  ((repeat apply WP.seq); apply WP.lreg; refine nM rfl rfl ?_; refine ALK.n OpN.ln rfl ?_; refine nM rfl rfl ?_; refine ALK.n OpN.ln rfl ?_; refine ALK.n OpN.cm rfl ?_; refine ALK.nil ?_; try show WP _ _ _ _ _ _)
  ((repeat apply WP.seq); refine WP.cond rfl (fun h => ?_) (fun h => ?_))
  · exfalso
    rw [hd] at h
    simp at h
  (refine WP.skip ?_; show WP _ _ _ _ _ _)
  obtain ⟨b, hbe⟩ : ∃ b, b = readyTo l done l.length := ⟨_, rfl⟩
  have hbm : ∀ v, v ∈ b ↔ ∃ q : Nat, q < l.length ∧ v = q ∧ readyB l done q = true := fun v => by rw [hbe]; exact mem_readyTo
  have hbl : b.length ≤ 8 := by rw [hbe]; exact Nat.le_trans (readyTo_len _ _ _) hl8
  rw [← hbe]
  ((repeat apply WP.seq); apply WP.lreg; refine nM rfl rfl ?_; refine ALK.n OpN.ln rfl ?_; refine ALK.a (opa_make (n := l.length) (b := 1) (enc := cB) false rfl rfl (fun _ => rfl) rfl rfl rfl (eB rfl) (eB rfl) rfl (by omega) (by omega)) rfl ?_; refine nA rfl rfl ?_; refine ALK.nil ?_; try show WP _ _ _ _ _ _)
  ((repeat apply WP.seq); apply WP.lreg; refine nA rfl rfl ?_; refine ALK.nil ?_; try show WP _ _ _ _ _ _)
  ((repeat apply WP.seq); apply WP.block)
  refine WP.loop (fun c : Nat × List Bool => ⟨[(8, .im (IV.int c.1)), (5, .im (intsV b)), (7, .row 0 l.length), (0, .im (txsV l)), (1, .im (boolsV done))], [(0, .row 4 1 cB c.2)], 1⟩) (fun c => c.1 ≤ b.length ∧ c.2.length = l.length ∧ ∀ (q : Nat) v, c.2[q]? = some v → v = decide ((q : Int) ∈ b.take c.1)) (fun c => b.length - c.1) (0, List.replicate l.length false) ⟨Nat.zero_le _, by simp, fun q v hv => by
    have := List.mem_of_getElem? hv
    rw [(List.mem_replicate.1 this).2]; simp⟩ (Shift.sub [(0, 0)] rfl SubE.a SubH.a) ?_
  rintro ⟨i, row⟩ ⟨hi, hrl, hrow⟩
  simp only at hi hrl hrow
  ((repeat apply WP.seq); apply WP.lreg; refine nM rfl rfl ?_; refine nM rfl rfl ?_; refine ALK.n OpN.ln rfl ?_; refine ALK.n OpN.cm rfl ?_; refine ALK.nil ?_; try show WP _ _ _ _ _ _)
  ((repeat apply WP.seq); refine WP.cond rfl (fun h => ?_) (fun h => ?_))
  · (refine WP.skip ?_; show WP _ _ _ _ _ _)
    have hil : i < b.length := by simpa using h
    obtain ⟨v, hv⟩ := get_at hil
    obtain ⟨q, hq, rfl, hqr⟩ := (hbm v).1 (List.mem_of_getElem? hv)
    have hqd : (q : Int).toNat < row.length := by omega
    ((repeat apply WP.seq); apply WP.block)
    ((repeat apply WP.seq); apply WP.lreg; refine nM rfl rfl ?_; refine nM rfl rfl ?_; refine ALK.n OpN.ix rfl ?_; (first | refine ALK.n (opn_load rfl (eB rfl) rfl) rfl ?_ | refine ALK.r OpR.ld rfl ?_); refine ALK.n OpN.cm rfl ?_; refine nM rfl rfl ?_; refine gM rfl rfl rfl rfl ?_; refine gM rfl rfl rfl rfl ?_; (first | refine ALK.g (fun hb => opn_index rfl (eC rfl hb) (eC rfl hb) (by omega) (by assumption)) rfl rfl rfl ?_ | refine ALK.g (fun hb => opn_indexRow1 rfl (eC rfl hb) (eC rfl hb) (by omega) (by omega)) rfl rfl rfl ?_ | refine ALK.g (fun hb => opn_indexRow rfl (eC rfl hb) (eC rfl hb) (by omega) (by omega)) rfl rfl rfl ?_ | refine ALK.g (fun hb => opn_indexArr rfl (eC rfl hb) (eC rfl hb) (by omega) (by omega)) rfl rfl rfl ?_ | refine ALK.g (fun hb => opn_indexArrI rfl (eC rfl hb) (eC rfl hb) (by omega) (by omega)) rfl rfl rfl ?_); (first | refine ALK.g (fun hb => opn_load rfl (eC rfl hb) rfl) rfl rfl rfl ?_ | refine ALK.rg (fun hb => opr_load rfl (eC rfl hb) rfl rfl) rfl rfl rfl ?_ | refine ALK.rg (fun hb => opr_loadRow rfl rfl (eC rfl hb) rfl (by assumption) rfl) rfl rfl rfl ?_ | refine ALK.rg (fun hb => opr_loadK0 rfl (eC rfl hb) rfl (by assumption) rfl) rfl rfl rfl ?_ | refine ALK.rg (fun hb => opr_loadK rfl (eC rfl hb) rfl (by assumption) rfl) rfl rfl rfl ?_); refine gM rfl rfl rfl rfl ?_; (first | refine ALK.g (fun hb => opn_len rfl (eC rfl hb)) rfl rfl rfl ?_ | refine ALK.g (fun hb => opn_lenRow rfl (eC rfl hb)) rfl rfl rfl ?_ | refine ALK.g (fun hb => opn_lenNil rfl (eC rfl hb)) rfl rfl rfl ?_); (first | refine ALK.g (fun hb => opn_cmp (eC rfl hb) (eC rfl hb) rfl) rfl rfl rfl ?_ | refine ALK.g (fun hb => opn_cmpB rfl (eC rfl hb) (eC rfl hb) rfl) rfl rfl rfl ?_); refine ALK.n (opn_pick_or (eB rfl) rfl rfl (fun hb2 => by first | (rw [hb2]; rfl) | (rw [hb, hb2]; rfl) | simp_all [gd])) rfl ?_; refine ALK.nil ?_; try show WP _ _ _ _ _ _)
    ((repeat apply WP.seq); refine WP.cond rfl (fun h => ?_) (fun h => ?_))
    · exfalso
      simp at h
      omega
    (refine WP.skip ?_; show WP _ _ _ _ _ _)
    ((repeat apply WP.seq); apply WP.lreg; refine nM rfl rfl ?_; refine nM rfl rfl ?_; refine nM rfl rfl ?_; refine ALK.n OpN.ix rfl ?_; (first | refine ALK.n (opn_load rfl (eB rfl) rfl) rfl ?_ | refine ALK.r OpR.ld rfl ?_); refine ALK.n OpN.ix rfl ?_; (first | refine ALK.e (ope_store rfl (eB rfl) (eB rfl) Cs.a rfl rfl rfl) rfl rfl ?_ | refine ALK.e (ope_storeRow rfl rfl (eB rfl) (eB rfl) (oc_val rfl) rfl rfl (by assumption)) rfl rfl ?_); refine ALK.nil ?_; try show WP _ _ _ _ _ _)
    ((repeat apply WP.seq); apply WP.lreg; refine nM rfl rfl ?_; refine ALK.n OpN.ar rfl ?_; refine nA rfl rfl ?_; refine ALK.nil ?_; try show WP _ _ _ _ _ _)
    show ∃ _, _ ∧ _ ∧ _
    refine ⟨(i + 1, row.set q true), ⟨by simp only; omega, by simpa using hrl, fun q' v' hv' => ?_⟩, by simp only; omega, (Shift.sub [(0, 0)] rfl SubE.a SubH.a)⟩
    simp only at hv' ⊢
    rw [List.take_add_one, hv]
    rw [List.getElem?_set] at hv'
    by_cases e : q = q'
    · subst e
      rw [if_pos rfl, if_pos (by omega)] at hv'
      injection hv' with hv'
      subst hv'
      simp
    · rw [if_neg e] at hv'
      rw [hrow q' v' hv']
      have : ¬ (q' : Int) = q := by omega
      simp [this]
  · ((repeat apply WP.seq); refine WP.exit ?_; show WP _ _ _ _ _ _)
    have hrow2 : ∀ (q : Nat) v, row[q]? = some v → v = readyB l done q := fun q v hv => by
      have h1 := hrow q v hv
      rw [List.take_of_length_le (by simp at h; omega)] at h1
      have hql : q < l.length := by rw [← hrl]; exact (List.getElem?_eq_some_iff.1 hv).1
      rw [h1, Bool.eq_iff_iff, decide_eq_true_iff, hbm]
      exact ⟨fun ⟨q', _, e, hr⟩ => by have : q = q' := by omega
                                      rw [this]; exact hr, fun hr => ⟨q, hql, rfl, hr⟩⟩
    refine WP.shift (Shift.frzRow 7 rfl rfl) ?_
    ((repeat apply WP.seq); apply WP.lreg; refine nA rfl rfl ?_; refine ALK.nil ?_; try show WP _ _ _ _ _ _)
    ((repeat apply WP.seq); apply WP.lreg; refine nA rfl rfl ?_; refine ALK.nil ?_; try show WP _ _ _ _ _ _)
    ((repeat apply WP.seq); apply WP.block)
    refine WP.loop (fun c : Nat × Int => ⟨[(10, .im (IV.int c.1)), (9, .im (IV.int c.2)), (5, .im (intsV b)), (7, .im (boolsV row)), (0, .im (txsV l)), (1, .im (boolsV done))], [], 0⟩) (fun c => c.1 ≤ l.length ∧ 0 ≤ c.2 ∧ c.2 ≤ c.1 ∧ (c.2 = 0 ↔ ∀ q : Nat, q < c.1 → done[q]? = some true)) (fun c => l.length - c.1) (0, 0) ⟨Nat.zero_le _, by simp, by simp, by simp⟩ (Shift.sub [] rfl SubE.a SubH.nil) ?_
    rintro ⟨n, lf⟩ ⟨hn, hlf0, hlf1, hlf⟩
    simp only at hn hlf0 hlf1 hlf
    ((repeat apply WP.seq); apply WP.lreg; refine nM rfl rfl ?_; refine nM rfl rfl ?_; refine ALK.n OpN.ln rfl ?_; refine ALK.n OpN.cm rfl ?_; refine ALK.nil ?_; try show WP _ _ _ _ _ _)
    ((repeat apply WP.seq); refine WP.cond rfl (fun h => ?_) (fun h => ?_))
    · (refine WP.skip ?_; show WP _ _ _ _ _ _)
      have hlt : n < l.length := by simpa using h
      obtain ⟨t, ht⟩ := get_at hlt
      obtain ⟨d, hdn⟩ := get_at (xs := done) (k := n) (by omega)
      obtain ⟨rn, hrn⟩ := get_at (xs := row) (k := n) (by omega)
      have hrn2 := hrow2 n rn hrn
      have hbt := hb t (List.mem_of_getElem? ht)
      have hct := hall t (List.mem_of_getElem? ht)
      ((repeat apply WP.seq); apply WP.block)
      ((repeat apply WP.seq); apply WP.lreg; refine nM rfl rfl ?_; refine nM rfl rfl ?_; refine ALK.n OpN.ix rfl ?_; (first | refine ALK.n (opn_load rfl (eB rfl) rfl) rfl ?_ | refine ALK.r OpR.ld rfl ?_); refine ALK.n (opn_not (eB rfl)) rfl ?_; refine nA rfl rfl ?_; refine ALK.nil ?_; try show WP _ _ _ _ _ _)
      ((repeat apply WP.seq); apply WP.lreg; refine nM rfl rfl ?_; refine ALK.nil ?_; try show WP _ _ _ _ _ _)
      ((repeat apply WP.seq); refine WP.qshift ⟨[(9, .im (IV.int (if d then lf else lf + 1))), (11, .im (IV.bool (!d))), (10, .im (IV.int n)), (5, .im (intsV b)), (7, .im (boolsV row)), (0, .im (txsV l)), (1, .im (boolsV done))], [], 0⟩ (WP.cond rfl (fun h => ?_) (fun h => ?_)) ?_)
      · have hr : lf + 1 = if d then lf else lf + 1 := by
          have : d = false := by simpa using h
          rw [this]; rfl
        ((repeat apply WP.seq); apply WP.lreg; refine nM rfl rfl ?_; refine ALK.n OpN.ar rfl ?_; refine nA rfl rfl ?_; refine ALK.nil ?_; try show WP _ _ _ _ _ _)
        show Shift _ _ _ _
        exact (Shift.sub [] rfl SubE.a SubH.nil)
      · refine WP.skip ?_; show Shift _ _ _ _
        have hr : lf = if d then lf else lf + 1 := by
          have : d = true := by simpa using h
          rw [this]; rfl
        exact (Shift.sub [] rfl SubE.a SubH.nil)
      show WP _ _ _ _ _ _
      ((repeat apply WP.seq); apply WP.lreg; refine nA rfl rfl ?_; refine ALK.nil ?_; try show WP _ _ _ _ _ _)
      ((repeat apply WP.seq); apply WP.block)
      refine WP.loop (fun k : Nat => ⟨[(12, .im (IV.int k)), (11, .im (IV.bool (!d && aheadTo l done t k))), (9, .im (IV.int (if d then lf else lf + 1))), (10, .im (IV.int n)), (5, .im (intsV b)), (7, .im (boolsV row)), (0, .im (txsV l)), (1, .im (boolsV done))], [], 0⟩) (fun k => k ≤ n) (fun k => n - k) 0 (Nat.zero_le _) (Shift.sub [] rfl (by repeat (first | exact SubE.nil | refine SubE.cons rfl (by first | exact SLe.im (ILe.bool (by simp [aheadTo]; done)) | exact SLe.a) ?_)) SubH.nil) ?_
      rintro k hk
      ((repeat apply WP.seq); apply WP.lreg; refine nM rfl rfl ?_; refine nM rfl rfl ?_; refine ALK.n OpN.cm rfl ?_; refine ALK.nil ?_; try show WP _ _ _ _ _ _)
      ((repeat apply WP.seq); refine WP.cond rfl (fun h => ?_) (fun h => ?_))
      · (refine WP.skip ?_; show WP _ _ _ _ _ _)
        have hkn : k < n := by simpa using h
        obtain ⟨u, hu⟩ := get_at (xs := l) (k := k) (by omega)
        obtain ⟨e, he⟩ := get_at (xs := done) (k := k) (by omega)
        obtain ⟨rk, hrk⟩ := get_at (xs := row) (k := k) (by omega)
        have hrk2 := hrow2 k rk hrk
        have hbu := hb u (List.mem_of_getElem? hu)
        have hcu := hall u (List.mem_of_getElem? hu)
        have hnx := aheadTo_next (t := t) hu he
        have z1 : err2 u t = 0 := by unfold err2; rw [if_pos hcu, hct]
        have hcs := clash_same hcu hct
        ((repeat apply WP.seq); apply WP.block)
        ((repeat apply WP.seq); apply WP.ldraw; refine nM rfl rfl ?_; refine nM rfl rfl ?_; refine ALK.n OpN.ix rfl ?_; (first | refine ALK.n (opn_load rfl (eB rfl) rfl) rfl ?_ | refine ALK.r OpR.ld rfl ?_); refine nM rfl rfl ?_; refine nM rfl rfl ?_; refine ALK.n OpN.ix rfl ?_; (first | refine ALK.n (opn_load rfl (eB rfl) rfl) rfl ?_ | refine ALK.r OpR.ld rfl ?_); refine ALK.n (opn_call (Clash_fn u t hbu hbt) (Evs.cons Ev.a (Evs.cons Ev.a Evs.nil))) rfl ?_; refine nM rfl rfl ?_; refine nX rfl rfl rfl ?_; refine nX rfl rfl rfl ?_; refine nA rfl rfl ?_; refine nA rfl rfl ?_; refine ALK.nilD (by kernel_rfl) ?_; try show WP _ _ _ _ _ _)
        rw [z1, hcs]
        ((repeat apply WP.seq); apply WP.lreg; refine nM rfl rfl ?_; refine ALK.n OpN.cm rfl ?_; refine nM rfl rfl ?_; refine gM rfl rfl rfl rfl ?_; refine ALK.g (fun hb => opn_move (eC rfl hb)) rfl rfl rfl ?_; refine ALK.g2 (fun hb => opn_move (eB rfl)) rfl rfl rfl ?_; refine ALK.g2 (fun hb => opn_move (eB rfl)) rfl rfl rfl ?_; (first | refine ALK.g2 (fun hb => opn_index rfl (eC rfl hb) (eC rfl hb) (by omega) (by assumption)) rfl rfl rfl ?_ | refine ALK.g2 (fun hb => opn_indexRow1 rfl (eC rfl hb) (eC rfl hb) (by omega) (by omega)) rfl rfl rfl ?_ | refine ALK.g2 (fun hb => opn_indexRow rfl (eC rfl hb) (eC rfl hb) (by omega) (by omega)) rfl rfl rfl ?_ | refine ALK.g2 (fun hb => opn_indexArr rfl (eC rfl hb) (eC rfl hb) (by omega) (by omega)) rfl rfl rfl ?_ | refine ALK.g2 (fun hb => opn_indexArrI rfl (eC rfl hb) (eC rfl hb) (by omega) (by omega)) rfl rfl rfl ?_); (first | refine ALK.g2 (fun hb => opn_load rfl (eC rfl hb) rfl) rfl rfl rfl ?_ | refine ALK.rg2 (fun hb => opr_load rfl (eC rfl hb) rfl rfl) rfl rfl rfl ?_ | refine ALK.rg2 (fun hb => opr_loadRow rfl rfl (eC rfl hb) rfl (by assumption) rfl) rfl rfl rfl ?_ | refine ALK.rg2 (fun hb => opr_loadK0 rfl (eC rfl hb) rfl (by assumption) rfl) rfl rfl rfl ?_ | refine ALK.rg2 (fun hb => opr_loadK rfl (eC rfl hb) rfl (by assumption) rfl) rfl rfl rfl ?_); refine ALK.g (fun hb => opn_pick_and (eC rfl hb) rfl (fun hb2 => by first | exact hb2 | (rw [hb, hb2]; rfl) | simp_all [gd]) rfl) rfl rfl rfl ?_; refine ALK.g (fun hb => opn_move (eC rfl hb)) rfl rfl rfl ?_; refine ALK.g2 (fun hb => opn_move (eB rfl)) rfl rfl rfl ?_; refine ALK.g2 (fun hb => opn_move (eB rfl)) rfl rfl rfl ?_; (first | refine ALK.g2 (fun hb => opn_index rfl (eC rfl hb) (eC rfl hb) (by omega) (by assumption)) rfl rfl rfl ?_ | refine ALK.g2 (fun hb => opn_indexRow1 rfl (eC rfl hb) (eC rfl hb) (by omega) (by omega)) rfl rfl rfl ?_ | refine ALK.g2 (fun hb => opn_indexRow rfl (eC rfl hb) (eC rfl hb) (by omega) (by omega)) rfl rfl rfl ?_ | refine ALK.g2 (fun hb => opn_indexArr rfl (eC rfl hb) (eC rfl hb) (by omega) (by omega)) rfl rfl rfl ?_ | refine ALK.g2 (fun hb => opn_indexArrI rfl (eC rfl hb) (eC rfl hb) (by omega) (by omega)) rfl rfl rfl ?_); (first | refine ALK.g2 (fun hb => opn_load rfl (eC rfl hb) rfl) rfl rfl rfl ?_ | refine ALK.rg2 (fun hb => opr_load rfl (eC rfl hb) rfl rfl) rfl rfl rfl ?_ | refine ALK.rg2 (fun hb => opr_loadRow rfl rfl (eC rfl hb) rfl (by assumption) rfl) rfl rfl rfl ?_ | refine ALK.rg2 (fun hb => opr_loadK0 rfl (eC rfl hb) rfl (by assumption) rfl) rfl rfl rfl ?_ | refine ALK.rg2 (fun hb => opr_loadK rfl (eC rfl hb) rfl (by assumption) rfl) rfl rfl rfl ?_); refine ALK.g (fun hb => opn_pick_and (eC rfl hb) rfl (fun hb2 => by first | exact hb2 | (rw [hb, hb2]; rfl) | simp_all [gd]) rfl) rfl rfl rfl ?_; refine ALK.n (opn_pick_or (eB rfl) rfl rfl (fun hb2 => by first | (rw [hb2]; rfl) | (rw [hb, hb2]; rfl) | simp_all [gd])) rfl ?_; refine ALK.nil ?_; try show WP _ _ _ _ _ _)
        ((repeat apply WP.seq); refine WP.cond rfl (fun h => ?_) (fun h => ?_))
        · exfalso
          simp at h
          obtain ⟨⟨hcl, h1⟩, h2⟩ := h
          rw [hrk2] at h1
          rw [hrn2] at h2
          have h3 := ((readyB_iff hd hu he).1 h1).1
          have h4 := ((readyB_iff hd ht hdn).1 h2).2 k u hkn hu (by rw [he, h3])
          rw [hcl] at h4
          cases h4
        (refine WP.skip ?_; show WP _ _ _ _ _ _)
        ((repeat apply WP.seq); apply WP.lreg; refine nM rfl rfl ?_; refine nM rfl rfl ?_; refine gM rfl rfl rfl rfl ?_; refine gM rfl rfl rfl rfl ?_; (first | refine ALK.g (fun hb => opn_index rfl (eC rfl hb) (eC rfl hb) (by omega) (by assumption)) rfl rfl rfl ?_ | refine ALK.g (fun hb => opn_indexRow1 rfl (eC rfl hb) (eC rfl hb) (by omega) (by omega)) rfl rfl rfl ?_ | refine ALK.g (fun hb => opn_indexRow rfl (eC rfl hb) (eC rfl hb) (by omega) (by omega)) rfl rfl rfl ?_ | refine ALK.g (fun hb => opn_indexArr rfl (eC rfl hb) (eC rfl hb) (by omega) (by omega)) rfl rfl rfl ?_ | refine ALK.g (fun hb => opn_indexArrI rfl (eC rfl hb) (eC rfl hb) (by omega) (by omega)) rfl rfl rfl ?_); (first | refine ALK.g (fun hb => opn_load rfl (eC rfl hb) rfl) rfl rfl rfl ?_ | refine ALK.rg (fun hb => opr_load rfl (eC rfl hb) rfl rfl) rfl rfl rfl ?_ | refine ALK.rg (fun hb => opr_loadRow rfl rfl (eC rfl hb) rfl (by assumption) rfl) rfl rfl rfl ?_ | refine ALK.rg (fun hb => opr_loadK0 rfl (eC rfl hb) rfl (by assumption) rfl) rfl rfl rfl ?_ | refine ALK.rg (fun hb => opr_loadK rfl (eC rfl hb) rfl (by assumption) rfl) rfl rfl rfl ?_); refine ALK.g (fun hb => opn_move (eC rfl hb)) rfl rfl rfl ?_; refine ALK.g2 (fun hb => opn_move (eB rfl)) rfl rfl rfl ?_; refine ALK.g2 (fun hb => opn_not (eC rfl hb)) rfl rfl rfl ?_; refine ALK.g (fun hb => opn_pick_or (eC rfl hb) rfl rfl (fun hb2 => by first | (rw [hb2]; rfl) | (rw [hb, hb2]; rfl) | simp_all [gd])) rfl rfl rfl ?_; refine ALK.n (opn_pick_and (eB rfl) rfl (fun hb2 => by first | exact hb2 | (rw [hb, hb2]; rfl) | simp_all [gd]) rfl) rfl ?_; refine nA rfl rfl ?_; refine ALK.nil ?_; try show WP _ _ _ _ _ _)
        ((repeat apply WP.seq); apply WP.lreg; refine nM rfl rfl ?_; refine ALK.n OpN.ar rfl ?_; refine nA rfl rfl ?_; refine ALK.nil ?_; try show WP _ _ _ _ _ _)
        show ∃ _, _ ∧ _ ∧ _
        have hr : (!d && aheadTo l done t (k + 1)) = ((!d && aheadTo l done t k) && (e || !(decide ((0 : Int) = 0) && clashR u t 1 0))) := by
          rw [hnx]
          cases e <;> simp [Bool.and_assoc]
        exact ⟨k + 1, by omega, by omega, (Shift.sub [] rfl SubE.a SubH.nil)⟩
      · ((repeat apply WP.seq); refine WP.exit ?_; show WP _ _ _ _ _ _)
        have hkn : k = n := by simp at h; omega
        subst hkn
        rw [← readyB_ahead ht hdn]
        ((repeat apply WP.seq); apply WP.lreg; refine nM rfl rfl ?_; refine nM rfl rfl ?_; refine nM rfl rfl ?_; refine ALK.n OpN.ix rfl ?_; (first | refine ALK.n (opn_load rfl (eB rfl) rfl) rfl ?_ | refine ALK.r OpR.ld rfl ?_); refine ALK.n OpN.cm rfl ?_; refine ALK.nil ?_; try show WP _ _ _ _ _ _)
        ((repeat apply WP.seq); refine WP.cond rfl (fun h => ?_) (fun h => ?_))
        · exfalso
          rw [hrn2] at h
          simp at h
        (refine WP.skip ?_; show WP _ _ _ _ _ _)
        ((repeat apply WP.seq); apply WP.lreg; refine nM rfl rfl ?_; refine ALK.n OpN.ar rfl ?_; refine nA rfl rfl ?_; refine ALK.nil ?_; try show WP _ _ _ _ _ _)
        show ∃ _, _ ∧ _ ∧ _
        refine ⟨(k + 1, if d then lf else lf + 1), ⟨by simp only; omega, by simp only; split <;> omega, by simp only; push_cast; split <;> omega, ?_⟩, by simp only; omega, (Shift.sub [] rfl SubE.a SubH.nil)⟩
        simp only
        constructor
        · intro hz q hq
          cases d with
          | true =>
            rw [if_pos rfl] at hz
            rcases Nat.lt_or_ge q k with h5 | h5
            · exact hlf.1 hz q h5
            · have : q = k := by omega
              subst this; exact hdn
          | false =>
            rw [if_neg (by simp)] at hz
            omega
        · intro hq
          have hdk := hq k (by omega)
          rw [hdn] at hdk
          injection hdk with hdk
          subst hdk
          rw [if_pos rfl]
          exact hlf.2 fun q h5 => hq q (by omega)
    · ((repeat apply WP.seq); refine WP.exit ?_; show WP _ _ _ _ _ _)
      have hne : n = l.length := by simp at h; omega
      subst hne
      ((repeat apply WP.seq); apply WP.lreg; refine ALK.n (opn_call locksBegun_fn Evs.nil) rfl ?_; refine nM rfl rfl ?_; refine gM rfl rfl rfl rfl ?_; (first | refine ALK.g (fun hb => opn_cmp (eC rfl hb) (eB rfl) rfl) rfl rfl rfl ?_ | refine ALK.g (fun hb => opn_cmpB rfl (eC rfl hb) (eB rfl) rfl) rfl rfl rfl ?_); refine gM rfl rfl rfl rfl ?_; (first | refine ALK.g (fun hb => opn_len rfl (eC rfl hb)) rfl rfl rfl ?_ | refine ALK.g (fun hb => opn_lenRow rfl (eC rfl hb)) rfl rfl rfl ?_ | refine ALK.g (fun hb => opn_lenNil rfl (eC rfl hb)) rfl rfl rfl ?_); (first | refine ALK.g (fun hb => opn_cmp (eC rfl hb) (eB rfl) rfl) rfl rfl rfl ?_ | refine ALK.g (fun hb => opn_cmpB rfl (eC rfl hb) (eB rfl) rfl) rfl rfl rfl ?_); (first | refine ALK.g (fun hb => opn_cmp (eC rfl hb) (eC rfl hb) rfl) rfl rfl rfl ?_ | refine ALK.g (fun hb => opn_cmpB rfl (eC rfl hb) (eC rfl hb) rfl) rfl rfl rfl ?_); refine ALK.n (opn_pick_and (eB rfl) rfl (fun hb2 => by first | exact hb2 | (rw [hb, hb2]; rfl) | simp_all [gd]) rfl) rfl ?_; refine nA rfl rfl ?_; refine ALK.nil ?_; try show WP _ _ _ _ _ _)
      refine WP.ret ?_
      refine RetOk.one Try.results14 (ResV.tmp rfl (ImOf.im (ILe.bool ?_)))
      have h5 := hlf.trans (all_done_iff hd)
      rw [← hbe] at h5
      have h6 : (lf == 0) = ((b.length : Int) == 0) := by
        rw [Bool.eq_iff_iff, beq_iff_eq, beq_iff_eq, h5, ← List.length_eq_zero_iff]
        omega
      rw [h6]
      simp
end Go.Proofs.Ytjgmbgfcffnanac
