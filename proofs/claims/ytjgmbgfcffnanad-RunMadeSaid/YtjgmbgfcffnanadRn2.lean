/- Package run and its reference: check and run. -/
import Derived.Test.YtjgmbgfcffnanadRn
namespace Go.Proofs.Ytjgmbgfcffnanad
open Go.RowKit

set_option maxRecDepth 100000 in
theorem IndexB_fn (xs : List Bool) (v : Bool) : Fn (Cfg.mk Try.prog (ttAt ttl) ttl_ok.ok mixd) 41 [boolsV xs, IV.bool v] (IV.int (idxP (fun y => v == y) xs)) := by
  refine Fn.of_wp _ Try.func41 rfl (by kernel_rfl) Try.ntmps41 rfl ?_
  intro F hD hG
  refine WP.len 0 rfl (fun hl1 => ?_)
  ((repeat apply WP.seq); apply WP.lreg; refine nA rfl rfl ?_; refine ALK.nil ?_; try show WP _ _ _ _ _ _)
  ((repeat apply WP.seq); apply WP.lreg; refine nM rfl rfl ?_; refine ALK.n OpN.ln rfl ?_; refine nM rfl rfl ?_; refine ALK.nil ?_; try show WP _ _ _ _ _ _)
  ((repeat apply WP.seq); apply WP.block)
  refine WP.loop (fun k : Nat => ⟨[(8, .im (IV.int k)), (7, .im (IV.int xs.length)), (0, .im (boolsV xs)), (1, .im (IV.bool v))], [], 0⟩) (fun k => k ≤ xs.length ∧ ∀ y ∈ xs.take k, (v == y) = false) (fun k => xs.length - k) 0 ⟨Nat.zero_le _, by simp⟩ (Shift.sub [] rfl SubE.a SubH.nil) ?_
  rintro k ⟨hk, he⟩
  ((repeat apply WP.seq); apply WP.lreg; refine ALK.n OpN.cm rfl ?_; refine ALK.nil ?_; try show WP _ _ _ _ _ _)
  ((repeat apply WP.seq); refine WP.cond rfl (fun h => ?_) (fun h => ?_))
  · (refine WP.skip ?_; show WP _ _ _ _ _ _)
    have hlt : k < xs.length := by simpa using h
    obtain ⟨x, hx⟩ := get_at hlt
    ((repeat apply WP.seq); apply WP.block)
    ((repeat apply WP.seq); apply WP.lreg; refine nM rfl rfl ?_; refine nA rfl rfl ?_; refine ALK.nil ?_; try show WP _ _ _ _ _ _)
    ((repeat apply WP.seq); apply WP.lreg; refine nM rfl rfl ?_; refine nM rfl rfl ?_; refine nM rfl rfl ?_; refine ALK.n OpN.ix rfl ?_; (first | refine ALK.n (opn_load rfl (eB rfl) rfl) rfl ?_ | refine ALK.r OpR.ld rfl ?_); refine ALK.n OpN.cm rfl ?_; refine ALK.nil ?_; try show WP _ _ _ _ _ _)
    ((repeat apply WP.seq); refine WP.cond rfl (fun h => ?_) (fun h => ?_))
    · ((repeat apply WP.seq); apply WP.lreg; refine nM rfl rfl ?_; refine nA rfl rfl ?_; refine ALK.nil ?_; try show WP _ _ _ _ _ _)
      have hr : idxP (fun y => v == y) xs = k := idxP_at he hx h
      ((repeat apply WP.seq); refine WP.ret ?_; first | exact RetOk.one Try.results41 ResV.a | exact RetOk.tup Try.results41 rfl ResVs.a)
    (refine WP.skip ?_; show WP _ _ _ _ _ _)
    ((repeat apply WP.seq); apply WP.lreg; refine ALK.n OpN.ar rfl ?_; refine nM rfl rfl ?_; refine ALK.nil ?_; try show WP _ _ _ _ _ _)
    show ∃ _, _ ∧ _ ∧ _
    exact ⟨k + 1, ⟨by omega, take_next he hx h⟩, by omega, (Shift.sub [] rfl SubE.a SubH.nil)⟩
  · ((repeat apply WP.seq); refine WP.exit ?_; show WP _ _ _ _ _ _)
    ((repeat apply WP.seq); apply WP.lreg; refine nA rfl rfl ?_; refine ALK.nil ?_; try show WP _ _ _ _ _ _)
    have hr : idxP (fun y => v == y) xs = -1 := idxP_none (by rw [List.take_of_length_le (by simp at h; omega)] at he; exact he)
    ((repeat apply WP.seq); refine WP.ret ?_; first | exact RetOk.one Try.results41 ResV.a | exact RetOk.tup Try.results41 rfl ResVs.a)
set_option maxRecDepth 100000 in
theorem ContainsB_fn (xs : List Bool) (v : Bool) : Fn (Cfg.mk Try.prog (ttAt ttl) ttl_ok.ok mixd) 30 [boolsV xs, IV.bool v] (IV.bool (xs.any (fun y => v == y))) := by
  refine Fn.of_wp _ Try.func30 rfl (by kernel_rfl) Try.ntmps30 rfl ?_
  intro F hD hG
  ((repeat apply WP.seq); apply WP.lreg; refine nA rfl rfl ?_; refine ALK.nil ?_; try show WP _ _ _ _ _ _)
  ((repeat apply WP.seq); apply WP.lreg; refine nM rfl rfl ?_; refine nM rfl rfl ?_; refine ALK.n (opn_call (IndexB_fn _ _) (Evs.cons Ev.a (Evs.cons Ev.a Evs.nil))) rfl ?_; refine ALK.n OpN.cm rfl ?_; refine nA rfl rfl ?_; refine ALK.nil ?_; try show WP _ _ _ _ _ _)
  have hr : xs.any (fun y => v == y) = decide (idxP (fun y => v == y) xs ≥ 0) := (idxP_ge _ _).symm
  ((repeat apply WP.seq); refine WP.ret ?_; first | exact RetOk.one Try.results30 ResV.a | exact RetOk.tup Try.results30 rfl ResVs.a)

theorem runE_1 {s : List Int} {l : List Txn} {ps : List Int} (h : ¬ s.length = 8) : runE s l ps = 1 := by unfold runE; rw [if_neg h]
theorem runE_2 {s : List Int} {l : List Txn} {ps : List Int} (h : s.length = 8) (h2 : ¬ checkTxns l = 0) : runE s l ps = checkTxns l := by unfold runE; rw [if_pos h, if_neg h2]
theorem runE_3 {s : List Int} {l : List Txn} {ps : List Int} (h : s.length = 8) (h2 : checkTxns l = 0) (h3 : 200 < ps.length) : runE s l ps = 2 := by unfold runE; rw [if_pos h, if_pos h2, if_pos h3]
theorem runE_4 {s : List Int} {l : List Txn} {ps : List Int} (h : s.length = 8) (h2 : checkTxns l = 0) (h3 : ¬ 200 < ps.length) : runE s l ps = pickE l (none8 l) ps := by unfold runE; rw [if_pos h, if_pos h2, if_neg h3]
theorem pick_at {l : List Txn} {d : List Bool} {ps : List Int} {k : Nat} {p : Int} (hp : ps[k]? = some p) : pickE l d (ps.drop k) = if p < 0 ∨ (l.length : Int) ≤ p then 5 else if d.getD p.toNat false then 7 else if readyB l d p.toNat then pickE l (d.set p.toNat true) (ps.drop (k + 1)) else 6 := by
  obtain ⟨h1, h2⟩ := List.getElem?_eq_some_iff.1 hp
  rw [List.drop_eq_getElem_cons h1, h2]
  rfl

set_option maxRecDepth 100000 in
set_option maxHeartbeats 1000000 in
theorem run_Check_fn (s : List Int) (l : List Txn) (ps : List Int) (hb : TxsB l) : Fn (Cfg.mk Try.prog (ttAt ttl) ttl_ok.ok mixd) 10 [intsV s, txsV l, intsV ps] (IV.int (runE s l ps)) := by
  refine Fn.of_wp _ Try.func10 rfl (by kernel_rfl) Try.ntmps10 rfl ?_
  intro F hD hG
  refine WP.len 1 rfl (fun hl1 => ?_)
  refine WP.len 2 rfl (fun hl2 => ?_)
  ((repeat apply WP.seq); apply WP.lreg; refine nA rfl rfl ?_; refine ALK.nil ?_; try show WP _ _ _ _ _ _)
  ((repeat apply WP.seq); apply WP.lreg; refine nM rfl rfl ?_; refine ALK.n (opn_call (store_Check_fn s) (Evs.cons Ev.a Evs.nil)) rfl ?_; refine nA rfl rfl ?_; refine ALK.nil ?_; try show WP _ _ _ _ _ _)
  ((repeat apply WP.seq); apply WP.lreg; refine nM rfl rfl ?_; refine ALK.n OpN.cm rfl ?_; refine ALK.nil ?_; try show WP _ _ _ _ _ _)
  ((repeat apply WP.seq); refine WP.cond rfl (fun h => ?_) (fun h => ?_))
  · ((repeat apply WP.seq); apply WP.lreg; refine nM rfl rfl ?_; refine nA rfl rfl ?_; refine ALK.nil ?_; try show WP _ _ _ _ _ _)
    have hne : ¬ s.length = 8 := by intro e; simp [e] at h
    rw [runE_1 hne, if_neg hne]
    ((repeat apply WP.seq); refine WP.ret ?_; first | exact RetOk.one Try.results10 ResV.a | exact RetOk.tup Try.results10 rfl ResVs.a)
  (refine WP.skip ?_; show WP _ _ _ _ _ _)
  have h8 : s.length = 8 := by
    refine Decidable.byContradiction fun hne => ?_
    rw [if_neg hne] at h; cases h
  ((repeat apply WP.seq); apply WP.lreg; refine nM rfl rfl ?_; refine ALK.n (opn_call (store_Txns_fn l hb) (Evs.cons Ev.a Evs.nil)) rfl ?_; refine nA rfl rfl ?_; refine ALK.nil ?_; try show WP _ _ _ _ _ _)
  ((repeat apply WP.seq); apply WP.lreg; refine nM rfl rfl ?_; refine ALK.n OpN.cm rfl ?_; refine ALK.nil ?_; try show WP _ _ _ _ _ _)
  ((repeat apply WP.seq); refine WP.cond rfl (fun h => ?_) (fun h => ?_))
  · ((repeat apply WP.seq); apply WP.lreg; refine nM rfl rfl ?_; refine nA rfl rfl ?_; refine ALK.nil ?_; try show WP _ _ _ _ _ _)
    rw [runE_2 h8 (by simpa using h)]
    ((repeat apply WP.seq); refine WP.ret ?_; first | exact RetOk.one Try.results10 ResV.a | exact RetOk.tup Try.results10 rfl ResVs.a)
  (refine WP.skip ?_; show WP _ _ _ _ _ _)
  have h0 : checkTxns l = 0 := by simpa using h
  have hlen8 := (checkTxns_zero h0).1
  ((repeat apply WP.seq); apply WP.lreg; refine nM rfl rfl ?_; refine ALK.n OpN.ln rfl ?_; refine ALK.n OpN.cm rfl ?_; refine ALK.nil ?_; try show WP _ _ _ _ _ _)
  ((repeat apply WP.seq); refine WP.cond rfl (fun h => ?_) (fun h => ?_))
  · ((repeat apply WP.seq); apply WP.lreg; refine nA rfl rfl ?_; refine ALK.nil ?_; try show WP _ _ _ _ _ _)
    rw [runE_3 h8 h0 (by simp at h; omega)]
    ((repeat apply WP.seq); refine WP.ret ?_; first | exact RetOk.one Try.results10 ResV.a | exact RetOk.tup Try.results10 rfl ResVs.a)
  (refine WP.skip ?_; show WP _ _ _ _ _ _)
  have h200 : ¬ 200 < ps.length := by simp at h; omega
  rw [runE_4 h8 h0 h200]
  ((repeat apply WP.seq); apply WP.lreg; refine nM rfl rfl ?_; refine ALK.n OpN.ln rfl ?_; refine ALK.a (opa_make (n := l.length) (b := 1) (enc := cB) false rfl rfl (fun _ => rfl) rfl rfl rfl (eB rfl) (eB rfl) rfl (by omega) (by omega)) rfl ?_; refine nA rfl rfl ?_; refine ALK.nil ?_; try show WP _ _ _ _ _ _)
  ((repeat apply WP.seq); apply WP.lreg; refine nM rfl rfl ?_; refine ALK.n OpN.ln rfl ?_; refine nM rfl rfl ?_; refine ALK.nil ?_; try show WP _ _ _ _ _ _)
  ((repeat apply WP.seq); apply WP.block)
  refine WP.loop (fun c : Nat × List Bool => ⟨[(30, .im (IV.int c.1)), (28, .im (intsV ps)), (29, .im (IV.int ps.length)), (1, .im (txsV l)), (9, .row 0 l.length)], [(0, .row 4 1 cB c.2)], 1⟩) (fun c => c.1 ≤ ps.length ∧ c.2.length = l.length ∧ pickE l (none8 l) ps = pickE l c.2 (ps.drop c.1)) (fun c => ps.length - c.1) (0, none8 l) ⟨Nat.zero_le _, by simp [none8], rfl⟩ (Shift.sub [(0, 0)] rfl SubE.a SubH.a) ?_
  rintro ⟨k, d⟩ ⟨hk, hd, he⟩
  simp only at hk hd he
  ((repeat apply WP.seq); apply WP.lreg; refine ALK.n OpN.cm rfl ?_; refine ALK.nil ?_; try show WP _ _ _ _ _ _)
  ((repeat apply WP.seq); refine WP.cond rfl (fun h => ?_) (fun h => ?_))
  · (refine WP.skip ?_; show WP _ _ _ _ _ _)
    have hlt : k < ps.length := by simpa using h
    obtain ⟨p, hp⟩ := get_at hlt
    rw [pick_at hp] at he
    ((repeat apply WP.seq); apply WP.block)
    ((repeat apply WP.seq); apply WP.lreg; refine ALK.n OpN.ix rfl ?_; (first | refine ALK.n (opn_load rfl (eB rfl) rfl) rfl ?_ | refine ALK.r OpR.ld rfl ?_); refine nA rfl rfl ?_; refine ALK.nil ?_; try show WP _ _ _ _ _ _)
    ((repeat apply WP.seq); apply WP.block)
    ((repeat apply WP.seq); apply WP.lreg; refine nM rfl rfl ?_; refine ALK.n OpN.cm rfl ?_; refine nM rfl rfl ?_; refine gM rfl rfl rfl rfl ?_; refine gM rfl rfl rfl rfl ?_; (first | refine ALK.g (fun hb => opn_len rfl (eC rfl hb)) rfl rfl rfl ?_ | refine ALK.g (fun hb => opn_lenRow rfl (eC rfl hb)) rfl rfl rfl ?_ | refine ALK.g (fun hb => opn_lenNil rfl (eC rfl hb)) rfl rfl rfl ?_); (first | refine ALK.g (fun hb => opn_cmp (eC rfl hb) (eC rfl hb) rfl) rfl rfl rfl ?_ | refine ALK.g (fun hb => opn_cmpB rfl (eC rfl hb) (eC rfl hb) rfl) rfl rfl rfl ?_); refine ALK.n (opn_pick_or (eB rfl) rfl rfl (fun hb2 => by first | (rw [hb2]; rfl) | (rw [hb, hb2]; rfl) | simp_all [gd])) rfl ?_; refine nA rfl rfl ?_; refine ALK.nil ?_; try show WP _ _ _ _ _ _)
    ((repeat apply WP.seq); refine WP.cond rfl (fun h => ?_) (fun h => ?_))
    · ((repeat apply WP.seq); apply WP.lreg; refine nA rfl rfl ?_; refine ALK.nil ?_; try show WP _ _ _ _ _ _)
      rw [if_pos (by simp at h; omega)] at he
      rw [he]
      ((repeat apply WP.seq); refine WP.ret ?_; first | exact RetOk.one Try.results10 ResV.a | exact RetOk.tup Try.results10 rfl ResVs.a)
    have hr : ¬ (p < 0 ∨ (l.length : Int) ≤ p) := by simp at h; omega
    rw [if_neg hr] at he
    have hp0 : 0 ≤ p := by omega
    have hpl : p < l.length := by omega
    obtain ⟨b, hbt⟩ := get_at (xs := d) (k := p.toNat) (by omega)
    have hpd : p.toNat < d.length := by omega
    have hgb : d.getD p.toNat false = b := by rw [List.getD_eq_getElem?_getD, hbt]; rfl
    rw [hgb] at he
    ((repeat apply WP.seq); apply WP.lreg; refine nM rfl rfl ?_; refine nM rfl rfl ?_; refine ALK.n OpN.ix rfl ?_; (first | refine ALK.n (opn_load rfl (eB rfl) rfl) rfl ?_ | refine ALK.r OpR.ld rfl ?_); refine nA rfl rfl ?_; refine ALK.nil ?_; try show WP _ _ _ _ _ _)
    ((repeat apply WP.seq); refine WP.cond rfl (fun h => ?_) (fun h => ?_))
    · ((repeat apply WP.seq); apply WP.lreg; refine nA rfl rfl ?_; refine ALK.nil ?_; try show WP _ _ _ _ _ _)
      rw [if_pos h] at he
      rw [he]
      ((repeat apply WP.seq); refine WP.ret ?_; first | exact RetOk.one Try.results10 ResV.a | exact RetOk.tup Try.results10 rfl ResVs.a)
    rw [if_neg (by rw [h]; simp)] at he
    ((repeat apply WP.seq); apply WP.lreg; refine nM rfl rfl ?_; refine nM rfl rfl ?_; refine ALK.r (opr_callLend (FnN.of_row (locks_Of_row l d hb h0 hd) flat_cI) (Lent.im (eB rfl) (Lent.row (eB rfl) rfl Lent.nil))) rfl ?_; refine nM rfl rfl ?_; refine ALK.n (opn_call (Contains_fn _ _) (Evs.cons Ev.a (Evs.cons Ev.a Evs.nil))) rfl ?_; refine ALK.n (opn_not (eB rfl)) rfl ?_; refine nA rfl rfl ?_; refine ALK.nil ?_; try show WP _ _ _ _ _ _)
    have hra := readyTo_any (l := l) (d := d) hp0 hpl
    ((repeat apply WP.seq); refine WP.cond rfl (fun h => ?_) (fun h => ?_))
    · rw [hra] at h
      ((repeat apply WP.seq); apply WP.lreg; refine nA rfl rfl ?_; refine ALK.nil ?_; try show WP _ _ _ _ _ _)
      rw [if_neg (by simpa using h)] at he
      rw [he]
      ((repeat apply WP.seq); refine WP.ret ?_; first | exact RetOk.one Try.results10 ResV.a | exact RetOk.tup Try.results10 rfl ResVs.a)
    rw [hra] at h
    rw [if_pos (by simpa using h)] at he
    (refine WP.skip ?_; show WP _ _ _ _ _ _)
    ((repeat apply WP.seq); apply WP.lreg; refine nM rfl rfl ?_; refine nM rfl rfl ?_; refine ALK.n OpN.ix rfl ?_; (first | refine ALK.e (ope_store rfl (eB rfl) (eB rfl) Cs.a rfl rfl rfl) rfl rfl ?_ | refine ALK.e (ope_storeRow rfl rfl (eB rfl) (eB rfl) (oc_val rfl) rfl rfl (by assumption)) rfl rfl ?_); refine ALK.nil ?_; try show WP _ _ _ _ _ _)
    ((repeat apply WP.seq); apply WP.lreg; refine ALK.n OpN.ar rfl ?_; refine nM rfl rfl ?_; refine ALK.nil ?_; try show WP _ _ _ _ _ _)
    show ∃ _, _ ∧ _ ∧ _
    exact ⟨(k + 1, d.set p.toNat true), ⟨by simp only; omega, by simpa using hd, he⟩, by simp only; omega, (Shift.sub [(0, 0)] rfl SubE.a SubH.a)⟩
  · ((repeat apply WP.seq); refine WP.exit ?_; show WP _ _ _ _ _ _)
    have hkl : k = ps.length := by simp at h; omega
    subst hkl
    rw [List.drop_length] at he
    refine WP.shift (Shift.frzRow 9 rfl rfl) ?_
    ((repeat apply WP.seq); apply WP.lreg; refine nM rfl rfl ?_; refine ALK.n (opn_call (ContainsB_fn _ _) (Evs.cons Ev.a (Evs.cons Ev.a Evs.nil))) rfl ?_; refine ALK.nil ?_; try show WP _ _ _ _ _ _)
    rw [show pickE l d [] = if d.any (fun y => false == y) then 8 else 0 from rfl] at he
    ((repeat apply WP.seq); refine WP.cond rfl (fun h => ?_) (fun h => ?_))
    · ((repeat apply WP.seq); apply WP.lreg; refine nA rfl rfl ?_; refine ALK.nil ?_; try show WP _ _ _ _ _ _)
      rw [if_pos h] at he
      rw [he]
      ((repeat apply WP.seq); refine WP.ret ?_; first | exact RetOk.one Try.results10 ResV.a | exact RetOk.tup Try.results10 rfl ResVs.a)
    (refine WP.skip ?_; show WP _ _ _ _ _ _)
    ((repeat apply WP.seq); apply WP.lreg; refine nA rfl rfl ?_; refine ALK.nil ?_; try show WP _ _ _ _ _ _)
    rw [if_neg (by rw [h]; simp)] at he
    rw [he]
    ((repeat apply WP.seq); refine WP.ret ?_; first | exact RetOk.one Try.results10 ResV.a | exact RetOk.tup Try.results10 rfl ResVs.a)

theorem set_count {d : List Bool} {p : Nat} (h : d[p]? = some false) : (d.set p true).count false + 1 = d.count false := by
  induction d generalizing p with
  | nil => cases h
  | cons b d ih =>
    cases p with
    | zero =>
      have : b = false := by simpa using h
      subst this
      simp
    | succ p =>
      rw [List.set_cons_succ, List.count_cons, List.count_cons, ← ih (p := p) (by simpa using h)]
      omega
theorem count_any (d : List Bool) : decide ((d.count false : Int) > 0) = d.any (fun y => false == y) := by
  rw [Bool.eq_iff_iff, decide_eq_true_eq, List.any_eq_true]
  constructor
  · intro h
    exact ⟨false, List.count_pos_iff.1 (by omega), rfl⟩
  · rintro ⟨x, hx, he⟩
    have : x = false := by simpa using he
    subst this
    have := List.count_pos_iff.2 hx
    omega
set_option maxRecDepth 100000 in
set_option maxHeartbeats 1000000 in
theorem CheckPicks_fn (s : List Int) (l : List Txn) (ps : List Int) (hb : TxsB l) : Fn (Cfg.mk Try.prog (ttAt ttl) ttl_ok.ok mixd) 7 [intsV s, txsV l, intsV ps] (IV.int (runE s l ps)) := by
  refine Fn.of_wp _ Try.func7 rfl (by kernel_rfl) Try.ntmps7 rfl ?_
  intro F hD hG
  refine WP.len 1 rfl (fun hl1 => ?_)
  refine WP.len 2 rfl (fun hl2 => ?_)
  ((repeat apply WP.seq); apply WP.lreg; refine nA rfl rfl ?_; refine ALK.nil ?_; try show WP _ _ _ _ _ _)
  ((repeat apply WP.seq); apply WP.lreg; refine nM rfl rfl ?_; refine ALK.n (opn_call (IsStore_fn s) (Evs.cons Ev.a Evs.nil)) rfl ?_; refine ALK.n (opn_not (eB rfl)) rfl ?_; refine ALK.nil ?_; try show WP _ _ _ _ _ _)
  ((repeat apply WP.seq); refine WP.cond rfl (fun h => ?_) (fun h => ?_))
  · ((repeat apply WP.seq); apply WP.lreg; refine nA rfl rfl ?_; refine ALK.nil ?_; try show WP _ _ _ _ _ _)
    rw [runE_1 (by simpa using h)]
    ((repeat apply WP.seq); refine WP.ret ?_; first | exact RetOk.one Try.results7 ResV.a | exact RetOk.tup Try.results7 rfl ResVs.a)
  (refine WP.skip ?_; show WP _ _ _ _ _ _)
  have h8 : s.length = 8 := by simpa using h
  ((repeat apply WP.seq); apply WP.lreg; refine nM rfl rfl ?_; refine ALK.n (opn_call (ref_CheckTxns_fn _ (by assumption)) (Evs.cons Ev.a Evs.nil)) rfl ?_; refine nA rfl rfl ?_; refine ALK.nil ?_; try show WP _ _ _ _ _ _)
  ((repeat apply WP.seq); apply WP.lreg; refine nM rfl rfl ?_; refine ALK.n OpN.cm rfl ?_; refine ALK.nil ?_; try show WP _ _ _ _ _ _)
  ((repeat apply WP.seq); refine WP.cond rfl (fun h => ?_) (fun h => ?_))
  · ((repeat apply WP.seq); apply WP.lreg; refine nM rfl rfl ?_; refine nA rfl rfl ?_; refine ALK.nil ?_; try show WP _ _ _ _ _ _)
    rw [runE_2 h8 (by simpa using h)]
    ((repeat apply WP.seq); refine WP.ret ?_; first | exact RetOk.one Try.results7 ResV.a | exact RetOk.tup Try.results7 rfl ResVs.a)
  (refine WP.skip ?_; show WP _ _ _ _ _ _)
  have h0 : checkTxns l = 0 := by simpa using h
  have hlen8 := (checkTxns_zero h0).1
  ((repeat apply WP.seq); apply WP.lreg; refine nM rfl rfl ?_; refine ALK.n OpN.ln rfl ?_; refine ALK.n OpN.cm rfl ?_; refine ALK.nil ?_; try show WP _ _ _ _ _ _)
  ((repeat apply WP.seq); refine WP.cond rfl (fun h => ?_) (fun h => ?_))
  · ((repeat apply WP.seq); apply WP.lreg; refine nA rfl rfl ?_; refine ALK.nil ?_; try show WP _ _ _ _ _ _)
    rw [runE_3 h8 h0 (by simp at h; omega)]
    ((repeat apply WP.seq); refine WP.ret ?_; first | exact RetOk.one Try.results7 ResV.a | exact RetOk.tup Try.results7 rfl ResVs.a)
  (refine WP.skip ?_; show WP _ _ _ _ _ _)
  have h200 : ¬ 200 < ps.length := by simp at h; omega
  rw [runE_4 h8 h0 h200]
  ((repeat apply WP.seq); apply WP.lreg; refine nM rfl rfl ?_; refine ALK.n OpN.ln rfl ?_; refine ALK.a (opa_make (n := l.length) (b := 1) (enc := cB) false rfl rfl (fun _ => rfl) rfl rfl rfl (eB rfl) (eB rfl) rfl (by omega) (by omega)) rfl ?_; refine nA rfl rfl ?_; refine ALK.nil ?_; try show WP _ _ _ _ _ _)
  ((repeat apply WP.seq); apply WP.lreg; refine nM rfl rfl ?_; refine ALK.n OpN.ln rfl ?_; refine nA rfl rfl ?_; refine ALK.nil ?_; try show WP _ _ _ _ _ _)
  ((repeat apply WP.seq); apply WP.lreg; refine nA rfl rfl ?_; refine ALK.nil ?_; try show WP _ _ _ _ _ _)
  have hcn : (none8 l).count false = l.length := by simp [none8]
  ((repeat apply WP.seq); apply WP.block)
  refine WP.loop (fun c : Nat × List Bool => ⟨[(10, .im (IV.int c.1)), (2, .im (intsV ps)), (9, .im (IV.int (c.2.count false))), (0, .im (intsV s)), (1, .im (txsV l)), (8, .row 0 l.length)], [(0, .row 4 1 cB c.2)], 1⟩) (fun c => c.1 ≤ ps.length ∧ c.2.length = l.length ∧ pickE l (none8 l) ps = pickE l c.2 (ps.drop c.1)) (fun c => ps.length - c.1) (0, none8 l) ⟨Nat.zero_le _, by simp [none8], rfl⟩ (Shift.sub [(0, 0)] rfl (by simp only [hcn]; exact SubE.a) SubH.a) ?_
  rintro ⟨k, d⟩ ⟨hk, hd, he⟩
  simp only at hk hd he
  have hcd : ((k, d) : Nat × List Bool).2.count false ≤ d.length := List.count_le_length
  ((repeat apply WP.seq); apply WP.lreg; refine nM rfl rfl ?_; refine nM rfl rfl ?_; refine ALK.n OpN.ln rfl ?_; refine ALK.n OpN.cm rfl ?_; refine ALK.nil ?_; try show WP _ _ _ _ _ _)
  ((repeat apply WP.seq); refine WP.cond rfl (fun h => ?_) (fun h => ?_))
  · (refine WP.skip ?_; show WP _ _ _ _ _ _)
    have hlt : k < ps.length := by simpa using h
    obtain ⟨p, hp⟩ := get_at hlt
    rw [pick_at hp] at he
    ((repeat apply WP.seq); apply WP.block)
    ((repeat apply WP.seq); apply WP.lreg; refine nM rfl rfl ?_; refine nM rfl rfl ?_; refine ALK.n OpN.ix rfl ?_; (first | refine ALK.n (opn_load rfl (eB rfl) rfl) rfl ?_ | refine ALK.r OpR.ld rfl ?_); refine nA rfl rfl ?_; refine ALK.nil ?_; try show WP _ _ _ _ _ _)
    ((repeat apply WP.seq); apply WP.lreg; refine nM rfl rfl ?_; refine nM rfl rfl ?_; refine ALK.n OpN.ln rfl ?_; refine ALK.n OpN.ar rfl ?_; refine ALK.n (opn_call (within_fn p 0 ((l.length : Int) - 1)) (Evs.cons Ev.a (Evs.cons Ev.a (Evs.cons Ev.a Evs.nil)))) rfl ?_; refine ALK.n (opn_not (eB rfl)) rfl ?_; refine ALK.nil ?_; try show WP _ _ _ _ _ _)
    ((repeat apply WP.seq); refine WP.cond rfl (fun h => ?_) (fun h => ?_))
    · ((repeat apply WP.seq); apply WP.lreg; refine nA rfl rfl ?_; refine ALK.nil ?_; try show WP _ _ _ _ _ _)
      rw [if_pos (by simp at h; omega)] at he
      rw [he]
      ((repeat apply WP.seq); refine WP.ret ?_; first | exact RetOk.one Try.results7 ResV.a | exact RetOk.tup Try.results7 rfl ResVs.a)
    (refine WP.skip ?_; show WP _ _ _ _ _ _)
    have hr : ¬ (p < 0 ∨ (l.length : Int) ≤ p) := by simp at h; omega
    rw [if_neg hr] at he
    have hp0 : 0 ≤ p := by omega
    have hpl : p < l.length := by omega
    obtain ⟨b, hbt⟩ := get_at (xs := d) (k := p.toNat) (by omega)
    have hpd : p.toNat < d.length := by omega
    have hgb : d.getD p.toNat false = b := by rw [List.getD_eq_getElem?_getD, hbt]; rfl
    rw [hgb] at he
    ((repeat apply WP.seq); apply WP.lreg; refine nM rfl rfl ?_; refine nM rfl rfl ?_; refine ALK.n OpN.ix rfl ?_; (first | refine ALK.n (opn_load rfl (eB rfl) rfl) rfl ?_ | refine ALK.r OpR.ld rfl ?_); refine ALK.nil ?_; try show WP _ _ _ _ _ _)
    ((repeat apply WP.seq); refine WP.cond rfl (fun h => ?_) (fun h => ?_))
    · ((repeat apply WP.seq); apply WP.lreg; refine nA rfl rfl ?_; refine ALK.nil ?_; try show WP _ _ _ _ _ _)
      rw [if_pos h] at he
      rw [he]
      ((repeat apply WP.seq); refine WP.ret ?_; first | exact RetOk.one Try.results7 ResV.a | exact RetOk.tup Try.results7 rfl ResVs.a)
    (refine WP.skip ?_; show WP _ _ _ _ _ _)
    rw [if_neg (by rw [h]; simp)] at he
    rw [h] at hbt
    ((repeat apply WP.seq); apply WP.lreg; refine nM rfl rfl ?_; refine nM rfl rfl ?_; refine nM rfl rfl ?_; refine ALK.r (opr_callLend (FnN.of_flat (ready_fn l d p.toNat (by omega) hd) (FlatI.val _)) (Lent.im (eB rfl) (Lent.row (eB rfl) rfl (Lent.im (Ev.of (eB rfl) (ImOf.im (ILe.int (by omega)))) Lent.nil)))) rfl ?_; refine ALK.n (opn_not (eB rfl)) rfl ?_; refine ALK.nil ?_; try show WP _ _ _ _ _ _)
    ((repeat apply WP.seq); refine WP.cond rfl (fun h => ?_) (fun h => ?_))
    · ((repeat apply WP.seq); apply WP.lreg; refine nA rfl rfl ?_; refine ALK.nil ?_; try show WP _ _ _ _ _ _)
      rw [if_neg (by simpa using h)] at he
      rw [he]
      ((repeat apply WP.seq); refine WP.ret ?_; first | exact RetOk.one Try.results7 ResV.a | exact RetOk.tup Try.results7 rfl ResVs.a)
    (refine WP.skip ?_; show WP _ _ _ _ _ _)
    rw [if_pos (by simpa using h)] at he
    have hcs := set_count hbt
    have hcs2 : ((((k, d) : Nat × List Bool).2.count false : Int) - 1) = (((k + 1, d.set p.toNat true) : Nat × List Bool).2.count false : Int) := by simp only; omega
    ((repeat apply WP.seq); apply WP.lreg; refine nM rfl rfl ?_; refine nM rfl rfl ?_; refine ALK.n OpN.ix rfl ?_; (first | refine ALK.e (ope_store rfl (eB rfl) (eB rfl) Cs.a rfl rfl rfl) rfl rfl ?_ | refine ALK.e (ope_storeRow rfl rfl (eB rfl) (eB rfl) (oc_val rfl) rfl rfl (by assumption)) rfl rfl ?_); refine ALK.nil ?_; try show WP _ _ _ _ _ _)
    ((repeat apply WP.seq); apply WP.lreg; refine nM rfl rfl ?_; refine ALK.n OpN.ar rfl ?_; refine nA rfl rfl ?_; refine ALK.nil ?_; try show WP _ _ _ _ _ _)
    ((repeat apply WP.seq); apply WP.lreg; refine nM rfl rfl ?_; refine ALK.n OpN.ar rfl ?_; refine nA rfl rfl ?_; refine ALK.nil ?_; try show WP _ _ _ _ _ _)
    show ∃ _, _ ∧ _ ∧ _
    exact ⟨(k + 1, d.set p.toNat true), ⟨by simp only; omega, by simpa using hd, he⟩, by simp only; omega, (Shift.sub [(0, 0)] rfl SubE.a SubH.a)⟩
  · ((repeat apply WP.seq); refine WP.exit ?_; show WP _ _ _ _ _ _)
    have hkl : k = ps.length := by simp at h; omega
    subst hkl
    rw [List.drop_length] at he
    rw [show pickE l d [] = if d.any (fun y => false == y) then 8 else 0 from rfl] at he
    ((repeat apply WP.seq); apply WP.lreg; refine nM rfl rfl ?_; refine ALK.n OpN.cm rfl ?_; refine ALK.nil ?_; try show WP _ _ _ _ _ _)
    ((repeat apply WP.seq); refine WP.cond rfl (fun h => ?_) (fun h => ?_))
    · ((repeat apply WP.seq); apply WP.lreg; refine nA rfl rfl ?_; refine ALK.nil ?_; try show WP _ _ _ _ _ _)
      rw [count_any] at h
      rw [if_pos h] at he
      rw [he]
      ((repeat apply WP.seq); refine WP.ret ?_; first | exact RetOk.one Try.results7 ResV.a | exact RetOk.tup Try.results7 rfl ResVs.a)
    (refine WP.skip ?_; show WP _ _ _ _ _ _)
    ((repeat apply WP.seq); apply WP.lreg; refine nA rfl rfl ?_; refine ALK.nil ?_; try show WP _ _ _ _ _ _)
    rw [count_any] at h
    rw [if_neg (by rw [h]; simp)] at he
    rw [he]
    ((repeat apply WP.seq); refine WP.ret ?_; first | exact RetOk.one Try.results7 ResV.a | exact RetOk.tup Try.results7 rfl ResVs.a)
end Go.Proofs.Ytjgmbgfcffnanad
