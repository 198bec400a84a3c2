/- Package locks and its reference: the rest. -/
import Derived.Test.YtjgmbgfcffnanadLocks3
namespace Go.Proofs.Ytjgmbgfcffnanad
open Go.RowKit

set_option maxRecDepth 100000 in
theorem Ready_new (l : List Txn) (done : List Bool) (hb : TxsB l) : FnN (Cfg.mk Try.prog (ttAt ttl) ttl_ok.ok mixd) 14 [txsV l, boolsV done] (IV.tup [intsV (reL l done), IV.int (qE l done)]) := by
  refine FnN.of_wp _ Try.func14 rfl (by kernel_rfl) Try.ntmps14 rfl ?_
  intro F hD hG
  ((repeat apply WP.seq); apply WP.lreg; refine nA rfl rfl ?_; refine nA rfl rfl ?_; refine ALK.nil ?_; try show WP _ _ _ _ _ _)
  ((repeat apply WP.seq); apply WP.lreg; refine nM rfl rfl ?_; refine nM rfl rfl ?_; refine ALK.n (opn_call (locks_check_fn l done hb) (Evs.cons Ev.a (Evs.cons Ev.a Evs.nil))) rfl ?_; refine nA rfl rfl ?_; refine ALK.nil ?_; try show WP _ _ _ _ _ _)
  ((repeat apply WP.seq); apply WP.lreg; refine nM rfl rfl ?_; refine ALK.n OpN.cm rfl ?_; refine ALK.nil ?_; try show WP _ _ _ _ _ _)
  ((repeat apply WP.seq); refine WP.cond rfl (fun h => ?_) (fun h => ?_))
  · ((repeat apply WP.seq); apply WP.lreg; refine nM rfl rfl ?_; refine nA rfl rfl ?_; refine nA rfl rfl ?_; refine ALK.nil ?_; try show WP _ _ _ _ _ _)
    have hr : reL l done = [] := by unfold reL; rw [if_neg (by simpa using h)]
    rw [hr]
    ((repeat apply WP.seq); refine WP.ret ?_; show RetN _ _ _ _ _ _)
    exact RetN.tup hG Try.results14 rfl (.cons (.nil rfl (ILe.nil rfl)) (.cons (.flat ResV.a (FlatI.val _)) .nil))
  (refine WP.skip ?_; show WP _ _ _ _ _ _)
  have h0 : qE l done = 0 := by simpa using h
  obtain ⟨hc, hd⟩ := qE_zero h0
  have hr : reL l done = readyTo l done l.length := by unfold reL; rw [if_pos h0]
  ((repeat apply WP.seq); apply WP.lreg; refine nM rfl rfl ?_; refine nM rfl rfl ?_; refine ALK.a (opa_callRow (locks_Of_row l done hb hc hd) (Evs.cons Ev.a (Evs.cons Ev.a Evs.nil))) rfl ?_; refine nA rfl rfl ?_; refine nA rfl rfl ?_; refine ALK.nil ?_; try show WP _ _ _ _ _ _)
  rw [hr, h0]
  ((repeat apply WP.seq); refine WP.ret ?_; show RetN _ _ _ _ _ _)
  exact RetN.tup hG Try.results14 rfl (.cons (.row rfl rfl flat_cI) (.cons (.flat ResV.a (FlatI.val _)) .nil))
theorem Ready_fn (l : List Txn) (done : List Bool) (hb : TxsB l) : Fn (Cfg.mk Try.prog (ttAt ttl) ttl_ok.ok mixd) 14 [txsV l, boolsV done] (IV.tup [intsV (reL l done), IV.int (qE l done)]) := (Ready_new l done hb).fn

set_option maxRecDepth 100000 in
theorem clash_fn (x y : Txn) (m s : Int) (hm : 0 < m) : Fn (Cfg.mk Try.prog (ttAt ttl) ttl_ok.ok mixd) 50 [txnV x, txnV y, IV.int m, IV.int s] (IV.bool (clashR x y m s)) := by
  refine Fn.of_wp _ Try.func50 rfl (by kernel_rfl) Try.ntmps50 rfl ?_
  intro F hD hG
  ((repeat apply WP.seq); apply WP.lreg; refine ALK.n (opn_box (eB rfl) Cs.a rfl) rfl ?_; refine ALK.n (opn_box (eB rfl) Cs.a rfl) rfl ?_; refine nA rfl rfl ?_; refine ALK.nil ?_; try show WP _ _ _ _ _ _)
  ((repeat apply WP.seq); apply WP.lreg; refine nA rfl rfl ?_; refine ALK.nil ?_; try show WP _ _ _ _ _ _)
  ((repeat apply WP.seq); apply WP.block)
  refine WP.loop (fun k : Nat => ⟨[(9, .im (IV.int k)), (2, .im (IV.int m)), (3, .im (IV.int s)), (4, .im (IV.ptr (cT x))), (5, .im (IV.ptr (cT y)))], [], 0⟩) (fun k => k ≤ 8 ∧ clashTo x y m s k = false) (fun k => 8 - k) 0 ⟨by omega, rfl⟩ (Shift.sub [] rfl SubE.a SubH.nil) ?_
  rintro k ⟨hk, hf⟩
  ((repeat apply WP.seq); apply WP.lreg; refine nM rfl rfl ?_; refine ALK.n OpN.cm rfl ?_; refine ALK.nil ?_; try show WP _ _ _ _ _ _)
  ((repeat apply WP.seq); refine WP.cond rfl (fun h => ?_) (fun h => ?_))
  · (refine WP.skip ?_; show WP _ _ _ _ _ _)
    have hlt : k < 8 := by simp at h; omega
    have hn := clashTo_next x y m s k
    rw [hf, Bool.false_or] at hn
    ((repeat apply WP.seq); apply WP.block)
    ((repeat apply WP.seq); apply WP.lreg; refine nM rfl rfl ?_; refine nM rfl rfl ?_; refine ALK.n (opn_rem (eB rfl) (eB rfl) (by omega) (by omega)) rfl ?_; refine nM rfl rfl ?_; refine ALK.n OpN.cm rfl ?_; refine ALK.nil ?_; try show WP _ _ _ _ _ _)
    ((repeat apply WP.seq); refine WP.cond rfl (fun h => ?_) (fun h => ?_))
    · ((repeat apply WP.seq); refine WP.exit ?_; show WP _ _ _ _ _ _)
      have hn2 : clashTo x y m s (k + 1) = false := by
        rw [hn]
        have : ¬ (k : Int) % m = s := by simpa using h
        simp [this]
      ((repeat apply WP.seq); apply WP.lreg; refine nM rfl rfl ?_; refine ALK.n OpN.ar rfl ?_; refine nA rfl rfl ?_; refine ALK.nil ?_; try show WP _ _ _ _ _ _)
      show ∃ _, _ ∧ _ ∧ _
      exact ⟨k + 1, ⟨by omega, hn2⟩, by omega, (Shift.sub [] rfl SubE.a SubH.nil)⟩
    (refine WP.skip ?_; show WP _ _ _ _ _ _)
    have hs : (k : Int) % m = s := by simpa using h
    have hn3 : clashTo x y m s (k + 1) = clashAt x y k := by rw [hn, hs]; simp
    ((repeat apply WP.seq); apply WP.lreg; (first | refine ALK.n (opn_load rfl (eB rfl) rfl) rfl ?_ | refine ALK.r OpR.ld rfl ?_); refine nM rfl rfl ?_; refine ALK.n (opn_call (ref_writes_fn _ _) (Evs.cons Ev.a (Evs.cons Ev.a Evs.nil))) rfl ?_; refine nM rfl rfl ?_; (first | refine ALK.g (fun hb => opn_load rfl (eB rfl) rfl) rfl rfl rfl ?_ | refine ALK.rg (fun hb => opr_load rfl (eB rfl) rfl rfl) rfl rfl rfl ?_ | refine ALK.rg (fun hb => opr_loadRow rfl rfl (eB rfl) rfl (by assumption) rfl) rfl rfl rfl ?_ | refine ALK.rg (fun hb => opr_loadK0 rfl (eB rfl) rfl (by assumption) rfl) rfl rfl rfl ?_ | refine ALK.rg (fun hb => opr_loadK rfl (eB rfl) rfl (by assumption) rfl) rfl rfl rfl ?_); refine gM rfl rfl rfl rfl ?_; refine ALK.g (fun hb => opn_call (ref_reads_fn _ _) (Evs.cons Ev.a (Evs.cons Ev.a Evs.nil))) rfl rfl rfl ?_; refine ALK.g (fun hb => opn_move (eC rfl hb)) rfl rfl rfl ?_; (first | refine ALK.g2 (fun hb => opn_load rfl (eB rfl) rfl) rfl rfl rfl ?_ | refine ALK.rg2 (fun hb => opr_load rfl (eB rfl) rfl rfl) rfl rfl rfl ?_ | refine ALK.rg2 (fun hb => opr_loadRow rfl rfl (eB rfl) rfl (by assumption) rfl) rfl rfl rfl ?_ | refine ALK.rg2 (fun hb => opr_loadK0 rfl (eB rfl) rfl (by assumption) rfl) rfl rfl rfl ?_ | refine ALK.rg2 (fun hb => opr_loadK rfl (eB rfl) rfl (by assumption) rfl) rfl rfl rfl ?_); refine ALK.g2 (fun hb => opn_move (eB rfl)) rfl rfl rfl ?_; refine ALK.g2 (fun hb => opn_call (ref_writes_fn _ _) (Evs.cons Ev.a (Evs.cons Ev.a Evs.nil))) rfl rfl rfl ?_; refine ALK.g (fun hb => opn_pick_or (eC rfl hb) rfl rfl (fun hb2 => by first | (rw [hb2]; rfl) | (rw [hb, hb2]; rfl) | simp_all [gd])) rfl rfl rfl ?_; refine ALK.n (opn_pick_and (eB rfl) rfl (fun hb2 => by first | exact hb2 | (rw [hb, hb2]; rfl) | simp_all [gd]) rfl) rfl ?_; refine nM rfl rfl ?_; (first | refine ALK.g (fun hb => opn_load rfl (eB rfl) rfl) rfl rfl rfl ?_ | refine ALK.rg (fun hb => opr_load rfl (eB rfl) rfl rfl) rfl rfl rfl ?_ | refine ALK.rg (fun hb => opr_loadRow rfl rfl (eB rfl) rfl (by assumption) rfl) rfl rfl rfl ?_ | refine ALK.rg (fun hb => opr_loadK0 rfl (eB rfl) rfl (by assumption) rfl) rfl rfl rfl ?_ | refine ALK.rg (fun hb => opr_loadK rfl (eB rfl) rfl (by assumption) rfl) rfl rfl rfl ?_); refine gM rfl rfl rfl rfl ?_; refine ALK.g (fun hb => opn_call (ref_writes_fn _ _) (Evs.cons Ev.a (Evs.cons Ev.a Evs.nil))) rfl rfl rfl ?_; refine ALK.g (fun hb => opn_move (eC rfl hb)) rfl rfl rfl ?_; (first | refine ALK.g2 (fun hb => opn_load rfl (eB rfl) rfl) rfl rfl rfl ?_ | refine ALK.rg2 (fun hb => opr_load rfl (eB rfl) rfl rfl) rfl rfl rfl ?_ | refine ALK.rg2 (fun hb => opr_loadRow rfl rfl (eB rfl) rfl (by assumption) rfl) rfl rfl rfl ?_ | refine ALK.rg2 (fun hb => opr_loadK0 rfl (eB rfl) rfl (by assumption) rfl) rfl rfl rfl ?_ | refine ALK.rg2 (fun hb => opr_loadK rfl (eB rfl) rfl (by assumption) rfl) rfl rfl rfl ?_); refine ALK.g2 (fun hb => opn_move (eB rfl)) rfl rfl rfl ?_; refine ALK.g2 (fun hb => opn_call (ref_reads_fn _ _) (Evs.cons Ev.a (Evs.cons Ev.a Evs.nil))) rfl rfl rfl ?_; refine ALK.g (fun hb => opn_pick_and (eC rfl hb) rfl (fun hb2 => by first | exact hb2 | (rw [hb, hb2]; rfl) | simp_all [gd]) rfl) rfl rfl rfl ?_; refine ALK.n (opn_pick_or (eB rfl) rfl rfl (fun hb2 => by first | (rw [hb2]; rfl) | (rw [hb, hb2]; rfl) | simp_all [gd])) rfl ?_; refine ALK.nil ?_; try show WP _ _ _ _ _ _)
    ((repeat apply WP.seq); refine WP.cond rfl (fun h => ?_) (fun h => ?_))
    · have hr : clashR x y m s = true := by
        have h1 : clashAt x y k = true := by
          unfold clashAt lkB
          exact h
        unfold clashR clashTo
        rw [List.any_eq_true]
        exact ⟨k, List.mem_range.2 hlt, by rw [h1, hs]; simp⟩
      ((repeat apply WP.seq); apply WP.lreg; refine nA rfl rfl ?_; refine ALK.nil ?_; try show WP _ _ _ _ _ _)
      ((repeat apply WP.seq); refine WP.ret ?_; first | exact RetOk.one Try.results50 ResV.a | exact RetOk.tup Try.results50 rfl ResVs.a)
    (refine WP.skip ?_; show WP _ _ _ _ _ _)
    ((repeat apply WP.seq); apply WP.lreg; refine nM rfl rfl ?_; refine ALK.n OpN.ar rfl ?_; refine nA rfl rfl ?_; refine ALK.nil ?_; try show WP _ _ _ _ _ _)
    show ∃ _, _ ∧ _ ∧ _
    exact ⟨k + 1, ⟨by omega, by rw [hn3]; unfold clashAt lkB; exact h⟩, by omega, (Shift.sub [] rfl SubE.a SubH.nil)⟩
  · ((repeat apply WP.seq); refine WP.exit ?_; show WP _ _ _ _ _ _)
    have hk8 : k = 8 := by simp at h; omega
    subst hk8
    have hr : clashR x y m s = false := hf
    ((repeat apply WP.seq); apply WP.lreg; refine nA rfl rfl ?_; refine ALK.nil ?_; try show WP _ _ _ _ _ _)
    ((repeat apply WP.seq); refine WP.ret ?_; first | exact RetOk.one Try.results50 ResV.a | exact RetOk.tup Try.results50 rfl ResVs.a)
set_option maxRecDepth 100000 in
theorem Clashes_fn (x y : Txn) : Fn (Cfg.mk Try.prog (ttAt ttl) ttl_ok.ok mixd) 34 [txnV x, txnV y] (IV.bool (clashR x y 1 0)) := by
  refine Fn.of_wp _ Try.func34 rfl (by kernel_rfl) Try.ntmps34 rfl ?_
  intro F hD hG
  ((repeat apply WP.seq); apply WP.lreg; refine ALK.n (opn_box (eB rfl) Cs.a rfl) rfl ?_; refine ALK.n (opn_box (eB rfl) Cs.a rfl) rfl ?_; refine nA rfl rfl ?_; refine ALK.nil ?_; try show WP _ _ _ _ _ _)
  ((repeat apply WP.seq); apply WP.lreg; (first | refine ALK.n (opn_load rfl (eB rfl) rfl) rfl ?_ | refine ALK.r OpR.ld rfl ?_); (first | refine ALK.n (opn_load rfl (eB rfl) rfl) rfl ?_ | refine ALK.r OpR.ld rfl ?_); refine ALK.n (opn_call (clash_fn x y 1 0 (by omega)) (Evs.cons Ev.a (Evs.cons Ev.a (Evs.cons Ev.a (Evs.cons Ev.a Evs.nil))))) rfl ?_; refine nA rfl rfl ?_; refine ALK.nil ?_; try show WP _ _ _ _ _ _)
  ((repeat apply WP.seq); refine WP.ret ?_; first | exact RetOk.one Try.results34 ResV.a | exact RetOk.tup Try.results34 rfl ResVs.a)

def aheadTo (l : List Txn) (done : List Bool) (t : Txn) (k : Nat) : Bool := (List.range k).all fun (q : Nat) => match l[q]?, done[q]? with
  | some u, some e => !(!e && clashR u t 1 0)
  | _, _ => true
theorem aheadTo_next {l : List Txn} {done : List Bool} {t u : Txn} {e : Bool} {k : Nat} (hu : l[k]? = some u) (he : done[k]? = some e) : aheadTo l done t (k + 1) = (aheadTo l done t k && !(!e && clashR u t 1 0)) := by
  unfold aheadTo; rw [List.range_succ, List.all_append]; simp [hu, he]
theorem readyB_ahead {l : List Txn} {done : List Bool} {n : Nat} {t : Txn} {d : Bool} (ht : l[n]? = some t) (hd : done[n]? = some d) : readyB l done n = (!d && aheadTo l done t n) := by
  unfold readyB aheadTo; rw [ht, hd]; rfl
set_option maxRecDepth 100000 in
theorem ready_fn (l : List Txn) (done : List Bool) (n : Nat) (hn : n < l.length) (hd : done.length = l.length) : Fn (Cfg.mk Try.prog (ttAt ttl) ttl_ok.ok mixd) 21 [txsV l, boolsV done, IV.int n] (IV.bool (readyB l done n)) := by
  obtain ⟨t, ht⟩ := get_at hn
  obtain ⟨d, hdn⟩ := get_at (xs := done) (k := n) (by omega)
  have hra := readyB_ahead ht hdn
  refine Fn.of_wp _ Try.func21 rfl (by kernel_rfl) Try.ntmps21 rfl ?_
  intro F hD hG
  refine WP.len 0 rfl (fun hl1 => ?_)
  ((repeat apply WP.seq); apply WP.lreg; refine nA rfl rfl ?_; refine ALK.nil ?_; try show WP _ _ _ _ _ _)
  ((repeat apply WP.seq); apply WP.lreg; refine nA rfl rfl ?_; refine ALK.nil ?_; try show WP _ _ _ _ _ _)
  ((repeat apply WP.seq); apply WP.block)
  refine WP.loop (fun k : Nat => ⟨[(7, .im (IV.int k)), (0, .im (txsV l)), (1, .im (boolsV done)), (2, .im (IV.int n))], [], 0⟩) (fun k => k ≤ n ∧ aheadTo l done t k = true) (fun k => n - k) 0 ⟨Nat.zero_le _, rfl⟩ (Shift.sub [] rfl SubE.a SubH.nil) ?_
  rintro k ⟨hk, hf⟩
  ((repeat apply WP.seq); apply WP.lreg; refine nM rfl rfl ?_; refine nM rfl rfl ?_; refine ALK.n OpN.cm rfl ?_; refine ALK.nil ?_; try show WP _ _ _ _ _ _)
  ((repeat apply WP.seq); refine WP.cond rfl (fun h => ?_) (fun h => ?_))
  · (refine WP.skip ?_; show WP _ _ _ _ _ _)
    have hlt : k < n := by simpa using h
    obtain ⟨u, hu⟩ := get_at (xs := l) (k := k) (by omega)
    obtain ⟨e, he⟩ := get_at (xs := done) (k := k) (by omega)
    have hnx := aheadTo_next (t := t) hu he
    rw [hf, Bool.true_and] at hnx
    ((repeat apply WP.seq); apply WP.block)
    ((repeat apply WP.seq); apply WP.ldraw; refine nM rfl rfl ?_; refine nM rfl rfl ?_; refine ALK.n OpN.ix rfl ?_; (first | refine ALK.n (opn_load rfl (eB rfl) rfl) rfl ?_ | refine ALK.r OpR.ld rfl ?_); refine ALK.n (opn_not (eB rfl)) rfl ?_; refine nM rfl rfl ?_; refine gM rfl rfl rfl rfl ?_; refine gM rfl rfl rfl rfl ?_; (first | refine ALK.g (fun hb => opn_index rfl (eC rfl hb) (eC rfl hb) (by omega) (by assumption)) rfl rfl rfl ?_ | refine ALK.g (fun hb => opn_indexRow1 rfl (eC rfl hb) (eC rfl hb) (by omega) (by omega)) rfl rfl rfl ?_ | refine ALK.g (fun hb => opn_indexRow rfl (eC rfl hb) (eC rfl hb) (by omega) (by omega)) rfl rfl rfl ?_ | refine ALK.g (fun hb => opn_indexArr rfl (eC rfl hb) (eC rfl hb) (by omega) (by omega)) rfl rfl rfl ?_ | refine ALK.g (fun hb => opn_indexArrI rfl (eC rfl hb) (eC rfl hb) (by omega) (by omega)) rfl rfl rfl ?_); (first | refine ALK.g (fun hb => opn_load rfl (eC rfl hb) rfl) rfl rfl rfl ?_ | refine ALK.rg (fun hb => opr_load rfl (eC rfl hb) rfl rfl) rfl rfl rfl ?_ | refine ALK.rg (fun hb => opr_loadRow rfl rfl (eC rfl hb) rfl (by assumption) rfl) rfl rfl rfl ?_ | refine ALK.rg (fun hb => opr_loadK0 rfl (eC rfl hb) rfl (by assumption) rfl) rfl rfl rfl ?_ | refine ALK.rg (fun hb => opr_loadK rfl (eC rfl hb) rfl (by assumption) rfl) rfl rfl rfl ?_); refine gM rfl rfl rfl rfl ?_; refine gM rfl rfl rfl rfl ?_; (first | refine ALK.g (fun hb => opn_index rfl (eC rfl hb) (eC rfl hb) (by omega) (by assumption)) rfl rfl rfl ?_ | refine ALK.g (fun hb => opn_indexRow1 rfl (eC rfl hb) (eC rfl hb) (by omega) (by omega)) rfl rfl rfl ?_ | refine ALK.g (fun hb => opn_indexRow rfl (eC rfl hb) (eC rfl hb) (by omega) (by omega)) rfl rfl rfl ?_ | refine ALK.g (fun hb => opn_indexArr rfl (eC rfl hb) (eC rfl hb) (by omega) (by omega)) rfl rfl rfl ?_ | refine ALK.g (fun hb => opn_indexArrI rfl (eC rfl hb) (eC rfl hb) (by omega) (by omega)) rfl rfl rfl ?_); (first | refine ALK.g (fun hb => opn_load rfl (eC rfl hb) rfl) rfl rfl rfl ?_ | refine ALK.rg (fun hb => opr_load rfl (eC rfl hb) rfl rfl) rfl rfl rfl ?_ | refine ALK.rg (fun hb => opr_loadRow rfl rfl (eC rfl hb) rfl (by assumption) rfl) rfl rfl rfl ?_ | refine ALK.rg (fun hb => opr_loadK0 rfl (eC rfl hb) rfl (by assumption) rfl) rfl rfl rfl ?_ | refine ALK.rg (fun hb => opr_loadK rfl (eC rfl hb) rfl (by assumption) rfl) rfl rfl rfl ?_); refine ALK.g (fun hb => opn_call (Clashes_fn u t) (Evs.cons Ev.a (Evs.cons Ev.a Evs.nil))) rfl rfl rfl ?_; refine ALK.n (opn_pick_and (eB rfl) rfl (fun hb2 => by first | exact hb2 | (rw [hb, hb2]; rfl) | simp_all [gd]) rfl) rfl ?_; refine ALK.nilD (by kernel_rfl) ?_; try show WP _ _ _ _ _ _)
    ((repeat apply WP.seq); refine WP.cond rfl (fun h => ?_) (fun h => ?_))
    · have hr : readyB l done n = false := by
        rw [hra]
        have : aheadTo l done t n = false := by
          rw [Bool.eq_false_iff]
          intro hall
          unfold aheadTo at hall
          rw [List.all_eq_true] at hall
          have := hall k (List.mem_range.2 hlt)
          rw [hu, he] at this
          simp only at this
          rw [show (!e && clashR u t 1 0) = true from h] at this
          cases this
        rw [this]; simp
      ((repeat apply WP.seq); apply WP.lreg; refine nA rfl rfl ?_; refine ALK.nil ?_; try show WP _ _ _ _ _ _)
      ((repeat apply WP.seq); refine WP.ret ?_; first | exact RetOk.one Try.results21 ResV.a | exact RetOk.tup Try.results21 rfl ResVs.a)
    (refine WP.skip ?_; show WP _ _ _ _ _ _)
    ((repeat apply WP.seq); apply WP.lreg; refine nM rfl rfl ?_; refine ALK.n OpN.ar rfl ?_; refine nA rfl rfl ?_; refine ALK.nil ?_; try show WP _ _ _ _ _ _)
    show ∃ _, _ ∧ _ ∧ _
    exact ⟨k + 1, ⟨by omega, by rw [hnx, show (!e && clashR u t 1 0) = false from h]; rfl⟩, by omega, (Shift.sub [] rfl SubE.a SubH.nil)⟩
  · ((repeat apply WP.seq); refine WP.exit ?_; show WP _ _ _ _ _ _)
    have hkn : k = n := by simp at h; omega
    subst hkn
    have hr : readyB l done k = !d := by rw [hra, hf]; simp
    ((repeat apply WP.seq); apply WP.lreg; refine nM rfl rfl ?_; refine nM rfl rfl ?_; refine ALK.n OpN.ix rfl ?_; (first | refine ALK.n (opn_load rfl (eB rfl) rfl) rfl ?_ | refine ALK.r OpR.ld rfl ?_); refine ALK.n (opn_not (eB rfl)) rfl ?_; refine nA rfl rfl ?_; refine ALK.nil ?_; try show WP _ _ _ _ _ _)
    ((repeat apply WP.seq); refine WP.ret ?_; first | exact RetOk.one Try.results21 ResV.a | exact RetOk.tup Try.results21 rfl ResVs.a)
def l4 : List Txn := [payT 1, noteT, markT 1, noteT]
theorem l4B : TxsB l4 := .cons (payB 1) (.cons noteB (.cons (markB 1) (.cons noteB .nil)))
def f4 : List Bool := [false, false, false, false]
def t4 : List Bool := [true, false, false, false]
end Go.Proofs.Ytjgmbgfcffnanad
