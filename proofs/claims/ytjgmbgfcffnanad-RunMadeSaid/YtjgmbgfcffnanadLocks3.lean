/- Package locks and its reference. -/
import Derived.Test.YtjgmbgfcffnanadLocks2
import Derived.Test.YtjgmbgfcffnanadLB
namespace Go.Proofs.Ytjgmbgfcffnanad
open Go.RowKit

def qE (l : List Txn) (done : List Bool) : Int := if checkTxns l = 0 then (if done.length = l.length then 0 else 1) else checkTxns l
def quE (l : List Txn) (done : List Bool) (key : Int) : Int := if qE l done = 0 then (if key < 0 ∨ 8 ≤ key then 3 else 0) else qE l done
def quL (l : List Txn) (done : List Bool) (key : Int) : List Int := if quE l done key = 0 then queueTo l done key l.length else []
def reL (l : List Txn) (done : List Bool) : List Int := if qE l done = 0 then readyTo l done l.length else []
theorem qE_zero {l : List Txn} {done : List Bool} (h : qE l done = 0) : checkTxns l = 0 ∧ done.length = l.length := by
  unfold qE at h
  split at h
  · split at h
    · exact ⟨by assumption, by assumption⟩
    · cases h
  · exact absurd h (by assumption)

set_option maxRecDepth 100000 in
theorem locks_check_fn (l : List Txn) (done : List Bool) (hb : TxsB l) : Fn (Cfg.mk Try.prog (ttAt ttl) ttl_ok.ok mixd) 31 [txsV l, boolsV done] (IV.int (qE l done)) := by
  refine Fn.of_wp _ Try.func31 rfl (by kernel_rfl) Try.ntmps31 rfl ?_
  intro F hD hG
  refine WP.len 0 rfl (fun hl1 => ?_)
  refine WP.len 1 rfl (fun hl2 => ?_)
  ((repeat apply WP.seq); apply WP.lreg; refine nA rfl rfl ?_; refine ALK.nil ?_; try show WP _ _ _ _ _ _)
  ((repeat apply WP.seq); apply WP.lreg; refine nM rfl rfl ?_; refine ALK.n (opn_call (store_Txns_fn _ (by assumption)) (Evs.cons Ev.a Evs.nil)) rfl ?_; refine nA rfl rfl ?_; refine ALK.nil ?_; try show WP _ _ _ _ _ _)
  ((repeat apply WP.seq); apply WP.lreg; refine nM rfl rfl ?_; refine ALK.n OpN.cm rfl ?_; refine ALK.nil ?_; try show WP _ _ _ _ _ _)
  ((repeat apply WP.seq); refine WP.cond rfl (fun h => ?_) (fun h => ?_))
  · ((repeat apply WP.seq); apply WP.lreg; refine nM rfl rfl ?_; refine nA rfl rfl ?_; refine ALK.nil ?_; try show WP _ _ _ _ _ _)
    have hr : qE l done = checkTxns l := by unfold qE; rw [if_neg (by simpa using h)]
    ((repeat apply WP.seq); refine WP.ret ?_; first | exact RetOk.one Try.results31 ResV.a | exact RetOk.tup Try.results31 rfl ResVs.a)
  (refine WP.skip ?_; show WP _ _ _ _ _ _)
  have h0 : checkTxns l = 0 := by simpa using h
  ((repeat apply WP.seq); apply WP.lreg; refine nM rfl rfl ?_; refine ALK.n OpN.ln rfl ?_; refine nM rfl rfl ?_; refine ALK.n OpN.ln rfl ?_; refine ALK.n OpN.cm rfl ?_; refine ALK.nil ?_; try show WP _ _ _ _ _ _)
  ((repeat apply WP.seq); refine WP.cond rfl (fun h => ?_) (fun h => ?_))
  · ((repeat apply WP.seq); apply WP.lreg; refine nA rfl rfl ?_; refine ALK.nil ?_; try show WP _ _ _ _ _ _)
    have hr : qE l done = 1 := by unfold qE; rw [if_pos h0, if_neg (by simp at h; omega)]
    ((repeat apply WP.seq); refine WP.ret ?_; first | exact RetOk.one Try.results31 ResV.a | exact RetOk.tup Try.results31 rfl ResVs.a)
  (refine WP.skip ?_; show WP _ _ _ _ _ _)
  ((repeat apply WP.seq); apply WP.lreg; refine nA rfl rfl ?_; refine ALK.nil ?_; try show WP _ _ _ _ _ _)
  have hr : qE l done = 0 := by unfold qE; rw [if_pos h0, if_pos (by simp at h; omega)]
  ((repeat apply WP.seq); refine WP.ret ?_; first | exact RetOk.one Try.results31 ResV.a | exact RetOk.tup Try.results31 rfl ResVs.a)
theorem qPtr_at (l : List Txn) (done : List Bool) {key : Int} (h0 : 0 ≤ key) (h8 : key < 8) : (qPtr l done).drop (key.toNat * 1) = IV.view 2 cW (qOf l done l.length key) :: (qPtr l done).drop (key.toNat + 1) := by
  have hc : key = 0 ∨ key = 1 ∨ key = 2 ∨ key = 3 ∨ key = 4 ∨ key = 5 ∨ key = 6 ∨ key = 7 := by omega
  rcases hc with rfl | rfl | rfl | rfl | rfl | rfl | rfl | rfl <;> rfl

def NB (l : List Txn) (done : List Bool) (k m : Nat) : Prop := ∀ key : Int, 0 ≤ key → key < k → ∀ (i : Nat) w, (qOf l done l.length key)[i]? = some w → w.txn = (m : Int) → badAt (qOf l done l.length key) i = false
def NQ (q : List WaitT) (i m : Nat) : Prop := ∀ (j : Nat) w, j < i → q[j]? = some w → w.txn = (m : Int) → badAt q j = false
theorem NB_next {l : List Txn} {done : List Bool} {k m : Nat} : NB l done (k + 1) m ↔ NB l done k m ∧ NQ (qOf l done l.length k) (qOf l done l.length k).length m := by
  constructor
  · intro h
    exact ⟨fun key h0 h1 => h key h0 (by omega), fun j w _ hw hm => h k (by omega) (by omega) j w hw hm⟩
  · rintro ⟨h1, h2⟩ key h0 hk i w hw hm
    by_cases e : key = k
    · subst e; exact h2 i w (List.getElem?_eq_some_iff.1 hw).1 hw hm
    · exact h1 key h0 (by omega) i w hw hm
theorem NQ_next {q : List WaitT} {i m : Nat} {w : WaitT} (hw : q[i]? = some w) : NQ q (i + 1) m ↔ NQ q i m ∧ (w.txn = (m : Int) → badAt q i = false) := by
  constructor
  · intro h
    exact ⟨fun j w hj => h j w (by omega), fun hm => h i w (by omega) hw hm⟩
  · rintro ⟨h1, h2⟩ j w' hj hw' hm
    by_cases e : j = i
    · subst e; rw [hw] at hw'; injection hw' with hw'; subst hw'; exact h2 hm
    · exact h1 j w' (by omega) hw' hm

set_option maxRecDepth 100000 in
set_option maxHeartbeats 1000000 in
theorem locks_Of_row (l : List Txn) (done : List Bool) (hb : TxsB l) (hc : checkTxns l = 0) (hd : done.length = l.length) : FnRow (Cfg.mk Try.prog (ttAt ttl) ttl_ok.ok mixd) 29 [txsV l, boolsV done] 3 1 cI (readyTo l done l.length) := by
  have hl8 := (checkTxns_zero hc).1
  refine FnRow.of_wp _ (fun _ => rfl) Try.func29 rfl (by kernel_rfl) Try.ntmps29 rfl ?_
  intro F hD hG
  ((repeat apply WP.seq); apply WP.lreg; refine nA rfl rfl ?_; refine ALK.nil ?_; try show WP _ _ _ _ _ _)
  ((repeat apply WP.seq); apply WP.lreg; refine nM rfl rfl ?_; refine ALK.n OpN.ln rfl ?_; refine ALK.a (opa_make (n := l.length) (b := 8) (enc := cI) 0 rfl rfl (fun _ => rfl) rfl rfl rfl (eB rfl) (eB rfl) rfl (by omega) (by omega)) rfl ?_; refine nA rfl rfl ?_; refine ALK.nil ?_; try show WP _ _ _ _ _ _)
  ((repeat apply WP.seq); apply WP.lreg; refine nM rfl rfl ?_; refine nM rfl rfl ?_; refine ALK.n (opn_call (locks_of_fn l done hb hc hd) (Evs.cons Ev.a (Evs.cons Ev.a Evs.nil))) rfl ?_; (first | refine ALK.n (opn_nilPtr (eB rfl)) rfl ?_ | refine ALK.n (opn_nilOff (eB rfl)) rfl ?_); refine nM rfl rfl ?_; refine ALK.nil ?_; try show WP _ _ _ _ _ _)
  ((repeat apply WP.seq); apply WP.block)
  refine WP.loop (fun c : Nat × List Int => ⟨[(20, .im (IV.int c.1)), (18, .im (IV.ptr (qPtr l done))), (5, .row 0 l.length), (0, .im (txsV l)), (1, .im (boolsV done))], [(0, .row 3 1 cI c.2)], 1⟩) (fun c => c.1 ≤ 8 ∧ c.2.length = l.length ∧ ∀ (m : Nat) v, c.2[m]? = some v → 0 ≤ v ∧ v ≤ c.1 * 64 ∧ (v = 0 ↔ NB l done c.1 m)) (fun c => 8 - c.1) (0, List.replicate l.length 0) ⟨by simp, by simp, fun m v hv => by
    have := List.mem_of_getElem? hv
    have : v = 0 := (List.mem_replicate.1 this).2
    subst this
    exact ⟨by omega, by simp, by simp; intro key h0 h1; omega⟩⟩ (Shift.sub [(0, 0)] rfl SubE.a SubH.a) ?_
  rintro ⟨k, row⟩ ⟨hk, hrl, hrow⟩
  simp only at hk hrl hrow
  ((repeat apply WP.seq); apply WP.lreg; refine ALK.n OpN.cm rfl ?_; refine ALK.nil ?_; try show WP _ _ _ _ _ _)
  ((repeat apply WP.seq); refine WP.cond rfl (fun h => ?_) (fun h => ?_))
  · (refine WP.skip ?_; show WP _ _ _ _ _ _)
    have hlt : k < 8 := by simp at h; omega
    have hk0 : (0 : Int) ≤ (k : Int) := by omega
    have hk8 : (k : Int) < 8 := by omega
    have hql := qOf_len l done k l.length
    ((repeat apply WP.seq); apply WP.block)
    ((repeat apply WP.seq); apply WP.lreg; (first | refine ALK.n (opn_nilPtr (eB rfl)) rfl ?_ | refine ALK.n (opn_nilOff (eB rfl)) rfl ?_); refine ALK.n OpN.ix rfl ?_; refine ALK.n (opn_load (s := .im (IV.view 2 cW (qOf l done l.length (k : Int)))) rfl (eB rfl) (by show ldI _ (List.drop ((k : Int).toNat * 1) (qPtr l done)) = _; rw [qPtr_at l done hk0 hk8]; rfl)) rfl ?_; refine nA rfl rfl ?_; refine ALK.nil ?_; try show WP _ _ _ _ _ _)
    ((repeat apply WP.seq); apply WP.lreg; refine nA rfl rfl ?_; refine ALK.nil ?_; try show WP _ _ _ _ _ _)
    have hqm : ∀ w ∈ qOf l done l.length (k : Int), ∃ m : Nat, w.txn = m ∧ m < l.length := fun w hw => by
      obtain ⟨q, t, hq, _, _, _, rfl⟩ := (mem_qOf hk0 hk8).1 hw
      exact ⟨q, rfl, hq⟩
    have hNB := fun m => NB_next (l := l) (done := done) (k := k) (m := m)
    obtain ⟨q, hq⟩ : ∃ q, q = qOf l done l.length (k : Int) := ⟨_, rfl⟩
    rw [← hq] at hql hqm ⊢
    simp only [← hq] at hNB
    ((repeat apply WP.seq); apply WP.lreg; refine nM rfl rfl ?_; refine ALK.n OpN.ln rfl ?_; refine nM rfl rfl ?_; refine ALK.nil ?_; try show WP _ _ _ _ _ _)
    ((repeat apply WP.seq); apply WP.block)
    refine WP.loop (fun c : Nat × List Int => ⟨[(27, .im (IV.int c.1)), (25, .im (IV.view 2 cW q)), (26, .im (IV.int q.length)), (8, .im (IV.bool ((q.take c.1).all fun x => !x.write))), (20, .im (IV.int k)), (18, .im (IV.ptr (qPtr l done))), (5, .row 0 l.length), (0, .im (txsV l)), (1, .im (boolsV done))], [(0, .row 3 1 cI c.2)], 1⟩) (fun c => c.1 ≤ q.length ∧ c.2.length = l.length ∧ ∀ (m : Nat) v, c.2[m]? = some v → 0 ≤ v ∧ v ≤ k * 64 + c.1 ∧ (v = 0 ↔ NB l done k m ∧ NQ q c.1 m)) (fun c => q.length - c.1) (0, row) ⟨Nat.zero_le _, hrl, fun m v hv => by
      obtain ⟨h1, h2, h3⟩ := hrow m v hv
      refine ⟨h1, by simp; omega, h3.trans ⟨fun h => ⟨h, fun j w hj => by simp at hj⟩, fun h => h.1⟩⟩⟩ (Shift.sub [(0, 0)] rfl SubE.a SubH.a) ?_
    rintro ⟨i, row'⟩ ⟨hi, hrl', hrow'⟩
    simp only at hi hrl' hrow'
    ((repeat apply WP.seq); apply WP.lreg; refine ALK.n OpN.cm rfl ?_; refine ALK.nil ?_; try show WP _ _ _ _ _ _)
    ((repeat apply WP.seq); refine WP.cond rfl (fun h => ?_) (fun h => ?_))
    · (refine WP.skip ?_; show WP _ _ _ _ _ _)
      have hil : i < q.length := by simpa using h
      obtain ⟨w, hw⟩ := get_at hil
      obtain ⟨m, hm, hml⟩ := hqm w (List.mem_of_getElem? hw)
      have hbad : badAt q i = (w.write && decide ((i : Int) > 0) || !((q.take i).all fun x => !x.write)) := by
        unfold badAt
        rw [hw]
        have : decide (0 < i) = decide ((i : Int) > 0) := by rw [Bool.eq_iff_iff]; simp
        simp only [this]
      have hclear : ((q.take (i + 1)).all fun x => !x.write) = (((q.take i).all fun x => !x.write) && !w.write) := by
        rw [List.take_add_one, hw, List.all_append]; simp
      obtain ⟨v, hv⟩ := get_at (xs := row') (k := m) (by omega)
      obtain ⟨hv0, hv1, hv2⟩ := hrow' m v hv
      have hy : row'[w.txn.toNat]? = some v := by rw [hm]; exact hv
      have hwl : w.txn.toNat < row'.length := by omega
      have hw0 : 0 ≤ w.txn := by omega
      have hwn : w.txn < l.length := by omega
      ((repeat apply WP.seq); apply WP.block)
      ((repeat apply WP.seq); apply WP.lreg; refine nM rfl rfl ?_; refine ALK.n OpN.ix rfl ?_; (first | refine ALK.n (opn_load rfl (eB rfl) rfl) rfl ?_ | refine ALK.r OpR.ld rfl ?_); refine ALK.a (opa_alloc rfl rfl) rfl ?_; refine nA rfl rfl ?_; (first | refine ALK.e (ope_store rfl (eB rfl) (eB rfl) Cs.a rfl rfl rfl) rfl rfl ?_ | refine ALK.e (ope_storeRow rfl rfl (eB rfl) (eB rfl) (oc_val rfl) rfl rfl (by assumption)) rfl rfl ?_); refine ALK.nil ?_; try show WP _ _ _ _ _ _)
      refine WP.shift (Shift.frzBlk 10 rfl rfl rfl) ?_
      ((repeat apply WP.seq); apply WP.lreg; (first | refine ALK.n (opn_field (o := 1) rfl (eB rfl)) rfl ?_ | refine ALK.n (opn_fieldOff (o := 1) rfl (eB rfl)) rfl ?_); (first | refine ALK.n (opn_load rfl (eB rfl) rfl) rfl ?_ | refine ALK.r OpR.ld rfl ?_); refine nM rfl rfl ?_; refine gM rfl rfl rfl rfl ?_; (first | refine ALK.g (fun hb => opn_cmp (eC rfl hb) (eB rfl) rfl) rfl rfl rfl ?_ | refine ALK.g (fun hb => opn_cmpB rfl (eC rfl hb) (eB rfl) rfl) rfl rfl rfl ?_); refine ALK.n (opn_pick_and (eB rfl) rfl (fun hb2 => by first | exact hb2 | (rw [hb, hb2]; rfl) | simp_all [gd]) rfl) rfl ?_; refine nM rfl rfl ?_; refine gM rfl rfl rfl rfl ?_; refine ALK.g (fun hb => opn_not (eC rfl hb)) rfl rfl rfl ?_; refine ALK.n (opn_pick_or (eB rfl) rfl rfl (fun hb2 => by first | (rw [hb2]; rfl) | (rw [hb, hb2]; rfl) | simp_all [gd])) rfl ?_; refine ALK.nil ?_; try show WP _ _ _ _ _ _)
      ((repeat apply WP.seq); refine WP.qshift ⟨[(27, .im (IV.int i)), (25, .im (IV.view 2 cW q)), (26, .im (IV.int q.length)), (8, .im (IV.bool ((q.take i).all fun x => !x.write))), (10, .im (IV.ptr (cW w))), (20, .im (IV.int k)), (18, .im (IV.ptr (qPtr l done))), (5, .row 0 l.length), (0, .im (txsV l)), (1, .im (boolsV done))], [(0, .row 3 1 cI (if badAt q i then row'.set m (v + 1) else row'))], 1⟩ (WP.cond rfl (fun h => ?_) (fun h => ?_)) ?_)
      · ((repeat apply WP.seq); apply WP.lreg; refine nM rfl rfl ?_; (first | refine ALK.n (opn_field (o := 0) rfl (eB rfl)) rfl ?_ | refine ALK.n (opn_fieldOff (o := 0) rfl (eB rfl)) rfl ?_); (first | refine ALK.n (opn_load rfl (eB rfl) rfl) rfl ?_ | refine ALK.r OpR.ld rfl ?_); refine ALK.n OpN.ix rfl ?_; (first | refine ALK.n (opn_load rfl (eB rfl) rfl) rfl ?_ | refine ALK.r OpR.ld rfl ?_); refine ALK.n OpN.ar rfl ?_; refine ALK.n OpN.ix rfl ?_; (first | refine ALK.e (ope_store rfl (eB rfl) (eB rfl) Cs.a rfl rfl rfl) rfl rfl ?_ | refine ALK.e (ope_storeRow rfl rfl (eB rfl) (eB rfl) (oc_val rfl) rfl rfl (by assumption)) rfl rfl ?_); refine ALK.nil ?_; try show WP _ _ _ _ _ _)
        have hr : badAt q i = true := by rw [hbad]; exact h
        have hset : row'.set w.txn.toNat (v + 1) = if badAt q i then row'.set m (v + 1) else row' := by rw [if_pos hr, hm]; rfl
        show Shift _ _ _ _
        exact Shift.sub [(0, 0)] rfl SubE.a (SubH.cons rfl rfl (ObLe.row hset) SubH.nil)
      · refine WP.skip ?_; show Shift _ _ _ _
        have hr : badAt q i = false := by rw [hbad]; exact h
        have hset : row' = if badAt q i then row'.set m (v + 1) else row' := by rw [hr]; rfl
        exact Shift.sub [(0, 0)] rfl SubE.a (SubH.cons rfl rfl (ObLe.row hset) SubH.nil)
      show WP _ _ _ _ _ _
      ((repeat apply WP.seq); apply WP.lreg; refine nM rfl rfl ?_; refine nM rfl rfl ?_; (first | refine ALK.g (fun hb => opn_field (o := 1) rfl (eB rfl)) rfl rfl rfl ?_ | refine ALK.g (fun hb => opn_fieldOff (o := 1) rfl (eB rfl)) rfl rfl rfl ?_); (first | refine ALK.g (fun hb => opn_load rfl (eC rfl hb) rfl) rfl rfl rfl ?_ | refine ALK.rg (fun hb => opr_load rfl (eC rfl hb) rfl rfl) rfl rfl rfl ?_ | refine ALK.rg (fun hb => opr_loadRow rfl rfl (eC rfl hb) rfl (by assumption) rfl) rfl rfl rfl ?_ | refine ALK.rg (fun hb => opr_loadK0 rfl (eC rfl hb) rfl (by assumption) rfl) rfl rfl rfl ?_ | refine ALK.rg (fun hb => opr_loadK rfl (eC rfl hb) rfl (by assumption) rfl) rfl rfl rfl ?_); refine ALK.g (fun hb => opn_not (eC rfl hb)) rfl rfl rfl ?_; refine ALK.n (opn_pick_and (eB rfl) rfl (fun hb2 => by first | exact hb2 | (rw [hb, hb2]; rfl) | simp_all [gd]) rfl) rfl ?_; refine nA rfl rfl ?_; refine ALK.nil ?_; try show WP _ _ _ _ _ _)
      ((repeat apply WP.seq); apply WP.lreg; refine ALK.n OpN.ar rfl ?_; refine nM rfl rfl ?_; refine ALK.nil ?_; try show WP _ _ _ _ _ _)
      show ∃ _, _ ∧ _ ∧ _
      refine ⟨(i + 1, if badAt q i then row'.set m (v + 1) else row'), ⟨by simp only; omega, by simp only; split <;> simp [hrl'], ?_⟩, by simp only; omega, (Shift.sub [(0, 0)] rfl SubE.a SubH.a)⟩
      intro m' v' hv'
      simp only at hv' ⊢
      rw [NQ_next hw]
      cases hbb : badAt q i with
      | false =>
        rw [hbb, if_neg (by simp)] at hv'
        obtain ⟨h1, h2, h3⟩ := hrow' m' v' hv'
        refine ⟨h1, by push_cast; omega, h3.trans ⟨fun ⟨a, b⟩ => ⟨a, b, fun _ => rfl⟩, fun ⟨a, b, _⟩ => ⟨a, b⟩⟩⟩
      | true =>
        rw [hbb, if_pos rfl, List.getElem?_set] at hv'
        by_cases e : m = m'
        · subst e
          rw [if_pos rfl, if_pos (by omega)] at hv'
          injection hv' with hv'
          subst hv'
          refine ⟨by omega, by push_cast; omega, ⟨fun h => by omega, fun ⟨_, _, h3⟩ => ?_⟩⟩
          have := h3 hm
          cases this
        · rw [if_neg e] at hv'
          obtain ⟨h1, h2, h3⟩ := hrow' m' v' hv'
          refine ⟨h1, by push_cast; omega, h3.trans ⟨fun ⟨a, b⟩ => ⟨a, b, fun h => ?_⟩, fun ⟨a, b, _⟩ => ⟨a, b⟩⟩⟩
          rw [hm] at h
          exact absurd (by omega) e
    · ((repeat apply WP.seq); refine WP.exit ?_; show WP _ _ _ _ _ _)
      have hiq : i = q.length := by simp at h; omega
      subst hiq
      ((repeat apply WP.seq); apply WP.lreg; refine ALK.n OpN.ar rfl ?_; refine nM rfl rfl ?_; refine ALK.nil ?_; try show WP _ _ _ _ _ _)
      show ∃ _, _ ∧ _ ∧ _
      refine ⟨(k + 1, row'), ⟨by simp only; omega, hrl', fun m v hv => ?_⟩, by simp only; omega, (Shift.sub [(0, 0)] rfl SubE.a SubH.a)⟩
      obtain ⟨h1, h2, h3⟩ := hrow' m v hv
      refine ⟨h1, by simp only; push_cast; omega, h3.trans (hNB m).symm⟩
  · ((repeat apply WP.seq); refine WP.exit ?_; show WP _ _ _ _ _ _)
    have hk8 : k = 8 := by simp at h; omega
    subst hk8
    ((repeat apply WP.seq); apply WP.lreg; refine nA rfl rfl ?_; refine ALK.nil ?_; try show WP _ _ _ _ _ _)
    refine WP.shift (Shift.row0 11 3 1 cI (fun _ => rfl) rfl) ?_
    ((repeat apply WP.seq); apply WP.lreg; refine nM rfl rfl ?_; refine ALK.n OpN.ln rfl ?_; refine nM rfl rfl ?_; refine ALK.nil ?_; try show WP _ _ _ _ _ _)
    refine WP.shift (Shift.frzRow 5 rfl rfl) ?_
    ((repeat apply WP.seq); apply WP.block)
    refine WP.loop (fun n : Nat => ⟨[(59, .im (IV.int n)), (57, .im (txsV l)), (58, .im (IV.int l.length)), (5, .im (intsV row)), (1, .im (boolsV done)), (11, .row 0 (readyTo l done n).length)], [(0, .row 3 1 cI (readyTo l done n))], 1⟩) (fun n => n ≤ l.length) (fun n => l.length - n) 0 (Nat.zero_le _) (Shift.sub [(0, 1)] rfl SubE.a SubH.a) ?_
    rintro n hn
    have hrt := readyTo_len l done n
    ((repeat apply WP.seq); apply WP.lreg; refine ALK.n OpN.cm rfl ?_; refine ALK.nil ?_; try show WP _ _ _ _ _ _)
    ((repeat apply WP.seq); refine WP.cond rfl (fun h => ?_) (fun h => ?_))
    · (refine WP.skip ?_; show WP _ _ _ _ _ _)
      have hlt : n < l.length := by simpa using h
      obtain ⟨t, ht⟩ := get_at hlt
      obtain ⟨d, hdn⟩ := get_at (xs := done) (k := n) (by omega)
      obtain ⟨v, hv⟩ := get_at (xs := row) (k := n) (by omega)
      obtain ⟨_, _, hv3⟩ := hrow n v hv
      have hnx := readyTo_next l done n
      have hrb : readyB l done n = (!d && v == 0) := by
        rw [Bool.eq_iff_iff, readyB_iff hd ht hdn]
        cases d with
        | true => simp
        | false =>
          simp only [true_and, Bool.not_false, Bool.true_and, beq_iff_eq]
          rw [hv3, ← no_bad_iff hd ht hdn]
          rfl
      ((repeat apply WP.seq); apply WP.block)
      ((repeat apply WP.seq); apply WP.lreg; refine nM rfl rfl ?_; refine nA rfl rfl ?_; refine ALK.nil ?_; try show WP _ _ _ _ _ _)
      ((repeat apply WP.seq); apply WP.lreg; refine nM rfl rfl ?_; refine nM rfl rfl ?_; refine ALK.n OpN.ix rfl ?_; (first | refine ALK.n (opn_load rfl (eB rfl) rfl) rfl ?_ | refine ALK.r OpR.ld rfl ?_); refine ALK.n (opn_not (eB rfl)) rfl ?_; refine nM rfl rfl ?_; refine gM rfl rfl rfl rfl ?_; refine gM rfl rfl rfl rfl ?_; (first | refine ALK.g (fun hb => opn_index rfl (eC rfl hb) (eC rfl hb) (by omega) (by assumption)) rfl rfl rfl ?_ | refine ALK.g (fun hb => opn_indexRow1 rfl (eC rfl hb) (eC rfl hb) (by omega) (by omega)) rfl rfl rfl ?_ | refine ALK.g (fun hb => opn_indexRow rfl (eC rfl hb) (eC rfl hb) (by omega) (by omega)) rfl rfl rfl ?_ | refine ALK.g (fun hb => opn_indexArr rfl (eC rfl hb) (eC rfl hb) (by omega) (by omega)) rfl rfl rfl ?_ | refine ALK.g (fun hb => opn_indexArrI rfl (eC rfl hb) (eC rfl hb) (by omega) (by omega)) rfl rfl rfl ?_); (first | refine ALK.g (fun hb => opn_load rfl (eC rfl hb) rfl) rfl rfl rfl ?_ | refine ALK.rg (fun hb => opr_load rfl (eC rfl hb) rfl rfl) rfl rfl rfl ?_ | refine ALK.rg (fun hb => opr_loadRow rfl rfl (eC rfl hb) rfl (by assumption) rfl) rfl rfl rfl ?_ | refine ALK.rg (fun hb => opr_loadK0 rfl (eC rfl hb) rfl (by assumption) rfl) rfl rfl rfl ?_ | refine ALK.rg (fun hb => opr_loadK rfl (eC rfl hb) rfl (by assumption) rfl) rfl rfl rfl ?_); (first | refine ALK.g (fun hb => opn_cmp (eC rfl hb) (eB rfl) rfl) rfl rfl rfl ?_ | refine ALK.g (fun hb => opn_cmpB rfl (eC rfl hb) (eB rfl) rfl) rfl rfl rfl ?_); refine ALK.n (opn_pick_and (eB rfl) rfl (fun hb2 => by first | exact hb2 | (rw [hb, hb2]; rfl) | simp_all [gd]) rfl) rfl ?_; refine ALK.nil ?_; try show WP _ _ _ _ _ _)
      ((repeat apply WP.seq); refine WP.cond rfl (fun h => ?_) (fun h => ?_))
      · rw [hrb, show (!d && v == 0) = true from h, if_pos rfl] at hnx
        have hl : (readyTo l done n).length + [(n : Int)].length = (readyTo l done (n + 1)).length := by rw [hnx, List.length_append]
        ((repeat apply WP.seq); apply WP.lreg; refine nM rfl rfl ?_; refine nM rfl rfl ?_; refine ALK.n (opn_slit rfl rfl rfl rfl rfl rfl (Pc rfl (eB rfl) Cs.a rfl rfl Parts.nil) rfl) rfl ?_; refine ALK.e (ope_append (b := 8) [(n : Int)] rfl rfl rfl rfl rfl (eB rfl) (eB rfl) rfl rfl (by simp only [List.length_cons, List.length_nil]; omega) rfl) rfl rfl ?_; refine nA rfl rfl ?_; refine ALK.nil ?_; try show WP _ _ _ _ _ _)
        ((repeat apply WP.seq); apply WP.lreg; refine ALK.n OpN.ar rfl ?_; refine nM rfl rfl ?_; refine ALK.nil ?_; try show WP _ _ _ _ _ _)
        show ∃ _, _ ∧ _ ∧ _
        exact ⟨n + 1, by omega, by omega, Shift.sub [(0, 1)] rfl SubE.a (SubH.cons rfl rfl (ObLe.row hnx.symm) SubH.nil)⟩
      · (refine WP.skip ?_; show WP _ _ _ _ _ _)
        rw [hrb, show (!d && v == 0) = false from h, if_neg (by simp), List.append_nil] at hnx
        rw [← hnx]
        ((repeat apply WP.seq); apply WP.lreg; refine ALK.n OpN.ar rfl ?_; refine nM rfl rfl ?_; refine ALK.nil ?_; try show WP _ _ _ _ _ _)
        show ∃ _, _ ∧ _ ∧ _
        exact ⟨n + 1, by omega, by omega, (Shift.sub [(0, 0)] rfl SubE.a SubH.a)⟩
    · ((repeat apply WP.seq); refine WP.exit ?_; show WP _ _ _ _ _ _)
      have hne : n = l.length := by simp at h; omega
      subst hne
      ((repeat apply WP.seq); apply WP.lreg; refine nM rfl rfl ?_; refine nA rfl rfl ?_; refine ALK.nil ?_; try show WP _ _ _ _ _ _)
      ((repeat apply WP.seq); refine WP.ret ?_; exact ⟨_, _, _, Try.results29, rfl, rfl⟩)
theorem flat_cI : ∀ x, ∀ s ∈ cI x, FlatI s := fun x s hs => by
  have : s = IV.int x := by simpa [cI] using hs
  rw [this]; exact FlatI.val _
theorem locks_Of_fn (l : List Txn) (done : List Bool) (hb : TxsB l) (hc : checkTxns l = 0) (hd : done.length = l.length) : Fn (Cfg.mk Try.prog (ttAt ttl) ttl_ok.ok mixd) 29 [txsV l, boolsV done] (intsV (readyTo l done l.length)) := (FnN.of_row (locks_Of_row l done hb hc hd) flat_cI).fn
end Go.Proofs.Ytjgmbgfcffnanad
