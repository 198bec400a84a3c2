/- Plans: package place and the reference's part. -/
import Derived.Test.YtjgmbgfcffnanabL1
namespace Go.Proofs.Ytjgmbgfcffnanab
open Go.RowKit

structure Plan where
  shards : Int
  txns : List Txn
def cP (p : Plan) : List IV := [IV.int p.shards, txsV p.txns]
abbrev planV (p : Plan) : IV := IV.agg (cP p)
def checkPlan (p : Plan) : Int := if p.shards < 1 ∨ 4 < p.shards then 3 else checkTxns p.txns
def shardE (p : Plan) (k : Int) : Int := if checkPlan p = 0 then (if k < 0 ∨ 8 ≤ k then 3 else 0) else checkPlan p
def shardN (p : Plan) (k : Int) : Int := if shardE p k = 0 then k % p.shards else 0
def planE (p : Plan) (n : Int) : Int := if checkPlan p = 0 then (if n < 0 ∨ p.txns.length ≤ n then 5 else 0) else checkPlan p
theorem checkPlan_zero {p : Plan} (h : checkPlan p = 0) : 1 ≤ p.shards ∧ p.shards ≤ 4 ∧ checkTxns p.txns = 0 := by
  unfold checkPlan at h
  split at h
  · cases h
  · exact ⟨by omega, by omega, h⟩
theorem checkTxns_zero {l : List Txn} (h : checkTxns l = 0) : l.length ≤ 8 ∧ ∀ t ∈ l, checkTxn t = 0 := by
  unfold checkTxns at h
  split at h
  · cases h
  · refine ⟨by omega, fun t ht => fe_zero.1 h _ (List.mem_flatMap.2 ⟨t, ht, by simp [txErrs]⟩)⟩

set_option maxRecDepth 100000 in
theorem place_Check_fn (p : Plan) (hb : TxsB p.txns) : Fn (Cfg.mk Try.prog (ttAt ttl) ttl_ok.ok mixd) 49 [planV p] (IV.int (checkPlan p)) := by
  refine Fn.of_wp _ Try.func49 rfl (by kernel_rfl) Try.ntmps49 rfl ?_
  intro F hD hG
  ((repeat apply WP.seq); apply WP.lreg; refine ALK.n (opn_box (eB rfl) Cs.a rfl) rfl ?_; refine nA rfl rfl ?_; refine ALK.nil ?_; try show WP _ _ _ _ _ _)
  ((repeat apply WP.seq); apply WP.lreg; (first | refine ALK.n (opn_field (o := 0) rfl (eB rfl)) rfl ?_ | refine ALK.n (opn_fieldOff (o := 0) rfl (eB rfl)) rfl ?_); (first | refine ALK.n (opn_load rfl (eB rfl) rfl) rfl ?_ | refine ALK.r OpR.ld rfl ?_); refine ALK.n OpN.cm rfl ?_; refine nM rfl rfl ?_; (first | refine ALK.g (fun hb => opn_field (o := 0) rfl (eB rfl)) rfl rfl rfl ?_ | refine ALK.g (fun hb => opn_fieldOff (o := 0) rfl (eB rfl)) rfl rfl rfl ?_); (first | refine ALK.g (fun hb => opn_load rfl (eC rfl hb) rfl) rfl rfl rfl ?_ | refine ALK.rg (fun hb => opr_load rfl (eC rfl hb) rfl rfl) rfl rfl rfl ?_ | refine ALK.rg (fun hb => opr_loadRow rfl rfl (eC rfl hb) rfl (by assumption) rfl) rfl rfl rfl ?_ | refine ALK.rg (fun hb => opr_loadK0 rfl (eC rfl hb) rfl (by assumption) rfl) rfl rfl rfl ?_ | refine ALK.rg (fun hb => opr_loadK rfl (eC rfl hb) rfl (by assumption) rfl) rfl rfl rfl ?_); (first | refine ALK.g (fun hb => opn_cmp (eC rfl hb) (eB rfl) rfl) rfl rfl rfl ?_ | refine ALK.g (fun hb => opn_cmpB rfl (eC rfl hb) (eB rfl) rfl) rfl rfl rfl ?_); refine ALK.n (opn_pick_or (eB rfl) rfl rfl (fun hb2 => by first | (rw [hb2]; rfl) | (rw [hb, hb2]; rfl) | simp_all [gd])) rfl ?_; refine ALK.nil ?_; try show WP _ _ _ _ _ _)
  ((repeat apply WP.seq); refine WP.cond rfl (fun h => ?_) (fun h => ?_))
  · ((repeat apply WP.seq); apply WP.lreg; refine nA rfl rfl ?_; refine ALK.nil ?_; try show WP _ _ _ _ _ _)
    have hr : checkPlan p = 3 := by unfold checkPlan; rw [if_pos (by simpa using h)]
    ((repeat apply WP.seq); refine WP.ret ?_; first | exact RetOk.one Try.results49 ResV.a | exact RetOk.tup Try.results49 rfl ResVs.a)
  (refine WP.skip ?_; show WP _ _ _ _ _ _)
  ((repeat apply WP.seq); apply WP.lreg; (first | refine ALK.n (opn_field (o := 1) rfl (eB rfl)) rfl ?_ | refine ALK.n (opn_fieldOff (o := 1) rfl (eB rfl)) rfl ?_); (first | refine ALK.n (opn_load rfl (eB rfl) rfl) rfl ?_ | refine ALK.r OpR.ld rfl ?_); refine ALK.n (opn_call (store_Txns_fn _ (by assumption)) (Evs.cons Ev.a Evs.nil)) rfl ?_; refine nA rfl rfl ?_; refine ALK.nil ?_; try show WP _ _ _ _ _ _)
  have hr : checkPlan p = checkTxns p.txns := by unfold checkPlan; rw [if_neg (by simp at h; omega)]
  ((repeat apply WP.seq); refine WP.ret ?_; first | exact RetOk.one Try.results49 ResV.a | exact RetOk.tup Try.results49 rfl ResVs.a)
set_option maxRecDepth 100000 in
theorem ref_CheckPlan_fn (p : Plan) (hb : TxsB p.txns) : Fn (Cfg.mk Try.prog (ttAt ttl) ttl_ok.ok mixd) 15 [planV p] (IV.int (checkPlan p)) := by
  refine Fn.of_wp _ Try.func15 rfl (by kernel_rfl) Try.ntmps15 rfl ?_
  intro F hD hG
  ((repeat apply WP.seq); apply WP.lreg; refine ALK.n (opn_box (eB rfl) Cs.a rfl) rfl ?_; refine nA rfl rfl ?_; refine ALK.nil ?_; try show WP _ _ _ _ _ _)
  ((repeat apply WP.seq); apply WP.lreg; (first | refine ALK.n (opn_field (o := 0) rfl (eB rfl)) rfl ?_ | refine ALK.n (opn_fieldOff (o := 0) rfl (eB rfl)) rfl ?_); (first | refine ALK.n (opn_load rfl (eB rfl) rfl) rfl ?_ | refine ALK.r OpR.ld rfl ?_); refine ALK.n (opn_call (within_fn _ _ _) (Evs.cons Ev.a (Evs.cons Ev.a (Evs.cons Ev.a Evs.nil)))) rfl ?_; refine ALK.n (opn_not (eB rfl)) rfl ?_; refine ALK.nil ?_; try show WP _ _ _ _ _ _)
  ((repeat apply WP.seq); refine WP.cond rfl (fun h => ?_) (fun h => ?_))
  · ((repeat apply WP.seq); apply WP.lreg; refine nA rfl rfl ?_; refine ALK.nil ?_; try show WP _ _ _ _ _ _)
    have hr : checkPlan p = 3 := by unfold checkPlan; rw [if_pos (by simp at h; omega)]
    ((repeat apply WP.seq); refine WP.ret ?_; first | exact RetOk.one Try.results15 ResV.a | exact RetOk.tup Try.results15 rfl ResVs.a)
  (refine WP.skip ?_; show WP _ _ _ _ _ _)
  ((repeat apply WP.seq); apply WP.lreg; (first | refine ALK.n (opn_field (o := 1) rfl (eB rfl)) rfl ?_ | refine ALK.n (opn_fieldOff (o := 1) rfl (eB rfl)) rfl ?_); (first | refine ALK.n (opn_load rfl (eB rfl) rfl) rfl ?_ | refine ALK.r OpR.ld rfl ?_); refine ALK.n (opn_call (ref_CheckTxns_fn _ (by assumption)) (Evs.cons Ev.a Evs.nil)) rfl ?_; refine nA rfl rfl ?_; refine ALK.nil ?_; try show WP _ _ _ _ _ _)
  have hr : checkPlan p = checkTxns p.txns := by unfold checkPlan; rw [if_neg (by simp at h; omega)]
  ((repeat apply WP.seq); refine WP.ret ?_; first | exact RetOk.one Try.results15 ResV.a | exact RetOk.tup Try.results15 rfl ResVs.a)
/- at which shards lie keys -/
def marks (m : Nat) (ks : List Int) : List Bool := ks.foldl (fun b k => b.set (k % (m : Int)).toNat true) (List.replicate m false)
theorem marks_snoc (m : Nat) (ks : List Int) (k : Int) : marks m (ks ++ [k]) = (marks m ks).set (k % (m : Int)).toNat true := by unfold marks; rw [List.foldl_append]; rfl
theorem foldl_len {ks : List Int} {m : Nat} : ∀ {b : List Bool}, (ks.foldl (fun b k => b.set (k % (m : Int)).toNat true) b).length = b.length := by
  induction ks with
  | nil => intro b; rfl
  | cons k ks ih => intro b; rw [List.foldl_cons, ih, List.length_set]
theorem marks_length (m : Nat) (ks : List Int) : (marks m ks).length = m := by unfold marks; rw [foldl_len, List.length_replicate]
theorem marks_at (m : Nat) (ks : List Int) (j : Nat) (hj : j < m) : (marks m ks)[j]? = some (ks.any fun k => (k % (m : Int)).toNat == j) := by
  unfold marks
  have key : ∀ (ks : List Int) (b : List Bool), b.length = m → ∀ v, b[j]? = some v → (ks.foldl (fun b k => b.set (k % (m : Int)).toNat true) b)[j]? = some (v || ks.any fun k => (k % (m : Int)).toNat == j) := by
    intro ks
    induction ks with
    | nil => intro b hb v hv; simpa using hv
    | cons k ks ih =>
      intro b hb v hv
      rw [List.foldl_cons, ih _ (by rw [List.length_set]; exact hb) (v || (k % (m : Int)).toNat == j)]
      · rw [List.any_cons, Bool.or_assoc]
      · rw [List.getElem?_set]
        by_cases e : (k % (m : Int)).toNat = j
        · rw [if_pos e, if_pos (by omega)]; simp [e]
        · rw [if_neg e, hv]
          have : ((k % (m : Int)).toNat == j) = false := by simpa using e
          rw [this, Bool.or_false]
  have := key ks (List.replicate m false) (List.length_replicate ..) false (by simp [hj])
  simpa using this
theorem marks_congr {m : Nat} {ks ks' : List Int} (h : ∀ k, k ∈ ks ↔ k ∈ ks') : marks m ks = marks m ks' := by
  apply List.ext_getElem?
  intro j
  by_cases hj : j < m
  · rw [marks_at m ks j hj, marks_at m ks' j hj]
    congr 1
    rw [Bool.eq_iff_iff, List.any_eq_true, List.any_eq_true]
    exact ⟨fun ⟨k, h1, h2⟩ => ⟨k, (h k).1 h1, h2⟩, fun ⟨k, h1, h2⟩ => ⟨k, (h k).2 h1, h2⟩⟩
  · rw [List.getElem?_eq_none (by rw [marks_length]; omega), List.getElem?_eq_none (by rw [marks_length]; omega)]

def cKs (ks : List Int) : List IV := [intsV ks]
set_option maxRecDepth 100000 in
theorem where_fn (p : Plan) (m : Nat) (kss : List (List Int)) (hp : p.shards = m) (h1 : 1 ≤ m) (h4 : m ≤ 4) (hk : ∀ ks ∈ kss, ∀ k ∈ ks, 0 ≤ k) : Fn (Cfg.mk Try.prog (ttAt ttl) ttl_ok.ok mixd) 136 [planV p, IV.view 1 cKs kss] (boolsV (marks m kss.flatten)) := by
  refine Fn.of_wp _ Try.func136 rfl (by kernel_rfl) Try.ntmps136 rfl ?_
  intro F hD hG
  refine WP.len 1 rfl (fun hl1 => ?_)
  ((repeat apply WP.seq); apply WP.lreg; refine ALK.n (opn_box (eB rfl) Cs.a rfl) rfl ?_; refine nA rfl rfl ?_; refine ALK.nil ?_; try show WP _ _ _ _ _ _)
  ((repeat apply WP.seq); apply WP.lreg; (first | refine ALK.n (opn_field (o := 0) rfl (eB rfl)) rfl ?_ | refine ALK.n (opn_fieldOff (o := 0) rfl (eB rfl)) rfl ?_); (first | refine ALK.n (opn_load rfl (eB rfl) rfl) rfl ?_ | refine ALK.r OpR.ld rfl ?_); refine ALK.a (opa_make (n := m) (b := 1) (enc := cB) false rfl rfl (fun _ => rfl) rfl rfl rfl (Ev.of (eB rfl) (ImOf.im (ILe.int hp))) (Ev.of (eB rfl) (ImOf.im (ILe.int hp))) rfl (by omega) (by omega)) rfl ?_; refine nA rfl rfl ?_; refine ALK.nil ?_; try show WP _ _ _ _ _ _)
  ((repeat apply WP.seq); apply WP.lreg; refine nM rfl rfl ?_; refine ALK.n OpN.ln rfl ?_; refine nM rfl rfl ?_; refine ALK.nil ?_; try show WP _ _ _ _ _ _)
  ((repeat apply WP.seq); apply WP.block)
  refine WP.loop (fun k : Nat => ⟨[(15, .im (IV.int k)), (13, .im (IV.view 1 cKs kss)), (14, .im (IV.int kss.length)), (2, .im (IV.ptr (cP p))), (5, .row 0 m)], [(0, .row 4 1 cB (marks m (kss.take k).flatten))], 1⟩) (fun k => k ≤ kss.length) (fun k => kss.length - k) 0 (Nat.zero_le _) (Shift.sub [(0, 0)] rfl SubE.a SubH.a) ?_
  rintro k hkk
  ((repeat apply WP.seq); apply WP.lreg; refine ALK.n OpN.cm rfl ?_; refine ALK.nil ?_; try show WP _ _ _ _ _ _)
  ((repeat apply WP.seq); refine WP.cond rfl (fun h => ?_) (fun h => ?_))
  · (refine WP.skip ?_; show WP _ _ _ _ _ _)
    have hlt : k < kss.length := by simpa using h
    obtain ⟨ks, hks⟩ := get_at hlt
    have hks0 := hk ks (List.mem_of_getElem? hks)
    ((repeat apply WP.seq); apply WP.block)
    ((repeat apply WP.seq); apply WP.lreg; refine ALK.n OpN.ix rfl ?_; (first | refine ALK.n (opn_load rfl (eB rfl) rfl) rfl ?_ | refine ALK.r OpR.ld rfl ?_); refine nA rfl rfl ?_; refine ALK.nil ?_; try show WP _ _ _ _ _ _)
    refine WP.len 7 rfl (fun hl2 => ?_)
    ((repeat apply WP.seq); apply WP.lreg; refine nM rfl rfl ?_; refine ALK.n OpN.ln rfl ?_; refine nM rfl rfl ?_; refine ALK.nil ?_; try show WP _ _ _ _ _ _)
    ((repeat apply WP.seq); apply WP.block)
    refine WP.loop (fun j : Nat => ⟨[(21, .im (IV.int j)), (19, .im (intsV ks)), (20, .im (IV.int ks.length)), (15, .im (IV.int k)), (13, .im (IV.view 1 cKs kss)), (14, .im (IV.int kss.length)), (2, .im (IV.ptr (cP p))), (5, .row 0 m)], [(0, .row 4 1 cB (marks m ((kss.take k).flatten ++ ks.take j)))], 1⟩) (fun j => j ≤ ks.length) (fun j => ks.length - j) 0 (Nat.zero_le _) (Shift.sub [(0, 0)] rfl SubE.a (SubH.cons rfl rfl (ObLe.row (by simp)) SubH.nil)) ?_
    rintro j hj
    ((repeat apply WP.seq); apply WP.lreg; refine ALK.n OpN.cm rfl ?_; refine ALK.nil ?_; try show WP _ _ _ _ _ _)
    ((repeat apply WP.seq); refine WP.cond rfl (fun h => ?_) (fun h => ?_))
    · (refine WP.skip ?_; show WP _ _ _ _ _ _)
      have hjl : j < ks.length := by simpa using h
      obtain ⟨x, hx⟩ := get_at hjl
      have hx0 := hks0 x (List.mem_of_getElem? hx)
      have hm0 : 0 ≤ x % (m : Int) := Int.emod_nonneg _ (by omega)
      have hm1 : x % (m : Int) < (m : Int) := Int.emod_lt_of_pos _ (by omega)
      have hst : (x % (m : Int)).toNat < (marks m ((kss.take k).flatten ++ ks.take j)).length := by rw [marks_length]; omega
      ((repeat apply WP.seq); apply WP.block)
      ((repeat apply WP.seq); apply WP.lreg; refine ALK.n OpN.ix rfl ?_; (first | refine ALK.n (opn_load rfl (eB rfl) rfl) rfl ?_ | refine ALK.r OpR.ld rfl ?_); refine nA rfl rfl ?_; refine ALK.nil ?_; try show WP _ _ _ _ _ _)
      ((repeat apply WP.seq); apply WP.lreg; refine nM rfl rfl ?_; refine nM rfl rfl ?_; (first | refine ALK.n (opn_field (o := 0) rfl (eB rfl)) rfl ?_ | refine ALK.n (opn_fieldOff (o := 0) rfl (eB rfl)) rfl ?_); (first | refine ALK.n (opn_load rfl (eB rfl) rfl) rfl ?_ | refine ALK.r OpR.ld rfl ?_); refine ALK.n (opn_rem (eB rfl) (Ev.of (eB rfl) (ImOf.im (ILe.int hp))) hx0 (by omega)) rfl ?_; refine ALK.n (opn_indexRow1 rfl (eB rfl) (eB rfl) hm0 hm1) rfl ?_; refine ALK.e (ope_storeRow rfl rfl (eB rfl) (eB rfl) (oc_val rfl) rfl rfl hst) rfl rfl ?_; refine ALK.nil ?_; try show WP _ _ _ _ _ _)
      ((repeat apply WP.seq); apply WP.lreg; refine ALK.n OpN.ar rfl ?_; refine nM rfl rfl ?_; refine ALK.nil ?_; try show WP _ _ _ _ _ _)
      show ∃ _, _ ∧ _ ∧ _
      refine ⟨j + 1, by omega, by omega, Shift.sub [(0, 0)] rfl SubE.a (SubH.cons rfl rfl (ObLe.row ?_) SubH.nil)⟩
      rw [take_push hx, ← List.append_assoc, marks_snoc]
    · ((repeat apply WP.seq); refine WP.exit ?_; show WP _ _ _ _ _ _)
      have hj2 : j = ks.length := by have : ¬ j < ks.length := by simpa using h
                                     omega
      subst hj2
      ((repeat apply WP.seq); apply WP.lreg; refine ALK.n OpN.ar rfl ?_; refine nM rfl rfl ?_; refine ALK.nil ?_; try show WP _ _ _ _ _ _)
      show ∃ _, _ ∧ _ ∧ _
      refine ⟨k + 1, by omega, by omega, Shift.sub [(0, 0)] rfl SubE.a (SubH.cons rfl rfl (ObLe.row ?_) SubH.nil)⟩
      rw [take_push hks, List.flatten_append, List.take_length]; simp
  · ((repeat apply WP.seq); refine WP.exit ?_; show WP _ _ _ _ _ _)
    have hk2 : k = kss.length := by have : ¬ k < kss.length := by simpa using h
                                    omega
    subst hk2
    ((repeat apply WP.seq); apply WP.lreg; refine nM rfl rfl ?_; refine nA rfl rfl ?_; refine ALK.nil ?_; try show WP _ _ _ _ _ _)
    refine WP.shift (Shift.frzRow 4 rfl rfl) ?_
    rw [List.take_length]
    ((repeat apply WP.seq); refine WP.ret ?_; first | exact RetOk.one Try.results136 ResV.a | exact RetOk.tup Try.results136 rfl ResVs.a)

theorem right_keys {t : Txn} (h : checkTxn t = 0) : (∀ k ∈ t.reads, 0 ≤ k ∧ k < 8) ∧ ∀ k ∈ keysOf t, 0 ≤ k ∧ k < 8 := by
  have h2 := (right_parts h).2.1
  have key : ∀ k ∈ t.reads ++ keysOf t, 0 ≤ k ∧ k < 8 := fun k hk => by
    have := h2 k hk
    simp only [isKeyB, Bool.and_eq_true, decide_eq_true_eq] at this
    omega
  exact ⟨fun k hk => key k (List.mem_append_left _ hk), fun k hk => key k (List.mem_append_right _ hk)⟩
def partL (m : Nat) (t : Txn) : List Bool := marks m (t.reads ++ keysOf t)
def actL (m : Nat) (t : Txn) : List Bool := marks m (keysOf t)
set_option maxRecDepth 100000 in
theorem place_Parts_fn (p : Plan) (m : Nat) (n : Int) (t : Txn) (hp : p.shards = m) (h1 : 1 ≤ m) (h4 : m ≤ 4) (h0 : 0 ≤ n) (ht : p.txns[n.toNat]? = some t) (hbt : TxnB t) (hok : checkTxn t = 0) : Fn (Cfg.mk Try.prog (ttAt ttl) ttl_ok.ok mixd) 124 [planV p, IV.int n] (IV.tup [boolsV (partL m t), boolsV (actL m t)]) := by
  have hk := right_keys hok
  have k2 : ∀ ks ∈ [keysOf t], ∀ k ∈ ks, (0 : Int) ≤ k := fun ks h k hk2 => by
    rw [List.mem_singleton] at h; subst h; exact (hk.2 k hk2).1
  have k1 : ∀ ks ∈ [t.reads, keysOf t], ∀ k ∈ ks, (0 : Int) ≤ k := fun ks h k hk2 => by
    rcases List.mem_cons.1 h with h | h
    · subst h; exact (hk.1 k hk2).1
    · exact k2 ks h k hk2
  refine Fn.of_wp _ Try.func124 rfl (by kernel_rfl) Try.ntmps124 rfl ?_
  intro F hD hG
  ((repeat apply WP.seq); apply WP.lreg; refine ALK.n (opn_box (eB rfl) Cs.a rfl) rfl ?_; refine nA rfl rfl ?_; refine nA rfl rfl ?_; refine ALK.nil ?_; try show WP _ _ _ _ _ _)
  ((repeat apply WP.seq); apply WP.lreg; (first | refine ALK.n (opn_field (o := 1) rfl (eB rfl)) rfl ?_ | refine ALK.n (opn_fieldOff (o := 1) rfl (eB rfl)) rfl ?_); (first | refine ALK.n (opn_load rfl (eB rfl) rfl) rfl ?_ | refine ALK.r OpR.ld rfl ?_); refine nM rfl rfl ?_; refine ALK.n OpN.ix rfl ?_; (first | refine ALK.n (opn_load rfl (eB rfl) rfl) rfl ?_ | refine ALK.r OpR.ld rfl ?_); refine ALK.a (opa_alloc rfl rfl) rfl ?_; (first | refine ALK.e (ope_store rfl (eB rfl) (eB rfl) Cs.a rfl rfl rfl) rfl rfl ?_ | refine ALK.e (ope_storeRow rfl rfl (eB rfl) (eB rfl) (oc_val rfl) rfl rfl (by assumption)) rfl rfl ?_); refine ALK.nil ?_; try show WP _ _ _ _ _ _)
  refine WP.shift (Shift.frzBlk 6 rfl rfl rfl) ?_
  ((repeat apply WP.seq); apply WP.ldraw; (first | refine ALK.n (opn_load rfl (eB rfl) rfl) rfl ?_ | refine ALK.r OpR.ld rfl ?_); (first | refine ALK.n (opn_field (o := 0) rfl (eB rfl)) rfl ?_ | refine ALK.n (opn_fieldOff (o := 0) rfl (eB rfl)) rfl ?_); (first | refine ALK.n (opn_load rfl (eB rfl) rfl) rfl ?_ | refine ALK.r OpR.ld rfl ?_); (first | refine ALK.n (opn_load rfl (eB rfl) rfl) rfl ?_ | refine ALK.r OpR.ld rfl ?_); refine ALK.n (opn_call (txn_Keys_fn _ (by assumption)) (Evs.cons Ev.a Evs.nil)) rfl ?_; refine ALK.n (opn_slit rfl rfl rfl rfl rfl rfl (Pc rfl (eB rfl) Cs.a rfl rfl (Pc rfl (eB rfl) Cs.a rfl rfl Parts.nil)) rfl) rfl ?_; refine ALK.n (opn_call (where_fn p m [t.reads, keysOf t] hp h1 h4 k1) (Evs.cons Ev.a (Evs.cons Ev.a Evs.nil))) rfl ?_; (first | refine ALK.n (opn_load rfl (eB rfl) rfl) rfl ?_ | refine ALK.r OpR.ld rfl ?_); (first | refine ALK.n (opn_load rfl (eB rfl) rfl) rfl ?_ | refine ALK.r OpR.ld rfl ?_); refine ALK.n (opn_call (txn_Keys_fn _ (by assumption)) (Evs.cons Ev.a Evs.nil)) rfl ?_; refine ALK.n (opn_slit rfl rfl rfl rfl rfl rfl (Pc rfl (eB rfl) Cs.a rfl rfl Parts.nil) rfl) rfl ?_; refine ALK.n (opn_call (where_fn p m [keysOf t] hp h1 h4 k2) (Evs.cons Ev.a (Evs.cons Ev.a Evs.nil))) rfl ?_; refine nA rfl rfl ?_; refine nA rfl rfl ?_; refine ALK.nilD (by kernel_rfl) ?_; try show WP _ _ _ _ _ _)
  have e1 : boolsV (marks m [t.reads, keysOf t].flatten) = boolsV (partL m t) := by unfold partL; simp
  have e2 : boolsV (marks m [keysOf t].flatten) = boolsV (actL m t) := by unfold actL; simp
  ((repeat apply WP.seq); refine WP.ret ?_; first | exact RetOk.one Try.results124 ResV.a | exact RetOk.tup Try.results124 rfl ResVs.a)
def orL (e : Int) (l : List Bool) : List Bool := if e = 0 then l else []
def nthT (l : List Txn) (n : Int) : Txn := l.getD n.toNat ⟨[], [], []⟩
theorem planE_zero {p : Plan} {n : Int} (h : planE p n = 0) : checkPlan p = 0 ∧ 0 ≤ n ∧ n < p.txns.length ∧ p.txns[n.toNat]? = some (nthT p.txns n) := by
  unfold planE at h
  split at h
  · rename_i h0
    split at h
    · cases h
    · refine ⟨h0, by omega, by omega, ?_⟩
      unfold nthT
      rw [List.getD_eq_getElem?_getD, List.getElem?_eq_getElem (by omega)]
      rfl
  · exact absurd h ‹_›
/- the reference goes over all keys -/
def keysIn (f : Int → Bool) (n : Nat) : List Int := ((List.range n).map (fun j : Nat => (j : Int))).filter f
theorem keysIn_succ (f : Int → Bool) (n : Nat) : keysIn f (n + 1) = keysIn f n ++ if f n then [(n : Int)] else [] := by
  unfold keysIn; rw [List.range_succ, List.map_append, List.filter_append]
  by_cases h : f n <;> simp [h]
theorem mem_keysIn {f : Int → Bool} {k : Int} : k ∈ keysIn f 8 ↔ 0 ≤ k ∧ k < 8 ∧ f k = true := by
  unfold keysIn
  rw [List.mem_filter, List.mem_map]
  constructor
  · rintro ⟨⟨j, hj, rfl⟩, h⟩; rw [List.mem_range] at hj; exact ⟨by omega, by omega, h⟩
  · rintro ⟨h0, h1, h⟩; exact ⟨⟨k.toNat, List.mem_range.2 (by omega), by omega⟩, h⟩
theorem readsB_iff {t : Txn} {k : Int} : readsB t k = true ↔ k ∈ t.reads := by simp [readsB]
theorem writesB_iff {t : Txn} {k : Int} : writesB t k = true ↔ k ∈ keysOf t := by simp [writesB]
theorem part_keys {m : Nat} {t : Txn} (hok : checkTxn t = 0) : marks m (keysIn (fun k => readsB t k || writesB t k) 8) = partL m t := by
  obtain ⟨h1, h2⟩ := right_keys hok
  refine marks_congr fun k => ?_
  rw [mem_keysIn, Bool.or_eq_true, readsB_iff, writesB_iff, List.mem_append]
  exact ⟨fun h => h.2.2, fun h => h.elim (fun h => ⟨(h1 k h).1, (h1 k h).2, .inl h⟩) (fun h => ⟨(h2 k h).1, (h2 k h).2, .inr h⟩)⟩
theorem act_keys {m : Nat} {t : Txn} (hok : checkTxn t = 0) : marks m (keysIn (writesB t) 8) = actL m t := by
  obtain ⟨h1, h2⟩ := right_keys hok
  refine marks_congr fun k => ?_
  rw [mem_keysIn, writesB_iff]
  exact ⟨fun h => h.2.2, fun h => ⟨(h2 k h).1, (h2 k h).2, h⟩⟩
set_option maxRecDepth 100000 in
theorem ref_PartOf_fn (p : Plan) (m : Nat) (n : Int) (t : Txn) (hp : p.shards = m) (h1 : 1 ≤ m) (h4 : m ≤ 4) (h0 : 0 ≤ n) (ht : p.txns[n.toNat]? = some t) (hok : checkTxn t = 0) : Fn (Cfg.mk Try.prog (ttAt ttl) ttl_ok.ok mixd) 89 [planV p, IV.int n] (boolsV (partL m t)) := by
  rw [← part_keys hok]
  refine Fn.of_wp _ Try.func89 rfl (by kernel_rfl) Try.ntmps89 rfl ?_
  intro F hD hG
  ((repeat apply WP.seq); apply WP.lreg; refine ALK.n (opn_box (eB rfl) Cs.a rfl) rfl ?_; refine nA rfl rfl ?_; refine ALK.nil ?_; try show WP _ _ _ _ _ _)
  ((repeat apply WP.seq); apply WP.lreg; (first | refine ALK.n (opn_field (o := 0) rfl (eB rfl)) rfl ?_ | refine ALK.n (opn_fieldOff (o := 0) rfl (eB rfl)) rfl ?_); (first | refine ALK.n (opn_load rfl (eB rfl) rfl) rfl ?_ | refine ALK.r OpR.ld rfl ?_); refine ALK.a (opa_make (n := m) (b := 1) (enc := cB) false rfl rfl (fun _ => rfl) rfl rfl rfl (Ev.of (eB rfl) (ImOf.im (ILe.int hp))) (Ev.of (eB rfl) (ImOf.im (ILe.int hp))) rfl (by omega) (by omega)) rfl ?_; refine nA rfl rfl ?_; refine ALK.nil ?_; try show WP _ _ _ _ _ _)
  ((repeat apply WP.seq); apply WP.lreg; refine nA rfl rfl ?_; refine ALK.nil ?_; try show WP _ _ _ _ _ _)
  ((repeat apply WP.seq); apply WP.block)
  refine WP.loop (fun k : Nat => ⟨[(6, .im (IV.int k)), (1, .im (IV.int n)), (2, .im (IV.ptr (cP p))), (5, .row 0 m)], [(0, .row 4 1 cB (marks m (keysIn (fun k => readsB t k || writesB t k) k)))], 1⟩) (fun k => k ≤ 8) (fun k => 8 - k) 0 (Nat.zero_le _) (Shift.sub [(0, 0)] rfl SubE.a SubH.a) ?_
  rintro k hk
  ((repeat apply WP.seq); apply WP.lreg; refine nM rfl rfl ?_; refine ALK.n OpN.cm rfl ?_; refine ALK.nil ?_; try show WP _ _ _ _ _ _)
  ((repeat apply WP.seq); refine WP.cond rfl (fun h => ?_) (fun h => ?_))
  · (refine WP.skip ?_; show WP _ _ _ _ _ _)
    have hlt : k < 8 := by simp at h; omega
    have hm0 : 0 ≤ (k : Int) % (m : Int) := Int.emod_nonneg _ (by omega)
    have hm1 : (k : Int) % (m : Int) < (m : Int) := Int.emod_lt_of_pos _ (by omega)
    have hst : ((k : Int) % (m : Int)).toNat < (marks m (keysIn (fun k => readsB t k || writesB t k) k)).length := by rw [marks_length]; omega
    have hk0 : (0 : Int) ≤ k := by omega
    have hn := keysIn_succ (fun k => readsB t k || writesB t k) k
    ((repeat apply WP.seq); apply WP.block)
    ((repeat apply WP.seq); apply WP.lreg; (first | refine ALK.n (opn_field (o := 1) rfl (eB rfl)) rfl ?_ | refine ALK.n (opn_fieldOff (o := 1) rfl (eB rfl)) rfl ?_); (first | refine ALK.n (opn_load rfl (eB rfl) rfl) rfl ?_ | refine ALK.r OpR.ld rfl ?_); refine nM rfl rfl ?_; refine ALK.n OpN.ix rfl ?_; (first | refine ALK.n (opn_load rfl (eB rfl) rfl) rfl ?_ | refine ALK.r OpR.ld rfl ?_); refine nM rfl rfl ?_; refine ALK.n (opn_call (ref_reads_fn _ _) (Evs.cons Ev.a (Evs.cons Ev.a Evs.nil))) rfl ?_; refine nM rfl rfl ?_; (first | refine ALK.g (fun hb => opn_field (o := 1) rfl (eB rfl)) rfl rfl rfl ?_ | refine ALK.g (fun hb => opn_fieldOff (o := 1) rfl (eB rfl)) rfl rfl rfl ?_); (first | refine ALK.g (fun hb => opn_load rfl (eC rfl hb) rfl) rfl rfl rfl ?_ | refine ALK.rg (fun hb => opr_load rfl (eC rfl hb) rfl rfl) rfl rfl rfl ?_ | refine ALK.rg (fun hb => opr_loadRow rfl rfl (eC rfl hb) rfl (by assumption) rfl) rfl rfl rfl ?_ | refine ALK.rg (fun hb => opr_loadK0 rfl (eC rfl hb) rfl (by assumption) rfl) rfl rfl rfl ?_ | refine ALK.rg (fun hb => opr_loadK rfl (eC rfl hb) rfl (by assumption) rfl) rfl rfl rfl ?_); refine gM rfl rfl rfl rfl ?_; (first | refine ALK.g (fun hb => opn_index rfl (eC rfl hb) (eC rfl hb) (by omega) (by assumption)) rfl rfl rfl ?_ | refine ALK.g (fun hb => opn_indexRow1 rfl (eC rfl hb) (eC rfl hb) (by omega) (by omega)) rfl rfl rfl ?_ | refine ALK.g (fun hb => opn_indexRow rfl (eC rfl hb) (eC rfl hb) (by omega) (by omega)) rfl rfl rfl ?_ | refine ALK.g (fun hb => opn_indexArr rfl (eC rfl hb) (eC rfl hb) (by omega) (by omega)) rfl rfl rfl ?_ | refine ALK.g (fun hb => opn_indexArrI rfl (eC rfl hb) (eC rfl hb) (by omega) (by omega)) rfl rfl rfl ?_); (first | refine ALK.g (fun hb => opn_load rfl (eC rfl hb) rfl) rfl rfl rfl ?_ | refine ALK.rg (fun hb => opr_load rfl (eC rfl hb) rfl rfl) rfl rfl rfl ?_ | refine ALK.rg (fun hb => opr_loadRow rfl rfl (eC rfl hb) rfl (by assumption) rfl) rfl rfl rfl ?_ | refine ALK.rg (fun hb => opr_loadK0 rfl (eC rfl hb) rfl (by assumption) rfl) rfl rfl rfl ?_ | refine ALK.rg (fun hb => opr_loadK rfl (eC rfl hb) rfl (by assumption) rfl) rfl rfl rfl ?_); refine gM rfl rfl rfl rfl ?_; refine ALK.g (fun hb => opn_call (ref_writes_fn _ _) (Evs.cons Ev.a (Evs.cons Ev.a Evs.nil))) rfl rfl rfl ?_; refine ALK.n (opn_pick_or (eB rfl) rfl rfl (fun hb2 => by first | (rw [hb2]; rfl) | (rw [hb, hb2]; rfl) | simp_all [gd])) rfl ?_; refine ALK.nil ?_; try show WP _ _ _ _ _ _)
    ((repeat apply WP.seq); refine WP.cond rfl (fun h => ?_) (fun h => ?_))
    · ((repeat apply WP.seq); apply WP.lreg; refine nM rfl rfl ?_; refine nM rfl rfl ?_; (first | refine ALK.n (opn_field (o := 0) rfl (eB rfl)) rfl ?_ | refine ALK.n (opn_fieldOff (o := 0) rfl (eB rfl)) rfl ?_); (first | refine ALK.n (opn_load rfl (eB rfl) rfl) rfl ?_ | refine ALK.r OpR.ld rfl ?_); refine ALK.n (opn_rem (eB rfl) (Ev.of (eB rfl) (ImOf.im (ILe.int hp))) hk0 (by omega)) rfl ?_; refine ALK.n (opn_indexRow1 rfl (eB rfl) (eB rfl) hm0 hm1) rfl ?_; refine ALK.e (ope_storeRow rfl rfl (eB rfl) (eB rfl) (oc_val rfl) rfl rfl hst) rfl rfl ?_; refine ALK.nil ?_; try show WP _ _ _ _ _ _)
      ((repeat apply WP.seq); apply WP.lreg; refine nM rfl rfl ?_; refine ALK.n OpN.ar rfl ?_; refine nA rfl rfl ?_; refine ALK.nil ?_; try show WP _ _ _ _ _ _)
      show ∃ _, _ ∧ _ ∧ _
      refine ⟨k + 1, by omega, by omega, Shift.sub [(0, 0)] rfl SubE.a (SubH.cons rfl rfl (ObLe.row ?_) SubH.nil)⟩
      rw [hn, if_pos h, marks_snoc]
    · (refine WP.skip ?_; show WP _ _ _ _ _ _)
      ((repeat apply WP.seq); apply WP.lreg; refine nM rfl rfl ?_; refine ALK.n OpN.ar rfl ?_; refine nA rfl rfl ?_; refine ALK.nil ?_; try show WP _ _ _ _ _ _)
      show ∃ _, _ ∧ _ ∧ _
      refine ⟨k + 1, by omega, by omega, Shift.sub [(0, 0)] rfl SubE.a (SubH.cons rfl rfl (ObLe.row ?_) SubH.nil)⟩
      rw [hn, if_neg (by rw [h]; simp), List.append_nil]
  · ((repeat apply WP.seq); refine WP.exit ?_; show WP _ _ _ _ _ _)
    have hk2 : k = 8 := by have : ¬ (k : Int) < 8 := by simpa using h
                           omega
    subst hk2
    ((repeat apply WP.seq); apply WP.lreg; refine nM rfl rfl ?_; refine nA rfl rfl ?_; refine ALK.nil ?_; try show WP _ _ _ _ _ _)
    refine WP.shift (Shift.frzRow 4 rfl rfl) ?_
    ((repeat apply WP.seq); refine WP.ret ?_; first | exact RetOk.one Try.results89 ResV.a | exact RetOk.tup Try.results89 rfl ResVs.a)
set_option maxRecDepth 100000 in
theorem ref_ActiveOf_fn (p : Plan) (m : Nat) (n : Int) (t : Txn) (hp : p.shards = m) (h1 : 1 ≤ m) (h4 : m ≤ 4) (h0 : 0 ≤ n) (ht : p.txns[n.toNat]? = some t) (hok : checkTxn t = 0) : Fn (Cfg.mk Try.prog (ttAt ttl) ttl_ok.ok mixd) 90 [planV p, IV.int n] (boolsV (actL m t)) := by
  rw [← act_keys hok]
  refine Fn.of_wp _ Try.func90 rfl (by kernel_rfl) Try.ntmps90 rfl ?_
  intro F hD hG
  ((repeat apply WP.seq); apply WP.lreg; refine ALK.n (opn_box (eB rfl) Cs.a rfl) rfl ?_; refine nA rfl rfl ?_; refine ALK.nil ?_; try show WP _ _ _ _ _ _)
  ((repeat apply WP.seq); apply WP.lreg; (first | refine ALK.n (opn_field (o := 0) rfl (eB rfl)) rfl ?_ | refine ALK.n (opn_fieldOff (o := 0) rfl (eB rfl)) rfl ?_); (first | refine ALK.n (opn_load rfl (eB rfl) rfl) rfl ?_ | refine ALK.r OpR.ld rfl ?_); refine ALK.a (opa_make (n := m) (b := 1) (enc := cB) false rfl rfl (fun _ => rfl) rfl rfl rfl (Ev.of (eB rfl) (ImOf.im (ILe.int hp))) (Ev.of (eB rfl) (ImOf.im (ILe.int hp))) rfl (by omega) (by omega)) rfl ?_; refine nA rfl rfl ?_; refine ALK.nil ?_; try show WP _ _ _ _ _ _)
  ((repeat apply WP.seq); apply WP.lreg; refine nA rfl rfl ?_; refine ALK.nil ?_; try show WP _ _ _ _ _ _)
  ((repeat apply WP.seq); apply WP.block)
  refine WP.loop (fun k : Nat => ⟨[(6, .im (IV.int k)), (1, .im (IV.int n)), (2, .im (IV.ptr (cP p))), (5, .row 0 m)], [(0, .row 4 1 cB (marks m (keysIn (writesB t) k)))], 1⟩) (fun k => k ≤ 8) (fun k => 8 - k) 0 (Nat.zero_le _) (Shift.sub [(0, 0)] rfl SubE.a SubH.a) ?_
  rintro k hk
  ((repeat apply WP.seq); apply WP.lreg; refine nM rfl rfl ?_; refine ALK.n OpN.cm rfl ?_; refine ALK.nil ?_; try show WP _ _ _ _ _ _)
  ((repeat apply WP.seq); refine WP.cond rfl (fun h => ?_) (fun h => ?_))
  · (refine WP.skip ?_; show WP _ _ _ _ _ _)
    have hlt : k < 8 := by simp at h; omega
    have hm0 : 0 ≤ (k : Int) % (m : Int) := Int.emod_nonneg _ (by omega)
    have hm1 : (k : Int) % (m : Int) < (m : Int) := Int.emod_lt_of_pos _ (by omega)
    have hst : ((k : Int) % (m : Int)).toNat < (marks m (keysIn (writesB t) k)).length := by rw [marks_length]; omega
    have hk0 : (0 : Int) ≤ k := by omega
    have hn := keysIn_succ (writesB t) k
    ((repeat apply WP.seq); apply WP.block)
    ((repeat apply WP.seq); apply WP.lreg; (first | refine ALK.n (opn_field (o := 1) rfl (eB rfl)) rfl ?_ | refine ALK.n (opn_fieldOff (o := 1) rfl (eB rfl)) rfl ?_); (first | refine ALK.n (opn_load rfl (eB rfl) rfl) rfl ?_ | refine ALK.r OpR.ld rfl ?_); refine nM rfl rfl ?_; refine ALK.n OpN.ix rfl ?_; (first | refine ALK.n (opn_load rfl (eB rfl) rfl) rfl ?_ | refine ALK.r OpR.ld rfl ?_); refine nM rfl rfl ?_; refine ALK.n (opn_call (ref_writes_fn _ _) (Evs.cons Ev.a (Evs.cons Ev.a Evs.nil))) rfl ?_; refine ALK.nil ?_; try show WP _ _ _ _ _ _)
    ((repeat apply WP.seq); refine WP.cond rfl (fun h => ?_) (fun h => ?_))
    · ((repeat apply WP.seq); apply WP.lreg; refine nM rfl rfl ?_; refine nM rfl rfl ?_; (first | refine ALK.n (opn_field (o := 0) rfl (eB rfl)) rfl ?_ | refine ALK.n (opn_fieldOff (o := 0) rfl (eB rfl)) rfl ?_); (first | refine ALK.n (opn_load rfl (eB rfl) rfl) rfl ?_ | refine ALK.r OpR.ld rfl ?_); refine ALK.n (opn_rem (eB rfl) (Ev.of (eB rfl) (ImOf.im (ILe.int hp))) hk0 (by omega)) rfl ?_; refine ALK.n (opn_indexRow1 rfl (eB rfl) (eB rfl) hm0 hm1) rfl ?_; refine ALK.e (ope_storeRow rfl rfl (eB rfl) (eB rfl) (oc_val rfl) rfl rfl hst) rfl rfl ?_; refine ALK.nil ?_; try show WP _ _ _ _ _ _)
      ((repeat apply WP.seq); apply WP.lreg; refine nM rfl rfl ?_; refine ALK.n OpN.ar rfl ?_; refine nA rfl rfl ?_; refine ALK.nil ?_; try show WP _ _ _ _ _ _)
      show ∃ _, _ ∧ _ ∧ _
      refine ⟨k + 1, by omega, by omega, Shift.sub [(0, 0)] rfl SubE.a (SubH.cons rfl rfl (ObLe.row ?_) SubH.nil)⟩
      rw [hn, if_pos h, marks_snoc]
    · (refine WP.skip ?_; show WP _ _ _ _ _ _)
      ((repeat apply WP.seq); apply WP.lreg; refine nM rfl rfl ?_; refine ALK.n OpN.ar rfl ?_; refine nA rfl rfl ?_; refine ALK.nil ?_; try show WP _ _ _ _ _ _)
      show ∃ _, _ ∧ _ ∧ _
      refine ⟨k + 1, by omega, by omega, Shift.sub [(0, 0)] rfl SubE.a (SubH.cons rfl rfl (ObLe.row ?_) SubH.nil)⟩
      rw [hn, if_neg (by rw [h]; simp), List.append_nil]
  · ((repeat apply WP.seq); refine WP.exit ?_; show WP _ _ _ _ _ _)
    have hk2 : k = 8 := by have : ¬ (k : Int) < 8 := by simpa using h
                           omega
    subst hk2
    ((repeat apply WP.seq); apply WP.lreg; refine nM rfl rfl ?_; refine nA rfl rfl ?_; refine ALK.nil ?_; try show WP _ _ _ _ _ _)
    refine WP.shift (Shift.frzRow 4 rfl rfl) ?_
    ((repeat apply WP.seq); refine WP.ret ?_; first | exact RetOk.one Try.results90 ResV.a | exact RetOk.tup Try.results90 rfl ResVs.a)
end Go.Proofs.Ytjgmbgfcffnanab
