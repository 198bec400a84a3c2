/- The law PlayMany. -/
import Derived.Test.YtjgmbgfcffnanacPb
namespace Go.Proofs.Ytjgmbgfcffnanac
open Go.RowKit

def b2n (b : Bool) : Nat := if b then 1 else 0
def rowC (p : Plan) (n : Nat) : Nat → Nat
  | 0 => 0
  | j + 1 => rowC p n j + b2n (prt p n j) + b2n (act p n j)
def allC (p : Plan) : Nat → Nat
  | 0 => 0
  | n + 1 => allC p n + rowC p n (mS p)
theorem b2n_le (b : Bool) : b2n b ≤ 1 := by cases b <;> decide
theorem fil_succ (f : Nat → Bool) (j : Nat) : ((List.range (j + 1)).filter f).length = ((List.range j).filter f).length + b2n (f j) := by
  rw [List.range_succ, List.filter_append, List.length_append]
  congr 1
  cases h : f j <;> simp [List.filter, h, b2n]
theorem rowC_eq (p : Plan) (n : Nat) : ∀ j, rowC p n j = ((List.range j).filter fun k => prt p n k).length + ((List.range j).filter fun k => act p n k).length
  | 0 => rfl
  | j + 1 => by
    rw [fil_succ, fil_succ]
    show rowC p n j + b2n (prt p n j) + b2n (act p n j) = _
    rw [rowC_eq p n j]
    omega
theorem cnt_succ (f : Nat → Nat → Bool) (N m : Nat) : cnt f (N + 1) m = cnt f N m + ((List.range m).filter fun k => f N k).length := by
  unfold cnt
  rw [List.range_succ, List.map_append, List.sum_append]
  simp
theorem allC_eq (p : Plan) : ∀ N, allC p N = cnt (fun n k => prt p n k) N (mS p) + cnt (fun n k => act p n k) N (mS p)
  | 0 => rfl
  | N + 1 => by
    rw [cnt_succ, cnt_succ]
    show allC p N + rowC p N (mS p) = _
    rw [allC_eq p N, rowC_eq]
    omega
theorem rowC_le (p : Plan) (n : Nat) : ∀ j, rowC p n j ≤ 2 * j
  | 0 => Nat.le_refl _
  | j + 1 => by
    have h1 := rowC_le p n j
    have h2 := b2n_le (prt p n j)
    have h3 := b2n_le (act p n j)
    show rowC p n j + b2n (prt p n j) + b2n (act p n j) ≤ _
    omega
theorem allC_le (p : Plan) (h : mS p ≤ 4) : ∀ n, allC p n ≤ 8 * n
  | 0 => Nat.le_refl _
  | n + 1 => by
    have h1 := allC_le p h n
    have h2 := rowC_le p n (mS p)
    show allC p n + rowC p n (mS p) ≤ _
    omega
theorem bAt_rep (a b n k : Nat) : bAt (List.replicate a (List.replicate b false)) n k = false := by
  unfold bAt
  rw [List.getD_eq_getElem?_getD, List.getD_eq_getElem?_getD, List.getElem?_replicate]
  by_cases h : n < a
  · rw [if_pos h, Option.getD_some, List.getElem?_replicate]
    by_cases h2 : k < b
    · rw [if_pos h2]; rfl
    · rw [if_neg h2]; rfl
  · rw [if_neg h]; rfl
theorem togo_begin (p : Plan) (st : List Int) : togo p (beginS p st) = allC p (nT p) := by
  rw [allC_eq]
  unfold togo
  congr 1
  · refine cnt_congr fun i j _ _ => ?_
    show (prt p i j && !bAt (List.replicate _ (List.replicate _ false)) i j) = _
    rw [bAt_rep]; simp
  · refine cnt_congr fun i j _ _ => ?_
    show (act p i j && !bAt (List.replicate _ (List.replicate _ false)) i j) = _
    rw [bAt_rep]; simp
theorem play_many {p : Plan} {st picks : List Int} (h : playE p st picks = 0) : playN p st picks = (allC p (nT p) : Int) := by
  obtain ⟨h0, _⟩ := playE_zero h
  obtain ⟨_, _, e⟩ := onS_end (picks := picks) (n := 0) (Reach.begin h0) (Nat.le_refl (togo p (beginS p st)))
  have hs : playN p st picks = ((onF p picks (beginS p st) 0).2 : Int) := by unfold playN; rw [if_pos h]
  rw [hs]
  unfold onF
  rw [e, togo_begin]
  simp
set_option maxRecDepth 100000 in
set_option maxHeartbeats 4000000 in
theorem PlayMany_fn (p : Plan) (st picks picks2 : List Int) (hB : TxsB p.txns) (hpk : ∀ x ∈ picks, I64 x) (hpk2 : ∀ x ∈ picks2, I64 x) : Fn (Cfg.mk Try.prog (ttAt ttl) ttl_ok.ok mixd) 5 [planV p, intsV st, intsV picks, intsV picks2] (IV.bool true) := by
  refine Fn.of_wp _ Try.func5 rfl (by kernel_rfl) Try.ntmps5 rfl ?_
  intro F hD hG
  ((repeat apply WP.seq); apply WP.lreg; refine ALK.n (opn_box (eB rfl) Cs.a rfl) rfl ?_; refine nA rfl rfl ?_; refine ALK.nil ?_; try show WP _ _ _ _ _ _)
  ((repeat apply WP.seq); apply WP.lreg; (first | refine ALK.n (opn_load rfl (eB rfl) rfl) rfl ?_ | refine ALK.r OpR.ld rfl ?_); refine nM rfl rfl ?_; refine nM rfl rfl ?_; refine ALK.n (opn_call (Play_fn p st picks hB hpk) (Evs.cons Ev.a (Evs.cons Ev.a (Evs.cons Ev.a Evs.nil)))) rfl ?_; refine nM rfl rfl ?_; refine nX rfl rfl rfl ?_; refine nX rfl rfl rfl ?_; refine nX rfl rfl rfl ?_; refine ALK.a (opa_alloc rfl rfl) rfl ?_; (first | refine ALK.e (ope_store rfl (eB rfl) (eB rfl) Cs.a rfl rfl rfl) rfl rfl ?_ | refine ALK.e (ope_storeRow rfl rfl (eB rfl) (eB rfl) (oc_val rfl) rfl rfl (by assumption)) rfl rfl ?_); refine nA rfl rfl ?_; refine nA rfl rfl ?_; refine ALK.nil ?_; try show WP _ _ _ _ _ _)
  ((repeat apply WP.seq); apply WP.lreg; (first | refine ALK.n (opn_load rfl (eB rfl) rfl) rfl ?_ | refine ALK.r OpR.ld rfl ?_); refine nM rfl rfl ?_; refine nM rfl rfl ?_; refine ALK.n (opn_call (Play_fn p st picks2 hB hpk2) (Evs.cons Ev.a (Evs.cons Ev.a (Evs.cons Ev.a Evs.nil)))) rfl ?_; refine nM rfl rfl ?_; refine nX rfl rfl rfl ?_; refine nX rfl rfl rfl ?_; refine nX rfl rfl rfl ?_; refine ALK.a (opa_alloc rfl rfl) rfl ?_; (first | refine ALK.e (ope_store rfl (eB rfl) (eB rfl) Cs.a rfl rfl rfl) rfl rfl ?_ | refine ALK.e (ope_storeRow rfl rfl (eB rfl) (eB rfl) (oc_val rfl) rfl rfl (by assumption)) rfl rfl ?_); refine nA rfl rfl ?_; refine nA rfl rfl ?_; refine ALK.nil ?_; try show WP _ _ _ _ _ _)
  ((repeat apply WP.seq); apply WP.lreg; refine nM rfl rfl ?_; refine ALK.n OpN.cm rfl ?_; refine nM rfl rfl ?_; refine gM rfl rfl rfl rfl ?_; (first | refine ALK.g (fun hb => opn_cmp (eC rfl hb) (eB rfl) rfl) rfl rfl rfl ?_ | refine ALK.g (fun hb => opn_cmpB rfl (eC rfl hb) (eB rfl) rfl) rfl rfl rfl ?_); refine ALK.n (opn_pick_or (eB rfl) rfl rfl (fun hb2 => by first | (rw [hb2]; rfl) | (rw [hb, hb2]; rfl) | simp_all [gd])) rfl ?_; refine ALK.nil ?_; try show WP _ _ _ _ _ _)
  ((repeat apply WP.seq); refine WP.cond rfl (fun h => ?_) (fun h => ?_))
  · ((repeat apply WP.seq); apply WP.lreg; refine ALK.n (opn_call playBegun_fn Evs.nil) rfl ?_; refine nA rfl rfl ?_; refine ALK.nil ?_; try show WP _ _ _ _ _ _)
    ((repeat apply WP.seq); refine WP.ret ?_; first | exact RetOk.one Try.results5 ResV.a | exact RetOk.tup Try.results5 rfl ResVs.a)
  (refine WP.skip ?_; show WP _ _ _ _ _ _)
  have h0 : playE p st picks = 0 ∧ playE p st picks2 = 0 := by simpa using h
  obtain ⟨h1, h2⟩ := h0
  have hN1 := play_many h1
  have hN2 := play_many h2
  obtain ⟨r, _⟩ := play_done h1
  have hp := r.v.plan
  obtain ⟨hm, hm1, hm4, hn8, hall⟩ := plan_m hp
  have hnT : nT p = p.txns.length := rfl
  have hal := allC_le p hm4
  clear h
  rw [hN1, hN2]
  ((repeat apply WP.seq); apply WP.lreg; refine nA rfl rfl ?_; refine ALK.nil ?_; try show WP _ _ _ _ _ _)
  ((repeat apply WP.seq); apply WP.lreg; refine nA rfl rfl ?_; refine ALK.nil ?_; try show WP _ _ _ _ _ _)
  ((repeat apply WP.seq); apply WP.block)
  refine WP.loop (fun n : Nat => ⟨[(16, .im (IV.int n)), (15, .im (IV.int ((allC p n : Nat) : Int))), (4, .im (IV.ptr (cP p))), (10, .im (IV.int ((allC p (nT p) : Nat) : Int))), (13, .im (IV.int ((allC p (nT p) : Nat) : Int)))], [], 0⟩) (fun n => n ≤ nT p) (fun n => nT p - n) 0 (Nat.zero_le _) (Shift.sub [] rfl SubE.a SubH.a) ?_
  rintro n hn
  ((repeat apply WP.seq); apply WP.lreg; refine nM rfl rfl ?_; (first | refine ALK.n (opn_field (o := 1) rfl (eB rfl)) rfl ?_ | refine ALK.n (opn_fieldOff (o := 1) rfl (eB rfl)) rfl ?_); (first | refine ALK.n (opn_load rfl (eB rfl) rfl) rfl ?_ | refine ALK.r OpR.ld rfl ?_); refine ALK.n OpN.ln rfl ?_; refine ALK.n OpN.cm rfl ?_; refine ALK.nil ?_; try show WP _ _ _ _ _ _)
  ((repeat apply WP.seq); refine WP.cond rfl (fun h => ?_) (fun h => ?_))
  · (refine WP.skip ?_; show WP _ _ _ _ _ _)
    have hnl : n < nT p := by simp at h; omega
    have hpe : planE p (n : Int) = 0 := by unfold planE; rw [if_pos hp, if_neg (by omega)]
    have e1 : orL (planE p (n : Int)) (partL p.shards.toNat (nthT p.txns (n : Int))) = partL (mS p) (txN p n) := by rw [hpe]; rfl
    have e2 : orL (planE p (n : Int)) (actL p.shards.toNat (nthT p.txns (n : Int))) = actL (mS p) (txN p n) := by rw [hpe]; rfl
    have l1 : (partL (mS p) (txN p n)).length = mS p := by unfold partL; rw [marks_length]
    have l2 : (actL (mS p) (txN p n)).length = mS p := by unfold actL; rw [marks_length]
    have hal1 := hal n
    clear h
    ((repeat apply WP.seq); apply WP.block)
    ((repeat apply WP.seq); apply WP.lreg; (first | refine ALK.n (opn_load rfl (eB rfl) rfl) rfl ?_ | refine ALK.r OpR.ld rfl ?_); refine nM rfl rfl ?_; refine ALK.n (opn_call (place_Part_fn p (n : Int) hB) (Evs.cons Ev.a (Evs.cons Ev.a Evs.nil))) rfl ?_; refine nM rfl rfl ?_; refine nX rfl rfl rfl ?_; refine nX rfl rfl rfl ?_; refine nA rfl rfl ?_; refine nA rfl rfl ?_; refine ALK.nil ?_; try show WP _ _ _ _ _ _)
    ((repeat apply WP.seq); apply WP.lreg; (first | refine ALK.n (opn_load rfl (eB rfl) rfl) rfl ?_ | refine ALK.r OpR.ld rfl ?_); refine nM rfl rfl ?_; refine ALK.n (opn_call (place_Active_fn p (n : Int) hB) (Evs.cons Ev.a (Evs.cons Ev.a Evs.nil))) rfl ?_; refine nM rfl rfl ?_; refine nX rfl rfl rfl ?_; refine nX rfl rfl rfl ?_; refine nA rfl rfl ?_; refine nA rfl rfl ?_; refine ALK.nil ?_; try show WP _ _ _ _ _ _)
    rw [e1, e2, hpe]
    ((repeat apply WP.seq); apply WP.lreg; refine nM rfl rfl ?_; refine ALK.n OpN.cm rfl ?_; refine nM rfl rfl ?_; refine gM rfl rfl rfl rfl ?_; (first | refine ALK.g (fun hb => opn_cmp (eC rfl hb) (eB rfl) rfl) rfl rfl rfl ?_ | refine ALK.g (fun hb => opn_cmpB rfl (eC rfl hb) (eB rfl) rfl) rfl rfl rfl ?_); refine ALK.n (opn_pick_or (eB rfl) rfl rfl (fun hb2 => by first | (rw [hb2]; rfl) | (rw [hb, hb2]; rfl) | simp_all [gd])) rfl ?_; refine nM rfl rfl ?_; refine gM rfl rfl rfl rfl ?_; (first | refine ALK.g (fun hb => opn_len rfl (eC rfl hb)) rfl rfl rfl ?_ | refine ALK.g (fun hb => opn_lenRow rfl (eC rfl hb)) rfl rfl rfl ?_ | refine ALK.g (fun hb => opn_lenNil rfl (eC rfl hb)) rfl rfl rfl ?_); refine gM rfl rfl rfl rfl ?_; (first | refine ALK.g (fun hb => opn_len rfl (eC rfl hb)) rfl rfl rfl ?_ | refine ALK.g (fun hb => opn_lenRow rfl (eC rfl hb)) rfl rfl rfl ?_ | refine ALK.g (fun hb => opn_lenNil rfl (eC rfl hb)) rfl rfl rfl ?_); (first | refine ALK.g (fun hb => opn_cmp (eC rfl hb) (eC rfl hb) rfl) rfl rfl rfl ?_ | refine ALK.g (fun hb => opn_cmpB rfl (eC rfl hb) (eC rfl hb) rfl) rfl rfl rfl ?_); refine ALK.n (opn_pick_or (eB rfl) rfl rfl (fun hb2 => by first | (rw [hb2]; rfl) | (rw [hb, hb2]; rfl) | simp_all [gd])) rfl ?_; refine ALK.nil ?_; try show WP _ _ _ _ _ _)
    ((repeat apply WP.seq); refine WP.cond rfl (fun h => ?_) (fun h => ?_))
    · rw [l1, l2] at h
      simp at h
    (refine WP.skip ?_; show WP _ _ _ _ _ _)
    ((repeat apply WP.seq); apply WP.lreg; refine nA rfl rfl ?_; refine ALK.nil ?_; try show WP _ _ _ _ _ _)
    ((repeat apply WP.seq); apply WP.block)
    refine WP.loop (fun j : Nat => ⟨[(21, .im (IV.int j)), (16, .im (IV.int n)), (15, .im (IV.int ((allC p n + rowC p n j : Nat) : Int))), (17, .im (boolsV (partL (mS p) (txN p n)))), (19, .im (boolsV (actL (mS p) (txN p n)))), (4, .im (IV.ptr (cP p))), (10, .im (IV.int ((allC p (nT p) : Nat) : Int))), (13, .im (IV.int ((allC p (nT p) : Nat) : Int)))], [], 0⟩) (fun j => j ≤ mS p) (fun j => mS p - j) 0 (Nat.zero_le _) (Shift.sub [] rfl SubE.a SubH.a) ?_
    rintro j hj
    have hrl := rowC_le p n j
    ((repeat apply WP.seq); apply WP.lreg; refine nM rfl rfl ?_; refine nM rfl rfl ?_; refine ALK.n OpN.ln rfl ?_; refine ALK.n OpN.cm rfl ?_; refine ALK.nil ?_; try show WP _ _ _ _ _ _)
    ((repeat apply WP.seq); refine WP.cond rfl (fun h => ?_) (fun h => ?_))
    · (refine WP.skip ?_; show WP _ _ _ _ _ _)
      have hjl : j < mS p := by simp at h; omega
      have e3 := prt_at (p := p) (n := n) hjl
      have e4 := act_at (p := p) (n := n) hjl
      have c1 := b2n_le (prt p n j)
      clear h
      ((repeat apply WP.seq); apply WP.block)
      ((repeat apply WP.seq); apply WP.lreg; refine nM rfl rfl ?_; refine nM rfl rfl ?_; refine ALK.n OpN.ix rfl ?_; (first | refine ALK.n (opn_load rfl (eB rfl) rfl) rfl ?_ | refine ALK.r OpR.ld rfl ?_); refine ALK.nil ?_; try show WP _ _ _ _ _ _)
      ((repeat apply WP.seq); refine WP.qshift ⟨[(21, .im (IV.int j)), (16, .im (IV.int n)), (15, .im (IV.int ((allC p n + rowC p n j + b2n (prt p n j) : Nat) : Int))), (17, .im (boolsV (partL (mS p) (txN p n)))), (19, .im (boolsV (actL (mS p) (txN p n)))), (4, .im (IV.ptr (cP p))), (10, .im (IV.int ((allC p (nT p) : Nat) : Int))), (13, .im (IV.int ((allC p (nT p) : Nat) : Int)))], [], 0⟩ (WP.cond rfl (fun h => ?_) (fun h => ?_)) ?_)
      · have hb1 : prt p n j = true := by simpa using h
        ((repeat apply WP.seq); apply WP.lreg; refine nM rfl rfl ?_; refine ALK.n OpN.ar rfl ?_; refine nA rfl rfl ?_; refine ALK.nil ?_; try show WP _ _ _ _ _ _)
        show Shift _ _ _ _
        exact Shift.sub [] rfl (SubE.cons rfl SLe.a (SubE.cons rfl SLe.a (SubE.cons rfl (SLe.im (ILe.int (by rw [hb1]; simp [b2n]))) SubE.a))) SubH.a
      · have hb1 : prt p n j = false := by simpa using h
        refine WP.skip ?_; show Shift _ _ _ _
        exact Shift.sub [] rfl (SubE.cons rfl SLe.a (SubE.cons rfl SLe.a (SubE.cons rfl (SLe.im (ILe.int (by rw [hb1]; simp [b2n]))) SubE.a))) SubH.a
      ((repeat apply WP.seq); apply WP.lreg; refine nM rfl rfl ?_; refine nM rfl rfl ?_; refine ALK.n OpN.ix rfl ?_; (first | refine ALK.n (opn_load rfl (eB rfl) rfl) rfl ?_ | refine ALK.r OpR.ld rfl ?_); refine ALK.nil ?_; try show WP _ _ _ _ _ _)
      ((repeat apply WP.seq); refine WP.cond rfl (fun h => ?_) (fun h => ?_))
      · have hb1 : act p n j = true := by simpa using h
        ((repeat apply WP.seq); apply WP.lreg; refine nM rfl rfl ?_; refine ALK.n OpN.ar rfl ?_; refine nA rfl rfl ?_; refine ALK.nil ?_; try show WP _ _ _ _ _ _)
        ((repeat apply WP.seq); apply WP.lreg; refine nM rfl rfl ?_; refine ALK.n OpN.ar rfl ?_; refine nA rfl rfl ?_; refine ALK.nil ?_; try show WP _ _ _ _ _ _)
        show ∃ _, _ ∧ _ ∧ _
        exact ⟨j + 1, by omega, by omega, Shift.sub [] rfl (SubE.cons rfl SLe.a (SubE.cons rfl SLe.a (SubE.cons rfl (SLe.im (ILe.int (by show _ = ((allC p n + (rowC p n j + b2n (prt p n j) + b2n (act p n j)) : Nat) : Int); rw [hb1]; simp [b2n]; omega))) SubE.a))) SubH.a⟩
      · have hb1 : act p n j = false := by simpa using h
        (refine WP.skip ?_; show WP _ _ _ _ _ _)
        ((repeat apply WP.seq); apply WP.lreg; refine nM rfl rfl ?_; refine ALK.n OpN.ar rfl ?_; refine nA rfl rfl ?_; refine ALK.nil ?_; try show WP _ _ _ _ _ _)
        show ∃ _, _ ∧ _ ∧ _
        exact ⟨j + 1, by omega, by omega, Shift.sub [] rfl (SubE.cons rfl SLe.a (SubE.cons rfl SLe.a (SubE.cons rfl (SLe.im (ILe.int (by show _ = ((allC p n + (rowC p n j + b2n (prt p n j) + b2n (act p n j)) : Nat) : Int); rw [hb1]; simp [b2n]; omega))) SubE.a))) SubH.a⟩
    · ((repeat apply WP.seq); refine WP.exit ?_; show WP _ _ _ _ _ _)
      have hj2 : j = mS p := by simp at h; omega
      subst hj2
      ((repeat apply WP.seq); apply WP.lreg; refine nM rfl rfl ?_; refine ALK.n OpN.ar rfl ?_; refine nA rfl rfl ?_; refine ALK.nil ?_; try show WP _ _ _ _ _ _)
      show ∃ _, _ ∧ _ ∧ _
      exact ⟨n + 1, by omega, by omega, Shift.sub [] rfl SubE.a SubH.a⟩
  · ((repeat apply WP.seq); refine WP.exit ?_; show WP _ _ _ _ _ _)
    have hn2 : n = nT p := by simp at h; omega
    subst hn2
    ((repeat apply WP.seq); apply WP.lreg; refine ALK.n (opn_call playBegun_fn Evs.nil) rfl ?_; refine nM rfl rfl ?_; refine gM rfl rfl rfl rfl ?_; refine gM rfl rfl rfl rfl ?_; (first | refine ALK.g (fun hb => opn_cmp (eC rfl hb) (eC rfl hb) rfl) rfl rfl rfl ?_ | refine ALK.g (fun hb => opn_cmpB rfl (eC rfl hb) (eC rfl hb) rfl) rfl rfl rfl ?_); refine ALK.n (opn_pick_and (eB rfl) rfl (fun hb2 => by first | exact hb2 | (rw [hb, hb2]; rfl) | simp_all [gd]) rfl) rfl ?_; refine nM rfl rfl ?_; refine gM rfl rfl rfl rfl ?_; refine gM rfl rfl rfl rfl ?_; (first | refine ALK.g (fun hb => opn_cmp (eC rfl hb) (eC rfl hb) rfl) rfl rfl rfl ?_ | refine ALK.g (fun hb => opn_cmpB rfl (eC rfl hb) (eC rfl hb) rfl) rfl rfl rfl ?_); refine ALK.n (opn_pick_and (eB rfl) rfl (fun hb2 => by first | exact hb2 | (rw [hb, hb2]; rfl) | simp_all [gd]) rfl) rfl ?_; refine nA rfl rfl ?_; refine ALK.nil ?_; try show WP _ _ _ _ _ _)
    refine WP.ret ?_
    refine RetOk.one Try.results5 (ResV.tmp rfl (ImOf.im (ILe.bool ?_)))
    simp
end Go.Proofs.Ytjgmbgfcffnanac
